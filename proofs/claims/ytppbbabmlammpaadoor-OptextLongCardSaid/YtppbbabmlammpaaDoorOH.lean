import Derived.Test.YtppbbabmlammpaaDoorOG
set_option linter.unusedVariables false
set_option linter.unusedSimpArgs false
open Go Go.AM Go.Proofs
namespace Go.AM
open Dist
end Go.AM

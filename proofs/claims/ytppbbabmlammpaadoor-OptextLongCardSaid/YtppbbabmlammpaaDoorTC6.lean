import Derived.Test.YtppbbabmlammpaaDoorTC4
import Derived.Test.YtppbbabmlammpaaDoorTC5
import Derived.Test.YtppbbabmlammpaaDoorTD3
import Derived.Lib.Join
set_option linter.unusedVariables false
set_option linter.unusedSimpArgs false
open Go Go.AM Go.Proofs
namespace Go.AM
open Dist
set_option maxRecDepth 100000
end Go.AM

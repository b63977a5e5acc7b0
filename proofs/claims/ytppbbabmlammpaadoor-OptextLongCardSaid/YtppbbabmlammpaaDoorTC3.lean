import Derived.Test.YtppbbabmlammpaaDoorPC
import Derived.Test.YtppbbabmlammpaaDoorPT1
set_option linter.unusedVariables false
set_option linter.unusedSimpArgs false
open Go Go.AM Go.Proofs
namespace Go.AM
end Go.AM

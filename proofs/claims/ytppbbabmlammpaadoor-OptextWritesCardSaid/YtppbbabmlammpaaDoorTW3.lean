import Derived.Test.YtppbbabmlammpaaDoorPW
import Derived.Test.YtppbbabmlammpaaDoorTE2
set_option linter.unusedVariables false
set_option linter.unusedSimpArgs false
open Go Go.AM Go.Proofs
namespace Go.AM
def W1s (o : OnB) : Sums := (YB o).add 12 qWrite
theorem pW1s (o : OnB) : OkS P (W1s o) := (pYB o).add1 fine (pW0s stdOn) hDocWrite
end Go.AM

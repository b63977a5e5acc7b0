import Derived.Test.YtppbbabmlammpaaDoorTH3
import Derived.Test.YtppbbabmlammpaaDoorTC2
set_option linter.unusedVariables false
set_option linter.unusedSimpArgs false
open Go Go.AM Go.Proofs
namespace Go.AM
def V0 (o : OnB) : Sums := ((Y9 o).add 15 qRead).add 17 qRFrac
theorem pV0 (o : OnB) : OkS P (V0 o) := ((pY9 o).add1 fine (pZ7 pruneOn) hDocRead).add1 fine (pZ7 pruneOn) hDocRFrac
end Go.AM

import Derived.Test.YthjbfklheepfpaaGreatDoorTX
import Derived.KernelRfl
set_option linter.unusedVariables false
set_option linter.unusedSimpArgs false
set_option maxHeartbeats 4000000
open Go Go.AM Go.Proofs
namespace Go.AM
def G0 : Sums := X1
end Go.AM

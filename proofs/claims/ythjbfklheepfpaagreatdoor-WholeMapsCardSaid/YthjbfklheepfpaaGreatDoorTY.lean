import Derived.Test.YthjbfklheepfpaaGreatDoorOQ0
import Derived.Test.YthjbfklheepfpaaGreatDoorPXA
set_option linter.unusedVariables false
set_option linter.unusedSimpArgs false
set_option maxHeartbeats 4000000
open Go Go.AM Go.Proofs
namespace Go.AM
def Y0 (o : OnB) : Sums := { O6 with on := o }
theorem pY0 (o : OnB) : OkS P (Y0 o) := ⟨pO6.pure, pO6.spec, pO6.mono⟩
end Go.AM

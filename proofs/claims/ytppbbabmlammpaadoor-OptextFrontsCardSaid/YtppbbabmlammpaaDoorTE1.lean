import Derived.Test.YtppbbabmlammpaaDoorTE0
import Derived.Test.YtppbbabmlammpaaDoorRD0
set_option linter.unusedVariables false
set_option linter.unusedSimpArgs false
open Go Go.AM Go.Proofs
namespace Go.AM
open Dist
set_option maxRecDepth 100000
theorem lT {b : Bool} (h : b = true) : (AV.v (PV.one (SV.sb b))).valOf = some (.bool true) ∧ ([] : Heap) = [] := by subst h; exact ⟨rfl, rfl⟩
end Go.AM

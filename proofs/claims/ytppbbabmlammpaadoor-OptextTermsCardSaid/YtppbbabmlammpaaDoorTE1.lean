import Derived.Test.YtppbbabmlammpaaDoorTE0
import Derived.Test.YtppbbabmlammpaaDoorRD0
set_option linter.unusedVariables false
set_option linter.unusedSimpArgs false
open Go Go.AM Go.Proofs
namespace Go.AM
open Dist
set_option maxRecDepth 100000
theorem lT {b : Bool} (h : b = true) : (AV.v (PV.one (SV.sb b))).valOf = some (.bool true) ∧ ([] : Heap) = [] := by subst h; exact ⟨rfl, rfl⟩
theorem bfE {b : Bool} (h1 : b = true) (h2 : b = false) : False := by rw [h1] at h2; cases h2
theorem dtE {p : Prop} [Decidable p] (h1 : p) (h2 : decide p = false) : False := of_decide_eq_false h2 h1
theorem ntE {p : Prop} [Decidable p] (h1 : p) (h2 : (!decide p) = true) : False := by simp [h1] at h2
theorem nfE {p : Prop} [Decidable p] (h1 : ¬ p) (h2 : (!decide p) = false) : False := by simp [h1] at h2
theorem wrT_ok {a b c d e f g h i x y z : Int} (ho : opE a b c d e f g h i x y z = 0) : wrT a b c d e f g h i x y z = (mapT a b c d e f g h i x y z, 0) := by rw [wrT, if_pos ho]
end Go.AM

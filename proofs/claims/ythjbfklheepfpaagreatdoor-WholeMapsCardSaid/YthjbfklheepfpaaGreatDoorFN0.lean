import Derived.Test.YthjbfklheepfpaaGreatDoorCX
import Derived.Test.YthjbfklheepfpaaGreatDoorP3
set_option linter.unusedVariables false
set_option linter.unusedSimpArgs false
set_option maxHeartbeats 4000000
open Go Go.AM Go.Proofs
namespace Go.AM
theorem names_ok : (Tryz.prog.funcs.toList.all fun fn => !(fn.name == "runtime.NumGoroutine")) = true := by kernel_rfl
theorem fine : Fine Tryz.prog := ⟨fun f fn h => by
  have h1 := List.all_eq_true.1 names_ok fn (by
    obtain ⟨hi, e⟩ := Array.getElem?_eq_some_iff.1 h
    rw [← e]
    exact Array.getElem_mem_toList hi)
  simpa using h1, by kernel_rfl⟩
theorem pG0 : OkS P G0 := pX1
end Go.AM

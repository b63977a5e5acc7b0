/- WholeMaps: for every input the law answers true, and the input reads as it did; its card ties the listed variables (the library's table of powers of ten is read) to the program's text. No condition. -/
import Derived.Test.YthjbfklheepfpaaGreatDoorMWMw
import Derived.Test.YthjbfklheepfpaaGreatDoorMWMc
import Derived.Test.YthjbfklheepfpaaGreatDoorRows
import Derived.Test.YthjbfklheepfpaaGreatDoorCards
import Derived.Test.YthjbfklheepfpaaGreatDoorTie
import Derived.LaidMore
import Derived.Stop.Joined
import Derived.SevenTiedAt
set_option linter.unusedVariables false
set_option linter.unusedSimpArgs false
set_option maxHeartbeats 4000000
namespace Go.Proofs.YthjbfklheepfpaaGreatDoor.wholeMaps
open Go Go.AM Go.ChangeShapes Go.WideShapes Go.ChangeAt Go.RowKit
theorem row_holds : Rows.WholeMapsSaid :=
  OpenClaim.holds_of_wide 3 Tryz.f3 rfl rfl rfl rfl rfl rfl rfl ⟨rfl, rfl, rfl, rfl, rfl⟩ rfl rfl rfl rfl rfl (by kernel_rfl) Tryz.func3 closed
    (of_decide_eq_true (by kernel_rfl)) (by unfold Func.isWrapper; first | (rw [if_pos (by decide +kernel)]; kernel_rfl) | (rw [if_neg (by decide +kernel)]; exact ⟨rfl, rfl⟩))
    (fun os started H enc _ => lifted os started H enc)
theorem proved : Rows.WholeMapsCardSaid :=
  Claim7.holds_tied_plain_at .later [] [.data, .data, .data, .sentinel, .sentinel] true (true, "e94cd4aad685a32c2a677c76411ad0a3010100e971e2c9a4b557aedb593add04") true
    row_holds (fun _ h => by cases h) (by kernel_rfl) (fun _ h => by cases h) wholeMaps_row_tie rfl ⟨rfl, rfl⟩ (by kernel_rfl) rfl
    (fun f fn hf hfn => by
      obtain rfl : f = 3 := Option.some.inj ((show Tryz.prog.funcNamed "facet/facettop.WholeMaps" = some 3 by kernel_rfl).symm.trans hf) |>.symm
      obtain rfl : fn = Tryz.f3 := (Option.some.inj (Tryz.func3.symm.trans hfn)).symm
      exact ⟨by kernel_rfl, fun j t ht => by
        rw [Tryz.params3] at ht
        have hm : t ∈ [24, 4, 5, 26] := by
          have := Array.mem_of_getElem? ht
          simp at this ⊢
          exact this
        have hall : ([24, 4, 5, 26].all fun u => !Tryz.prog.wantsStandIn u) = true := by kernel_rfl
        exact (show Tryz.prog.wantsStandIn t = false by simpa using List.all_eq_true.1 hall t hm)⟩)
    (by kernel_rfl)
#print axioms proved
end Go.Proofs.YthjbfklheepfpaaGreatDoor.wholeMaps

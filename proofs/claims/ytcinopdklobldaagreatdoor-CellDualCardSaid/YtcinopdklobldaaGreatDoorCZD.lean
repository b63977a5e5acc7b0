/- CellDual: for every input the law answers true, and the input reads as it did; its card ties the listed variables (which are not read on this road) to the program's text. No condition. -/
import Derived.Test.YtcinopdklobldaaGreatDoorCZDw
import Derived.Test.YtcinopdklobldaaGreatDoorCZDc
import Derived.Test.YtcinopdklobldaaGreatDoorRows
import Derived.Test.YtcinopdklobldaaGreatDoorCards
import Derived.Test.YtcinopdklobldaaGreatDoorTie
import Derived.LaidMore
import Derived.Stop.Joined
import Derived.SevenTiedAt
namespace Go.Proofs.YtcinopdklobldaaGreatDoor.cellDual
open Go Go.AM Go.ChangeShapes Go.WideShapes Go.ChangeAt Go.RowKit
theorem row_holds : Rows.CellDualSaid :=
  OpenClaim.holds_of_wide 8 Tryz.f8 rfl rfl rfl rfl rfl rfl rfl ⟨rfl, rfl, rfl, rfl, rfl⟩ rfl rfl rfl rfl rfl (by kernel_rfl) Tryz.func8 closed
    (of_decide_eq_true (by kernel_rfl)) (by unfold Func.isWrapper; first | (rw [if_pos (by decide +kernel)]; kernel_rfl) | (rw [if_neg (by decide +kernel)]; exact ⟨rfl, rfl⟩))
    (fun os started H enc _ => lifted os started H enc)
theorem proved : Rows.CellDualCardSaid :=
  Claim7.holds_tied_plain_at .later [] [.data, .data, .data, .data, .data, .data, .data] true (true, "6f77d121f63fddebb7a07aa89324b64622a08d3e1abc3c6973bda436b7808a0a") true
    row_holds (fun _ h => by cases h) (by kernel_rfl) (fun _ h => by cases h) cellDual_row_tie rfl ⟨rfl, rfl⟩ (by kernel_rfl) rfl
    (fun f fn hf hfn => by
      obtain rfl : f = 8 := Option.some.inj ((show Tryz.prog.funcNamed "facet/facetlaw11.CellDual" = some 8 by kernel_rfl).symm.trans hf) |>.symm
      obtain rfl : fn = Tryz.f8 := (Option.some.inj (Tryz.func8.symm.trans hfn)).symm
      exact ⟨by kernel_rfl, fun j t ht => by
        rw [Tryz.params8] at ht
        have hm : t ∈ [23, 25] := by
          have := Array.mem_of_getElem? ht
          simp at this ⊢
          exact this
        have hall : ([23, 25].all fun u => !Tryz.prog.wantsStandIn u) = true := by kernel_rfl
        exact (show Tryz.prog.wantsStandIn t = false by simpa using List.all_eq_true.1 hall t hm)⟩)
    (by kernel_rfl)
#print axioms proved
end Go.Proofs.YtcinopdklobldaaGreatDoor.cellDual

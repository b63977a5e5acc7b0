/- CellKeeps: for every input the law answers true, and the input reads as it did; its card ties the listed variables (which are not read on this road) to the program's text. No condition. -/
import Derived.Test.YtagcmdpmmmbedaaGreatDoorKFKw
import Derived.Test.YtagcmdpmmmbedaaGreatDoorKFKc
import Derived.Test.YtagcmdpmmmbedaaGreatDoorRows
import Derived.Test.YtagcmdpmmmbedaaGreatDoorCards
import Derived.Test.YtagcmdpmmmbedaaGreatDoorTie
import Derived.LaidMore
import Derived.Stop.Joined
import Derived.SevenTiedAt
namespace Go.Proofs.YtagcmdpmmmbedaaGreatDoor.cellKeeps
open Go Go.AM Go.ChangeShapes Go.WideShapes Go.ChangeAt Go.RowKit
theorem row_holds : Rows.CellKeepsSaid :=
  OpenClaim.holds_of_wide 3 Tryz.f3 rfl rfl rfl rfl rfl rfl rfl ⟨rfl, rfl, rfl, rfl, rfl⟩ rfl rfl rfl rfl rfl (by kernel_rfl) Tryz.func3 closed
    (of_decide_eq_true (by kernel_rfl)) (by unfold Func.isWrapper; first | (rw [if_pos (by decide +kernel)]; kernel_rfl) | (rw [if_neg (by decide +kernel)]; exact ⟨rfl, rfl⟩))
    (fun os started H enc _ => lifted os started H enc)
theorem proved : Rows.CellKeepsCardSaid :=
  Claim7.holds_tied_plain_at .later [] [.data, .data, .data, .data, .data, .data, .data] true (true, "0bb2aa7c48450676e2818c7172082448a42dc9a4af937b45aaf26e27c2f40840") true
    row_holds (fun _ h => by cases h) (by kernel_rfl) (fun _ h => by cases h) cellKeeps_row_tie rfl ⟨rfl, rfl⟩ (by kernel_rfl) rfl
    (fun f fn hf hfn => by
      obtain rfl : f = 3 := Option.some.inj ((show Tryz.prog.funcNamed "facet/facetlaw11.CellKeeps" = some 3 by kernel_rfl).symm.trans hf) |>.symm
      obtain rfl : fn = Tryz.f3 := (Option.some.inj (Tryz.func3.symm.trans hfn)).symm
      exact ⟨by kernel_rfl, fun j t ht => by
        rw [Tryz.params3] at ht
        have hm : t ∈ [23, 24] := by
          have := Array.mem_of_getElem? ht
          simp at this ⊢
          exact this
        have hall : ([23, 24].all fun u => !Tryz.prog.wantsStandIn u) = true := by kernel_rfl
        exact (show Tryz.prog.wantsStandIn t = false by simpa using List.all_eq_true.1 hall t hm)⟩)
    (by kernel_rfl)
#print axioms proved
end Go.Proofs.YtagcmdpmmmbedaaGreatDoor.cellKeeps

/- OptextFronts: for every input the law answers true, and the input reads as it did; its card ties the listed variables (the library's table of powers of ten is read) to the program's text. No condition. -/
import Derived.Test.YtppbbabmlammpaaDoorTFTw
import Derived.Test.YtppbbabmlammpaaDoorTFTc
import Derived.Test.YtppbbabmlammpaaDoorRows
import Derived.Test.YtppbbabmlammpaaDoorCards
import Derived.Test.YtppbbabmlammpaaDoorTie
import Derived.LaidMore
import Derived.Stop.Joined
import Derived.SevenTiedAt
set_option linter.unusedVariables false
set_option linter.unusedSimpArgs false
namespace Go.Proofs.YtppbbabmlammpaaDoor.optextFronts
open Go Go.AM Go.ChangeShapes Go.WideShapes Go.ChangeAt Go.RowKit
theorem row_holds : Rows.OptextFrontsSaid :=
  OpenClaim.holds_of_wide 8 Tryd.f8 rfl rfl rfl rfl rfl rfl rfl ⟨rfl, rfl, rfl, rfl, rfl⟩ rfl rfl rfl rfl rfl (by kernel_rfl) Tryd.func8 closed
    (of_decide_eq_true (by kernel_rfl)) (by unfold Func.isWrapper; first | (rw [if_pos (by decide +kernel)]; kernel_rfl) | (rw [if_neg (by decide +kernel)]; exact ⟨rfl, rfl⟩))
    (fun os started H enc _ => lifted os started H enc)
theorem proved : Rows.OptextFrontsCardSaid :=
  Claim7.holds_tied_plain_at .later [] [.data, .data, .data, .sentinel, .sentinel] true (true, "8c15bceb3fca656aa6d55eb4fec914d91db9c7b34426340313c5a10becd786bf") true
    row_holds (fun _ h => by cases h) (by kernel_rfl) (fun _ h => by cases h) optextFronts_row_tie rfl ⟨rfl, rfl⟩ (by kernel_rfl) rfl
    (fun f fn hf hfn => by
      obtain rfl : f = 8 := Option.some.inj ((show Tryd.prog.funcNamed "facet/facetlaw04.OptextFronts" = some 8 by kernel_rfl).symm.trans hf) |>.symm
      obtain rfl : fn = Tryd.f8 := (Option.some.inj (Tryd.func8.symm.trans hfn)).symm
      exact ⟨by kernel_rfl, fun j t ht => by
        rw [Tryd.params8] at ht
        have hm : t ∈ [27, 5] := by
          have := Array.mem_of_getElem? ht
          simp at this ⊢
          exact this
        have hall : ([27, 5].all fun u => !Tryd.prog.wantsStandIn u) = true := by kernel_rfl
        exact (show Tryd.prog.wantsStandIn t = false by simpa using List.all_eq_true.1 hall t hm)⟩)
    (by kernel_rfl)
#print axioms proved
end Go.Proofs.YtppbbabmlammpaaDoor.optextFronts

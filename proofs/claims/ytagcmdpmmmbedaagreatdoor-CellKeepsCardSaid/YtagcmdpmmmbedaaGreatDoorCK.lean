import Derived.Test.YtagcmdpmmmbedaaGreatDoorCJ
open Go Go.AM Go.Proofs
namespace Go.AM
set_option maxRecDepth 100000
theorem det_same (a b c d e f : Int) : (if checkC a b c d e f = 0 then detG a b c d e f else 0) = if checkC a b c d e f = 0 then detR a b c d e f else 0 := by
  by_cases h : checkC a b c d e f = 0
  · rw [if_pos h, if_pos h]
    obtain ⟨ha, hb, hc, hd, he, hf, _⟩ := check_spec h
    rw [detR_big ha.2 hb.2 hc.2 hd he hf, (detG_big ha.2 hb.2 hc.2 hd he hf).1]
  · rw [if_neg h, if_neg h]
theorem no_of {x y : Int} {p : Prop} (h : x = y) (hd : (!decide (x = y)) = true) : p := by simp [h] at hd
end Go.AM

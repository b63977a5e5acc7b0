import Derived.Test.YtcinopdklobldaaGreatDoorCJ
open Go Go.AM Go.Proofs
namespace Go.AM
set_option maxRecDepth 100000
theorem nfc3 (a b c d e f u1 u2 u3 v1 v2 v3 : Int) (K : KV) : call P D6 noAnn 3000 Tryz.f3 [M6 a b c d e f, V u1 u2 u3, V v1 v2 v3] [] K = (((!decide (checkC a b c d e f = checkR a b c d e f)) = true → K (AV.v (PV.one (SV.cb false))) []) ∧ ((!decide (checkC a b c d e f = checkR a b c d e f)) = false → ((!decide ((if checkC a b c d e f = (0 : Int) then detG a b c d e f else (0 : Int)) = if checkC a b c d e f = (0 : Int) then detR a b c d e f else (0 : Int))) = true → K (AV.v (PV.one (SV.cb false))) []) ∧ ((!decide ((if checkC a b c d e f = (0 : Int) then detG a b c d e f else (0 : Int)) = if checkC a b c d e f = (0 : Int) then detR a b c d e f else (0 : Int))) = false → ((!decide (checkC a b c d e f = checkC a b c d e f)) = true → K (AV.v (PV.one (SV.cb false))) []) ∧ ((!decide (checkC a b c d e f = checkC a b c d e f)) = false → (decide ((if dotE (checkC a b c d e f) (over3 u1 u2 u3) (over3 v1 v2 v3) = (0 : Int) then prod9 a f e f b d e d c u1 u2 u3 v1 v2 v3 else (0 : Int)) = if dotE (checkC a b c d e f) (over3 u1 u2 u3) (over3 v1 v2 v3) = (0 : Int) then prod9 a f e f b d e d c u1 u2 u3 v1 v2 v3 else (0 : Int)) = true → K (AV.v (PV.one (SV.sb (decide (dotE (checkC a b c d e f) (over3 u1 u2 u3) (over3 v1 v2 v3) = dotE (checkC a b c d e f) (over3 u1 u2 u3) (over3 v1 v2 v3)))))) []) ∧ (decide ((if dotE (checkC a b c d e f) (over3 u1 u2 u3) (over3 v1 v2 v3) = (0 : Int) then prod9 a f e f b d e d c u1 u2 u3 v1 v2 v3 else (0 : Int)) = if dotE (checkC a b c d e f) (over3 u1 u2 u3) (over3 v1 v2 v3) = (0 : Int) then prod9 a f e f b d e d c u1 u2 u3 v1 v2 v3 else (0 : Int)) = false → K (AV.v (PV.one (SV.cb false))) []))))) := by kernel_rfl
theorem det_same (a b c d e f : Int) : (if checkC a b c d e f = 0 then detG a b c d e f else 0) = if checkC a b c d e f = 0 then detR a b c d e f else 0 := by
  by_cases h : checkC a b c d e f = 0
  · rw [if_pos h, if_pos h]
    obtain ⟨ha, hb, hc, hd, he, hf, _⟩ := check_spec h
    rw [detR_big ha.2 hb.2 hc.2 hd he hf, (detG_big ha.2 hb.2 hc.2 hd he hf).1]
  · rw [if_neg h, if_neg h]
theorem no_of {x y : Int} {p : Prop} (h : x = y) (hd : (!decide (x = y)) = true) : p := by simp [h] at hd
theorem lawChecks (a b c d e f u1 u2 u3 v1 v2 v3 : Int) : call P D6 noAnn 3000 Tryz.f3 [M6 a b c d e f, V u1 u2 u3, V v1 v2 v3] [] (fun v h => v.valOf = some (.bool true) ∧ h = []) := by
  rw [nfc3]
  refine ⟨fun hx => no_of (checkR_eq a b c d e f).symm hx, fun _ => ⟨fun hx => no_of (det_same a b c d e f) hx, fun _ => ⟨fun hx => no_of rfl hx, fun _ => ⟨fun _ => ?_, fun hx => absurd hx (by simp)⟩⟩⟩⟩
  exact ⟨by rw [decide_eq_true rfl]; rfl, rfl⟩
end Go.AM

import Derived.Test.YtagcmdpmmmbedaaGreatDoorKC0
import Derived.Test.YtagcmdpmmmbedaaGreatDoorCB9
/- Plain: a map that keeps the products of its columns keeps all products. -/
open Go Go.AM Go.Proofs
namespace Go.AM
open Dist
theorem mapsL_zero : ∀ {l : List OpI} {w : Int}, (w = 0 ∨ w = 4) → mapsL l w = 0 → w = 0 ∧ ∀ o ∈ l, oE o = 0
  | [], w, _, h => ⟨h, fun o ho => by simp at ho⟩
  | o :: l, w, hw, h => by
    have hone : oM oneO o = oE o := mulE_one ..
    simp only [mapsL, hone] at h
    split at h
    · cases h
    · rename_i h3
      by_cases h4 : oE o = 4
      · rw [if_pos h4] at h
        have := (mapsL_zero (.inr rfl) h).1
        cases this
      · rw [if_neg h4] at h
        obtain ⟨h1, h2⟩ := mapsL_zero hw h
        refine ⟨h1, fun q hq => ?_⟩
        rcases List.mem_cons.1 hq with rfl | hq
        · unfold oE opE at h3 h4 ⊢
          split
          · rename_i hh; rw [if_pos hh] at h3; exact absurd rfl h3
          · rename_i hh
            rw [if_neg hh] at h3 h4
            split
            · rename_i hh2; rw [if_pos hh2] at h3; exact absurd rfl h3
            · rename_i hh2
              rw [if_neg hh2] at h3 h4
              split
              · rename_i hh3; rw [if_pos hh3] at h4; exact absurd rfl h4
              · rfl
        · exact h2 q hq
theorem checkP_forms {xs : List OpI} (h : checkP xs = 0) : ∀ o ∈ xs, oE o = 0 := by
  unfold checkP at h
  split at h
  · rename_i h1
    exact absurd h h1
  · rename_i h1
    have h2 : mapsE xs = 0 := by simpa using h1
    unfold mapsE at h2
    split at h2
    · cases h2
    · exact (mapsL_zero (.inl rfl) h2).2
theorem form_ov {o : OpI} (h : oE o = 0) : ovO o = false := (opE_zero.1 h).2.1
theorem gt_mem {xs : List OpI} {i : Nat} (h : i < xs.length) : gt xs i ∈ xs := by
  unfold gt
  rw [List.getD_eq_getElem?_getD, List.getElem?_eq_getElem h]
  exact List.getElem_mem h
theorem tz_id {o : OpI} (h : ovO o = false) (n : Int) : tz o n = n := by unfold tz zb; rw [h]; rfl
theorem within_iff {m x y z : Int} : within m x y z = true ↔ (-m ≤ x ∧ x ≤ m) ∧ (-m ≤ y ∧ y ≤ m) ∧ (-m ≤ z ∧ z ≤ m) := by
  unfold within
  simp only [Bool.not_eq_true', Bool.or_eq_false_iff, decide_eq_false_iff_not]
  omega
theorem beyondF {x m : Int} (hm : 0 ≤ m ∧ m ≤ 4000000000) (h : -m ≤ x ∧ x ≤ m) : beyond x m = false := by
  unfold beyond
  rw [wr_id (by omega) (by omega)]
  simp only [Bool.or_eq_false_iff, decide_eq_false_iff_not]
  omega
theorem ap_false {o : OpI} {u v w : Int} (h : ovO o = false) (hw : within 40 u v w = true) : apO o u v w = false := by
  obtain ⟨h1, h2, h3⟩ := within_iff.1 hw
  unfold apO applE far3
  rw [show over9 o.a o.b o.c o.d o.e o.f o.g o.h o.i = false from h, beyondF (by omega) (by omega), beyondF (by omega) (by omega), beyondF (by omega) (by omega)]
  rfl
theorem over3_false {u v w : Int} (hw : within 1000 u v w = true) : over3 u v w = false := by
  obtain ⟨h1, h2, h3⟩ := within_iff.1 hw
  unfold over3
  rw [beyondF (by omega) (by omega), beyondF (by omega) (by omega), beyondF (by omega) (by omega)]
  rfl
theorem within_wide {u v w : Int} (hw : within 40 u v w = true) : within 1000 u v w = true := by
  obtain ⟨h1, h2, h3⟩ := within_iff.1 hw
  exact within_iff.2 ⟨by omega, by omega, by omega⟩
theorem row3_id {a b c u v w : Int} (ha : B1 a) (hb : B1 b) (hc : B1 c) (hw : within 40 u v w = true) : row3 a b c u v w = a * u + b * v + c * w := by
  obtain ⟨h1, h2, h3⟩ := within_iff.1 hw
  have e1 := mul_bd ha h1
  have e2 := mul_bd hb h2
  have e3 := mul_bd hc h3
  unfold row3
  rw [wr_id (n := a * u) (by omega) (by omega), wr_id (n := b * v) (by omega) (by omega), wr_id (n := c * w) (by omega) (by omega), wr_id (n := a * u + b * v) (by omega) (by omega), wr_id (by omega) (by omega)]
theorem bil_cols (a b c d e f p q r s t u v w k u1 u2 u3 v1 v2 v3 : Int) :
    bil a b c d e f (p * u1 + q * u2 + r * u3) (s * u1 + t * u2 + u * u3) (v * u1 + w * u2 + k * u3) (p * v1 + q * v2 + r * v3) (s * v1 + t * v2 + u * v3) (v * v1 + w * v2 + k * v3) =
      u1 * v1 * bil a b c d e f p s v p s v + u1 * v2 * bil a b c d e f p s v q t w + u1 * v3 * bil a b c d e f p s v r u k +
      (u2 * v1 * bil a b c d e f q t w p s v + u2 * v2 * bil a b c d e f q t w q t w + u2 * v3 * bil a b c d e f q t w r u k) +
      (u3 * v1 * bil a b c d e f r u k p s v + u3 * v2 * bil a b c d e f r u k q t w + u3 * v3 * bil a b c d e f r u k r u k) := by
  unfold bil; grind
end Go.AM

import Derived.Test.YtppbbabmlammpaaDoorOG
open Go Go.AM Go.Proofs
namespace Go.AM
open Dist
/-- a map's own error -/
def opE (a b c d e f g h i x y z : Int) : Int := if tbad x y z then 3 else if matE a b c d e f g h i = 3 then 3 else if matE a b c d e f g h i = 4 then 4 else 0
theorem matE_cases (a b c d e f g h i : Int) : (matE a b c d e f g h i = 4 ∧ over9 a b c d e f g h i = true) ∨ (matE a b c d e f g h i = 3 ∧ over9 a b c d e f g h i = false) ∨
    (matE a b c d e f g h i = 0 ∧ over9 a b c d e f g h i = false ∧ (detI a b c d e f g h i = 1 ∨ detI a b c d e f g h i = -1)) := by
  unfold matE
  cases ho : over9 a b c d e f g h i with
  | true => exact .inl ⟨by simp, rfl⟩
  | false =>
    rw [det9_id ho]
    right
    by_cases h1 : detI a b c d e f g h i = 1
    · exact .inr ⟨by simp [h1], rfl, .inl h1⟩
    · by_cases h2 : detI a b c d e f g h i = -1
      · exact .inr ⟨by simp [h2], rfl, .inr h2⟩
      · exact .inl ⟨by simp [h1, h2], rfl⟩
theorem matE_of {a b c d e f g h i : Int} (ho : over9 a b c d e f g h i = false) (hd : detI a b c d e f g h i = 1 ∨ detI a b c d e f g h i = -1) : matE a b c d e f g h i = 0 := by
  unfold matE
  rw [ho, det9_id ho]
  rcases hd with hd | hd <;> simp [hd]
theorem tbad_false {x y z : Int} : tbad x y z = false ↔ (0 ≤ x ∧ x < 24) ∧ (0 ≤ y ∧ y < 24) ∧ (0 ≤ z ∧ z < 24) := by
  unfold tbad
  simp only [Bool.or_eq_false_iff, decide_eq_false_iff_not]
  omega
theorem opE_zero {a b c d e f g h i x y z : Int} : opE a b c d e f g h i x y z = 0 ↔ tbad x y z = false ∧ over9 a b c d e f g h i = false ∧ (detI a b c d e f g h i = 1 ∨ detI a b c d e f g h i = -1) := by
  unfold opE
  cases ht : tbad x y z with
  | true => simp
  | false =>
    rcases matE_cases a b c d e f g h i with ⟨h1, h2⟩ | ⟨h1, h2⟩ | ⟨h1, h2, h3⟩
    · simp [h1, h2]
    · refine ⟨fun h => by simp [h1] at h, fun h => ?_⟩
      have := matE_of h.2.1 h.2.2
      rw [h1] at this
      cases this
    · simp [h1, h2, h3]
theorem mulE_zero {a b c d e f g h i x y z p q r s t u v w k l m n : Int} : mulE a b c d e f g h i x y z p q r s t u v w k l m n = 0 ↔
    opE a b c d e f g h i x y z = 0 ∧ opE p q r s t u v w k l m n = 0 ∧ mulO a b c d e f g h i x y z p q r s t u v w k l m n = false := by
  unfold mulE opE
  cases tbad x y z <;> cases tbad l m n <;> rcases matE_cases a b c d e f g h i with ⟨h1, _⟩ | ⟨h1, _⟩ | ⟨h1, _⟩ <;> rcases matE_cases p q r s t u v w k with ⟨h2, _⟩ | ⟨h2, _⟩ | ⟨h2, _⟩ <;>
    cases mulO a b c d e f g h i x y z p q r s t u v w k l m n <;> simp [h1, h2]
/-- a product that is within its bounds is in form -/
theorem mul_form {a b c d e f g h i x y z p q r s t u v w k l m n : Int} (hm : mulE a b c d e f g h i x y z p q r s t u v w k l m n = 0) :
    opE (pr a b c p s v) (pr a b c q t w) (pr a b c r u k) (pr d e f p s v) (pr d e f q t w) (pr d e f r u k) (pr g h i p s v) (pr g h i q t w) (pr g h i r u k) (tr a b c l m n x) (tr d e f l m n y) (tr g h i l m n z) = 0 := by
  obtain ⟨h1, h2, h3⟩ := mulE_zero.1 hm
  obtain ⟨a1, a2, a3⟩ := opE_zero.1 h1
  obtain ⟨b1, b2, b3⟩ := opE_zero.1 h2
  obtain ⟨ha, hb, hc, hd, he, hf, hg, hh, hi⟩ := over9_false.1 a2
  obtain ⟨hp, hq, hr, hs, ht, hu, hv, hw, hk⟩ := over9_false.1 b2
  obtain ⟨hx, hy, hz⟩ := tbad_false.1 a1
  obtain ⟨hl, hm', hn⟩ := tbad_false.1 b1
  refine opE_zero.2 ⟨tbad_false.2 ?_, h3, ?_⟩
  · rw [tr_id ha hb hc hl hm' hn hx, tr_id hd he hf hl hm' hn hy, tr_id hg hh hi hl hm' hn hz]
    omega
  · rw [pr_id ha hb hc hp hs hv, pr_id ha hb hc hq ht hw, pr_id ha hb hc hr hu hk, pr_id hd he hf hp hs hv, pr_id hd he hf hq ht hw, pr_id hd he hf hr hu hk, pr_id hg hh hi hp hs hv, pr_id hg hh hi hq ht hw, pr_id hg hh hi hr hu hk, detI_mul]
    rcases a3 with a3 | a3 <;> rcases b3 with b3 | b3 <;> rw [a3, b3] <;> decide
theorem pr_one (p : Int) {s v : Int} (hp : B1 p) (hs : B1 s) (hv : B1 v) : pr 1 0 0 p s v = p ∧ pr 0 1 0 s p v = p ∧ pr 0 0 1 s v p = p := by
  have h1 : B1 1 := by unfold B1; omega
  have h0 : B1 0 := by unfold B1; omega
  rw [pr_id h1 h0 h0 hp hs hv, pr_id h0 h1 h0 hs hp hv, pr_id h0 h0 h1 hs hv hp]
  omega
/-- behind the identity a map has its own error -/
theorem mulE_one (p q r s t u v w k l m n : Int) : mulE 1 0 0 0 1 0 0 0 1 0 0 0 p q r s t u v w k l m n = opE p q r s t u v w k l m n := by
  have e1 : matE 1 0 0 0 1 0 0 0 1 = 0 := by decide
  have e2 : tbad 0 0 0 = false := by decide
  unfold mulE opE
  rw [e1, e2]
  rcases matE_cases p q r s t u v w k with ⟨h2, _⟩ | ⟨h2, _⟩ | ⟨h2, h3, _⟩
  · simp [h2]
  · simp [h2]
  · obtain ⟨hp, hq, hr, hs, ht, hu, hv, hw, hk⟩ := over9_false.1 h3
    have : mulO 1 0 0 0 1 0 0 0 1 0 0 0 p q r s t u v w k l m n = false := by
      unfold mulO
      rw [(pr_one p hp hs hv).1, (pr_one q hq ht hw).1, (pr_one r hr hu hk).1, (pr_one s hs hp hv).2.1, (pr_one t ht hq hw).2.1, (pr_one u hu hr hk).2.1, (pr_one v hv hp hs).2.2, (pr_one w hw hq ht).2.2, (pr_one k hk hr hu).2.2]
      exact h3
    simp [h2, this]
end Go.AM

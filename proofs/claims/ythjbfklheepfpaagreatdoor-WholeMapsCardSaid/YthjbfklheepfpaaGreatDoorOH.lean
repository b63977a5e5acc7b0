import Derived.Test.YthjbfklheepfpaaGreatDoorOG
set_option linter.unusedVariables false
set_option linter.unusedSimpArgs false
set_option maxHeartbeats 4000000
open Go Go.AM Go.Proofs
namespace Go.AM
open Dist
def opE (a b c d e f g h i x y z : Int) : Int := if tbad x y z then 3 else if matE a b c d e f g h i = 3 then 3 else if matE a b c d e f g h i = 4 then 4 else 0
theorem matE_cases (a b c d e f g h i : Int) : (matE a b c d e f g h i = 4 ∧ over9 a b c d e f g h i = true) ∨ (matE a b c d e f g h i = 3 ∧ over9 a b c d e f g h i = false) ∨
    (matE a b c d e f g h i = 0 ∧ over9 a b c d e f g h i = false ∧ (detI a b c d e f g h i = 1 ∨ detI a b c d e f g h i = -1)) := by
  unfold matE
  cases ho : over9 a b c d e f g h i with
  | true => exact .inl ⟨by simp, rfl⟩
  | false =>
    rw [det9_id ho]
    right
    by_cases h1 : detI a b c d e f g h i = 1
    · exact .inr ⟨by simp [h1], rfl, .inl h1⟩
    · by_cases h2 : detI a b c d e f g h i = -1
      · exact .inr ⟨by simp [h2], rfl, .inr h2⟩
      · exact .inl ⟨by simp [h1, h2], rfl⟩
theorem matE_of {a b c d e f g h i : Int} (ho : over9 a b c d e f g h i = false) (hd : detI a b c d e f g h i = 1 ∨ detI a b c d e f g h i = -1) : matE a b c d e f g h i = 0 := by
  unfold matE
  rw [ho, det9_id ho]
  rcases hd with hd | hd <;> simp [hd]
theorem tbad_false {x y z : Int} : tbad x y z = false ↔ (0 ≤ x ∧ x < 24) ∧ (0 ≤ y ∧ y < 24) ∧ (0 ≤ z ∧ z < 24) := by
  unfold tbad
  simp only [Bool.or_eq_false_iff, decide_eq_false_iff_not]
  omega
theorem opE_zero {a b c d e f g h i x y z : Int} : opE a b c d e f g h i x y z = 0 ↔ tbad x y z = false ∧ over9 a b c d e f g h i = false ∧ (detI a b c d e f g h i = 1 ∨ detI a b c d e f g h i = -1) := by
  unfold opE
  cases ht : tbad x y z with
  | true => simp
  | false =>
    rcases matE_cases a b c d e f g h i with ⟨h1, h2⟩ | ⟨h1, h2⟩ | ⟨h1, h2, h3⟩
    · simp [h1, h2]
    · refine ⟨fun h => by simp [h1] at h, fun h => ?_⟩
      have := matE_of h.2.1 h.2.2
      rw [h1] at this
      cases this
    · simp [h1, h2, h3]
theorem mulE_zero {a b c d e f g h i x y z p q r s t u v w k l m n : Int} : mulE a b c d e f g h i x y z p q r s t u v w k l m n = 0 ↔
    opE a b c d e f g h i x y z = 0 ∧ opE p q r s t u v w k l m n = 0 ∧ mulO a b c d e f g h i x y z p q r s t u v w k l m n = false := by
  unfold mulE opE
  cases tbad x y z <;> cases tbad l m n <;> rcases matE_cases a b c d e f g h i with ⟨h1, _⟩ | ⟨h1, _⟩ | ⟨h1, _⟩ <;> rcases matE_cases p q r s t u v w k with ⟨h2, _⟩ | ⟨h2, _⟩ | ⟨h2, _⟩ <;>
    cases mulO a b c d e f g h i x y z p q r s t u v w k l m n <;> simp [h1, h2]
end Go.AM

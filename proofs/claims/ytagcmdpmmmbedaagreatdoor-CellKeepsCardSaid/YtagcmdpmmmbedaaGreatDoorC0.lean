import Derived.Test.YtagcmdpmmmbedaaGreatDoorW0
/- Metrics: the law of Sylvester in three dimensions, Cauchy and Schwarz. -/
namespace Go.Dist
open Go
/-- the product of two vectors in a metric (aa, bb, cc, bc, ac, ab) -/
def bil (a b c d e f x y z u v w : Int) : Int := x * a * u + x * f * v + x * e * w + y * f * u + y * b * v + y * d * w + z * e * u + z * d * v + z * c * w
def detM (a b c d e f : Int) : Int := a * b * c + 2 * d * e * f - a * d * d - b * e * e - c * f * f
theorem bil_comm (a b c d e f x y z u v w : Int) : bil a b c d e f x y z u v w = bil a b c d e f u v w x y z := by unfold bil; grind
theorem bil_sum (a b c d e f x y z u v w : Int) : bil a b c d e f (x + u) (y + v) (z + w) (x + u) (y + v) (z + w) = bil a b c d e f x y z x y z + bil a b c d e f u v w u v w + 2 * bil a b c d e f x y z u v w := by unfold bil; grind
theorem bil_comb (a b c d e f x y z u v w s t : Int) : bil a b c d e f (s * x + t * u) (s * y + t * v) (s * z + t * w) (s * x + t * u) (s * y + t * v) (s * z + t * w) = s * s * bil a b c d e f x y z x y z + 2 * s * t * bil a b c d e f x y z u v w + t * t * bil a b c d e f u v w u v w := by unfold bil; grind
theorem sylvester_id (a b c d e f x y z : Int) : (a * b - f * f) * a * bil a b c d e f x y z x y z =
    (a * b - f * f) * ((a * x + f * y + e * z) * (a * x + f * y + e * z)) + ((a * b - f * f) * y + (a * d - f * e) * z) * ((a * b - f * f) * y + (a * d - f * e) * z) + a * detM a b c d e f * (z * z) := by unfold bil detM; grind
section
variable {a b c d e f : Int} (ha : 0 < a) (h2 : 0 < a * b - f * f) (h3 : 0 < detM a b c d e f)
include ha h2 h3
theorem bil_nn (x y z : Int) : 0 ≤ bil a b c d e f x y z x y z := by
  have e1 := sylvester_id a b c d e f x y z
  have p1 := Int.mul_nonneg (Int.le_of_lt h2) (sq_nn (a * x + f * y + e * z))
  have p2 := sq_nn ((a * b - f * f) * y + (a * d - f * e) * z)
  have p3 := Int.mul_nonneg (Int.le_of_lt (Int.mul_pos ha h3)) (sq_nn z)
  have pos := Int.mul_pos h2 ha
  by_cases h : bil a b c d e f x y z x y z < 0
  · exfalso
    have h5 := Int.mul_pos pos (show 0 < -bil a b c d e f x y z x y z by omega)
    rw [Int.mul_neg] at h5
    omega
  · omega
theorem bil_zero {x y z : Int} (h : bil a b c d e f x y z x y z = 0) : x = 0 ∧ y = 0 ∧ z = 0 := by
  have e1 := sylvester_id a b c d e f x y z
  rw [h, Int.mul_zero] at e1
  have p1 := Int.mul_nonneg (Int.le_of_lt h2) (sq_nn (a * x + f * y + e * z))
  have p2 := sq_nn ((a * b - f * f) * y + (a * d - f * e) * z)
  have p3 := Int.mul_nonneg (Int.le_of_lt (Int.mul_pos ha h3)) (sq_nn z)
  have hz : z = 0 := by
    rcases Int.mul_eq_zero.1 (show a * detM a b c d e f * (z * z) = 0 by omega) with h6 | h6
    · have := Int.mul_pos ha h3; omega
    · exact sq_zero h6
  have hq := sq_zero (show ((a * b - f * f) * y + (a * d - f * e) * z) * ((a * b - f * f) * y + (a * d - f * e) * z) = 0 by omega)
  rw [hz, Int.mul_zero, Int.add_zero] at hq
  have hy : y = 0 := by
    rcases Int.mul_eq_zero.1 hq with h6 | h6
    · omega
    · exact h6
  have hp : a * x + f * y + e * z = 0 := by
    rcases Int.mul_eq_zero.1 (show (a * b - f * f) * ((a * x + f * y + e * z) * (a * x + f * y + e * z)) = 0 by omega) with h6 | h6
    · omega
    · exact sq_zero h6
  rw [hz, hy, Int.mul_zero, Int.mul_zero, Int.add_zero, Int.add_zero] at hp
  have hx : x = 0 := by
    rcases Int.mul_eq_zero.1 hp with h6 | h6
    · omega
    · exact h6
  exact ⟨hx, hy, hz⟩
theorem bil_pos {x y z : Int} (h : ¬ (x = 0 ∧ y = 0 ∧ z = 0)) : 0 < bil a b c d e f x y z x y z := by
  have h1 := bil_nn ha h2 h3 x y z
  have h4 : bil a b c d e f x y z x y z ≠ 0 := fun e => h (bil_zero ha h2 h3 e)
  omega
/-- Cauchy and Schwarz -/
theorem cauchy (x y z u v w : Int) : bil a b c d e f x y z u v w * bil a b c d e f x y z u v w ≤ bil a b c d e f x y z x y z * bil a b c d e f u v w u v w := by
  by_cases hv : u = 0 ∧ v = 0 ∧ w = 0
  · obtain ⟨rfl, rfl, rfl⟩ := hv
    have e1 : bil a b c d e f x y z 0 0 0 = 0 := by unfold bil; simp
    have e2 : bil a b c d e f 0 0 0 0 0 0 = 0 := by unfold bil; simp
    rw [e1, e2]
    simp
  · have hp := bil_pos ha h2 h3 hv
    have hn := bil_nn ha h2 h3 (bil a b c d e f u v w u v w * x + -(bil a b c d e f x y z u v w) * u) (bil a b c d e f u v w u v w * y + -(bil a b c d e f x y z u v w) * v) (bil a b c d e f u v w u v w * z + -(bil a b c d e f x y z u v w) * w)
    rw [bil_comb] at hn
    generalize bil a b c d e f x y z u v w = m at *
    generalize bil a b c d e f x y z x y z = p at *
    generalize bil a b c d e f u v w u v w = q at *
    have e3 : q * q * p + 2 * q * -m * m + -m * -m * q = q * (p * q - m * m) := by grind
    rw [e3] at hn
    by_cases h : p * q - m * m < 0
    · exfalso
      have h5 := Int.mul_pos hp (show 0 < -(p * q - m * m) by omega)
      rw [Int.mul_neg] at h5
      omega
    · omega
end
end Go.Dist

import Derived.WalkKit
/- Whole numbers: products within bounds, squares, determinants of Gram matrices. -/
namespace Go.Dist
open Go
abbrev wr (n : Int) : Int := IntKind.i64.wrap n
theorem wr_id {n : Int} (h1 : -9000000000000000000 ≤ n) (h2 : n ≤ 9000000000000000000) : IntKind.i64.wrap n = n := by
  rw [IntKind.wrap_i64]
  omega
theorem mul_bd {a b A B : Int} (ha : -A ≤ a ∧ a ≤ A) (hb : -B ≤ b ∧ b ≤ B) : -(A * B) ≤ a * b ∧ a * b ≤ A * B := by
  have h1 := Int.mul_nonneg (show 0 ≤ A - a by omega) (show 0 ≤ B + b by omega)
  have h2 := Int.mul_nonneg (show 0 ≤ A + a by omega) (show 0 ≤ B - b by omega)
  have h3 := Int.mul_nonneg (show 0 ≤ A - a by omega) (show 0 ≤ B - b by omega)
  have h4 := Int.mul_nonneg (show 0 ≤ A + a by omega) (show 0 ≤ B + b by omega)
  have e1 : (A - a) * (B + b) + (A + a) * (B - b) = 2 * (A * B) - 2 * (a * b) := by grind
  have e2 : (A - a) * (B - b) + (A + a) * (B + b) = 2 * (A * B) + 2 * (a * b) := by grind
  omega
theorem sq_nn (a : Int) : 0 ≤ a * a := by
  rcases Int.le_total 0 a with h | h
  · exact Int.mul_nonneg h h
  · have := Int.mul_nonneg (show 0 ≤ -a by omega) (show 0 ≤ -a by omega)
    have e : -a * -a = a * a := by grind
    omega
theorem sq_zero {a : Int} (h : a * a = 0) : a = 0 := by
  rcases Int.mul_eq_zero.1 h with h | h <;> exact h
theorem sq_pos {a : Int} (h : a ≠ 0) : 0 < a * a := by
  have h1 := sq_nn a
  have h2 : a * a ≠ 0 := fun e => h (sq_zero e)
  omega
/-- an entry -/
def Ent (x : Int) : Prop := -11 ≤ x ∧ x ≤ 11
theorem ent_mul {a b : Int} (ha : Ent a) (hb : Ent b) : -121 ≤ a * b ∧ a * b ≤ 121 := mul_bd ha hb
/-- a dot product of two columns, as the code reckons it -/
def dot3 (a b d e g h : Int) : Int := IntKind.i64.wrap (IntKind.i64.wrap (IntKind.i64.wrap (a * b) + IntKind.i64.wrap (d * e)) + IntKind.i64.wrap (g * h))
theorem dot3_eq {a b d e g h : Int} (ha : Ent a) (hb : Ent b) (hd : Ent d) (he : Ent e) (hg : Ent g) (hh : Ent h) :
    dot3 a b d e g h = a * b + d * e + g * h ∧ -363 ≤ a * b + d * e + g * h ∧ a * b + d * e + g * h ≤ 363 := by
  have h1 := ent_mul ha hb
  have h2 := ent_mul hd he
  have h3 := ent_mul hg hh
  unfold dot3
  rw [wr_id (n := a * b) (by omega) (by omega), wr_id (n := d * e) (by omega) (by omega), wr_id (n := g * h) (by omega) (by omega), wr_id (n := a * b + d * e) (by omega) (by omega), wr_id (n := a * b + d * e + g * h) (by omega) (by omega)]
  omega
def term (u x v : Int) : Int := IntKind.i64.wrap (IntKind.i64.wrap (u * x) * v)
theorem term_eq {u x v : Int} (hu : -192 ≤ u ∧ u ≤ 192) (hx : -363 ≤ x ∧ x ≤ 363) (hv : -192 ≤ v ∧ v ≤ 192) : term u x v = u * x * v ∧ -13381632 ≤ u * x * v ∧ u * x * v ≤ 13381632 := by
  have h1 : -69696 ≤ u * x ∧ u * x ≤ 69696 := mul_bd hu hx
  have h2 : -13381632 ≤ u * x * v ∧ u * x * v ≤ 13381632 := mul_bd h1 hv
  unfold term
  rw [wr_id (n := u * x) (by omega) (by omega), wr_id (n := u * x * v) (by omega) (by omega)]
  exact ⟨rfl, h2⟩
/-- the length of a vector in a metric, as the code reckons it -/
def len9 (a b c d e f g h i x y z : Int) : Int :=
  IntKind.i64.wrap (IntKind.i64.wrap (IntKind.i64.wrap (IntKind.i64.wrap (IntKind.i64.wrap (IntKind.i64.wrap (IntKind.i64.wrap (IntKind.i64.wrap (IntKind.i64.wrap (0 + term x a x) + term x b y) + term x c z) + term y d x) + term y e y) + term y f z) + term z g x) + term z h y) + term z i z)
def G363 (x : Int) : Prop := -363 ≤ x ∧ x ≤ 363
def P192 (x : Int) : Prop := -192 ≤ x ∧ x ≤ 192
theorem len9_eq {a b c d e f g h i x y z : Int} (ha : G363 a) (hb : G363 b) (hc : G363 c) (hd : G363 d) (he : G363 e) (hf : G363 f) (hg : G363 g) (hh : G363 h) (hi : G363 i) (hx : P192 x) (hy : P192 y) (hz : P192 z) :
    len9 a b c d e f g h i x y z = x * a * x + x * b * y + x * c * z + y * d * x + y * e * y + y * f * z + z * g * x + z * h * y + z * i * z := by
  obtain ⟨e1, b1⟩ := term_eq hx ha hx
  obtain ⟨e2, b2⟩ := term_eq hx hb hy
  obtain ⟨e3, b3⟩ := term_eq hx hc hz
  obtain ⟨e4, b4⟩ := term_eq hy hd hx
  obtain ⟨e5, b5⟩ := term_eq hy he hy
  obtain ⟨e6, b6⟩ := term_eq hy hf hz
  obtain ⟨e7, b7⟩ := term_eq hz hg hx
  obtain ⟨e8, b8⟩ := term_eq hz hh hy
  obtain ⟨e9, b9⟩ := term_eq hz hi hz
  unfold len9
  rw [e1, e2, e3, e4, e5, e6, e7, e8, e9]
  generalize x * a * x = t1 at *
  generalize x * b * y = t2 at *
  generalize x * c * z = t3 at *
  generalize y * d * x = t4 at *
  generalize y * e * y = t5 at *
  generalize y * f * z = t6 at *
  generalize z * g * x = t7 at *
  generalize z * h * y = t8 at *
  generalize z * i * z = t9 at *
  rw [wr_id (n := 0 + t1) (by omega) (by omega), wr_id (n := 0 + t1 + t2) (by omega) (by omega), wr_id (n := 0 + t1 + t2 + t3) (by omega) (by omega), wr_id (n := 0 + t1 + t2 + t3 + t4) (by omega) (by omega), wr_id (n := 0 + t1 + t2 + t3 + t4 + t5) (by omega) (by omega), wr_id (n := 0 + t1 + t2 + t3 + t4 + t5 + t6) (by omega) (by omega), wr_id (n := 0 + t1 + t2 + t3 + t4 + t5 + t6 + t7) (by omega) (by omega), wr_id (n := 0 + t1 + t2 + t3 + t4 + t5 + t6 + t7 + t8) (by omega) (by omega), wr_id (n := 0 + t1 + t2 + t3 + t4 + t5 + t6 + t7 + t8 + t9) (by omega) (by omega)]
  omega
/-- the length in the Gram matrix of three columns is a sum of three squares -/
theorem gram_len (a b c d e f g h i x y z : Int) :
    x * (a * a + d * d + g * g) * x + x * (a * b + d * e + g * h) * y + x * (a * c + d * f + g * i) * z + y * (a * b + d * e + g * h) * x + y * (b * b + e * e + h * h) * y + y * (b * c + e * f + h * i) * z + z * (a * c + d * f + g * i) * x + z * (b * c + e * f + h * i) * y + z * (c * c + f * f + i * i) * z
      = (a * x + b * y + c * z) * (a * x + b * y + c * z) + (d * x + e * y + f * z) * (d * x + e * y + f * z) + (g * x + h * y + i * z) * (g * x + h * y + i * z) := by grind
def det0 (a b c d e f g h i : Int) : Int := a * (e * i - f * h) + b * (f * g - d * i) + c * (d * h - e * g)
theorem kernel0 {a b c d e f g h i x y z : Int} (hd : det0 a b c d e f g h i ≠ 0) (h1 : a * x + b * y + c * z = 0) (h2 : d * x + e * y + f * z = 0) (h3 : g * x + h * y + i * z = 0) : x = 0 ∧ y = 0 ∧ z = 0 := by
  have ex : det0 a b c d e f g h i * x = (a * x + b * y + c * z) * (e * i - f * h) - (d * x + e * y + f * z) * (b * i - c * h) + (g * x + h * y + i * z) * (b * f - c * e) := by unfold det0; grind
  have ey : det0 a b c d e f g h i * y = (d * x + e * y + f * z) * (a * i - c * g) - (a * x + b * y + c * z) * (d * i - f * g) - (g * x + h * y + i * z) * (a * f - c * d) := by unfold det0; grind
  have ez : det0 a b c d e f g h i * z = (a * x + b * y + c * z) * (d * h - e * g) - (d * x + e * y + f * z) * (a * h - b * g) + (g * x + h * y + i * z) * (a * e - b * d) := by unfold det0; grind
  rw [h1, h2, h3] at ex ey ez
  refine ⟨?_, ?_, ?_⟩
  · rcases Int.mul_eq_zero.1 (show det0 a b c d e f g h i * x = 0 by rw [ex]; omega) with h | h
    · exact absurd h hd
    · exact h
  · rcases Int.mul_eq_zero.1 (show det0 a b c d e f g h i * y = 0 by rw [ey]; omega) with h | h
    · exact absurd h hd
    · exact h
  · rcases Int.mul_eq_zero.1 (show det0 a b c d e f g h i * z = 0 by rw [ez]; omega) with h | h
    · exact absurd h hd
    · exact h
/-- the Gram determinant is a square -/
theorem gram_det (a b c d e f g h i : Int) :
    (a * a + d * d + g * g) * (b * b + e * e + h * h) * (c * c + f * f + i * i) + 2 * (b * c + e * f + h * i) * (a * c + d * f + g * i) * (a * b + d * e + g * h) - (a * a + d * d + g * g) * (b * c + e * f + h * i) * (b * c + e * f + h * i) - (b * b + e * e + h * h) * (a * c + d * f + g * i) * (a * c + d * f + g * i) - (c * c + f * f + i * i) * (a * b + d * e + g * h) * (a * b + d * e + g * h)
      = det0 a b c d e f g h i * det0 a b c d e f g h i := by unfold det0; grind
theorem gram_two (a b d e g h : Int) : (a * a + d * d + g * g) * (b * b + e * e + h * h) - (a * b + d * e + g * h) * (a * b + d * e + g * h) = (a * e - b * d) * (a * e - b * d) + (a * h - b * g) * (a * h - b * g) + (d * h - e * g) * (d * h - e * g) := by grind
theorem two_pos {a b c d e f g h i : Int} (hd : det0 a b c d e f g h i ≠ 0) : 0 < (a * a + d * d + g * g) * (b * b + e * e + h * h) - (a * b + d * e + g * h) * (a * b + d * e + g * h) := by
  rw [gram_two]
  have h1 := sq_nn (a * e - b * d)
  have h2 := sq_nn (a * h - b * g)
  have h3 := sq_nn (d * h - e * g)
  by_cases e1 : a * e - b * d = 0
  · by_cases e2 : a * h - b * g = 0
    · by_cases e3 : d * h - e * g = 0
      · refine absurd ?_ hd
        have : det0 a b c d e f g h i = c * (d * h - e * g) - f * (a * h - b * g) + i * (a * e - b * d) := by unfold det0; grind
        rw [this, e1, e2, e3]
        omega
      · have := sq_pos e3
        omega
    · have := sq_pos e2
      omega
  · have := sq_pos e1
    omega
theorem col_pos {a b c d e f g h i : Int} (hd : det0 a b c d e f g h i ≠ 0) : 0 < a * a + d * d + g * g ∧ 0 < b * b + e * e + h * h ∧ 0 < c * c + f * f + i * i := by
  have key : ∀ p q r : Int, (p = 0 → q = 0 → r = 0 → False) → 0 < p * p + q * q + r * r := by
    intro p q r hn
    have h1 := sq_nn p
    have h2 := sq_nn q
    have h3 := sq_nn r
    by_cases e1 : p = 0
    · by_cases e2 : q = 0
      · by_cases e3 : r = 0
        · exact (hn e1 e2 e3).elim
        · have := sq_pos e3; omega
      · have := sq_pos e2; omega
    · have := sq_pos e1; omega
  refine ⟨key a d g fun e1 e2 e3 => hd ?_, key b e h fun e1 e2 e3 => hd ?_, key c f i fun e1 e2 e3 => hd ?_⟩ <;> (subst e1; subst e2; subst e3; unfold det0; grind)
end Go.Dist

import Derived.WalkKit
/- Whole numbers: products within bounds, squares, determinants of Gram matrices. -/
namespace Go.Dist
open Go
abbrev wr (n : Int) : Int := IntKind.i64.wrap n
theorem wr_id {n : Int} (h1 : -9000000000000000000 ≤ n) (h2 : n ≤ 9000000000000000000) : IntKind.i64.wrap n = n := by
  rw [IntKind.wrap_i64]
  omega
theorem mul_bd {a b A B : Int} (ha : -A ≤ a ∧ a ≤ A) (hb : -B ≤ b ∧ b ≤ B) : -(A * B) ≤ a * b ∧ a * b ≤ A * B := by
  have h1 := Int.mul_nonneg (show 0 ≤ A - a by omega) (show 0 ≤ B + b by omega)
  have h2 := Int.mul_nonneg (show 0 ≤ A + a by omega) (show 0 ≤ B - b by omega)
  have h3 := Int.mul_nonneg (show 0 ≤ A - a by omega) (show 0 ≤ B - b by omega)
  have h4 := Int.mul_nonneg (show 0 ≤ A + a by omega) (show 0 ≤ B + b by omega)
  have e1 : (A - a) * (B + b) + (A + a) * (B - b) = 2 * (A * B) - 2 * (a * b) := by grind
  have e2 : (A - a) * (B - b) + (A + a) * (B + b) = 2 * (A * B) + 2 * (a * b) := by grind
  omega
theorem sq_nn (a : Int) : 0 ≤ a * a := by
  rcases Int.le_total 0 a with h | h
  · exact Int.mul_nonneg h h
  · have := Int.mul_nonneg (show 0 ≤ -a by omega) (show 0 ≤ -a by omega)
    have e : -a * -a = a * a := by grind
    omega
theorem sq_zero {a : Int} (h : a * a = 0) : a = 0 := by
  rcases Int.mul_eq_zero.1 h with h | h <;> exact h
theorem sq_pos {a : Int} (h : a ≠ 0) : 0 < a * a := by
  have h1 := sq_nn a
  have h2 : a * a ≠ 0 := fun e => h (sq_zero e)
  omega
/-- an entry -/
def Ent (x : Int) : Prop := -11 ≤ x ∧ x ≤ 11
theorem ent_mul {a b : Int} (ha : Ent a) (hb : Ent b) : -121 ≤ a * b ∧ a * b ≤ 121 := mul_bd ha hb
/-- a dot product of two columns, as the code reckons it -/
def dot3 (a b d e g h : Int) : Int := IntKind.i64.wrap (IntKind.i64.wrap (IntKind.i64.wrap (a * b) + IntKind.i64.wrap (d * e)) + IntKind.i64.wrap (g * h))
theorem dot3_eq {a b d e g h : Int} (ha : Ent a) (hb : Ent b) (hd : Ent d) (he : Ent e) (hg : Ent g) (hh : Ent h) :
    dot3 a b d e g h = a * b + d * e + g * h ∧ -363 ≤ a * b + d * e + g * h ∧ a * b + d * e + g * h ≤ 363 := by
  have h1 := ent_mul ha hb
  have h2 := ent_mul hd he
  have h3 := ent_mul hg hh
  unfold dot3
  rw [wr_id (n := a * b) (by omega) (by omega), wr_id (n := d * e) (by omega) (by omega), wr_id (n := g * h) (by omega) (by omega), wr_id (n := a * b + d * e) (by omega) (by omega), wr_id (n := a * b + d * e + g * h) (by omega) (by omega)]
  omega
def term (u x v : Int) : Int := IntKind.i64.wrap (IntKind.i64.wrap (u * x) * v)
theorem term_eq {u x v : Int} (hu : -192 ≤ u ∧ u ≤ 192) (hx : -363 ≤ x ∧ x ≤ 363) (hv : -192 ≤ v ∧ v ≤ 192) : term u x v = u * x * v ∧ -13381632 ≤ u * x * v ∧ u * x * v ≤ 13381632 := by
  have h1 : -69696 ≤ u * x ∧ u * x ≤ 69696 := mul_bd hu hx
  have h2 : -13381632 ≤ u * x * v ∧ u * x * v ≤ 13381632 := mul_bd h1 hv
  unfold term
  rw [wr_id (n := u * x) (by omega) (by omega), wr_id (n := u * x * v) (by omega) (by omega)]
  exact ⟨rfl, h2⟩
/-- the length of a vector in a metric, as the code reckons it -/
def len9 (a b c d e f g h i x y z : Int) : Int :=
  IntKind.i64.wrap (IntKind.i64.wrap (IntKind.i64.wrap (IntKind.i64.wrap (IntKind.i64.wrap (IntKind.i64.wrap (IntKind.i64.wrap (IntKind.i64.wrap (IntKind.i64.wrap (0 + term x a x) + term x b y) + term x c z) + term y d x) + term y e y) + term y f z) + term z g x) + term z h y) + term z i z)
def G363 (x : Int) : Prop := -363 ≤ x ∧ x ≤ 363
def P192 (x : Int) : Prop := -192 ≤ x ∧ x ≤ 192
theorem len9_eq {a b c d e f g h i x y z : Int} (ha : G363 a) (hb : G363 b) (hc : G363 c) (hd : G363 d) (he : G363 e) (hf : G363 f) (hg : G363 g) (hh : G363 h) (hi : G363 i) (hx : P192 x) (hy : P192 y) (hz : P192 z) :
    len9 a b c d e f g h i x y z = x * a * x + x * b * y + x * c * z + y * d * x + y * e * y + y * f * z + z * g * x + z * h * y + z * i * z := by
  obtain ⟨e1, b1⟩ := term_eq hx ha hx
  obtain ⟨e2, b2⟩ := term_eq hx hb hy
  obtain ⟨e3, b3⟩ := term_eq hx hc hz
  obtain ⟨e4, b4⟩ := term_eq hy hd hx
  obtain ⟨e5, b5⟩ := term_eq hy he hy
  obtain ⟨e6, b6⟩ := term_eq hy hf hz
  obtain ⟨e7, b7⟩ := term_eq hz hg hx
  obtain ⟨e8, b8⟩ := term_eq hz hh hy
  obtain ⟨e9, b9⟩ := term_eq hz hi hz
  unfold len9
  rw [e1, e2, e3, e4, e5, e6, e7, e8, e9]
  generalize x * a * x = t1 at *
  generalize x * b * y = t2 at *
  generalize x * c * z = t3 at *
  generalize y * d * x = t4 at *
  generalize y * e * y = t5 at *
  generalize y * f * z = t6 at *
  generalize z * g * x = t7 at *
  generalize z * h * y = t8 at *
  generalize z * i * z = t9 at *
  rw [wr_id (n := 0 + t1) (by omega) (by omega), wr_id (n := 0 + t1 + t2) (by omega) (by omega), wr_id (n := 0 + t1 + t2 + t3) (by omega) (by omega), wr_id (n := 0 + t1 + t2 + t3 + t4) (by omega) (by omega), wr_id (n := 0 + t1 + t2 + t3 + t4 + t5) (by omega) (by omega), wr_id (n := 0 + t1 + t2 + t3 + t4 + t5 + t6) (by omega) (by omega), wr_id (n := 0 + t1 + t2 + t3 + t4 + t5 + t6 + t7) (by omega) (by omega), wr_id (n := 0 + t1 + t2 + t3 + t4 + t5 + t6 + t7 + t8) (by omega) (by omega), wr_id (n := 0 + t1 + t2 + t3 + t4 + t5 + t6 + t7 + t8 + t9) (by omega) (by omega)]
  omega
/-- the length in the Gram matrix of three columns is a sum of three squares -/
theorem gram_len (a b c d e f g h i x y z : Int) :
    x * (a * a + d * d + g * g) * x + x * (a * b + d * e + g * h) * y + x * (a * c + d * f + g * i) * z + y * (a * b + d * e + g * h) * x + y * (b * b + e * e + h * h) * y + y * (b * c + e * f + h * i) * z + z * (a * c + d * f + g * i) * x + z * (b * c + e * f + h * i) * y + z * (c * c + f * f + i * i) * z
      = (a * x + b * y + c * z) * (a * x + b * y + c * z) + (d * x + e * y + f * z) * (d * x + e * y + f * z) + (g * x + h * y + i * z) * (g * x + h * y + i * z) := by grind
def det0 (a b c d e f g h i : Int) : Int := a * (e * i - f * h) + b * (f * g - d * i) + c * (d * h - e * g)
theorem kernel0 {a b c d e f g h i x y z : Int} (hd : det0 a b c d e f g h i ≠ 0) (h1 : a * x + b * y + c * z = 0) (h2 : d * x + e * y + f * z = 0) (h3 : g * x + h * y + i * z = 0) : x = 0 ∧ y = 0 ∧ z = 0 := by
  have ex : det0 a b c d e f g h i * x = (a * x + b * y + c * z) * (e * i - f * h) - (d * x + e * y + f * z) * (b * i - c * h) + (g * x + h * y + i * z) * (b * f - c * e) := by unfold det0; grind
  have ey : det0 a b c d e f g h i * y = (d * x + e * y + f * z) * (a * i - c * g) - (a * x + b * y + c * z) * (d * i - f * g) - (g * x + h * y + i * z) * (a * f - c * d) := by unfold det0; grind
  have ez : det0 a b c d e f g h i * z = (a * x + b * y + c * z) * (d * h - e * g) - (d * x + e * y + f * z) * (a * h - b * g) + (g * x + h * y + i * z) * (a * e - b * d) := by unfold det0; grind
  rw [h1, h2, h3] at ex ey ez
  refine ⟨?_, ?_, ?_⟩
  · rcases Int.mul_eq_zero.1 (show det0 a b c d e f g h i * x = 0 by rw [ex]; omega) with h | h
    · exact absurd h hd
    · exact h
  · rcases Int.mul_eq_zero.1 (show det0 a b c d e f g h i * y = 0 by rw [ey]; omega) with h | h
    · exact absurd h hd
    · exact h
  · rcases Int.mul_eq_zero.1 (show det0 a b c d e f g h i * z = 0 by rw [ez]; omega) with h | h
    · exact absurd h hd
    · exact h
/-- the Gram determinant is a square -/
theorem gram_det (a b c d e f g h i : Int) :
    (a * a + d * d + g * g) * (b * b + e * e + h * h) * (c * c + f * f + i * i) + 2 * (b * c + e * f + h * i) * (a * c + d * f + g * i) * (a * b + d * e + g * h) - (a * a + d * d + g * g) * (b * c + e * f + h * i) * (b * c + e * f + h * i) - (b * b + e * e + h * h) * (a * c + d * f + g * i) * (a * c + d * f + g * i) - (c * c + f * f + i * i) * (a * b + d * e + g * h) * (a * b + d * e + g * h)
      = det0 a b c d e f g h i * det0 a b c d e f g h i := by unfold det0; grind
theorem gram_two (a b d e g h : Int) : (a * a + d * d + g * g) * (b * b + e * e + h * h) - (a * b + d * e + g * h) * (a * b + d * e + g * h) = (a * e - b * d) * (a * e - b * d) + (a * h - b * g) * (a * h - b * g) + (d * h - e * g) * (d * h - e * g) := by grind
theorem two_pos {a b c d e f g h i : Int} (hd : det0 a b c d e f g h i ≠ 0) : 0 < (a * a + d * d + g * g) * (b * b + e * e + h * h) - (a * b + d * e + g * h) * (a * b + d * e + g * h) := by
  rw [gram_two]
  have h1 := sq_nn (a * e - b * d)
  have h2 := sq_nn (a * h - b * g)
  have h3 := sq_nn (d * h - e * g)
  by_cases e1 : a * e - b * d = 0
  · by_cases e2 : a * h - b * g = 0
    · by_cases e3 : d * h - e * g = 0
      · refine absurd ?_ hd
        have : det0 a b c d e f g h i = c * (d * h - e * g) - f * (a * h - b * g) + i * (a * e - b * d) := by unfold det0; grind
        rw [this, e1, e2, e3]
        omega
      · have := sq_pos e3
        omega
    · have := sq_pos e2
      omega
  · have := sq_pos e1
    omega
theorem col_pos {a b c d e f g h i : Int} (hd : det0 a b c d e f g h i ≠ 0) : 0 < a * a + d * d + g * g ∧ 0 < b * b + e * e + h * h ∧ 0 < c * c + f * f + i * i := by
  have key : ∀ p q r : Int, (p = 0 → q = 0 → r = 0 → False) → 0 < p * p + q * q + r * r := by
    intro p q r hn
    have h1 := sq_nn p
    have h2 := sq_nn q
    have h3 := sq_nn r
    by_cases e1 : p = 0
    · by_cases e2 : q = 0
      · by_cases e3 : r = 0
        · exact (hn e1 e2 e3).elim
        · have := sq_pos e3; omega
      · have := sq_pos e2; omega
    · have := sq_pos e1; omega
  refine ⟨key a d g fun e1 e2 e3 => hd ?_, key b e h fun e1 e2 e3 => hd ?_, key c f i fun e1 e2 e3 => hd ?_⟩ <;> (subst e1; subst e2; subst e3; unfold det0; grind)
end Go.Dist
/- The least of a list, the neighbours of a part, remainders. -/
namespace Go.Dist
open Go
def stepv (a n : Int) : Int := if decide (a < 0) || decide (n < a) then n else a
theorem fold_nn : ∀ (l : List Int) (a : Int), 0 ≤ a → (∀ n ∈ l, 0 ≤ n) → (l.foldl stepv a = a ∨ l.foldl stepv a ∈ l) ∧ l.foldl stepv a ≤ a ∧ ∀ n ∈ l, l.foldl stepv a ≤ n
  | [], a, _, _ => ⟨.inl rfl, Int.le_refl _, fun n h => by cases h⟩
  | n :: l, a, ha, hl => by
    have hn : 0 ≤ n := hl n (by simp)
    have hl' : ∀ k ∈ l, 0 ≤ k := fun k hk => hl k (by simp [hk])
    simp only [List.foldl_cons]
    by_cases h : n < a
    · rw [show stepv a n = n by simp [stepv, h]]
      obtain ⟨h1, h2, h3⟩ := fold_nn l n hn hl'
      refine ⟨.inr ?_, by omega, ?_⟩
      · rcases h1 with h1 | h1
        · simp [h1]
        · simp [h1]
      · intro k hk
        rcases List.mem_cons.1 hk with rfl | hk
        · exact h2
        · exact h3 k hk
    · rw [show stepv a n = a by simp [stepv, h]; omega]
      obtain ⟨h1, h2, h3⟩ := fold_nn l a ha hl'
      refine ⟨?_, h2, ?_⟩
      · rcases h1 with h1 | h1
        · exact .inl h1
        · exact .inr (by simp [h1])
      · intro k hk
        rcases List.mem_cons.1 hk with rfl | hk
        · omega
        · exact h3 k hk
/-- r is the least number of S -/
def Least (S : Int → Prop) (r : Int) : Prop := S r ∧ ∀ n, S n → r ≤ n
theorem Least.eq {S T : Int → Prop} {r s : Int} (h : Least S r) (k : Least T s) (e : ∀ n, S n ↔ T n) : r = s := by
  have h1 := h.2 s ((e s).2 k.1)
  have h2 := k.2 r ((e r).1 h.1)
  omega
theorem fold_neg {l : List Int} {a : Int} (ha : a < 0) (hl : ∀ n ∈ l, 0 ≤ n) (hne : l ≠ []) : Least (· ∈ l) (l.foldl stepv a) := by
  match l, hne with
  | n :: l, _ =>
    simp only [List.foldl_cons]
    rw [show stepv a n = n by simp [stepv, ha]]
    obtain ⟨h1, h2, h3⟩ := fold_nn l n (hl n (by simp)) (fun k hk => hl k (by simp [hk]))
    refine ⟨?_, fun k hk => ?_⟩
    · rcases h1 with h1 | h1
      · simp [h1]
      · simp [h1]
    · rcases List.mem_cons.1 hk with rfl | hk
      · exact h2
      · exact h3 k hk
section
variable (len : Int → Int → Int → Int)
def step5 (x y : Int) (least z : Int) : Int := if decide (least < 0) || decide (len x y z < least) then len x y z else least
def best5 (x y : Int) (l2 : List Int) (least : Int) : Int := l2.foldl (step5 len x y) least
def best4 (x : Int) (l1 l2 : List Int) (least : Int) : Int := l1.foldl (fun a y => best5 len x y l2 a) least
def best3 (l0 l1 l2 : List Int) (least : Int) : Int := l0.foldl (fun a x => best4 len x l1 l2 a) least
def all3 (l0 l1 l2 : List Int) : List Int := l0.flatMap fun x => l1.flatMap fun y => l2.map fun z => len x y z
theorem best3_eq (l0 l1 l2 : List Int) (a : Int) : best3 len l0 l1 l2 a = (all3 len l0 l1 l2).foldl stepv a := by
  unfold best3 all3 best4 best5
  rw [List.foldl_flatMap]
  congr 1
  funext a x
  rw [List.foldl_flatMap]
  congr 1
  funext a y
  rw [List.foldl_map]
  rfl
theorem mem_all3 {l0 l1 l2 : List Int} {n : Int} : n ∈ all3 len l0 l1 l2 ↔ ∃ x, x ∈ l0 ∧ ∃ y, y ∈ l1 ∧ ∃ z, z ∈ l2 ∧ len x y z = n := by
  simp only [all3, List.mem_flatMap, List.mem_map]
end
def ents (x M : Int) (k : Nat) : List Int := (List.range k).map fun (j : Nat) => x - M + (j : Int) * M
def nb (w m : Int) : List Int := ents w m (if w = 0 then 3 else 2)
theorem mem_nb {w m z : Int} : z ∈ nb w m ↔ z = w - m ∨ z = w ∨ (w = 0 ∧ z = m) := by
  unfold nb ents
  by_cases h : w = 0
  · subst h
    simp [List.range, List.range.loop]
    constructor
    · rintro (h | h | h) <;> omega
    · rintro (h | h | h) <;> omega
  · simp [h, List.range, List.range.loop]
def right (m : Int) : Bool := decide (m = 24) || (decide (m = 48) || (decide (m = 96) || decide (m = 192)))
theorem right_bd {m : Int} (h : right m = true) : 24 ≤ m ∧ m ≤ 192 := by
  simp [right] at h
  omega
def modF (n m : Int) : Int := (IntKind.i64.wrap (n.tmod m + m)).tmod m
theorem modF_in {n m : Int} (hm : 24 ≤ m ∧ m ≤ 192) : 0 ≤ modF n m ∧ modF n m < m := by
  have h1 : n.tmod m < m := Int.tmod_lt_of_pos n (by omega)
  have h2 : -m < n.tmod m := Int.lt_tmod_of_pos n (by omega)
  unfold modF
  rw [wr_id (by omega) (by omega), Int.tmod_eq_emod_of_nonneg (by omega)]
  exact ⟨Int.emod_nonneg _ (by omega), Int.emod_lt_of_pos _ (by omega)⟩
theorem modF_low {n m : Int} (hm : 24 ≤ m ∧ m ≤ 192) (hn : -m < n ∧ n < m) : modF n m = if n < 0 then n + m else n := by
  unfold modF
  have h1 : n.tmod m = n := by
    rcases Int.le_total 0 n with h | h
    · exact Int.tmod_eq_of_lt h hn.2
    · have h3 := Int.tmod_eq_of_lt (a := -n) (b := m) (by omega) (by omega)
      rw [Int.neg_tmod] at h3
      omega
  rw [h1, wr_id (by omega) (by omega), Int.tmod_eq_emod_of_nonneg (by omega)]
  split
  · rw [Int.emod_eq_of_lt (by omega) (by omega)]
  · have : (n + m) % m = n % m := by simp
    rw [this, Int.emod_eq_of_lt (by omega) (by omega)]
end Go.Dist
/- The law of distances, of any length that is above nought but at nought, and the same for opposite vectors. -/
namespace Go.Dist
open Go
structure Norm (len : Int → Int → Int → Int) : Prop where
  nn : ∀ x y z, P192 x → P192 y → P192 z → 0 ≤ len x y z
  zero : len 0 0 0 = 0
  pos : ∀ x y z, P192 x → P192 y → P192 z → len x y z = 0 → x = 0 ∧ y = 0 ∧ z = 0
  neg : ∀ x y z, P192 x → P192 y → P192 z → len (-x) (-y) (-z) = len x y z
theorem nb_bd {w m z : Int} (hm : 24 ≤ m ∧ m ≤ 192) (hw : 0 ≤ w ∧ w < m) (h : z ∈ nb w m) : P192 z := by
  rcases mem_nb.1 h with h | h | h <;> (unfold P192; omega)
theorem nb_self {w m : Int} : w ∈ nb w m := mem_nb.2 (.inr (.inl rfl))
theorem nb_zero {w m : Int} (hm : 24 ≤ m ∧ m ≤ 192) (hw : 0 ≤ w ∧ w < m) (h : (0 : Int) ∈ nb w m) : w = 0 := by
  rcases mem_nb.1 h with h | h | h <;> omega
def minus (p q m : Int) : Int := modF (IntKind.i64.wrap (p - q)) m
section
variable {m : Int} (hm : 24 ≤ m ∧ m ≤ 192)
include hm
theorem minus_eq {p q : Int} (hp : 0 ≤ p ∧ p < m) (hq : 0 ≤ q ∧ q < m) : minus p q m = if p - q < 0 then p - q + m else p - q := by
  unfold minus
  rw [wr_id (by omega) (by omega)]
  exact modF_low hm (by omega)
theorem minus_in {p q : Int} : 0 ≤ minus p q m ∧ minus p q m < m := modF_in hm
theorem minus_zero {p q : Int} (hp : 0 ≤ p ∧ p < m) (hq : 0 ≤ q ∧ q < m) : minus p q m = 0 ↔ p = q := by
  rw [minus_eq hm hp hq]
  split <;> omega
theorem nb_neg {p q z : Int} (hp : 0 ≤ p ∧ p < m) (hq : 0 ≤ q ∧ q < m) (h : z ∈ nb (minus p q m) m) : -z ∈ nb (minus q p m) m := by
  rw [mem_nb] at *
  rw [minus_eq hm hq hp]
  rw [minus_eq hm hp hq] at h
  split at h <;> split <;> omega
variable {len : Int → Int → Int → Int} (hn : Norm len) {p1 p2 p3 q1 q2 q3 : Int} (h1 : 0 ≤ p1 ∧ p1 < m) (h2 : 0 ≤ p2 ∧ p2 < m) (h3 : 0 ≤ p3 ∧ p3 < m) (k1 : 0 ≤ q1 ∧ q1 < m) (k2 : 0 ≤ q2 ∧ q2 < m) (k3 : 0 ≤ q3 ∧ q3 < m)
/-- the least square of a distance -/
def dist (len : Int → Int → Int → Int) (m p1 p2 p3 q1 q2 q3 : Int) : Int := best3 len (nb (minus p1 q1 m) m) (nb (minus p2 q2 m) m) (nb (minus p3 q3 m) m) (-1)
def Vals (len : Int → Int → Int → Int) (m p1 p2 p3 q1 q2 q3 n : Int) : Prop := ∃ x, x ∈ nb (minus p1 q1 m) m ∧ ∃ y, y ∈ nb (minus p2 q2 m) m ∧ ∃ z, z ∈ nb (minus p3 q3 m) m ∧ len x y z = n
include hn
theorem vals_nn {n : Int} (h : Vals len m p1 p2 p3 q1 q2 q3 n) : 0 ≤ n := by
  obtain ⟨x, hx, y, hy, z, hz, rfl⟩ := h
  exact hn.nn x y z (nb_bd hm (minus_in hm) hx) (nb_bd hm (minus_in hm) hy) (nb_bd hm (minus_in hm) hz)
theorem dist_least : Least (Vals len m p1 p2 p3 q1 q2 q3) (dist len m p1 p2 p3 q1 q2 q3) := by
  have e : ∀ n, n ∈ all3 len (nb (minus p1 q1 m) m) (nb (minus p2 q2 m) m) (nb (minus p3 q3 m) m) ↔ Vals len m p1 p2 p3 q1 q2 q3 n := fun n => mem_all3 len
  have hv : Vals len m p1 p2 p3 q1 q2 q3 (len (minus p1 q1 m) (minus p2 q2 m) (minus p3 q3 m)) := ⟨_, nb_self, _, nb_self, _, nb_self, rfl⟩
  have := fold_neg (a := -1) (by omega) (fun n hx => vals_nn hm hn ((e n).1 hx)) (List.ne_nil_of_mem ((e _).2 hv))
  unfold dist
  rw [best3_eq]
  exact ⟨(e _).1 this.1, fun n hx => this.2 n ((e n).2 hx)⟩
theorem dist_nn : 0 ≤ dist len m p1 p2 p3 q1 q2 q3 := vals_nn hm hn (dist_least hm hn).1
theorem dist_le : dist len m p1 p2 p3 q1 q2 q3 ≤ len (minus p1 q1 m) (minus p2 q2 m) (minus p3 q3 m) := (dist_least hm hn).2 _ ⟨_, nb_self, _, nb_self, _, nb_self, rfl⟩
include h1 h2 h3 k1 k2 k3
theorem vals_neg {n : Int} (h : Vals len m p1 p2 p3 q1 q2 q3 n) : Vals len m q1 q2 q3 p1 p2 p3 n := by
  obtain ⟨x, hx, y, hy, z, hz, rfl⟩ := h
  exact ⟨-x, nb_neg hm h1 k1 hx, -y, nb_neg hm h2 k2 hy, -z, nb_neg hm h3 k3 hz, hn.neg x y z (nb_bd hm (minus_in hm) hx) (nb_bd hm (minus_in hm) hy) (nb_bd hm (minus_in hm) hz)⟩
theorem dist_sym : dist len m p1 p2 p3 q1 q2 q3 = dist len m q1 q2 q3 p1 p2 p3 :=
  (dist_least hm hn).eq (dist_least hm hn) fun _ => ⟨vals_neg hm hn h1 h2 h3 k1 k2 k3, vals_neg hm hn k1 k2 k3 h1 h2 h3⟩
theorem dist_zero : dist len m p1 p2 p3 q1 q2 q3 = 0 ↔ p1 = q1 ∧ p2 = q2 ∧ p3 = q3 := by
  constructor
  · intro h
    obtain ⟨x, hx, y, hy, z, hz, e⟩ := (dist_least (p1 := p1) (p2 := p2) (p3 := p3) (q1 := q1) (q2 := q2) (q3 := q3) hm hn).1
    rw [h] at e
    obtain ⟨rfl, rfl, rfl⟩ := hn.pos x y z (nb_bd hm (minus_in hm) hx) (nb_bd hm (minus_in hm) hy) (nb_bd hm (minus_in hm) hz) e
    exact ⟨(minus_zero hm h1 k1).1 (nb_zero hm (minus_in hm) hx), (minus_zero hm h2 k2).1 (nb_zero hm (minus_in hm) hy), (minus_zero hm h3 k3).1 (nb_zero hm (minus_in hm) hz)⟩
  · rintro ⟨e1, e2, e3⟩
    have h := dist_le (p1 := p1) (p2 := p2) (p3 := p3) (q1 := q1) (q2 := q2) (q3 := q3) hm hn
    rw [(minus_zero hm h1 k1).2 e1, (minus_zero hm h2 k2).2 e2, (minus_zero hm h3 k3).2 e3, hn.zero] at h
    have := dist_nn (p1 := p1) (p2 := p2) (p3 := p3) (q1 := q1) (q2 := q2) (q3 := q3) hm hn
    omega
end
/-- the length in the Gram matrix of three columns -/
def gramLen (a b c d e f g h i x y z : Int) : Int := len9 (dot3 a a d d g g) (dot3 a b d e g h) (dot3 a c d f g i) (dot3 a b d e g h) (dot3 b b e e h h) (dot3 b c e f h i) (dot3 a c d f g i) (dot3 b c e f h i) (dot3 c c f f i i) x y z
section
variable {a b c d e f g h i : Int} (ha : Ent a) (hb : Ent b) (hc : Ent c) (hd : Ent d) (he : Ent e) (hf : Ent f) (hg : Ent g) (hh : Ent h) (hi : Ent i)
include ha hb hc hd he hf hg hh hi
theorem gramLen_eq {x y z : Int} (hx : P192 x) (hy : P192 y) (hz : P192 z) : gramLen a b c d e f g h i x y z = (a * x + b * y + c * z) * (a * x + b * y + c * z) + (d * x + e * y + f * z) * (d * x + e * y + f * z) + (g * x + h * y + i * z) * (g * x + h * y + i * z) := by
  unfold gramLen
  obtain ⟨e1, b1⟩ := dot3_eq ha ha hd hd hg hg
  obtain ⟨e2, b2⟩ := dot3_eq ha hb hd he hg hh
  obtain ⟨e3, b3⟩ := dot3_eq ha hc hd hf hg hi
  obtain ⟨e4, b4⟩ := dot3_eq hb hb he he hh hh
  obtain ⟨e5, b5⟩ := dot3_eq hb hc he hf hh hi
  obtain ⟨e6, b6⟩ := dot3_eq hc hc hf hf hi hi
  rw [e1, e2, e3, e4, e5, e6, len9_eq b1 b2 b3 b2 b4 b5 b3 b5 b6 hx hy hz, gram_len]
theorem gram_norm (h0 : det0 a b c d e f g h i ≠ 0) : Norm (gramLen a b c d e f g h i) := by
  have eq := fun {x y z : Int} (hx : P192 x) (hy : P192 y) (hz : P192 z) => gramLen_eq ha hb hc hd he hf hg hh hi hx hy hz
  have z0 : P192 0 := by unfold P192; omega
  refine ⟨fun x y z hx hy hz => ?_, ?_, fun x y z hx hy hz hxx => ?_, fun x y z hx hy hz => ?_⟩
  · rw [eq hx hy hz]
    have h1 := sq_nn (a * x + b * y + c * z)
    have h2 := sq_nn (d * x + e * y + f * z)
    have h3 := sq_nn (g * x + h * y + i * z)
    omega
  · rw [eq z0 z0 z0]
    simp
  · rw [eq hx hy hz] at hxx
    have h1 := sq_nn (a * x + b * y + c * z)
    have h2 := sq_nn (d * x + e * y + f * z)
    have h3 := sq_nn (g * x + h * y + i * z)
    exact kernel0 h0 (sq_zero (by omega)) (sq_zero (by omega)) (sq_zero (by omega))
  · have nx : P192 (-x) := by unfold P192 at *; omega
    have ny : P192 (-y) := by unfold P192 at *; omega
    have nz : P192 (-z) := by unfold P192 at *; omega
    rw [eq hx hy hz, eq nx ny nz]
    grind
end
end Go.Dist
/- Metrics: the law of Sylvester in three dimensions, Cauchy and Schwarz. -/
namespace Go.Dist
open Go
/-- the product of two vectors in a metric (aa, bb, cc, bc, ac, ab) -/
def bil (a b c d e f x y z u v w : Int) : Int := x * a * u + x * f * v + x * e * w + y * f * u + y * b * v + y * d * w + z * e * u + z * d * v + z * c * w
def detM (a b c d e f : Int) : Int := a * b * c + 2 * d * e * f - a * d * d - b * e * e - c * f * f
theorem bil_comm (a b c d e f x y z u v w : Int) : bil a b c d e f x y z u v w = bil a b c d e f u v w x y z := by unfold bil; grind
theorem bil_sum (a b c d e f x y z u v w : Int) : bil a b c d e f (x + u) (y + v) (z + w) (x + u) (y + v) (z + w) = bil a b c d e f x y z x y z + bil a b c d e f u v w u v w + 2 * bil a b c d e f x y z u v w := by unfold bil; grind
theorem bil_comb (a b c d e f x y z u v w s t : Int) : bil a b c d e f (s * x + t * u) (s * y + t * v) (s * z + t * w) (s * x + t * u) (s * y + t * v) (s * z + t * w) = s * s * bil a b c d e f x y z x y z + 2 * s * t * bil a b c d e f x y z u v w + t * t * bil a b c d e f u v w u v w := by unfold bil; grind
theorem sylvester_id (a b c d e f x y z : Int) : (a * b - f * f) * a * bil a b c d e f x y z x y z =
    (a * b - f * f) * ((a * x + f * y + e * z) * (a * x + f * y + e * z)) + ((a * b - f * f) * y + (a * d - f * e) * z) * ((a * b - f * f) * y + (a * d - f * e) * z) + a * detM a b c d e f * (z * z) := by unfold bil detM; grind
section
variable {a b c d e f : Int} (ha : 0 < a) (h2 : 0 < a * b - f * f) (h3 : 0 < detM a b c d e f)
include ha h2 h3
theorem bil_nn (x y z : Int) : 0 ≤ bil a b c d e f x y z x y z := by
  have e1 := sylvester_id a b c d e f x y z
  have p1 := Int.mul_nonneg (Int.le_of_lt h2) (sq_nn (a * x + f * y + e * z))
  have p2 := sq_nn ((a * b - f * f) * y + (a * d - f * e) * z)
  have p3 := Int.mul_nonneg (Int.le_of_lt (Int.mul_pos ha h3)) (sq_nn z)
  have pos := Int.mul_pos h2 ha
  by_cases h : bil a b c d e f x y z x y z < 0
  · exfalso
    have h5 := Int.mul_pos pos (show 0 < -bil a b c d e f x y z x y z by omega)
    rw [Int.mul_neg] at h5
    omega
  · omega
theorem bil_zero {x y z : Int} (h : bil a b c d e f x y z x y z = 0) : x = 0 ∧ y = 0 ∧ z = 0 := by
  have e1 := sylvester_id a b c d e f x y z
  rw [h, Int.mul_zero] at e1
  have p1 := Int.mul_nonneg (Int.le_of_lt h2) (sq_nn (a * x + f * y + e * z))
  have p2 := sq_nn ((a * b - f * f) * y + (a * d - f * e) * z)
  have p3 := Int.mul_nonneg (Int.le_of_lt (Int.mul_pos ha h3)) (sq_nn z)
  have hz : z = 0 := by
    rcases Int.mul_eq_zero.1 (show a * detM a b c d e f * (z * z) = 0 by omega) with h6 | h6
    · have := Int.mul_pos ha h3; omega
    · exact sq_zero h6
  have hq := sq_zero (show ((a * b - f * f) * y + (a * d - f * e) * z) * ((a * b - f * f) * y + (a * d - f * e) * z) = 0 by omega)
  rw [hz, Int.mul_zero, Int.add_zero] at hq
  have hy : y = 0 := by
    rcases Int.mul_eq_zero.1 hq with h6 | h6
    · omega
    · exact h6
  have hp : a * x + f * y + e * z = 0 := by
    rcases Int.mul_eq_zero.1 (show (a * b - f * f) * ((a * x + f * y + e * z) * (a * x + f * y + e * z)) = 0 by omega) with h6 | h6
    · omega
    · exact sq_zero h6
  rw [hz, hy, Int.mul_zero, Int.mul_zero, Int.add_zero, Int.add_zero] at hp
  have hx : x = 0 := by
    rcases Int.mul_eq_zero.1 hp with h6 | h6
    · omega
    · exact h6
  exact ⟨hx, hy, hz⟩
theorem bil_pos {x y z : Int} (h : ¬ (x = 0 ∧ y = 0 ∧ z = 0)) : 0 < bil a b c d e f x y z x y z := by
  have h1 := bil_nn ha h2 h3 x y z
  have h4 : bil a b c d e f x y z x y z ≠ 0 := fun e => h (bil_zero ha h2 h3 e)
  omega
/-- Cauchy and Schwarz -/
theorem cauchy (x y z u v w : Int) : bil a b c d e f x y z u v w * bil a b c d e f x y z u v w ≤ bil a b c d e f x y z x y z * bil a b c d e f u v w u v w := by
  by_cases hv : u = 0 ∧ v = 0 ∧ w = 0
  · obtain ⟨rfl, rfl, rfl⟩ := hv
    have e1 : bil a b c d e f x y z 0 0 0 = 0 := by unfold bil; simp
    have e2 : bil a b c d e f 0 0 0 0 0 0 = 0 := by unfold bil; simp
    rw [e1, e2]
    simp
  · have hp := bil_pos ha h2 h3 hv
    have hn := bil_nn ha h2 h3 (bil a b c d e f u v w u v w * x + -(bil a b c d e f x y z u v w) * u) (bil a b c d e f u v w u v w * y + -(bil a b c d e f x y z u v w) * v) (bil a b c d e f u v w u v w * z + -(bil a b c d e f x y z u v w) * w)
    rw [bil_comb] at hn
    generalize bil a b c d e f x y z u v w = m at *
    generalize bil a b c d e f x y z x y z = p at *
    generalize bil a b c d e f u v w u v w = q at *
    have e3 : q * q * p + 2 * q * -m * m + -m * -m * q = q * (p * q - m * m) := by grind
    rw [e3] at hn
    by_cases h : p * q - m * m < 0
    · exfalso
      have h5 := Int.mul_pos hp (show 0 < -(p * q - m * m) by omega)
      rw [Int.mul_neg] at h5
      omega
    · omega
end
end Go.Dist
/- Plain law of spacings: the Euclidean loop, the adjugate. -/
namespace Go.Dist
open Go
/-- what the loop 'for b > 0 { a, b = b, a % b }' leaves in a -/
def euc (a b : Int) : Int := if h : 0 < b then euc b (a.tmod b) else a
termination_by b.toNat
decreasing_by have := Int.tmod_lt_of_pos a h; omega
theorem euc_step {a b : Int} (h : 0 < b) : euc b (a.tmod b) = euc a b := by rw [euc.eq_1 a b, dif_pos h]
theorem euc_done {a b : Int} (h : ¬ 0 < b) : euc a b = a := by rw [euc.eq_1 a b, dif_neg h]
theorem euc_less {a b : Int} (h : 0 < b) : (a.tmod b).toNat < b.toNat := by have := Int.tmod_lt_of_pos a h; omega
theorem euc_pos {a b : Int} (h : 0 < b) : 0 < euc a b := by
  generalize hn : b.toNat = n
  induction n using Nat.strongRecOn generalizing a b with
  | _ n ih =>
    rw [← euc_step h]
    by_cases h2 : 0 < a.tmod b
    · exact ih _ (by have := euc_less (a := a) h; omega) h2 rfl
    · rw [euc_done h2]; exact h
theorem euc_gcd {a b : Int} (ha : 0 ≤ a) (hb : 0 ≤ b) : euc a b = (Int.gcd a b : Int) := by
  generalize hn : b.toNat = n
  induction n using Nat.strongRecOn generalizing a b with
  | _ n ih =>
    by_cases h : 0 < b
    · rw [← euc_step h, ih _ (by have := euc_less (a := a) h; omega) hb (Int.tmod_nonneg b ha) rfl]
      rw [Int.tmod_eq_emod_of_nonneg ha]
      have e := Int.gcd_add_mul_left_right b (a % b) (a / b)
      rw [Int.emod_add_mul_ediv] at e
      rw [← e, Int.gcd_comm]
    · obtain rfl : b = 0 := by omega
      rw [euc_done h]
      simp; omega
section
variable (a b c d e f : Int)
def adjW1 (x y z : Int) : Int := (b * c - d * d) * x + (e * d - c * f) * y + (f * d - b * e) * z
def adjW2 (x y z : Int) : Int := (e * d - c * f) * x + (a * c - e * e) * y + (f * e - a * d) * z
def adjW3 (x y z : Int) : Int := (f * d - b * e) * x + (f * e - a * d) * y + (a * b - f * f) * z
def adjF (x y z : Int) : Int := bil (b * c - d * d) (a * c - e * e) (a * b - f * f) (f * e - a * d) (f * d - b * e) (e * d - c * f) x y z x y z
theorem adj1 (x y z : Int) : a * adjW1 b c d e f x y z + f * adjW2 a c d e f x y z + e * adjW3 a b d e f x y z = detM a b c d e f * x := by unfold adjW1 adjW2 adjW3 detM; grind
theorem adj2 (x y z : Int) : f * adjW1 b c d e f x y z + b * adjW2 a c d e f x y z + d * adjW3 a b d e f x y z = detM a b c d e f * y := by unfold adjW1 adjW2 adjW3 detM; grind
theorem adj3 (x y z : Int) : e * adjW1 b c d e f x y z + d * adjW2 a c d e f x y z + c * adjW3 a b d e f x y z = detM a b c d e f * z := by unfold adjW1 adjW2 adjW3 detM; grind
theorem adjF_w (x y z : Int) : adjF a b c d e f x y z = x * adjW1 b c d e f x y z + y * adjW2 a c d e f x y z + z * adjW3 a b d e f x y z := by unfold adjF bil adjW1 adjW2 adjW3; grind
theorem bil_row (x y z u v w : Int) : bil a b c d e f x y z u v w = (a * x + f * y + e * z) * u + (f * x + b * y + d * z) * v + (e * x + d * y + c * z) * w := by unfold bil; grind
theorem bil_adj (x y z u v w : Int) : bil a b c d e f (adjW1 b c d e f x y z) (adjW2 a c d e f x y z) (adjW3 a b d e f x y z) u v w = detM a b c d e f * (x * u + y * v + z * w) := by
  rw [bil_row, adj1, adj2, adj3]; grind
theorem bil_adj2 (x y z : Int) : bil a b c d e f (adjW1 b c d e f x y z) (adjW2 a c d e f x y z) (adjW3 a b d e f x y z) (adjW1 b c d e f x y z) (adjW2 a c d e f x y z) (adjW3 a b d e f x y z) = detM a b c d e f * adjF a b c d e f x y z := by
  rw [bil_adj, adjF_w]
variable {a b c d e f} (ha : 0 < a) (h2 : 0 < a * b - f * f) (h3 : 0 < detM a b c d e f)
include ha h2 h3
theorem adjF_nn (x y z : Int) : 0 ≤ adjF a b c d e f x y z := by
  have h := bil_nn (a := a) (b := b) (c := c) (d := d) (e := e) (f := f) ha h2 h3 (adjW1 b c d e f x y z) (adjW2 a c d e f x y z) (adjW3 a b d e f x y z)
  rw [bil_adj2] at h
  exact Int.nonneg_of_mul_nonneg_right h (by omega) |> fun h => h
/-- an edge's index against the edges -/
theorem dual (x y z u v w : Int) : detM a b c d e f * ((x * u + y * v + z * w) * (x * u + y * v + z * w)) ≤ adjF a b c d e f x y z * bil a b c d e f u v w u v w := by
  have h := cauchy (a := a) (b := b) (c := c) (d := d) (e := e) (f := f) ha h2 h3 (adjW1 b c d e f x y z) (adjW2 a c d e f x y z) (adjW3 a b d e f x y z) u v w
  rw [bil_adj, bil_adj2] at h
  refine Int.le_of_mul_le_mul_left (a := detM a b c d e f) ?_ h3
  have e1 : detM a b c d e f * (detM a b c d e f * ((x * u + y * v + z * w) * (x * u + y * v + z * w))) = detM a b c d e f * (x * u + y * v + z * w) * (detM a b c d e f * (x * u + y * v + z * w)) := by grind
  have e2 : detM a b c d e f * (adjF a b c d e f x y z * bil a b c d e f u v w u v w) = detM a b c d e f * adjF a b c d e f x y z * bil a b c d e f u v w u v w := by grind
  rw [e1, e2]
  exact h
end
end Go.Dist
/- Plain law of ratios compared. -/
namespace Go.Dist
open Go
def sgn (n : Int) : Int := if n < 0 then -1 else if 0 < n then 1 else 0
/-- is a ratio in form? -/
def frm (n d : Int) : Bool := decide (0 < d) && decide (Int.gcd n d = 1)
theorem frm_spec {n d : Int} (h : frm n d = true) : 0 < d ∧ Int.gcd n d = 1 := by
  simpa [frm] using h
theorem sgn_neg (n : Int) : sgn (-n) = -sgn n := by unfold sgn; split <;> split <;> (try split) <;> (try split) <;> omega
theorem sgn_le {n : Int} : sgn n ≤ 0 ↔ n ≤ 0 := by unfold sgn; split <;> (try split) <;> omega
theorem sgn_lt {n : Int} : sgn n < 0 ↔ n < 0 := by unfold sgn; split <;> (try split) <;> omega
theorem sgn_zero {n : Int} : sgn n = 0 ↔ n = 0 := by unfold sgn; split <;> (try split) <;> omega
theorem sgn_bd (n : Int) : -1 ≤ sgn n ∧ sgn n ≤ 1 := by unfold sgn; split <;> (try split) <;> omega
theorem low_eq {a b c d : Int} (h1 : frm a b = true) (h2 : frm c d = true) (h : a * d = c * b) : a = c ∧ b = d := by
  obtain ⟨hb, g1⟩ := frm_spec h1
  obtain ⟨hd, g2⟩ := frm_spec h2
  have hn : a.natAbs * d.natAbs = c.natAbs * b.natAbs := by rw [← Int.natAbs_mul, ← Int.natAbs_mul, h]
  have d1 : b ∣ d := Int.natAbs_dvd_natAbs.1 (Nat.Coprime.dvd_of_dvd_mul_left (m := a.natAbs) (by rw [Nat.Coprime, Nat.gcd_comm]; exact g1) ⟨c.natAbs, by rw [hn, Nat.mul_comm]⟩)
  have d2 : d ∣ b := Int.natAbs_dvd_natAbs.1 (Nat.Coprime.dvd_of_dvd_mul_left (m := c.natAbs) (by rw [Nat.Coprime, Nat.gcd_comm]; exact g2) ⟨a.natAbs, by rw [← hn, Nat.mul_comm]⟩)
  have e : b = d := Int.dvd_antisymm (Int.le_of_lt hb) (Int.le_of_lt hd) d1 d2
  subst e
  exact ⟨Int.eq_of_mul_eq_mul_right (by omega) h, rfl⟩
theorem le_trans3 {a b c d e f : Int} (hb : 0 < b) (hd : 0 < d) (hf : 0 < f) (h1 : a * d ≤ c * b) (h2 : c * f ≤ e * d) : a * f ≤ e * b := by
  refine Int.le_of_mul_le_mul_left (a := d) ?_ hd
  have k1 : a * d * f ≤ c * b * f := Int.mul_le_mul_of_nonneg_right h1 (Int.le_of_lt hf)
  have k2 : c * f * b ≤ e * d * b := Int.mul_le_mul_of_nonneg_right h2 (Int.le_of_lt hb)
  have e1 : d * (a * f) = a * d * f := by grind
  have e2 : d * (e * b) = e * d * b := by grind
  have e3 : c * b * f = c * f * b := by grind
  omega
theorem lt_trans3 {a b c d e f : Int} (hb : 0 < b) (hd : 0 < d) (hf : 0 < f) (h1 : a * d < c * b) (h2 : c * f ≤ e * d) : a * f < e * b := by
  refine Int.lt_of_mul_lt_mul_left (a := d) ?_ (Int.le_of_lt hd)
  have k1 : a * d * f < c * b * f := Int.mul_lt_mul_of_pos_right h1 hf
  have k2 : c * f * b ≤ e * d * b := Int.mul_le_mul_of_nonneg_right h2 (Int.le_of_lt hb)
  have e1 : d * (a * f) = a * d * f := by grind
  have e2 : d * (e * b) = e * d * b := by grind
  have e3 : c * b * f = c * f * b := by grind
  omega
/-- the two ratios compared, in form or not -/
def ratC (a b c d : Int) : Int := if frm a b = true ∧ frm c d = true then sgn (a * d - c * b) else 0
def ratE (a b c d : Int) : Int := if frm a b = true ∧ frm c d = true then 0 else 3
theorem ratE_comm (a b c d : Int) : ratE a b c d = ratE c d a b := by unfold ratE; split <;> split <;> simp_all
theorem ratC_neg (a b c d : Int) : ratC a b c d = -ratC c d a b := by
  unfold ratC
  split <;> split <;> first | (rw [← sgn_neg]; congr 1; omega) | simp_all
theorem ratC_zero {a b c d : Int} (h : ratE a b c d = 0) : ratC a b c d = 0 ↔ a = c ∧ b = d := by
  unfold ratE at h
  unfold ratC
  split at h
  · rename_i hf
    rw [if_pos hf, sgn_zero]
    exact ⟨fun h => low_eq hf.1 hf.2 (by omega), fun ⟨e1, e2⟩ => by subst e1; subst e2; omega⟩
  · cases h
theorem ratC_trans {a b c d e f : Int} (h1 : ratE a b c d = 0) (h2 : ratE c d e f = 0) (h3 : ratC a b c d ≤ 0) (h4 : ratC c d e f ≤ 0) : ratC a b e f ≤ 0 := by
  unfold ratE at h1 h2
  unfold ratC at h3 h4 ⊢
  split at h1
  · rename_i hf
    split at h2
    · rename_i hg
      rw [if_pos hf, sgn_le] at h3
      rw [if_pos hg, sgn_le] at h4
      rw [if_pos ⟨hf.1, hg.2⟩, sgn_le]
      have := le_trans3 (a := a) (c := c) (e := e) (frm_spec hf.1).1 (frm_spec hf.2).1 (frm_spec hg.2).1 (by omega) (by omega)
      omega
    · cases h2
  · cases h1
theorem ratC_transl {a b c d e f : Int} (h1 : ratE a b c d = 0) (h2 : ratE c d e f = 0) (h3 : ratC a b c d < 0) (h4 : ratC c d e f ≤ 0) : ratC a b e f < 0 := by
  unfold ratE at h1 h2
  unfold ratC at h3 h4 ⊢
  split at h1
  · rename_i hf
    split at h2
    · rename_i hg
      rw [if_pos hf, sgn_lt] at h3
      rw [if_pos hg, sgn_le] at h4
      rw [if_pos ⟨hf.1, hg.2⟩, sgn_lt]
      have := lt_trans3 (a := a) (c := c) (e := e) (frm_spec hf.1).1 (frm_spec hf.2).1 (frm_spec hg.2).1 (by omega) (by omega)
      omega
    · cases h2
  · cases h1
end Go.Dist

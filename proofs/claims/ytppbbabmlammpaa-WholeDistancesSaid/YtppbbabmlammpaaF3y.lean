import Derived.Test.YtppbbabmlammpaaF11
open Go Go.AM Go.Proofs
namespace Go.AM
open Dist
theorem cof_eq {a b c d : Int} (ha : Ent a) (hb : Ent b) (hc : Ent c) (hd : Ent d) : cof a b c d = a * d - b * c ∧ -242 ≤ a * d - b * c ∧ a * d - b * c ≤ 242 := by
  have h1 := ent_mul ha hd
  have h2 := ent_mul hb hc
  unfold cof
  rw [wr_id (n := a * d) (by omega) (by omega), wr_id (n := b * c) (by omega) (by omega), wr_id (n := a * d - b * c) (by omega) (by omega)]
  omega
theorem det9_eq {a b c d e f g h i : Int} (ha : Ent a) (hb : Ent b) (hc : Ent c) (hd : Ent d) (he : Ent e) (hf : Ent f) (hg : Ent g) (hh : Ent h) (hi : Ent i) : det9 a b c d e f g h i = det0 a b c d e f g h i := by
  obtain ⟨e1, b1⟩ := cof_eq he hf hh hi
  obtain ⟨e2, b2⟩ := cof_eq hf hd hi hg
  obtain ⟨e3, b3⟩ := cof_eq hd he hg hh
  have k1 : -(11 * 242) ≤ a * (e * i - f * h) ∧ a * (e * i - f * h) ≤ 11 * 242 := mul_bd ha b1
  have k2 : -(11 * 242) ≤ b * (f * g - d * i) ∧ b * (f * g - d * i) ≤ 11 * 242 := mul_bd hb b2
  have k3 : -(11 * 242) ≤ c * (d * h - e * g) ∧ c * (d * h - e * g) ≤ 11 * 242 := mul_bd hc b3
  unfold det9 det0
  rw [e1, e2, e3]
  generalize a * (e * i - f * h) = t1 at *
  generalize b * (f * g - d * i) = t2 at *
  generalize c * (d * h - e * g) = t3 at *
  rw [wr_id (n := t1) (by omega) (by omega), wr_id (n := t2) (by omega) (by omega), wr_id (n := t3) (by omega) (by omega), wr_id (n := t1 + t2) (by omega) (by omega), wr_id (n := t1 + t2 + t3) (by omega) (by omega)]
theorem mul3 {a b c : Int} (ha : G363 a) (hb : G363 b) (hc : G363 c) : IntKind.i64.wrap (IntKind.i64.wrap (a * b) * c) = a * b * c ∧ -47832147 ≤ a * b * c ∧ a * b * c ≤ 47832147 := by
  have h1 : -131769 ≤ a * b ∧ a * b ≤ 131769 := mul_bd ha hb
  have h2 : -47832147 ≤ a * b * c ∧ a * b * c ≤ 47832147 := mul_bd h1 hc
  rw [wr_id (n := a * b) (by omega) (by omega), wr_id (n := a * b * c) (by omega) (by omega)]
  exact ⟨rfl, h2⟩
theorem detG_eq {a b c d e f : Int} (ha : G363 a) (hb : G363 b) (hc : G363 c) (hd : G363 d) (he : G363 e) (hf : G363 f) : detG a b c d e f = a * b * c + 2 * d * e * f - a * d * d - b * e * e - c * f * f := by
  obtain ⟨e1, b1⟩ := mul3 ha hb hc
  obtain ⟨e3, b3⟩ := mul3 ha hd hd
  obtain ⟨e4, b4⟩ := mul3 hb he he
  obtain ⟨e5, b5⟩ := mul3 hc hf hf
  have k1 : -726 ≤ 2 * d ∧ 2 * d ≤ 726 := by unfold G363 at hd; omega
  have k2 : -263538 ≤ 2 * d * e ∧ 2 * d * e ≤ 263538 := mul_bd k1 he
  have k3 : -95664294 ≤ 2 * d * e * f ∧ 2 * d * e * f ≤ 95664294 := mul_bd k2 hf
  have e2 : IntKind.i64.wrap (IntKind.i64.wrap (IntKind.i64.wrap (2 * d) * e) * f) = 2 * d * e * f := by
    rw [wr_id (n := 2 * d) (by omega) (by omega), wr_id (n := 2 * d * e) (by omega) (by omega), wr_id (n := 2 * d * e * f) (by omega) (by omega)]
  unfold detG
  rw [e1, e2, e3, e4, e5]
  generalize a * b * c = t1 at *
  generalize 2 * d * e * f = t2 at *
  generalize a * d * d = t3 at *
  generalize b * e * e = t4 at *
  generalize c * f * f = t5 at *
  rw [wr_id (n := t1 + t2) (by omega) (by omega), wr_id (n := t1 + t2 - t3) (by omega) (by omega), wr_id (n := t1 + t2 - t3 - t4) (by omega) (by omega), wr_id (n := t1 + t2 - t3 - t4 - t5) (by omega) (by omega)]
theorem check_ok {a b c d e f g h i : Int} (ha : Ent a) (hb : Ent b) (hc : Ent c) (hd : Ent d) (he : Ent e) (hf : Ent f) (hg : Ent g) (hh : Ent h) (hi : Ent i) (h0 : det0 a b c d e f g h i ≠ 0) :
    checkC (dot3 a a d d g g) (dot3 b b e e h h) (dot3 c c f f i i) (dot3 b c e f h i) (dot3 a c d f g i) (dot3 a b d e g h) = 0 := by
  obtain ⟨e1, b1⟩ := dot3_eq ha ha hd hd hg hg
  obtain ⟨e2, b2⟩ := dot3_eq ha hb hd he hg hh
  obtain ⟨e3, b3⟩ := dot3_eq ha hc hd hf hg hi
  obtain ⟨e4, b4⟩ := dot3_eq hb hb he he hh hh
  obtain ⟨e5, b5⟩ := dot3_eq hb hc he hf hh hi
  obtain ⟨e6, b6⟩ := dot3_eq hc hc hf hf hi hi
  obtain ⟨p1, p2, p3⟩ := col_pos h0
  have h2 := two_pos h0
  have h3 := gram_det a b c d e f g h i
  have h4 := sq_pos h0
  rw [e1, e2, e3, e4, e5, e6]
  have hg := detG_eq b1 b4 b6 b5 b3 b2
  rw [h3] at hg
  have m1 : -131769 ≤ (a * a + d * d + g * g) * (b * b + e * e + h * h) ∧ (a * a + d * d + g * g) * (b * b + e * e + h * h) ≤ 131769 := mul_bd b1 b4
  have m2 : -131769 ≤ (a * b + d * e + g * h) * (a * b + d * e + g * h) ∧ (a * b + d * e + g * h) * (a * b + d * e + g * h) ≤ 131769 := mul_bd b2 b2
  unfold checkC
  rw [hg, wr_id (n := (a * a + d * d + g * g) * (b * b + e * e + h * h)) (by omega) (by omega), wr_id (n := (a * b + d * e + g * h) * (a * b + d * e + g * h)) (by omega) (by omega), wr_id (n := (a * a + d * d + g * g) * (b * b + e * e + h * h) - (a * b + d * e + g * h) * (a * b + d * e + g * h)) (by omega) (by omega)]
  rw [if_neg, if_neg]
  · simp only [Bool.or_eq_true, decide_eq_true_eq]; omega
  · simp only [low, far, Bool.or_eq_true, decide_eq_true_eq]; omega
theorem parts_eq {k : Int} (h : 0 ≤ k) : 0 ≤ k.tmod 4 ∧ right (shI .shl .i64 24 (k.tmod 4)) = true := by
  rw [Int.tmod_eq_emod_of_nonneg h]
  have h1 := Int.emod_nonneg k (show (4 : Int) ≠ 0 by decide)
  have h2 := Int.emod_lt_of_pos k (show (0 : Int) < 4 by decide)
  refine ⟨h1, ?_⟩
  generalize k % 4 = r at *
  have : r = 0 ∨ r = 1 ∨ r = 2 ∨ r = 3 := by omega
  rcases this with rfl | rfl | rfl | rfl
  · exact (by kernel_rfl : right (shI .shl .i64 24 0) = true)
  · exact (by kernel_rfl : right (shI .shl .i64 24 1) = true)
  · exact (by kernel_rfl : right (shI .shl .i64 24 2) = true)
  · exact (by kernel_rfl : right (shI .shl .i64 24 3) = true)
theorem form_of {m a b c : Int} (hr : right m = true) (ha : 0 ≤ a ∧ a < m) (hb : 0 ≤ b ∧ b < m) (hc : 0 ≤ c ∧ c < m) : form m a b c = true := by
  unfold form out
  rw [hr]
  simp
  omega
theorem bad10_ok {m a b c d e f : Int} (hr : right m = true) (ha : 0 ≤ a ∧ a < m) (hb : 0 ≤ b ∧ b < m) (hc : 0 ≤ c ∧ c < m) (hd : 0 ≤ d ∧ d < m) (he : 0 ≤ e ∧ e < m) (hf : 0 ≤ f ∧ f < m) : bad10 m a b c m d e f = 0 := by
  unfold bad10
  rw [form_of hr ha hb hc, form_of hr hd he hf]
  simp
theorem over3_ok {m a b c : Int} (hm : 24 ≤ m ∧ m ≤ 192) (ha : 0 ≤ a ∧ a < m) (hb : 0 ≤ b ∧ b < m) (hc : 0 ≤ c ∧ c < m) : over3 a b c = false := by
  have hw : IntKind.i64.wrap (0 - 1000) = -1000 := by decide
  simp only [over3, beyond, hw, Bool.or_eq_false_iff, decide_eq_false_iff_not]
  omega
theorem ent12 (x : Int) : Ent (e12 x) := by have := e12_abs x; unfold Ent; omega
/-- a product with two vectors, as the code reckons it -/
def prod9 (a b c d e f g h i u1 u2 u3 v1 v2 v3 : Int) : Int := IntKind.i64.wrap (IntKind.i64.wrap (IntKind.i64.wrap (IntKind.i64.wrap (IntKind.i64.wrap (IntKind.i64.wrap (IntKind.i64.wrap (IntKind.i64.wrap (IntKind.i64.wrap (0 + IntKind.i64.wrap (IntKind.i64.wrap (u1 * a) * v1)) + IntKind.i64.wrap (IntKind.i64.wrap (u1 * b) * v2)) + IntKind.i64.wrap (IntKind.i64.wrap (u1 * c) * v3)) + IntKind.i64.wrap (IntKind.i64.wrap (u2 * d) * v1)) + IntKind.i64.wrap (IntKind.i64.wrap (u2 * e) * v2)) + IntKind.i64.wrap (IntKind.i64.wrap (u2 * f) * v3)) + IntKind.i64.wrap (IntKind.i64.wrap (u3 * g) * v1)) + IntKind.i64.wrap (IntKind.i64.wrap (u3 * h) * v2)) + IntKind.i64.wrap (IntKind.i64.wrap (u3 * i) * v3))
theorem unit_eq {a b c d e f g h i u1 u2 u3 v1 v2 v3 x : Int} (ha : G363 a) (hb : G363 b) (hc : G363 c) (hd : G363 d) (he : G363 e) (hf : G363 f) (hg : G363 g) (hh : G363 h) (hi : G363 i)
    (hu1 : P192 u1) (hu2 : P192 u2) (hu3 : P192 u3) (hv1 : P192 v1) (hv2 : P192 v2) (hv3 : P192 v3)
    (hx : u1 * a * v1 + u1 * b * v2 + u1 * c * v3 + u2 * d * v1 + u2 * e * v2 + u2 * f * v3 + u3 * g * v1 + u3 * h * v2 + u3 * i * v3 = x) : prod9 a b c d e f g h i u1 u2 u3 v1 v2 v3 = x := by
  obtain ⟨e1, b1⟩ := term_eq hu1 ha hv1
  obtain ⟨e2, b2⟩ := term_eq hu1 hb hv2
  obtain ⟨e3, b3⟩ := term_eq hu1 hc hv3
  obtain ⟨e4, b4⟩ := term_eq hu2 hd hv1
  obtain ⟨e5, b5⟩ := term_eq hu2 he hv2
  obtain ⟨e6, b6⟩ := term_eq hu2 hf hv3
  obtain ⟨e7, b7⟩ := term_eq hu3 hg hv1
  obtain ⟨e8, b8⟩ := term_eq hu3 hh hv2
  obtain ⟨e9, b9⟩ := term_eq hu3 hi hv3
  unfold term at e1 e2 e3 e4 e5 e6 e7 e8 e9
  unfold prod9
  rw [e1, e2, e3, e4, e5, e6, e7, e8, e9]
  generalize u1 * a * v1 = t1 at *
  generalize u1 * b * v2 = t2 at *
  generalize u1 * c * v3 = t3 at *
  generalize u2 * d * v1 = t4 at *
  generalize u2 * e * v2 = t5 at *
  generalize u2 * f * v3 = t6 at *
  generalize u3 * g * v1 = t7 at *
  generalize u3 * h * v2 = t8 at *
  generalize u3 * i * v3 = t9 at *
  rw [wr_id (n := 0 + t1) (by omega) (by omega), wr_id (n := 0 + t1 + t2) (by omega) (by omega), wr_id (n := 0 + t1 + t2 + t3) (by omega) (by omega), wr_id (n := 0 + t1 + t2 + t3 + t4) (by omega) (by omega), wr_id (n := 0 + t1 + t2 + t3 + t4 + t5) (by omega) (by omega), wr_id (n := 0 + t1 + t2 + t3 + t4 + t5 + t6) (by omega) (by omega), wr_id (n := 0 + t1 + t2 + t3 + t4 + t5 + t6 + t7) (by omega) (by omega), wr_id (n := 0 + t1 + t2 + t3 + t4 + t5 + t6 + t7 + t8) (by omega) (by omega), wr_id (n := 0 + t1 + t2 + t3 + t4 + t5 + t6 + t7 + t8 + t9) (by omega) (by omega)]
  omega
theorem zb_id (x : Int) : zb (over9 1 0 0 0 1 0 0 0 1) x = x := by
  rw [show over9 1 0 0 0 1 0 0 0 1 = false from by kernel_rfl]
  rfl
theorem p0 : P192 0 := by unfold P192; omega
theorem p1 : P192 1 := by unfold P192; omega
end Go.AM

import Derived.Test.YtagcmdpmmmbedaaGreatDoorW1
/- The law of distances, of any length that is above nought but at nought, and the same for opposite vectors. -/
namespace Go.Dist
open Go
structure Norm (len : Int → Int → Int → Int) : Prop where
  nn : ∀ x y z, P192 x → P192 y → P192 z → 0 ≤ len x y z
  zero : len 0 0 0 = 0
  pos : ∀ x y z, P192 x → P192 y → P192 z → len x y z = 0 → x = 0 ∧ y = 0 ∧ z = 0
  neg : ∀ x y z, P192 x → P192 y → P192 z → len (-x) (-y) (-z) = len x y z
theorem nb_bd {w m z : Int} (hm : 24 ≤ m ∧ m ≤ 192) (hw : 0 ≤ w ∧ w < m) (h : z ∈ nb w m) : P192 z := by
  rcases mem_nb.1 h with h | h | h <;> (unfold P192; omega)
theorem nb_self {w m : Int} : w ∈ nb w m := mem_nb.2 (.inr (.inl rfl))
theorem nb_zero {w m : Int} (hm : 24 ≤ m ∧ m ≤ 192) (hw : 0 ≤ w ∧ w < m) (h : (0 : Int) ∈ nb w m) : w = 0 := by
  rcases mem_nb.1 h with h | h | h <;> omega
def minus (p q m : Int) : Int := modF (IntKind.i64.wrap (p - q)) m
section
variable {m : Int} (hm : 24 ≤ m ∧ m ≤ 192)
include hm
theorem minus_eq {p q : Int} (hp : 0 ≤ p ∧ p < m) (hq : 0 ≤ q ∧ q < m) : minus p q m = if p - q < 0 then p - q + m else p - q := by
  unfold minus
  rw [wr_id (by omega) (by omega)]
  exact modF_low hm (by omega)
theorem minus_in {p q : Int} : 0 ≤ minus p q m ∧ minus p q m < m := modF_in hm
theorem minus_zero {p q : Int} (hp : 0 ≤ p ∧ p < m) (hq : 0 ≤ q ∧ q < m) : minus p q m = 0 ↔ p = q := by
  rw [minus_eq hm hp hq]
  split <;> omega
theorem nb_neg {p q z : Int} (hp : 0 ≤ p ∧ p < m) (hq : 0 ≤ q ∧ q < m) (h : z ∈ nb (minus p q m) m) : -z ∈ nb (minus q p m) m := by
  rw [mem_nb] at *
  rw [minus_eq hm hq hp]
  rw [minus_eq hm hp hq] at h
  split at h <;> split <;> omega
variable {len : Int → Int → Int → Int} (hn : Norm len) {p1 p2 p3 q1 q2 q3 : Int} (h1 : 0 ≤ p1 ∧ p1 < m) (h2 : 0 ≤ p2 ∧ p2 < m) (h3 : 0 ≤ p3 ∧ p3 < m) (k1 : 0 ≤ q1 ∧ q1 < m) (k2 : 0 ≤ q2 ∧ q2 < m) (k3 : 0 ≤ q3 ∧ q3 < m)
/-- the least square of a distance -/
def dist (len : Int → Int → Int → Int) (m p1 p2 p3 q1 q2 q3 : Int) : Int := best3 len (nb (minus p1 q1 m) m) (nb (minus p2 q2 m) m) (nb (minus p3 q3 m) m) (-1)
def Vals (len : Int → Int → Int → Int) (m p1 p2 p3 q1 q2 q3 n : Int) : Prop := ∃ x, x ∈ nb (minus p1 q1 m) m ∧ ∃ y, y ∈ nb (minus p2 q2 m) m ∧ ∃ z, z ∈ nb (minus p3 q3 m) m ∧ len x y z = n
include hn
theorem vals_nn {n : Int} (h : Vals len m p1 p2 p3 q1 q2 q3 n) : 0 ≤ n := by
  obtain ⟨x, hx, y, hy, z, hz, rfl⟩ := h
  exact hn.nn x y z (nb_bd hm (minus_in hm) hx) (nb_bd hm (minus_in hm) hy) (nb_bd hm (minus_in hm) hz)
theorem dist_least : Least (Vals len m p1 p2 p3 q1 q2 q3) (dist len m p1 p2 p3 q1 q2 q3) := by
  have e : ∀ n, n ∈ all3 len (nb (minus p1 q1 m) m) (nb (minus p2 q2 m) m) (nb (minus p3 q3 m) m) ↔ Vals len m p1 p2 p3 q1 q2 q3 n := fun n => mem_all3 len
  have hv : Vals len m p1 p2 p3 q1 q2 q3 (len (minus p1 q1 m) (minus p2 q2 m) (minus p3 q3 m)) := ⟨_, nb_self, _, nb_self, _, nb_self, rfl⟩
  have := fold_neg (a := -1) (by omega) (fun n hx => vals_nn hm hn ((e n).1 hx)) (List.ne_nil_of_mem ((e _).2 hv))
  unfold dist
  rw [best3_eq]
  exact ⟨(e _).1 this.1, fun n hx => this.2 n ((e n).2 hx)⟩
theorem dist_nn : 0 ≤ dist len m p1 p2 p3 q1 q2 q3 := vals_nn hm hn (dist_least hm hn).1
theorem dist_le : dist len m p1 p2 p3 q1 q2 q3 ≤ len (minus p1 q1 m) (minus p2 q2 m) (minus p3 q3 m) := (dist_least hm hn).2 _ ⟨_, nb_self, _, nb_self, _, nb_self, rfl⟩
include h1 h2 h3 k1 k2 k3
theorem vals_neg {n : Int} (h : Vals len m p1 p2 p3 q1 q2 q3 n) : Vals len m q1 q2 q3 p1 p2 p3 n := by
  obtain ⟨x, hx, y, hy, z, hz, rfl⟩ := h
  exact ⟨-x, nb_neg hm h1 k1 hx, -y, nb_neg hm h2 k2 hy, -z, nb_neg hm h3 k3 hz, hn.neg x y z (nb_bd hm (minus_in hm) hx) (nb_bd hm (minus_in hm) hy) (nb_bd hm (minus_in hm) hz)⟩
theorem dist_sym : dist len m p1 p2 p3 q1 q2 q3 = dist len m q1 q2 q3 p1 p2 p3 :=
  (dist_least hm hn).eq (dist_least hm hn) fun _ => ⟨vals_neg hm hn h1 h2 h3 k1 k2 k3, vals_neg hm hn k1 k2 k3 h1 h2 h3⟩
theorem dist_zero : dist len m p1 p2 p3 q1 q2 q3 = 0 ↔ p1 = q1 ∧ p2 = q2 ∧ p3 = q3 := by
  constructor
  · intro h
    obtain ⟨x, hx, y, hy, z, hz, e⟩ := (dist_least (p1 := p1) (p2 := p2) (p3 := p3) (q1 := q1) (q2 := q2) (q3 := q3) hm hn).1
    rw [h] at e
    obtain ⟨rfl, rfl, rfl⟩ := hn.pos x y z (nb_bd hm (minus_in hm) hx) (nb_bd hm (minus_in hm) hy) (nb_bd hm (minus_in hm) hz) e
    exact ⟨(minus_zero hm h1 k1).1 (nb_zero hm (minus_in hm) hx), (minus_zero hm h2 k2).1 (nb_zero hm (minus_in hm) hy), (minus_zero hm h3 k3).1 (nb_zero hm (minus_in hm) hz)⟩
  · rintro ⟨e1, e2, e3⟩
    have h := dist_le (p1 := p1) (p2 := p2) (p3 := p3) (q1 := q1) (q2 := q2) (q3 := q3) hm hn
    rw [(minus_zero hm h1 k1).2 e1, (minus_zero hm h2 k2).2 e2, (minus_zero hm h3 k3).2 e3, hn.zero] at h
    have := dist_nn (p1 := p1) (p2 := p2) (p3 := p3) (q1 := q1) (q2 := q2) (q3 := q3) hm hn
    omega
end
/-- the length in the Gram matrix of three columns -/
def gramLen (a b c d e f g h i x y z : Int) : Int := len9 (dot3 a a d d g g) (dot3 a b d e g h) (dot3 a c d f g i) (dot3 a b d e g h) (dot3 b b e e h h) (dot3 b c e f h i) (dot3 a c d f g i) (dot3 b c e f h i) (dot3 c c f f i i) x y z
section
variable {a b c d e f g h i : Int} (ha : Ent a) (hb : Ent b) (hc : Ent c) (hd : Ent d) (he : Ent e) (hf : Ent f) (hg : Ent g) (hh : Ent h) (hi : Ent i)
include ha hb hc hd he hf hg hh hi
theorem gramLen_eq {x y z : Int} (hx : P192 x) (hy : P192 y) (hz : P192 z) : gramLen a b c d e f g h i x y z = (a * x + b * y + c * z) * (a * x + b * y + c * z) + (d * x + e * y + f * z) * (d * x + e * y + f * z) + (g * x + h * y + i * z) * (g * x + h * y + i * z) := by
  unfold gramLen
  obtain ⟨e1, b1⟩ := dot3_eq ha ha hd hd hg hg
  obtain ⟨e2, b2⟩ := dot3_eq ha hb hd he hg hh
  obtain ⟨e3, b3⟩ := dot3_eq ha hc hd hf hg hi
  obtain ⟨e4, b4⟩ := dot3_eq hb hb he he hh hh
  obtain ⟨e5, b5⟩ := dot3_eq hb hc he hf hh hi
  obtain ⟨e6, b6⟩ := dot3_eq hc hc hf hf hi hi
  rw [e1, e2, e3, e4, e5, e6, len9_eq b1 b2 b3 b2 b4 b5 b3 b5 b6 hx hy hz, gram_len]
theorem gram_norm (h0 : det0 a b c d e f g h i ≠ 0) : Norm (gramLen a b c d e f g h i) := by
  have eq := fun {x y z : Int} (hx : P192 x) (hy : P192 y) (hz : P192 z) => gramLen_eq ha hb hc hd he hf hg hh hi hx hy hz
  have z0 : P192 0 := by unfold P192; omega
  refine ⟨fun x y z hx hy hz => ?_, ?_, fun x y z hx hy hz hxx => ?_, fun x y z hx hy hz => ?_⟩
  · rw [eq hx hy hz]
    have h1 := sq_nn (a * x + b * y + c * z)
    have h2 := sq_nn (d * x + e * y + f * z)
    have h3 := sq_nn (g * x + h * y + i * z)
    omega
  · rw [eq z0 z0 z0]
    simp
  · rw [eq hx hy hz] at hxx
    have h1 := sq_nn (a * x + b * y + c * z)
    have h2 := sq_nn (d * x + e * y + f * z)
    have h3 := sq_nn (g * x + h * y + i * z)
    exact kernel0 h0 (sq_zero (by omega)) (sq_zero (by omega)) (sq_zero (by omega))
  · have nx : P192 (-x) := by unfold P192 at *; omega
    have ny : P192 (-y) := by unfold P192 at *; omega
    have nz : P192 (-z) := by unfold P192 at *; omega
    rw [eq hx hy hz, eq nx ny nz]
    grind
end
end Go.Dist

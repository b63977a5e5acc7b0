import Derived.Test.YtcinopdklobldaaGreatDoorCZ0
import Derived.Test.YtcinopdklobldaaGreatDoorCB9
import Derived.Test.YtcinopdklobldaaGreatDoorCW6
open Go Go.AM Go.Proofs
namespace Go.AM
open Dist
def H10 (x : Int) : Prop := -20000000000 ≤ x ∧ x ≤ 20000000000
def P5 (x : Int) : Prop := -512 ≤ x ∧ x ≤ 512
theorem bigger_term {u x v : Int} (hu : P5 u) (hx : H10 x) (hv : P5 v) : IntKind.i64.wrap (IntKind.i64.wrap (u * x) * v) = u * x * v ∧ -5242880000000000 ≤ u * x * v ∧ u * x * v ≤ 5242880000000000 := by
  have h1 : -10240000000000 ≤ u * x ∧ u * x ≤ 10240000000000 := mul_bd hu hx
  have h2 : -5242880000000000 ≤ u * x * v ∧ u * x * v ≤ 5242880000000000 := mul_bd h1 hv
  rw [wr_id (n := u * x) (by omega) (by omega), wr_id (n := u * x * v) (by omega) (by omega)]
  exact ⟨rfl, h2⟩
theorem prod9_bigger {a b c d e f u1 u2 u3 v1 v2 v3 : Int} (ha : H10 a) (hb : H10 b) (hc : H10 c) (hd : H10 d) (he : H10 e) (hf : H10 f)
    (hu1 : P5 u1) (hu2 : P5 u2) (hu3 : P5 u3) (hv1 : P5 v1) (hv2 : P5 v2) (hv3 : P5 v3) :
    prod9 a f e f b d e d c u1 u2 u3 v1 v2 v3 = bil a b c d e f u1 u2 u3 v1 v2 v3 ∧ -47185920000000000 ≤ bil a b c d e f u1 u2 u3 v1 v2 v3 ∧ bil a b c d e f u1 u2 u3 v1 v2 v3 ≤ 47185920000000000 := by
  obtain ⟨e1, b1⟩ := bigger_term hu1 ha hv1
  obtain ⟨e2, b2⟩ := bigger_term hu1 hf hv2
  obtain ⟨e3, b3⟩ := bigger_term hu1 he hv3
  obtain ⟨e4, b4⟩ := bigger_term hu2 hf hv1
  obtain ⟨e5, b5⟩ := bigger_term hu2 hb hv2
  obtain ⟨e6, b6⟩ := bigger_term hu2 hd hv3
  obtain ⟨e7, b7⟩ := bigger_term hu3 he hv1
  obtain ⟨e8, b8⟩ := bigger_term hu3 hd hv2
  obtain ⟨e9, b9⟩ := bigger_term hu3 hc hv3
  unfold prod9 bil
  rw [e1, e2, e3, e4, e5, e6, e7, e8, e9]
  generalize u1 * a * v1 = t1 at *
  generalize u1 * f * v2 = t2 at *
  generalize u1 * e * v3 = t3 at *
  generalize u2 * f * v1 = t4 at *
  generalize u2 * b * v2 = t5 at *
  generalize u2 * d * v3 = t6 at *
  generalize u3 * e * v1 = t7 at *
  generalize u3 * d * v2 = t8 at *
  generalize u3 * c * v3 = t9 at *
  rw [wr_id (n := 0 + t1) (by omega) (by omega), wr_id (n := 0 + t1 + t2) (by omega) (by omega), wr_id (n := 0 + t1 + t2 + t3) (by omega) (by omega), wr_id (n := 0 + t1 + t2 + t3 + t4) (by omega) (by omega), wr_id (n := 0 + t1 + t2 + t3 + t4 + t5) (by omega) (by omega), wr_id (n := 0 + t1 + t2 + t3 + t4 + t5 + t6) (by omega) (by omega), wr_id (n := 0 + t1 + t2 + t3 + t4 + t5 + t6 + t7) (by omega) (by omega), wr_id (n := 0 + t1 + t2 + t3 + t4 + t5 + t6 + t7 + t8) (by omega) (by omega), wr_id (n := 0 + t1 + t2 + t3 + t4 + t5 + t6 + t7 + t8 + t9) (by omega) (by omega)]
  omega
theorem minor_eq {p q r s : Int} (hp : H5 p) (hq : H5 q) (hr : H5 r) (hs : H5 s) : IntKind.i64.wrap (IntKind.i64.wrap (p * q) - IntKind.i64.wrap (r * s)) = p * q - r * s ∧ H10 (p * q - r * s) := by
  have h1 := h5_mul hp hq
  have h2 := h5_mul hr hs
  rw [wr_id (n := p * q) (by omega) (by omega), wr_id (n := r * s) (by omega) (by omega), wr_id (by omega) (by omega)]
  exact ⟨rfl, by unfold H10; omega⟩
theorem spA_big {a b c d e f x y z : Int} (h : checkC a b c d e f = 0) (hx : P5 x) (hy : P5 y) (hz : P5 z) : spA a b c d e f x y z = adjF a b c d e f x y z ∧ 0 ≤ adjF a b c d e f x y z ∧ adjF a b c d e f x y z ≤ 47185920000000000 := by
  obtain ⟨ha, hb, hc, hd, he, hf, h2, h3⟩ := check_spec h
  obtain ⟨e1, k1⟩ := minor_eq hb.2 hc.2 hd hd
  obtain ⟨e2, k2⟩ := minor_eq he hd hc.2 hf
  obtain ⟨e3, k3⟩ := minor_eq hf hd hb.2 he
  obtain ⟨e4, k4⟩ := minor_eq ha.2 hc.2 he he
  obtain ⟨e5, k5⟩ := minor_eq hf he ha.2 hd
  obtain ⟨e6, k6⟩ := minor_eq ha.2 hb.2 hf hf
  have := prod9_bigger k1 k4 k6 k5 k3 k2 hx hy hz hx hy hz
  unfold spA
  rw [e1, e2, e3, e4, e5, e6]
  exact ⟨this.1, adjF_nn (by omega) h2 h3 x y z, this.2.2⟩
end Go.AM

import Derived.Test.YtagcmdpmmmbedaaGreatDoorCE
open Go Go.AM Go.Proofs
namespace Go.AM
open Dist
def P3 (x : Int) : Prop := -1000 ≤ x ∧ x ≤ 1000
theorem big_term {u x v : Int} (hu : P3 u) (hx : H5 x) (hv : P3 v) : IntKind.i64.wrap (IntKind.i64.wrap (u * x) * v) = u * x * v ∧ -100000000000 ≤ u * x * v ∧ u * x * v ≤ 100000000000 := by
  have h1 : -100000000 ≤ u * x ∧ u * x ≤ 100000000 := mul_bd hu hx
  have h2 : -100000000000 ≤ u * x * v ∧ u * x * v ≤ 100000000000 := mul_bd h1 hv
  rw [wr_id (n := u * x) (by omega) (by omega), wr_id (n := u * x * v) (by omega) (by omega)]
  exact ⟨rfl, h2⟩
theorem prod9_big {a b c d e f u1 u2 u3 v1 v2 v3 : Int} (ha : H5 a) (hb : H5 b) (hc : H5 c) (hd : H5 d) (he : H5 e) (hf : H5 f)
    (hu1 : P3 u1) (hu2 : P3 u2) (hu3 : P3 u3) (hv1 : P3 v1) (hv2 : P3 v2) (hv3 : P3 v3) :
    prod9 a f e f b d e d c u1 u2 u3 v1 v2 v3 = bil a b c d e f u1 u2 u3 v1 v2 v3 ∧ -900000000000 ≤ bil a b c d e f u1 u2 u3 v1 v2 v3 ∧ bil a b c d e f u1 u2 u3 v1 v2 v3 ≤ 900000000000 := by
  obtain ⟨e1, b1⟩ := big_term hu1 ha hv1
  obtain ⟨e2, b2⟩ := big_term hu1 hf hv2
  obtain ⟨e3, b3⟩ := big_term hu1 he hv3
  obtain ⟨e4, b4⟩ := big_term hu2 hf hv1
  obtain ⟨e5, b5⟩ := big_term hu2 hb hv2
  obtain ⟨e6, b6⟩ := big_term hu2 hd hv3
  obtain ⟨e7, b7⟩ := big_term hu3 he hv1
  obtain ⟨e8, b8⟩ := big_term hu3 hd hv2
  obtain ⟨e9, b9⟩ := big_term hu3 hc hv3
  unfold prod9 bil
  rw [e1, e2, e3, e4, e5, e6, e7, e8, e9]
  generalize u1 * a * v1 = t1 at *
  generalize u1 * f * v2 = t2 at *
  generalize u1 * e * v3 = t3 at *
  generalize u2 * f * v1 = t4 at *
  generalize u2 * b * v2 = t5 at *
  generalize u2 * d * v3 = t6 at *
  generalize u3 * e * v1 = t7 at *
  generalize u3 * d * v2 = t8 at *
  generalize u3 * c * v3 = t9 at *
  rw [wr_id (n := 0 + t1) (by omega) (by omega), wr_id (n := 0 + t1 + t2) (by omega) (by omega), wr_id (n := 0 + t1 + t2 + t3) (by omega) (by omega), wr_id (n := 0 + t1 + t2 + t3 + t4) (by omega) (by omega), wr_id (n := 0 + t1 + t2 + t3 + t4 + t5) (by omega) (by omega), wr_id (n := 0 + t1 + t2 + t3 + t4 + t5 + t6) (by omega) (by omega), wr_id (n := 0 + t1 + t2 + t3 + t4 + t5 + t6 + t7) (by omega) (by omega), wr_id (n := 0 + t1 + t2 + t3 + t4 + t5 + t6 + t7 + t8) (by omega) (by omega), wr_id (n := 0 + t1 + t2 + t3 + t4 + t5 + t6 + t7 + t8 + t9) (by omega) (by omega)]
  omega
end Go.AM

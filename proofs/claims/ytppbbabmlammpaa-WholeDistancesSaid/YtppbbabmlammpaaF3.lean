import Derived.Test.YtppbbabmlammpaaF2
open Go Go.AM Go.Proofs
namespace Go.AM
def q35 : PSpec
  | [.v (.agg [.sym .i64 a, .sym .i64 b, .sym .i64 c, .sym .i64 d, .sym .i64 e, .sym .i64 f])] => .ok (AV.v (PV.one (SV.sym IntKind.i64 (IntKind.i64.wrap (IntKind.i64.wrap (IntKind.i64.wrap (IntKind.i64.wrap (IntKind.i64.wrap (IntKind.i64.wrap (a * b) * c) + IntKind.i64.wrap (IntKind.i64.wrap (IntKind.i64.wrap (2 * d) * e) * f)) - IntKind.i64.wrap (IntKind.i64.wrap (a * d) * d)) - IntKind.i64.wrap (IntKind.i64.wrap (b * e) * e)) - IntKind.i64.wrap (IntKind.i64.wrap (c * f) * f))))))
  | _ => .fail
theorem nf35 (a b c d e f : Int) (K : KV) : call P G1 noAnn 100000 Try.f35 [M6 a b c d e f] [] K = (K (AV.v (PV.one (SV.sym IntKind.i64 (IntKind.i64.wrap (IntKind.i64.wrap (IntKind.i64.wrap (IntKind.i64.wrap (IntKind.i64.wrap (IntKind.i64.wrap (a * b) * c) + IntKind.i64.wrap (IntKind.i64.wrap (IntKind.i64.wrap (2 * d) * e) * f)) - IntKind.i64.wrap (IntKind.i64.wrap (a * d) * d)) - IntKind.i64.wrap (IntKind.i64.wrap (b * e) * e)) - IntKind.i64.wrap (IntKind.i64.wrap (c * f) * f)))))) []) := by kernel_rfl
theorem h35 : Holds P G1 35 q35 := by
  refine holds_ok (fn := Try.f35) (by kernel_rfl) (by kernel_rfl) fun args av h => ?_
  unfold q35 at h
  split at h
  · rw [gives_ok h]
    refine ⟨rfl, _, rfl, ?_⟩
    rw [nf35]
    exact ⟨rfl, rfl⟩
  · exact (gives_fail h).elim
def q14 : PSpec
  | [.v (.agg [.sym .i64 a, .sym .i64 b, .sym .i64 c]), .v (.agg [.sym .i64 d, .sym .i64 e, .sym .i64 f])] => .ok (AV.v (PV.one (SV.sym IntKind.i64 (IntKind.i64.wrap (IntKind.i64.wrap (IntKind.i64.wrap (a * d) + IntKind.i64.wrap (b * e)) + IntKind.i64.wrap (c * f))))))
  | _ => .fail
theorem nf14 (a b c d e f : Int) (K : KV) : call P G1 noAnn 100000 Try.f14 [V a b c, V d e f] [] K = (K (AV.v (PV.one (SV.sym IntKind.i64 (IntKind.i64.wrap (IntKind.i64.wrap (IntKind.i64.wrap (a * d) + IntKind.i64.wrap (b * e)) + IntKind.i64.wrap (c * f)))))) []) := by kernel_rfl
theorem h14 : Holds P G1 14 q14 := by
  refine holds_ok (fn := Try.f14) (by kernel_rfl) (by kernel_rfl) fun args av h => ?_
  unfold q14 at h
  split at h
  · rw [gives_ok h]
    refine ⟨rfl, _, rfl, ?_⟩
    rw [nf14]
    exact ⟨rfl, rfl⟩
  · exact (gives_fail h).elim
def q21 : PSpec
  | [.v (.agg [.sym .i64 a, .sym .i64 b, .sym .i64 c, .sym .i64 d, .sym .i64 e, .sym .i64 f])] => .ok (AV.v (PV.agg [SV.sym IntKind.i64 a, SV.sym IntKind.i64 f, SV.sym IntKind.i64 e, SV.sym IntKind.i64 f, SV.sym IntKind.i64 b, SV.sym IntKind.i64 d, SV.sym IntKind.i64 e, SV.sym IntKind.i64 d, SV.sym IntKind.i64 c]))
  | _ => .fail
theorem nf21 (a b c d e f : Int) (K : KV) : call P G1 noAnn 100000 Try.f21 [M6 a b c d e f] [] K = (K (AV.v (PV.agg [SV.sym IntKind.i64 a, SV.sym IntKind.i64 f, SV.sym IntKind.i64 e, SV.sym IntKind.i64 f, SV.sym IntKind.i64 b, SV.sym IntKind.i64 d, SV.sym IntKind.i64 e, SV.sym IntKind.i64 d, SV.sym IntKind.i64 c])) []) := by kernel_rfl
theorem h21 : Holds P G1 21 q21 := by
  refine holds_ok (fn := Try.f21) (by kernel_rfl) (by kernel_rfl) fun args av h => ?_
  unfold q21 at h
  split at h
  · rw [gives_ok h]
    refine ⟨rfl, _, rfl, ?_⟩
    rw [nf21]
    exact ⟨rfl, rfl⟩
  · exact (gives_fail h).elim
def q37 : PSpec
  | [.v (.agg [.sym .i64 a, .sym .i64 b, .sym .i64 c, .sym .i64 d, .sym .i64 e, .sym .i64 f, .sym .i64 g, .sym .i64 h, .sym .i64 i])] => .ok (AV.v (PV.agg [SV.sym IntKind.i64 a, SV.sym IntKind.i64 d, SV.sym IntKind.i64 g, SV.sym IntKind.i64 b, SV.sym IntKind.i64 e, SV.sym IntKind.i64 h, SV.sym IntKind.i64 c, SV.sym IntKind.i64 f, SV.sym IntKind.i64 i]))
  | _ => .fail
theorem nf37 (a b c d e f g h i : Int) (K : KV) : call P G1 noAnn 100000 Try.f37 [M a b c d e f g h i] [] K = (K (AV.v (PV.agg [SV.sym IntKind.i64 a, SV.sym IntKind.i64 d, SV.sym IntKind.i64 g, SV.sym IntKind.i64 b, SV.sym IntKind.i64 e, SV.sym IntKind.i64 h, SV.sym IntKind.i64 c, SV.sym IntKind.i64 f, SV.sym IntKind.i64 i])) []) := by kernel_rfl
theorem h37 : Holds P G1 37 q37 := by
  refine holds_ok (fn := Try.f37) (by kernel_rfl) (by kernel_rfl) fun args av h => ?_
  unfold q37 at h
  split at h
  · rw [gives_ok h]
    refine ⟨rfl, _, rfl, ?_⟩
    rw [nf37]
    exact ⟨rfl, rfl⟩
  · exact (gives_fail h).elim
def q38 : PSpec
  | [] => .ok (AV.v (PV.agg [SV.con IntKind.i64 1, SV.con IntKind.i64 0, SV.con IntKind.i64 0, SV.con IntKind.i64 0, SV.con IntKind.i64 1, SV.con IntKind.i64 0, SV.con IntKind.i64 0, SV.con IntKind.i64 0, SV.con IntKind.i64 1]))
  | _ => .fail
theorem nf38  (K : KV) : call P G1 noAnn 100000 Try.f38 [] [] K = (K (AV.v (PV.agg [SV.con IntKind.i64 1, SV.con IntKind.i64 0, SV.con IntKind.i64 0, SV.con IntKind.i64 0, SV.con IntKind.i64 1, SV.con IntKind.i64 0, SV.con IntKind.i64 0, SV.con IntKind.i64 0, SV.con IntKind.i64 1])) []) := by kernel_rfl
theorem h38 : Holds P G1 38 q38 := by
  refine holds_ok (fn := Try.f38) (by kernel_rfl) (by kernel_rfl) fun args av h => ?_
  unfold q38 at h
  split at h
  · rw [gives_ok h]
    refine ⟨rfl, _, rfl, ?_⟩
    rw [nf38]
    exact ⟨rfl, rfl⟩
  · exact (gives_fail h).elim
def q29 : PSpec
  | [] => .ok (AV.v (PV.agg [SV.con IntKind.i64 1, SV.con IntKind.i64 0, SV.con IntKind.i64 0, SV.con IntKind.i64 0, SV.con IntKind.i64 1, SV.con IntKind.i64 0, SV.con IntKind.i64 0, SV.con IntKind.i64 0, SV.con IntKind.i64 1, SV.con IntKind.i64 0, SV.con IntKind.i64 0, SV.con IntKind.i64 0]))
  | _ => .fail
theorem nf29  (K : KV) : call P G1 noAnn 100000 Try.f29 [] [] K = (K (AV.v (PV.agg [SV.con IntKind.i64 1, SV.con IntKind.i64 0, SV.con IntKind.i64 0, SV.con IntKind.i64 0, SV.con IntKind.i64 1, SV.con IntKind.i64 0, SV.con IntKind.i64 0, SV.con IntKind.i64 0, SV.con IntKind.i64 1, SV.con IntKind.i64 0, SV.con IntKind.i64 0, SV.con IntKind.i64 0])) []) := by kernel_rfl
theorem h29 : Holds P G1 29 q29 := by
  refine holds_ok (fn := Try.f29) (by kernel_rfl) (by kernel_rfl) fun args av h => ?_
  unfold q29 at h
  split at h
  · rw [gives_ok h]
    refine ⟨rfl, _, rfl, ?_⟩
    rw [nf29]
    exact ⟨rfl, rfl⟩
  · exact (gives_fail h).elim
def q22 : PSpec
  | [.v (.agg [.sym .i64 a, .sym .i64 b, .sym .i64 c, .sym .i64 d, .sym .i64 e, .sym .i64 f, .sym .i64 g, .sym .i64 h, .sym .i64 i]), .v (.agg [.sym .i64 u1, .sym .i64 u2, .sym .i64 u3]), .v (.agg [.sym .i64 v1, .sym .i64 v2, .sym .i64 v3])] => .ok (AV.v (PV.one (SV.sym IntKind.i64 (IntKind.i64.wrap (IntKind.i64.wrap (IntKind.i64.wrap (IntKind.i64.wrap (IntKind.i64.wrap (IntKind.i64.wrap (IntKind.i64.wrap (IntKind.i64.wrap (IntKind.i64.wrap (0 + IntKind.i64.wrap (IntKind.i64.wrap (u1 * a) * v1)) + IntKind.i64.wrap (IntKind.i64.wrap (u1 * b) * v2)) + IntKind.i64.wrap (IntKind.i64.wrap (u1 * c) * v3)) + IntKind.i64.wrap (IntKind.i64.wrap (u2 * d) * v1)) + IntKind.i64.wrap (IntKind.i64.wrap (u2 * e) * v2)) + IntKind.i64.wrap (IntKind.i64.wrap (u2 * f) * v3)) + IntKind.i64.wrap (IntKind.i64.wrap (u3 * g) * v1)) + IntKind.i64.wrap (IntKind.i64.wrap (u3 * h) * v2)) + IntKind.i64.wrap (IntKind.i64.wrap (u3 * i) * v3))))))
  | _ => .fail
theorem nf22 (a b c d e f g h i u1 u2 u3 v1 v2 v3 : Int) (K : KV) : call P G1 noAnn 100000 Try.f22 [M a b c d e f g h i, V u1 u2 u3, V v1 v2 v3] [] K = (K (AV.v (PV.one (SV.sym IntKind.i64 (IntKind.i64.wrap (IntKind.i64.wrap (IntKind.i64.wrap (IntKind.i64.wrap (IntKind.i64.wrap (IntKind.i64.wrap (IntKind.i64.wrap (IntKind.i64.wrap (IntKind.i64.wrap (0 + IntKind.i64.wrap (IntKind.i64.wrap (u1 * a) * v1)) + IntKind.i64.wrap (IntKind.i64.wrap (u1 * b) * v2)) + IntKind.i64.wrap (IntKind.i64.wrap (u1 * c) * v3)) + IntKind.i64.wrap (IntKind.i64.wrap (u2 * d) * v1)) + IntKind.i64.wrap (IntKind.i64.wrap (u2 * e) * v2)) + IntKind.i64.wrap (IntKind.i64.wrap (u2 * f) * v3)) + IntKind.i64.wrap (IntKind.i64.wrap (u3 * g) * v1)) + IntKind.i64.wrap (IntKind.i64.wrap (u3 * h) * v2)) + IntKind.i64.wrap (IntKind.i64.wrap (u3 * i) * v3)))))) []) := by kernel_rfl
theorem h22 : Holds P G1 22 q22 := by
  refine holds_ok (fn := Try.f22) (by kernel_rfl) (by kernel_rfl) fun args av h => ?_
  unfold q22 at h
  split at h
  · rw [gives_ok h]
    refine ⟨rfl, _, rfl, ?_⟩
    rw [nf22]
    exact ⟨rfl, rfl⟩
  · exact (gives_fail h).elim
def q13 : PSpec
  | [.v (.agg [.sym .i8 a, .sym .i8 b, .sym .i8 c, .sym .i8 d, .sym .i8 e, .sym .i8 f, .sym .i8 g, .sym .i8 h, .sym .i8 i])] => .ok (AV.v (PV.agg [SV.sym IntKind.i64 ((IntKind.i64.wrap a).tmod 12), SV.sym IntKind.i64 ((IntKind.i64.wrap b).tmod 12), SV.sym IntKind.i64 ((IntKind.i64.wrap c).tmod 12), SV.sym IntKind.i64 ((IntKind.i64.wrap d).tmod 12), SV.sym IntKind.i64 ((IntKind.i64.wrap e).tmod 12), SV.sym IntKind.i64 ((IntKind.i64.wrap f).tmod 12), SV.sym IntKind.i64 ((IntKind.i64.wrap g).tmod 12), SV.sym IntKind.i64 ((IntKind.i64.wrap h).tmod 12), SV.sym IntKind.i64 ((IntKind.i64.wrap i).tmod 12)]))
  | _ => .fail
theorem nf13 (a b c d e f g h i : Int) (K : KV) : call P G1 noAnn 100000 Try.f13 [.v (.agg [.sym .i8 a, .sym .i8 b, .sym .i8 c, .sym .i8 d, .sym .i8 e, .sym .i8 f, .sym .i8 g, .sym .i8 h, .sym .i8 i])] [] K = (K (AV.v (PV.agg [SV.sym IntKind.i64 ((IntKind.i64.wrap a).tmod 12), SV.sym IntKind.i64 ((IntKind.i64.wrap b).tmod 12), SV.sym IntKind.i64 ((IntKind.i64.wrap c).tmod 12), SV.sym IntKind.i64 ((IntKind.i64.wrap d).tmod 12), SV.sym IntKind.i64 ((IntKind.i64.wrap e).tmod 12), SV.sym IntKind.i64 ((IntKind.i64.wrap f).tmod 12), SV.sym IntKind.i64 ((IntKind.i64.wrap g).tmod 12), SV.sym IntKind.i64 ((IntKind.i64.wrap h).tmod 12), SV.sym IntKind.i64 ((IntKind.i64.wrap i).tmod 12)])) []) := by kernel_rfl
theorem h13 : Holds P G1 13 q13 := by
  refine holds_ok (fn := Try.f13) (by kernel_rfl) (by kernel_rfl) fun args av h => ?_
  unfold q13 at h
  split at h
  · rw [gives_ok h]
    refine ⟨rfl, _, rfl, ?_⟩
    rw [nf13]
    exact ⟨rfl, rfl⟩
  · exact (gives_fail h).elim
-- theorem nf50 (a b c d e f : Int) (K : KV) : call P G1 noAnn 100000 Try.f50 [V a b c, V d e f] [] K = ((24 = 0 → False) ∧ (24 = 0 → False) ∧ (24 = 0 → False) ∧ K (AV.v (PV.agg [SV.sym IntKind.i64 (modF (IntKind.i64.wrap (a.tmod 24 + d.tmod 24)) 24), SV.sym IntKind.i64 (modF (IntKind.i64.wrap (b.tmod 24 + e.tmod 24)) 24), SV.sym IntKind.i64 (modF (IntKind.i64.wrap (c.tmod 24 + f.tmod 24)) 24)])) []) := by kernel_rfl
def q51 : PSpec
  | [.v (.agg [.sym .i64 a, .sym .i64 b, .sym .i64 c, .sym .i64 d, .sym .i64 e, .sym .i64 f, .sym .i64 g, .sym .i64 h, .sym .i64 i]), .v (.agg [.sym .i64 x, .sym .i64 y, .sym .i64 z])] => .ok (AV.v (PV.agg [SV.sym IntKind.i64 (modF (IntKind.i64.wrap (modF (IntKind.i64.wrap (modF (IntKind.i64.wrap (0 + IntKind.i64.wrap (modF a 24 * x))) 24 + IntKind.i64.wrap (modF b 24 * y))) 24 + IntKind.i64.wrap (modF c 24 * z))) 24), SV.sym IntKind.i64 (modF (IntKind.i64.wrap (modF (IntKind.i64.wrap (modF (IntKind.i64.wrap (0 + IntKind.i64.wrap (modF d 24 * x))) 24 + IntKind.i64.wrap (modF e 24 * y))) 24 + IntKind.i64.wrap (modF f 24 * z))) 24), SV.sym IntKind.i64 (modF (IntKind.i64.wrap (modF (IntKind.i64.wrap (modF (IntKind.i64.wrap (0 + IntKind.i64.wrap (modF g 24 * x))) 24 + IntKind.i64.wrap (modF h 24 * y))) 24 + IntKind.i64.wrap (modF i 24 * z))) 24)]))
  | _ => .fail
theorem nf51 (a b c d e f g h i x y z : Int) (K : KV) : call P G1 noAnn 100000 Try.f51 [M a b c d e f g h i, V x y z] [] K = (K (AV.v (PV.agg [SV.sym IntKind.i64 (modF (IntKind.i64.wrap (modF (IntKind.i64.wrap (modF (IntKind.i64.wrap (0 + IntKind.i64.wrap (modF a 24 * x))) 24 + IntKind.i64.wrap (modF b 24 * y))) 24 + IntKind.i64.wrap (modF c 24 * z))) 24), SV.sym IntKind.i64 (modF (IntKind.i64.wrap (modF (IntKind.i64.wrap (modF (IntKind.i64.wrap (0 + IntKind.i64.wrap (modF d 24 * x))) 24 + IntKind.i64.wrap (modF e 24 * y))) 24 + IntKind.i64.wrap (modF f 24 * z))) 24), SV.sym IntKind.i64 (modF (IntKind.i64.wrap (modF (IntKind.i64.wrap (modF (IntKind.i64.wrap (0 + IntKind.i64.wrap (modF g 24 * x))) 24 + IntKind.i64.wrap (modF h 24 * y))) 24 + IntKind.i64.wrap (modF i 24 * z))) 24)])) []) := by kernel_rfl
theorem h51 : Holds P G1 51 q51 := by
  refine holds_ok (fn := Try.f51) (by kernel_rfl) (by kernel_rfl) fun args av h => ?_
  unfold q51 at h
  split at h
  · rw [gives_ok h]
    refine ⟨rfl, _, rfl, ?_⟩
    rw [nf51]
    exact ⟨rfl, rfl⟩
  · exact (gives_fail h).elim
def q63 : PSpec
  | [.v (.agg [.sym .i64 a, .sym .i64 b, .sym .i64 c, .sym .i64 d, .sym .i64 e, .sym .i64 f, .sym .i64 g, .sym .i64 h, .sym .i64 i]), .v (.agg [.sym .i64 p, .sym .i64 q, .sym .i64 r, .sym .i64 s, .sym .i64 t, .sym .i64 u, .sym .i64 v, .sym .i64 w, .sym .i64 x])] => .ok (AV.v (PV.agg [SV.sym IntKind.i64 (IntKind.i64.wrap (IntKind.i64.wrap (IntKind.i64.wrap (a * p) + IntKind.i64.wrap (b * s)) + IntKind.i64.wrap (c * v))), SV.sym IntKind.i64 (IntKind.i64.wrap (IntKind.i64.wrap (IntKind.i64.wrap (a * q) + IntKind.i64.wrap (b * t)) + IntKind.i64.wrap (c * w))), SV.sym IntKind.i64 (IntKind.i64.wrap (IntKind.i64.wrap (IntKind.i64.wrap (a * r) + IntKind.i64.wrap (b * u)) + IntKind.i64.wrap (c * x))), SV.sym IntKind.i64 (IntKind.i64.wrap (IntKind.i64.wrap (IntKind.i64.wrap (d * p) + IntKind.i64.wrap (e * s)) + IntKind.i64.wrap (f * v))), SV.sym IntKind.i64 (IntKind.i64.wrap (IntKind.i64.wrap (IntKind.i64.wrap (d * q) + IntKind.i64.wrap (e * t)) + IntKind.i64.wrap (f * w))), SV.sym IntKind.i64 (IntKind.i64.wrap (IntKind.i64.wrap (IntKind.i64.wrap (d * r) + IntKind.i64.wrap (e * u)) + IntKind.i64.wrap (f * x))), SV.sym IntKind.i64 (IntKind.i64.wrap (IntKind.i64.wrap (IntKind.i64.wrap (g * p) + IntKind.i64.wrap (h * s)) + IntKind.i64.wrap (i * v))), SV.sym IntKind.i64 (IntKind.i64.wrap (IntKind.i64.wrap (IntKind.i64.wrap (g * q) + IntKind.i64.wrap (h * t)) + IntKind.i64.wrap (i * w))), SV.sym IntKind.i64 (IntKind.i64.wrap (IntKind.i64.wrap (IntKind.i64.wrap (g * r) + IntKind.i64.wrap (h * u)) + IntKind.i64.wrap (i * x)))]))
  | _ => .fail
theorem nf63 (a b c d e f g h i p q r s t u v w x : Int) (K : KV) : call P G1 noAnn 100000 Try.f63 [M a b c d e f g h i, M p q r s t u v w x] [] K = (K (AV.v (PV.agg [SV.sym IntKind.i64 (IntKind.i64.wrap (IntKind.i64.wrap (IntKind.i64.wrap (a * p) + IntKind.i64.wrap (b * s)) + IntKind.i64.wrap (c * v))), SV.sym IntKind.i64 (IntKind.i64.wrap (IntKind.i64.wrap (IntKind.i64.wrap (a * q) + IntKind.i64.wrap (b * t)) + IntKind.i64.wrap (c * w))), SV.sym IntKind.i64 (IntKind.i64.wrap (IntKind.i64.wrap (IntKind.i64.wrap (a * r) + IntKind.i64.wrap (b * u)) + IntKind.i64.wrap (c * x))), SV.sym IntKind.i64 (IntKind.i64.wrap (IntKind.i64.wrap (IntKind.i64.wrap (d * p) + IntKind.i64.wrap (e * s)) + IntKind.i64.wrap (f * v))), SV.sym IntKind.i64 (IntKind.i64.wrap (IntKind.i64.wrap (IntKind.i64.wrap (d * q) + IntKind.i64.wrap (e * t)) + IntKind.i64.wrap (f * w))), SV.sym IntKind.i64 (IntKind.i64.wrap (IntKind.i64.wrap (IntKind.i64.wrap (d * r) + IntKind.i64.wrap (e * u)) + IntKind.i64.wrap (f * x))), SV.sym IntKind.i64 (IntKind.i64.wrap (IntKind.i64.wrap (IntKind.i64.wrap (g * p) + IntKind.i64.wrap (h * s)) + IntKind.i64.wrap (i * v))), SV.sym IntKind.i64 (IntKind.i64.wrap (IntKind.i64.wrap (IntKind.i64.wrap (g * q) + IntKind.i64.wrap (h * t)) + IntKind.i64.wrap (i * w))), SV.sym IntKind.i64 (IntKind.i64.wrap (IntKind.i64.wrap (IntKind.i64.wrap (g * r) + IntKind.i64.wrap (h * u)) + IntKind.i64.wrap (i * x)))])) []) := by kernel_rfl
theorem h63 : Holds P G1 63 q63 := by
  refine holds_ok (fn := Try.f63) (by kernel_rfl) (by kernel_rfl) fun args av h => ?_
  unfold q63 at h
  split at h
  · rw [gives_ok h]
    refine ⟨rfl, _, rfl, ?_⟩
    rw [nf63]
    exact ⟨rfl, rfl⟩
  · exact (gives_fail h).elim
def G2 : Sums := ((((((G1.add 35 q35).add 14 q14).add 21 q21).add 37 q37).add 38 q38).add 29 q29).add 22 q22 |>.add 13 q13 |>.add 51 q51 |>.add 63 q63
end Go.AM

import Derived.Test.YtppbbabmlammpaaF8h
open Go Go.AM Go.Proofs
namespace Go.AM
def prod6 (a b c d e f u1 u2 u3 v1 v2 v3 : Int) : Int := (IntKind.i64.wrap (IntKind.i64.wrap (IntKind.i64.wrap (IntKind.i64.wrap (IntKind.i64.wrap (IntKind.i64.wrap (IntKind.i64.wrap (IntKind.i64.wrap (IntKind.i64.wrap ((0 : Int) + IntKind.i64.wrap (IntKind.i64.wrap (u1 * a) * v1)) + IntKind.i64.wrap (IntKind.i64.wrap (u1 * f) * v2)) + IntKind.i64.wrap (IntKind.i64.wrap (u1 * e) * v3)) + IntKind.i64.wrap (IntKind.i64.wrap (u2 * f) * v1)) + IntKind.i64.wrap (IntKind.i64.wrap (u2 * b) * v2)) + IntKind.i64.wrap (IntKind.i64.wrap (u2 * d) * v3)) + IntKind.i64.wrap (IntKind.i64.wrap (u3 * e) * v1)) + IntKind.i64.wrap (IntKind.i64.wrap (u3 * d) * v2)) + IntKind.i64.wrap (IntKind.i64.wrap (u3 * c) * v3)))
def over3 (a b c : Int) : Bool := beyond a 1000 || (beyond b 1000 || beyond c 1000)
def q11 : PSpec
  | [.v (.agg [.sym .i64 a, .sym .i64 b, .sym .i64 c, .sym .i64 d, .sym .i64 e, .sym .i64 f]), .v (.agg [.sym .i64 u1, .sym .i64 u2, .sym .i64 u3]), .v (.agg [.sym .i64 v1, .sym .i64 v2, .sym .i64 v3])] =>
    .iff (checkC a b c d e f = 0 ∧ over3 u1 u2 u3 = false ∧ over3 v1 v2 v3 = false) (.tup [.one (.sym .i64 (prod6 a b c d e f u1 u2 u3 v1 v2 v3)), .one (.con .i64 0)])
  | _ => .fail
theorem nf11 (a b c d e f u1 u2 u3 v1 v2 v3 : Int) (K : KV) : call P G8 noAnn 100000 Try.f11 [M6 a b c d e f, V u1 u2 u3, V v1 v2 v3] [] K = (checkC a b c d e f = (0 : Int) ∧ ((beyond u1 (1000 : Int) || (beyond u2 (1000 : Int) || beyond u3 (1000 : Int))) = true → K (AV.tup [PV.one (SV.con IntKind.i64 (0 : Int)), PV.one (SV.con IntKind.i64 (4 : Int))]) []) ∧ ((beyond u1 (1000 : Int) || (beyond u2 (1000 : Int) || beyond u3 (1000 : Int))) = false → ((beyond v1 (1000 : Int) || (beyond v2 (1000 : Int) || beyond v3 (1000 : Int))) = true → K (AV.tup [PV.one (SV.con IntKind.i64 (0 : Int)), PV.one (SV.con IntKind.i64 (4 : Int))]) []) ∧ ((beyond v1 (1000 : Int) || (beyond v2 (1000 : Int) || beyond v3 (1000 : Int))) = false → K (AV.tup [PV.one (SV.sym IntKind.i64 (IntKind.i64.wrap (IntKind.i64.wrap (IntKind.i64.wrap (IntKind.i64.wrap (IntKind.i64.wrap (IntKind.i64.wrap (IntKind.i64.wrap (IntKind.i64.wrap (IntKind.i64.wrap ((0 : Int) + IntKind.i64.wrap (IntKind.i64.wrap (u1 * a) * v1)) + IntKind.i64.wrap (IntKind.i64.wrap (u1 * f) * v2)) + IntKind.i64.wrap (IntKind.i64.wrap (u1 * e) * v3)) + IntKind.i64.wrap (IntKind.i64.wrap (u2 * f) * v1)) + IntKind.i64.wrap (IntKind.i64.wrap (u2 * b) * v2)) + IntKind.i64.wrap (IntKind.i64.wrap (u2 * d) * v3)) + IntKind.i64.wrap (IntKind.i64.wrap (u3 * e) * v1)) + IntKind.i64.wrap (IntKind.i64.wrap (u3 * d) * v2)) + IntKind.i64.wrap (IntKind.i64.wrap (u3 * c) * v3)))), PV.one (SV.con IntKind.i64 (0 : Int))]) []))) := by kernel_rfl

theorem h11 : Holds P G8 11 q11 := by
  refine holds_ok (fn := Try.f11) (by kernel_rfl) (by kernel_rfl) fun args av hg => ?_
  unfold q11 at hg
  split at hg
  · obtain ⟨⟨hc, h1, h2⟩, rfl⟩ := gives_iff hg
    refine ⟨rfl, _, rfl, ?_⟩
    rw [nf11]
    unfold over3 at h1 h2
    exact ⟨hc, fun h => absurd (h1.symm.trans h) (by decide), fun _ => ⟨fun h => absurd (h2.symm.trans h) (by decide), fun _ => ⟨rfl, rfl⟩⟩⟩
  · exact (gives_fail hg).elim
def q5k : PSpec
  | [.v (.agg [.sym .i8 a, .sym .i8 b, .sym .i8 c, .sym .i8 d, .sym .i8 e, .sym .i8 f, .sym .i8 g, .sym .i8 h, .sym .i8 i])] => .ok (.tup [.agg [.sym .i64 (Dist.dot3 (e12 a) (e12 a) (e12 d) (e12 d) (e12 g) (e12 g)), .sym .i64 (Dist.dot3 (e12 b) (e12 b) (e12 e) (e12 e) (e12 h) (e12 h)), .sym .i64 (Dist.dot3 (e12 c) (e12 c) (e12 f) (e12 f) (e12 i) (e12 i)), .sym .i64 (Dist.dot3 (e12 b) (e12 c) (e12 e) (e12 f) (e12 h) (e12 i)), .sym .i64 (Dist.dot3 (e12 a) (e12 c) (e12 d) (e12 f) (e12 g) (e12 i)), .sym .i64 (Dist.dot3 (e12 a) (e12 b) (e12 d) (e12 e) (e12 g) (e12 h))], .one (.sb (!decide (det9 (e12 a) (e12 b) (e12 c) (e12 d) (e12 e) (e12 f) (e12 g) (e12 h) (e12 i) = 0)))])
  | _ => .fail
theorem h5k : Holds P G5 5 q5k := h5.weaken fun args av hg => by
  unfold q5k at hg
  split at hg
  · rw [gives_ok hg]
    exact ⟨_, .inl rfl, rfl⟩
  · exact (gives_fail hg).elim
def G9 : Sums := (G8.add 11 q11).add 5 q5k
abbrev V16 (a b c : Int) : AV := .v (.agg [.sym .i16 a, .sym .i16 b, .sym .i16 c])
end Go.AM

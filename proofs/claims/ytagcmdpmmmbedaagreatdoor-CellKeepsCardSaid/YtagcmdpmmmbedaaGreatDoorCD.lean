import Derived.Test.YtagcmdpmmmbedaaGreatDoorCC
import Derived.Test.YtagcmdpmmmbedaaGreatDoorC0
open Go Go.AM Go.Proofs
namespace Go.AM
def over3 (a b c : Int) : Bool := beyond a 1000 || (beyond b 1000 || beyond c 1000)
def prod9 (a b c d e f g h i u1 u2 u3 v1 v2 v3 : Int) : Int := IntKind.i64.wrap (IntKind.i64.wrap (IntKind.i64.wrap (IntKind.i64.wrap (IntKind.i64.wrap (IntKind.i64.wrap (IntKind.i64.wrap (IntKind.i64.wrap (IntKind.i64.wrap (0 + IntKind.i64.wrap (IntKind.i64.wrap (u1 * a) * v1)) + IntKind.i64.wrap (IntKind.i64.wrap (u1 * b) * v2)) + IntKind.i64.wrap (IntKind.i64.wrap (u1 * c) * v3)) + IntKind.i64.wrap (IntKind.i64.wrap (u2 * d) * v1)) + IntKind.i64.wrap (IntKind.i64.wrap (u2 * e) * v2)) + IntKind.i64.wrap (IntKind.i64.wrap (u2 * f) * v3)) + IntKind.i64.wrap (IntKind.i64.wrap (u3 * g) * v1)) + IntKind.i64.wrap (IntKind.i64.wrap (u3 * h) * v2)) + IntKind.i64.wrap (IntKind.i64.wrap (u3 * i) * v3))
def detR (a b c d e f : Int) : Int := IntKind.i64.wrap (IntKind.i64.wrap (IntKind.i64.wrap ((0 : Int) + IntKind.i64.wrap (a * IntKind.i64.wrap (IntKind.i64.wrap (b * c) - IntKind.i64.wrap (d * d)))) + IntKind.i64.wrap (f * IntKind.i64.wrap (IntKind.i64.wrap (d * e) - IntKind.i64.wrap (f * c)))) + IntKind.i64.wrap (e * IntKind.i64.wrap (IntKind.i64.wrap (f * d) - IntKind.i64.wrap (b * e))))
def dotE (k : Int) (u v : Bool) : Int := if k = 0 then (if u || v then 4 else 0) else k
def q14 : PSpec
  | [.v (.agg [.sym .i64 a, .sym .i64 b, .sym .i64 c, .sym .i64 d, .sym .i64 e, .sym .i64 f])] => .ok (.tup [.one (.sym .i64 (if checkC a b c d e f = 0 then detG a b c d e f else 0)), .one (.sym .i64 (checkC a b c d e f))])
  | _ => .fail
def q16 : PSpec
  | [.v (.agg [.sym .i64 a, .sym .i64 b, .sym .i64 c, .sym .i64 d, .sym .i64 e, .sym .i64 f]), .v (.agg [.sym .i64 u1, .sym .i64 u2, .sym .i64 u3]), .v (.agg [.sym .i64 v1, .sym .i64 v2, .sym .i64 v3])] =>
    .ok (.tup [.one (.sym .i64 (if dotE (checkC a b c d e f) (over3 u1 u2 u3) (over3 v1 v2 v3) = 0 then prod9 a f e f b d e d c u1 u2 u3 v1 v2 v3 else 0)), .one (.sym .i64 (dotE (checkC a b c d e f) (over3 u1 u2 u3) (over3 v1 v2 v3)))])
  | _ => .fail
def q31 : PSpec
  | [.v (.agg [.sym .i64 a, .sym .i64 b, .sym .i64 c, .sym .i64 d, .sym .i64 e, .sym .i64 f])] => .ok (I (detR a b c d e f))
  | _ => .fail
def q36 : PSpec
  | [.v (.agg [.sym .i64 a, .sym .i64 b, .sym .i64 c, .sym .i64 d, .sym .i64 e, .sym .i64 f, .sym .i64 g, .sym .i64 h, .sym .i64 i]), .v (.agg [.sym .i64 u1, .sym .i64 u2, .sym .i64 u3]), .v (.agg [.sym .i64 v1, .sym .i64 v2, .sym .i64 v3])] => .ok (I (prod9 a b c d e f g h i u1 u2 u3 v1 v2 v3))
  | _ => .fail
theorem nfc14 (a b c d e f : Int) (K : KV) : call P G4 noAnn 100000 Tryz.f14 [M6 a b c d e f] [] K = (((!decide (checkC a b c d e f = (0 : Int))) = true → K (AV.tup [PV.one (SV.con IntKind.i64 (0 : Int)), PV.one (SV.sym IntKind.i64 (checkC a b c d e f))]) []) ∧ ((!decide (checkC a b c d e f = (0 : Int))) = false → K (AV.tup [PV.one (SV.sym IntKind.i64 (IntKind.i64.wrap (IntKind.i64.wrap (IntKind.i64.wrap (IntKind.i64.wrap (IntKind.i64.wrap (IntKind.i64.wrap (a * b) * c) + IntKind.i64.wrap (IntKind.i64.wrap (IntKind.i64.wrap ((2 : Int) * d) * e) * f)) - IntKind.i64.wrap (IntKind.i64.wrap (a * d) * d)) - IntKind.i64.wrap (IntKind.i64.wrap (b * e) * e)) - IntKind.i64.wrap (IntKind.i64.wrap (c * f) * f)))), PV.one (SV.con IntKind.i64 (0 : Int))]) [])) := by kernel_rfl
theorem nfc16 (a b c d e f u1 u2 u3 v1 v2 v3 : Int) (K : KV) : call P G4 noAnn 100000 Tryz.f11 [M6 a b c d e f, V u1 u2 u3, V v1 v2 v3] [] K = (((!decide (checkC a b c d e f = (0 : Int))) = true → K (AV.tup [PV.one (SV.con IntKind.i64 (0 : Int)), PV.one (SV.sym IntKind.i64 (checkC a b c d e f))]) []) ∧ ((!decide (checkC a b c d e f = (0 : Int))) = false → ((beyond u1 (1000 : Int) || (beyond u2 (1000 : Int) || beyond u3 (1000 : Int))) = true → K (AV.tup [PV.one (SV.con IntKind.i64 (0 : Int)), PV.one (SV.con IntKind.i64 (4 : Int))]) []) ∧ ((beyond u1 (1000 : Int) || (beyond u2 (1000 : Int) || beyond u3 (1000 : Int))) = false → ((beyond v1 (1000 : Int) || (beyond v2 (1000 : Int) || beyond v3 (1000 : Int))) = true → K (AV.tup [PV.one (SV.con IntKind.i64 (0 : Int)), PV.one (SV.con IntKind.i64 (4 : Int))]) []) ∧ ((beyond v1 (1000 : Int) || (beyond v2 (1000 : Int) || beyond v3 (1000 : Int))) = false → K (AV.tup [PV.one (SV.sym IntKind.i64 (IntKind.i64.wrap (IntKind.i64.wrap (IntKind.i64.wrap (IntKind.i64.wrap (IntKind.i64.wrap (IntKind.i64.wrap (IntKind.i64.wrap (IntKind.i64.wrap (IntKind.i64.wrap ((0 : Int) + IntKind.i64.wrap (IntKind.i64.wrap (u1 * a) * v1)) + IntKind.i64.wrap (IntKind.i64.wrap (u1 * f) * v2)) + IntKind.i64.wrap (IntKind.i64.wrap (u1 * e) * v3)) + IntKind.i64.wrap (IntKind.i64.wrap (u2 * f) * v1)) + IntKind.i64.wrap (IntKind.i64.wrap (u2 * b) * v2)) + IntKind.i64.wrap (IntKind.i64.wrap (u2 * d) * v3)) + IntKind.i64.wrap (IntKind.i64.wrap (u3 * e) * v1)) + IntKind.i64.wrap (IntKind.i64.wrap (u3 * d) * v2)) + IntKind.i64.wrap (IntKind.i64.wrap (u3 * c) * v3)))), PV.one (SV.con IntKind.i64 (0 : Int))]) [])))) := by kernel_rfl
theorem nfc31 (a b c d e f : Int) (K : KV) : call P G4 noAnn 100000 Tryz.f46 [M6 a b c d e f] [] K = (((K (AV.v (PV.one (SV.sym IntKind.i64 (IntKind.i64.wrap (IntKind.i64.wrap (IntKind.i64.wrap ((0 : Int) + IntKind.i64.wrap (a * IntKind.i64.wrap (IntKind.i64.wrap (b * c) - IntKind.i64.wrap (d * d)))) + IntKind.i64.wrap (f * IntKind.i64.wrap (IntKind.i64.wrap (d * e) - IntKind.i64.wrap (f * c)))) + IntKind.i64.wrap (e * IntKind.i64.wrap (IntKind.i64.wrap (f * d) - IntKind.i64.wrap (b * e)))))))) [] ∧ K (AV.v (PV.one (SV.sym IntKind.i64 (IntKind.i64.wrap (IntKind.i64.wrap (IntKind.i64.wrap ((0 : Int) + IntKind.i64.wrap (a * IntKind.i64.wrap (IntKind.i64.wrap (b * c) - IntKind.i64.wrap (d * d)))) + IntKind.i64.wrap (f * IntKind.i64.wrap (IntKind.i64.wrap (d * e) - IntKind.i64.wrap (f * c)))) + IntKind.i64.wrap (e * IntKind.i64.wrap (IntKind.i64.wrap (f * d) - IntKind.i64.wrap (b * e)))))))) []) ∧ K (AV.v (PV.one (SV.sym IntKind.i64 (IntKind.i64.wrap (IntKind.i64.wrap (IntKind.i64.wrap ((0 : Int) + IntKind.i64.wrap (a * IntKind.i64.wrap (IntKind.i64.wrap (b * c) - IntKind.i64.wrap (d * d)))) + IntKind.i64.wrap (f * IntKind.i64.wrap (IntKind.i64.wrap (d * e) - IntKind.i64.wrap (f * c)))) + IntKind.i64.wrap (e * IntKind.i64.wrap (IntKind.i64.wrap (f * d) - IntKind.i64.wrap (b * e)))))))) [] ∧ K (AV.v (PV.one (SV.sym IntKind.i64 (IntKind.i64.wrap (IntKind.i64.wrap (IntKind.i64.wrap ((0 : Int) + IntKind.i64.wrap (a * IntKind.i64.wrap (IntKind.i64.wrap (b * c) - IntKind.i64.wrap (d * d)))) + IntKind.i64.wrap (f * IntKind.i64.wrap (IntKind.i64.wrap (d * e) - IntKind.i64.wrap (f * c)))) + IntKind.i64.wrap (e * IntKind.i64.wrap (IntKind.i64.wrap (f * d) - IntKind.i64.wrap (b * e)))))))) []) ∧ (K (AV.v (PV.one (SV.sym IntKind.i64 (IntKind.i64.wrap (IntKind.i64.wrap (IntKind.i64.wrap ((0 : Int) + IntKind.i64.wrap (a * IntKind.i64.wrap (IntKind.i64.wrap (b * c) - IntKind.i64.wrap (d * d)))) + IntKind.i64.wrap (f * IntKind.i64.wrap (IntKind.i64.wrap (d * e) - IntKind.i64.wrap (f * c)))) + IntKind.i64.wrap (e * IntKind.i64.wrap (IntKind.i64.wrap (f * d) - IntKind.i64.wrap (b * e)))))))) [] ∧ K (AV.v (PV.one (SV.sym IntKind.i64 (IntKind.i64.wrap (IntKind.i64.wrap (IntKind.i64.wrap ((0 : Int) + IntKind.i64.wrap (a * IntKind.i64.wrap (IntKind.i64.wrap (b * c) - IntKind.i64.wrap (d * d)))) + IntKind.i64.wrap (f * IntKind.i64.wrap (IntKind.i64.wrap (d * e) - IntKind.i64.wrap (f * c)))) + IntKind.i64.wrap (e * IntKind.i64.wrap (IntKind.i64.wrap (f * d) - IntKind.i64.wrap (b * e)))))))) []) ∧ K (AV.v (PV.one (SV.sym IntKind.i64 (IntKind.i64.wrap (IntKind.i64.wrap (IntKind.i64.wrap ((0 : Int) + IntKind.i64.wrap (a * IntKind.i64.wrap (IntKind.i64.wrap (b * c) - IntKind.i64.wrap (d * d)))) + IntKind.i64.wrap (f * IntKind.i64.wrap (IntKind.i64.wrap (d * e) - IntKind.i64.wrap (f * c)))) + IntKind.i64.wrap (e * IntKind.i64.wrap (IntKind.i64.wrap (f * d) - IntKind.i64.wrap (b * e)))))))) [] ∧ K (AV.v (PV.one (SV.sym IntKind.i64 (IntKind.i64.wrap (IntKind.i64.wrap (IntKind.i64.wrap ((0 : Int) + IntKind.i64.wrap (a * IntKind.i64.wrap (IntKind.i64.wrap (b * c) - IntKind.i64.wrap (d * d)))) + IntKind.i64.wrap (f * IntKind.i64.wrap (IntKind.i64.wrap (d * e) - IntKind.i64.wrap (f * c)))) + IntKind.i64.wrap (e * IntKind.i64.wrap (IntKind.i64.wrap (f * d) - IntKind.i64.wrap (b * e)))))))) []) := by kernel_rfl
theorem nfc37 (a b c d e f : Int) (K : KV) : call P G4 noAnn 100000 Tryz.f28 [M6 a b c d e f] [] K = (K (AV.v (PV.agg [SV.sym IntKind.i64 a, SV.sym IntKind.i64 f, SV.sym IntKind.i64 e, SV.sym IntKind.i64 f, SV.sym IntKind.i64 b, SV.sym IntKind.i64 d, SV.sym IntKind.i64 e, SV.sym IntKind.i64 d, SV.sym IntKind.i64 c])) []) := by kernel_rfl
theorem hc14 : Holds P G4 14 q14 := by
  refine holds_ok (fn := Tryz.f14) (by kernel_rfl) (by kernel_rfl) fun args av hg => ?_
  unfold q14 at hg
  split at hg
  · rename_i a b c d e f
    rw [gives_ok hg]
    refine ⟨rfl, _, rfl, ?_⟩
    rw [nfc14]
    generalize checkC a b c d e f = k
    refine ⟨fun h => ?_, fun h => ?_⟩
    · rw [if_neg (by simpa using h)]
      exact ⟨rfl, rfl⟩
    · have hk : k = 0 := by simpa using h
      subst hk
      exact ⟨rfl, rfl⟩
  · exact (gives_fail hg).elim
theorem hc16 : Holds P G4 11 q16 := by
  refine holds_ok (fn := Tryz.f11) (by kernel_rfl) (by kernel_rfl) fun args av hg => ?_
  unfold q16 at hg
  split at hg
  · rename_i a b c d e f u1 u2 u3 v1 v2 v3
    rw [gives_ok hg]
    refine ⟨rfl, _, rfl, ?_⟩
    rw [nfc16]
    unfold over3 dotE
    generalize checkC a b c d e f = k
    refine ⟨fun h => ?_, fun h => ?_⟩
    · have hk : ¬ k = 0 := by simpa using h
      rw [if_neg hk, if_neg hk]
      exact ⟨rfl, rfl⟩
    · have hk : k = 0 := by simpa using h
      subst hk
      refine ⟨fun h1 => ?_, fun h1 => ⟨fun h2 => ?_, fun h2 => ?_⟩⟩
      · rw [h1]; exact ⟨rfl, rfl⟩
      · rw [h1, h2]; exact ⟨rfl, rfl⟩
      · rw [h1, h2]; exact ⟨rfl, rfl⟩
  · exact (gives_fail hg).elim
theorem hc31 : Holds P G4 46 q31 := by
  refine holds_ok (fn := Tryz.f46) (by kernel_rfl) (by kernel_rfl) fun args av hg => ?_
  unfold q31 at hg
  split at hg
  · rw [gives_ok hg]
    refine ⟨rfl, _, rfl, ?_⟩
    rw [nfc31]
    repeat' apply And.intro
    all_goals rfl
  · exact (gives_fail hg).elim
theorem hc37 : Holds P G4 28 q21 := by
  refine holds_ok (fn := Tryz.f28) (by kernel_rfl) (by kernel_rfl) fun args av hg => ?_
  unfold q21 at hg
  split at hg
  · rw [gives_ok hg]
    refine ⟨rfl, _, rfl, ?_⟩
    rw [nfc37]
    exact ⟨rfl, rfl⟩
  · exact (gives_fail hg).elim
def D1 : Sums := ((((((G4.add 17 q8).add 14 q14).add 11 q16).add 46 q31))).add 28 q21
end Go.AM

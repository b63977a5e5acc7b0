import Derived.Test.YtppbbabmlammpaaF5
open Go Go.AM Go.Proofs
namespace Go.AM
def det9 (a b c d e f g h i : Int) : Int := IntKind.i64.wrap (IntKind.i64.wrap (IntKind.i64.wrap (a * cof e f h i) + IntKind.i64.wrap (b * cof f d i g)) + IntKind.i64.wrap (c * cof d e g h))
def q15 : PSpec
  | [.v (.agg [.sym .i64 a, .sym .i64 b, .sym .i64 c, .sym .i64 d, .sym .i64 e, .sym .i64 f, .sym .i64 g, .sym .i64 h, .sym .i64 i])] => .ok (.tup [.one (.sym .i64 (zb (over9 a b c d e f g h i) (det9 a b c d e f g h i))), .one (.sym .i64 (if over9 a b c d e f g h i then 4 else 0))])
  | _ => .fail
def q48 : PSpec
  | [.v (.agg [.sym .i64 a, .sym .i64 b, .sym .i64 c, .sym .i64 d, .sym .i64 e, .sym .i64 f, .sym .i64 g, .sym .i64 h, .sym .i64 i])] => .ok (I (if over9 a b c d e f g h i then 4 else if det9 a b c d e f g h i = 1 then 0 else if det9 a b c d e f g h i = -1 then 0 else 3))
  | _ => .fail
theorem nf15 (a b c d e f g h i : Int) (K : KV) : call P G4 noAnn 100000 Try.f15 [M a b c d e f g h i] [] K = (((!decide ((if over9 a b c d e f g h i = true then (4 : Int) else (0 : Int)) = (0 : Int))) = true → K (AV.tup [PV.one (SV.con IntKind.i64 (0 : Int)), PV.one (SV.sym IntKind.i64 (if over9 a b c d e f g h i = true then (4 : Int) else (0 : Int)))]) []) ∧ ((!decide ((if over9 a b c d e f g h i = true then (4 : Int) else (0 : Int)) = (0 : Int))) = false → K (AV.tup [PV.one (SV.sym IntKind.i64 (IntKind.i64.wrap (IntKind.i64.wrap (IntKind.i64.wrap (a * cof e f h i) + IntKind.i64.wrap (b * cof f d i g)) + IntKind.i64.wrap (c * cof d e g h)))), PV.one (SV.con IntKind.i64 (0 : Int))]) [])) := by kernel_rfl
theorem nf48 (a b c d e f g h i : Int) (K : KV) : call P G4 noAnn 100000 Try.f48 [M a b c d e f g h i] [] K = (((!decide ((if over9 a b c d e f g h i = true then (4 : Int) else (0 : Int)) = (0 : Int))) = true → (decide ((if over9 a b c d e f g h i = true then (4 : Int) else (0 : Int)) = (0 : Int)) = true → K (AV.v (PV.one (SV.con IntKind.i64 (3 : Int)))) []) ∧ (decide ((if over9 a b c d e f g h i = true then (4 : Int) else (0 : Int)) = (0 : Int)) = false → K (AV.v (PV.one (SV.sym IntKind.i64 (if over9 a b c d e f g h i = true then (4 : Int) else (0 : Int))))) [])) ∧ ((!decide ((if over9 a b c d e f g h i = true then (4 : Int) else (0 : Int)) = (0 : Int))) = false → ((!decide (IntKind.i64.wrap (IntKind.i64.wrap (IntKind.i64.wrap (a * cof e f h i) + IntKind.i64.wrap (b * cof f d i g)) + IntKind.i64.wrap (c * cof d e g h)) = (1 : Int))) = true → ((!decide (IntKind.i64.wrap (IntKind.i64.wrap (IntKind.i64.wrap (a * cof e f h i) + IntKind.i64.wrap (b * cof f d i g)) + IntKind.i64.wrap (c * cof d e g h)) = (-1 : Int))) = true → K (AV.v (PV.one (SV.con IntKind.i64 (3 : Int)))) []) ∧ ((!decide (IntKind.i64.wrap (IntKind.i64.wrap (IntKind.i64.wrap (a * cof e f h i) + IntKind.i64.wrap (b * cof f d i g)) + IntKind.i64.wrap (c * cof d e g h)) = (-1 : Int))) = false → K (AV.v (PV.one (SV.con IntKind.i64 (0 : Int)))) [])) ∧ ((!decide (IntKind.i64.wrap (IntKind.i64.wrap (IntKind.i64.wrap (a * cof e f h i) + IntKind.i64.wrap (b * cof f d i g)) + IntKind.i64.wrap (c * cof d e g h)) = (1 : Int))) = false → K (AV.v (PV.one (SV.con IntKind.i64 (0 : Int)))) []))) := by kernel_rfl
def q41 : PSpec
  | [.v (.agg [.sym .i64 a, .sym .i64 b, .sym .i64 c, .sym .i64 d, .sym .i64 e, .sym .i64 f, .sym .i64 g, .sym .i64 h, .sym .i64 i, .sym .i64 x, .sym .i64 y, .sym .i64 z]), .v (.agg [.sym .i64 p, .sym .i64 q, .sym .i64 r, .sym .i64 s, .sym .i64 t, .sym .i64 u, .sym .i64 v, .sym .i64 w, .sym .i64 k, .sym .i64 l, .sym .i64 m, .sym .i64 n])] => .ok (AV.v (PV.agg [SV.sym IntKind.i64 (zb (over9 a b c d e f g h i || over9 p q r s t u v w k) (IntKind.i64.wrap (IntKind.i64.wrap (IntKind.i64.wrap (a * p) + IntKind.i64.wrap (b * s)) + IntKind.i64.wrap (c * v)))), SV.sym IntKind.i64 (zb (over9 a b c d e f g h i || over9 p q r s t u v w k) (IntKind.i64.wrap (IntKind.i64.wrap (IntKind.i64.wrap (a * q) + IntKind.i64.wrap (b * t)) + IntKind.i64.wrap (c * w)))), SV.sym IntKind.i64 (zb (over9 a b c d e f g h i || over9 p q r s t u v w k) (IntKind.i64.wrap (IntKind.i64.wrap (IntKind.i64.wrap (a * r) + IntKind.i64.wrap (b * u)) + IntKind.i64.wrap (c * k)))), SV.sym IntKind.i64 (zb (over9 a b c d e f g h i || over9 p q r s t u v w k) (IntKind.i64.wrap (IntKind.i64.wrap (IntKind.i64.wrap (d * p) + IntKind.i64.wrap (e * s)) + IntKind.i64.wrap (f * v)))), SV.sym IntKind.i64 (zb (over9 a b c d e f g h i || over9 p q r s t u v w k) (IntKind.i64.wrap (IntKind.i64.wrap (IntKind.i64.wrap (d * q) + IntKind.i64.wrap (e * t)) + IntKind.i64.wrap (f * w)))), SV.sym IntKind.i64 (zb (over9 a b c d e f g h i || over9 p q r s t u v w k) (IntKind.i64.wrap (IntKind.i64.wrap (IntKind.i64.wrap (d * r) + IntKind.i64.wrap (e * u)) + IntKind.i64.wrap (f * k)))), SV.sym IntKind.i64 (zb (over9 a b c d e f g h i || over9 p q r s t u v w k) (IntKind.i64.wrap (IntKind.i64.wrap (IntKind.i64.wrap (g * p) + IntKind.i64.wrap (h * s)) + IntKind.i64.wrap (i * v)))), SV.sym IntKind.i64 (zb (over9 a b c d e f g h i || over9 p q r s t u v w k) (IntKind.i64.wrap (IntKind.i64.wrap (IntKind.i64.wrap (g * q) + IntKind.i64.wrap (h * t)) + IntKind.i64.wrap (i * w)))), SV.sym IntKind.i64 (zb (over9 a b c d e f g h i || over9 p q r s t u v w k) (IntKind.i64.wrap (IntKind.i64.wrap (IntKind.i64.wrap (g * r) + IntKind.i64.wrap (h * u)) + IntKind.i64.wrap (i * k)))), SV.sym IntKind.i64 (modF (IntKind.i64.wrap ((modF (IntKind.i64.wrap (modF (IntKind.i64.wrap (modF (IntKind.i64.wrap ((0 : Int) + IntKind.i64.wrap (modF a (24 : Int) * l))) (24 : Int) + IntKind.i64.wrap (modF b (24 : Int) * m))) (24 : Int) + IntKind.i64.wrap (modF c (24 : Int) * n))) (24 : Int)).tmod (24 : Int) + x.tmod (24 : Int))) (24 : Int)), SV.sym IntKind.i64 (modF (IntKind.i64.wrap ((modF (IntKind.i64.wrap (modF (IntKind.i64.wrap (modF (IntKind.i64.wrap ((0 : Int) + IntKind.i64.wrap (modF d (24 : Int) * l))) (24 : Int) + IntKind.i64.wrap (modF e (24 : Int) * m))) (24 : Int) + IntKind.i64.wrap (modF f (24 : Int) * n))) (24 : Int)).tmod (24 : Int) + y.tmod (24 : Int))) (24 : Int)), SV.sym IntKind.i64 (modF (IntKind.i64.wrap ((modF (IntKind.i64.wrap (modF (IntKind.i64.wrap (modF (IntKind.i64.wrap ((0 : Int) + IntKind.i64.wrap (modF g (24 : Int) * l))) (24 : Int) + IntKind.i64.wrap (modF h (24 : Int) * m))) (24 : Int) + IntKind.i64.wrap (modF i (24 : Int) * n))) (24 : Int)).tmod (24 : Int) + z.tmod (24 : Int))) (24 : Int))]))
  | _ => .fail
theorem nf41 (a b c d e f g h i x y z p q r s t u v w k l m n : Int) (K : KV) : call P G4 noAnn 100000 Try.f41 [.v (.agg [.sym .i64 a, .sym .i64 b, .sym .i64 c, .sym .i64 d, .sym .i64 e, .sym .i64 f, .sym .i64 g, .sym .i64 h, .sym .i64 i, .sym .i64 x, .sym .i64 y, .sym .i64 z]), .v (.agg [.sym .i64 p, .sym .i64 q, .sym .i64 r, .sym .i64 s, .sym .i64 t, .sym .i64 u, .sym .i64 v, .sym .i64 w, .sym .i64 k, .sym .i64 l, .sym .i64 m, .sym .i64 n])] [] K = (K (AV.v (PV.agg [SV.sym IntKind.i64 (zb (over9 a b c d e f g h i || over9 p q r s t u v w k) (IntKind.i64.wrap (IntKind.i64.wrap (IntKind.i64.wrap (a * p) + IntKind.i64.wrap (b * s)) + IntKind.i64.wrap (c * v)))), SV.sym IntKind.i64 (zb (over9 a b c d e f g h i || over9 p q r s t u v w k) (IntKind.i64.wrap (IntKind.i64.wrap (IntKind.i64.wrap (a * q) + IntKind.i64.wrap (b * t)) + IntKind.i64.wrap (c * w)))), SV.sym IntKind.i64 (zb (over9 a b c d e f g h i || over9 p q r s t u v w k) (IntKind.i64.wrap (IntKind.i64.wrap (IntKind.i64.wrap (a * r) + IntKind.i64.wrap (b * u)) + IntKind.i64.wrap (c * k)))), SV.sym IntKind.i64 (zb (over9 a b c d e f g h i || over9 p q r s t u v w k) (IntKind.i64.wrap (IntKind.i64.wrap (IntKind.i64.wrap (d * p) + IntKind.i64.wrap (e * s)) + IntKind.i64.wrap (f * v)))), SV.sym IntKind.i64 (zb (over9 a b c d e f g h i || over9 p q r s t u v w k) (IntKind.i64.wrap (IntKind.i64.wrap (IntKind.i64.wrap (d * q) + IntKind.i64.wrap (e * t)) + IntKind.i64.wrap (f * w)))), SV.sym IntKind.i64 (zb (over9 a b c d e f g h i || over9 p q r s t u v w k) (IntKind.i64.wrap (IntKind.i64.wrap (IntKind.i64.wrap (d * r) + IntKind.i64.wrap (e * u)) + IntKind.i64.wrap (f * k)))), SV.sym IntKind.i64 (zb (over9 a b c d e f g h i || over9 p q r s t u v w k) (IntKind.i64.wrap (IntKind.i64.wrap (IntKind.i64.wrap (g * p) + IntKind.i64.wrap (h * s)) + IntKind.i64.wrap (i * v)))), SV.sym IntKind.i64 (zb (over9 a b c d e f g h i || over9 p q r s t u v w k) (IntKind.i64.wrap (IntKind.i64.wrap (IntKind.i64.wrap (g * q) + IntKind.i64.wrap (h * t)) + IntKind.i64.wrap (i * w)))), SV.sym IntKind.i64 (zb (over9 a b c d e f g h i || over9 p q r s t u v w k) (IntKind.i64.wrap (IntKind.i64.wrap (IntKind.i64.wrap (g * r) + IntKind.i64.wrap (h * u)) + IntKind.i64.wrap (i * k)))), SV.sym IntKind.i64 (modF (IntKind.i64.wrap ((modF (IntKind.i64.wrap (modF (IntKind.i64.wrap (modF (IntKind.i64.wrap ((0 : Int) + IntKind.i64.wrap (modF a (24 : Int) * l))) (24 : Int) + IntKind.i64.wrap (modF b (24 : Int) * m))) (24 : Int) + IntKind.i64.wrap (modF c (24 : Int) * n))) (24 : Int)).tmod (24 : Int) + x.tmod (24 : Int))) (24 : Int)), SV.sym IntKind.i64 (modF (IntKind.i64.wrap ((modF (IntKind.i64.wrap (modF (IntKind.i64.wrap (modF (IntKind.i64.wrap ((0 : Int) + IntKind.i64.wrap (modF d (24 : Int) * l))) (24 : Int) + IntKind.i64.wrap (modF e (24 : Int) * m))) (24 : Int) + IntKind.i64.wrap (modF f (24 : Int) * n))) (24 : Int)).tmod (24 : Int) + y.tmod (24 : Int))) (24 : Int)), SV.sym IntKind.i64 (modF (IntKind.i64.wrap ((modF (IntKind.i64.wrap (modF (IntKind.i64.wrap (modF (IntKind.i64.wrap ((0 : Int) + IntKind.i64.wrap (modF g (24 : Int) * l))) (24 : Int) + IntKind.i64.wrap (modF h (24 : Int) * m))) (24 : Int) + IntKind.i64.wrap (modF i (24 : Int) * n))) (24 : Int)).tmod (24 : Int) + z.tmod (24 : Int))) (24 : Int))])) []) := by kernel_rfl
theorem h41 : Holds P G4 41 q41 := by
  refine holds_ok (fn := Try.f41) (by kernel_rfl) (by kernel_rfl) fun args av h => ?_
  unfold q41 at h
  split at h
  · rw [gives_ok h]
    refine ⟨rfl, _, rfl, ?_⟩
    rw [nf41]
    exact ⟨rfl, rfl⟩
  · exact (gives_fail h).elim
theorem h15 : Holds P G4 15 q15 := by
  refine holds_ok (fn := Try.f15) (by kernel_rfl) (by kernel_rfl) fun args av hg => ?_
  unfold q15 at hg
  split at hg
  · rename_i a b c d e f g h i
    rw [gives_ok hg]
    refine ⟨rfl, _, rfl, ?_⟩
    rw [nf15]
    cases h1 : over9 a b c d e f g h i with
    | false => exact ⟨fun h => absurd h (by decide), fun _ => ⟨rfl, rfl⟩⟩
    | true => exact ⟨fun _ => ⟨rfl, rfl⟩, fun h => absurd h (by decide)⟩
  · exact (gives_fail hg).elim
theorem h48 : Holds P G4 48 q48 := by
  refine holds_ok (fn := Try.f48) (by kernel_rfl) (by kernel_rfl) fun args av hg => ?_
  unfold q48 at hg
  split at hg
  · rename_i a b c d e f g h i
    rw [gives_ok hg]
    refine ⟨rfl, _, rfl, ?_⟩
    rw [nf48]
    rw [show IntKind.i64.wrap (IntKind.i64.wrap (IntKind.i64.wrap (a * cof e f h i) + IntKind.i64.wrap (b * cof f d i g)) + IntKind.i64.wrap (c * cof d e g h)) = det9 a b c d e f g h i from rfl]
    generalize det9 a b c d e f g h i = dd
    cases h1 : over9 a b c d e f g h i with
    | true => exact ⟨fun _ => ⟨fun h => absurd h (by decide), fun _ => ⟨rfl, rfl⟩⟩, fun h => absurd h (by decide)⟩
    | false =>
      refine ⟨fun h => absurd h (by decide), fun _ => ?_⟩
      by_cases h2 : dd = 1
      · subst h2
        simp [AV.valOf, PV.valOf, SV.val]
      · by_cases h3 : dd = -1
        · subst h3
          simp [AV.valOf, PV.valOf, SV.val]
        · simp [h2, h3, AV.valOf, PV.valOf, SV.val]
  · exact (gives_fail hg).elim
def G5 : Sums := ((G4.add 41 q41).add 15 q15).add 48 q48
end Go.AM

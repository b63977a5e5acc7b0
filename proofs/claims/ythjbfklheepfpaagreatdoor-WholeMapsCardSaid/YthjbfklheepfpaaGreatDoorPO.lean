import Derived.Test.YthjbfklheepfpaaGreatDoorCA
set_option linter.unusedVariables false
set_option linter.unusedSimpArgs false
set_option maxHeartbeats 4000000
open Go Go.AM Go.Proofs
namespace Go.AM
def O0 : Sums := G0.add 22 qMod
def oq65 : PSpec
  | [.v (.one (.sym .i64 n))] => .ok (I (modF n 24))
  | _ => .fail
theorem onf65 (n : Int) (K : KV) : call P O0 noAnn 100000 Tryz.f58 [I n] [] K = (K (AV.v (PV.one (SV.sym IntKind.i64 ((IntKind.i64.wrap (n.tmod 24 + 24)).tmod 24)))) []) := by kernel_rfl
theorem oh65 : Holds P O0 58 oq65 := by
  refine holds_ok (fn := Tryz.f58) (by kernel_rfl) (by kernel_rfl) fun args av h => ?_
  unfold oq65 at h
  split at h
  · rename_i n
    rw [gives_ok h]
    exact ⟨rfl, _, rfl, (onf65 n _).mpr ⟨rfl, rfl⟩⟩
  · exact (gives_fail h).elim
def oq46 : PSpec
  | [.v (.one (.sym .i64 x)), .v (.one (.sym .i64 m))] => .ok (B (beyond x m))
  | _ => .fail
theorem onf46 (x m : Int) (K : KV) : call P O0 noAnn 100000 Tryz.f72 [I x, I m] [] K = ((decide (x < IntKind.i64.wrap (0 - m)) = true → K (AV.v (PV.one (SV.cb true))) []) ∧ (decide (x < IntKind.i64.wrap (0 - m)) = false → K (AV.v (PV.one (SV.sb (decide (m < x))))) [])) := by kernel_rfl
theorem oh46 : Holds P O0 72 oq46 := by
  refine holds_ok (fn := Tryz.f72) (by kernel_rfl) (by kernel_rfl) fun args av h => ?_
  unfold oq46 at h
  split at h
  · rename_i x m
    rw [gives_ok h]
    refine ⟨rfl, _, rfl, ?_⟩
    rw [onf46 x m]
    repeat' (first | apply leafB | apply leafS | apply And.intro | intro _)
    all_goals
      simp only [decide_eq_true_eq, decide_eq_false_iff_not] at *
      simp only [beyond, Bool.or_eq_true, decide_eq_true_eq, true_iff, Bool.false_eq_true, false_iff]
      omega
  · exact (gives_fail h).elim
def O1 : Sums := ((O0.add 58 oq65).add 72 oq46)
end Go.AM
open Go Go.AM Go.Proofs
namespace Go.AM
def oq38 : PSpec
  | [] => .ok (AV.v (PV.agg [SV.con IntKind.i64 1, SV.con IntKind.i64 0, SV.con IntKind.i64 0, SV.con IntKind.i64 0, SV.con IntKind.i64 1, SV.con IntKind.i64 0, SV.con IntKind.i64 0, SV.con IntKind.i64 0, SV.con IntKind.i64 1]))
  | _ => .fail
theorem onf38  (K : KV) : call P O1 noAnn 100000 Tryz.f29 [] [] K = (K (AV.v (PV.agg [SV.con IntKind.i64 1, SV.con IntKind.i64 0, SV.con IntKind.i64 0, SV.con IntKind.i64 0, SV.con IntKind.i64 1, SV.con IntKind.i64 0, SV.con IntKind.i64 0, SV.con IntKind.i64 0, SV.con IntKind.i64 1])) []) := by kernel_rfl
theorem oh38 : Holds P O1 29 oq38 := by
  refine holds_ok (fn := Tryz.f29) (by kernel_rfl) (by kernel_rfl) fun args av h => ?_
  unfold oq38 at h
  split at h
  · rw [gives_ok h]
    refine ⟨rfl, _, rfl, ?_⟩
    rw [onf38]
    exact ⟨rfl, rfl⟩
  · exact (gives_fail h).elim
def oq29 : PSpec
  | [] => .ok (AV.v (PV.agg [SV.con IntKind.i64 1, SV.con IntKind.i64 0, SV.con IntKind.i64 0, SV.con IntKind.i64 0, SV.con IntKind.i64 1, SV.con IntKind.i64 0, SV.con IntKind.i64 0, SV.con IntKind.i64 0, SV.con IntKind.i64 1, SV.con IntKind.i64 0, SV.con IntKind.i64 0, SV.con IntKind.i64 0]))
  | _ => .fail
theorem onf29  (K : KV) : call P O1 noAnn 100000 Tryz.f10 [] [] K = (K (AV.v (PV.agg [SV.con IntKind.i64 1, SV.con IntKind.i64 0, SV.con IntKind.i64 0, SV.con IntKind.i64 0, SV.con IntKind.i64 1, SV.con IntKind.i64 0, SV.con IntKind.i64 0, SV.con IntKind.i64 0, SV.con IntKind.i64 1, SV.con IntKind.i64 0, SV.con IntKind.i64 0, SV.con IntKind.i64 0])) []) := by kernel_rfl
theorem oh29 : Holds P O1 10 oq29 := by
  refine holds_ok (fn := Tryz.f10) (by kernel_rfl) (by kernel_rfl) fun args av h => ?_
  unfold oq29 at h
  split at h
  · rw [gives_ok h]
    refine ⟨rfl, _, rfl, ?_⟩
    rw [onf29]
    exact ⟨rfl, rfl⟩
  · exact (gives_fail h).elim
def oq51 : PSpec
  | [.v (.agg [.sym .i64 a, .sym .i64 b, .sym .i64 c, .sym .i64 d, .sym .i64 e, .sym .i64 f, .sym .i64 g, .sym .i64 h, .sym .i64 i]), .v (.agg [.sym .i64 x, .sym .i64 y, .sym .i64 z])] => .ok (AV.v (PV.agg [SV.sym IntKind.i64 (modF (IntKind.i64.wrap (modF (IntKind.i64.wrap (modF (IntKind.i64.wrap (0 + IntKind.i64.wrap (modF a 24 * x))) 24 + IntKind.i64.wrap (modF b 24 * y))) 24 + IntKind.i64.wrap (modF c 24 * z))) 24), SV.sym IntKind.i64 (modF (IntKind.i64.wrap (modF (IntKind.i64.wrap (modF (IntKind.i64.wrap (0 + IntKind.i64.wrap (modF d 24 * x))) 24 + IntKind.i64.wrap (modF e 24 * y))) 24 + IntKind.i64.wrap (modF f 24 * z))) 24), SV.sym IntKind.i64 (modF (IntKind.i64.wrap (modF (IntKind.i64.wrap (modF (IntKind.i64.wrap (0 + IntKind.i64.wrap (modF g 24 * x))) 24 + IntKind.i64.wrap (modF h 24 * y))) 24 + IntKind.i64.wrap (modF i 24 * z))) 24)]))
  | _ => .fail
theorem onf51 (a b c d e f g h i x y z : Int) (K : KV) : call P O1 noAnn 100000 Tryz.f32 [M a b c d e f g h i, V x y z] [] K = (K (.v (.agg [.sym .i64 (modF (IntKind.i64.wrap (modF (IntKind.i64.wrap (modF (IntKind.i64.wrap (0+IntKind.i64.wrap (modF a 24*x))) 24+IntKind.i64.wrap (modF b 24*y))) 24+IntKind.i64.wrap (modF c 24*z))) 24),.sym .i64 (modF (IntKind.i64.wrap (modF (IntKind.i64.wrap (modF (IntKind.i64.wrap (0+IntKind.i64.wrap (modF d 24*x))) 24+IntKind.i64.wrap (modF e 24*y))) 24+IntKind.i64.wrap (modF f 24*z))) 24),.sym .i64 (modF (IntKind.i64.wrap (modF (IntKind.i64.wrap (modF (IntKind.i64.wrap (0+IntKind.i64.wrap (modF g 24*x))) 24+IntKind.i64.wrap (modF h 24*y))) 24+IntKind.i64.wrap (modF i 24*z))) 24)])) []) := by kernel_rfl
theorem oh51 : Holds P O1 32 oq51 := by
  refine holds_ok (fn := Tryz.f32) (by kernel_rfl) (by kernel_rfl) fun args av h => ?_
  unfold oq51 at h
  split at h
  · rw [gives_ok h]
    refine ⟨rfl, _, rfl, ?_⟩
    rw [onf51]
    exact ⟨rfl, rfl⟩
  · exact (gives_fail h).elim
def oq63 : PSpec
  | [.v (.agg [.sym .i64 a, .sym .i64 b, .sym .i64 c, .sym .i64 d, .sym .i64 e, .sym .i64 f, .sym .i64 g, .sym .i64 h, .sym .i64 i]), .v (.agg [.sym .i64 p, .sym .i64 q, .sym .i64 r, .sym .i64 s, .sym .i64 t, .sym .i64 u, .sym .i64 v, .sym .i64 w, .sym .i64 x])] => .ok (AV.v (PV.agg [SV.sym IntKind.i64 (IntKind.i64.wrap (IntKind.i64.wrap (IntKind.i64.wrap (a * p) + IntKind.i64.wrap (b * s)) + IntKind.i64.wrap (c * v))), SV.sym IntKind.i64 (IntKind.i64.wrap (IntKind.i64.wrap (IntKind.i64.wrap (a * q) + IntKind.i64.wrap (b * t)) + IntKind.i64.wrap (c * w))), SV.sym IntKind.i64 (IntKind.i64.wrap (IntKind.i64.wrap (IntKind.i64.wrap (a * r) + IntKind.i64.wrap (b * u)) + IntKind.i64.wrap (c * x))), SV.sym IntKind.i64 (IntKind.i64.wrap (IntKind.i64.wrap (IntKind.i64.wrap (d * p) + IntKind.i64.wrap (e * s)) + IntKind.i64.wrap (f * v))), SV.sym IntKind.i64 (IntKind.i64.wrap (IntKind.i64.wrap (IntKind.i64.wrap (d * q) + IntKind.i64.wrap (e * t)) + IntKind.i64.wrap (f * w))), SV.sym IntKind.i64 (IntKind.i64.wrap (IntKind.i64.wrap (IntKind.i64.wrap (d * r) + IntKind.i64.wrap (e * u)) + IntKind.i64.wrap (f * x))), SV.sym IntKind.i64 (IntKind.i64.wrap (IntKind.i64.wrap (IntKind.i64.wrap (g * p) + IntKind.i64.wrap (h * s)) + IntKind.i64.wrap (i * v))), SV.sym IntKind.i64 (IntKind.i64.wrap (IntKind.i64.wrap (IntKind.i64.wrap (g * q) + IntKind.i64.wrap (h * t)) + IntKind.i64.wrap (i * w))), SV.sym IntKind.i64 (IntKind.i64.wrap (IntKind.i64.wrap (IntKind.i64.wrap (g * r) + IntKind.i64.wrap (h * u)) + IntKind.i64.wrap (i * x)))]))
  | _ => .fail
theorem onf63 (a b c d e f g h i p q r s t u v w x : Int) (K : KV) : call P O1 noAnn 100000 Tryz.f73 [M a b c d e f g h i, M p q r s t u v w x] [] K = (K (.v (.agg [.sym .i64 (IntKind.i64.wrap (IntKind.i64.wrap (IntKind.i64.wrap (a*p)+IntKind.i64.wrap (b*s))+IntKind.i64.wrap (c*v))),.sym .i64 (IntKind.i64.wrap (IntKind.i64.wrap (IntKind.i64.wrap (a*q)+IntKind.i64.wrap (b*t))+IntKind.i64.wrap (c*w))),.sym .i64 (IntKind.i64.wrap (IntKind.i64.wrap (IntKind.i64.wrap (a*r)+IntKind.i64.wrap (b*u))+IntKind.i64.wrap (c*x))),.sym .i64 (IntKind.i64.wrap (IntKind.i64.wrap (IntKind.i64.wrap (d*p)+IntKind.i64.wrap (e*s))+IntKind.i64.wrap (f*v))),.sym .i64 (IntKind.i64.wrap (IntKind.i64.wrap (IntKind.i64.wrap (d*q)+IntKind.i64.wrap (e*t))+IntKind.i64.wrap (f*w))),.sym .i64 (IntKind.i64.wrap (IntKind.i64.wrap (IntKind.i64.wrap (d*r)+IntKind.i64.wrap (e*u))+IntKind.i64.wrap (f*x))),.sym .i64 (IntKind.i64.wrap (IntKind.i64.wrap (IntKind.i64.wrap (g*p)+IntKind.i64.wrap (h*s))+IntKind.i64.wrap (i*v))),.sym .i64 (IntKind.i64.wrap (IntKind.i64.wrap (IntKind.i64.wrap (g*q)+IntKind.i64.wrap (h*t))+IntKind.i64.wrap (i*w))),.sym .i64 (IntKind.i64.wrap (IntKind.i64.wrap (IntKind.i64.wrap (g*r)+IntKind.i64.wrap (h*u))+IntKind.i64.wrap (i*x)))])) []) := by kernel_rfl
theorem oh63 : Holds P O1 73 oq63 := by
  refine holds_ok (fn := Tryz.f73) (by kernel_rfl) (by kernel_rfl) fun args av h => ?_
  unfold oq63 at h
  split at h
  · rw [gives_ok h]
    refine ⟨rfl, _, rfl, ?_⟩
    rw [onf63]
    exact ⟨rfl, rfl⟩
  · exact (gives_fail h).elim
def O2 : Sums := ((((O1.add 29 oq38).add 10 oq29).add 32 oq51).add 73 oq63)
end Go.AM
open Go Go.AM Go.Proofs
namespace Go.AM
def cof (a b c d : Int) : Int := IntKind.i64.wrap (IntKind.i64.wrap (a * d) - IntKind.i64.wrap (b * c))
def over9 (a b c d e f g h i : Int) : Bool := beyond a 1000 || (beyond b 1000 || (beyond c 1000 || (beyond d 1000 || (beyond e 1000 || (beyond f 1000 || (beyond g 1000 || (beyond h 1000 || beyond i 1000)))))))
def oq47 : PSpec
  | [.v (.agg [.sym .i64 a, .sym .i64 b, .sym .i64 c, .sym .i64 d, .sym .i64 e, .sym .i64 f, .sym .i64 g, .sym .i64 h, .sym .i64 i]), .v (.one (.con .i64 x)), .v (.one (.con .i64 y))] => if x = 0 then (if y = 0 then .ok (I (cof e f h i)) else if y = 1 then .ok (I (cof f d i g)) else if y = 2 then .ok (I (cof d e g h)) else .fail) else .fail
  | _ => .fail
theorem onf47_0 (a b c d e f g h i : Int) (K : KV) : call P O2 noAnn 100000 Tryz.f75 [M a b c d e f g h i, C 0, C 0] [] K = (K (AV.v (PV.one (SV.sym IntKind.i64 (IntKind.i64.wrap (IntKind.i64.wrap (e * i) - IntKind.i64.wrap (f * h)))))) []) := by kernel_rfl
theorem onf47_1 (a b c d e f g h i : Int) (K : KV) : call P O2 noAnn 100000 Tryz.f75 [M a b c d e f g h i, C 0, C 1] [] K = (K (AV.v (PV.one (SV.sym IntKind.i64 (IntKind.i64.wrap (IntKind.i64.wrap (f * g) - IntKind.i64.wrap (d * i)))))) []) := by kernel_rfl
theorem onf47_2 (a b c d e f g h i : Int) (K : KV) : call P O2 noAnn 100000 Tryz.f75 [M a b c d e f g h i, C 0, C 2] [] K = (K (AV.v (PV.one (SV.sym IntKind.i64 (IntKind.i64.wrap (IntKind.i64.wrap (d * h) - IntKind.i64.wrap (e * g)))))) []) := by kernel_rfl
theorem oh47 : Holds P O2 75 oq47 := by
  refine holds_ok (fn := Tryz.f75) (by kernel_rfl) (by kernel_rfl) fun args av hg => ?_
  unfold oq47 at hg
  split at hg
  · split at hg
    · rename_i hx
      subst hx
      split at hg
      · rename_i hy
        subst hy
        rw [gives_ok hg]
        refine ⟨rfl, _, rfl, ?_⟩
        rw [onf47_0]
        exact ⟨rfl, rfl⟩
      · split at hg
        · rename_i hy
          subst hy
          rw [gives_ok hg]
          refine ⟨rfl, _, rfl, ?_⟩
          rw [onf47_1]
          exact ⟨rfl, rfl⟩
        · split at hg
          · rename_i hy
            subst hy
            rw [gives_ok hg]
            refine ⟨rfl, _, rfl, ?_⟩
            rw [onf47_2]
            exact ⟨rfl, rfl⟩
          · exact (gives_fail hg).elim
    · exact (gives_fail hg).elim
  · exact (gives_fail hg).elim
def oq33 : PSpec
  | [.v (.agg [.sym .i64 a, .sym .i64 b, .sym .i64 c, .sym .i64 d, .sym .i64 e, .sym .i64 f, .sym .i64 g, .sym .i64 h, .sym .i64 i])] => .ok (I (if over9 a b c d e f g h i then 4 else 0))
  | _ => .fail
theorem onf33 (a b c d e f g h i : Int) (K : KV) : call P O2 noAnn 100000 Tryz.f51 [M a b c d e f g h i] [] K = ((beyond a 1000=true->K (.v (.one (.con .i64 4))) [])/\(beyond a 1000=false->(beyond b 1000=true->K (.v (.one (.con .i64 4))) [])/\(beyond b 1000=false->(beyond c 1000=true->K (.v (.one (.con .i64 4))) [])/\(beyond c 1000=false->(beyond d 1000=true->K (.v (.one (.con .i64 4))) [])/\(beyond d 1000=false->(beyond e 1000=true->K (.v (.one (.con .i64 4))) [])/\(beyond e 1000=false->(beyond f 1000=true->K (.v (.one (.con .i64 4))) [])/\(beyond f 1000=false->(beyond g 1000=true->K (.v (.one (.con .i64 4))) [])/\(beyond g 1000=false->(beyond h 1000=true->K (.v (.one (.con .i64 4))) [])/\(beyond h 1000=false->(beyond i 1000=true->K (.v (.one (.con .i64 4))) [])/\(beyond i 1000=false->K (.v (.one (.con .i64 0))) [])))))))))) := by kernel_rfl
theorem oh33 : Holds P O2 51 oq33 := by
  refine holds_ok (fn := Tryz.f51) (by kernel_rfl) (by kernel_rfl) fun args av hg => ?_
  unfold oq33 at hg
  split at hg
  · rw [gives_ok hg]
    refine ⟨rfl, _, rfl, ?_⟩
    rw [onf33]
    repeat' (first | apply leafI | apply And.intro | intro _)
    all_goals simp [over9, *]
  · exact (gives_fail hg).elim
def oq50 : PSpec
  | [.v (.agg [.sym .i64 a, .sym .i64 b, .sym .i64 c]), .v (.agg [.sym .i64 d, .sym .i64 e, .sym .i64 f])] => .ok (V (modF (IntKind.i64.wrap (a.tmod 24 + d.tmod 24)) 24) (modF (IntKind.i64.wrap (b.tmod 24 + e.tmod 24)) 24) (modF (IntKind.i64.wrap (c.tmod 24 + f.tmod 24)) 24))
  | _ => .fail
theorem onf50 (a b c d e f : Int) (K : KV) : call P O2 noAnn 100000 Tryz.f34 [V a b c, V d e f] [] K = (((24:Int)=0->False)/\((24:Int)=0->False)/\((24:Int)=0->False)/\K (.v (.agg [.sym .i64 (modF (IntKind.i64.wrap (a.tmod 24+d.tmod 24)) 24),.sym .i64 (modF (IntKind.i64.wrap (b.tmod 24+e.tmod 24)) 24),.sym .i64 (modF (IntKind.i64.wrap (c.tmod 24+f.tmod 24)) 24)])) []) := by kernel_rfl
theorem oh50 : Holds P O2 34 oq50 := by
  refine holds_ok (fn := Tryz.f34) (by kernel_rfl) (by kernel_rfl) fun args av hg => ?_
  unfold oq50 at hg
  split at hg
  · rw [gives_ok hg]
    refine ⟨rfl, _, rfl, ?_⟩
    rw [onf50]
    exact ⟨by decide, by decide, by decide, rfl, rfl⟩
  · exact (gives_fail hg).elim
def O3 : Sums := (((O2.add 75 oq47 [false, true, true]).add 51 oq33).add 34 oq50)
end Go.AM
open Go Go.AM Go.Proofs
namespace Go.AM
def zb (bad : Bool) (x : Int) : Int := if bad then 0 else x
def oq34 : PSpec
  | [.v (.agg [.sym .i64 a, .sym .i64 b, .sym .i64 c, .sym .i64 d, .sym .i64 e, .sym .i64 f, .sym .i64 g, .sym .i64 h, .sym .i64 i])] => .ok (I (IntKind.i64.wrap (IntKind.i64.wrap (IntKind.i64.wrap (a * cof e f h i) + IntKind.i64.wrap (b * cof f d i g)) + IntKind.i64.wrap (c * cof d e g h))))
  | _ => .fail
theorem onf34 (a b c d e f g h i : Int) (K : KV) : call P O3 noAnn 100000 Tryz.f74 [M a b c d e f g h i] [] K = (K (AV.v (PV.one (SV.sym IntKind.i64 (IntKind.i64.wrap (IntKind.i64.wrap (IntKind.i64.wrap (a * cof e f h i) + IntKind.i64.wrap (b * cof f d i g)) + IntKind.i64.wrap (c * cof d e g h)))))) []) := by kernel_rfl
theorem oh34 : Holds P O3 74 oq34 := by
  refine holds_ok (fn := Tryz.f74) (by kernel_rfl) (by kernel_rfl) fun args av hg => ?_
  unfold oq34 at hg
  split at hg
  · rw [gives_ok hg]
    refine ⟨rfl, _, rfl, ?_⟩
    rw [onf34]
    exact ⟨rfl, rfl⟩
  · exact (gives_fail hg).elim
def oq40 : PSpec
  | [.v (.agg [.sym .i64 a, .sym .i64 b, .sym .i64 c, .sym .i64 d, .sym .i64 e, .sym .i64 f, .sym .i64 g, .sym .i64 h, .sym .i64 i, .sym .i64 x, .sym .i64 y, .sym .i64 z])] => .ok (.tup [.agg [.sym .i64 (zb (over9 a b c d e f g h i) a), .sym .i64 (zb (over9 a b c d e f g h i) b), .sym .i64 (zb (over9 a b c d e f g h i) c), .sym .i64 (zb (over9 a b c d e f g h i) d), .sym .i64 (zb (over9 a b c d e f g h i) e), .sym .i64 (zb (over9 a b c d e f g h i) f), .sym .i64 (zb (over9 a b c d e f g h i) g), .sym .i64 (zb (over9 a b c d e f g h i) h), .sym .i64 (zb (over9 a b c d e f g h i) i), .sym .i64 (zb (over9 a b c d e f g h i) x), .sym .i64 (zb (over9 a b c d e f g h i) y), .sym .i64 (zb (over9 a b c d e f g h i) z)], .one (.sym .i64 (if over9 a b c d e f g h i then 4 else 0))])
  | _ => .fail
theorem onf40 (a b c d e f g h i x y z : Int) (K : KV) : call P O3 noAnn 100000 Tryz.f24 [.v (.agg [.sym .i64 a, .sym .i64 b, .sym .i64 c, .sym .i64 d, .sym .i64 e, .sym .i64 f, .sym .i64 g, .sym .i64 h, .sym .i64 i, .sym .i64 x, .sym .i64 y, .sym .i64 z])] [] K = (((!decide ((if over9 a b c d e f g h i=true then (4:Int) else (0:Int))=0))=true->K (.tup [.agg [.con .i64 (0:Int),.con .i64 (0:Int),.con .i64 (0:Int),.con .i64 (0:Int),.con .i64 (0:Int),.con .i64 (0:Int),.con .i64 (0:Int),.con .i64 (0:Int),.con .i64 (0:Int),.con .i64 (0:Int),.con .i64 (0:Int),.con .i64 0],.one (.sym .i64 (if over9 a b c d e f g h i=true then (4:Int) else (0:Int)))]) [])/\((!decide ((if over9 a b c d e f g h i=true then (4:Int) else (0:Int))=0))=false->K (.tup [.agg [.sym .i64 a,.sym .i64 b,.sym .i64 c,.sym .i64 d,.sym .i64 e,.sym .i64 f,.sym .i64 g,.sym .i64 h,.sym .i64 i,.sym .i64 x,.sym .i64 y,.sym .i64 z],.one (.con .i64 0)]) [])) := by kernel_rfl
theorem oh40 : Holds P O3 24 oq40 := by
  refine holds_ok (fn := Tryz.f24) (by kernel_rfl) (by kernel_rfl) fun args av hg => ?_
  unfold oq40 at hg
  split at hg
  · rename_i a b c d e f g h i x y z
    rw [gives_ok hg]
    refine ⟨rfl, _, rfl, ?_⟩
    rw [onf40]
    cases h1 : over9 a b c d e f g h i with
    | false => exact ⟨fun h => absurd h (by decide), fun _ => ⟨rfl, rfl⟩⟩
    | true => exact ⟨fun _ => ⟨rfl, rfl⟩, fun h => absurd h (by decide)⟩
  · exact (gives_fail hg).elim
def oq49 : PSpec
  | [.v (.agg [.sym .i64 a, .sym .i64 b, .sym .i64 c, .sym .i64 d, .sym .i64 e, .sym .i64 f, .sym .i64 g, .sym .i64 h, .sym .i64 i]), .v (.agg [.sym .i64 p, .sym .i64 q, .sym .i64 r, .sym .i64 s, .sym .i64 t, .sym .i64 u, .sym .i64 v, .sym .i64 w, .sym .i64 x])] => .ok (.tup [.agg [.sym .i64 (zb (over9 a b c d e f g h i || over9 p q r s t u v w x) (IntKind.i64.wrap (IntKind.i64.wrap (IntKind.i64.wrap (a * p) + IntKind.i64.wrap (b * s)) + IntKind.i64.wrap (c * v)))), .sym .i64 (zb (over9 a b c d e f g h i || over9 p q r s t u v w x) (IntKind.i64.wrap (IntKind.i64.wrap (IntKind.i64.wrap (a * q) + IntKind.i64.wrap (b * t)) + IntKind.i64.wrap (c * w)))), .sym .i64 (zb (over9 a b c d e f g h i || over9 p q r s t u v w x) (IntKind.i64.wrap (IntKind.i64.wrap (IntKind.i64.wrap (a * r) + IntKind.i64.wrap (b * u)) + IntKind.i64.wrap (c * x)))), .sym .i64 (zb (over9 a b c d e f g h i || over9 p q r s t u v w x) (IntKind.i64.wrap (IntKind.i64.wrap (IntKind.i64.wrap (d * p) + IntKind.i64.wrap (e * s)) + IntKind.i64.wrap (f * v)))), .sym .i64 (zb (over9 a b c d e f g h i || over9 p q r s t u v w x) (IntKind.i64.wrap (IntKind.i64.wrap (IntKind.i64.wrap (d * q) + IntKind.i64.wrap (e * t)) + IntKind.i64.wrap (f * w)))), .sym .i64 (zb (over9 a b c d e f g h i || over9 p q r s t u v w x) (IntKind.i64.wrap (IntKind.i64.wrap (IntKind.i64.wrap (d * r) + IntKind.i64.wrap (e * u)) + IntKind.i64.wrap (f * x)))), .sym .i64 (zb (over9 a b c d e f g h i || over9 p q r s t u v w x) (IntKind.i64.wrap (IntKind.i64.wrap (IntKind.i64.wrap (g * p) + IntKind.i64.wrap (h * s)) + IntKind.i64.wrap (i * v)))), .sym .i64 (zb (over9 a b c d e f g h i || over9 p q r s t u v w x) (IntKind.i64.wrap (IntKind.i64.wrap (IntKind.i64.wrap (g * q) + IntKind.i64.wrap (h * t)) + IntKind.i64.wrap (i * w)))), .sym .i64 (zb (over9 a b c d e f g h i || over9 p q r s t u v w x) (IntKind.i64.wrap (IntKind.i64.wrap (IntKind.i64.wrap (g * r) + IntKind.i64.wrap (h * u)) + IntKind.i64.wrap (i * x))))], .one (.sym .i64 (if (over9 a b c d e f g h i || over9 p q r s t u v w x) then 4 else 0))])
  | _ => .fail
theorem onf49 (a b c d e f g h i p q r s t u v w x : Int) (K : KV) : call P O3 noAnn 100000 Tryz.f52 [M a b c d e f g h i, M p q r s t u v w x] [] K = (((!decide ((if over9 a b c d e f g h i=true then (4:Int) else (0:Int))=0))=true->K (.tup [.agg [.con .i64 (0:Int),.con .i64 (0:Int),.con .i64 (0:Int),.con .i64 (0:Int),.con .i64 (0:Int),.con .i64 (0:Int),.con .i64 (0:Int),.con .i64 (0:Int),.con .i64 0],.one (.con .i64 4)]) [])/\((!decide ((if over9 a b c d e f g h i=true then (4:Int) else (0:Int))=0))=false->((!decide ((if over9 p q r s t u v w x=true then (4:Int) else (0:Int))=0))=true->K (.tup [.agg [.con .i64 (0:Int),.con .i64 (0:Int),.con .i64 (0:Int),.con .i64 (0:Int),.con .i64 (0:Int),.con .i64 (0:Int),.con .i64 (0:Int),.con .i64 (0:Int),.con .i64 0],.one (.con .i64 4)]) [])/\((!decide ((if over9 p q r s t u v w x=true then (4:Int) else (0:Int))=0))=false->K (.tup [.agg [.sym .i64 (IntKind.i64.wrap (IntKind.i64.wrap (IntKind.i64.wrap (a*p)+IntKind.i64.wrap (b*s))+IntKind.i64.wrap (c*v))),.sym .i64 (IntKind.i64.wrap (IntKind.i64.wrap (IntKind.i64.wrap (a*q)+IntKind.i64.wrap (b*t))+IntKind.i64.wrap (c*w))),.sym .i64 (IntKind.i64.wrap (IntKind.i64.wrap (IntKind.i64.wrap (a*r)+IntKind.i64.wrap (b*u))+IntKind.i64.wrap (c*x))),.sym .i64 (IntKind.i64.wrap (IntKind.i64.wrap (IntKind.i64.wrap (d*p)+IntKind.i64.wrap (e*s))+IntKind.i64.wrap (f*v))),.sym .i64 (IntKind.i64.wrap (IntKind.i64.wrap (IntKind.i64.wrap (d*q)+IntKind.i64.wrap (e*t))+IntKind.i64.wrap (f*w))),.sym .i64 (IntKind.i64.wrap (IntKind.i64.wrap (IntKind.i64.wrap (d*r)+IntKind.i64.wrap (e*u))+IntKind.i64.wrap (f*x))),.sym .i64 (IntKind.i64.wrap (IntKind.i64.wrap (IntKind.i64.wrap (g*p)+IntKind.i64.wrap (h*s))+IntKind.i64.wrap (i*v))),.sym .i64 (IntKind.i64.wrap (IntKind.i64.wrap (IntKind.i64.wrap (g*q)+IntKind.i64.wrap (h*t))+IntKind.i64.wrap (i*w))),.sym .i64 (IntKind.i64.wrap (IntKind.i64.wrap (IntKind.i64.wrap (g*r)+IntKind.i64.wrap (h*u))+IntKind.i64.wrap (i*x)))],.one (.con .i64 0)]) []))) := by kernel_rfl
theorem oh49 : Holds P O3 52 oq49 := by
  refine holds_ok (fn := Tryz.f52) (by kernel_rfl) (by kernel_rfl) fun args av hg => ?_
  unfold oq49 at hg
  split at hg
  · rename_i a b c d e f g h i p q r s t u v w x
    rw [gives_ok hg]
    refine ⟨rfl, _, rfl, ?_⟩
    rw [onf49]
    cases h1 : over9 a b c d e f g h i with
    | true => exact ⟨fun _ => ⟨rfl, rfl⟩, fun h => absurd h (by decide)⟩
    | false =>
      cases h2 : over9 p q r s t u v w x with
      | true => exact ⟨fun h => absurd h (by decide), fun _ => ⟨fun _ => ⟨rfl, rfl⟩, fun h => absurd h (by decide)⟩⟩
      | false => exact ⟨fun h => absurd h (by decide), fun _ => ⟨fun h => absurd h (by decide), fun _ => ⟨rfl, rfl⟩⟩⟩
  · exact (gives_fail hg).elim
def O4 : Sums := (((O3.add 74 oq34).add 24 oq40).add 52 oq49)
end Go.AM
open Go Go.AM Go.Proofs
namespace Go.AM
def det9 (a b c d e f g h i : Int) : Int := IntKind.i64.wrap (IntKind.i64.wrap (IntKind.i64.wrap (a * cof e f h i) + IntKind.i64.wrap (b * cof f d i g)) + IntKind.i64.wrap (c * cof d e g h))
def oq41 : PSpec
  | [.v (.agg [.sym .i64 a, .sym .i64 b, .sym .i64 c, .sym .i64 d, .sym .i64 e, .sym .i64 f, .sym .i64 g, .sym .i64 h, .sym .i64 i, .sym .i64 x, .sym .i64 y, .sym .i64 z]), .v (.agg [.sym .i64 p, .sym .i64 q, .sym .i64 r, .sym .i64 s, .sym .i64 t, .sym .i64 u, .sym .i64 v, .sym .i64 w, .sym .i64 k, .sym .i64 l, .sym .i64 m, .sym .i64 n])] => .ok (AV.v (PV.agg [SV.sym IntKind.i64 (zb (over9 a b c d e f g h i || over9 p q r s t u v w k) (IntKind.i64.wrap (IntKind.i64.wrap (IntKind.i64.wrap (a * p) + IntKind.i64.wrap (b * s)) + IntKind.i64.wrap (c * v)))), SV.sym IntKind.i64 (zb (over9 a b c d e f g h i || over9 p q r s t u v w k) (IntKind.i64.wrap (IntKind.i64.wrap (IntKind.i64.wrap (a * q) + IntKind.i64.wrap (b * t)) + IntKind.i64.wrap (c * w)))), SV.sym IntKind.i64 (zb (over9 a b c d e f g h i || over9 p q r s t u v w k) (IntKind.i64.wrap (IntKind.i64.wrap (IntKind.i64.wrap (a * r) + IntKind.i64.wrap (b * u)) + IntKind.i64.wrap (c * k)))), SV.sym IntKind.i64 (zb (over9 a b c d e f g h i || over9 p q r s t u v w k) (IntKind.i64.wrap (IntKind.i64.wrap (IntKind.i64.wrap (d * p) + IntKind.i64.wrap (e * s)) + IntKind.i64.wrap (f * v)))), SV.sym IntKind.i64 (zb (over9 a b c d e f g h i || over9 p q r s t u v w k) (IntKind.i64.wrap (IntKind.i64.wrap (IntKind.i64.wrap (d * q) + IntKind.i64.wrap (e * t)) + IntKind.i64.wrap (f * w)))), SV.sym IntKind.i64 (zb (over9 a b c d e f g h i || over9 p q r s t u v w k) (IntKind.i64.wrap (IntKind.i64.wrap (IntKind.i64.wrap (d * r) + IntKind.i64.wrap (e * u)) + IntKind.i64.wrap (f * k)))), SV.sym IntKind.i64 (zb (over9 a b c d e f g h i || over9 p q r s t u v w k) (IntKind.i64.wrap (IntKind.i64.wrap (IntKind.i64.wrap (g * p) + IntKind.i64.wrap (h * s)) + IntKind.i64.wrap (i * v)))), SV.sym IntKind.i64 (zb (over9 a b c d e f g h i || over9 p q r s t u v w k) (IntKind.i64.wrap (IntKind.i64.wrap (IntKind.i64.wrap (g * q) + IntKind.i64.wrap (h * t)) + IntKind.i64.wrap (i * w)))), SV.sym IntKind.i64 (zb (over9 a b c d e f g h i || over9 p q r s t u v w k) (IntKind.i64.wrap (IntKind.i64.wrap (IntKind.i64.wrap (g * r) + IntKind.i64.wrap (h * u)) + IntKind.i64.wrap (i * k)))), SV.sym IntKind.i64 (modF (IntKind.i64.wrap ((modF (IntKind.i64.wrap (modF (IntKind.i64.wrap (modF (IntKind.i64.wrap ((0 : Int) + IntKind.i64.wrap (modF a (24 : Int) * l))) (24 : Int) + IntKind.i64.wrap (modF b (24 : Int) * m))) (24 : Int) + IntKind.i64.wrap (modF c (24 : Int) * n))) (24 : Int)).tmod (24 : Int) + x.tmod (24 : Int))) (24 : Int)), SV.sym IntKind.i64 (modF (IntKind.i64.wrap ((modF (IntKind.i64.wrap (modF (IntKind.i64.wrap (modF (IntKind.i64.wrap ((0 : Int) + IntKind.i64.wrap (modF d (24 : Int) * l))) (24 : Int) + IntKind.i64.wrap (modF e (24 : Int) * m))) (24 : Int) + IntKind.i64.wrap (modF f (24 : Int) * n))) (24 : Int)).tmod (24 : Int) + y.tmod (24 : Int))) (24 : Int)), SV.sym IntKind.i64 (modF (IntKind.i64.wrap ((modF (IntKind.i64.wrap (modF (IntKind.i64.wrap (modF (IntKind.i64.wrap ((0 : Int) + IntKind.i64.wrap (modF g (24 : Int) * l))) (24 : Int) + IntKind.i64.wrap (modF h (24 : Int) * m))) (24 : Int) + IntKind.i64.wrap (modF i (24 : Int) * n))) (24 : Int)).tmod (24 : Int) + z.tmod (24 : Int))) (24 : Int))]))
  | _ => .fail
theorem onf41 (a b c d e f g h i x y z p q r s t u v w k l m n : Int) (K : KV) : call P O4 noAnn 100000 Tryz.f25 [.v (.agg [.sym .i64 a, .sym .i64 b, .sym .i64 c, .sym .i64 d, .sym .i64 e, .sym .i64 f, .sym .i64 g, .sym .i64 h, .sym .i64 i, .sym .i64 x, .sym .i64 y, .sym .i64 z]), .v (.agg [.sym .i64 p, .sym .i64 q, .sym .i64 r, .sym .i64 s, .sym .i64 t, .sym .i64 u, .sym .i64 v, .sym .i64 w, .sym .i64 k, .sym .i64 l, .sym .i64 m, .sym .i64 n])] [] K = (K (.v (.agg [.sym .i64 (zb (over9 a b c d e f g h i || over9 p q r s t u v w k) (IntKind.i64.wrap (IntKind.i64.wrap (IntKind.i64.wrap (a*p)+IntKind.i64.wrap (b*s))+IntKind.i64.wrap (c*v)))),.sym .i64 (zb (over9 a b c d e f g h i || over9 p q r s t u v w k) (IntKind.i64.wrap (IntKind.i64.wrap (IntKind.i64.wrap (a*q)+IntKind.i64.wrap (b*t))+IntKind.i64.wrap (c*w)))),.sym .i64 (zb (over9 a b c d e f g h i || over9 p q r s t u v w k) (IntKind.i64.wrap (IntKind.i64.wrap (IntKind.i64.wrap (a*r)+IntKind.i64.wrap (b*u))+IntKind.i64.wrap (c*k)))),.sym .i64 (zb (over9 a b c d e f g h i || over9 p q r s t u v w k) (IntKind.i64.wrap (IntKind.i64.wrap (IntKind.i64.wrap (d*p)+IntKind.i64.wrap (e*s))+IntKind.i64.wrap (f*v)))),.sym .i64 (zb (over9 a b c d e f g h i || over9 p q r s t u v w k) (IntKind.i64.wrap (IntKind.i64.wrap (IntKind.i64.wrap (d*q)+IntKind.i64.wrap (e*t))+IntKind.i64.wrap (f*w)))),.sym .i64 (zb (over9 a b c d e f g h i || over9 p q r s t u v w k) (IntKind.i64.wrap (IntKind.i64.wrap (IntKind.i64.wrap (d*r)+IntKind.i64.wrap (e*u))+IntKind.i64.wrap (f*k)))),.sym .i64 (zb (over9 a b c d e f g h i || over9 p q r s t u v w k) (IntKind.i64.wrap (IntKind.i64.wrap (IntKind.i64.wrap (g*p)+IntKind.i64.wrap (h*s))+IntKind.i64.wrap (i*v)))),.sym .i64 (zb (over9 a b c d e f g h i || over9 p q r s t u v w k) (IntKind.i64.wrap (IntKind.i64.wrap (IntKind.i64.wrap (g*q)+IntKind.i64.wrap (h*t))+IntKind.i64.wrap (i*w)))),.sym .i64 (zb (over9 a b c d e f g h i || over9 p q r s t u v w k) (IntKind.i64.wrap (IntKind.i64.wrap (IntKind.i64.wrap (g*r)+IntKind.i64.wrap (h*u))+IntKind.i64.wrap (i*k)))),.sym .i64 (modF (IntKind.i64.wrap ((modF (IntKind.i64.wrap (modF (IntKind.i64.wrap (modF (IntKind.i64.wrap ((0:Int)+IntKind.i64.wrap (modF a (24:Int)*l))) (24:Int)+IntKind.i64.wrap (modF b (24:Int)*m))) (24:Int)+IntKind.i64.wrap (modF c (24:Int)*n))) 24).tmod (24:Int)+x.tmod 24)) 24),.sym .i64 (modF (IntKind.i64.wrap ((modF (IntKind.i64.wrap (modF (IntKind.i64.wrap (modF (IntKind.i64.wrap ((0:Int)+IntKind.i64.wrap (modF d (24:Int)*l))) (24:Int)+IntKind.i64.wrap (modF e (24:Int)*m))) (24:Int)+IntKind.i64.wrap (modF f (24:Int)*n))) 24).tmod (24:Int)+y.tmod 24)) 24),.sym .i64 (modF (IntKind.i64.wrap ((modF (IntKind.i64.wrap (modF (IntKind.i64.wrap (modF (IntKind.i64.wrap ((0:Int)+IntKind.i64.wrap (modF g (24:Int)*l))) (24:Int)+IntKind.i64.wrap (modF h (24:Int)*m))) (24:Int)+IntKind.i64.wrap (modF i (24:Int)*n))) 24).tmod (24:Int)+z.tmod 24)) 24)])) []) := by kernel_rfl
theorem oh41 : Holds P O4 25 oq41 := by
  refine holds_ok (fn := Tryz.f25) (by kernel_rfl) (by kernel_rfl) fun args av h => ?_
  unfold oq41 at h
  split at h
  · rw [gives_ok h]
    refine ⟨rfl, _, rfl, ?_⟩
    rw [onf41]
    exact ⟨rfl, rfl⟩
  · exact (gives_fail h).elim
def oq15 : PSpec
  | [.v (.agg [.sym .i64 a, .sym .i64 b, .sym .i64 c, .sym .i64 d, .sym .i64 e, .sym .i64 f, .sym .i64 g, .sym .i64 h, .sym .i64 i])] => .ok (.tup [.one (.sym .i64 (zb (over9 a b c d e f g h i) (det9 a b c d e f g h i))), .one (.sym .i64 (if over9 a b c d e f g h i then 4 else 0))])
  | _ => .fail
theorem onf15 (a b c d e f g h i : Int) (K : KV) : call P O4 noAnn 100000 Tryz.f71 [M a b c d e f g h i] [] K = (((!decide ((if over9 a b c d e f g h i=true then (4:Int) else (0:Int))=0))=true->K (.tup [.one (.con .i64 0),.one (.sym .i64 (if over9 a b c d e f g h i=true then (4:Int) else (0:Int)))]) [])/\((!decide ((if over9 a b c d e f g h i=true then (4:Int) else (0:Int))=0))=false->K (.tup [.one (.sym .i64 (IntKind.i64.wrap (IntKind.i64.wrap (IntKind.i64.wrap (a*cof e f h i)+IntKind.i64.wrap (b*cof f d i g))+IntKind.i64.wrap (c*cof d e g h)))),.one (.con .i64 0)]) [])) := by kernel_rfl
theorem oh15 : Holds P O4 71 oq15 := by
  refine holds_ok (fn := Tryz.f71) (by kernel_rfl) (by kernel_rfl) fun args av hg => ?_
  unfold oq15 at hg
  split at hg
  · rename_i a b c d e f g h i
    rw [gives_ok hg]
    refine ⟨rfl, _, rfl, ?_⟩
    rw [onf15]
    cases h1 : over9 a b c d e f g h i with
    | false => exact ⟨fun h => absurd h (by decide), fun _ => ⟨rfl, rfl⟩⟩
    | true => exact ⟨fun _ => ⟨rfl, rfl⟩, fun h => absurd h (by decide)⟩
  · exact (gives_fail hg).elim
def oq48 : PSpec
  | [.v (.agg [.sym .i64 a, .sym .i64 b, .sym .i64 c, .sym .i64 d, .sym .i64 e, .sym .i64 f, .sym .i64 g, .sym .i64 h, .sym .i64 i])] => .ok (I (if over9 a b c d e f g h i then 4 else if det9 a b c d e f g h i = 1 then 0 else if det9 a b c d e f g h i = -1 then 0 else 3))
  | _ => .fail
theorem onf48 (a b c d e f g h i : Int) (K : KV) : call P O4 noAnn 100000 Tryz.f50 [M a b c d e f g h i] [] K = (((!decide ((if over9 a b c d e f g h i=true then (4:Int) else (0:Int))=0))=true->(decide ((if over9 a b c d e f g h i=true then (4:Int) else (0:Int))=0)=true->K (.v (.one (.con .i64 3))) [])/\(decide ((if over9 a b c d e f g h i=true then (4:Int) else (0:Int))=0)=false->K (.v (.one (.sym .i64 (if over9 a b c d e f g h i=true then (4:Int) else (0:Int))))) []))/\((!decide ((if over9 a b c d e f g h i=true then (4:Int) else (0:Int))=0))=false->((!decide (IntKind.i64.wrap (IntKind.i64.wrap (IntKind.i64.wrap (a*cof e f h i)+IntKind.i64.wrap (b*cof f d i g))+IntKind.i64.wrap (c*cof d e g h))=1))=true->((!decide (IntKind.i64.wrap (IntKind.i64.wrap (IntKind.i64.wrap (a*cof e f h i)+IntKind.i64.wrap (b*cof f d i g))+IntKind.i64.wrap (c*cof d e g h))=(-1:Int)))=true->K (.v (.one (.con .i64 3))) [])/\((!decide (IntKind.i64.wrap (IntKind.i64.wrap (IntKind.i64.wrap (a*cof e f h i)+IntKind.i64.wrap (b*cof f d i g))+IntKind.i64.wrap (c*cof d e g h))=(-1:Int)))=false->K (.v (.one (.con .i64 0))) []))/\((!decide (IntKind.i64.wrap (IntKind.i64.wrap (IntKind.i64.wrap (a*cof e f h i)+IntKind.i64.wrap (b*cof f d i g))+IntKind.i64.wrap (c*cof d e g h))=1))=false->K (.v (.one (.con .i64 0))) []))) := by kernel_rfl
theorem oh48 : Holds P O4 50 oq48 := by
  refine holds_ok (fn := Tryz.f50) (by kernel_rfl) (by kernel_rfl) fun args av hg => ?_
  unfold oq48 at hg
  split at hg
  · rename_i a b c d e f g h i
    rw [gives_ok hg]
    refine ⟨rfl, _, rfl, ?_⟩
    rw [onf48]
    rw [show IntKind.i64.wrap (IntKind.i64.wrap (IntKind.i64.wrap (a * cof e f h i) + IntKind.i64.wrap (b * cof f d i g)) + IntKind.i64.wrap (c * cof d e g h)) = det9 a b c d e f g h i from rfl]
    generalize det9 a b c d e f g h i = dd
    cases h1 : over9 a b c d e f g h i with
    | true => exact ⟨fun _ => ⟨fun h => absurd h (by decide), fun _ => ⟨rfl, rfl⟩⟩, fun h => absurd h (by decide)⟩
    | false =>
      refine ⟨fun h => absurd h (by decide), fun _ => ?_⟩
      by_cases h2 : dd = 1
      · subst h2
        simp [AV.valOf, PV.valOf, SV.val]
      · by_cases h3 : dd = -1
        · subst h3
          simp [AV.valOf, PV.valOf, SV.val]
        · simp [h2, h3, AV.valOf, PV.valOf, SV.val]
  · exact (gives_fail hg).elim
def O5 : Sums := (((O4.add 25 oq41).add 71 oq15).add 50 oq48)
end Go.AM

import Derived.Test.YthjbfklheepfpaaGreatDoorMA4
import Derived.Test.YthjbfklheepfpaaGreatDoorAMC
set_option linter.unusedVariables false
set_option linter.unusedSimpArgs false
set_option maxHeartbeats 4000000
open Go Go.AM Go.Proofs
namespace Go.AM
open Dist
set_option maxRecDepth 100000
def vS (u : Mp) : List SV := [.sym .i64 u.x, .sym .i64 u.y, .sym .i64 u.z]
def annOo (u : Mp) : Annos := ⟨0, fun id env h => if id = 9 then (match getD env 7 AV.any with
    | .v (.one (.ptr b7 0)) => forceH (keepBs (app (blkOf (getD env 1 AV.any)) [b7]) 0 h) fun h => forceE (keepT [1, 5, 7, 24, 25] 0 env) fun env => some ⟨{ j : Nat // j ≤ ordM u.r }, fun x => (set env 25 (.v (.one (.sym .i64 x.1))), setRow h b7 (vS (mpPow u x.1))), fun x => ordM u.r - x.1⟩
    | _ => none)
  else if id = 13 then (match getD env 7 AV.any with
    | .v (.one (.ptr b7 0)) => forceH (keepBs [b7] 0 h) fun h => forceE (keepT [5, 7, 8] 0 env) fun env => some ⟨{ j : Nat // 1 ≤ j ∧ j ≤ ordT u }, fun x => (set env 8 (.v (.one (.sym .i64 x.1))), h), fun x => ordT u - x.1⟩
    | _ => none)
  else none, fun _ _ _ => []⟩
def stp (s : Int) : Int := [12, 12, 8, 6, 4, 1].getD (s % 6).toNat 0
def sdM (hex : Bool) (k : Int) : M9 := if hex then sxM k else sgM k
def tOf (u s : Int) : Int := (u * stp s) % 24
def tAt (u v w s : Int) : Nat → Int
  | 0 => tOf u s
  | 1 => tOf v s
  | _ => tOf w s
def setC (h : Heap) (b off : Nat) (s : SV) : Heap := match get? h b with
  | some (.row T cs) => set h b (.row T (set cs off s))
  | _ => h
def annSd (hex : Bool) (k u v w s : Int) : Annos := ⟨0, fun _ _ _ => none, fun id env h => if id = 4 then (match getD env 3 AV.any with
    | .v (.one (.ptr b3 0)) => forceE (keepT [1, 2, 3] 0 env) fun env => [⟨Unit, fun _ => (env, setRow h b3 (rowS (sdM hex k))), fun _ => 0⟩]
    | _ => [])
  else if id = 8 then (match getD env 5 AV.any, getD env 6 AV.any with
    | .v (.one (.ptr b5 0)), .v (.one (.con _ i)) => forceE (keepT [1, 2, 3, 4, 5, 6] 0 env) fun env => [⟨Unit, fun _ => (env, setC h b5 i.toNat (.sym .i64 (tAt u v w s i.toNat))), fun _ => 0⟩]
    | _, _ => [])
  else []⟩
end Go.AM
open Go Go.AM Go.Proofs
namespace Go.AM
open Dist
set_option maxRecDepth 100000
theorem nfvap (a b c d e f g h i x y z : Int) (K : KV) : call P (MB stdOn) noAnn 10000 Tryz.f27 [.v (.agg [.sym .i64 a, .sym .i64 b, .sym .i64 c, .sym .i64 d, .sym .i64 e, .sym .i64 f, .sym .i64 g, .sym .i64 h, .sym .i64 i]), .v (.agg [.sym .i64 x, .sym .i64 y, .sym .i64 z])] [] K = (((!decide ((if over9 a b c d e f g h i=true then (4:Int) else (0:Int))=0))=true->K (.tup [.agg [.con .i64 (0:Int),.con .i64 (0:Int),.con .i64 0],.one (.con .i64 4)]) [])/\((!decide ((if over9 a b c d e f g h i=true then (4:Int) else (0:Int))=0))=false->(beyond x (2147483648:Int)=true->K (.tup [.agg [.con .i64 (0:Int),.con .i64 (0:Int),.con .i64 0],.one (.con .i64 4)]) [])/\(beyond x (2147483648:Int)=false->(beyond y (2147483648:Int)=true->K (.tup [.agg [.con .i64 (0:Int),.con .i64 (0:Int),.con .i64 0],.one (.con .i64 4)]) [])/\(beyond y (2147483648:Int)=false->(beyond z (2147483648:Int)=true->K (.tup [.agg [.con .i64 (0:Int),.con .i64 (0:Int),.con .i64 0],.one (.con .i64 4)]) [])/\(beyond z (2147483648:Int)=false->K (.tup [.agg [.sym .i64 (IntKind.i64.wrap (IntKind.i64.wrap (IntKind.i64.wrap (a*x)+IntKind.i64.wrap (b*y))+IntKind.i64.wrap (c*z))),.sym .i64 (IntKind.i64.wrap (IntKind.i64.wrap (IntKind.i64.wrap (d*x)+IntKind.i64.wrap (e*y))+IntKind.i64.wrap (f*z))),.sym .i64 (IntKind.i64.wrap (IntKind.i64.wrap (IntKind.i64.wrap (g*x)+IntKind.i64.wrap (h*y))+IntKind.i64.wrap (i*z)))],.one (.con .i64 0)]) []))))) := by kernel_rfl
theorem sh_id {a b c l m n : Int} (ha : B1 a) (hb : B1 b) (hc : B1 c) (hl : 0 ≤ l ∧ l < 24) (hm : 0 ≤ m ∧ m < 24) (hn : 0 ≤ n ∧ n < 24) : modF (IntKind.i64.wrap (modF (IntKind.i64.wrap (modF (IntKind.i64.wrap (0 + IntKind.i64.wrap (modF a 24 * l))) 24 + IntKind.i64.wrap (modF b 24 * m))) 24 + IntKind.i64.wrap (modF c 24 * n))) 24 = lin a b c l m n % 24 := by
  unfold B1 at ha hb hc
  have k1 := mul_bd (A := 23) (B := 23) (a := a % 24) (b := l) (by omega) (by omega)
  have k2 := mul_bd (A := 23) (B := 23) (a := b % 24) (b := m) (by omega) (by omega)
  have k3 := mul_bd (A := 23) (B := 23) (a := c % 24) (b := n) (by omega) (by omega)
  rw [modF24 (n := a) (by omega) (by omega), modF24 (n := b) (by omega) (by omega), modF24 (n := c) (by omega) (by omega)]
  rw [wr_id (n := a % 24 * l) (by omega) (by omega), wr_id (n := 0 + a % 24 * l) (by omega) (by omega), modF24 (n := 0 + a % 24 * l) (by omega) (by omega)]
  rw [wr_id (n := b % 24 * m) (by omega) (by omega), wr_id (n := (0 + a % 24 * l) % 24 + b % 24 * m) (by omega) (by omega), modF24 (n := (0 + a % 24 * l) % 24 + b % 24 * m) (by omega) (by omega)]
  rw [wr_id (n := c % 24 * n) (by omega) (by omega), wr_id (n := ((0 + a % 24 * l) % 24 + b % 24 * m) % 24 + c % 24 * n) (by omega) (by omega), modF24 (n := ((0 + a % 24 * l) % 24 + b % 24 * m) % 24 + c % 24 * n) (by omega) (by omega)]
  have e1 : a * l % 24 = a % 24 * l % 24 := by simp [Int.mul_emod]
  have e2 : b * m % 24 = b % 24 * m % 24 := by simp [Int.mul_emod]
  have e3 : c * n % 24 = c % 24 * n % 24 := by simp [Int.mul_emod]
  unfold lin
  generalize a % 24 * l = t1 at *
  generalize b % 24 * m = t2 at *
  generalize c % 24 * n = t3 at *
  omega
def qShG : PSpec
  | [.v (.agg [.sym .i64 a, .sym .i64 b, .sym .i64 c, .sym .i64 d, .sym .i64 e, .sym .i64 f, .sym .i64 g, .sym .i64 h, .sym .i64 i]), .v (.agg [.sym .i64 x, .sym .i64 y, .sym .i64 z])] => .iff (low9 ⟨a, b, c, d, e, f, g, h, i⟩ = true ∧ in3 x y z) (V (lin a b c x y z % 24) (lin d e f x y z % 24) (lin g h i x y z % 24))
  | _ => .fail
theorem hShG : Holds P O1 32 qShG := oh51.weaken fun args av hg => by
  unfold qShG at hg
  split at hg
  · rename_i a b c d e f g h i x y z
    obtain ⟨⟨h1, k1, k2, k3⟩, rfl⟩ := givesIff hg
    refine ⟨_, .inl rfl, ?_⟩
    obtain ⟨l1, l2, l3, l4, l5, l7, l8, l9, lk⟩ := low9_iff.1 h1
    rw [sh_id (b1 l1) (b1 l2) (b1 l3) k1 k2 k3, sh_id (b1 l4) (b1 l5) (b1 l7) k1 k2 k3, sh_id (b1 l8) (b1 l9) (b1 lk) k1 k2 k3]
  · exact (gives_fail hg).elim
def qAddG : PSpec
  | [.v (.agg [.sym .i64 a, .sym .i64 b, .sym .i64 c]), .v (.agg [.sym .i64 d, .sym .i64 e, .sym .i64 f])] => .iff (in3 a b c ∧ in3 d e f) (V ((a + d) % 24) ((b + e) % 24) ((c + f) % 24))
  | _ => .fail
theorem add_id {a d : Int} (ha : 0 ≤ a ∧ a < 24) (hd : 0 ≤ d ∧ d < 24) : modF (IntKind.i64.wrap (a.tmod 24 + d.tmod 24)) 24 = (a + d) % 24 := by
  have f1 := Int.tmod_eq_emod_of_nonneg (b := 24) ha.1
  have f2 := Int.tmod_eq_emod_of_nonneg (b := 24) hd.1
  rw [f1, f2, wr_id (by omega) (by omega), modF24 (by omega) (by omega)]
  omega
theorem hAddG : Holds P O2 34 qAddG := oh50.weaken fun args av hg => by
  unfold qAddG at hg
  split at hg
  · rename_i a b c d e f
    obtain ⟨⟨⟨h1, h2, h3⟩, k1, k2, k3⟩, rfl⟩ := givesIff hg
    refine ⟨_, .inl rfl, ?_⟩
    rw [add_id h1 k1, add_id h2 k2, add_id h3 k3]
  · exact (gives_fail hg).elim
def qMadeG : PSpec
  | [.v (.agg [.sym .i64 a, .sym .i64 b, .sym .i64 c, .sym .i64 d, .sym .i64 e, .sym .i64 f, .sym .i64 g, .sym .i64 h, .sym .i64 i, .sym .i64 x, .sym .i64 y, .sym .i64 z])] => .iff (okR ⟨a, b, c, d, e, f, g, h, i⟩) (.tup [.agg (mpS ⟨⟨a, b, c, d, e, f, g, h, i⟩, x, y, z⟩), .one (.con .i64 0)])
  | _ => .fail
theorem hMadeG : Holds P O3 24 qMadeG := oh40.weaken fun args av hg => by
  unfold qMadeG at hg
  split at hg
  · rename_i a b c d e f g h i x y z
    obtain ⟨h1, rfl⟩ := givesIff hg
    refine ⟨_, .inl rfl, ?_⟩
    have ho : over9 a b c d e f g h i = false := okR_over (m := ⟨a, b, c, d, e, f, g, h, i⟩) h1
    rw [ho]
    rfl
  · exact (gives_fail hg).elim
def qMatG : PSpec
  | [.v (.agg [.sym .i64 a, .sym .i64 b, .sym .i64 c, .sym .i64 d, .sym .i64 e, .sym .i64 f, .sym .i64 g, .sym .i64 h, .sym .i64 i])] => .iff (okR ⟨a, b, c, d, e, f, g, h, i⟩) (.v (.one (.con .i64 0)))
  | _ => .fail
theorem hMatG : Holds P O4 50 qMatG := oh48.weaken fun args av hg => by
  unfold qMatG at hg
  split at hg
  · rename_i a b c d e f g h i
    obtain ⟨h1, rfl⟩ := givesIff hg
    refine ⟨_, .inl rfl, ?_⟩
    have hm : (if over9 a b c d e f g h i = true then (4 : Int) else if det9 a b c d e f g h i = (1 : Int) then (0 : Int) else if det9 a b c d e f g h i = (-1 : Int) then (0 : Int) else (3 : Int)) = 0 := okR_mat (m := ⟨a, b, c, d, e, f, g, h, i⟩) h1
    rw [hm]
    rfl
  · exact (gives_fail hg).elim
def qmulG : PSpec
  | [.v (.agg [.sym .i64 a, .sym .i64 b, .sym .i64 c, .sym .i64 d, .sym .i64 e, .sym .i64 f, .sym .i64 g, .sym .i64 h, .sym .i64 i, .sym .i64 x, .sym .i64 y, .sym .i64 z]), .v (.agg [.sym .i64 p, .sym .i64 q, .sym .i64 r, .sym .i64 s, .sym .i64 t, .sym .i64 u, .sym .i64 v, .sym .i64 w, .sym .i64 k, .sym .i64 l, .sym .i64 m, .sym .i64 n])] =>
    .iff (okP ⟨⟨a, b, c, d, e, f, g, h, i⟩, x, y, z⟩ ∧ okP ⟨⟨p, q, r, s, t, u, v, w, k⟩, l, m, n⟩) (.v (.agg (mpS (mpMul ⟨⟨a, b, c, d, e, f, g, h, i⟩, x, y, z⟩ ⟨⟨p, q, r, s, t, u, v, w, k⟩, l, m, n⟩))))
  | _ => .fail
theorem hmulG : Holds P O4 25 qmulG := oh41.weaken fun args av hg => by
  unfold qmulG at hg
  split at hg
  · rename_i a b c d e f g h i x y z p q r s t u v w k l m n
    obtain ⟨⟨h1, h2⟩, rfl⟩ := givesIff hg
    refine ⟨_, .inl rfl, ?_⟩
    have eW := mW_eq h1.1 h2.1
    have o1 : over9 a b c d e f g h i = false := okR_over h1.1
    have o2 : over9 p q r s t u v w k = false := okR_over h2.1
    obtain ⟨l1, l2, l3, l4, l5, l7, l8, l9, lk⟩ := low9_iff.1 h1.1.1
    obtain ⟨j1, j2, j3⟩ := h1.2
    obtain ⟨k1, k2, k3⟩ := h2.2
    have t1 : tr a b c l m n x = (lin a b c l m n + x) % 24 := tr_id (b1 l1) (b1 l2) (b1 l3) k1 k2 k3 j1
    have t2 : tr d e f l m n y = (lin d e f l m n + y) % 24 := tr_id (b1 l4) (b1 l5) (b1 l7) k1 k2 k3 j2
    have t3 : tr g h i l m n z = (lin g h i l m n + z) % 24 := tr_id (b1 l8) (b1 l9) (b1 lk) k1 k2 k3 j3
    unfold tr at t1 t2 t3
    rw [o1, o2, t1, t2, t3]
    unfold mpMul
    rw [← eW]
    rfl
  · exact (gives_fail hg).elim
def qFrmG : PSpec
  | [.v (.agg [.sym .i64 m, .sym .i64 a, .sym .i64 b, .sym .i64 c])] => .iff (plOk ⟨m, a, b, c⟩) (.v (.one (.cb true)))
  | _ => .fail
theorem hFrmG : Holds P G2 26 qFrmG := h25.weaken fun args av hg => by
  unfold qFrmG at hg
  split at hg
  · rename_i m a b c
    obtain ⟨h1, rfl⟩ := givesIff hg
    refine ⟨_, .inl rfl, ?_⟩
    rw [pl_form h1]
    rfl
  · exact (gives_fail hg).elim
def lowX (x : Int) : Prop := 0 ≤ x ∧ x < 192
def qVapG : PSpec
  | [.v (.agg [.sym .i64 a, .sym .i64 b, .sym .i64 c, .sym .i64 d, .sym .i64 e, .sym .i64 f, .sym .i64 g, .sym .i64 h, .sym .i64 i]), .v (.agg [.sym .i64 x, .sym .i64 y, .sym .i64 z])] => .iff (okR ⟨a, b, c, d, e, f, g, h, i⟩ ∧ lowX x ∧ lowX y ∧ lowX z) (.tup [.agg [.sym .i64 (lin a b c x y z), .sym .i64 (lin d e f x y z), .sym .i64 (lin g h i x y z)], .one (.con .i64 0)])
  | _ => .fail
theorem prl_id {a b c x y z : Int} (ha : -1 ≤ a ∧ a ≤ 1) (hb : -1 ≤ b ∧ b ≤ 1) (hc : -1 ≤ c ∧ c ≤ 1) (hx : lowX x) (hy : lowX y) (hz : lowX z) : pr a b c x y z = lin a b c x y z := by
  unfold lowX at hx hy hz
  have k1 := mul_bd (A := 1) (B := 192) (a := a) (b := x) (by omega) (by omega)
  have k2 := mul_bd (A := 1) (B := 192) (a := b) (b := y) (by omega) (by omega)
  have k3 := mul_bd (A := 1) (B := 192) (a := c) (b := z) (by omega) (by omega)
  unfold pr lin
  rw [wr_id (n := a * x) (by omega) (by omega), wr_id (n := b * y) (by omega) (by omega), wr_id (n := c * z) (by omega) (by omega), wr_id (n := a * x + b * y) (by omega) (by omega), wr_id (by omega) (by omega)]
theorem not_far {x : Int} (h : lowX x) : beyond x 2147483648 = false := by
  unfold lowX at h
  have e : IntKind.i64.wrap (0 - 2147483648) = -2147483648 := by decide
  unfold beyond
  rw [e, decide_eq_false (by omega), decide_eq_false (by omega)]
  rfl
theorem hVapG : Holds P (MB stdOn) 27 qVapG := by
  refine holdsA (fn := Tryz.f27) noAnn 10000 rfl (by kernel_rfl) (by kernel_rfl) fun args av hg => ?_
  unfold qVapG at hg
  split at hg
  · rename_i a b c d e f g h i x y z
    obtain ⟨⟨hp, hx, hy, hz⟩, rfl⟩ := givesIff hg
    refine ⟨rfl, _, rfl, ?_⟩
    rw [nfvap]
    have ho : over9 a b c d e f g h i = false := okR_over (m := ⟨a, b, c, d, e, f, g, h, i⟩) hp
    rw [ho, not_far hx, not_far hy, not_far hz]
    obtain ⟨l1, l2, l3, l4, l5, l7, l8, l9, lk⟩ := low9_iff.1 hp.1
    have e1 := prl_id l1 l2 l3 hx hy hz
    have e2 := prl_id l4 l5 l7 hx hy hz
    have e3 := prl_id l8 l9 lk hx hy hz
    unfold pr at e1 e2 e3
    rw [e1, e2, e3]
    exact ⟨fun k => (by cases k), fun _ => ⟨fun k => (by cases k), fun _ => ⟨fun k => (by cases k), fun _ => ⟨fun k => (by cases k), fun _ => ⟨rfl, rfl⟩⟩⟩⟩⟩
  · exact (gives_fail hg).elim
def qPowD : PSpec
  | [.v (.agg [.sym .i64 a, .sym .i64 b, .sym .i64 c, .sym .i64 d, .sym .i64 e, .sym .i64 f, .sym .i64 g, .sym .i64 h, .sym .i64 i]), .v (.one (.sym .i64 n))] => if decide (0 ≤ n) && decide (n ≤ 1000) then .ok (.v (.one (.sb (powB ⟨a, b, c, d, e, f, g, h, i⟩ n.toNat)))) else .fail
  | _ => .fail
theorem hPowD : HoldsE P 59 qPowD := HoldsE.cases hPower hPower fun args av hg => .inl (by
  unfold qPowD at hg
  split at hg
  · split at hg
    · rename_i h
      rw [Bool.and_eq_true, decide_eq_true_eq, decide_eq_true_eq] at h
      rw [gives_ok hg]
      exact ⟨_, .inr ⟨_, rfl, h⟩, rfl⟩
    · exact (gives_fail hg).elim
  · exact (gives_fail hg).elim)
def MC (o : OnB) : Sums := (MB o).add 59 qPowD
theorem pMC (o : OnB) : OkS P (MC o) := (pMB o).add fine hPowD
def rwL (m : M9) : List SV := [.con .i64 m.a, .con .i64 m.b, .con .i64 m.c, .con .i64 m.d, .con .i64 m.e, .con .i64 m.f, .con .i64 m.g, .con .i64 m.h, .con .i64 m.i]
def voP (m : M9) : Prop := ∀ K : KV, call P (MC pruneOn) noAnn 10000 Tryz.f33 [.v (.agg (rwL m))] [] K = K (.tup [.one (.con .i64 (ordM m)), .one (.con .i64 0)]) []
end Go.AM

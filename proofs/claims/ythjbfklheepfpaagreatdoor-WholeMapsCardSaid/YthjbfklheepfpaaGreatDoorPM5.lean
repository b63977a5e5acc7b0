import Derived.Test.YthjbfklheepfpaaGreatDoorPM4
import Derived.Test.YthjbfklheepfpaaGreatDoorPXB
import Derived.Test.YthjbfklheepfpaaGreatDoorPTD
import Derived.Test.YthjbfklheepfpaaGreatDoorRD0
set_option linter.unusedVariables false
set_option linter.unusedSimpArgs false
set_option maxHeartbeats 4000000
open Go Go.AM Go.Proofs
namespace Go.AM
open Dist
set_option maxRecDepth 100000
theorem nfopw (u : Mp) (K : KV) : call P (ME pruneOn) noAnn 10000 Tryz.f13 [.v (.agg (mpS u)), .v (.one (.con .i64 (-1)))] [] K = (onB (decide (u.x<0)) (K (.tup [.agg [.con .i64 (0:Int),.con .i64 (0:Int),.con .i64 (0:Int),.con .i64 (0:Int),.con .i64 (0:Int),.con .i64 (0:Int),.con .i64 (0:Int),.con .i64 (0:Int),.con .i64 (0:Int),.con .i64 (0:Int),.con .i64 (0:Int),.con .i64 0],.one (.con .i64 (Int.ofNat 3))]) []) (onB (decide ((24:Int)<=u.x)) (K (.tup [.agg [.con .i64 (0:Int),.con .i64 (0:Int),.con .i64 (0:Int),.con .i64 (0:Int),.con .i64 (0:Int),.con .i64 (0:Int),.con .i64 (0:Int),.con .i64 (0:Int),.con .i64 (0:Int),.con .i64 (0:Int),.con .i64 (0:Int),.con .i64 0],.one (.con .i64 (Int.ofNat 3))]) []) (onB (decide (u.y<0)) (K (.tup [.agg [.con .i64 (0:Int),.con .i64 (0:Int),.con .i64 (0:Int),.con .i64 (0:Int),.con .i64 (0:Int),.con .i64 (0:Int),.con .i64 (0:Int),.con .i64 (0:Int),.con .i64 (0:Int),.con .i64 (0:Int),.con .i64 (0:Int),.con .i64 0],.one (.con .i64 (Int.ofNat 3))]) []) (onB (decide ((24:Int)<=u.y)) (K (.tup [.agg [.con .i64 (0:Int),.con .i64 (0:Int),.con .i64 (0:Int),.con .i64 (0:Int),.con .i64 (0:Int),.con .i64 (0:Int),.con .i64 (0:Int),.con .i64 (0:Int),.con .i64 (0:Int),.con .i64 (0:Int),.con .i64 (0:Int),.con .i64 0],.one (.con .i64 (Int.ofNat 3))]) []) (onB (decide (u.z<0)) (K (.tup [.agg [.con .i64 (0:Int),.con .i64 (0:Int),.con .i64 (0:Int),.con .i64 (0:Int),.con .i64 (0:Int),.con .i64 (0:Int),.con .i64 (0:Int),.con .i64 (0:Int),.con .i64 (0:Int),.con .i64 (0:Int),.con .i64 (0:Int),.con .i64 0],.one (.con .i64 (Int.ofNat 3))]) []) (onB (decide ((24:Int)<=u.z)) (K (.tup [.agg [.con .i64 (0:Int),.con .i64 (0:Int),.con .i64 (0:Int),.con .i64 (0:Int),.con .i64 (0:Int),.con .i64 (0:Int),.con .i64 (0:Int),.con .i64 (0:Int),.con .i64 (0:Int),.con .i64 (0:Int),.con .i64 (0:Int),.con .i64 0],.one (.con .i64 (Int.ofNat 3))]) []) ((low9 u.r=true/\(mDet u.r=1\/mDet u.r=(-1:Int)))/\(((low9 u.r=true/\(mDet u.r=1\/mDet u.r=(-1:Int)))/\((0:Int)<=u.x/\u.x<24)/\((0:Int)<=u.y/\u.y<24)/\(0:Int)<=u.z/\u.z<24)/\low9 (mInv u.r)=true/\(mDet (mInv u.r)=1\/mDet (mInv u.r)=(-1:Int)))/\(((low9 (mpInv u).r=true/\(mDet (mpInv u).r=1\/mDet (mpInv u).r=(-1:Int)))/\((0:Int)<=(mpInv u).x/\(mpInv u).x<24)/\((0:Int)<=(mpInv u).y/\(mpInv u).y<24)/\(0:Int)<=(mpInv u).z/\(mpInv u).z<24)/\(low9 mp1.r=true/\(mDet mp1.r=1\/mDet mp1.r=(-1:Int)))/\((0:Int)<=mp1.x/\mp1.x<24)/\((0:Int)<=mp1.y/\mp1.y<24)/\(0:Int)<=mp1.z/\mp1.z<24)/\(low9 (mpMul (mpInv u) mp1).r=true/\(mDet (mpMul (mpInv u) mp1).r=1\/mDet (mpMul (mpInv u) mp1).r=(-1:Int)))/\K (.tup [.agg [.sym .i64 (mpMul (mpInv u) mp1).r.a,.sym .i64 (mpMul (mpInv u) mp1).r.b,.sym .i64 (mpMul (mpInv u) mp1).r.c,.sym .i64 (mpMul (mpInv u) mp1).r.d,.sym .i64 (mpMul (mpInv u) mp1).r.e,.sym .i64 (mpMul (mpInv u) mp1).r.f,.sym .i64 (mpMul (mpInv u) mp1).r.g,.sym .i64 (mpMul (mpInv u) mp1).r.h,.sym .i64 (mpMul (mpInv u) mp1).r.i,.sym .i64 (mpMul (mpInv u) mp1).x,.sym .i64 (mpMul (mpInv u) mp1).y,.sym .i64 (mpMul (mpInv u) mp1).z],.one (.con .i64 0)]) []))))))) := by kernel_rfl
theorem ok_mp1 : okP mp1 := by
  refine ⟨⟨by decide +kernel, by decide +kernel⟩, ?_⟩
  unfold in24 mp1
  simp
theorem inv_in (u : Mp) : in24 (mpInv u) := by unfold in24 mpInv; simp only; omega
theorem pow_run {u : Mp} (hu : okP u) (hi : okR (mInv u.r)) {v : Value} (hv : (AV.tup [.agg (mpS (mpInv u)), .one (.con .i64 0)]).valOf = some v) : LawC (call P (ME pruneOn) noAnn 10000 Tryz.f13 [.v (.agg (mpS u)), .v (.one (.con .i64 (-1)))] [] (fun v' h => v'.valOf = some v ∧ h = [])) := ⟨by
  rw [nfopw]
  have e : mpMul (mpInv u) mp1 = mpInv u := (mp_one (inv_in u)).1
  rw [e]
  exact six_in hu.2 ⟨hu.1, ⟨hu, hi⟩, ⟨⟨hi, inv_in u⟩, ok_mp1⟩, hi, hv, rfl⟩⟩
def qPwG : PSpec
  | [.v (.agg [.sym .i64 a, .sym .i64 b, .sym .i64 c, .sym .i64 d, .sym .i64 e, .sym .i64 f, .sym .i64 g, .sym .i64 h, .sym .i64 i, .sym .i64 x, .sym .i64 y, .sym .i64 z]), .v (.one (.con .i64 n))] => if n = -1 then .iff (okP ⟨⟨a, b, c, d, e, f, g, h, i⟩, x, y, z⟩ ∧ okR (mInv ⟨a, b, c, d, e, f, g, h, i⟩)) (.tup [.agg (mpS (mpInv ⟨⟨a, b, c, d, e, f, g, h, i⟩, x, y, z⟩)), .one (.con .i64 0)]) else .fail
  | _ => .fail
theorem hPwG : Holds P (ME pruneOn) 13 qPwG := by
  refine holdsB (fn := Tryz.f13) 10000 (by kernel_rfl) (by kernel_rfl) fun args av hg => ?_
  unfold qPwG at hg
  split at hg
  · rename_i a b c d e f g h i x y z n
    split at hg
    · rename_i hn
      subst hn
      obtain ⟨⟨hu, hp⟩, rfl⟩ := givesIff hg
      obtain ⟨v, hv⟩ : ∃ v, (AV.tup [.agg (mpS (mpInv ⟨⟨a, b, c, d, e, f, g, h, i⟩, x, y, z⟩)), .one (.con .i64 0)]).valOf = some v := ⟨_, rfl⟩
      refine ⟨rfl, v, noAnn, rfl, hv, ?_⟩
      have h1 : [SV.sym .i64 a, .sym .i64 b, .sym .i64 c, .sym .i64 d, .sym .i64 e, .sym .i64 f, .sym .i64 g, .sym .i64 h, .sym .i64 i, .sym .i64 x, .sym .i64 y, .sym .i64 z] = mpS ⟨⟨a, b, c, d, e, f, g, h, i⟩, x, y, z⟩ := rfl
      rw [h1]
      exact pow_run hu hp hv
    · exact (gives_fail hg).elim
  · exact (gives_fail hg).elim
def MF (o : OnB) : Sums := ((ME o).add 13 qPwG [false, true]).add 16 qOcmp |>.add 10 oq29
theorem pO7m : OkS P O7 := ((pO6.add1 fine pO6 ohCmp).add1 fine pO6 ohVcmp)
theorem pMF (o : OnB) : OkS P (MF o) := ((pME o).add1 fine (pME pruneOn) hPwG).add1 fine pO7m ohOcmp |>.add1 fine pO1 oh29
def blksOf : Env → List Nat
  | [] => []
  | a :: l => app (blkOf a) (blksOf l)
def cutRow (keep : List Nat) (sl se T : Nat) (cells : List SV) (env : Env) (h : Heap) : List Ann := forceE (keepT keep 0 env) fun env => forceH (keepBs (blksOf env) 0 h) fun h => [⟨Unit, fun _ => (set (set env sl (.v (.one (.ptr (len' h) 0)))) se (.v (.one (.con .i64 0))), app h [.row T cells]), fun _ => 0⟩]
def cutOne (keep : List Nat) (sl T : Nat) (cells : List SV) (env : Env) (h : Heap) : List Ann := forceE (keepT keep 0 env) fun env => forceH (keepBs (blksOf env) 0 h) fun h => [⟨Unit, fun _ => (set env sl (.v (.one (.ptr (len' h) 0))), app h [.row T cells]), fun _ => 0⟩]
structure WmX where
  u : Mp
  v : Mp
  w : Mp
  p : Pl3
  uv : Mp
  vw : Mp
  l : Mp
  r : Mp
  vp : Pl3
  uvp : Pl3
  al : Pl3
  iu : Mp
  xa : Mp
  xb : Mp
  n : Nat
  mo : Mp
  yy : Mp
  s : List UInt8
  t : Mp
def rowOf (b : AV) (h : Heap) (cells : List SV) : Heap := match b with
  | .v (.one (.ptr b 0)) => setRow h b cells
  | _ => h
def annWm (X : WmX) : Annos := ⟨0, fun id env h => if id = 26 then forceE (keepT [13, 14, 38, 42, 43] 0 env) fun env => forceH (keepBs (blksOf env) 0 h) fun h => some ⟨{ j : Nat // 1 ≤ j ∧ j ≤ X.n }, fun j => (set env 43 (.v (.one (.sym .i64 j.1))), rowOf (getD env 42 AV.any) h (mpS (mpPow X.u j.1))), fun j => X.n - j.1⟩ else none,
  fun id env h => match id with
  | 5 => cutOne [3, 4, 7, 8, 11] 13 32 (mpS X.u) env h
  | 6 => cutOne [4, 8, 11, 13] 14 32 (mpS X.v) env h
  | 7 => cutOne [4, 11, 13, 14] 15 32 (mpS X.w) env h
  | 8 => cutRow [13, 14, 15] 16 17 35 (plS X.p) env h
  | 9 => cutRow [13, 14, 15, 16, 17] 18 19 32 (mpS X.uv) env h
  | 10 => cutRow [13, 14, 15, 16, 17, 18, 19] 20 21 32 (mpS X.vw) env h
  | 11 => cutRow [13, 14, 15, 16, 17, 18, 19, 20, 21] 22 23 32 (mpS X.l) env h
  | 12 => cutRow [13, 14, 16, 17, 18, 19, 20, 21, 22, 23] 24 25 32 (mpS X.r) env h
  | 13 => cutRow [13, 14, 16, 17, 18, 19, 21, 22, 23, 24, 25] 26 27 35 (plS X.vp) env h
  | 14 => cutRow [13, 14, 16, 17, 18, 19, 21, 22, 23, 24, 25, 26, 27] 28 29 35 (plS X.uvp) env h
  | 15 => cutRow [13, 14, 17, 18, 19, 21, 22, 23, 24, 25, 27, 28, 29] 30 31 35 (plS X.al) env h
  | 17 => forceE (keepT [13, 14] 0 env) fun env => forceH (keepBs (blksOf env) 0 h) fun h => [⟨Unit, fun _ => (env, h), fun _ => 0⟩]
  | 18 => cutRow [13, 14] 32 33 32 (mpS X.iu) env h
  | 19 => cutRow [13, 14, 32, 33] 34 35 32 (mpS X.xa) env h
  | 20 => cutRow [13, 14, 32, 33, 34, 35] 36 37 32 (mpS X.xb) env h
  | 21 => forceE (keepT [13, 14, 32, 33, 34, 35, 36, 37] 0 env) fun env => forceH (keepBs (blksOf env) 0 h) fun h => [⟨Unit, fun _ => (set (set env 38 (.v (.one (.sym .i64 X.n)))) 39 (.v (.one (.con .i64 0))), h), fun _ => 0⟩]
  | 22 => cutRow [13, 14, 32, 33, 34, 35, 36, 37, 38, 39] 40 41 32 (mpS X.mo) env h
  | 24 => forceE (keepT [13, 14, 38] 0 env) fun env => forceH (keepBs (blksOf env) 0 h) fun h => [⟨Unit, fun _ => (env, h), fun _ => 0⟩]
  | 34 => forceE (keepT [13, 14, 42] 0 env) fun env => forceH (keepBs (blksOf env) 0 h) fun h => [⟨Unit, fun _ => (env, rowOf (getD env 42 AV.any) h (mpS X.yy)), fun _ => 0⟩]
  | 35 => forceE (keepT [13, 14, 42] 0 env) fun env => forceH (keepBs (blksOf env) 0 h) fun h => [⟨Unit, fun _ => (set (set env 46 (.v (.one (.str X.s)))) 47 (.v (.one (.con .i64 0))), h), fun _ => 0⟩]
  | 36 => forceE (keepT [13, 14, 42, 47] 0 env) fun env => forceH (keepBs (blksOf env) 0 h) fun h => [⟨Unit, fun _ => (set (set env 48 (.v (.one (.ptr (len' h) 0)))) 50 (.v (.one (.con .i64 0))), app h [.row 32 (mpS X.t)]), fun _ => 0⟩]
  | _ => []⟩
end Go.AM
open Go Go.AM Go.Proofs
namespace Go.AM
open Dist
set_option maxRecDepth 100000
def eqMp (a b : Mp) : Prop := a.r.a = b.r.a ∧ a.r.b = b.r.b ∧ a.r.c = b.r.c ∧ a.r.d = b.r.d ∧ a.r.e = b.r.e ∧ a.r.f = b.r.f ∧ a.r.g = b.r.g ∧ a.r.h = b.r.h ∧ a.r.i = b.r.i ∧ a.x = b.x ∧ a.y = b.y ∧ a.z = b.z ∧ True
theorem eqMp_refl (a : Mp) : eqMp a a := ⟨rfl, rfl, rfl, rfl, rfl, rfl, rfl, rfl, rfl, rfl, rfl, rfl, trivial⟩
def eqPl (a b : Pl3) : Prop := a.m = b.m ∧ a.x = b.x ∧ a.y = b.y ∧ a.z = b.z ∧ True
theorem eqPl_refl (a : Pl3) : eqPl a a := ⟨rfl, rfl, rfl, rfl, trivial⟩
def eqMpB (a b : Mp) : Bool := decide (a.r.a = b.r.a) && (decide (a.r.b = b.r.b) && (decide (a.r.c = b.r.c) && true)) && (decide (a.r.d = b.r.d) && (decide (a.r.e = b.r.e) && (decide (a.r.f = b.r.f) && true)) && (decide (a.r.g = b.r.g) && (decide (a.r.h = b.r.h) && (decide (a.r.i = b.r.i) && true)) && true)) && (decide (a.x = b.x) && (decide (a.y = b.y) && (decide (a.z = b.z) && true)) && true)
def isMp1 (a : Mp) : Bool := decide (a.r.a = (1 : Int)) && (decide (a.r.b = (0 : Int)) && (decide (a.r.c = (0 : Int)) && true)) && (decide (a.r.d = (0 : Int)) && (decide (a.r.e = (1 : Int)) && (decide (a.r.f = (0 : Int)) && true)) && (decide (a.r.g = (0 : Int)) && (decide (a.r.h = (0 : Int)) && (decide (a.r.i = (1 : Int)) && true)) && true)) && (decide (a.x = (0 : Int)) && (decide (a.y = (0 : Int)) && (decide (a.z = (0 : Int)) && true)) && true)
def eqPlB (a b : Pl3) : Bool := decide (a.m = b.m) && (decide (a.x = b.x) && (decide (a.y = b.y) && (decide (a.z = b.z) && true)) && true)
def cmpMp (a b : Mp) : Int := cmp12 a.r.a a.r.b a.r.c a.r.d a.r.e a.r.f a.r.g a.r.h a.r.i a.x a.y a.z b.r.a b.r.b b.r.c b.r.d b.r.e b.r.f b.r.g b.r.h b.r.i b.x b.y b.z
theorem nfwm (X : WmX) (ha hb hc hex : Bool) (ka ua va wa sa kb ub vb wb sb kc uc vc wc sc k xa xb xc : Int) (K : KV) : call P (MF pruneOn) (annWm X) 100000 Tryz.f3 [.v (.agg [.sb ha, .sym .u8 ka, .sym .u8 ua, .sym .u8 va, .sym .u8 wa, .sym .u8 sa]), .v (.agg [.sb hb, .sym .u8 kb, .sym .u8 ub, .sym .u8 vb, .sym .u8 wb, .sym .u8 sb]), .v (.agg [.sb hc, .sym .u8 kc, .sym .u8 uc, .sym .u8 vc, .sym .u8 wc, .sym .u8 sc]), .v (.one (.sb hex)), .v (.one (.sym .u8 k)), .v (.agg [.sym .i16 xa, .sym .i16 xb, .sym .i16 xc])] [] K = (((((0:Int)<=ka/\ka<=255)/\((0:Int)<=ua/\ua<=255)/\((0:Int)<=va/\va<=255)/\((0:Int)<=wa/\wa<=255)/\(0:Int)<=sa/\sa<=255)/\∃ (z:Unit),(hex=hex/\k=k/\True)/\True/\(hex=hex/\kb=kb/\ub=ub/\vb=vb/\wb=wb/\sb=sb/\True)/\(hex=hex/\kc=kc/\uc=uc/\vc=vc/\wc=wc/\sc=sc/\True)/\(xa=xa/\xb=xb/\xc=xc/\True)/\eqMp X.u (sdP hex ka ua va wa sa)/\True)/\∀ (x:Unit),((((0:Int)<=kb/\kb<=255)/\((0:Int)<=ub/\ub<=255)/\((0:Int)<=vb/\vb<=255)/\((0:Int)<=wb/\wb<=255)/\(0:Int)<=sb/\sb<=255)/\∃ (z:Unit),(k=k/\True)/\True/\True/\(hex=hex/\kc=kc/\uc=uc/\vc=vc/\wc=wc/\sc=sc/\True)/\(xa=xa/\xb=xb/\xc=xc/\True)/\eqMp X.u X.u/\eqMp X.v (sdP hex kb ub vb wb sb)/\True)/\∀ (x:Unit),((((0:Int)<=kc/\kc<=255)/\((0:Int)<=uc/\uc<=255)/\((0:Int)<=vc/\vc<=255)/\((0:Int)<=wc/\wc<=255)/\(0:Int)<=sc/\sc<=255)/\∃ (z:Unit),(k=k/\True)/\True/\True/\True/\(xa=xa/\xb=xb/\xc=xc/\True)/\eqMp X.u X.u/\eqMp X.v X.v/\eqMp X.w (sdP hex kc uc vc wc sc)/\True)/\∀ (x:Unit),(((0:Int)<=k/\k<=255)/\((prM k=24\/prM k=48\/prM k=96\/prM k=192)/\((-1000000:Int)<=IntKind.i64.wrap xa/\IntKind.i64.wrap xa<=1000000)/\((-1000000:Int)<=IntKind.i64.wrap xb/\IntKind.i64.wrap xb<=1000000)/\(-1000000:Int)<=IntKind.i64.wrap xc/\IntKind.i64.wrap xc<=1000000)/\∃ (z:Unit),True/\True/\True/\True/\True/\eqMp X.u X.u/\eqMp X.v X.v/\eqMp X.w X.w/\(X.p.m=(prM k)/\X.p.x=(IntKind.i64.wrap xa%prM k)/\X.p.y=(IntKind.i64.wrap xb%prM k)/\X.p.z=(IntKind.i64.wrap xc%prM k)/\True)/\True)/\∀ (x:Unit),((okP X.u/\okP X.v/\okR (mZ X.u.r X.v.r))/\∃ (z:Unit),True/\True/\True/\True/\True/\eqMp X.u X.u/\eqMp X.v X.v/\eqMp X.w X.w/\eqPl X.p X.p/\eqMp X.uv (mpMul X.u X.v)/\True)/\∀ (x:Unit),((okP X.v/\okP X.w/\okR (mZ X.v.r X.w.r))/\∃ (z:Unit),True/\True/\True/\True/\True/\eqMp X.u X.u/\eqMp X.v X.v/\eqMp X.w X.w/\eqPl X.p X.p/\eqMp X.uv X.uv/\eqMp X.vw (mpMul X.v X.w)/\True)/\∀ (x:Unit),((okP X.uv/\okP X.w/\okR (mZ X.uv.r X.w.r))/\∃ (z:Unit),True/\True/\True/\True/\True/\eqMp X.u X.u/\eqMp X.v X.v/\eqMp X.w X.w/\eqPl X.p X.p/\eqMp X.uv X.uv/\eqMp X.vw X.vw/\eqMp X.l (mpMul X.uv X.w)/\True)/\∀ (x:Unit),((okP X.u/\okP X.vw/\okR (mZ X.u.r X.vw.r))/\∃ (z:Unit),True/\True/\True/\True/\True/\eqMp X.u X.u/\eqMp X.v X.v/\True/\eqPl X.p X.p/\eqMp X.uv X.uv/\eqMp X.vw X.vw/\eqMp X.l X.l/\eqMp X.r (mpMul X.u X.vw)/\True)/\∀ (x:Unit),((okP X.v/\plOk X.p)/\∃ (z:Unit),True/\True/\True/\True/\True/\eqMp X.u X.u/\eqMp X.v X.v/\True/\eqPl X.p X.p/\eqMp X.uv X.uv/\True/\eqMp X.l X.l/\eqMp X.r X.r/\eqPl X.vp (mpApp X.v X.p)/\True)/\∀ (x:Unit),((okP X.u/\plOk X.vp)/\∃ (z:Unit),True/\True/\True/\True/\True/\eqMp X.u X.u/\eqMp X.v X.v/\True/\eqPl X.p X.p/\eqMp X.uv X.uv/\True/\eqMp X.l X.l/\eqMp X.r X.r/\eqPl X.vp X.vp/\eqPl X.uvp (mpApp X.u X.vp)/\True)/\∀ (x:Unit),((okP X.uv/\plOk X.p)/\∃ (z:Unit),True/\True/\True/\True/\True/\eqMp X.u X.u/\eqMp X.v X.v/\True/\True/\eqMp X.uv X.uv/\True/\eqMp X.l X.l/\eqMp X.r X.r/\True/\eqPl X.uvp X.uvp/\eqPl X.al (mpApp X.uv X.p)/\True)/\∀ (x:Unit),onB (!(eqMpB X.l X.r)) (K (.v (.one (.cb false))) []) (onB (!(eqPlB X.uvp X.al)) (K (.v (.one (.cb false))) []) (okP X.uv/\∃ (z:Unit),True/\True/\True/\True/\True/\eqMp X.u X.u/\eqMp X.v X.v/\True/\True/\True/\True/\True/\True/\True/\True/\True/\True))/\∀ (x:Unit),((okP X.u/\okR (mInv X.u.r))/\∃ (z:Unit),True/\True/\True/\True/\True/\eqMp X.u X.u/\eqMp X.v X.v/\True/\True/\True/\True/\True/\True/\True/\True/\True/\eqMp X.iu (mpInv X.u)/\True)/\∀ (x:Unit),((okP X.u/\okP X.iu/\okR (mZ X.u.r X.iu.r))/\∃ (z:Unit),True/\True/\True/\True/\True/\eqMp X.u X.u/\eqMp X.v X.v/\True/\True/\True/\True/\True/\True/\True/\True/\True/\eqMp X.iu X.iu/\eqMp X.xa (mpMul X.u X.iu)/\True)/\∀ (x:Unit),((okP X.iu/\okP X.u/\okR (mZ X.iu.r X.u.r))/\∃ (z:Unit),True/\True/\True/\True/\True/\eqMp X.u X.u/\eqMp X.v X.v/\True/\True/\True/\True/\True/\True/\True/\True/\True/\eqMp X.iu X.iu/\eqMp X.xa X.xa/\eqMp X.xb (mpMul X.iu X.u)/\True)/\∀ (x:Unit),((∃ (z:Bool),X.u.r ∈ GH z/\in24 X.u)/\∃ (z:Unit),((↑X.n:Int)=(↑(mpOrd X.u):Int)/\True)/\True/\True/\True/\True/\eqMp X.u X.u/\eqMp X.v X.v/\True/\True/\True/\True/\True/\True/\True/\True/\True/\eqMp X.iu X.iu/\eqMp X.xa X.xa/\eqMp X.xb X.xb/\True)/\∀ (x:Unit),((okP X.u/\okR (mInv X.u.r))/\∃ (z:Unit),((↑X.n:Int)=(↑X.n:Int)/\True)/\True/\True/\True/\True/\eqMp X.u X.u/\eqMp X.v X.v/\True/\True/\True/\True/\True/\True/\True/\True/\True/\eqMp X.iu X.iu/\eqMp X.xa X.xa/\eqMp X.xb X.xb/\eqMp X.mo (mpInv X.u)/\True)/\∀ (x:Unit),onB (!(isMp1 X.xa)) (K (.v (.one (.cb false))) []) (onB (!(isMp1 X.xb)) (K (.v (.one (.cb false))) []) (onB (!(eqMpB X.mo X.iu)) (K (.v (.one (.cb false))) []) (∃ (z:Unit),((↑X.n:Int)=(↑X.n:Int)/\True)/\True/\True/\True/\True/\eqMp X.u X.u/\eqMp X.v X.v/\True/\True/\True/\True/\True/\True/\True/\True/\True/\True/\True/\True/\True/\True)))/\∀ (x:Unit),((∃ (z : { j:Nat//1<=j/\j<=X.n }),((↑X.n:Int)=(↑X.n:Int)/\(↑z.val:Int)=1/\True)/\True/\True/\True/\True/\eqMp X.u X.u/\eqMp X.v X.v/\True/\True/\True/\True/\True/\True/\True/\True/\True/\True/\True/\True/\True/\eqMp (mpPow X.u z.val) X.u/\True)/\∀ (x : { j:Nat//1<=j/\j<=X.n }),onB (decide ((↑x.val:Int)<(↑X.n:Int))) (onB (isMp1 (mpPow X.u x.val)) (K (.v (.one (.cb false))) []) ((okP (mpPow X.u x.val)/\okP X.u/\okR (mZ (mpPow X.u x.val).r X.u.r))/\∃ (z : { j:Nat//1<=j/\j<=X.n }),(X.n-z.val).succ.le (X.n-x.val)/\((↑X.n:Int)=(↑X.n:Int)/\(↑z.val:Int)=IntKind.i64.wrap ((↑x.val:Int)+1)/\True)/\True/\True/\True/\True/\eqMp X.u X.u/\eqMp X.v X.v/\True/\True/\True/\True/\True/\True/\True/\True/\True/\True/\True/\True/\True/\eqMp (mpPow X.u z.val) (mpMul (mpPow X.u x.val) X.u)/\True)) (∃ (z:Unit),True/\True/\True/\True/\True/\eqMp X.u X.u/\eqMp X.v X.v/\True/\True/\True/\True/\True/\True/\True/\True/\True/\True/\True/\True/\True/\eqMp X.yy (mpPow X.u x.val)/\True))/\∀ (x:Unit),(∃ (z:Unit),(X.s=(wrT X.u.r.a X.u.r.b X.u.r.c X.u.r.d X.u.r.e X.u.r.f X.u.r.g X.u.r.h X.u.r.i X.u.x X.u.y X.u.z).fst/\(0:Int)=(wrT X.u.r.a X.u.r.b X.u.r.c X.u.r.d X.u.r.e X.u.r.f X.u.r.g X.u.r.h X.u.r.i X.u.x X.u.y X.u.z).snd/\True)/\True/\True/\True/\True/\eqMp X.u X.u/\eqMp X.v X.v/\True/\True/\True/\True/\True/\True/\True/\True/\True/\True/\True/\True/\True/\eqMp X.yy X.yy/\True)/\∀ (x:Unit),(∃ (z:Unit),((0:Int)=(readF X.s).err/\True)/\True/\True/\True/\True/\eqMp X.u X.u/\eqMp X.v X.v/\True/\True/\True/\True/\True/\True/\True/\True/\True/\True/\True/\True/\True/\eqMp X.yy X.yy/\(X.t.r.a=(readF X.s).a/\X.t.r.b=(readF X.s).b/\X.t.r.c=(readF X.s).c/\X.t.r.d=(readF X.s).d/\X.t.r.e=(readF X.s).e/\X.t.r.f=(readF X.s).f/\X.t.r.g=(readF X.s).g/\X.t.r.h=(readF X.s).h/\X.t.r.i=(readF X.s).i/\X.t.x=(readF X.s).x/\X.t.y=(readF X.s).y/\X.t.z=(readF X.s).z/\True)/\True)/\∀ (x:Unit),onB (isMp1 X.yy) (onB (eqMpB X.t X.u) (onB (decide (cmpMp X.u X.v=IntKind.i64.wrap ((0:Int)-cmpMp X.v X.u))) (K (.v (.one (.sb (decide (cmpMp X.u X.v=0)==(eqMpB X.u X.v))))) []) (K (.v (.one (.cb false))) [])) (K (.v (.one (.cb false))) [])) (K (.v (.one (.cb false))) [])) := by kernel_rfl
end Go.AM
open Go Go.AM Go.Proofs
namespace Go.AM
open Dist
set_option maxRecDepth 100000
theorem eqMpB_iff {a b : Mp} : eqMpB a b = true ↔ a = b := by
  unfold eqMpB
  simp only [Bool.and_eq_true, decide_eq_true_eq, and_true]
  constructor
  · rintro ⟨⟨⟨h1, h2, h3⟩, ⟨h4, h5, h7⟩, h8, h9, hi⟩, hx, hy, hz⟩
    obtain ⟨⟨a1, a2, a3, a4, a5, a7, a8, a9, ai⟩, x, y, z⟩ := a
    obtain ⟨⟨b1, b2, b3, b4, b5, b7, b8, b9, bi⟩, x', y', z'⟩ := b
    simp only at *
    subst h1 h2 h3 h4 h5 h7 h8 h9 hi hx hy hz
    rfl
  · rintro rfl
    exact ⟨⟨⟨rfl, rfl, rfl⟩, ⟨rfl, rfl, rfl⟩, rfl, rfl, rfl⟩, rfl, rfl, rfl⟩
theorem isMp1_eq (a : Mp) : isMp1 a = eqMpB a mp1 := rfl
theorem isMp1_iff {a : Mp} : isMp1 a = true ↔ a = mp1 := by rw [isMp1_eq]; exact eqMpB_iff
theorem eqPlB_refl (a : Pl3) : eqPlB a a = true := by unfold eqPlB; simp
theorem cmp_neg (u v : Mp) : cmpMp v u = - cmpMp u v := by
  unfold cmpMp cmp12 cmp9
  rw [icmp_neg u.r.a v.r.a, icmp_neg u.r.b v.r.b, icmp_neg u.r.c v.r.c, icmp_neg u.r.d v.r.d, icmp_neg u.r.e v.r.e, icmp_neg u.r.f v.r.f, icmp_neg u.r.g v.r.g, icmp_neg u.r.h v.r.h, icmp_neg u.r.i v.r.i, icmp_neg u.x v.x, icmp_neg u.y v.y, icmp_neg u.z v.z]
  simp only [thenC_neg]
theorem cmp_zero (u v : Mp) : cmpMp u v = 0 ↔ eqMpB u v = true := by
  unfold cmpMp cmp12 cmp9 eqMpB
  simp only [thenC_zero, icmp_zero, Bool.and_eq_true, decide_eq_true_eq, and_true, and_assoc]
theorem thenC_bd {c d : Int} (hc : -1 ≤ c ∧ c ≤ 1) (hd : -1 ≤ d ∧ d ≤ 1) : -1 ≤ thenC c d ∧ thenC c d ≤ 1 := by
  unfold thenC
  split
  · exact hd
  · exact hc
theorem icmp_bd (a b : Int) : -1 ≤ icmp a b ∧ icmp a b ≤ 1 := by
  rcases icmp_cases a b with ⟨_, h⟩ | ⟨_, h⟩ | ⟨_, h⟩ <;> omega
theorem cmp_bd (u v : Mp) : -1 ≤ cmpMp u v ∧ cmpMp u v ≤ 1 := by
  unfold cmpMp cmp12 cmp9
  exact thenC_bd (thenC_bd (icmp_bd _ _) (thenC_bd (icmp_bd _ _) (thenC_bd (icmp_bd _ _) (thenC_bd (icmp_bd _ _) (thenC_bd (icmp_bd _ _) (thenC_bd (icmp_bd _ _) (thenC_bd (icmp_bd _ _) (thenC_bd (icmp_bd _ _) (icmp_bd _ _))))))))) (thenC_bd (icmp_bd _ _) (thenC_bd (icmp_bd _ _) (icmp_bd _ _)))
theorem sg_mem (k : Int) : sgM k ∈ G48 := by
  unfold sgM
  have h : (k % 48).toNat < G48.length := by show (k % 48).toNat < 48; omega
  rw [List.getD_eq_getElem?_getD, List.getElem?_eq_getElem h]
  exact List.getElem_mem h
def sxI (i : Nat) (b c : Bool) : M9 := let A := hexP i; let B := if b then mW A turn2 else A; if c then mW B minus1 else B
theorem sxI_mem : ((List.range 6).all fun i => [true, false].all fun b => [true, false].all fun c => memM G24 (sxI i b c)) = true := by decide +kernel
theorem sx_mem (k : Int) : sxM k ∈ G24 := by
  have e : sxM k = sxI (k % 6).toNat (decide (k / 6 % 2 = 1)) (decide (k / 12 % 2 = 1)) := by
    unfold sxM sxB sxA sxI
    simp only [decide_eq_true_eq]
  rw [e]
  have h := List.all_eq_true.1 sxI_mem (k % 6).toNat (List.mem_range.2 (by omega))
  have h2 := List.all_eq_true.1 h (decide (k / 6 % 2 = 1)) (by cases decide (k / 6 % 2 = 1) <;> simp)
  have h3 := List.all_eq_true.1 h2 (decide (k / 12 % 2 = 1)) (by cases decide (k / 12 % 2 = 1) <;> simp)
  exact memM_iff.1 h3
theorem sd_ok (hex : Bool) (k u v w s : Int) : mpOk hex (sdP hex k u v w s) := by
  refine ⟨?_, ?_⟩
  · unfold sdP sdM
    cases hex with
    | true => exact sx_mem k
    | false => exact sg_mem k
  · unfold in24 sdP tOf
    simp only
    omega
theorem prM_or {k : Int} (h : byt k) : prM k = 24 ∨ prM k = 48 ∨ prM k = 96 ∨ prM k = 192 := by
  unfold prM
  repeat' split
  all_goals simp
def wmX (u v w : Mp) (p : Pl3) : WmX := { u := u, v := v, w := w, p := p, uv := mpMul u v, vw := mpMul v w, l := mpMul (mpMul u v) w, r := mpMul u (mpMul v w), vp := mpApp v p, uvp := mpApp u (mpApp v p), al := mpApp (mpMul u v) p, iu := mpInv u, xa := mpMul u (mpInv u), xb := mpMul (mpInv u) u, n := mpOrd u, mo := mpInv u, yy := mpPow u (mpOrd u), s := mapT u.r.a u.r.b u.r.c u.r.d u.r.e u.r.f u.r.g u.r.h u.r.i u.x u.y u.z, t := u }
theorem ord_le (u : Mp) : mpOrd u ≤ 144 := by
  have h1 := ordM_le u.r
  have h2 : ordT u ≤ 24 := (least_at (mpPow u (ordM u.r)) 23 1 rfl (Nat.le_refl _)).2.2.1
  unfold mpOrd
  exact Nat.le_trans (Nat.mul_le_mul h1 h2) (by decide)
theorem onT {b : Bool} {A B : Prop} (h : b = true) (k : A) : onB b A B := by subst h; exact k
theorem onF {b : Bool} {A B : Prop} (h : b = false) (k : B) : onB b A B := by subst h; exact k
theorem i16_id {x : Int} (h : -32768 ≤ x ∧ x ≤ 32767) : IntKind.i64.wrap x = x := wr_id (by omega) (by omega)
set_option maxHeartbeats 2000000 in
theorem wm_run {ha hb hc hex : Bool} {ka ua va wa sa kb ub vb wb sb kc uc vc wc sc k xa xb xc : Int}
    (a1 : byt ka) (a2 : byt ua) (a3 : byt va) (a4 : byt wa) (a5 : byt sa) (b1 : byt kb) (b2 : byt ub) (b3 : byt vb) (b4 : byt wb) (b5 : byt sb) (c1 : byt kc) (c2 : byt uc) (c3 : byt vc) (c4 : byt wc) (c5 : byt sc)
    (hk : byt k) (x1 : -32768 ≤ xa ∧ xa ≤ 32767) (x2 : -32768 ≤ xb ∧ xb ≤ 32767) (x3 : -32768 ≤ xc ∧ xc ≤ 32767) :
    LawS (MF pruneOn) 100000 Tryz.f3 [.v (.agg [.sb ha, .sym .u8 ka, .sym .u8 ua, .sym .u8 va, .sym .u8 wa, .sym .u8 sa]), .v (.agg [.sb hb, .sym .u8 kb, .sym .u8 ub, .sym .u8 vb, .sym .u8 wb, .sym .u8 sb]), .v (.agg [.sb hc, .sym .u8 kc, .sym .u8 uc, .sym .u8 vc, .sym .u8 wc, .sym .u8 sc]), .v (.one (.sb hex)), .v (.one (.sym .u8 k)), .v (.agg [.sym .i16 xa, .sym .i16 xb, .sym .i16 xc])] (annWm (wmX (sdP hex ka ua va wa sa) (sdP hex kb ub vb wb sb) (sdP hex kc uc vc wc sc) ⟨prM k, xa % prM k, xb % prM k, xc % prM k⟩)) := ⟨by
  rw [nfwm]
  have hu := sd_ok hex ka ua va wa sa
  have hv := sd_ok hex kb ub vb wb sb
  have hw := sd_ok hex kc uc vc wc sc
  have hp0 : prM k = 24 ∨ prM k = 48 ∨ prM k = 96 ∨ prM k = 192 := prM_or hk
  have hp : plOk ⟨prM k, xa % prM k, xb % prM k, xc % prM k⟩ := by
    have hm : 0 < prM k := by omega
    exact ⟨hp0, ⟨Int.emod_nonneg _ (by omega), Int.emod_lt_of_pos _ hm⟩, ⟨Int.emod_nonneg _ (by omega), Int.emod_lt_of_pos _ hm⟩, ⟨Int.emod_nonneg _ (by omega), Int.emod_lt_of_pos _ hm⟩⟩
  have e1 := i16_id x1
  have e2 := i16_id x2
  have e3 := i16_id x3
  generalize eu : sdP hex ka ua va wa sa = u at *
  generalize ev : sdP hex kb ub vb wb sb = v at *
  generalize ew : sdP hex kc uc vc wc sc = w at *
  have huv := mul_ok hu hv
  have hvw := mul_ok hv hw
  have kU := mp_okP hu
  have kV := mp_okP hv
  have kW := mp_okP hw
  have kUV := mp_okP huv
  have kVW := mp_okP hvw
  have hi := inv_ok hu
  have kI := mp_okP hi
  obtain ⟨o1, o2, o3⟩ := ord_spec hu
  have o4 := ord_le u
  have hpow := pow_ok hu (one_GH hex)
  have ho := okP_op kU
  have hwr : wrT u.r.a u.r.b u.r.c u.r.d u.r.e u.r.f u.r.g u.r.h u.r.i u.x u.y u.z = (mapT u.r.a u.r.b u.r.c u.r.d u.r.e u.r.f u.r.g u.r.h u.r.i u.x u.y u.z, 0) := by unfold wrT; rw [if_pos ho]
  have hrd := read_write ho
  have hinv := mul_inv hu
  dsimp only [wmX]
  rw [hwr, hrd, e1, e2, e3]
  have near1 : ∀ {x : Int}, -32768 ≤ x ∧ x ≤ 32767 → (-1000000 : Int) ≤ x ∧ x ≤ 1000000 := fun h => by omega
  refine ⟨⟨⟨a1, a2, a3, a4, a5⟩, (), ?_⟩, fun _ => ⟨⟨⟨b1, b2, b3, b4, b5⟩, (), ?_⟩, fun _ => ⟨⟨⟨c1, c2, c3, c4, c5⟩, (), ?_⟩, fun _ => ⟨⟨hk, ⟨hp0, near1 x1, near1 x2, near1 x3⟩, (), ?_⟩, fun _ => ⟨⟨⟨kU, kV, GH_ok (GH_mul hu.1 hv.1)⟩, (), ?_⟩, fun _ => ⟨⟨⟨kV, kW, GH_ok (GH_mul hv.1 hw.1)⟩, (), ?_⟩, fun _ => ⟨⟨⟨kUV, kW, GH_ok (GH_mul huv.1 hw.1)⟩, (), ?_⟩, fun _ => ⟨⟨⟨kU, kVW, GH_ok (GH_mul hu.1 hvw.1)⟩, (), ?_⟩, fun _ => ⟨⟨⟨kV, hp⟩, (), ?_⟩, fun _ => ⟨⟨⟨kU, app_ok hp⟩, (), ?_⟩, fun _ => ⟨⟨⟨kUV, hp⟩, (), ?_⟩, fun _ => ⟨?_, fun _ => ⟨⟨⟨kU, GH_ok (GH_inv hu.1).1⟩, (), ?_⟩, fun _ => ⟨⟨⟨kU, kI, GH_ok (GH_mul hu.1 hi.1)⟩, (), ?_⟩, fun _ => ⟨⟨⟨kI, kU, GH_ok (GH_mul hi.1 hu.1)⟩, (), ?_⟩, fun _ => ⟨⟨⟨hex, hu⟩, (), ?_⟩, fun _ => ⟨⟨⟨kU, GH_ok (GH_inv hu.1).1⟩, (), ?_⟩, fun _ => ⟨?_, fun _ => ⟨⟨⟨⟨1, Nat.le_refl _, o1⟩, ?_⟩, fun x => ?_⟩, fun _ => ⟨⟨(), ?_⟩, fun _ => ⟨⟨(), ?_⟩, fun _ => ?_⟩⟩⟩⟩⟩⟩⟩⟩⟩⟩⟩⟩⟩⟩⟩⟩⟩⟩⟩⟩⟩
  iterate 11 (focus (repeat' (first | exact trivial | exact eqMp_refl _ | exact eqPl_refl _ | exact rfl | apply And.intro)))
  · have q1 : eqMpB (mpMul (mpMul u v) w) (mpMul u (mpMul v w)) = true := eqMpB_iff.2 (mp_assoc u v w)
    have q2 : eqPlB (mpApp u (mpApp v ⟨prM k, xa % prM k, xb % prM k, xc % prM k⟩)) (mpApp (mpMul u v) ⟨prM k, xa % prM k, xb % prM k, xc % prM k⟩) = true := by rw [mp_app hp]; exact eqPlB_refl _
    refine onF (by rw [q1]; rfl) (onF (by rw [q2]; rfl) ⟨kUV, (), ?_⟩)
    repeat' (first | exact trivial | exact eqMp_refl _ | apply And.intro)
  iterate 5 (focus (repeat' (first | exact trivial | exact eqMp_refl _ | exact eqPl_refl _ | exact rfl | apply And.intro)))
  · have q1 : isMp1 (mpMul u (mpInv u)) = true := isMp1_iff.2 hinv.1
    have q2 : isMp1 (mpMul (mpInv u) u) = true := isMp1_iff.2 hinv.2
    have q3 : eqMpB (mpInv u) (mpInv u) = true := eqMpB_iff.2 rfl
    refine onF (by rw [q1]; rfl) (onF (by rw [q2]; rfl) (onF (by rw [q3]; rfl) ⟨(), ?_⟩))
    repeat' (first | exact trivial | exact eqMp_refl _ | exact rfl | apply And.intro)
  · have e : mpPow u 1 = u := pow_one hu.2
    have e2 : eqMp (mpPow u 1) u := by rw [e]; exact eqMp_refl _
    refine ⟨⟨rfl, rfl, trivial⟩, ?_⟩
    repeat' (first | exact trivial | exact eqMp_refl _ | exact e2 | apply And.intro)
  · have hx := x.2
    refine onB_mk (fun hj => ?_) (fun hj => ⟨(), ?_⟩)
    · have hj : (x.1 : Int) < (mpOrd u : Int) := of_decide_eq_true hj
      have q1 : isMp1 (mpPow u x.1) = false := by
        cases h : isMp1 (mpPow u x.1) with
        | false => rfl
        | true => exact absurd (isMp1_iff.1 h) (o3 x.1 hx.1 (by omega))
      refine onF q1 ⟨⟨mp_okP (hpow x.1), kU, GH_ok (GH_mul (hpow x.1).1 hu.1)⟩, ⟨x.1 + 1, by omega, by omega⟩, by show mpOrd u - (x.1 + 1) + 1 ≤ mpOrd u - x.1; omega, ⟨rfl, by rw [wr_id (by omega) (by omega)]; rfl, trivial⟩, ?_⟩
      repeat' (first | exact trivial | exact eqMp_refl _ | apply And.intro)
    · have hj : ¬ (x.1 : Int) < (mpOrd u : Int) := of_decide_eq_false hj
      have e : x.1 = mpOrd u := by omega
      rw [e]
      repeat' (first | exact trivial | exact eqMp_refl _ | apply And.intro)
  iterate 2 (focus (repeat' (first | exact trivial | exact eqMp_refl _ | exact eqPl_refl _ | exact rfl | apply And.intro)))
  · have q1 : isMp1 (mpPow u (mpOrd u)) = true := isMp1_iff.2 o2
    have q2 : eqMpB u u = true := eqMpB_iff.2 rfl
    have n1 := cmp_neg u v
    have n2 := cmp_bd u v
    have q3 : cmpMp u v = IntKind.i64.wrap (0 - cmpMp v u) := by rw [n1, wr_id (by omega) (by omega)]; omega
    refine onT q1 (onT q2 (onT (decide_eq_true q3) ⟨?_, rfl⟩))
    have q4 : (decide (cmpMp u v = 0) == eqMpB u v) = true := by
      cases h : eqMpB u v with
      | true => rw [decide_eq_true ((cmp_zero u v).2 h)]; rfl
      | false =>
        rw [decide_eq_false (fun e => by rw [(cmp_zero u v).1 e] at h; cases h)]
        rfl
    show some (Value.bool (decide (cmpMp u v = 0) == eqMpB u v)) = _
    rw [q4]⟩
theorem u8_byt {n : Int} (h : (Lit.int .u8 n).wf = true) : byt n := by
  have h : (decide (IntKind.u8.min ≤ n) && decide (n ≤ IntKind.u8.max)) = true := by simpa [Lit.wf] using h
  simp only [Bool.and_eq_true, decide_eq_true_eq] at h
  exact ⟨h.1, h.2⟩
theorem i16_in {n : Int} (h : (Lit.int .i16 n).wf = true) : -32768 ≤ n ∧ n ≤ 32767 := by
  have h : (decide (IntKind.i16.min ≤ n) && decide (n ≤ IntKind.i16.max)) = true := by simpa [Lit.wf] using h
  simp only [Bool.and_eq_true, decide_eq_true_eq] at h
  exact ⟨h.1, h.2⟩
theorem lawMaps (ba : Bool) (ka ua va wa sa : Int) (qa1 : (Lit.int .u8 ka).wf = true) (qa2 : (Lit.int .u8 ua).wf = true) (qa3 : (Lit.int .u8 va).wf = true) (qa4 : (Lit.int .u8 wa).wf = true) (qa5 : (Lit.int .u8 sa).wf = true) (bb : Bool) (kb ub vb wb sb : Int) (qb1 : (Lit.int .u8 kb).wf = true) (qb2 : (Lit.int .u8 ub).wf = true) (qb3 : (Lit.int .u8 vb).wf = true) (qb4 : (Lit.int .u8 wb).wf = true) (qb5 : (Lit.int .u8 sb).wf = true) (bc : Bool) (kc uc vc wc sc : Int) (qc1 : (Lit.int .u8 kc).wf = true) (qc2 : (Lit.int .u8 uc).wf = true) (qc3 : (Lit.int .u8 vc).wf = true) (qc4 : (Lit.int .u8 wc).wf = true) (qc5 : (Lit.int .u8 sc).wf = true) (hex : Bool) (k : Int) (hk : (Lit.int .u8 k).wf = true) (xa xb xc : Int) (hx : intsWf [.i16, .i16, .i16] [xa, xb, xc]) :
    LawS (MF pruneOn) 100000 Tryz.f3 [.v (.agg [.sb ba, .sym .u8 ka, .sym .u8 ua, .sym .u8 va, .sym .u8 wa, .sym .u8 sa]), .v (.agg [.sb bb, .sym .u8 kb, .sym .u8 ub, .sym .u8 vb, .sym .u8 wb, .sym .u8 sb]), .v (.agg [.sb bc, .sym .u8 kc, .sym .u8 uc, .sym .u8 vc, .sym .u8 wc, .sym .u8 sc]), .v (.one (.sb hex)), .v (.one (.sym .u8 k)), .v (.agg [.sym .i16 xa, .sym .i16 xb, .sym .i16 xc])] (annWm (wmX (sdP hex ka ua va wa sa) (sdP hex kb ub vb wb sb) (sdP hex kc uc vc wc sc) ⟨prM k, xa % prM k, xb % prM k, xc % prM k⟩)) :=
  wm_run (u8_byt qa1) (u8_byt qa2) (u8_byt qa3) (u8_byt qa4) (u8_byt qa5) (u8_byt qb1) (u8_byt qb2) (u8_byt qb3) (u8_byt qb4) (u8_byt qb5) (u8_byt qc1) (u8_byt qc2) (u8_byt qc3) (u8_byt qc4) (u8_byt qc5) (u8_byt hk) (i16_in hx.1) (i16_in hx.2.1) (i16_in hx.2.2.1)
end Go.AM

import Derived.Test.YthjbfklheepfpaaGreatDoorPM2
import Derived.Test.YthjbfklheepfpaaGreatDoorPMB
import Derived.Test.YthjbfklheepfpaaGreatDoorOH
set_option linter.unusedVariables false
set_option linter.unusedSimpArgs false
set_option maxHeartbeats 4000000
open Go Go.AM Go.Proofs
namespace Go.AM
open Dist
set_option maxRecDepth 100000
theorem nffm (a b c d e f g h i x y z : Int) (K : KV) : call P (MB stdOn) noAnn 10000 Tryz.f9 [.v (.agg [.sym .i64 a, .sym .i64 b, .sym .i64 c, .sym .i64 d, .sym .i64 e, .sym .i64 f, .sym .i64 g, .sym .i64 h, .sym .i64 i, .sym .i64 x, .sym .i64 y, .sym .i64 z])] [] K = ((decide (x<0)=true->K (.v (.one (.cb (decide ((3:Int)=0))))) [])/\(decide (x<0)=false->(decide ((24:Int)<=x)=true->K (.v (.one (.cb (decide ((3:Int)=0))))) [])/\(decide ((24:Int)<=x)=false->(decide (y<0)=true->K (.v (.one (.cb (decide ((3:Int)=0))))) [])/\(decide (y<0)=false->(decide ((24:Int)<=y)=true->K (.v (.one (.cb (decide ((3:Int)=0))))) [])/\(decide ((24:Int)<=y)=false->(decide (z<0)=true->K (.v (.one (.cb (decide ((3:Int)=0))))) [])/\(decide (z<0)=false->(decide ((24:Int)<=z)=true->K (.v (.one (.cb (decide ((3:Int)=0))))) [])/\(decide ((24:Int)<=z)=false->(decide ((if over9 a b c d e f g h i=true then (4:Int) else if det9 a b c d e f g h i=1 then (0:Int) else if det9 a b c d e f g h i=(-1:Int) then (0:Int) else (3:Int))=3)=true->K (.v (.one (.cb (decide ((3:Int)=0))))) [])/\(decide ((if over9 a b c d e f g h i=true then (4:Int) else if det9 a b c d e f g h i=1 then (0:Int) else if det9 a b c d e f g h i=(-1:Int) then (0:Int) else (3:Int))=3)=false->(decide ((if over9 a b c d e f g h i=true then (4:Int) else if det9 a b c d e f g h i=1 then (0:Int) else if det9 a b c d e f g h i=(-1:Int) then (0:Int) else (3:Int))=4)=true->K (.v (.one (.cb (decide (Int.ofNat 4=0))))) [])/\(decide ((if over9 a b c d e f g h i=true then (4:Int) else if det9 a b c d e f g h i=1 then (0:Int) else if det9 a b c d e f g h i=(-1:Int) then (0:Int) else (3:Int))=4)=false->K (.v (.one (.cb (decide ((0:Int)=0))))) []))))))))) := by kernel_rfl
theorem nfvin (a b c d e f g h i : Int) (K : KV) : call P (MB stdOn) noAnn 10000 Tryz.f30 [.v (.agg [.sym .i64 a, .sym .i64 b, .sym .i64 c, .sym .i64 d, .sym .i64 e, .sym .i64 f, .sym .i64 g, .sym .i64 h, .sym .i64 i])] [] K = (((!decide ((if over9 a b c d e f g h i=true then (4:Int) else (0:Int))=0))=true->((!decide ((if over9 a b c d e f g h i=true then (4:Int) else (0:Int))=0))=true->K (.tup [.agg [.con .i64 (0:Int),.con .i64 (0:Int),.con .i64 (0:Int),.con .i64 (0:Int),.con .i64 (0:Int),.con .i64 (0:Int),.con .i64 (0:Int),.con .i64 (0:Int),.con .i64 0],.one (.sym .i64 (if over9 a b c d e f g h i=true then (4:Int) else (0:Int)))]) [])/\((!decide ((if over9 a b c d e f g h i=true then (4:Int) else (0:Int))=0))=false->K (.tup [.agg [.sym .i64 (IntKind.i64.wrap (cof e f h i*0)),.sym .i64 (IntKind.i64.wrap (cof h i b c*0)),.sym .i64 (IntKind.i64.wrap (cof b c e f*0)),.sym .i64 (IntKind.i64.wrap (cof f d i g*0)),.sym .i64 (IntKind.i64.wrap (cof i g c a*0)),.sym .i64 (IntKind.i64.wrap (cof c a f d*0)),.sym .i64 (IntKind.i64.wrap (cof d e g h*0)),.sym .i64 (IntKind.i64.wrap (cof g h a b*0)),.sym .i64 (IntKind.i64.wrap (cof a b d e*0))],.one (.con .i64 0)]) []))/\((!decide ((if over9 a b c d e f g h i=true then (4:Int) else (0:Int))=0))=false->((!decide (IntKind.i64.wrap (IntKind.i64.wrap (IntKind.i64.wrap (a*cof e f h i)+IntKind.i64.wrap (b*cof f d i g))+IntKind.i64.wrap (c*cof d e g h))=1))=true->((!decide (IntKind.i64.wrap (IntKind.i64.wrap (IntKind.i64.wrap (a*cof e f h i)+IntKind.i64.wrap (b*cof f d i g))+IntKind.i64.wrap (c*cof d e g h))=(-1:Int)))=true->K (.tup [.agg [.con .i64 (0:Int),.con .i64 (0:Int),.con .i64 (0:Int),.con .i64 (0:Int),.con .i64 (0:Int),.con .i64 (0:Int),.con .i64 (0:Int),.con .i64 (0:Int),.con .i64 0],.one (.con .i64 (Int.ofNat 3))]) [])/\((!decide (IntKind.i64.wrap (IntKind.i64.wrap (IntKind.i64.wrap (a*cof e f h i)+IntKind.i64.wrap (b*cof f d i g))+IntKind.i64.wrap (c*cof d e g h))=(-1:Int)))=false->K (.tup [.agg [.sym .i64 (IntKind.i64.wrap (cof e f h i*IntKind.i64.wrap (IntKind.i64.wrap (IntKind.i64.wrap (a*cof e f h i)+IntKind.i64.wrap (b*cof f d i g))+IntKind.i64.wrap (c*cof d e g h)))),.sym .i64 (IntKind.i64.wrap (cof h i b c*IntKind.i64.wrap (IntKind.i64.wrap (IntKind.i64.wrap (a*cof e f h i)+IntKind.i64.wrap (b*cof f d i g))+IntKind.i64.wrap (c*cof d e g h)))),.sym .i64 (IntKind.i64.wrap (cof b c e f*IntKind.i64.wrap (IntKind.i64.wrap (IntKind.i64.wrap (a*cof e f h i)+IntKind.i64.wrap (b*cof f d i g))+IntKind.i64.wrap (c*cof d e g h)))),.sym .i64 (IntKind.i64.wrap (cof f d i g*IntKind.i64.wrap (IntKind.i64.wrap (IntKind.i64.wrap (a*cof e f h i)+IntKind.i64.wrap (b*cof f d i g))+IntKind.i64.wrap (c*cof d e g h)))),.sym .i64 (IntKind.i64.wrap (cof i g c a*IntKind.i64.wrap (IntKind.i64.wrap (IntKind.i64.wrap (a*cof e f h i)+IntKind.i64.wrap (b*cof f d i g))+IntKind.i64.wrap (c*cof d e g h)))),.sym .i64 (IntKind.i64.wrap (cof c a f d*IntKind.i64.wrap (IntKind.i64.wrap (IntKind.i64.wrap (a*cof e f h i)+IntKind.i64.wrap (b*cof f d i g))+IntKind.i64.wrap (c*cof d e g h)))),.sym .i64 (IntKind.i64.wrap (cof d e g h*IntKind.i64.wrap (IntKind.i64.wrap (IntKind.i64.wrap (a*cof e f h i)+IntKind.i64.wrap (b*cof f d i g))+IntKind.i64.wrap (c*cof d e g h)))),.sym .i64 (IntKind.i64.wrap (cof g h a b*IntKind.i64.wrap (IntKind.i64.wrap (IntKind.i64.wrap (a*cof e f h i)+IntKind.i64.wrap (b*cof f d i g))+IntKind.i64.wrap (c*cof d e g h)))),.sym .i64 (IntKind.i64.wrap (cof a b d e*IntKind.i64.wrap (IntKind.i64.wrap (IntKind.i64.wrap (a*cof e f h i)+IntKind.i64.wrap (b*cof f d i g))+IntKind.i64.wrap (c*cof d e g h))))],.one (.con .i64 0)]) []))/\((!decide (IntKind.i64.wrap (IntKind.i64.wrap (IntKind.i64.wrap (a*cof e f h i)+IntKind.i64.wrap (b*cof f d i g))+IntKind.i64.wrap (c*cof d e g h))=1))=false->K (.tup [.agg [.sym .i64 (IntKind.i64.wrap (cof e f h i*IntKind.i64.wrap (IntKind.i64.wrap (IntKind.i64.wrap (a*cof e f h i)+IntKind.i64.wrap (b*cof f d i g))+IntKind.i64.wrap (c*cof d e g h)))),.sym .i64 (IntKind.i64.wrap (cof h i b c*IntKind.i64.wrap (IntKind.i64.wrap (IntKind.i64.wrap (a*cof e f h i)+IntKind.i64.wrap (b*cof f d i g))+IntKind.i64.wrap (c*cof d e g h)))),.sym .i64 (IntKind.i64.wrap (cof b c e f*IntKind.i64.wrap (IntKind.i64.wrap (IntKind.i64.wrap (a*cof e f h i)+IntKind.i64.wrap (b*cof f d i g))+IntKind.i64.wrap (c*cof d e g h)))),.sym .i64 (IntKind.i64.wrap (cof f d i g*IntKind.i64.wrap (IntKind.i64.wrap (IntKind.i64.wrap (a*cof e f h i)+IntKind.i64.wrap (b*cof f d i g))+IntKind.i64.wrap (c*cof d e g h)))),.sym .i64 (IntKind.i64.wrap (cof i g c a*IntKind.i64.wrap (IntKind.i64.wrap (IntKind.i64.wrap (a*cof e f h i)+IntKind.i64.wrap (b*cof f d i g))+IntKind.i64.wrap (c*cof d e g h)))),.sym .i64 (IntKind.i64.wrap (cof c a f d*IntKind.i64.wrap (IntKind.i64.wrap (IntKind.i64.wrap (a*cof e f h i)+IntKind.i64.wrap (b*cof f d i g))+IntKind.i64.wrap (c*cof d e g h)))),.sym .i64 (IntKind.i64.wrap (cof d e g h*IntKind.i64.wrap (IntKind.i64.wrap (IntKind.i64.wrap (a*cof e f h i)+IntKind.i64.wrap (b*cof f d i g))+IntKind.i64.wrap (c*cof d e g h)))),.sym .i64 (IntKind.i64.wrap (cof g h a b*IntKind.i64.wrap (IntKind.i64.wrap (IntKind.i64.wrap (a*cof e f h i)+IntKind.i64.wrap (b*cof f d i g))+IntKind.i64.wrap (c*cof d e g h)))),.sym .i64 (IntKind.i64.wrap (cof a b d e*IntKind.i64.wrap (IntKind.i64.wrap (IntKind.i64.wrap (a*cof e f h i)+IntKind.i64.wrap (b*cof f d i g))+IntKind.i64.wrap (c*cof d e g h))))],.one (.con .i64 0)]) []))) := by kernel_rfl
theorem nfshf (m x y z u v w : Int) (K : KV) : call P (MB stdOn) noAnn 10000 Tryz.f28 [.v (.agg [.sym .i64 m, .sym .i64 x, .sym .i64 y, .sym .i64 z]), .v (.agg [.sym .i64 u, .sym .i64 v, .sym .i64 w])] [] K = (((!form m x y z)=true->K (.tup [.agg [.con .i64 (0:Int),.con .i64 (0:Int),.con .i64 (0:Int),.con .i64 0],.one (.con .i64 3)]) [])/\((!form m x y z)=false->K (.tup [.agg [.sym .i64 (if right m=true then m else (0:Int)),.sym .i64 (if right m=true then modF (IntKind.i64.wrap (x+IntKind.i64.wrap (u.tmod (24:Int)*IntKind.i64.wrap (m.tdiv 24)))) m else (0:Int)),.sym .i64 (if right m=true then modF (IntKind.i64.wrap (y+IntKind.i64.wrap (v.tmod (24:Int)*IntKind.i64.wrap (m.tdiv 24)))) m else (0:Int)),.sym .i64 (if right m=true then modF (IntKind.i64.wrap (z+IntKind.i64.wrap (w.tmod (24:Int)*IntKind.i64.wrap (m.tdiv 24)))) m else (0:Int))],.one (.sym .i64 (if right m=true then (0:Int) else (1:Int)))]) []/\K (.tup [.agg [.sym .i64 (if right m=true then m else (0:Int)),.sym .i64 (if right m=true then modF (IntKind.i64.wrap (x+IntKind.i64.wrap (u.tmod (24:Int)*IntKind.i64.wrap (m.tdiv 24)))) m else (0:Int)),.sym .i64 (if right m=true then modF (IntKind.i64.wrap (y+IntKind.i64.wrap (v.tmod (24:Int)*IntKind.i64.wrap (m.tdiv 24)))) m else (0:Int)),.sym .i64 (if right m=true then modF (IntKind.i64.wrap (z+IntKind.i64.wrap (w.tmod (24:Int)*IntKind.i64.wrap (m.tdiv 24)))) m else (0:Int))],.one (.sym .i64 (if right m=true then (0:Int) else (1:Int)))]) [])) := by kernel_rfl
def okR (m : M9) : Prop := low9 m = true ∧ (mDet m = 1 ∨ mDet m = -1)
def okP (u : Mp) : Prop := okR u.r ∧ in24 u
theorem GH_ok {hex : Bool} {m : M9} (h : m ∈ GH hex) : okR m := ⟨GH_low h, GH_det h⟩
theorem mp_okP {hex : Bool} {u : Mp} (h : mpOk hex u) : okP u := ⟨GH_ok h.1, h.2⟩
theorem b1 {x : Int} (h : -1 ≤ x ∧ x ≤ 1) : B1 x := by unfold B1; omega
theorem okR_over {m : M9} (h : okR m) : over9 m.a m.b m.c m.d m.e m.f m.g m.h m.i = false := by
  obtain ⟨h1, h2, h3, h4, h5, h7, h8, h9, k⟩ := low9_iff.1 h.1
  exact over9_false.2 ⟨b1 h1, b1 h2, b1 h3, b1 h4, b1 h5, b1 h7, b1 h8, b1 h9, b1 k⟩
theorem okR_det {m : M9} (h : okR m) : det9 m.a m.b m.c m.d m.e m.f m.g m.h m.i = mDet m := det9_id (okR_over h)
theorem okR_mat {m : M9} (h : okR m) : matE m.a m.b m.c m.d m.e m.f m.g m.h m.i = 0 := matE_of (okR_over h) h.2
theorem okP_bad {u : Mp} (h : okP u) : tbad u.x u.y u.z = false := tbad_false.2 h.2
theorem okP_op {u : Mp} (h : okP u) : opE u.r.a u.r.b u.r.c u.r.d u.r.e u.r.f u.r.g u.r.h u.r.i u.x u.y u.z = 0 := opE_zero.2 ⟨okP_bad h, okR_over h.1, h.1.2⟩
def mpS (u : Mp) : List SV := [.sym .i64 u.r.a, .sym .i64 u.r.b, .sym .i64 u.r.c, .sym .i64 u.r.d, .sym .i64 u.r.e, .sym .i64 u.r.f, .sym .i64 u.r.g, .sym .i64 u.r.h, .sym .i64 u.r.i, .sym .i64 u.x, .sym .i64 u.y, .sym .i64 u.z]
def qMulG : PSpec
  | [.v (.agg [.sym .i64 a, .sym .i64 b, .sym .i64 c, .sym .i64 d, .sym .i64 e, .sym .i64 f, .sym .i64 g, .sym .i64 h, .sym .i64 i, .sym .i64 x, .sym .i64 y, .sym .i64 z]), .v (.agg [.sym .i64 p, .sym .i64 q, .sym .i64 r, .sym .i64 s, .sym .i64 t, .sym .i64 u, .sym .i64 v, .sym .i64 w, .sym .i64 k, .sym .i64 l, .sym .i64 m, .sym .i64 n])] =>
    .iff (okP ⟨⟨a, b, c, d, e, f, g, h, i⟩, x, y, z⟩ ∧ okP ⟨⟨p, q, r, s, t, u, v, w, k⟩, l, m, n⟩ ∧ okR (mZ ⟨a, b, c, d, e, f, g, h, i⟩ ⟨p, q, r, s, t, u, v, w, k⟩))
      (.tup [.agg (mpS (mpMul ⟨⟨a, b, c, d, e, f, g, h, i⟩, x, y, z⟩ ⟨⟨p, q, r, s, t, u, v, w, k⟩, l, m, n⟩)), .one (.con .i64 0)])
  | _ => .fail
theorem mW_eq {m n : M9} (hm : okR m) (hn : okR n) : mW m n = mZ m n := by
  obtain ⟨h1, h2, h3, h4, h5, h7, h8, h9, k⟩ := low9_iff.1 hm.1
  obtain ⟨i1, i2, i3, i4, i5, i7, i8, i9, j⟩ := low9_iff.1 hn.1
  unfold mW mZ
  rw [pr_id (b1 h1) (b1 h2) (b1 h3) (b1 i1) (b1 i4) (b1 i8), pr_id (b1 h1) (b1 h2) (b1 h3) (b1 i2) (b1 i5) (b1 i9), pr_id (b1 h1) (b1 h2) (b1 h3) (b1 i3) (b1 i7) (b1 j),
    pr_id (b1 h4) (b1 h5) (b1 h7) (b1 i1) (b1 i4) (b1 i8), pr_id (b1 h4) (b1 h5) (b1 h7) (b1 i2) (b1 i5) (b1 i9), pr_id (b1 h4) (b1 h5) (b1 h7) (b1 i3) (b1 i7) (b1 j),
    pr_id (b1 h8) (b1 h9) (b1 k) (b1 i1) (b1 i4) (b1 i8), pr_id (b1 h8) (b1 h9) (b1 k) (b1 i2) (b1 i5) (b1 i9), pr_id (b1 h8) (b1 h9) (b1 k) (b1 i3) (b1 i7) (b1 j)]
theorem hMulG : Holds P O5 7 qMulG := ohMul.weaken fun args av hg => by
  unfold qMulG at hg
  split at hg
  · rename_i a b c d e f g h i x y z p q r s t u v w k l m n
    obtain ⟨⟨h1, h2, h3⟩, rfl⟩ := givesIff hg
    refine ⟨_, .inl rfl, ?_⟩
    have eW := mW_eq h1.1 h2.1
    have ho := okR_over h3
    rw [← eW] at ho
    have e0 : mulE a b c d e f g h i x y z p q r s t u v w k l m n = 0 := mulE_zero.2 ⟨okP_op h1, okP_op h2, ho⟩
    obtain ⟨l1, l2, l3, l4, l5, l7, l8, l9, lk⟩ := low9_iff.1 h1.1.1
    obtain ⟨j1, j2, j3⟩ := h1.2
    obtain ⟨k1, k2, k3⟩ := h2.2
    have t1 : tr a b c l m n x = (lin a b c l m n + x) % 24 := tr_id (b1 l1) (b1 l2) (b1 l3) k1 k2 k3 j1
    have t2 : tr d e f l m n y = (lin d e f l m n + y) % 24 := tr_id (b1 l4) (b1 l5) (b1 l7) k1 k2 k3 j2
    have t3 : tr g h i l m n z = (lin g h i l m n + z) % 24 := tr_id (b1 l8) (b1 l9) (b1 lk) k1 k2 k3 j3
    simp only [e0, if_true]
    rw [t1, t2, t3]
    unfold mpMul
    rw [← eW]
    rfl
  · exact (gives_fail hg).elim
def qFormG : PSpec
  | [.v (.agg [.sym .i64 a, .sym .i64 b, .sym .i64 c, .sym .i64 d, .sym .i64 e, .sym .i64 f, .sym .i64 g, .sym .i64 h, .sym .i64 i, .sym .i64 x, .sym .i64 y, .sym .i64 z])] => .iff (okP ⟨⟨a, b, c, d, e, f, g, h, i⟩, x, y, z⟩) (.v (.one (.cb true)))
  | _ => .fail
theorem hFormG : Holds P (MB stdOn) 9 qFormG := by
  refine holdsA (fn := Tryz.f9) noAnn 10000 rfl (by kernel_rfl) (by kernel_rfl) fun args av hg => ?_
  unfold qFormG at hg
  split at hg
  · rename_i a b c d e f g h i x y z
    obtain ⟨hp, rfl⟩ := givesIff hg
    refine ⟨rfl, .bool true, rfl, ?_⟩
    rw [nffm]
    obtain ⟨⟨x1, x2⟩, ⟨y1, y2⟩, ⟨z1, z2⟩⟩ := hp.2
    have hm : (if over9 a b c d e f g h i = true then (4 : Int) else if det9 a b c d e f g h i = (1 : Int) then (0 : Int) else if det9 a b c d e f g h i = (-1 : Int) then (0 : Int) else (3 : Int)) = 0 := okR_mat hp.1
    rw [hm]
    simp only at x1 x2 y1 y2 z1 z2
    refine ⟨fun k => absurd (show x < 0 from of_decide_eq_true k) (by omega), fun _ => ⟨fun k => absurd (show 24 ≤ x from of_decide_eq_true k) (by omega), fun _ => ⟨fun k => absurd (show y < 0 from of_decide_eq_true k) (by omega), fun _ => ⟨fun k => absurd (show 24 ≤ y from of_decide_eq_true k) (by omega), fun _ => ⟨fun k => absurd (show z < 0 from of_decide_eq_true k) (by omega), fun _ => ⟨fun k => absurd (show 24 ≤ z from of_decide_eq_true k) (by omega), fun _ => ⟨fun k => absurd (show (0 : Int) = 3 from of_decide_eq_true k) (by omega), fun _ => ⟨fun k => ?_, fun _ => ⟨rfl, rfl⟩⟩⟩⟩⟩⟩⟩⟩⟩
    have k : (0 : Int) = 4 := of_decide_eq_true k
    omega
  · exact (gives_fail hg).elim
def qVin : PSpec
  | [.v (.agg [.sym .i64 a, .sym .i64 b, .sym .i64 c, .sym .i64 d, .sym .i64 e, .sym .i64 f, .sym .i64 g, .sym .i64 h, .sym .i64 i])] => .iff (okR ⟨a, b, c, d, e, f, g, h, i⟩) (.tup [.agg (rowS (mInv ⟨a, b, c, d, e, f, g, h, i⟩)), .one (.con .i64 0)])
  | _ => .fail
theorem cof1 {a b c d : Int} (ha : -1 ≤ a ∧ a ≤ 1) (hb : -1 ≤ b ∧ b ≤ 1) (hc : -1 ≤ c ∧ c ≤ 1) (hd : -1 ≤ d ∧ d ≤ 1) {t : Int} (ht : t = 1 ∨ t = -1) : IntKind.i64.wrap (cof a b c d * t) = (a * d - b * c) * t := by
  obtain ⟨e, k1, k2⟩ := cof_id (b1 ha) (b1 hb) (b1 hc) (b1 hd)
  rw [e]
  rcases ht with h | h <;> subst h <;> rw [wr_id (by omega) (by omega)]
theorem hVin : Holds P (MB stdOn) 30 qVin := by
  refine holdsA (fn := Tryz.f30) noAnn 10000 rfl (by kernel_rfl) (by kernel_rfl) fun args av hg => ?_
  unfold qVin at hg
  split at hg
  · rename_i a b c d e f g h i
    obtain ⟨hp, rfl⟩ := givesIff hg
    refine ⟨rfl, _, rfl, ?_⟩
    rw [nfvin]
    have ho : over9 a b c d e f g h i = false := okR_over (m := ⟨a, b, c, d, e, f, g, h, i⟩) hp
    have hd : det9 a b c d e f g h i = mDet ⟨a, b, c, d, e, f, g, h, i⟩ := okR_det (m := ⟨a, b, c, d, e, f, g, h, i⟩) hp
    unfold det9 at hd
    rw [hd, ho]
    obtain ⟨l1, l2, l3, l4, l5, l7, l8, l9, lk⟩ := low9_iff.1 hp.1
    have hdt := hp.2
    have c1 := cof1 l5 l7 l9 lk hdt
    have c2 := cof1 l9 lk l2 l3 hdt
    have c3 := cof1 l2 l3 l5 l7 hdt
    have c4 := cof1 l7 l4 lk l8 hdt
    have c5 := cof1 lk l8 l3 l1 hdt
    have c7 := cof1 l3 l1 l7 l4 hdt
    have c8 := cof1 l4 l5 l8 l9 hdt
    have c9 := cof1 l8 l9 l1 l2 hdt
    have ck := cof1 l1 l2 l4 l5 hdt
    simp only at c1 c2 c3 c4 c5 c7 c8 c9 ck
    have yes : ∀ t : Int, mDet ⟨a, b, c, d, e, f, g, h, i⟩ = t → (AV.tup [PV.agg [SV.sym IntKind.i64 (IntKind.i64.wrap (cof e f h i * t)), SV.sym IntKind.i64 (IntKind.i64.wrap (cof h i b c * t)), SV.sym IntKind.i64 (IntKind.i64.wrap (cof b c e f * t)), SV.sym IntKind.i64 (IntKind.i64.wrap (cof f d i g * t)), SV.sym IntKind.i64 (IntKind.i64.wrap (cof i g c a * t)), SV.sym IntKind.i64 (IntKind.i64.wrap (cof c a f d * t)), SV.sym IntKind.i64 (IntKind.i64.wrap (cof d e g h * t)), SV.sym IntKind.i64 (IntKind.i64.wrap (cof g h a b * t)), SV.sym IntKind.i64 (IntKind.i64.wrap (cof a b d e * t))], PV.one (SV.con IntKind.i64 (0 : Int))]).valOf = some (.tuple #[.agg #[.int .i64 (mInv ⟨a, b, c, d, e, f, g, h, i⟩).a, .int .i64 (mInv ⟨a, b, c, d, e, f, g, h, i⟩).b, .int .i64 (mInv ⟨a, b, c, d, e, f, g, h, i⟩).c, .int .i64 (mInv ⟨a, b, c, d, e, f, g, h, i⟩).d, .int .i64 (mInv ⟨a, b, c, d, e, f, g, h, i⟩).e, .int .i64 (mInv ⟨a, b, c, d, e, f, g, h, i⟩).f, .int .i64 (mInv ⟨a, b, c, d, e, f, g, h, i⟩).g, .int .i64 (mInv ⟨a, b, c, d, e, f, g, h, i⟩).h, .int .i64 (mInv ⟨a, b, c, d, e, f, g, h, i⟩).i], .int .i64 0]) ∧ ([] : Heap) = [] := fun t ht => by
      subst ht
      rw [c1, c2, c3, c4, c5, c7, c8, c9, ck]
      exact ⟨rfl, rfl⟩
    refine ⟨fun k => ?_, fun _ => ⟨fun k => ⟨fun k2 => ?_, fun _ => yes _ rfl⟩, fun _ => yes _ rfl⟩⟩
    · simp at k
    · rcases hdt with h | h
      · rw [h] at k; simp at k
      · rw [h] at k2; simp at k2
  · exact (gives_fail hg).elim
theorem right_iff {m : Int} : right m = true ↔ m = 24 ∨ m = 48 ∨ m = 96 ∨ m = 192 := by
  unfold right
  simp only [Bool.or_eq_true, decide_eq_true_eq]
theorem modFm {m n : Int} (hm : m = 24 ∨ m = 48 ∨ m = 96 ∨ m = 192) (h1 : -1000000000000 ≤ n) (h2 : n ≤ 1000000000000) : modF n m = n % m := by
  have key : ∀ M : Int, 0 < M → M ≤ 192 → modF n M = n % M := fun M k1 k2 => by
    have h3 := Int.tmod_eq_emod (a := n) (b := M)
    have hb := Int.emod_nonneg n (show M ≠ 0 by omega)
    have hc := Int.emod_lt_of_pos n k1
    have h4 : n.tmod M = n % M ∨ n.tmod M = n % M - M := by
      split at h3
      · omega
      · have : (M.natAbs : Int) = M := by omega
        omega
    unfold modF
    rw [wr_id (by omega) (by omega), Int.tmod_eq_emod_of_nonneg (by omega)]
    rcases h4 with h4 | h4
    · rw [h4, Int.add_emod_right, Int.emod_emod_of_dvd _ (Int.dvd_refl M)]
    · rw [h4, show n % M - M + M = n % M by omega, Int.emod_emod_of_dvd _ (Int.dvd_refl M)]
  exact key m (by omega) (by omega)
def plS (p : Pl3) : List SV := [.sym .i64 p.m, .sym .i64 p.x, .sym .i64 p.y, .sym .i64 p.z]
def near (x : Int) : Prop := -1000000 ≤ x ∧ x ≤ 1000000
def qPlc : PSpec
  | [.v (.one (.sym .i64 m)), .v (.agg [.sym .i64 a, .sym .i64 b, .sym .i64 c])] => .iff ((m = 24 ∨ m = 48 ∨ m = 96 ∨ m = 192) ∧ near a ∧ near b ∧ near c) (.tup [.agg (plS ⟨m, a % m, b % m, c % m⟩), .one (.con .i64 0)])
  | _ => .fail
theorem hPlc : Holds P G2 5 qPlc := h6.weaken fun args av hg => by
  unfold qPlc at hg
  split at hg
  · rename_i m a b c
    obtain ⟨⟨hm, ha, hb, hc⟩, rfl⟩ := givesIff hg
    refine ⟨_, .inl rfl, ?_⟩
    unfold near at ha hb hc
    simp only [right_iff.2 hm, if_true]
    rw [modFm hm (by omega) (by omega), modFm hm (by omega) (by omega), modFm hm (by omega) (by omega)]
    rfl
  · exact (gives_fail hg).elim
def qShf : PSpec
  | [.v (.agg [.sym .i64 m, .sym .i64 x, .sym .i64 y, .sym .i64 z]), .v (.agg [.sym .i64 u, .sym .i64 v, .sym .i64 w])] => .iff (plOk ⟨m, x, y, z⟩ ∧ in3 u v w) (.tup [.agg (plS ⟨m, (x + u * (m / 24)) % m, (y + v * (m / 24)) % m, (z + w * (m / 24)) % m⟩), .one (.con .i64 0)])
  | _ => .fail
theorem shf_id {m x u : Int} (hm : m = 24 ∨ m = 48 ∨ m = 96 ∨ m = 192) (hx : 0 ≤ x ∧ x < m) (hu : 0 ≤ u ∧ u < 24) : modF (IntKind.i64.wrap (x + IntKind.i64.wrap (u.tmod 24 * IntKind.i64.wrap (m.tdiv 24)))) m = (x + u * (m / 24)) % m := by
  have e1 : u.tmod 24 = u := by rw [Int.tmod_eq_emod_of_nonneg hu.1]; omega
  have e2 : m.tdiv 24 = m / 24 := Int.tdiv_eq_ediv_of_nonneg (by omega)
  rw [e1, e2, wr_id (n := m / 24) (by omega) (by omega)]
  have k1 := mul_bd (A := 23) (B := 8) (a := u) (b := m / 24) (by omega) (by omega)
  rw [wr_id (n := u * (m / 24)) (by omega) (by omega), wr_id (by omega) (by omega), modFm hm (by omega) (by omega)]
theorem pl_form {m x y z : Int} (h : plOk ⟨m, x, y, z⟩) : form m x y z = true := by
  obtain ⟨h0, ⟨h1, h2⟩, ⟨h3, h4⟩, ⟨h5, h7⟩⟩ := h
  simp only at h0 h1 h2 h3 h4 h5 h7
  unfold form out
  rw [right_iff.2 h0, decide_eq_false (by omega), decide_eq_false (by omega), decide_eq_false (by omega), decide_eq_false (by omega), decide_eq_false (by omega), decide_eq_false (by omega)]
  rfl
theorem hShf : Holds P (MB stdOn) 28 qShf := by
  refine holdsA (fn := Tryz.f28) noAnn 10000 rfl (by kernel_rfl) (by kernel_rfl) fun args av hg => ?_
  unfold qShf at hg
  split at hg
  · rename_i m x y z u v w
    obtain ⟨⟨hp, hu, hv, hw⟩, rfl⟩ := givesIff hg
    refine ⟨rfl, _, rfl, ?_⟩
    rw [nfshf, pl_form hp]
    obtain ⟨h0, h1, h2, h3⟩ := hp
    simp only at h0 h1 h2 h3
    rw [shf_id h0 h1 hu, shf_id h0 h2 hv, shf_id h0 h3 hw]
    rw [right_iff.2 h0]
    exact ⟨fun k => (by cases k), fun _ => ⟨⟨rfl, rfl⟩, rfl, rfl⟩⟩
  · exact (gives_fail hg).elim
end Go.AM

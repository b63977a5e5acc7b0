import Derived.Test.YthjbfklheepfpaaGreatDoorPM3
import Derived.Test.YthjbfklheepfpaaGreatDoorMA7
set_option linter.unusedVariables false
set_option linter.unusedSimpArgs false
set_option maxHeartbeats 4000000
open Go Go.AM Go.Proofs
namespace Go.AM
open Dist
def MD (o : OnB) : Sums := ((((((((((MB o).add 32 qShG).add 34 qAddG).add 24 qMadeG).add 50 qMatG).add 25 qmulG).add 26 qFrmG).add 27 qVapG).add 30 qVin).add 5 qPlc).add 28 qShf |>.add 33 qVor
theorem pMD (o : OnB) : OkS P (MD o) := ((((((((((pMB o).add1 fine pO1 hShG).add1 fine pO2 hAddG).add1 fine pO3 hMadeG).add1 fine pO4 hMatG).add1 fine pO4 hmulG).add1 fine pG2z hFrmG).add1 fine (pMB stdOn) hVapG).add1 fine (pMB stdOn) hVin).add1 fine pG2z hPlc).add1 fine (pMB stdOn) hShf |>.addL fine hVor
end Go.AM
open Go Go.AM Go.Proofs
namespace Go.AM
open Dist
set_option maxRecDepth 100000
theorem nfoap (u : Mp) (p : Pl3) (K : KV) : call P (MD pruneOn) noAnn 10000 Tryz.f8 [.v (.agg (mpS u)), .v (.agg (plS p))] [] K = (onB (decide (u.x<0)) (((p.m=24\/p.m=48\/p.m=96\/p.m=192)/\((0:Int)<=p.x/\p.x<p.m)/\((0:Int)<=p.y/\p.y<p.m)/\(0:Int)<=p.z/\p.z<p.m)/\K (.tup [.agg [.con .i64 (0:Int),.con .i64 (0:Int),.con .i64 (0:Int),.con .i64 0],.one (.con .i64 (Int.ofNat 3))]) []) (onB (decide ((24:Int)<=u.x)) (((p.m=24\/p.m=48\/p.m=96\/p.m=192)/\((0:Int)<=p.x/\p.x<p.m)/\((0:Int)<=p.y/\p.y<p.m)/\(0:Int)<=p.z/\p.z<p.m)/\K (.tup [.agg [.con .i64 (0:Int),.con .i64 (0:Int),.con .i64 (0:Int),.con .i64 0],.one (.con .i64 (Int.ofNat 3))]) []) (onB (decide (u.y<0)) (((p.m=24\/p.m=48\/p.m=96\/p.m=192)/\((0:Int)<=p.x/\p.x<p.m)/\((0:Int)<=p.y/\p.y<p.m)/\(0:Int)<=p.z/\p.z<p.m)/\K (.tup [.agg [.con .i64 (0:Int),.con .i64 (0:Int),.con .i64 (0:Int),.con .i64 0],.one (.con .i64 (Int.ofNat 3))]) []) (onB (decide ((24:Int)<=u.y)) (((p.m=24\/p.m=48\/p.m=96\/p.m=192)/\((0:Int)<=p.x/\p.x<p.m)/\((0:Int)<=p.y/\p.y<p.m)/\(0:Int)<=p.z/\p.z<p.m)/\K (.tup [.agg [.con .i64 (0:Int),.con .i64 (0:Int),.con .i64 (0:Int),.con .i64 0],.one (.con .i64 (Int.ofNat 3))]) []) (onB (decide (u.z<0)) (((p.m=24\/p.m=48\/p.m=96\/p.m=192)/\((0:Int)<=p.x/\p.x<p.m)/\((0:Int)<=p.y/\p.y<p.m)/\(0:Int)<=p.z/\p.z<p.m)/\K (.tup [.agg [.con .i64 (0:Int),.con .i64 (0:Int),.con .i64 (0:Int),.con .i64 0],.one (.con .i64 (Int.ofNat 3))]) []) (onB (decide ((24:Int)<=u.z)) (((p.m=24\/p.m=48\/p.m=96\/p.m=192)/\((0:Int)<=p.x/\p.x<p.m)/\((0:Int)<=p.y/\p.y<p.m)/\(0:Int)<=p.z/\p.z<p.m)/\K (.tup [.agg [.con .i64 (0:Int),.con .i64 (0:Int),.con .i64 (0:Int),.con .i64 0],.one (.con .i64 (Int.ofNat 3))]) []) ((low9 u.r=true/\(mDet u.r=1\/mDet u.r=(-1:Int)))/\((p.m=24\/p.m=48\/p.m=96\/p.m=192)/\((0:Int)<=p.x/\p.x<p.m)/\((0:Int)<=p.y/\p.y<p.m)/\(0:Int)<=p.z/\p.z<p.m)/\((low9 u.r=true/\(mDet u.r=1\/mDet u.r=(-1:Int)))/\((0:Int)<=p.x/\p.x<192)/\((0:Int)<=p.y/\p.y<192)/\(0:Int)<=p.z/\p.z<192)/\((p.m=24\/p.m=48\/p.m=96\/p.m=192)/\((-1000000:Int)<=lin u.r.a u.r.b u.r.c p.x p.y p.z/\lin u.r.a u.r.b u.r.c p.x p.y p.z<=1000000)/\((-1000000:Int)<=lin u.r.d u.r.e u.r.f p.x p.y p.z/\lin u.r.d u.r.e u.r.f p.x p.y p.z<=1000000)/\(-1000000:Int)<=lin u.r.g u.r.h u.r.i p.x p.y p.z/\lin u.r.g u.r.h u.r.i p.x p.y p.z<=1000000)/\(((p.m=24\/p.m=48\/p.m=96\/p.m=192)/\((0:Int)<=((lin u.r.a u.r.b u.r.c p.x p.y p.z%p.m))/\((lin u.r.a u.r.b u.r.c p.x p.y p.z%p.m))<p.m)/\((0:Int)<=((lin u.r.d u.r.e u.r.f p.x p.y p.z%p.m))/\((lin u.r.d u.r.e u.r.f p.x p.y p.z%p.m))<p.m)/\(0:Int)<=((lin u.r.g u.r.h u.r.i p.x p.y p.z%p.m))/\((lin u.r.g u.r.h u.r.i p.x p.y p.z%p.m))<p.m)/\((0:Int)<=u.x/\u.x<24)/\((0:Int)<=u.y/\u.y<24)/\(0:Int)<=u.z/\u.z<24)/\K (.tup [.agg [.sym .i64 p.m,.sym .i64 (((lin u.r.a u.r.b u.r.c p.x p.y p.z%p.m)+u.x*(p.m / (24:Int)))%p.m),.sym .i64 (((lin u.r.d u.r.e u.r.f p.x p.y p.z%p.m)+u.y*(p.m / (24:Int)))%p.m),.sym .i64 (((lin u.r.g u.r.h u.r.i p.x p.y p.z%p.m)+u.z*(p.m / (24:Int)))%p.m)],.one (.con .i64 0)]) []))))))) := by kernel_rfl
theorem nfoin (u : Mp) (K : KV) : call P (MD pruneOn) noAnn 10000 Tryz.f11 [.v (.agg (mpS u))] [] K = (onB (decide (u.x<0)) (K (.tup [.agg [.con .i64 (0:Int),.con .i64 (0:Int),.con .i64 (0:Int),.con .i64 (0:Int),.con .i64 (0:Int),.con .i64 (0:Int),.con .i64 (0:Int),.con .i64 (0:Int),.con .i64 (0:Int),.con .i64 (0:Int),.con .i64 (0:Int),.con .i64 0],.one (.con .i64 (Int.ofNat 3))]) []) (onB (decide ((24:Int)<=u.x)) (K (.tup [.agg [.con .i64 (0:Int),.con .i64 (0:Int),.con .i64 (0:Int),.con .i64 (0:Int),.con .i64 (0:Int),.con .i64 (0:Int),.con .i64 (0:Int),.con .i64 (0:Int),.con .i64 (0:Int),.con .i64 (0:Int),.con .i64 (0:Int),.con .i64 0],.one (.con .i64 (Int.ofNat 3))]) []) (onB (decide (u.y<0)) (K (.tup [.agg [.con .i64 (0:Int),.con .i64 (0:Int),.con .i64 (0:Int),.con .i64 (0:Int),.con .i64 (0:Int),.con .i64 (0:Int),.con .i64 (0:Int),.con .i64 (0:Int),.con .i64 (0:Int),.con .i64 (0:Int),.con .i64 (0:Int),.con .i64 0],.one (.con .i64 (Int.ofNat 3))]) []) (onB (decide ((24:Int)<=u.y)) (K (.tup [.agg [.con .i64 (0:Int),.con .i64 (0:Int),.con .i64 (0:Int),.con .i64 (0:Int),.con .i64 (0:Int),.con .i64 (0:Int),.con .i64 (0:Int),.con .i64 (0:Int),.con .i64 (0:Int),.con .i64 (0:Int),.con .i64 (0:Int),.con .i64 0],.one (.con .i64 (Int.ofNat 3))]) []) (onB (decide (u.z<0)) (K (.tup [.agg [.con .i64 (0:Int),.con .i64 (0:Int),.con .i64 (0:Int),.con .i64 (0:Int),.con .i64 (0:Int),.con .i64 (0:Int),.con .i64 (0:Int),.con .i64 (0:Int),.con .i64 (0:Int),.con .i64 (0:Int),.con .i64 (0:Int),.con .i64 0],.one (.con .i64 (Int.ofNat 3))]) []) (onB (decide ((24:Int)<=u.z)) (K (.tup [.agg [.con .i64 (0:Int),.con .i64 (0:Int),.con .i64 (0:Int),.con .i64 (0:Int),.con .i64 (0:Int),.con .i64 (0:Int),.con .i64 (0:Int),.con .i64 (0:Int),.con .i64 (0:Int),.con .i64 (0:Int),.con .i64 (0:Int),.con .i64 0],.one (.con .i64 (Int.ofNat 3))]) []) ((low9 u.r=true/\(mDet u.r=1\/mDet u.r=(-1:Int)))/\(low9 u.r=true/\(mDet u.r=1\/mDet u.r=(-1:Int)))/\(low9 (mInv u.r)=true/\((0:Int)<=u.x/\u.x<24)/\((0:Int)<=u.y/\u.y<24)/\(0:Int)<=u.z/\u.z<24)/\(((0:Int)<=lin (mInv u.r).a (mInv u.r).b (mInv u.r).c u.x u.y u.z%24/\lin (mInv u.r).a (mInv u.r).b (mInv u.r).c u.x u.y u.z%24<24)/\((0:Int)<=lin (mInv u.r).d (mInv u.r).e (mInv u.r).f u.x u.y u.z%24/\lin (mInv u.r).d (mInv u.r).e (mInv u.r).f u.x u.y u.z%24<24)/\(0:Int)<=lin (mInv u.r).g (mInv u.r).h (mInv u.r).i u.x u.y u.z%24/\lin (mInv u.r).g (mInv u.r).h (mInv u.r).i u.x u.y u.z%24<24)/\(low9 (mInv u.r)=true/\(mDet (mInv u.r)=1\/mDet (mInv u.r)=(-1:Int)))/\K (.tup [.agg [.sym .i64 ((mInv u.r)).a,.sym .i64 ((mInv u.r)).b,.sym .i64 ((mInv u.r)).c,.sym .i64 ((mInv u.r)).d,.sym .i64 ((mInv u.r)).e,.sym .i64 ((mInv u.r)).f,.sym .i64 ((mInv u.r)).g,.sym .i64 ((mInv u.r)).h,.sym .i64 ((mInv u.r)).i,.sym .i64 (-(lin (mInv u.r).a (mInv u.r).b (mInv u.r).c u.x u.y u.z%24)%24),.sym .i64 (-(lin (mInv u.r).d (mInv u.r).e (mInv u.r).f u.x u.y u.z%24)%24),.sym .i64 (-(lin (mInv u.r).g (mInv u.r).h (mInv u.r).i u.x u.y u.z%24)%24)],.one (.con .i64 0)]) []))))))) := by kernel_rfl
theorem nfoor (u : Mp) (K : KV) : call P (MD pruneOn) (annOo u) 10000 Tryz.f12 [.v (.agg (mpS u))] [] K = (onB (decide (u.x<0)) (K (.tup [.one (.con .i64 0),.one (.con .i64 (Int.ofNat 3))]) []) (onB (decide ((24:Int)<=u.x)) (K (.tup [.one (.con .i64 0),.one (.con .i64 (Int.ofNat 3))]) []) (onB (decide (u.y<0)) (K (.tup [.one (.con .i64 0),.one (.con .i64 (Int.ofNat 3))]) []) (onB (decide ((24:Int)<=u.y)) (K (.tup [.one (.con .i64 0),.one (.con .i64 (Int.ofNat 3))]) []) (onB (decide (u.z<0)) (K (.tup [.one (.con .i64 0),.one (.con .i64 (Int.ofNat 3))]) []) (onB (decide ((24:Int)<=u.z)) (K (.tup [.one (.con .i64 0),.one (.con .i64 (Int.ofNat 3))]) []) ((low9 u.r=true/\(mDet u.r=1\/mDet u.r=(-1:Int)))/\(u.r ∈ G24\/u.r ∈ G48)/\(∃ (z : { j:Nat//j<=ordM u.r }),((↑(ordM u.r):Int)=(↑(ordM u.r):Int)/\(↑(ordM u.r):Int)=(↑(ordM u.r):Int)/\(↑z.val:Int)=0/\True)/\(u.r.a=u.r.a/\u.r.b=u.r.b/\u.r.c=u.r.c/\u.r.d=u.r.d/\u.r.e=u.r.e/\u.r.f=u.r.f/\u.r.g=u.r.g/\u.r.h=u.r.h/\u.r.i=u.r.i/\u.x=u.x/\u.y=u.y/\u.z=u.z/\True)/\True/\((mpPow u z.val).x=0/\(mpPow u z.val).y=0/\(mpPow u z.val).z=0/\True)/\True)/\∀ (x : { j:Nat//j<=ordM u.r }),onB (decide ((↑x.val:Int)<(↑(ordM u.r):Int))) ((low9 u.r=true/\((0:Int)<=(mpPow u x.val).x/\(mpPow u x.val).x<24)/\((0:Int)<=(mpPow u x.val).y/\(mpPow u x.val).y<24)/\(0:Int)<=(mpPow u x.val).z/\(mpPow u x.val).z<24)/\((((0:Int)<=lin u.r.a u.r.b u.r.c (mpPow u x.val).x (mpPow u x.val).y (mpPow u x.val).z%24/\lin u.r.a u.r.b u.r.c (mpPow u x.val).x (mpPow u x.val).y (mpPow u x.val).z%24<24)/\((0:Int)<=lin u.r.d u.r.e u.r.f (mpPow u x.val).x (mpPow u x.val).y (mpPow u x.val).z%24/\lin u.r.d u.r.e u.r.f (mpPow u x.val).x (mpPow u x.val).y (mpPow u x.val).z%24<24)/\(0:Int)<=lin u.r.g u.r.h u.r.i (mpPow u x.val).x (mpPow u x.val).y (mpPow u x.val).z%24/\lin u.r.g u.r.h u.r.i (mpPow u x.val).x (mpPow u x.val).y (mpPow u x.val).z%24<24)/\((0:Int)<=u.x/\u.x<24)/\((0:Int)<=u.y/\u.y<24)/\(0:Int)<=u.z/\u.z<24)/\∃ (z : { j:Nat//j<=ordM u.r }),(ordM u.r-z.val).succ.le (ordM u.r-x.val)/\((↑(ordM u.r):Int)=(↑(ordM u.r):Int)/\(↑(ordM u.r):Int)=(↑(ordM u.r):Int)/\(↑z.val:Int)=IntKind.i64.wrap ((↑x.val:Int)+1)/\True)/\(u.r.a=u.r.a/\u.r.b=u.r.b/\u.r.c=u.r.c/\u.r.d=u.r.d/\u.r.e=u.r.e/\u.r.f=u.r.f/\u.r.g=u.r.g/\u.r.h=u.r.h/\u.r.i=u.r.i/\u.x=u.x/\u.y=u.y/\u.z=u.z/\True)/\True/\((mpPow u z.val).x=(lin u.r.a u.r.b u.r.c (mpPow u x.val).x (mpPow u x.val).y (mpPow u x.val).z%24+u.x)%24/\(mpPow u z.val).y=(lin u.r.d u.r.e u.r.f (mpPow u x.val).x (mpPow u x.val).y (mpPow u x.val).z%24+u.y)%24/\(mpPow u z.val).z=(lin u.r.g u.r.h u.r.i (mpPow u x.val).x (mpPow u x.val).y (mpPow u x.val).z%24+u.z)%24/\True)/\True) ((∃ (z : { j:Nat//1<=j/\j<=ordT u }),((↑(ordM u.r):Int)=(↑(ordM u.r):Int)/\(↑z.val:Int)=1/\True)/\True/\True/\((mpPow u x.val).x=(mpPow u x.val).x/\(mpPow u x.val).y=(mpPow u x.val).y/\(mpPow u x.val).z=(mpPow u x.val).z/\True)/\True)/\∀ (x_1 : { j:Nat//1<=j/\j<=ordT u }),(((0:Int)<=(↑x_1.val:Int)/\(↑x_1.val:Int)<=1000)/\((0:Int)<=(mpPow u x.val).x/\(mpPow u x.val).x<24)/\((0:Int)<=(mpPow u x.val).y/\(mpPow u x.val).y<24)/\(0:Int)<=(mpPow u x.val).z/\(mpPow u x.val).z<24)/\onB (!(decide ((↑x_1.val:Int)*(mpPow u x.val).x%24=0)&&(decide ((↑x_1.val:Int)*(mpPow u x.val).y%24=0)&&(decide ((↑x_1.val:Int)*(mpPow u x.val).z%24=0)&&true)))) (∃ (z : { j:Nat//1<=j/\j<=ordT u }),(ordT u-z.val).succ.le (ordT u-x_1.val)/\((↑(ordM u.r):Int)=(↑(ordM u.r):Int)/\(↑z.val:Int)=IntKind.i64.wrap ((↑x_1.val:Int)+1)/\True)/\True/\True/\((mpPow u x.val).x=(mpPow u x.val).x/\(mpPow u x.val).y=(mpPow u x.val).y/\(mpPow u x.val).z=(mpPow u x.val).z/\True)/\True) (K (.tup [.one (.sym .i64 (IntKind.i64.wrap ((↑(ordM u.r):Int)*(↑x_1.val:Int)))),.one (.con .i64 0)]) []))))))))) := by kernel_rfl
theorem nfsed (h : Bool) (k u v w s : Int) (K : KV) : call P (MD pruneOn) (annSd h k u v w s) 10000 Tryz.f4 [.v (.agg [.sb h, .sym .u8 k, .sym .u8 u, .sym .u8 v, .sym .u8 w, .sym .u8 s])] [] K = (((0:Int)<=k/\k<=255)/\onB h (((0:Int)<=k/\k<=255)/\∃ (z:Unit),True/\(h=h/\k=k/\u=u/\v=v/\w=w/\s=s/\True)/\True/\((sdM h k).a=(sxM k).a/\(sdM h k).b=(sxM k).b/\(sdM h k).c=(sxM k).c/\(sdM h k).d=(sxM k).d/\(sdM h k).e=(sxM k).e/\(sdM h k).f=(sxM k).f/\(sdM h k).g=(sxM k).g/\(sdM h k).h=(sxM k).h/\(sdM h k).i=(sxM k).i/\True)/\True) (∃ (z:Unit),True/\(h=h/\k=k/\u=u/\v=v/\w=w/\s=s/\True)/\True/\((sdM h k).a=(sgM k).a/\(sdM h k).b=(sgM k).b/\(sdM h k).c=(sgM k).c/\(sdM h k).d=(sgM k).d/\(sdM h k).e=(sgM k).e/\(sdM h k).f=(sgM k).f/\(sdM h k).g=(sgM k).g/\(sdM h k).h=(sgM k).h/\(sdM h k).i=(sgM k).i/\True)/\True)/\∀ (x:Unit),(((0:Int)<=s.tmod (6:Int)/\s.tmod (6:Int)<(↑(6:Nat):Int))/\(((((True/\(s.tmod (6:Int)=(↑0:Int)->∃ (z:Unit),True/\(h=h/\k=k/\u=u/\v=v/\w=w/\s=s/\True)/\True/\((sdM h k).a=(sdM h k).a/\(sdM h k).b=(sdM h k).b/\(sdM h k).c=(sdM h k).c/\(sdM h k).d=(sdM h k).d/\(sdM h k).e=(sdM h k).e/\(sdM h k).f=(sdM h k).f/\(sdM h k).g=(sdM h k).g/\(sdM h k).h=(sdM h k).h/\(sdM h k).i=(sdM h k).i/\True)/\True/\(tAt u v w s ((0:Int)).toNat=(IntKind.i64.wrap (IntKind.i64.wrap u*Int.ofNat 12)).tmod (24:Int)/\True)/\True))/\(s.tmod (6:Int)=(↑(nat_lit 1):Int)->∃ (z:Unit),True/\(h=h/\k=k/\u=u/\v=v/\w=w/\s=s/\True)/\True/\((sdM h k).a=(sdM h k).a/\(sdM h k).b=(sdM h k).b/\(sdM h k).c=(sdM h k).c/\(sdM h k).d=(sdM h k).d/\(sdM h k).e=(sdM h k).e/\(sdM h k).f=(sdM h k).f/\(sdM h k).g=(sdM h k).g/\(sdM h k).h=(sdM h k).h/\(sdM h k).i=(sdM h k).i/\True)/\True/\(tAt u v w s ((0:Int)).toNat=(IntKind.i64.wrap (IntKind.i64.wrap u*Int.ofNat 12)).tmod (24:Int)/\True)/\True))/\(s.tmod (6:Int)=(↑(nat_lit 2):Int)->∃ (z:Unit),True/\(h=h/\k=k/\u=u/\v=v/\w=w/\s=s/\True)/\True/\((sdM h k).a=(sdM h k).a/\(sdM h k).b=(sdM h k).b/\(sdM h k).c=(sdM h k).c/\(sdM h k).d=(sdM h k).d/\(sdM h k).e=(sdM h k).e/\(sdM h k).f=(sdM h k).f/\(sdM h k).g=(sdM h k).g/\(sdM h k).h=(sdM h k).h/\(sdM h k).i=(sdM h k).i/\True)/\True/\(tAt u v w s ((0:Int)).toNat=(IntKind.i64.wrap (IntKind.i64.wrap u*Int.ofNat 8)).tmod (24:Int)/\True)/\True))/\(s.tmod (6:Int)=(↑(nat_lit 3):Int)->∃ (z:Unit),True/\(h=h/\k=k/\u=u/\v=v/\w=w/\s=s/\True)/\True/\((sdM h k).a=(sdM h k).a/\(sdM h k).b=(sdM h k).b/\(sdM h k).c=(sdM h k).c/\(sdM h k).d=(sdM h k).d/\(sdM h k).e=(sdM h k).e/\(sdM h k).f=(sdM h k).f/\(sdM h k).g=(sdM h k).g/\(sdM h k).h=(sdM h k).h/\(sdM h k).i=(sdM h k).i/\True)/\True/\(tAt u v w s ((0:Int)).toNat=(IntKind.i64.wrap (IntKind.i64.wrap u*Int.ofNat 6)).tmod (24:Int)/\True)/\True))/\(s.tmod (6:Int)=(↑(nat_lit 4):Int)->∃ (z:Unit),True/\(h=h/\k=k/\u=u/\v=v/\w=w/\s=s/\True)/\True/\((sdM h k).a=(sdM h k).a/\(sdM h k).b=(sdM h k).b/\(sdM h k).c=(sdM h k).c/\(sdM h k).d=(sdM h k).d/\(sdM h k).e=(sdM h k).e/\(sdM h k).f=(sdM h k).f/\(sdM h k).g=(sdM h k).g/\(sdM h k).h=(sdM h k).h/\(sdM h k).i=(sdM h k).i/\True)/\True/\(tAt u v w s ((0:Int)).toNat=(IntKind.i64.wrap (IntKind.i64.wrap u*Int.ofNat 4)).tmod (24:Int)/\True)/\True))/\(s.tmod (6:Int)=(↑(nat_lit 5):Int)->∃ (z:Unit),True/\(h=h/\k=k/\u=u/\v=v/\w=w/\s=s/\True)/\True/\((sdM h k).a=(sdM h k).a/\(sdM h k).b=(sdM h k).b/\(sdM h k).c=(sdM h k).c/\(sdM h k).d=(sdM h k).d/\(sdM h k).e=(sdM h k).e/\(sdM h k).f=(sdM h k).f/\(sdM h k).g=(sdM h k).g/\(sdM h k).h=(sdM h k).h/\(sdM h k).i=(sdM h k).i/\True)/\True/\(tAt u v w s ((0:Int)).toNat=(IntKind.i64.wrap (IntKind.i64.wrap u*1)).tmod (24:Int)/\True)/\True))/\∀ (x:Unit),(((0:Int)<=s.tmod (6:Int)/\s.tmod (6:Int)<(↑(6:Nat):Int))/\(((((True/\(s.tmod (6:Int)=(↑0:Int)->∃ (z:Unit),True/\(h=h/\k=k/\u=u/\v=v/\w=w/\s=s/\True)/\True/\((sdM h k).a=(sdM h k).a/\(sdM h k).b=(sdM h k).b/\(sdM h k).c=(sdM h k).c/\(sdM h k).d=(sdM h k).d/\(sdM h k).e=(sdM h k).e/\(sdM h k).f=(sdM h k).f/\(sdM h k).g=(sdM h k).g/\(sdM h k).h=(sdM h k).h/\(sdM h k).i=(sdM h k).i/\True)/\True/\(tAt u v w s ((0:Int)).toNat=tAt u v w s ((0:Int)).toNat/\tAt u v w s ((1:Int)).toNat=(IntKind.i64.wrap (IntKind.i64.wrap v*Int.ofNat 12)).tmod (24:Int)/\True)/\True))/\(s.tmod (6:Int)=(↑(nat_lit 1):Int)->∃ (z:Unit),True/\(h=h/\k=k/\u=u/\v=v/\w=w/\s=s/\True)/\True/\((sdM h k).a=(sdM h k).a/\(sdM h k).b=(sdM h k).b/\(sdM h k).c=(sdM h k).c/\(sdM h k).d=(sdM h k).d/\(sdM h k).e=(sdM h k).e/\(sdM h k).f=(sdM h k).f/\(sdM h k).g=(sdM h k).g/\(sdM h k).h=(sdM h k).h/\(sdM h k).i=(sdM h k).i/\True)/\True/\(tAt u v w s ((0:Int)).toNat=tAt u v w s ((0:Int)).toNat/\tAt u v w s ((1:Int)).toNat=(IntKind.i64.wrap (IntKind.i64.wrap v*Int.ofNat 12)).tmod (24:Int)/\True)/\True))/\(s.tmod (6:Int)=(↑(nat_lit 2):Int)->∃ (z:Unit),True/\(h=h/\k=k/\u=u/\v=v/\w=w/\s=s/\True)/\True/\((sdM h k).a=(sdM h k).a/\(sdM h k).b=(sdM h k).b/\(sdM h k).c=(sdM h k).c/\(sdM h k).d=(sdM h k).d/\(sdM h k).e=(sdM h k).e/\(sdM h k).f=(sdM h k).f/\(sdM h k).g=(sdM h k).g/\(sdM h k).h=(sdM h k).h/\(sdM h k).i=(sdM h k).i/\True)/\True/\(tAt u v w s ((0:Int)).toNat=tAt u v w s ((0:Int)).toNat/\tAt u v w s ((1:Int)).toNat=(IntKind.i64.wrap (IntKind.i64.wrap v*Int.ofNat 8)).tmod (24:Int)/\True)/\True))/\(s.tmod (6:Int)=(↑(nat_lit 3):Int)->∃ (z:Unit),True/\(h=h/\k=k/\u=u/\v=v/\w=w/\s=s/\True)/\True/\((sdM h k).a=(sdM h k).a/\(sdM h k).b=(sdM h k).b/\(sdM h k).c=(sdM h k).c/\(sdM h k).d=(sdM h k).d/\(sdM h k).e=(sdM h k).e/\(sdM h k).f=(sdM h k).f/\(sdM h k).g=(sdM h k).g/\(sdM h k).h=(sdM h k).h/\(sdM h k).i=(sdM h k).i/\True)/\True/\(tAt u v w s ((0:Int)).toNat=tAt u v w s ((0:Int)).toNat/\tAt u v w s ((1:Int)).toNat=(IntKind.i64.wrap (IntKind.i64.wrap v*Int.ofNat 6)).tmod (24:Int)/\True)/\True))/\(s.tmod (6:Int)=(↑(nat_lit 4):Int)->∃ (z:Unit),True/\(h=h/\k=k/\u=u/\v=v/\w=w/\s=s/\True)/\True/\((sdM h k).a=(sdM h k).a/\(sdM h k).b=(sdM h k).b/\(sdM h k).c=(sdM h k).c/\(sdM h k).d=(sdM h k).d/\(sdM h k).e=(sdM h k).e/\(sdM h k).f=(sdM h k).f/\(sdM h k).g=(sdM h k).g/\(sdM h k).h=(sdM h k).h/\(sdM h k).i=(sdM h k).i/\True)/\True/\(tAt u v w s ((0:Int)).toNat=tAt u v w s ((0:Int)).toNat/\tAt u v w s ((1:Int)).toNat=(IntKind.i64.wrap (IntKind.i64.wrap v*Int.ofNat 4)).tmod (24:Int)/\True)/\True))/\(s.tmod (6:Int)=(↑(nat_lit 5):Int)->∃ (z:Unit),True/\(h=h/\k=k/\u=u/\v=v/\w=w/\s=s/\True)/\True/\((sdM h k).a=(sdM h k).a/\(sdM h k).b=(sdM h k).b/\(sdM h k).c=(sdM h k).c/\(sdM h k).d=(sdM h k).d/\(sdM h k).e=(sdM h k).e/\(sdM h k).f=(sdM h k).f/\(sdM h k).g=(sdM h k).g/\(sdM h k).h=(sdM h k).h/\(sdM h k).i=(sdM h k).i/\True)/\True/\(tAt u v w s ((0:Int)).toNat=tAt u v w s ((0:Int)).toNat/\tAt u v w s ((1:Int)).toNat=(IntKind.i64.wrap (IntKind.i64.wrap v*1)).tmod (24:Int)/\True)/\True))/\∀ (x:Unit),(((0:Int)<=s.tmod (6:Int)/\s.tmod (6:Int)<(↑(6:Nat):Int))/\(((((True/\(s.tmod (6:Int)=(↑0:Int)->∃ (z:Unit),True/\(h=h/\k=k/\u=u/\v=v/\w=w/\s=s/\True)/\True/\((sdM h k).a=(sdM h k).a/\(sdM h k).b=(sdM h k).b/\(sdM h k).c=(sdM h k).c/\(sdM h k).d=(sdM h k).d/\(sdM h k).e=(sdM h k).e/\(sdM h k).f=(sdM h k).f/\(sdM h k).g=(sdM h k).g/\(sdM h k).h=(sdM h k).h/\(sdM h k).i=(sdM h k).i/\True)/\True/\(tAt u v w s ((0:Int)).toNat=tAt u v w s ((0:Int)).toNat/\tAt u v w s ((1:Int)).toNat=tAt u v w s ((1:Int)).toNat/\tAt u v w s (Int.ofNat 2).toNat=(IntKind.i64.wrap (IntKind.i64.wrap w*Int.ofNat 12)).tmod (24:Int)/\True)/\True))/\(s.tmod (6:Int)=(↑(nat_lit 1):Int)->∃ (z:Unit),True/\(h=h/\k=k/\u=u/\v=v/\w=w/\s=s/\True)/\True/\((sdM h k).a=(sdM h k).a/\(sdM h k).b=(sdM h k).b/\(sdM h k).c=(sdM h k).c/\(sdM h k).d=(sdM h k).d/\(sdM h k).e=(sdM h k).e/\(sdM h k).f=(sdM h k).f/\(sdM h k).g=(sdM h k).g/\(sdM h k).h=(sdM h k).h/\(sdM h k).i=(sdM h k).i/\True)/\True/\(tAt u v w s ((0:Int)).toNat=tAt u v w s ((0:Int)).toNat/\tAt u v w s ((1:Int)).toNat=tAt u v w s ((1:Int)).toNat/\tAt u v w s (Int.ofNat 2).toNat=(IntKind.i64.wrap (IntKind.i64.wrap w*Int.ofNat 12)).tmod (24:Int)/\True)/\True))/\(s.tmod (6:Int)=(↑(nat_lit 2):Int)->∃ (z:Unit),True/\(h=h/\k=k/\u=u/\v=v/\w=w/\s=s/\True)/\True/\((sdM h k).a=(sdM h k).a/\(sdM h k).b=(sdM h k).b/\(sdM h k).c=(sdM h k).c/\(sdM h k).d=(sdM h k).d/\(sdM h k).e=(sdM h k).e/\(sdM h k).f=(sdM h k).f/\(sdM h k).g=(sdM h k).g/\(sdM h k).h=(sdM h k).h/\(sdM h k).i=(sdM h k).i/\True)/\True/\(tAt u v w s ((0:Int)).toNat=tAt u v w s ((0:Int)).toNat/\tAt u v w s ((1:Int)).toNat=tAt u v w s ((1:Int)).toNat/\tAt u v w s (Int.ofNat 2).toNat=(IntKind.i64.wrap (IntKind.i64.wrap w*Int.ofNat 8)).tmod (24:Int)/\True)/\True))/\(s.tmod (6:Int)=(↑(nat_lit 3):Int)->∃ (z:Unit),True/\(h=h/\k=k/\u=u/\v=v/\w=w/\s=s/\True)/\True/\((sdM h k).a=(sdM h k).a/\(sdM h k).b=(sdM h k).b/\(sdM h k).c=(sdM h k).c/\(sdM h k).d=(sdM h k).d/\(sdM h k).e=(sdM h k).e/\(sdM h k).f=(sdM h k).f/\(sdM h k).g=(sdM h k).g/\(sdM h k).h=(sdM h k).h/\(sdM h k).i=(sdM h k).i/\True)/\True/\(tAt u v w s ((0:Int)).toNat=tAt u v w s ((0:Int)).toNat/\tAt u v w s ((1:Int)).toNat=tAt u v w s ((1:Int)).toNat/\tAt u v w s (Int.ofNat 2).toNat=(IntKind.i64.wrap (IntKind.i64.wrap w*Int.ofNat 6)).tmod (24:Int)/\True)/\True))/\(s.tmod (6:Int)=(↑(nat_lit 4):Int)->∃ (z:Unit),True/\(h=h/\k=k/\u=u/\v=v/\w=w/\s=s/\True)/\True/\((sdM h k).a=(sdM h k).a/\(sdM h k).b=(sdM h k).b/\(sdM h k).c=(sdM h k).c/\(sdM h k).d=(sdM h k).d/\(sdM h k).e=(sdM h k).e/\(sdM h k).f=(sdM h k).f/\(sdM h k).g=(sdM h k).g/\(sdM h k).h=(sdM h k).h/\(sdM h k).i=(sdM h k).i/\True)/\True/\(tAt u v w s ((0:Int)).toNat=tAt u v w s ((0:Int)).toNat/\tAt u v w s ((1:Int)).toNat=tAt u v w s ((1:Int)).toNat/\tAt u v w s (Int.ofNat 2).toNat=(IntKind.i64.wrap (IntKind.i64.wrap w*Int.ofNat 4)).tmod (24:Int)/\True)/\True))/\(s.tmod (6:Int)=(↑(nat_lit 5):Int)->∃ (z:Unit),True/\(h=h/\k=k/\u=u/\v=v/\w=w/\s=s/\True)/\True/\((sdM h k).a=(sdM h k).a/\(sdM h k).b=(sdM h k).b/\(sdM h k).c=(sdM h k).c/\(sdM h k).d=(sdM h k).d/\(sdM h k).e=(sdM h k).e/\(sdM h k).f=(sdM h k).f/\(sdM h k).g=(sdM h k).g/\(sdM h k).h=(sdM h k).h/\(sdM h k).i=(sdM h k).i/\True)/\True/\(tAt u v w s ((0:Int)).toNat=tAt u v w s ((0:Int)).toNat/\tAt u v w s ((1:Int)).toNat=tAt u v w s ((1:Int)).toNat/\tAt u v w s (Int.ofNat 2).toNat=(IntKind.i64.wrap (IntKind.i64.wrap w*1)).tmod (24:Int)/\True)/\True))/\∀ (x:Unit),K (.v (.agg [.sym .i64 (sdM h k).a,.sym .i64 (sdM h k).b,.sym .i64 (sdM h k).c,.sym .i64 (sdM h k).d,.sym .i64 (sdM h k).e,.sym .i64 (sdM h k).f,.sym .i64 (sdM h k).g,.sym .i64 (sdM h k).h,.sym .i64 (sdM h k).i,.sym .i64 (tAt u v w s ((0:Int)).toNat),.sym .i64 (tAt u v w s ((1:Int)).toNat),.sym .i64 (tAt u v w s (Int.ofNat 2).toNat)])) []) := by kernel_rfl
end Go.AM
open Go Go.AM Go.Proofs
namespace Go.AM
open Dist
set_option maxRecDepth 100000
structure LawC (p : Prop) : Prop where
  out : p
theorem holdsB {S : Sums} {f : Nat} {q : PSpec} {fn : Func} (n : Nat) (hf : P.funcs[f]? = some fn) (hb : fn.body.isSome = true) (h : ∀ args av, (q args).gives av → noPtrs args = true ∧ ∃ v A, A.q = 0 ∧ av.valOf = some v ∧ LawC (call P S A n fn args [] (fun v' h => v'.valOf = some v ∧ h = []))) : Holds P S f q := by
  refine ⟨fn, hf, hb, fun args av hg => ?_⟩
  obtain ⟨h1, v, A, h2, h3, h4⟩ := h args av hg
  exact ⟨h1, v, n, A, h2, h3, h4.out⟩
theorem onD {p : Prop} [Decidable p] {A B : Prop} (h : ¬ p) (k : B) : onB (decide p) A B := by rw [decide_eq_false h]; exact k
theorem six_in {u : Mp} (h : in24 u) {A1 A2 A3 A4 A5 A6 B : Prop} (k : B) : onB (decide (u.x < (0 : Int))) A1 (onB (decide ((24 : Int) ≤ u.x)) A2 (onB (decide (u.y < (0 : Int))) A3 (onB (decide ((24 : Int) ≤ u.y)) A4 (onB (decide (u.z < (0 : Int))) A5 (onB (decide ((24 : Int) ≤ u.z)) A6 B))))) := by
  obtain ⟨⟨h1, h2⟩, ⟨h3, h4⟩, ⟨h5, h7⟩⟩ := h
  exact onD (by omega) (onD (by omega) (onD (by omega) (onD (by omega) (onD (by omega) (onD (by omega) k)))))
theorem lin_near {a b c x y z : Int} (ha : -1 ≤ a ∧ a ≤ 1) (hb : -1 ≤ b ∧ b ≤ 1) (hc : -1 ≤ c ∧ c ≤ 1) (hx : lowX x) (hy : lowX y) (hz : lowX z) : -1000000 ≤ lin a b c x y z ∧ lin a b c x y z ≤ 1000000 := by
  unfold lowX at hx hy hz
  have k1 := mul_bd (A := 1) (B := 192) (a := a) (b := x) (by omega) (by omega)
  have k2 := mul_bd (A := 1) (B := 192) (a := b) (b := y) (by omega) (by omega)
  have k3 := mul_bd (A := 1) (B := 192) (a := c) (b := z) (by omega) (by omega)
  unfold lin
  omega
theorem pl_low {p : Pl3} (h : plOk p) : lowX p.x ∧ lowX p.y ∧ lowX p.z := by
  obtain ⟨h0, h1, h2, h3⟩ := h
  unfold lowX
  omega
theorem app_run {u : Mp} {p : Pl3} (hu : okP u) (hp : plOk p) {v : Value} (hv : (AV.tup [.agg (plS (mpApp u p)), .one (.con .i64 0)]).valOf = some v) : LawC (call P (MD pruneOn) noAnn 10000 Tryz.f8 [.v (.agg (mpS u)), .v (.agg (plS p))] [] (fun v' h => v'.valOf = some v ∧ h = [])) := ⟨by
  rw [nfoap]
  refine six_in hu.2 ?_
  have hl := pl_low hp
  obtain ⟨l1, l2, l3, l4, l5, l7, l8, l9, lk⟩ := low9_iff.1 hu.1.1
  have hm : 0 < p.m := by have := hp.1; omega
  have hb : ∀ l : Int, 0 ≤ l % p.m ∧ l % p.m < p.m := fun l => ⟨Int.emod_nonneg _ (by omega), Int.emod_lt_of_pos _ hm⟩
  exact ⟨hu.1, hp, ⟨hu.1, hl⟩, ⟨hp.1, lin_near l1 l2 l3 hl.1 hl.2.1 hl.2.2, lin_near l4 l5 l7 hl.1 hl.2.1 hl.2.2, lin_near l8 l9 lk hl.1 hl.2.1 hl.2.2⟩, ⟨⟨hp.1, hb _, hb _, hb _⟩, hu.2⟩, hv, rfl⟩⟩
theorem neg_mod (l : Int) : -(l % 24) % 24 = (-l) % 24 := by omega
theorem in_mod (a b c : Int) : ((0 ≤ a % 24 ∧ a % 24 < 24) ∧ (0 ≤ b % 24 ∧ b % 24 < 24) ∧ 0 ≤ c % 24 ∧ c % 24 < 24) := by omega
theorem inv_run {u : Mp} (hu : okP u) (hi : okR (mInv u.r)) {v : Value} (hv : (AV.tup [.agg (mpS (mpInv u)), .one (.con .i64 0)]).valOf = some v) : LawC (call P (MD pruneOn) noAnn 10000 Tryz.f11 [.v (.agg (mpS u))] [] (fun v' h => v'.valOf = some v ∧ h = [])) := ⟨by
  rw [nfoin]
  refine six_in hu.2 ⟨hu.1, hu.1, ⟨hi.1, hu.2⟩, in_mod _ _ _, hi, ?_⟩
  rw [neg_mod, neg_mod, neg_mod]
  exact ⟨hv, rfl⟩⟩
theorem ordM_le (m : M9) : ordM m ≤ 6 := by
  unfold ordM
  repeat' split
  all_goals omega
theorem ord_run {hex : Bool} {u : Mp} (hu : mpOk hex u) {v : Value} (hv : (AV.tup [.one (.sym .i64 (mpOrd u)), .one (.con .i64 0)]).valOf = some v) : LawC (call P (MD pruneOn) (annOo u) 10000 Tryz.f12 [.v (.agg (mpS u))] [] (fun v' h => v'.valOf = some v ∧ h = [])) := ⟨by
  rw [nfoor]
  have hk := mp_okP hu
  have hm : u.r ∈ G24 ∨ u.r ∈ G48 := by
    have := hu.1
    cases hex with
    | true => exact .inl this
    | false => exact .inr this
  have o6 := ordM_le u.r
  refine six_in hu.2 ⟨hk.1, hm, ⟨⟨0, Nat.zero_le _⟩, ⟨rfl, rfl, rfl, trivial⟩, ⟨rfl, rfl, rfl, rfl, rfl, rfl, rfl, rfl, rfl, rfl, rfl, rfl, trivial⟩, trivial, ⟨rfl, rfl, rfl, trivial⟩, trivial⟩, fun x => onB_mk (fun hj => ?_) (fun hj => ?_)⟩
  · have hj : (x.1 : Int) < (ordM u.r : Int) := of_decide_eq_true hj
    refine ⟨⟨hk.1.1, pow_in u x.1⟩, ⟨in_mod _ _ _, hu.2⟩, ⟨x.1 + 1, by omega⟩, by show ordM u.r - (x.1 + 1) + 1 ≤ ordM u.r - x.1; omega, ⟨rfl, rfl, by rw [wr_id (by omega) (by omega)]; rfl, trivial⟩, ⟨rfl, rfl, rfl, rfl, rfl, rfl, rfl, rfl, rfl, rfl, rfl, rfl, trivial⟩, trivial, ?_, trivial⟩
    have e := pow_left hu.2 x.1
    have w : ∀ l t : Int, (l % 24 + t) % 24 = (l + t) % 24 := fun l t => by omega
    rw [w, w, w]
    show (mpPow u (x.1 + 1)).x = _ ∧ (mpPow u (x.1 + 1)).y = _ ∧ (mpPow u (x.1 + 1)).z = _ ∧ True
    rw [← e]
    exact ⟨rfl, rfl, rfl, trivial⟩
  · have hj : ¬ (x.1 : Int) < (ordM u.r : Int) := of_decide_eq_false hj
    have hx : x.1 = ordM u.r := by have := x.2; omega
    obtain ⟨t1, t2, t3, t4⟩ := least_at (mpPow u (ordM u.r)) 23 1 rfl (Nat.le_refl _)
    have ht : ordT u = leastT (mpPow u (ordM u.r)) 23 1 := rfl
    rw [← ht] at t1 t2 t3 t4
    refine ⟨⟨⟨1, Nat.le_refl _, t2⟩, ⟨rfl, rfl, trivial⟩, trivial, trivial, ⟨rfl, rfl, rfl, trivial⟩, trivial⟩, fun y => ⟨⟨by have := y.2; omega, pow_in u x.1⟩, onB_mk (fun hz => ?_) (fun hz => ?_)⟩⟩
    · have hn : y.1 ≠ ordT u := fun e => by
        rw [← hx] at t1
        rw [e, decide_eq_true t1.1, decide_eq_true t1.2.1, decide_eq_true t1.2.2] at hz
        cases hz
      have hy := y.2
      exact ⟨⟨y.1 + 1, by omega, by omega⟩, by show ordT u - (y.1 + 1) + 1 ≤ ordT u - y.1; omega, ⟨rfl, by rw [wr_id (by omega) (by omega)]; rfl, trivial⟩, trivial, trivial, ⟨rfl, rfl, rfl, trivial⟩, trivial⟩
    · have hy := y.2
      have hn : y.1 = ordT u := by
        rcases Nat.lt_or_ge y.1 (ordT u) with h | h
        · refine absurd ?_ (t4 y.1 hy.1 h)
          rw [← hx]
          simp only [Bool.not_eq_false', Bool.and_eq_true, decide_eq_true_eq, and_true] at hz
          exact hz
        · omega
      refine ⟨?_, rfl⟩
      have b : (ordM u.r : Int) * (y.1 : Int) = ((mpOrd u : Nat) : Int) := by
        rw [hn]
        unfold mpOrd
        rw [Int.natCast_mul]
      have k := mul_bd (A := 6) (B := 24) (a := (ordM u.r : Int)) (b := (y.1 : Int)) (by omega) (by omega)
      rw [b] at k ⊢
      rw [wr_id (by omega) (by omega)]
      exact hv⟩
def byt (x : Int) : Prop := 0 ≤ x ∧ x ≤ 255
theorem t_id {u s : Int} (hu : byt u) (hs : byt s) {j : Nat} {c : Int} (h : s.tmod 6 = (j : Int)) (hc : [12, 12, 8, 6, 4, 1].getD j 0 = c) (hb : 0 ≤ c ∧ c ≤ 12) : tOf u s = (IntKind.i64.wrap (IntKind.i64.wrap u * c)).tmod 24 := by
  unfold byt at hu hs
  rw [Int.tmod_eq_emod_of_nonneg hs.1] at h
  have k := mul_bd (A := 255) (B := 12) (a := u) (b := c) (by omega) (by omega)
  have k0 := Int.mul_nonneg hu.1 hb.1
  rw [wr_id (n := u) (by omega) (by omega), wr_id (by omega) (by omega), Int.tmod_eq_emod_of_nonneg k0]
  unfold tOf stp
  rw [h]
  show u * [12, 12, 8, 6, 4, 1].getD j 0 % 24 = _
  rw [hc]
def sdP (h : Bool) (k u v w s : Int) : Mp := ⟨sdM h k, tOf u s, tOf v s, tOf w s⟩
theorem seed_run {h : Bool} {k u v w s : Int} (hk : byt k) (hu : byt u) (hv : byt v) (hw : byt w) (hs : byt s) {r : Value} (hr : (AV.v (.agg (mpS (sdP h k u v w s)))).valOf = some r) : call P (MD pruneOn) (annSd h k u v w s) 10000 Tryz.f4 [.v (.agg [.sb h, .sym .u8 k, .sym .u8 u, .sym .u8 v, .sym .u8 w, .sym .u8 s])] [] (fun v' h => v'.valOf = some r ∧ h = []) := by
  rw [nfsed]
  have b6 : (0 : Int) ≤ s.tmod 6 ∧ s.tmod 6 < ((6 : Nat) : Int) := by
    rw [Int.tmod_eq_emod_of_nonneg hs.1]
    omega
  refine ⟨hk, onB_mk (fun e => ⟨hk, (), trivial, ⟨rfl, rfl, rfl, rfl, rfl, rfl, trivial⟩, trivial, ?_, trivial⟩) (fun e => ⟨(), trivial, ⟨rfl, rfl, rfl, rfl, rfl, rfl, trivial⟩, trivial, ?_, trivial⟩), fun _ => ⟨⟨b6, ?_⟩, fun _ => ⟨⟨b6, ?_⟩, fun _ => ⟨⟨b6, ?_⟩, fun _ => ⟨hr, rfl⟩⟩⟩⟩⟩
  · subst e; exact ⟨rfl, rfl, rfl, rfl, rfl, rfl, rfl, rfl, rfl, trivial⟩
  · subst e; exact ⟨rfl, rfl, rfl, rfl, rfl, rfl, rfl, rfl, rfl, trivial⟩
  · refine ⟨⟨⟨⟨⟨⟨trivial, fun j => ?_⟩, fun j => ?_⟩, fun j => ?_⟩, fun j => ?_⟩, fun j => ?_⟩, fun j => ?_⟩
    all_goals exact ⟨(), trivial, ⟨rfl, rfl, rfl, rfl, rfl, rfl, trivial⟩, trivial, ⟨rfl, rfl, rfl, rfl, rfl, rfl, rfl, rfl, rfl, trivial⟩, trivial, ⟨t_id hu hs j rfl (by decide), trivial⟩, trivial⟩
  · refine ⟨⟨⟨⟨⟨⟨trivial, fun j => ?_⟩, fun j => ?_⟩, fun j => ?_⟩, fun j => ?_⟩, fun j => ?_⟩, fun j => ?_⟩
    all_goals exact ⟨(), trivial, ⟨rfl, rfl, rfl, rfl, rfl, rfl, trivial⟩, trivial, ⟨rfl, rfl, rfl, rfl, rfl, rfl, rfl, rfl, rfl, trivial⟩, trivial, ⟨rfl, t_id hv hs j rfl (by decide), trivial⟩, trivial⟩
  · refine ⟨⟨⟨⟨⟨⟨trivial, fun j => ?_⟩, fun j => ?_⟩, fun j => ?_⟩, fun j => ?_⟩, fun j => ?_⟩, fun j => ?_⟩
    all_goals exact ⟨(), trivial, ⟨rfl, rfl, rfl, rfl, rfl, rfl, trivial⟩, trivial, ⟨rfl, rfl, rfl, rfl, rfl, rfl, rfl, rfl, rfl, trivial⟩, trivial, ⟨rfl, rfl, t_id hw hs j rfl (by decide), trivial⟩, trivial⟩
def qSed : PSpec
  | [.v (.agg [.sb h, .sym .u8 k, .sym .u8 u, .sym .u8 v, .sym .u8 w, .sym .u8 s])] => .iff (byt k ∧ byt u ∧ byt v ∧ byt w ∧ byt s) (.v (.agg (mpS (sdP h k u v w s))))
  | _ => .fail
theorem hSed : Holds P (MD pruneOn) 4 qSed := by
  refine ⟨Tryz.f4, by kernel_rfl, by kernel_rfl, fun args av hg => ?_⟩
  unfold qSed at hg
  split at hg
  · obtain ⟨⟨hk, hu, hv, hw, hs⟩, rfl⟩ := givesIff hg
    exact ⟨rfl, _, 10000, annSd _ _ _ _ _ _, rfl, rfl, seed_run hk hu hv hw hs rfl⟩
  · exact (gives_fail hg).elim
end Go.AM
open Go Go.AM Go.Proofs
namespace Go.AM
open Dist
set_option maxRecDepth 100000
def qAppG : PSpec
  | [.v (.agg [.sym .i64 a, .sym .i64 b, .sym .i64 c, .sym .i64 d, .sym .i64 e, .sym .i64 f, .sym .i64 g, .sym .i64 h, .sym .i64 i, .sym .i64 x, .sym .i64 y, .sym .i64 z]), .v (.agg [.sym .i64 m, .sym .i64 p, .sym .i64 q, .sym .i64 r])] => .iff (okP ⟨⟨a, b, c, d, e, f, g, h, i⟩, x, y, z⟩ ∧ plOk ⟨m, p, q, r⟩) (.tup [.agg (plS (mpApp ⟨⟨a, b, c, d, e, f, g, h, i⟩, x, y, z⟩ ⟨m, p, q, r⟩)), .one (.con .i64 0)])
  | _ => .fail
theorem hAppG : Holds P (MD pruneOn) 8 qAppG := by
  refine holdsB (fn := Tryz.f8) 10000 (by kernel_rfl) (by kernel_rfl) fun args av hg => ?_
  unfold qAppG at hg
  split at hg
  · rename_i a b c d e f g h i x y z m p q r
    obtain ⟨⟨hu, hp⟩, rfl⟩ := givesIff hg
    obtain ⟨v, hv⟩ : ∃ v, (AV.tup [.agg (plS (mpApp ⟨⟨a, b, c, d, e, f, g, h, i⟩, x, y, z⟩ ⟨m, p, q, r⟩)), .one (.con .i64 0)]).valOf = some v := ⟨_, rfl⟩
    refine ⟨rfl, v, noAnn, rfl, hv, ?_⟩
    have h1 : [SV.sym .i64 a, .sym .i64 b, .sym .i64 c, .sym .i64 d, .sym .i64 e, .sym .i64 f, .sym .i64 g, .sym .i64 h, .sym .i64 i, .sym .i64 x, .sym .i64 y, .sym .i64 z] = mpS ⟨⟨a, b, c, d, e, f, g, h, i⟩, x, y, z⟩ := rfl
    have h2 : [SV.sym .i64 m, .sym .i64 p, .sym .i64 q, .sym .i64 r] = plS ⟨m, p, q, r⟩ := rfl
    rw [h1, h2]
    exact app_run hu hp hv
  · exact (gives_fail hg).elim
def qInvG : PSpec
  | [.v (.agg [.sym .i64 a, .sym .i64 b, .sym .i64 c, .sym .i64 d, .sym .i64 e, .sym .i64 f, .sym .i64 g, .sym .i64 h, .sym .i64 i, .sym .i64 x, .sym .i64 y, .sym .i64 z])] => .iff (okP ⟨⟨a, b, c, d, e, f, g, h, i⟩, x, y, z⟩ ∧ okR (mInv ⟨a, b, c, d, e, f, g, h, i⟩)) (.tup [.agg (mpS (mpInv ⟨⟨a, b, c, d, e, f, g, h, i⟩, x, y, z⟩)), .one (.con .i64 0)])
  | _ => .fail
theorem hInvG : Holds P (MD pruneOn) 11 qInvG := by
  refine holdsB (fn := Tryz.f11) 10000 (by kernel_rfl) (by kernel_rfl) fun args av hg => ?_
  unfold qInvG at hg
  split at hg
  · rename_i a b c d e f g h i x y z
    obtain ⟨⟨hu, hp⟩, rfl⟩ := givesIff hg
    obtain ⟨v, hv⟩ : ∃ v, (AV.tup [.agg (mpS (mpInv ⟨⟨a, b, c, d, e, f, g, h, i⟩, x, y, z⟩)), .one (.con .i64 0)]).valOf = some v := ⟨_, rfl⟩
    refine ⟨rfl, v, noAnn, rfl, hv, ?_⟩
    have h1 : [SV.sym .i64 a, .sym .i64 b, .sym .i64 c, .sym .i64 d, .sym .i64 e, .sym .i64 f, .sym .i64 g, .sym .i64 h, .sym .i64 i, .sym .i64 x, .sym .i64 y, .sym .i64 z] = mpS ⟨⟨a, b, c, d, e, f, g, h, i⟩, x, y, z⟩ := rfl
    rw [h1]
    exact inv_run hu hp hv
  · exact (gives_fail hg).elim
def qOrdG : PSpec
  | [.v (.agg [.sym .i64 a, .sym .i64 b, .sym .i64 c, .sym .i64 d, .sym .i64 e, .sym .i64 f, .sym .i64 g, .sym .i64 h, .sym .i64 i, .sym .i64 x, .sym .i64 y, .sym .i64 z])] => .iff (∃ hex, mpOk hex ⟨⟨a, b, c, d, e, f, g, h, i⟩, x, y, z⟩) (.tup [.one (.sym .i64 (mpOrd ⟨⟨a, b, c, d, e, f, g, h, i⟩, x, y, z⟩)), .one (.con .i64 0)])
  | _ => .fail
theorem hOrdG : Holds P (MD pruneOn) 12 qOrdG := by
  refine holdsB (fn := Tryz.f12) 10000 (by kernel_rfl) (by kernel_rfl) fun args av hg => ?_
  unfold qOrdG at hg
  split at hg
  · rename_i a b c d e f g h i x y z
    obtain ⟨⟨hex, hu⟩, rfl⟩ := givesIff hg
    obtain ⟨v, hv⟩ : ∃ v, (AV.tup [.one (.sym .i64 (mpOrd ⟨⟨a, b, c, d, e, f, g, h, i⟩, x, y, z⟩)), .one (.con .i64 0)]).valOf = some v := ⟨_, rfl⟩
    refine ⟨rfl, v, annOo ⟨⟨a, b, c, d, e, f, g, h, i⟩, x, y, z⟩, rfl, hv, ?_⟩
    have h1 : [SV.sym .i64 a, .sym .i64 b, .sym .i64 c, .sym .i64 d, .sym .i64 e, .sym .i64 f, .sym .i64 g, .sym .i64 h, .sym .i64 i, .sym .i64 x, .sym .i64 y, .sym .i64 z] = mpS ⟨⟨a, b, c, d, e, f, g, h, i⟩, x, y, z⟩ := rfl
    rw [h1]
    exact ord_run hu hv
  · exact (gives_fail hg).elim
def ME (o : OnB) : Sums := (((((MD o).add 8 qAppG).add 11 qInvG).add 12 qOrdG).add 4 qSed).add 7 qMulG |>.add 9 qFormG
theorem pME (o : OnB) : OkS P (ME o) := (((((pMD o).add1 fine (pMD pruneOn) hAppG).add1 fine (pMD pruneOn) hInvG).add1 fine (pMD pruneOn) hOrdG).add1 fine (pMD pruneOn) hSed).add1 fine pO5 hMulG |>.add1 fine (pMB stdOn) hFormG
end Go.AM

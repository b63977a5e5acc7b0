import Derived.Test.YtbehdodaaobcdaaGreatDoorA30
import Derived.Test.YtbehdodaaobcdaaGreatDoorA28
set_option maxHeartbeats 4000000
open Go Go.AM Go.Proofs
namespace Go.AM
open Dist
set_option maxRecDepth 100000
open IntKind in
theorem nfDMaps (xs : List OpI) (c : Nat) (K : KV) : call P T0 (annDMaps xs) 100000 Tryz.f70 [.v (.one (.rs 0 12 xs.length c))] [.ro 0 cOp xs] K = ((∃ (z : { p:Nat × Int//p.1<=xs.length/\mapsL xs (0:Int)=mapsL (List.drop p.1 xs) p.2 }),((xs.length=xs.length/\c=c)/\z.1.2=0/\(xs.length=xs.length/\c=c)/\(↑xs.length:Int)=(↑xs.length:Int)/\(↑z.1.1:Int)=0/\True)/\SameRows cOp xs cOp xs/\True)/\∀ (x : { p:Nat × Int//p.1<=xs.length/\mapsL xs (0:Int)=mapsL (List.drop p.1 xs) p.2 }),(decide ((↑x.1.1:Int)<(↑xs.length:Int))=true->((0:Int)<=(↑x.1.1:Int)/\(↑x.1.1:Int)<(↑xs.length:Int))/\(↑x.1.1:Int).toNat.succ.le xs.length/\((!ovO (gt xs x.1.1))=true->((24:Int)=0->False)/\((!(decide ((gt xs x.1.1).x=modR (gt xs x.1.1).x 24)&&(decide ((gt xs x.1.1).y=modR (gt xs x.1.1).y 24)&&(decide ((gt xs x.1.1).z=modR (gt xs x.1.1).z 24)&&true))))=true->K (.v (.one (.con .i64 3))) [Blk.ro 0 cOp xs])/\((!(decide ((gt xs x.1.1).x=modR (gt xs x.1.1).x 24)&&(decide ((gt xs x.1.1).y=modR (gt xs x.1.1).y 24)&&(decide ((gt xs x.1.1).z=modR (gt xs x.1.1).z 24)&&true))))=false->((!ovO (gt xs x.1.1))=true->((!decide (rdet9 (gt xs x.1.1).a (gt xs x.1.1).b (gt xs x.1.1).c (gt xs x.1.1).d (gt xs x.1.1).e (gt xs x.1.1).f (gt xs x.1.1).g (gt xs x.1.1).h (gt xs x.1.1).i=1))=true->((!decide (rdet9 (gt xs x.1.1).a (gt xs x.1.1).b (gt xs x.1.1).c (gt xs x.1.1).d (gt xs x.1.1).e (gt xs x.1.1).f (gt xs x.1.1).g (gt xs x.1.1).h (gt xs x.1.1).i=(-1:Int)))=true->K (.v (.one (.con .i64 3))) [Blk.ro 0 cOp xs])/\((!decide (rdet9 (gt xs x.1.1).a (gt xs x.1.1).b (gt xs x.1.1).c (gt xs x.1.1).d (gt xs x.1.1).e (gt xs x.1.1).f (gt xs x.1.1).g (gt xs x.1.1).h (gt xs x.1.1).i=(-1:Int)))=false->((!!ovO (gt xs x.1.1))=true->∃ (z : { p:Nat × Int//p.1<=xs.length/\mapsL xs (0:Int)=mapsL (List.drop p.1 xs) p.2 }),(xs.length-z.1.1).succ.le (xs.length-x.1.1)/\((xs.length=xs.length/\c=c)/\z.1.2=4/\(xs.length=xs.length/\c=c)/\(↑xs.length:Int)=(↑xs.length:Int)/\(↑z.1.1:Int)=i64.wrap ((↑x.1.1:Int)+1)/\True)/\SameRows cOp xs cOp xs/\True)/\((!!ovO (gt xs x.1.1))=false->∃ (z : { p:Nat × Int//p.1<=xs.length/\mapsL xs (0:Int)=mapsL (List.drop p.1 xs) p.2 }),(xs.length-z.1.1).succ.le (xs.length-x.1.1)/\((xs.length=xs.length/\c=c)/\z.1.2=x.1.2/\(xs.length=xs.length/\c=c)/\(↑xs.length:Int)=(↑xs.length:Int)/\(↑z.1.1:Int)=i64.wrap ((↑x.1.1:Int)+1)/\True)/\SameRows cOp xs cOp xs/\True)))/\((!decide (rdet9 (gt xs x.1.1).a (gt xs x.1.1).b (gt xs x.1.1).c (gt xs x.1.1).d (gt xs x.1.1).e (gt xs x.1.1).f (gt xs x.1.1).g (gt xs x.1.1).h (gt xs x.1.1).i=1))=false->((!!ovO (gt xs x.1.1))=true->∃ (z : { p:Nat × Int//p.1<=xs.length/\mapsL xs (0:Int)=mapsL (List.drop p.1 xs) p.2 }),(xs.length-z.1.1).succ.le (xs.length-x.1.1)/\((xs.length=xs.length/\c=c)/\z.1.2=4/\(xs.length=xs.length/\c=c)/\(↑xs.length:Int)=(↑xs.length:Int)/\(↑z.1.1:Int)=i64.wrap ((↑x.1.1:Int)+1)/\True)/\SameRows cOp xs cOp xs/\True)/\((!!ovO (gt xs x.1.1))=false->∃ (z : { p:Nat × Int//p.1<=xs.length/\mapsL xs (0:Int)=mapsL (List.drop p.1 xs) p.2 }),(xs.length-z.1.1).succ.le (xs.length-x.1.1)/\((xs.length=xs.length/\c=c)/\z.1.2=x.1.2/\(xs.length=xs.length/\c=c)/\(↑xs.length:Int)=(↑xs.length:Int)/\(↑z.1.1:Int)=i64.wrap ((↑x.1.1:Int)+1)/\True)/\SameRows cOp xs cOp xs/\True)))/\((!ovO (gt xs x.1.1))=false->((!!ovO (gt xs x.1.1))=true->∃ (z : { p:Nat × Int//p.1<=xs.length/\mapsL xs (0:Int)=mapsL (List.drop p.1 xs) p.2 }),(xs.length-z.1.1).succ.le (xs.length-x.1.1)/\((xs.length=xs.length/\c=c)/\z.1.2=4/\(xs.length=xs.length/\c=c)/\(↑xs.length:Int)=(↑xs.length:Int)/\(↑z.1.1:Int)=i64.wrap ((↑x.1.1:Int)+1)/\True)/\SameRows cOp xs cOp xs/\True)/\((!!ovO (gt xs x.1.1))=false->∃ (z : { p:Nat × Int//p.1<=xs.length/\mapsL xs (0:Int)=mapsL (List.drop p.1 xs) p.2 }),(xs.length-z.1.1).succ.le (xs.length-x.1.1)/\((xs.length=xs.length/\c=c)/\z.1.2=x.1.2/\(xs.length=xs.length/\c=c)/\(↑xs.length:Int)=(↑xs.length:Int)/\(↑z.1.1:Int)=i64.wrap ((↑x.1.1:Int)+1)/\True)/\SameRows cOp xs cOp xs/\True))))/\((!ovO (gt xs x.1.1))=false->((24:Int)=0->False)/\((!(decide ((gt xs x.1.1).x=modR (gt xs x.1.1).x 24)&&(decide ((gt xs x.1.1).y=modR (gt xs x.1.1).y 24)&&(decide ((gt xs x.1.1).z=modR (gt xs x.1.1).z 24)&&true))))=true->K (.v (.one (.con .i64 3))) [Blk.ro 0 cOp xs])/\((!(decide ((gt xs x.1.1).x=modR (gt xs x.1.1).x 24)&&(decide ((gt xs x.1.1).y=modR (gt xs x.1.1).y 24)&&(decide ((gt xs x.1.1).z=modR (gt xs x.1.1).z 24)&&true))))=false->((!ovO (gt xs x.1.1))=true->K (.v (.one (.con .i64 3))) [Blk.ro 0 cOp xs])/\((!ovO (gt xs x.1.1))=false->((!!ovO (gt xs x.1.1))=true->∃ (z : { p:Nat × Int//p.1<=xs.length/\mapsL xs (0:Int)=mapsL (List.drop p.1 xs) p.2 }),(xs.length-z.1.1).succ.le (xs.length-x.1.1)/\((xs.length=xs.length/\c=c)/\z.1.2=4/\(xs.length=xs.length/\c=c)/\(↑xs.length:Int)=(↑xs.length:Int)/\(↑z.1.1:Int)=i64.wrap ((↑x.1.1:Int)+1)/\True)/\SameRows cOp xs cOp xs/\True)/\((!!ovO (gt xs x.1.1))=false->∃ (z : { p:Nat × Int//p.1<=xs.length/\mapsL xs (0:Int)=mapsL (List.drop p.1 xs) p.2 }),(xs.length-z.1.1).succ.le (xs.length-x.1.1)/\((xs.length=xs.length/\c=c)/\z.1.2=x.1.2/\(xs.length=xs.length/\c=c)/\(↑xs.length:Int)=(↑xs.length:Int)/\(↑z.1.1:Int)=i64.wrap ((↑x.1.1:Int)+1)/\True)/\SameRows cOp xs cOp xs/\True)))))/\(decide ((↑x.1.1:Int)<(↑xs.length:Int))=false->K (.v (.one (.sym .i64 x.1.2))) [Blk.ro 0 cOp xs])) := by kernel_rfl
theorem nfPlace (xs : List OpI) (c : Nat) (o : OpI) (K : KV) : call P T0 (annPlace xs o) 100000 Tryz.f112 [.v (.one (.rs 0 12 xs.length c)), .v (.agg (opS o))] [.ro 0 cOp xs] K = ((∃ (z : { i:Nat//i<=xs.length/\placeI xs o=placeL o (List.drop i xs) (↑i:Int) }),((xs.length=xs.length/\c=c)/\(xs.length=xs.length/\c=c)/\(↑xs.length:Int)=(↑xs.length:Int)/\(↑z.1:Int)=0/\True)/\SameRows cOp xs cOp xs/\(o.a=o.a/\o.b=o.b/\o.c=o.c/\o.d=o.d/\o.e=o.e/\o.f=o.f/\o.g=o.g/\o.h=o.h/\o.i=o.i/\o.x=o.x/\o.y=o.y/\o.z=o.z/\True)/\True)/\∀ (x : { i:Nat//i<=xs.length/\placeI xs o=placeL o (List.drop i xs) (↑i:Int) }),(decide ((↑x.1:Int)<(↑xs.length:Int))=true->((0:Int)<=(↑x.1:Int)/\(↑x.1:Int)<(↑xs.length:Int))/\(↑x.1:Int).toNat.succ.le xs.length/\((decide ((gt xs x.1).a=o.a)&&(decide ((gt xs x.1).b=o.b)&&(decide ((gt xs x.1).c=o.c)&&true))&&(decide ((gt xs x.1).d=o.d)&&(decide ((gt xs x.1).e=o.e)&&(decide ((gt xs x.1).f=o.f)&&true))&&(decide ((gt xs x.1).g=o.g)&&(decide ((gt xs x.1).h=o.h)&&(decide ((gt xs x.1).i=o.i)&&true))&&true))&&(decide ((gt xs x.1).x=o.x)&&(decide ((gt xs x.1).y=o.y)&&(decide ((gt xs x.1).z=o.z)&&true))&&true))=true->K (.v (.one (.sym .i64 (↑x.1:Int)))) [Blk.ro 0 cOp xs])/\((decide ((gt xs x.1).a=o.a)&&(decide ((gt xs x.1).b=o.b)&&(decide ((gt xs x.1).c=o.c)&&true))&&(decide ((gt xs x.1).d=o.d)&&(decide ((gt xs x.1).e=o.e)&&(decide ((gt xs x.1).f=o.f)&&true))&&(decide ((gt xs x.1).g=o.g)&&(decide ((gt xs x.1).h=o.h)&&(decide ((gt xs x.1).i=o.i)&&true))&&true))&&(decide ((gt xs x.1).x=o.x)&&(decide ((gt xs x.1).y=o.y)&&(decide ((gt xs x.1).z=o.z)&&true))&&true))=false->∃ (z : { i:Nat//i<=xs.length/\placeI xs o=placeL o (List.drop i xs) (↑i:Int) }),(xs.length-z.1).succ.le (xs.length-x.1)/\((xs.length=xs.length/\c=c)/\(xs.length=xs.length/\c=c)/\(↑xs.length:Int)=(↑xs.length:Int)/\(↑z.1:Int)=IntKind.i64.wrap ((↑x.1:Int)+1)/\True)/\SameRows cOp xs cOp xs/\(o.a=o.a/\o.b=o.b/\o.c=o.c/\o.d=o.d/\o.e=o.e/\o.f=o.f/\o.g=o.g/\o.h=o.h/\o.i=o.i/\o.x=o.x/\o.y=o.y/\o.z=o.z/\True)/\True))/\(decide ((↑x.1:Int)<(↑xs.length:Int))=false->K (.v (.one (.con .i64 (-1:Int)))) [Blk.ro 0 cOp xs])) := by kernel_rfl
theorem oE_doc (o : OpI) : oM oneO o = if ¬ (modR o.x 24 = o.x ∧ modR o.y 24 = o.y ∧ modR o.z 24 = o.z) ∨ (ovO o = false ∧ rdet9 o.a o.b o.c o.d o.e o.f o.g o.h o.i ≠ 1 ∧ rdet9 o.a o.b o.c o.d o.e o.f o.g o.h o.i ≠ -1) then 3 else if ovO o = true then 4 else 0 :=
  (mulE_one ..).trans (opE_doc ..)
def modB (o : OpI) : Bool := decide (o.x = modR o.x 24) && (decide (o.y = modR o.y 24) && (decide (o.z = modR o.z 24) && true))
theorem modB_iff (o : OpI) : modB o = true ↔ modR o.x 24 = o.x ∧ modR o.y 24 = o.y ∧ modR o.z 24 = o.z := by
  unfold modB
  simp only [Bool.and_true, Bool.and_eq_true, decide_eq_true_eq]
  constructor <;> intro ⟨h1, h2, h3⟩ <;> exact ⟨h1.symm, h2.symm, h3.symm⟩
theorem e3_mod {o : OpI} (h : (!modB o) = true) : oM oneO o = 3 := by
  rw [oE_doc, if_pos (.inl (fun hm => by rw [(modB_iff o).2 hm] at h; cases h))]
theorem e3_det {o : OpI} (h : (!ovO o) = true) (h1 : (!decide (rdet9 o.a o.b o.c o.d o.e o.f o.g o.h o.i = 1)) = true) (h2 : (!decide (rdet9 o.a o.b o.c o.d o.e o.f o.g o.h o.i = -1)) = true) : oM oneO o = 3 := by
  rw [oE_doc, if_pos (.inr ⟨by simpa using h, by simpa using h1, by simpa using h2⟩)]
theorem e4 {o : OpI} (hm : (!modB o) = false) (h : (!!ovO o) = true) : oM oneO o = 4 := by
  have ho : ovO o = true := by simpa using h
  have hm := (modB_iff o).1 (by simpa using hm)
  rw [oE_doc, if_neg (by rw [ho]; intro h; rcases h with h | h; exact h hm; cases h.1), if_pos ho]
theorem e0 {o : OpI} (hm : (!modB o) = false) (h : (!!ovO o) = false) (hd : rdet9 o.a o.b o.c o.d o.e o.f o.g o.h o.i = 1 ∨ rdet9 o.a o.b o.c o.d o.e o.f o.g o.h o.i = -1) : oM oneO o = 0 := by
  have ho : ovO o = false := by simpa using h
  have hm := (modB_iff o).1 (by simpa using hm)
  rw [oE_doc, if_neg (by intro h; rcases h with h | h; exact h hm; rcases hd with hd | hd; exact h.2.1 hd; exact h.2.2 hd), ho]
  rfl
def qDMaps : RSpec cOp := fun os xs => match os with
  | [] => some (xs.length ≤ 4611686018427387904, I' (mapsL xs 0), [])
  | _ => none
theorem callDMaps (xs : List OpI) (c : Nat) (hl : xs.length ≤ 4611686018427387904) : CallR P T0 (annDMaps xs) 100000 Tryz.f70 [.v (.one (.rs 0 12 xs.length c))] [.ro 0 cOp xs] (fun v' h' => MatchTo 1 [v'] h' ([(I' (mapsL xs 0)).sh 1], .ro 0 cOp xs :: shH 1 [])) := by
  refine ⟨?_⟩
  rw [nfDMaps]
  refine ⟨⟨⟨(0, 0), Nat.zero_le _, rfl⟩, ⟨⟨rfl, rfl⟩, rfl, ⟨rfl, rfl⟩, rfl, rfl, trivial⟩, sameR _ _, trivial⟩, fun x => ⟨fun hk => ?_, fun hk => leafRS ?_⟩⟩
  · obtain ⟨⟨k, w⟩, hle, hx⟩ := x
    have hk : (k : Int) < xs.length := of_decide_eq_true hk
    have hk' : k < xs.length := by omega
    have hw := wr_id (n := (k : Int) + 1) (by omega) (by omega)
    have hx : mapsL xs 0 = mapsL (xs.drop k) w := hx
    have hst := mapsL_step (w := w) hk'
    have r3 : oM oneO (gt xs k) = 3 → mapsL xs 0 = 3 := fun h => by rw [hx, hst, if_pos h]
    have c4 : oM oneO (gt xs k) = 4 → mapsL xs 0 = mapsL (xs.drop (k + 1)) 4 := fun h => by rw [hx, hst, if_neg (by omega), if_pos h]
    have c0 : oM oneO (gt xs k) = 0 → mapsL xs 0 = mapsL (xs.drop (k + 1)) w := fun h => by rw [hx, hst, if_neg (by omega), if_neg (by omega)]
    have lt : xs.length - (k + 1) < xs.length - k := by omega
    refine ⟨⟨show (0 : Int) ≤ (k : Int) by omega, hk⟩, hk', fun h1 => ⟨fun h => absurd h (by decide), fun h2 => leafRC (r3 (e3_mod h2)), fun h2 => ⟨fun h3 => ⟨fun h4 => ⟨fun h5 => leafRC (r3 (e3_det h3 h4 h5)), fun h5 => ⟨fun hx6 => ⟨⟨(k + 1, 4), hk', c4 (e4 h2 hx6)⟩, lt, ⟨⟨rfl, rfl⟩, rfl, ⟨rfl, rfl⟩, rfl, hw.symm, trivial⟩, sameR _ _, trivial⟩, fun hx6 => ⟨⟨(k + 1, w), hk', c0 (e0 h2 hx6 (.inr (by simpa using h5)))⟩, lt, ⟨⟨rfl, rfl⟩, rfl, ⟨rfl, rfl⟩, rfl, hw.symm, trivial⟩, sameR _ _, trivial⟩⟩⟩,
        fun h4 => ⟨fun hx6 => ⟨⟨(k + 1, 4), hk', c4 (e4 h2 hx6)⟩, lt, ⟨⟨rfl, rfl⟩, rfl, ⟨rfl, rfl⟩, rfl, hw.symm, trivial⟩, sameR _ _, trivial⟩, fun hx6 => ⟨⟨(k + 1, w), hk', c0 (e0 h2 hx6 (.inl (by simpa using h4)))⟩, lt, ⟨⟨rfl, rfl⟩, rfl, ⟨rfl, rfl⟩, rfl, hw.symm, trivial⟩, sameR _ _, trivial⟩⟩⟩,
      fun h3 => absurd h1 (by rw [h3]; simp)⟩⟩, fun h1 => ⟨fun h => absurd h (by decide), fun h2 => leafRC (r3 (e3_mod h2)), fun h2 => ⟨fun h3 => absurd h3 (by rw [h1]; simp), fun h3 => ⟨fun hx6 => ⟨⟨(k + 1, 4), hk', c4 (e4 h2 hx6)⟩, lt, ⟨⟨rfl, rfl⟩, rfl, ⟨rfl, rfl⟩, rfl, hw.symm, trivial⟩, sameR _ _, trivial⟩, fun hx6 => absurd hx6 (by rw [h1]; simp)⟩⟩⟩⟩
  · obtain ⟨⟨k, w⟩, hle, hx⟩ := x
    have hk : ¬ (k : Int) < xs.length := of_decide_eq_false hk
    have : k = xs.length := by have : k ≤ xs.length := hle; omega
    subst this
    have hx : mapsL xs 0 = mapsL (xs.drop xs.length) w := hx
    show mapsL xs 0 = w
    rw [hx, List.drop_length]
    rfl
theorem hrDMaps : HoldsR P 70 0 cOp qDMaps := by
  refine ⟨Tryz.f70, by kernel_rfl, by kernel_rfl, fun os (xs : List OpI) p v hs hq hp hno c => ?_⟩
  match os, hq with
  | [], hq =>
    have := Option.some.inj hq
    simp only [Prod.mk.injEq] at this
    obtain ⟨rfl, rfl, rfl⟩ := this
    exact ⟨100000, annDMaps xs, T0, rfl, pT0, callDMaps xs c hp⟩
theorem placeL_step {xs : List OpI} {o : OpI} {k : Nat} (h : k < xs.length) (i : Int) : placeL o (xs.drop k) i = if gt xs k = o then i else placeL o (xs.drop (k + 1)) (i + 1) := by
  rw [drop_gt h]
  rfl
def qPlace : RSpec cOp := fun os xs => match os with
  | [.v (.agg [.sym .i64 a, .sym .i64 b, .sym .i64 c, .sym .i64 d, .sym .i64 e, .sym .i64 f, .sym .i64 g, .sym .i64 h, .sym .i64 i, .sym .i64 x, .sym .i64 y, .sym .i64 z])] => some (xs.length ≤ 4611686018427387904, I' (placeI xs ⟨a, b, c, d, e, f, g, h, i, x, y, z⟩), [])
  | _ => none
theorem callPlace (xs : List OpI) (c : Nat) (o : OpI) (hl : xs.length ≤ 4611686018427387904) : CallR P T0 (annPlace xs o) 100000 Tryz.f112 [.v (.one (.rs 0 12 xs.length c)), .v (.agg (opS o))] [.ro 0 cOp xs] (fun v' h' => MatchTo 1 [v'] h' ([(I' (placeI xs o)).sh 1], .ro 0 cOp xs :: shH 1 [])) := by
  refine ⟨?_⟩
  rw [nfPlace]
  refine ⟨⟨⟨0, Nat.zero_le _, rfl⟩, ⟨⟨rfl, rfl⟩, ⟨rfl, rfl⟩, rfl, rfl, trivial⟩, sameR _ _, ⟨rfl, rfl, rfl, rfl, rfl, rfl, rfl, rfl, rfl, rfl, rfl, rfl, trivial⟩, trivial⟩, fun x => ⟨fun hk => ?_, fun hk => leafRC ?_⟩⟩
  · obtain ⟨k, hle, hx⟩ := x
    have hk : (k : Int) < xs.length := of_decide_eq_true hk
    have hk' : k < xs.length := by omega
    have hw := wr_id (n := (k : Int) + 1) (by omega) (by omega)
    have hst := placeL_step (o := o) hk' (k : Int)
    refine ⟨⟨show (0 : Int) ≤ (k : Int) by omega, hk⟩, hk', fun h => leafRS ?_, fun h => ⟨⟨k + 1, hk', ?_⟩, show xs.length - (k + 1) < xs.length - k by omega, ⟨⟨rfl, rfl⟩, ⟨rfl, rfl⟩, rfl, hw.symm, trivial⟩, sameR _ _, ⟨rfl, rfl, rfl, rfl, rfl, rfl, rfl, rfl, rfl, rfl, rfl, rfl, trivial⟩, trivial⟩⟩
    · have h : eqO (gt xs k) o = true := h
      show placeI xs o = (k : Int)
      rw [hx, hst, if_pos ((eqO_iff _ _).1 h).symm]
    · have h : eqO (gt xs k) o = false := h
      show placeI xs o = placeL o (xs.drop (k + 1)) ((k + 1 : Nat) : Int)
      rw [hx, hst, if_neg (fun he => by rw [(eqO_iff _ _).2 he.symm] at h; cases h)]
      rfl
  · obtain ⟨k, hle, hx⟩ := x
    have hk : ¬ (k : Int) < xs.length := of_decide_eq_false hk
    have : k = xs.length := by omega
    subst this
    show placeI xs o = -1
    rw [hx, List.drop_length]
    rfl
theorem hrPlace : HoldsR P 112 0 cOp qPlace := by
  refine ⟨Tryz.f112, by kernel_rfl, by kernel_rfl, fun os (xs : List OpI) p v hs hq hp hno cc => ?_⟩
  unfold qPlace at hq
  split at hq
  · rename_i a b c d e f g h i x y z
    have := Option.some.inj hq
    simp only [Prod.mk.injEq] at this
    obtain ⟨rfl, rfl, rfl⟩ := this
    exact ⟨100000, annPlace xs _, T0, rfl, pT0, callPlace xs cc ⟨a, b, c, d, e, f, g, h, i, x, y, z⟩ hp⟩
  · cases hq
theorem placeI_neg {xs : List OpI} {o : OpI} : placeI xs o < 0 ↔ o ∉ xs := by
  have key : ∀ (l : List OpI) (i : Int), 0 ≤ i → (placeL o l i < 0 ↔ o ∉ l) := by
    intro l
    induction l with
    | nil => intro i _; simp [placeL]
    | cons q l ih =>
      intro i hi
      rw [placeL]
      by_cases h : q = o
      · rw [if_pos h]; subst h; simp; omega
      · rw [if_neg h, ih (i + 1) (by omega)]
        simp [Ne.symm h]
  exact key xs 0 (by omega)
def T1 : Sums := (T0.addSp 70 (rowSpec 0 cOp qDMaps)).addSp 112 (rowSpec 0 cOp qPlace)
theorem pT1 : OkS P T1 := (pT0.addRow fine hrDMaps).addRow fine hrPlace
end Go.AM
open Go Go.AM Go.Proofs
namespace Go.AM
end Go.AM
open Go Go.AM Go.Proofs
namespace Go.AM
open Dist
set_option maxRecDepth 100000
end Go.AM
namespace Go.AM
open Go
section
variable {P : Program} {w0 w w' : World} {Sx : Marks} {pl : List Pl} {h : Heap}
def oneM (p : Pl) : Marks := ⟨fun k => p.nil = false ∧ k = p.blk, fun _ => False⟩
theorem ownOne_R [Glob] (hR : HRel w0 Sx pl h w) {b T : Nat} {p : Pl} {C C' : Codec} {xs : List C'.τ} {zs : List C.τ} (hg : h[b]? = some (.own T C' xs)) (hp : pl[b]? = some p) (hz : C'.esz = C.esz) (hs : SameRows C zs C' xs) : HRel w (oneM p) [p] [.own T C zs] w := by
  refine ⟨rfl, ⟨rfl, rfl, rfl, Nat.le_refl _, fun _ _ _ => rfl⟩, ?_, ?_, ?_, ?_, ?_, ⟨fun k hk => hk.elim, hR.tabw, fun k hk hM => ?_⟩, fun _ => Nat.le_refl _⟩
  · intro c x q hx hq
    cases c with
    | zero =>
      simp at hx hq
      subst hx hq
      obtain ⟨vs, k1, k2⟩ := hR.hb b _ p hg hp
      refine ⟨vs, ?_, by rw [hs.hl', ← hz]; exact k2⟩
      rw [hs.hf']
      exact RL_of_low (flat_low xs) k1
    | succ c => simp at hx
  · intro c q x hq hx ha
    cases c with
    | zero =>
      simp at hx hq
      subst hx hq
      exact hR.lt b p _ hp hg ha
    | succ c => simp at hx
  · intro c q x hq hx ha
    cases c with
    | zero =>
      simp at hx hq
      subst hx hq
      exact .inr ⟨by simpa [Blk.alive] using ha, rfl⟩
    | succ c => simp at hx
  · intro c d q r x y hq hr hx hy ha hb e
    cases c with
    | zero =>
      cases d with
      | zero => rfl
      | succ d => simp at hy
    | succ c => simp at hx
  · intro c q x hq hx hd
    cases c with
    | zero => simp at hx; subst hx; cases hd
    | succ c => simp at hx
  · obtain ⟨hn, rfl⟩ := hM
    have h5 := Glob.lt w0 p.blk hR.rok.2.1 hk
    rcases hR.own b p _ hp hg (by simp [Blk.alive, hn]) with h6 | h6
    · omega
    · exact hR.rok.2.2 _ hk h6
theorem HRel.laterO [Glob] (hR : HRel w0 Sx pl h w) {b T : Nat} {p : Pl} {C C' : Codec} {xs : List C'.τ} {zs : List C.τ} (hg : h[b]? = some (.own T C' xs)) (hp : pl[b]? = some p) (hz : C'.esz = C.esz) (hs : SameRows C zs C' xs)
    {pl2 : List Pl} {h2 : Heap} (h1 : HRel w (oneM p) (p :: pl2) (.own T C zs :: h2) w') : HRel w0 Sx pl h w' := by
  have hown : p.nil = false → w0.heap.size ≤ p.blk ∨ Sx p.blk := fun hn => hR.own b p _ hp hg (by simp [Blk.alive, hn])
  have hkeep : ∀ k, k < w.heap.size → ¬ (p.nil = false ∧ k = p.blk) → w'.heap[k]? = w.heap[k]? := h1.fr.block
  have hold : ∀ k, k < w0.heap.size → ¬ Sx k → ¬ (p.nil = false ∧ k = p.blk) := fun k hk hS hM => by
    obtain ⟨hn, rfl⟩ := hM
    rcases hown hn with h6 | h6
    · omega
    · exact hS h6
  refine ⟨hR.len, ⟨h1.fr.os.trans hR.fr.os, h1.fr.tape.trans hR.fr.tape, h1.fr.output.trans hR.fr.output, Nat.le_trans hR.fr.size h1.fr.size, fun k hk hS => (hkeep k (Nat.lt_of_lt_of_le hk hR.fr.size) (hold k hk hS)).trans (hR.fr.block k hk hS)⟩, ?_, fun c q x hq hx ha => Nat.lt_of_lt_of_le (hR.lt c q x hq hx ha) h1.fr.size, hR.own, hR.inj, hR.ro, hR.rok, fun d => Nat.le_trans (hR.drw d) (h1.drw d)⟩
  intro c x q hx hq
  by_cases e : c = b
  · subst e
    rw [hg] at hx
    cases hx
    rw [hp] at hq
    cases hq
    obtain ⟨vs, k1, k2⟩ := h1.hb 0 _ p rfl rfl
    refine ⟨vs, ?_, by rw [← hs.hl', hz]; exact k2⟩
    rw [← hs.hf']
    exact RL_of_low (flat_low zs) k1
  · refine (hR.hb c x q hx hq).mono (PExt.refl pl) (fun ha => hkeep _ (hR.lt c q x hq hx ha) (fun ⟨hn, he⟩ => e (hR.inj c b q p x _ hq hp hx hg ha (by simp [Blk.alive, hn]) he))) (fun hd => ?_)
    have h7 := hR.rok.1 _ (hR.ro c q x hq hx hd)
    exact hkeep _ (Nat.lt_of_lt_of_le h7.1 hR.fr.size) (hold _ h7.1 h7.2)
theorem HRel.joinO [Glob] (hR : HRel w0 Sx pl h w) {b T : Nat} {p : Pl} {C C' : Codec} {xs : List C'.τ} {zs : List C.τ} (hg : h[b]? = some (.own T C' xs)) (hp : pl[b]? = some p) (hz : C'.esz = C.esz) (hs : SameRows C zs C' xs)
    {pl2 : List Pl} {h2 : Heap} (h1 : HRel w (oneM p) (p :: pl2) (.own T C zs :: h2) w') (hn : ∀ (c : Nat) q y, pl2[c]? = some q → h2[c]? = some y → y.rd q = false) :
    HRel w0 Sx (pl ++ (p :: pl2)) (h ++ shH pl.length (.gone :: h2)) w' ∧ PExt pl (pl ++ (p :: pl2)) ∧ PSh pl.length (p :: pl2) (pl ++ (p :: pl2)) := by
  have hL := hR.laterO hg hp hz hs h1
  have hpx : PExt pl (pl ++ (p :: pl2)) := fun b q hb => by rw [List.getElem?_append_left ((List.getElem?_eq_some_iff.1 hb).1)]; exact hb
  have hsh : PSh pl.length (p :: pl2) (pl ++ (p :: pl2)) := fun b q hb => by rw [List.getElem?_append_right (by omega), Nat.add_sub_cancel]; exact hb
  have hlen := hR.len
  have h1g := h1.forget 0
  have e0 : AM.set (.own T C zs :: h2) 0 .gone = .gone :: h2 := rfl
  rw [e0] at h1g
  have cs : ∀ (c : Nat) q x, (pl ++ (p :: pl2))[c]? = some q → (h ++ shH pl.length (.gone :: h2))[c]? = some x → (pl[c]? = some q ∧ h[c]? = some x) ∨ (∃ d y, c = d + pl.length ∧ (p :: pl2)[d]? = some q ∧ (Blk.gone :: h2)[d]? = some y ∧ x = y.sh pl.length) := fun c q x hb hx => by
    by_cases hlt : c < pl.length
    · rw [List.getElem?_append_left hlt] at hb
      rw [List.getElem?_append_left (by omega)] at hx
      exact .inl ⟨hb, hx⟩
    · rw [List.getElem?_append_right (by omega)] at hb
      rw [List.getElem?_append_right (by omega), ← hlen] at hx
      obtain ⟨y, h3, h4⟩ := shH_get hx
      exact .inr ⟨c - pl.length, y, by omega, hb, h3, h4⟩
  have new : ∀ {d : Nat} {q : Pl} {y : Blk}, (p :: pl2)[d]? = some q → (Blk.gone :: h2)[d]? = some y → (y.sh pl.length).alive q = true → w.heap.size ≤ q.blk := fun {d q y} h3 h4 ha => by
    rw [Blk.sh_alive] at ha
    cases d with
    | zero => simp at h4; subst h4; cases ha
    | succ d =>
      have h4' : (Blk.own T C zs :: h2)[d + 1]? = some y := h4
      rcases h1.own (d + 1) q y h3 h4' ha with h6 | ⟨hn6, h6⟩
      · exact h6
      · have := h1.inj (d + 1) 0 q p y _ h3 rfl h4' rfl ha (by simp [Blk.alive, hn6]) h6
        cases this
  refine ⟨⟨by have := h1.len; simp [hlen, shH_len] at this ⊢; omega, hL.fr, ?_, ?_, ?_, ?_, ?_, hR.rok, hL.drw⟩, hpx, hsh⟩
  · intro c x q hx hb
    rcases cs c q x hb hx with ⟨h3, h4⟩ | ⟨d, y, rfl, h3, h4, rfl⟩
    · exact (hL.hb c x q h4 h3).mono hpx (fun _ => rfl) (fun _ => rfl)
    · exact (h1g.hb d y q h4 h3).sh hsh
  · intro c q x hb hx ha
    rcases cs c q x hb hx with ⟨h3, h4⟩ | ⟨d, y, rfl, h3, h4, rfl⟩
    · exact hL.lt c q x h3 h4 ha
    · exact h1g.lt d q y h3 h4 (by rwa [Blk.sh_alive] at ha)
  · intro c q x hb hx ha
    rcases cs c q x hb hx with ⟨h3, h4⟩ | ⟨d, y, rfl, h3, h4, rfl⟩
    · exact hR.own c q x h3 h4 ha
    · exact .inl (Nat.le_trans hR.fr.size (new h3 h4 ha))
  · intro c c' q q' x x' hb hc hx hy ha hya e
    rcases cs c q x hb hx with ⟨h3, h4⟩ | ⟨d1, y1, rfl, h3, h4, rfl⟩ <;> rcases cs c' q' x' hc hy with ⟨k3, k4⟩ | ⟨d2, y2, rfl, k3, k4, rfl⟩
    · exact hR.inj c c' q q' x x' h3 k3 h4 k4 ha hya e
    · have := hR.lt c q x h3 h4 ha
      have := new k3 k4 hya
      omega
    · have := hR.lt c' q' x' k3 k4 hya
      have := new h3 h4 ha
      omega
    · rw [h1g.inj d1 d2 q q' y1 y2 h3 k3 h4 k4 (by rwa [Blk.sh_alive] at ha) (by rwa [Blk.sh_alive] at hya) e]
  · intro c q x hb hx hd
    rcases cs c q x hb hx with ⟨h3, h4⟩ | ⟨d, y, rfl, h3, h4, rfl⟩
    · exact hR.ro c q x h3 h4 hd
    · rw [Blk.sh_rd] at hd
      cases d with
      | zero => simp at h4; subst h4; cases hd
      | succ d => rw [hn d q y h3 h4] at hd; cases hd
def ownSpec (i T : Nat) (C : Codec) (q : RSpec C) : ASpec := fun args h K => match get? args i with
  | some (.v (.one (.ow b z 0 n false))) => (match get? h b with
    | some (.own T' C' xs) => if decide (z = C.esz) && decide (T' = T) && decide (C'.esz = C.esz) && noPtrs (del args i) then ∃ zs : List C.τ, SameRows C zs C' xs ∧ (match q (del args i) zs with
        | some (p, v, hs) => rowK h (n = xs.length ∧ p) v hs K
        | none => False) else False
    | _ => False)
  | _ => False
def HoldsRO [Glob] (P : Program) (f i T : Nat) (C : Codec) (q : RSpec C) : Prop :=
  ∃ fn, P.funcs[f]? = some fn ∧ fn.body.isSome = true ∧ ∀ os xs p v hs, q os xs = some (p, v, hs) → p → noPtrs os = true →
    ∃ n A S, A.q = 1 ∧ OkS P S ∧ CallR P S A n fn (ins (.v (.one (.ow 0 C.esz 0 xs.length false))) os i) [.own T C xs] (fun v' h' => MatchTo 1 [v'] h' ([v.sh 1], .own T C xs :: shH 1 hs))
theorem ownSpec_mono {i T : Nat} {C : Codec} {q : RSpec C} {args : List AV} {h : Heap} {K K' : KV} (hK : ∀ v h, K v h → K' v h) (hk : ownSpec i T C q args h K) : ownSpec i T C q args h K' := by
  unfold ownSpec at hk ⊢
  split at hk
  · split at hk
    · split at hk
      · rename_i hc
        rw [if_pos hc]
        obtain ⟨zs, hz, hk⟩ := hk
        refine ⟨zs, hz, ?_⟩
        split at hk
        · exact rowK_mono hK hk
        · exact hk.elim
      · exact hk.elim
    · exact hk.elim
  · exact hk.elim
theorem OkS.addOwn [Glob] (hF : Fine P) {S : Sums} (h : OkS P S) {f i T : Nat} {C : Codec} {q : RSpec C} (hq : HoldsRO P f i T C q) : OkS P (S.addSp f (ownSpec i T C q)) := by
  refine ⟨h.pure, ⟨fun g sp hg => ?_, h.spec.2⟩, fun g sp hg => ?_⟩
  · by_cases e : g = f
    · subst e
      simp only [Sums.addSp, if_true] at hg
      cases hg
      obtain ⟨fn, hf, hfb, hp⟩ := hq
      refine ⟨⟨fn, hf, hfb⟩, fun args hh K hsp w0 Sx pl w vals hR hargs => ?_⟩
      unfold ownSpec at hsp
      split at hsp
      · rename_i b z n hga
        split at hsp
        · rename_i T' C' xs hg
          rw [get?_eq] at hg
          split at hsp
          · rename_i hc
            simp only [Bool.and_eq_true, decide_eq_true_eq] at hc
            obtain ⟨⟨⟨rfl, rfl⟩, hce⟩, hno⟩ := hc
            obtain ⟨zs, hsr, hsp⟩ := hsp
            split at hsp
            · rename_i p v hs hqq
              have hpre : (n = xs.length ∧ p) ∧ rowK hh True v hs K := by
                unfold rowK at hsp ⊢
                split at hsp
                · split at hsp
                  · rename_i hl; rw [if_pos hl]; exact ⟨hsp.1, trivial, hsp.2⟩
                  · exact hsp.elim
                · split at hsp
                  · rename_i hl; rw [if_pos hl]; exact ⟨hsp.1, trivial, hsp.2⟩
                  · exact hsp.elim
              obtain ⟨⟨hnl, hpp⟩, hK⟩ := hpre
              obtain ⟨u, hu1, hu2⟩ := args_del hargs hga hno
              obtain ⟨pb, hpb, _⟩ := ow_R' hu1
              have hR1 := ownOne_R hR hg hpb hce hsr
              obtain ⟨m, A, S0, hA, hS0, hc⟩ := hp _ zs p v hs hqq hpp hno
              have hargs1 := hu2 [pb] (.v (.one (.ow 0 C.esz 0 zs.length false))) (by
                rcases hu1 with h | h
                · cases h
                · refine .inr ?_
                  simp only [SV.val, owVal, hpb] at h
                  simp only [SV.val, owVal, List.getElem?_cons_zero]
                  rw [hsr.hl', ← hnl]
                  exact h)
              refine (call_sound hF hS0.pure hS0.spec hS0.mono hf hc.out (.inl (by simpa using hA)) hR1 hargs1).mono ?_
              rintro e w' ⟨v', av, h', pl0, rfl, hv0, hpe0, hR0, hmt⟩
              rw [MatchTo_eq] at hmt
              have hp0 := hpe0 0 pb rfl
              have hlen1 : 1 ≤ pl0.length := by
                have := (List.getElem?_eq_some_iff.1 hp0).1
                omega
              obtain ⟨pl', hR', hE', hpq⟩ := MatchBy_sound hmt hR0 (tmps := #[v']) ⟨rfl, fun t => by
                cases t with
                | zero => simpa [getD, Array.getD] using hv0
                | succ t => exact any_R pl0 _⟩ hlen1
              have hv' : (v.sh 1).R pl' v' := by simpa [getD, Array.getD] using hE'.2 0
              have hq0 := (hpq 0 (by omega)).trans hp0
              obtain ⟨pl2, rfl⟩ : ∃ pl2, pl' = pb :: pl2 := by
                cases pl' with
                | nil => simp at hq0
                | cons a l => simp at hq0; exact ⟨l, by rw [hq0]⟩
              unfold rowK at hK
              split at hK
              · split at hK
                · rename_i hlow
                  refine ⟨v', v, hh, pl, rfl, ?_, PExt.refl pl, hR.laterO hg hpb hce hsr hR', hK.2⟩
                  rw [AV.sh_low hlow] at hv'
                  have := AV.R_take (n := 0) hlow hv'
                  simp at this
                  exact this.ext (fun b p hb => by simp at hb)
                · exact hK.elim
              · rename_i bb l
                split at hK
                case isFalse => exact hK.elim
                rename_i hnr
                obtain ⟨j1, j2, j3⟩ := hR.joinO hg hpb hce hsr hR' (fun k q y hk hy => by
                  obtain ⟨z, hz, rfl⟩ := shH_get hy
                  rw [Blk.sh_rd]
                  exact noRo_get hnr hz)
                rw [app_eq, len'_eq, ← hR.len] at hK
                refine ⟨v', _, _, _, rfl, AV.sh_R j3 hv', j2, j1, ?_⟩
                rw [AV.sh_add]
                have e2 : shH pl.length (.gone :: shH 1 (bb :: l)) = .gone :: shH (pl.length + 1) (bb :: l) := by
                  show Blk.sh _ .gone :: _ = _
                  rw [shH_add]
                  rfl
                rw [e2]
                exact hK.2
            · exact hsp.elim
          · exact hsp.elim
        · exact hsp.elim
      · exact hsp.elim
    · simp only [Sums.addSp, if_neg e] at hg
      exact h.spec.1 g sp hg
  · by_cases e : g = f
    · subst e
      simp only [Sums.addSp, if_true] at hg
      cases hg
      intro args hh K K' hK hx
      exact ownSpec_mono hK hx
    · simp only [Sums.addSp, if_neg e] at hg
      exact h.mono g sp hg
end
end Go.AM

import Derived.Test.YtbehdodaaobcdaaGreatDoorA21
import Derived.Test.YtbehdodaaobcdaaGreatDoorA31
set_option maxHeartbeats 4000000
open Go Go.AM Go.Proofs
namespace Go.AM
open Dist
def putL : List OpI → OpI → List OpI
  | [], o => [o]
  | x :: l, o => if oC x o < 0 then x :: putL l o else o :: x :: l
def annPut (xs : List OpI) (o : OpI) : Annos := ⟨1, fun id env h =>
  if id = 2 then forceE (keepS [0, 3, 5] 0 env) fun env => some ⟨{ i : Nat // i ≤ xs.length ∧ putL xs o = xs.take i ++ putL (xs.drop i) o }, fun i => (set env 5 (I' (i.1 : Int)), headH 2 h), fun i => xs.length - i.1⟩
  else none, fun _ _ _ => []⟩
end Go.AM
open Go Go.AM Go.Proofs
namespace Go.AM
open Dist
set_option maxRecDepth 100000
def putEx (xs : List OpI) (o : OpI) (i : Nat) : Prop := ((0:Int)<=0/\(0:Int)<=(↑i:Int)/\(↑i:Int)<=(↑xs.length:Int)/\(0+xs.length).le xs.length/\((0:Int)<(↑xs.length:Int)\/(0:Int)=0\/0=0))/\((0+Int.toNat (0:Int)+((↑i:Int)-0).toNat).le xs.length/\(((↑i:Int)-0).toNat*96).le 140737488355328/\((↑i:Int)-0).toNat.le 4611686018427387904)/\(((↑i:Int)-0).toNat=(List.take ((↑i:Int)-0).toNat (List.drop (0+Int.toNat 0) xs)).length/\(((List.take ((↑i:Int)-0).toNat (List.drop (0+Int.toNat 0) xs)).length+1)*96).le 140737488355328/\((List.take ((↑i:Int)-0).toNat (List.drop (0+Int.toNat 0) xs)).length+1).le 4611686018427387904)/\((0:Int)<=(↑i:Int)/\(↑i:Int)<=(↑xs.length:Int)/\(↑xs.length:Int)<=(↑xs.length:Int)/\(0+xs.length).le xs.length/\((↑i:Int)<(↑xs.length:Int)\/(↑i:Int)=0\/0=0))/\((0+(↑i:Int).toNat+((↑xs.length:Int)-(↑i:Int)).toNat).le xs.length/\(List.take ((↑i:Int)-0).toNat (List.drop (0+Int.toNat 0) xs)).length+1=(List.take ((↑i:Int)-0).toNat (List.drop (0+Int.toNat 0) xs)++[o]).length/\(((List.take ((↑i:Int)-0).toNat (List.drop (0+Int.toNat 0) xs)++[o]).length+((↑xs.length:Int)-(↑i:Int)).toNat)*96).le 140737488355328/\((List.take ((↑i:Int)-0).toNat (List.drop (0+Int.toNat 0) xs)++[o]).length+((↑xs.length:Int)-(↑i:Int)).toNat).le 4611686018427387904)/\∃ (z:List cOp.τ),SameRows cOp z cOp (List.take ((↑xs.length:Int)-(↑i:Int)).toNat (List.drop (0+(↑i:Int).toNat) xs))/\((0=0/\(putL xs o).length=(List.take ((↑i:Int)-0).toNat (List.drop (0+Int.toNat 0) xs)++[o]).length+((↑xs.length:Int)-(↑i:Int)).toNat)/\True)/\SameRows cOp xs cOp xs/\SameRows cOp (putL xs o) cOp (List.take ((↑i:Int)-0).toNat (List.drop (0+Int.toNat 0) xs)++[o]++z)/\True
theorem nfput (xs : List OpI) (o : OpI) : call P T1 (annPut xs o) 100000 Tryz.f113 [.v (.one (.ow 0 12 0 xs.length false)), .v (.agg (opS o))] [.own 45 cOp xs] (fun v h => MatchTo 1 [v] h ([.v (.one (.ow 1 12 0 (putL xs o).length false))], [.own 45 cOp xs, .own 45 cOp (putL xs o)])) = ((∃ (z : { i:Nat//i<=xs.length/\putL xs o=List.take i xs++putL (List.drop i xs) o }),((0=0/\xs.length=xs.length)/\(↑z.1:Int)=0/\True)/\SameRows cOp xs cOp xs/\(o.a=o.a/\o.b=o.b/\o.c=o.c/\o.d=o.d/\o.e=o.e/\o.f=o.f/\o.g=o.g/\o.h=o.h/\o.i=o.i/\o.x=o.x/\o.y=o.y/\o.z=o.z/\True)/\True)/\∀ (x : { i:Nat//i<=xs.length/\putL xs o=List.take i xs++putL (List.drop i xs) o }),(decide ((↑x.1:Int)<(↑xs.length:Int))=true->((0:Int)<=(↑x.1:Int)/\(↑x.1:Int)<(↑xs.length:Int))/\(0+(↑x.1:Int).toNat).succ.le xs.length/\(decide (oC (xs.getD (0+(↑x.1:Int).toNat) cOp.d) o<0)=true->∃ (z : { i:Nat//i<=xs.length/\putL xs o=List.take i xs++putL (List.drop i xs) o }),(xs.length-z.1).succ.le (xs.length-x.1)/\((0=0/\xs.length=xs.length)/\(↑z.1:Int)=IntKind.i64.wrap ((↑x.1:Int)+1)/\True)/\SameRows cOp xs cOp xs/\(o.a=o.a/\o.b=o.b/\o.c=o.c/\o.d=o.d/\o.e=o.e/\o.f=o.f/\o.g=o.g/\o.h=o.h/\o.i=o.i/\o.x=o.x/\o.y=o.y/\o.z=o.z/\True)/\True)/\(decide (oC (xs.getD (0+(↑x.1:Int).toNat) cOp.d) o<0)=false->putEx xs o x.1))/\(decide ((↑x.1:Int)<(↑xs.length:Int))=false->putEx xs o x.1)) := by kernel_rfl
theorem putL_app {xs : List OpI} {o : OpI} {i : Nat} (h : putL xs o = xs.take i ++ putL (xs.drop i) o) (hi : i ≤ xs.length) (hs : i < xs.length → ¬ oC (gt xs i) o < 0) : putL xs o = xs.take i ++ [o] ++ xs.drop i := by
  rw [h]
  by_cases hl : i < xs.length
  · rw [drop_gt hl, putL, if_neg (hs hl)]
    simp
  · rw [List.drop_of_length_le (by omega)]
    simp [putL]
theorem put_ex {xs : List OpI} {o : OpI} {i : Nat} (hi : i ≤ xs.length) (hl : xs.length ≤ 1000) (h : putL xs o = xs.take i ++ [o] ++ xs.drop i) : putEx xs o i := by
  unfold putEx
  have e1 : ((i : Int) - 0).toNat = i := by omega
  have e2 : ((xs.length : Int) - i).toNat = xs.length - i := by omega
  have e3 : (0 : Nat) + Int.toNat (0 : Int) = 0 := rfl
  have e4 : (i : Int).toNat = i := rfl
  have e5 : (List.take i xs).length = i := by rw [List.length_take]; omega
  rw [e1, e2, e3, e4, List.drop_zero]
  have e6 : (List.take i xs ++ [o]).length = i + 1 := by rw [List.length_append, e5]; rfl
  have e7 : List.take (xs.length - i) (List.drop i xs) = List.drop i xs := List.take_of_length_le (by rw [List.length_drop]; omega)
  simp only [Nat.zero_add]
  rw [e5, e6, e7]
  refine ⟨⟨by omega, by omega, by omega, Nat.le_refl _, .inr (.inl trivial)⟩, ⟨by show i ≤ _; omega, by show i * 96 ≤ _; omega, by show i ≤ _; omega⟩, ⟨rfl, by show (i + 1) * 96 ≤ _; omega, by show i + 1 ≤ _; omega⟩, ⟨by omega, by omega, Int.le_refl _, Nat.le_refl _, ?_⟩, ⟨by show i + (xs.length - i) ≤ _; omega, rfl, by show (i + 1 + (xs.length - i)) * 96 ≤ _; omega, by show i + 1 + (xs.length - i) ≤ _; omega⟩, List.drop i xs, sameR _ _, ⟨⟨trivial, ?_⟩, trivial⟩, sameR _ _, ?_, trivial⟩
  · exact .inr (.inr trivial)
  · rw [h, List.length_append, e6, List.length_drop]
  · rw [h]; exact sameR _ _
theorem put_nf {xs : List OpI} {o : OpI} (hl : xs.length ≤ 1000) : ((∃ (z : { i : Nat // i ≤ xs.length ∧ putL xs o = List.take i xs ++ putL (List.drop i xs) o }), (((0 : Nat) = (0 : Nat) ∧ xs.length = xs.length) ∧ (↑z.val : Int) = (0 : Int) ∧ True) ∧ SameRows cOp xs cOp xs ∧ (o.a = o.a ∧ o.b = o.b ∧ o.c = o.c ∧ o.d = o.d ∧ o.e = o.e ∧ o.f = o.f ∧ o.g = o.g ∧ o.h = o.h ∧ o.i = o.i ∧ o.x = o.x ∧ o.y = o.y ∧ o.z = o.z ∧ True) ∧ True) ∧ ∀ (x : { i : Nat // i ≤ xs.length ∧ putL xs o = List.take i xs ++ putL (List.drop i xs) o }), (decide ((↑x.val : Int) < (↑xs.length : Int)) = true → ((0 : Int) ≤ (↑x.val : Int) ∧ (↑x.val : Int) < (↑xs.length : Int)) ∧ ((0 : Nat) + (↑x.val : Int).toNat).succ.le xs.length ∧ (decide (oC (xs.getD ((0 : Nat) + (↑x.val : Int).toNat) cOp.d) o < (0 : Int)) = true → ∃ (z : { i : Nat // i ≤ xs.length ∧ putL xs o = List.take i xs ++ putL (List.drop i xs) o }), (xs.length - z.val).succ.le (xs.length - x.val) ∧ (((0 : Nat) = (0 : Nat) ∧ xs.length = xs.length) ∧ (↑z.val : Int) = IntKind.i64.wrap ((↑x.val : Int) + (1 : Int)) ∧ True) ∧ SameRows cOp xs cOp xs ∧ (o.a = o.a ∧ o.b = o.b ∧ o.c = o.c ∧ o.d = o.d ∧ o.e = o.e ∧ o.f = o.f ∧ o.g = o.g ∧ o.h = o.h ∧ o.i = o.i ∧ o.x = o.x ∧ o.y = o.y ∧ o.z = o.z ∧ True) ∧ True) ∧ (decide (oC (xs.getD ((0 : Nat) + (↑x.val : Int).toNat) cOp.d) o < (0 : Int)) = false → putEx xs o x.val)) ∧ (decide ((↑x.val : Int) < (↑xs.length : Int)) = false → putEx xs o x.val)) := by
  refine ⟨⟨⟨0, Nat.zero_le _, by simp⟩, ⟨⟨rfl, rfl⟩, rfl, trivial⟩, sameR _ _, ⟨rfl, rfl, rfl, rfl, rfl, rfl, rfl, rfl, rfl, rfl, rfl, rfl, trivial⟩, trivial⟩, fun x => ⟨fun hk => ?_, fun hk => ?_⟩⟩
  · obtain ⟨i, h1, h2⟩ := x
    have hk : (i : Int) < xs.length := of_decide_eq_true hk
    have hk' : i < xs.length := by omega
    have eg : xs.getD ((0 : Nat) + (i : Int).toNat) cOp.d = gt xs i := by rw [Nat.zero_add]; rfl
    refine ⟨⟨by show (0 : Int) ≤ (i : Int); omega, hk⟩, by show 0 + i < xs.length; omega, fun hc => ?_, fun hc => ?_⟩
    · have hc : oC (gt xs i) o < 0 := by rw [← eg]; exact of_decide_eq_true hc
      have w3 := wr_id (n := (i : Int) + 1) (by omega) (by omega)
      refine ⟨⟨i + 1, hk', ?_⟩, show xs.length - (i + 1) < xs.length - i by omega, ⟨⟨rfl, rfl⟩, w3.symm, trivial⟩, sameR _ _, ⟨rfl, rfl, rfl, rfl, rfl, rfl, rfl, rfl, rfl, rfl, rfl, rfl, trivial⟩, trivial⟩
      rw [h2, drop_gt hk', putL, if_pos hc]
      have : xs.take (i + 1) = xs.take i ++ [gt xs i] := by
        rw [List.take_add_one]
        congr 1
        unfold gt
        rw [List.getD_eq_getElem?_getD, List.getElem?_eq_getElem hk']
        rfl
      rw [this, List.append_assoc]
      rfl
    · have hc : ¬ oC (gt xs i) o < 0 := by rw [← eg]; exact of_decide_eq_false hc
      exact put_ex h1 hl (putL_app h2 h1 fun _ => hc)
  · obtain ⟨i, h1, h2⟩ := x
    have hk : ¬ (i : Int) < xs.length := of_decide_eq_false hk
    exact put_ex h1 hl (putL_app h2 h1 fun h => absurd (show (i : Int) < xs.length by have : i < xs.length := h; omega) hk)
theorem callPut {xs : List OpI} {o : OpI} (hl : xs.length ≤ 1000) : CallR P T1 (annPut xs o) 100000 Tryz.f113 [.v (.one (.ow 0 12 0 xs.length false)), .v (.agg (opS o))] [.own 45 cOp xs] (fun v h => MatchTo 1 [v] h ([.v (.one (.ow 1 12 0 (putL xs o).length false))], [.own 45 cOp xs, .own 45 cOp (putL xs o)])) :=
  ⟨(nfput xs o).mpr (put_nf hl)⟩
def qPut : RSpec cOp := fun os xs => match os with
  | [.v (.agg [.sym .i64 a, .sym .i64 b, .sym .i64 c, .sym .i64 d, .sym .i64 e, .sym .i64 f, .sym .i64 g, .sym .i64 h, .sym .i64 i, .sym .i64 x, .sym .i64 y, .sym .i64 z])] =>
    some (xs.length ≤ 1000, .v (.one (.ow 0 12 0 (putL xs ⟨a, b, c, d, e, f, g, h, i, x, y, z⟩).length false)), [.own 45 cOp (putL xs ⟨a, b, c, d, e, f, g, h, i, x, y, z⟩)])
  | _ => none
theorem hoPut : HoldsRO P 113 0 45 cOp qPut := by
  refine ⟨_, Tryz.func113, by kernel_rfl, fun os xs p v hs hq hp hno => ?_⟩
  unfold qPut at hq
  split at hq
  · rename_i a b c d e f g h i x y z
    cases hq
    exact ⟨100000, annPut xs ⟨a, b, c, d, e, f, g, h, i, x, y, z⟩, T1, rfl, pT1, callPut (o := ⟨a, b, c, d, e, f, g, h, i, x, y, z⟩) hp⟩
  · cases hq
def T2 : Sums := T1.addSp 113 (ownSpec 0 45 cOp qPut)
theorem pT2 : OkS P T2 := pT1.addOwn fine hoPut
end Go.AM
open Go Go.AM Go.Proofs
namespace Go.AM
open Dist
def innerD (a : OpI) : List OpI → List OpI → Option (List OpI)
  | [], all => some all
  | o :: l, all => if rO a o ∈ all then innerD a l all else if ovO (rO a o) = true ∨ all.length = 192 then none else innerD a l (all ++ [rO a o])
def outerD (xs : List OpI) : Nat → Nat → List OpI → Option (List OpI)
  | 0, _, all => some all
  | n + 1, i, all => if i < all.length then (match innerD (gt all i) xs all with
    | some l => outerD xs n (i + 1) l
    | none => none) else some all
def closeD (xs : List OpI) : Option (List OpI) := outerD xs 193 0 [oneO]
def srtL (l : List OpI) : List OpI := l.foldl putL []
def dclR (xs : List OpI) : List OpI := match closeD xs with
  | some l => srtL l
  | none => []
def contD (xs : List OpI) (n i : Nat) : Option (List OpI) → Option (List OpI)
  | some l => outerD xs n (i + 1) l
  | none => none
def annDCl (xs : List OpI) : Annos := ⟨1, fun id env h =>
  if id = 4 then forceE (keepS [0] 0 env) fun env => some ⟨{ p : Nat × List OpI // p.1 ≤ p.2.length ∧ p.2.length ≤ 192 ∧ closeD xs = outerD xs (193 - p.1) p.1 p.2 },
    fun p => (set (set (set env 4 (.v (.one (.ow 1 12 0 p.1.2.length false)))) 5 (.v (.one (.ow 2 12 0 (srtL p.1.2).length false)))) 6 (I' (p.1.1 : Int)), app (headH 1 h) [.own 45 cOp p.1.2, .own 45 cOp (srtL p.1.2)]), fun p => 192 - p.1.1⟩
  else if id = 7 then forceE (keepS [0, 6, 20, 21] 0 env) fun env => withI (getD env 6 AV.any) fun i => some ⟨{ p : Nat × List OpI // p.1 ≤ xs.length ∧ i.toNat < p.2.length ∧ p.2.length ≤ 192 ∧ closeD xs = contD xs (192 - i.toNat) i.toNat (innerD (gt p.2 i.toNat) (xs.drop p.1) p.2) },
    fun p => (set (set (set env 4 (.v (.one (.ow 1 12 0 p.1.2.length false)))) 5 (.v (.one (.ow 2 12 0 (srtL p.1.2).length false)))) 22 (I' (p.1.1 : Int)), app (headH 1 h) [.own 45 cOp p.1.2, .own 45 cOp (srtL p.1.2)]), fun p => xs.length - p.1.1⟩
  else none, fun _ _ _ => []⟩
end Go.AM
open Go Go.AM Go.Proofs
namespace Go.AM
open Dist
set_option maxRecDepth 100000
def dclNF (xs : List OpI) (c : Nat) : Prop := ((∃ (z : { p:Nat × List OpI//p.1<=p.2.length/\p.2.length<=192/\closeD xs=outerD xs (193-p.1) p.1 p.2 }),((xs.length=xs.length/\c=c)/\(0=0/\z.1.2.length=1)/\(0=0/\(srtL z.1.2).length=1)/\(↑z.1.1:Int)=0/\True)/\SameRows cOp xs cOp xs/\SameLit [(2,2),(0+1,0+1),(0,0)] cOp z.1.2 1 [.sym .i64 oneO.a,.sym .i64 oneO.b,.sym .i64 oneO.c,.sym .i64 oneO.d,.sym .i64 oneO.e,.sym .i64 oneO.f,.sym .i64 oneO.g,.sym .i64 oneO.h,.sym .i64 oneO.i,.sym .i64 oneO.x,.sym .i64 oneO.y,.sym .i64 oneO.z]/\SameLit [(2,2),(0+1,0+1),(0,0)] cOp (srtL z.1.2) 1 [.sym .i64 oneO.a,.sym .i64 oneO.b,.sym .i64 oneO.c,.sym .i64 oneO.d,.sym .i64 oneO.e,.sym .i64 oneO.f,.sym .i64 oneO.g,.sym .i64 oneO.h,.sym .i64 oneO.i,.sym .i64 oneO.x,.sym .i64 oneO.y,.sym .i64 oneO.z]/\True)/\∀ (x : { p:Nat × List OpI//p.1<=p.2.length/\p.2.length<=192/\closeD xs=outerD xs (193-p.1) p.1 p.2 }),(decide ((↑x.1.1:Int)<(↑x.1.2.length:Int))=true->(∃ (z : { p:Nat × List OpI//p.1<=xs.length/\(↑x.1.1:Int).toNat<p.2.length/\p.2.length<=192/\closeD xs=contD xs (192-(↑x.1.1:Int).toNat) (↑x.1.1:Int).toNat (innerD (gt p.2 (↑x.1.1:Int).toNat) (List.drop p.1 xs) p.2) }),((xs.length=xs.length/\c=c)/\(0=0/\z.1.2.length=x.1.2.length)/\(0=0/\(srtL z.1.2).length=(srtL x.1.2).length)/\(↑x.1.1:Int)=(↑x.1.1:Int)/\(xs.length=xs.length/\c=c)/\(↑xs.length:Int)=(↑xs.length:Int)/\(↑z.1.1:Int)=0/\True)/\SameRows cOp xs cOp xs/\SameRows cOp z.1.2 cOp x.1.2/\SameRows cOp (srtL z.1.2) cOp (srtL x.1.2)/\True)/\∀ (x_1 : { p:Nat × List OpI//p.1<=xs.length/\(↑x.1.1:Int).toNat<p.2.length/\p.2.length<=192/\closeD xs=contD xs (192-(↑x.1.1:Int).toNat) (↑x.1.1:Int).toNat (innerD (gt p.2 (↑x.1.1:Int).toNat) (List.drop p.1 xs) p.2) }),(decide ((↑x_1.1.1:Int)<(↑xs.length:Int))=true->((0:Int)<=(↑x_1.1.1:Int)/\(↑x_1.1.1:Int)<(↑xs.length:Int))/\(↑x_1.1.1:Int).toNat.succ.le xs.length/\((0:Int)<=(↑x.1.1:Int)/\(↑x.1.1:Int)<(↑x_1.1.2.length:Int))/\(0+(↑x.1.1:Int).toNat).succ.le x_1.1.2.length/\∃ (z:List cOp.τ),SameRows cOp z cOp (List.take x_1.1.2.length (List.drop 0 x_1.1.2))/\((0+x_1.1.2.length).le x_1.1.2.length/\z.length.le 4611686018427387904)/\(decide ((0:Int)<=placeI z (rO (x_1.1.2.getD (0+(↑x.1.1:Int).toNat) cOp.d) (gt xs x_1.1.1)))=true->∃ (z : { p:Nat × List OpI//p.1<=xs.length/\(↑x.1.1:Int).toNat<p.2.length/\p.2.length<=192/\closeD xs=contD xs (192-(↑x.1.1:Int).toNat) (↑x.1.1:Int).toNat (innerD (gt p.2 (↑x.1.1:Int).toNat) (List.drop p.1 xs) p.2) }),(xs.length-z.1.1).succ.le (xs.length-x_1.1.1)/\((xs.length=xs.length/\c=c)/\(0=0/\z.1.2.length=x_1.1.2.length)/\(0=0/\(srtL z.1.2).length=(srtL x_1.1.2).length)/\(↑x.1.1:Int)=(↑x.1.1:Int)/\(xs.length=xs.length/\c=c)/\(↑xs.length:Int)=(↑xs.length:Int)/\(↑z.1.1:Int)=IntKind.i64.wrap ((↑x_1.1.1:Int)+1)/\True)/\SameRows cOp xs cOp xs/\SameRows cOp z.1.2 cOp x_1.1.2/\SameRows cOp (srtL z.1.2) cOp (srtL x_1.1.2)/\True)/\(decide ((0:Int)<=placeI z (rO (x_1.1.2.getD (0+(↑x.1.1:Int).toNat) cOp.d) (gt xs x_1.1.1)))=false->((!!over9 (rO (x_1.1.2.getD (0+(↑x.1.1:Int).toNat) cOp.d) (gt xs x_1.1.1)).a (rO (x_1.1.2.getD (0+(↑x.1.1:Int).toNat) cOp.d) (gt xs x_1.1.1)).b (rO (x_1.1.2.getD (0+(↑x.1.1:Int).toNat) cOp.d) (gt xs x_1.1.1)).c (rO (x_1.1.2.getD (0+(↑x.1.1:Int).toNat) cOp.d) (gt xs x_1.1.1)).d (rO (x_1.1.2.getD (0+(↑x.1.1:Int).toNat) cOp.d) (gt xs x_1.1.1)).e (rO (x_1.1.2.getD (0+(↑x.1.1:Int).toNat) cOp.d) (gt xs x_1.1.1)).f (rO (x_1.1.2.getD (0+(↑x.1.1:Int).toNat) cOp.d) (gt xs x_1.1.1)).g (rO (x_1.1.2.getD (0+(↑x.1.1:Int).toNat) cOp.d) (gt xs x_1.1.1)).h (rO (x_1.1.2.getD (0+(↑x.1.1:Int).toNat) cOp.d) (gt xs x_1.1.1)).i)=true->(((0=0/\(dclR xs).length=0)/\(closeD xs).isSome=false/\True)/\True)/\SameRows cOp xs cOp xs/\(dclR xs).length=0/\True)/\((!!over9 (rO (x_1.1.2.getD (0+(↑x.1.1:Int).toNat) cOp.d) (gt xs x_1.1.1)).a (rO (x_1.1.2.getD (0+(↑x.1.1:Int).toNat) cOp.d) (gt xs x_1.1.1)).b (rO (x_1.1.2.getD (0+(↑x.1.1:Int).toNat) cOp.d) (gt xs x_1.1.1)).c (rO (x_1.1.2.getD (0+(↑x.1.1:Int).toNat) cOp.d) (gt xs x_1.1.1)).d (rO (x_1.1.2.getD (0+(↑x.1.1:Int).toNat) cOp.d) (gt xs x_1.1.1)).e (rO (x_1.1.2.getD (0+(↑x.1.1:Int).toNat) cOp.d) (gt xs x_1.1.1)).f (rO (x_1.1.2.getD (0+(↑x.1.1:Int).toNat) cOp.d) (gt xs x_1.1.1)).g (rO (x_1.1.2.getD (0+(↑x.1.1:Int).toNat) cOp.d) (gt xs x_1.1.1)).h (rO (x_1.1.2.getD (0+(↑x.1.1:Int).toNat) cOp.d) (gt xs x_1.1.1)).i)=false->(decide ((↑x_1.1.2.length:Int)=192)=true->(((0=0/\(dclR xs).length=0)/\(closeD xs).isSome=false/\True)/\True)/\SameRows cOp xs cOp xs/\(dclR xs).length=0/\True)/\(decide ((↑x_1.1.2.length:Int)=192)=false->(x_1.1.2.length=x_1.1.2.length/\((x_1.1.2.length+1)*96).le 140737488355328/\(x_1.1.2.length+1).le 4611686018427387904)/\∃ (z:List cOp.τ),SameRows cOp z cOp (srtL x_1.1.2)/\((srtL x_1.1.2).length=(srtL x_1.1.2).length/\z.length.le 1000)/\∃ (z_1 : { p:Nat × List OpI//p.1<=xs.length/\(↑x.1.1:Int).toNat<p.2.length/\p.2.length<=192/\closeD xs=contD xs (192-(↑x.1.1:Int).toNat) (↑x.1.1:Int).toNat (innerD (gt p.2 (↑x.1.1:Int).toNat) (List.drop p.1 xs) p.2) }),(xs.length-z_1.1.1).succ.le (xs.length-x_1.1.1)/\((xs.length=xs.length/\c=c)/\(0=0/\z_1.1.2.length=x_1.1.2.length+1)/\(0=0/\(srtL z_1.1.2).length=(putL z (rO (x_1.1.2.getD (0+(↑x.1.1:Int).toNat) cOp.d) (gt xs x_1.1.1))).length)/\(↑x.1.1:Int)=(↑x.1.1:Int)/\(xs.length=xs.length/\c=c)/\(↑xs.length:Int)=(↑xs.length:Int)/\(↑z_1.1.1:Int)=IntKind.i64.wrap ((↑x_1.1.1:Int)+1)/\True)/\SameRows cOp xs cOp xs/\SameRows cOp z_1.1.2 cOp (x_1.1.2++[(rO (x_1.1.2.getD (0+(↑x.1.1:Int).toNat) cOp.d) (gt xs x_1.1.1))])/\SameRows cOp (srtL z_1.1.2) cOp (putL z (rO (x_1.1.2.getD (0+(↑x.1.1:Int).toNat) cOp.d) (gt xs x_1.1.1)))/\True))))/\(decide ((↑x_1.1.1:Int)<(↑xs.length:Int))=false->∃ (z : { p:Nat × List OpI//p.1<=p.2.length/\p.2.length<=192/\closeD xs=outerD xs (193-p.1) p.1 p.2 }),(192-z.1.1).succ.le (192-x.1.1)/\((xs.length=xs.length/\c=c)/\(0=0/\z.1.2.length=x_1.1.2.length)/\(0=0/\(srtL z.1.2).length=(srtL x_1.1.2).length)/\(↑z.1.1:Int)=IntKind.i64.wrap ((↑x.1.1:Int)+1)/\True)/\SameRows cOp xs cOp xs/\SameRows cOp z.1.2 cOp x_1.1.2/\SameRows cOp (srtL z.1.2) cOp (srtL x_1.1.2)/\True))/\(decide ((↑x.1.1:Int)<(↑x.1.2.length:Int))=false->(((0=0/\(dclR xs).length=(srtL x.1.2).length)/\(closeD xs).isSome=true/\True)/\True)/\SameRows cOp xs cOp xs/\SameRows cOp (dclR xs) cOp (srtL x.1.2)/\True))
theorem nfdclose (xs : List OpI) (c : Nat) : call P T2 (annDCl xs) 100000 Tryz.f71 [.v (.one (.rs 0 12 xs.length c))] [.ro 0 cOp xs] (fun v h => MatchTo 1 [v] h ([.tup [.one (.ow 1 12 0 (dclR xs).length false), .one (.sb (closeD xs).isSome)]], [.ro 0 cOp xs, .own 45 cOp (dclR xs)])) = dclNF xs c := by kernel_rfl
theorem putL_len : ∀ (l : List OpI) (o : OpI), (putL l o).length = l.length + 1
  | [], _ => rfl
  | x :: l, o => by
    unfold putL
    split
    · simp [putL_len l o]
    · simp
theorem foldl_put_len : ∀ (l acc : List OpI), (l.foldl putL acc).length = acc.length + l.length
  | [], _ => rfl
  | o :: l, acc => by
    show (l.foldl putL (putL acc o)).length = _
    rw [foldl_put_len l, putL_len, List.length_cons]
    omega
theorem srtL_len (l : List OpI) : (srtL l).length = l.length := by
  unfold srtL
  rw [foldl_put_len]
  simp
theorem srtL_snoc (l : List OpI) (o : OpI) : srtL (l ++ [o]) = putL (srtL l) o := by
  unfold srtL
  rw [List.foldl_append]
  rfl
theorem outerD_end {xs all : List OpI} {i : Nat} (h : ¬ i < all.length) : ∀ n, outerD xs n i all = some all
  | 0 => rfl
  | n + 1 => by unfold outerD; rw [if_neg h]
theorem outerD_in {xs all : List OpI} {i : Nat} (h : i < all.length) (hl : all.length ≤ 192) : outerD xs (193 - i) i all = contD xs (192 - i) i (innerD (gt all i) xs all) := by
  have e : 193 - i = (192 - i) + 1 := by omega
  rw [e]
  conv => lhs; unfold outerD
  rw [if_pos h]
  rfl
theorem gtD_app {all : List OpI} {p : OpI} {i : Nat} (h : i < all.length) : gt (all ++ [p]) i = gt all i := by
  unfold gt
  simp [List.getD_eq_getElem?_getD, List.getElem?_append_left h]
theorem placeI_pos {xs : List OpI} {o : OpI} : 0 ≤ placeI xs o ↔ o ∈ xs := by
  have := @placeI_neg xs o
  constructor
  · intro h
    exact Classical.byContradiction fun hn => by have := this.2 hn; omega
  · intro h
    exact Classical.byContradiction fun h1 => this.1 (by omega) h
theorem dcl_nf {xs : List OpI} {c : Nat} (h192 : xs.length ≤ 192) : dclNF xs c := by
  unfold dclNF
  have nope : closeD xs = none → ((((0 : Nat) = (0 : Nat) ∧ (dclR xs).length = (0 : Nat)) ∧ (closeD xs).isSome = false ∧ True) ∧ True) ∧ SameRows cOp xs cOp xs ∧ (dclR xs).length = (0 : Nat) ∧ True := fun h5 => by
    have e : dclR xs = [] := by unfold dclR; rw [h5]
    exact ⟨⟨⟨⟨rfl, by rw [e]; rfl⟩, by rw [h5]; rfl, trivial⟩, trivial⟩, sameR _ _, by rw [e]; rfl, trivial⟩
  refine ⟨⟨⟨(0, [oneO]), Nat.zero_le _, by decide, rfl⟩, ⟨⟨rfl, rfl⟩, ⟨rfl, rfl⟩, ⟨rfl, rfl⟩, rfl, trivial⟩, sameR _ _, ⟨rfl, (show eqsL _ (flatC cOp [oneO]) _ = ((1 : Int) = 1 ∧ (0 : Int) = 0 ∧ (0 : Int) = 0 ∧ (0 : Int) = 0 ∧ (1 : Int) = 1 ∧ (0 : Int) = 0 ∧ (0 : Int) = 0 ∧ (0 : Int) = 0 ∧ (1 : Int) = 1 ∧ (0 : Int) = 0 ∧ (0 : Int) = 0 ∧ (0 : Int) = 0 ∧ True) by kernel_rfl).mpr ⟨rfl, rfl, rfl, rfl, rfl, rfl, rfl, rfl, rfl, rfl, rfl, rfl, trivial⟩⟩, ⟨rfl, (show eqsL _ (flatC cOp [oneO]) _ = ((1 : Int) = 1 ∧ (0 : Int) = 0 ∧ (0 : Int) = 0 ∧ (0 : Int) = 0 ∧ (1 : Int) = 1 ∧ (0 : Int) = 0 ∧ (0 : Int) = 0 ∧ (0 : Int) = 0 ∧ (1 : Int) = 1 ∧ (0 : Int) = 0 ∧ (0 : Int) = 0 ∧ (0 : Int) = 0 ∧ True) by kernel_rfl).mpr ⟨rfl, rfl, rfl, rfl, rfl, rfl, rfl, rfl, rfl, rfl, rfl, rfl, trivial⟩⟩, trivial⟩, fun x => ⟨fun hk => ?_, fun hk => ?_⟩⟩
  · obtain ⟨⟨i, al⟩, h1, h2, h4⟩ := x
    have h1 : i ≤ al.length := h1
    have h2 : al.length ≤ 192 := h2
    have h4 : closeD xs = outerD xs (193 - i) i al := h4
    have hk : (i : Int) < al.length := of_decide_eq_true hk
    have hk' : i < al.length := by omega
    rw [outerD_in hk' h2] at h4
    refine ⟨⟨⟨(0, al), Nat.zero_le _, hk', h2, h4⟩, ⟨⟨rfl, rfl⟩, ⟨rfl, rfl⟩, ⟨rfl, rfl⟩, rfl, ⟨rfl, rfl⟩, rfl, rfl, trivial⟩, sameR _ _, sameR _ _, sameR _ _, trivial⟩, fun y => ⟨fun hm => ?_, fun hm => ?_⟩⟩
    · obtain ⟨⟨j, bl⟩, g1, g2, g3, g5⟩ := y
      have g1 : j ≤ xs.length := g1
      have g2 : i < bl.length := g2
      have g3 : bl.length ≤ 192 := g3
      have g5 : closeD xs = contD xs (192 - i) i (innerD (gt bl i) (xs.drop j) bl) := g5
      have hm : (j : Int) < xs.length := of_decide_eq_true hm
      have hm' : j < xs.length := by omega
      have w3 := wr_id (n := (j : Int) + 1) (by omega) (by omega)
      rw [drop_gt hm'] at g5
      have eg : bl.getD (0 + i) cOp.d = gt bl i := by rw [Nat.zero_add]; rfl
      refine ⟨⟨by show (0 : Int) ≤ (j : Int); omega, hm⟩, hm', ⟨by show (0 : Int) ≤ (i : Int); omega, by show (i : Int) < (bl.length : Int); omega⟩, by show 0 + i < bl.length; omega, bl, by rw [List.drop_zero, List.take_length]; exact sameR _ _, ⟨by show 0 + _ ≤ _; omega, by show bl.length ≤ _; omega⟩, fun hp => ?_, fun hp => ?_⟩
      · have hp : 0 ≤ placeI bl (rO (gt bl i) (gt xs j)) := by rw [← eg]; exact of_decide_eq_true hp
        have hin := placeI_pos.1 hp
        have g6 : closeD xs = contD xs (192 - i) i (innerD (gt bl i) (xs.drop (j + 1)) bl) := by
          rw [g5]
          conv => lhs; unfold innerD
          rw [if_pos hin]
        exact ⟨⟨(j + 1, bl), hm', g2, g3, g6⟩, show xs.length - (j + 1) < xs.length - j by omega, ⟨⟨rfl, rfl⟩, ⟨rfl, rfl⟩, ⟨rfl, rfl⟩, rfl, ⟨rfl, rfl⟩, rfl, w3.symm, trivial⟩, sameR _ _, sameR _ _, sameR _ _, trivial⟩
      · have hp : ¬ 0 ≤ placeI bl (rO (gt bl i) (gt xs j)) := by rw [← eg]; exact of_decide_eq_false hp
        have hin : rO (gt bl i) (gt xs j) ∉ bl := fun h => hp (placeI_pos.2 h)
        have g6 : closeD xs = contD xs (192 - i) i (if ovO (rO (gt bl i) (gt xs j)) = true ∨ bl.length = 192 then none else innerD (gt bl i) (xs.drop (j + 1)) (bl ++ [rO (gt bl i) (gt xs j)])) := by
          rw [g5]
          conv => lhs; unfold innerD
          rw [if_neg hin]
        refine ⟨fun hv => ?_, fun hv => ⟨fun hn => ?_, fun hn => ?_⟩⟩
        · have hv : ovO (rO (gt bl i) (gt xs j)) = true := by
            rw [← eg]
            rw [Bool.not_not] at hv
            exact hv
          rw [if_pos (.inl hv)] at g6
          exact nope g6
        · have hn : (bl.length : Int) = 192 := of_decide_eq_true hn
          rw [if_pos (.inr (by omega))] at g6
          exact nope g6
        · have hv : ovO (rO (gt bl i) (gt xs j)) = false := by
            rw [← eg]
            rw [Bool.not_not] at hv
            exact hv
          have hn : ¬ (bl.length : Int) = 192 := of_decide_eq_false hn
          rw [if_neg (by rintro (h | h); rw [hv] at h; cases h; omega)] at g6
          refine ⟨⟨rfl, by show (bl.length + 1) * 96 ≤ _; omega, by show bl.length + 1 ≤ _; omega⟩, srtL bl, sameR _ _, ⟨rfl, by rw [srtL_len]; show bl.length ≤ _; omega⟩, ⟨(j + 1, bl ++ [rO (gt bl i) (gt xs j)]), hm', ?_, ?_, ?_⟩, show xs.length - (j + 1) < xs.length - j by omega, ⟨⟨rfl, rfl⟩, ⟨rfl, ?_⟩, ⟨rfl, ?_⟩, rfl, ⟨rfl, rfl⟩, rfl, w3.symm, trivial⟩, sameR _ _, ?_, ?_, trivial⟩
          · show i < (bl ++ [_]).length
            rw [List.length_append]
            omega
          · show (bl ++ [_]).length ≤ 192
            rw [List.length_append, List.length_singleton]
            omega
          · show closeD xs = contD xs (192 - i) i (innerD (gt (bl ++ [_]) i) (xs.drop (j + 1)) (bl ++ [_]))
            rw [gtD_app g2]
            exact g6
          · show (bl ++ [_]).length = bl.length + 1
            rw [List.length_append]
            rfl
          · show (srtL (bl ++ [_])).length = _
            rw [srtL_snoc, putL_len, putL_len]
          · show SameRows cOp (bl ++ [_]) cOp (bl ++ [rO (bl.getD (0 + i) cOp.d) (gt xs j)])
            rw [eg]
            exact sameR _ _
          · show SameRows cOp (srtL (bl ++ [_])) cOp (putL (srtL bl) (rO (bl.getD (0 + i) cOp.d) (gt xs j)))
            rw [eg, srtL_snoc]
            exact sameR _ _
    · obtain ⟨⟨j, bl⟩, g1, g2, g3, g5⟩ := y
      have g1 : j ≤ xs.length := g1
      have g2 : i < bl.length := g2
      have g3 : bl.length ≤ 192 := g3
      have g5 : closeD xs = contD xs (192 - i) i (innerD (gt bl i) (xs.drop j) bl) := g5
      have hm : ¬ (j : Int) < xs.length := of_decide_eq_false hm
      obtain rfl : j = xs.length := by omega
      rw [List.drop_length] at g5
      have w3 := wr_id (n := (i : Int) + 1) (by omega) (by omega)
      have e : 192 - i = 193 - (i + 1) := by omega
      refine ⟨⟨(i + 1, bl), g2, g3, ?_⟩, show 192 - (i + 1) < 192 - i by omega, ⟨⟨rfl, rfl⟩, ⟨rfl, rfl⟩, ⟨rfl, rfl⟩, w3.symm, trivial⟩, sameR _ _, sameR _ _, sameR _ _, trivial⟩
      rw [← e]
      exact g5
  · obtain ⟨⟨i, al⟩, h1, h2, h4⟩ := x
    have h4 : closeD xs = outerD xs (193 - i) i al := h4
    have hk : ¬ (i : Int) < al.length := of_decide_eq_false hk
    rw [outerD_end (by omega)] at h4
    have e : dclR xs = srtL al := by unfold dclR; rw [h4]
    exact ⟨⟨⟨⟨rfl, by rw [e]⟩, by rw [h4]; rfl, trivial⟩, trivial⟩, sameR _ _, by rw [e]; exact sameR _ _, trivial⟩
theorem callDCl {xs : List OpI} {c : Nat} (hl : xs.length ≤ 192) : CallR P T2 (annDCl xs) 100000 Tryz.f71 [.v (.one (.rs 0 12 xs.length c))] [.ro 0 cOp xs] (fun v h => MatchTo 1 [v] h ([.tup [.one (.ow 1 12 0 (dclR xs).length false), .one (.sb (closeD xs).isSome)]], [.ro 0 cOp xs, .own 45 cOp (dclR xs)])) :=
  ⟨(nfdclose xs c).mpr (dcl_nf hl)⟩
def qDCl : RSpec cOp := fun os xs => match os with
  | [] => some (xs.length ≤ 192, .tup [.one (.ow 0 12 0 (dclR xs).length false), .one (.sb (closeD xs).isSome)], [.own 45 cOp (dclR xs)])
  | _ => none
theorem hrDCl : HoldsR P 71 0 cOp qDCl := by
  refine ⟨_, Tryz.func71, by kernel_rfl, fun os xs p v hs hq hp hno c => ?_⟩
  unfold qDCl at hq
  split at hq
  · cases hq
    exact ⟨100000, annDCl xs, T2, rfl, pT2, callDCl hp⟩
  · cases hq
def T3 : Sums := T2.addSp 71 (rowSpec 0 cOp qDCl)
theorem pT3 : OkS P T3 := pT2.addRow fine hrDCl
end Go.AM

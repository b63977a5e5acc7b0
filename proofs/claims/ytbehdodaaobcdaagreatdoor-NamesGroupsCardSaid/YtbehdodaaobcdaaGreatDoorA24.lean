import Derived.Test.YtbehdodaaobcdaaGreatDoorA23
import Derived.Test.YtbehdodaaobcdaaGreatDoorA19
set_option maxHeartbeats 4000000
open Go Go.AM Go.Proofs
namespace Go.AM
open Dist
set_option maxRecDepth 100000
theorem sameT {C : Codec} (xs : List C.τ) : SameRows C xs C xs := ⟨rfl, rfl⟩
def Pst (ys : List Tok) (st len : Nat) : Prop := len = ys.length - st ∧ st < ys.length ∧ ys.length ≤ 4611686018427387904
def qKind : MSpec tokC := fun os cs ys => match os, cs with
  | [.v (.one (.con .i64 0))], [.ow 1 3 st len false] => some (Pst ys st len, .v (.one (.sym .u8 (tk ys st).kind)), [.ow 1 3 st (ys.length - st) false])
  | [.v (.one (.con .i64 1))], [.ow 1 3 st len false] => some (Pst ys st len, .v (.one (.sym .u8 (tk ys (nx ys st)).kind)), [.ow 1 3 st (ys.length - st) false])
  | _, _ => none
def tkS (t : Tok) : AV := .v (.agg [.sym .u8 t.kind, .str t.text, .sym .i64 t.pos])
def qTake : MSpec tokC := fun os cs ys => match os, cs with
  | [], [.ow 1 3 st len false] => some (Pst ys st len, tkS (tk ys st), [.ow 1 3 (nx ys st) (ys.length - nx ys st) false])
  | _, _ => none
open IntKind in
theorem nfkind0 (ys : List Tok) (st len : Nat) (b : Int) (st' : Nat) : call P (Y1 stdOn) ann2 1000 Tryz.f56 [.v (.one (.ptr 0 0)), .v (.one (.con .i64 0))] (rdH ys st len) (rdK ys (.v (.one (.sym .u8 b))) st') = ((((0:Int)<=if (if false=true then decide ((0:Int)<i64.wrap ((↑len:Int)-1)) else decide (i64.wrap ((↑len:Int)-1)<0))=true then i64.wrap ((↑len:Int)-1) else (0:Int))/\(if (if false=true then decide ((0:Int)<i64.wrap ((↑len:Int)-1)) else decide (i64.wrap ((↑len:Int)-1)<0))=true then i64.wrap ((↑len:Int)-1) else (0:Int))<(↑len:Int))/\(st+(if (if false=true then decide ((0:Int)<i64.wrap ((↑len:Int)-1)) else decide (i64.wrap ((↑len:Int)-1)<0))=true then i64.wrap ((↑len:Int)-1) else (0:Int)).toNat).succ.le ys.length/\(b=(ys.getD (st+(if (if false=true then decide ((0:Int)<i64.wrap ((↑len:Int)-1)) else decide (i64.wrap ((↑len:Int)-1)<0))=true then i64.wrap ((↑len:Int)-1) else (0:Int)).toNat) tokC.d).kind/\True)/\((st'=st/\ys.length-st'=len)/\True)/\SameRows tokC ys tokC ys/\True) := by kernel_rfl
open IntKind in
theorem nfkind1 (ys : List Tok) (st len : Nat) (b : Int) (st' : Nat) : call P (Y1 stdOn) ann2 1000 Tryz.f56 [.v (.one (.ptr 0 0)), .v (.one (.con .i64 1))] (rdH ys st len) (rdK ys (.v (.one (.sym .u8 b))) st') = ((((0:Int)<=if (if false=true then decide ((1:Int)<i64.wrap ((↑len:Int)-1)) else decide (i64.wrap ((↑len:Int)-1)<1))=true then i64.wrap ((↑len:Int)-1) else (1:Int))/\(if (if false=true then decide ((1:Int)<i64.wrap ((↑len:Int)-1)) else decide (i64.wrap ((↑len:Int)-1)<1))=true then i64.wrap ((↑len:Int)-1) else (1:Int))<(↑len:Int))/\(st+(if (if false=true then decide ((1:Int)<i64.wrap ((↑len:Int)-1)) else decide (i64.wrap ((↑len:Int)-1)<1))=true then i64.wrap ((↑len:Int)-1) else (1:Int)).toNat).succ.le ys.length/\(b=(ys.getD (st+(if (if false=true then decide ((1:Int)<i64.wrap ((↑len:Int)-1)) else decide (i64.wrap ((↑len:Int)-1)<1))=true then i64.wrap ((↑len:Int)-1) else (1:Int)).toNat) tokC.d).kind/\True)/\((st'=st/\ys.length-st'=len)/\True)/\SameRows tokC ys tokC ys/\True) := by kernel_rfl
theorem nftake (ys : List Tok) (st len : Nat) (a : Int) (b : List UInt8) (c : Int) (st' : Nat) : call P (Y1 stdOn) ann2 1000 Tryz.f36 [.v (.one (.ptr 0 0))] (rdH ys st len) (rdK ys (.v (.agg [.sym .u8 a, .str b, .sym .i64 c])) st') = (((0:Int)<=0/\(0:Int)<(↑len:Int))/\(st+Int.toNat 0).succ.le ys.length/\(decide ((1:Int)<(↑len:Int))=true->((0:Int)<=1/\(1:Int)<=(↑len:Int)/\(↑len:Int)<=(↑len:Int)/\(st+len).le ys.length/\((1:Int)<(↑len:Int)\/(1:Int)=0\/st=0))/\((a=(ys.getD (st+Int.toNat 0) tokC.d).kind/\b=(ys.getD (st+Int.toNat 0) tokC.d).text/\c=(ys.getD (st+Int.toNat 0) tokC.d).pos/\True)/\True)/\((st'=st+Int.toNat (1:Int)/\ys.length-st'=((↑len:Int)-1).toNat)/\True)/\SameRows tokC ys tokC ys/\True)/\(decide ((1:Int)<(↑len:Int))=false->((a=(ys.getD (st+Int.toNat 0) tokC.d).kind/\b=(ys.getD (st+Int.toNat 0) tokC.d).text/\c=(ys.getD (st+Int.toNat 0) tokC.d).pos/\True)/\True)/\((st'=st/\ys.length-st'=len)/\True)/\SameRows tokC ys tokC ys/\True)) := by kernel_rfl
theorem hKind : HoldsS P 56 76 80 tokC qKind := by
  refine ⟨Tryz.f56, by kernel_rfl, by kernel_rfl, fun os cs ys p v cs2 hq hp hno => ?_⟩
  unfold qKind at hq
  split at hq
  · rename_i st len
    simp only [Option.some.injEq, Prod.mk.injEq] at hq
    obtain ⟨rfl, rfl, rfl⟩ := hq
    refine ⟨1000, ann2, Y1 stdOn, _, rfl, pY1 stdOn, hno, fun _ _ h => h, ⟨?_⟩⟩
    obtain ⟨h1, h2, h3⟩ := hp
    have h1 : len = @List.length Tok ys - st := h1
    have h2 : st < @List.length Tok ys := h2
    have h3 : @List.length Tok ys ≤ 4611686018427387904 := h3
    refine Eq.mpr (nfkind0 ys st len _ st) ?_
    have hw : IntKind.i64.wrap ((len : Int) - 1) = (len : Int) - 1 := wr_id (by omega) (by omega)
    simp only [hw, Bool.false_eq_true, if_false, decide_eq_true_eq]
    rw [if_neg (by omega)]
    exact ⟨⟨by omega, by omega⟩, h2, ⟨rfl, trivial⟩, ⟨⟨trivial, h1.symm⟩, trivial⟩, sameT ys, trivial⟩
  · rename_i st len
    simp only [Option.some.injEq, Prod.mk.injEq] at hq
    obtain ⟨rfl, rfl, rfl⟩ := hq
    refine ⟨1000, ann2, Y1 stdOn, _, rfl, pY1 stdOn, hno, fun _ _ h => h, ⟨?_⟩⟩
    obtain ⟨h1, h2, h3⟩ := hp
    have h1 : len = @List.length Tok ys - st := h1
    have h2 : st < @List.length Tok ys := h2
    have h3 : @List.length Tok ys ≤ 4611686018427387904 := h3
    refine Eq.mpr (nfkind1 ys st len _ st) ?_
    have hw : IntKind.i64.wrap ((len : Int) - 1) = (len : Int) - 1 := wr_id (by omega) (by omega)
    simp only [hw, Bool.false_eq_true, if_false, decide_eq_true_eq]
    by_cases hl : st + 1 < @List.length Tok ys
    · rw [if_neg (by omega)]
      have e : nx ys st = st + 1 := if_pos hl
      rw [e]
      exact ⟨⟨by omega, by omega⟩, hl, ⟨rfl, trivial⟩, ⟨⟨trivial, h1.symm⟩, trivial⟩, sameT ys, trivial⟩
    · rw [if_pos (by omega)]
      have e : nx ys st = st := if_neg hl
      have e2 : ((len : Int) - 1).toNat = 0 := by omega
      rw [e, e2]
      exact ⟨⟨by omega, by omega⟩, h2, ⟨rfl, trivial⟩, ⟨⟨trivial, h1.symm⟩, trivial⟩, sameT ys, trivial⟩
  · cases hq
theorem hTake : HoldsS P 36 76 80 tokC qTake := by
  refine ⟨Tryz.f36, by kernel_rfl, by kernel_rfl, fun os cs ys p v cs2 hq hp hno => ?_⟩
  unfold qTake at hq
  split at hq
  · rename_i st len
    simp only [Option.some.injEq, Prod.mk.injEq] at hq
    obtain ⟨rfl, rfl, rfl⟩ := hq
    refine ⟨1000, ann2, Y1 stdOn, _, rfl, pY1 stdOn, hno, fun _ _ h => h, ⟨?_⟩⟩
    obtain ⟨h1, h2, h3⟩ := hp
    have h1 : len = @List.length Tok ys - st := h1
    have h2 : st < @List.length Tok ys := h2
    have h3 : @List.length Tok ys ≤ 4611686018427387904 := h3
    refine Eq.mpr (nftake ys st len _ _ _ (nx ys st)) ?_
    refine ⟨⟨Int.le_refl _, by omega⟩, h2, fun hd => ?_, fun hd => ?_⟩
    · have hd := of_decide_eq_true hd
      have e : nx ys st = st + 1 := if_pos (show st + 1 < @List.length Tok ys by omega)
      rw [e]
      exact ⟨⟨by omega, by omega, Int.le_refl _, show st + len ≤ @List.length Tok ys by omega, .inl hd⟩, ⟨⟨rfl, rfl, rfl, trivial⟩, trivial⟩, ⟨⟨rfl, show @List.length Tok ys - (st + 1) = _ by omega⟩, trivial⟩, sameT ys, trivial⟩
    · have hd := of_decide_eq_false hd
      have e : nx ys st = st := if_neg (show ¬ st + 1 < @List.length Tok ys by omega)
      rw [e]
      exact ⟨⟨⟨rfl, rfl, rfl, trivial⟩, trivial⟩, ⟨⟨rfl, h1.symm⟩, trivial⟩, sameT ys, trivial⟩
  · cases hq
def Y2 (o : OnB) : Sums := ((Y1 o).addSp 56 (stSpec 76 80 tokC qKind)).addSp 36 (stSpec 76 80 tokC qTake)
theorem pY2 (o : OnB) : OkS P (Y2 o) := ((pY1 o).addSt fine hKind).addSt fine hTake
end Go.AM
open Go Go.AM Go.Proofs
namespace Go.AM
open Dist
set_option maxRecDepth 100000
def sgB (ys : List Tok) (st : Nat) : Bool := decide ((tk ys st).kind = 43)
def sgV (ys : List Tok) (st : Nat) : Int := if (tk ys st).kind = 43 ∧ (tk ys st).text = [45] then -1 else 1
def sgN (ys : List Tok) (st : Nat) : Nat := if (tk ys st).kind = 43 then nx ys st else st
def qSign : MSpec tokC := fun os cs ys => match os, cs with
  | [], [.ow 1 3 st len false] => some (Pst ys st len, .tup [.one (.sym .i64 (sgV ys st)), .one (.sb (sgB ys st))], [.ow 1 3 (sgN ys st) (ys.length - sgN ys st) false])
  | _, _ => none
def NumOk (ys : List Tok) : Prop := ∀ i, (tk ys i).kind = 110 → digs (tk ys i).text
def frS (ys : List Tok) (st : Nat) (again : Bool) : Int × Int × Nat :=
  if numV (tk ys st).text 999 < 0 ∨ again = true then (0, (tk ys st).pos, nx ys st)
  else if (tk ys (nx ys st)).kind ≠ 47 then (24 * numV (tk ys st).text 999, -1, nx ys st)
  else if (tk ys (nx ys (nx ys st))).kind ≠ 110 then (0, (tk ys (nx ys (nx ys st))).pos, nx ys (nx ys st))
  else if numV (tk ys (nx ys (nx ys st))).text 999 < 1 ∨ (24 * numV (tk ys st).text 999).tmod (numV (tk ys (nx ys (nx ys st))).text 999) ≠ 0 then (0, (tk ys st).pos, nx ys (nx ys (nx ys st)))
  else ((24 * numV (tk ys st).text 999).tdiv (numV (tk ys (nx ys (nx ys st))).text 999), -1, nx ys (nx ys (nx ys st)))
def qFrac : MSpec tokC := fun os cs ys => match os, cs with
  | [.v (.one (.sb again))], [.ow 1 3 st len false] => some (Pst ys st len ∧ (tk ys st).kind = 110 ∧ NumOk ys, .tup [.one (.sym .i64 (frS ys st again).1), .one (.sym .i64 (frS ys st again).2.1)], [.ow 1 3 (frS ys st again).2.2 (ys.length - (frS ys st again).2.2) false])
  | [.v (.one (.cb again))], [.ow 1 3 st len false] => some (Pst ys st len ∧ (tk ys st).kind = 110 ∧ NumOk ys, .tup [.one (.sym .i64 (frS ys st again).1), .one (.sym .i64 (frS ys st again).2.1)], [.ow 1 3 (frS ys st again).2.2 (ys.length - (frS ys st again).2.2) false])
  | _, _ => none
theorem nfsign (ys : List Tok) (st len : Nat) (a : Int) (b : Bool) (st' : Nat) : call P (Y2 stdOn) ann2 1000 Tryz.f55 [.v (.one (.ptr 0 0))] (rdH ys st len) (rdK ys (.tup [.one (.sym .i64 a), .one (.sb b)]) st') = (∃ (z:List tokC.τ),SameRows tokC z tokC ys/\(len=z.length-st/\st.succ.le z.length/\z.length.le 4611686018427387904)/\((!decide ((tk z st).kind=43))=true->((a=1/\b=false/\True)/\True)/\((st'=st/\ys.length-st'=z.length-st)/\True)/\SameRows tokC ys tokC ys/\True)/\((!decide ((tk z st).kind=43))=false->∃ (z_1:List tokC.τ),SameRows tokC z_1 tokC ys/\(z.length-st=z_1.length-st/\st.succ.le z_1.length/\z_1.length.le 4611686018427387904)/\(decide ((tk z_1 st).text=[(45:UInt8)])=true->((a=(-1:Int)/\b=true/\True)/\True)/\((st'=nx z_1 st/\ys.length-st'=z_1.length-nx z_1 st)/\True)/\SameRows tokC ys tokC ys/\True)/\(decide ((tk z_1 st).text=[(45:UInt8)])=false->((a=1/\b=true/\True)/\True)/\((st'=nx z_1 st/\ys.length-st'=z_1.length-nx z_1 st)/\True)/\SameRows tokC ys tokC ys/\True))) := by kernel_rfl
open IntKind in
theorem nffrac (ys : List Tok) (st len : Nat) (again : Bool) (a b : Int) (st' : Nat) : call P (Y2 stdOn) ann2 1000 Tryz.f58 [.v (.one (.ptr 0 0)), .v (.one (.sb again))] (rdH ys st len) (rdK ys (.tup [.one (.sym .i64 a), .one (.sym .i64 b)]) st') = (∃ (z:List tokC.τ),SameRows tokC z tokC ys/\(len=z.length-st/\st.succ.le z.length/\z.length.le 4611686018427387904)/\(((tk z st).text=[]->False)/\∀ (b:UInt8),b ∈ (tk z st).text->Nat.le 48 b.toNat/\b.toNat.le 57)/\(decide (numV (tk z st).text (999:Int)<0)=true->((a=0/\b=(tk z st).pos/\True)/\True)/\((st'=nx z st/\ys.length-st'=z.length-nx z st)/\True)/\SameRows tokC ys tokC ys/\True)/\(decide (numV (tk z st).text (999:Int)<0)=false->(again=true->((a=0/\b=(tk z st).pos/\True)/\True)/\((st'=nx z st/\ys.length-st'=z.length-nx z st)/\True)/\SameRows tokC ys tokC ys/\True)/\(again=false->∃ (z_1:List tokC.τ),SameRows tokC z_1 tokC ys/\(z.length-nx z st=z_1.length-nx z st/\(nx z st).succ.le z_1.length/\z_1.length.le 4611686018427387904)/\((!decide ((tk z_1 (nx z st)).kind=47))=true->((a=i64.wrap ((24:Int)*numV (tk z st).text 999)/\b=(-1:Int)/\True)/\True)/\((st'=nx z st/\ys.length-st'=z_1.length-nx z st)/\True)/\SameRows tokC ys tokC ys/\True)/\((!decide ((tk z_1 (nx z st)).kind=47))=false->∃ (z_2:List tokC.τ),SameRows tokC z_2 tokC ys/\(z_1.length-nx z st=z_2.length-nx z st/\(nx z st).succ.le z_2.length/\z_2.length.le 4611686018427387904)/\∃ (z_3:List tokC.τ),SameRows tokC z_3 tokC ys/\(z_2.length-nx z_2 (nx z st)=z_3.length-nx z_2 (nx z st)/\(nx z_2 (nx z st)).succ.le z_3.length/\z_3.length.le 4611686018427387904)/\((!decide ((tk z_3 (nx z_2 (nx z st))).kind=110))=true->((0:Int)<=0/\(0:Int)<(↑(z_3.length-nx z_2 (nx z st)):Int))/\(nx z_2 (nx z st)+Int.toNat 0).succ.le ys.length/\((a=0/\b=(ys.getD (nx z_2 (nx z st)+Int.toNat 0) tokC.d).pos/\True)/\True)/\((st'=nx z_2 (nx z st)/\ys.length-st'=z_3.length-nx z_2 (nx z st))/\True)/\SameRows tokC ys tokC ys/\True)/\((!decide ((tk z_3 (nx z_2 (nx z st))).kind=110))=false->∃ (z_4:List tokC.τ),SameRows tokC z_4 tokC ys/\(z_3.length-nx z_2 (nx z st)=z_4.length-nx z_2 (nx z st)/\(nx z_2 (nx z st)).succ.le z_4.length/\z_4.length.le 4611686018427387904)/\(((tk z_4 (nx z_2 (nx z st))).text=[]->False)/\∀ (b:UInt8),b ∈ (tk z_4 (nx z_2 (nx z st))).text->Nat.le 48 b.toNat/\b.toNat.le 57)/\(decide (numV (tk z_4 (nx z_2 (nx z st))).text (999:Int)<1)=true->((a=0/\b=(tk z st).pos/\True)/\True)/\((st'=nx z_4 (nx z_2 (nx z st))/\ys.length-st'=z_4.length-nx z_4 (nx z_2 (nx z st)))/\True)/\SameRows tokC ys tokC ys/\True)/\(decide (numV (tk z_4 (nx z_2 (nx z st))).text (999:Int)<1)=false->(numV (tk z_4 (nx z_2 (nx z st))).text (999:Int)=0->False)/\((!decide ((i64.wrap ((24:Int)*numV (tk z st).text 999)).tmod (numV (tk z_4 (nx z_2 (nx z st))).text 999)=0))=true->((a=0/\b=(tk z st).pos/\True)/\True)/\((st'=nx z_4 (nx z_2 (nx z st))/\ys.length-st'=z_4.length-nx z_4 (nx z_2 (nx z st)))/\True)/\SameRows tokC ys tokC ys/\True)/\((!decide ((i64.wrap ((24:Int)*numV (tk z st).text 999)).tmod (numV (tk z_4 (nx z_2 (nx z st))).text 999)=0))=false->(numV (tk z_4 (nx z_2 (nx z st))).text (999:Int)=0->False)/\((a=i64.wrap ((i64.wrap ((24:Int)*numV (tk z st).text 999)).tdiv (numV (tk z_4 (nx z_2 (nx z st))).text 999))/\b=(-1:Int)/\True)/\True)/\((st'=nx z_4 (nx z_2 (nx z st))/\ys.length-st'=z_4.length-nx z_4 (nx z_2 (nx z st)))/\True)/\SameRows tokC ys tokC ys/\True))))))) := by kernel_rfl
theorem nx_lt {ys : List Tok} {st : Nat} (h : st < ys.length) : nx ys st < ys.length := by unfold nx; split <;> omega
theorem hSign : HoldsS P 55 76 80 tokC qSign := by
  refine ⟨Tryz.f55, by kernel_rfl, by kernel_rfl, fun os cs ys p v cs2 hq hp hno => ?_⟩
  unfold qSign at hq
  split at hq
  · rename_i st len
    simp only [Option.some.injEq, Prod.mk.injEq] at hq
    obtain ⟨rfl, rfl, rfl⟩ := hq
    refine ⟨1000, ann2, Y2 stdOn, _, rfl, pY2 stdOn, hno, fun _ _ h => h, ⟨?_⟩⟩
    obtain ⟨h1, h2, h3⟩ := hp
    refine Eq.mpr (nfsign ys st len _ _ (sgN ys st)) ⟨ys, sameT (C := tokC) ys, ⟨h1, h2, h3⟩, fun hk => ?_, fun hk => ⟨ys, sameT (C := tokC) ys, ⟨rfl, h2, h3⟩, fun ht => ?_, fun ht => ?_⟩⟩
    · have hk : ¬ (tk ys st).kind = 43 := by simpa using hk
      have e : sgN ys st = st := if_neg hk
      rw [e]
      exact ⟨⟨⟨if_neg (fun h => hk h.1), decide_eq_false hk, trivial⟩, trivial⟩, ⟨⟨rfl, rfl⟩, trivial⟩, sameT (C := tokC) ys, trivial⟩
    · have hk : (tk ys st).kind = 43 := by simpa using hk
      have e : sgN ys st = nx ys st := if_pos hk
      rw [e]
      exact ⟨⟨⟨if_pos ⟨hk, of_decide_eq_true ht⟩, decide_eq_true hk, trivial⟩, trivial⟩, ⟨⟨rfl, rfl⟩, trivial⟩, sameT (C := tokC) ys, trivial⟩
    · have hk : (tk ys st).kind = 43 := by simpa using hk
      have e : sgN ys st = nx ys st := if_pos hk
      rw [e]
      exact ⟨⟨⟨if_neg (fun h => of_decide_eq_false ht h.2), decide_eq_true hk, trivial⟩, trivial⟩, ⟨⟨rfl, rfl⟩, trivial⟩, sameT (C := tokC) ys, trivial⟩
  · cases hq
theorem atoi_nonneg {s : List UInt8} (h : digs s) : 0 ≤ (Lib.atoi s).getD 0 := by
  obtain ⟨h1, h2⟩ := h
  cases s with
  | nil => exact absurd rfl h1
  | cons b r =>
    have hb := h2 b (by simp)
    unfold digB at hb
    unfold Lib.atoi
    have e1 : ¬ (b == 45) = true := fun e => by
      have := congrArg UInt8.toNat (eq_of_beq e)
      simp at this
      omega
    have e2 : ¬ (b == 43) = true := fun e => by
      have := congrArg UInt8.toNat (eq_of_beq e)
      simp at this
      omega
    simp only [e1, e2]
    cases Lib.decNat (b :: r) with
    | none => simp
    | some n => simp
theorem numV_bd {s : List UInt8} {m : Int} (h : digs s) (hm : 0 ≤ m) : -1 ≤ numV s m ∧ numV s m ≤ m := by
  have h0 := atoi_nonneg h
  unfold numV
  split
  · omega
  · split
    · omega
    · split <;> omega
theorem frac_run {ys : List Tok} {st len : Nat} (again : Bool) (h1 : len = ys.length - st) (h2 : st < ys.length) (h3 : ys.length ≤ 4611686018427387904) (h4 : (tk ys st).kind = 110) (h5 : NumOk ys) :
    call P (Y2 stdOn) ann2 1000 Tryz.f58 [.v (.one (.ptr 0 0)), .v (.one (.sb again))] (rdH ys st len) (rdK ys (.tup [.one (.sym .i64 (frS ys st again).1), .one (.sym .i64 (frS ys st again).2.1)]) (frS ys st again).2.2) := by
  have hd := h5 _ h4
  have hb := numV_bd hd (m := 999) (by omega)
  have k1 := nx_lt h2
  have k2 := nx_lt k1
  have hw : IntKind.i64.wrap (24 * numV (tk ys st).text 999) = 24 * numV (tk ys st).text 999 := wr_id (by omega) (by omega)
  refine Eq.mpr (nffrac ys st len again _ _ _) ⟨ys, sameT (C := tokC) ys, ⟨h1, h2, h3⟩, hd, fun hn => ?_, fun hn => ⟨fun hag => ?_, fun hag => ⟨ys, sameT (C := tokC) ys, ⟨rfl, k1, h3⟩, fun hs => ?_, fun hs => ⟨ys, sameT (C := tokC) ys, ⟨rfl, k1, h3⟩, ys, sameT (C := tokC) ys, ⟨rfl, k2, h3⟩, fun hm => ⟨⟨Int.le_refl _, ?_⟩, k2, ?_⟩, fun hm => ⟨ys, sameT (C := tokC) ys, ⟨rfl, k2, h3⟩, h5 _ (by simpa using hm), fun hq => ?_, fun hq => ⟨fun hz => ?_, fun hr => ?_, fun hr => ⟨fun hz => ?_, ?_⟩⟩⟩⟩⟩⟩⟩
  · have e : frS ys st again = (0, (tk ys st).pos, nx ys st) := if_pos (.inl (of_decide_eq_true hn))
    rw [e]
    exact ⟨⟨⟨rfl, rfl, trivial⟩, trivial⟩, ⟨⟨rfl, rfl⟩, trivial⟩, sameT (C := tokC) ys, trivial⟩
  · have e : frS ys st again = (0, (tk ys st).pos, nx ys st) := if_pos (.inr hag)
    rw [e]
    exact ⟨⟨⟨rfl, rfl, trivial⟩, trivial⟩, ⟨⟨rfl, rfl⟩, trivial⟩, sameT (C := tokC) ys, trivial⟩
  · have c1 : ¬ (numV (tk ys st).text 999 < 0 ∨ again = true) := fun h => by
      rcases h with h | h
      · exact of_decide_eq_false hn h
      · rw [hag] at h; cases h
    have e : frS ys st again = (24 * numV (tk ys st).text 999, -1, nx ys st) := by
      unfold frS
      rw [if_neg c1, if_pos (by simpa using hs)]
    rw [e]
    exact ⟨⟨⟨hw.symm, rfl, trivial⟩, trivial⟩, ⟨⟨rfl, rfl⟩, trivial⟩, sameT (C := tokC) ys, trivial⟩
  · show (0 : Int) < ((ys.length - nx ys (nx ys st) : Nat) : Int)
    omega
  · have c1 : ¬ (numV (tk ys st).text 999 < 0 ∨ again = true) := fun h => by
      rcases h with h | h
      · exact of_decide_eq_false hn h
      · rw [hag] at h; cases h
    have e : frS ys st again = (0, (tk ys (nx ys (nx ys st))).pos, nx ys (nx ys st)) := by
      unfold frS
      rw [if_neg c1, if_neg (by simpa using hs), if_pos (by simpa using hm)]
    rw [e]
    exact ⟨⟨⟨rfl, rfl, trivial⟩, trivial⟩, ⟨⟨rfl, rfl⟩, trivial⟩, sameT (C := tokC) ys, trivial⟩
  · have c1 : ¬ (numV (tk ys st).text 999 < 0 ∨ again = true) := fun h => by
      rcases h with h | h
      · exact of_decide_eq_false hn h
      · rw [hag] at h; cases h
    have e : frS ys st again = (0, (tk ys st).pos, nx ys (nx ys (nx ys st))) := by
      unfold frS
      rw [if_neg c1, if_neg (by simpa using hs), if_neg (by simpa using hm), if_pos (.inl (of_decide_eq_true hq))]
    rw [e]
    exact ⟨⟨⟨rfl, rfl, trivial⟩, trivial⟩, ⟨⟨rfl, rfl⟩, trivial⟩, sameT (C := tokC) ys, trivial⟩
  · have := of_decide_eq_false hq
    rw [show numV (tk ys (nx ys (nx ys st))).text 999 = 0 from hz] at this
    omega
  · have c1 : ¬ (numV (tk ys st).text 999 < 0 ∨ again = true) := fun h => by
      rcases h with h | h
      · exact of_decide_eq_false hn h
      · rw [hag] at h; cases h
    have hr : ¬ (24 * numV (tk ys st).text 999).tmod (numV (tk ys (nx ys (nx ys st))).text 999) = 0 := by
      rw [hw] at hr
      simpa using hr
    have e : frS ys st again = (0, (tk ys st).pos, nx ys (nx ys (nx ys st))) := by
      unfold frS
      rw [if_neg c1, if_neg (by simpa using hs), if_neg (by simpa using hm), if_pos (.inr hr)]
    rw [e]
    exact ⟨⟨⟨rfl, rfl, trivial⟩, trivial⟩, ⟨⟨rfl, rfl⟩, trivial⟩, sameT (C := tokC) ys, trivial⟩
  · have := of_decide_eq_false hq
    rw [show numV (tk ys (nx ys (nx ys st))).text 999 = 0 from hz] at this
    omega
  · have c1 : ¬ (numV (tk ys st).text 999 < 0 ∨ again = true) := fun h => by
      rcases h with h | h
      · exact of_decide_eq_false hn h
      · rw [hag] at h; cases h
    have hr : (24 * numV (tk ys st).text 999).tmod (numV (tk ys (nx ys (nx ys st))).text 999) = 0 := by
      rw [hw] at hr
      simpa using hr
    have hq' := of_decide_eq_false hq
    have e : frS ys st again = ((24 * numV (tk ys st).text 999).tdiv (numV (tk ys (nx ys (nx ys st))).text 999), -1, nx ys (nx ys (nx ys st))) := by
      unfold frS
      rw [if_neg c1, if_neg (by simpa using hs), if_neg (by simpa using hm), if_neg (fun h => by
        rcases h with h | h
        · exact hq' h
        · exact h hr)]
    have c2 : 0 ≤ numV (tk ys st).text 999 := by
      have := of_decide_eq_false hn
      omega
    have hw2 : IntKind.i64.wrap ((24 * numV (tk ys st).text 999).tdiv (numV (tk ys (nx ys (nx ys st))).text 999)) = (24 * numV (tk ys st).text 999).tdiv (numV (tk ys (nx ys (nx ys st))).text 999) := by
      have hq2 : 1 ≤ numV (tk ys (nx ys (nx ys st))).text 999 := by omega
      rw [Int.tdiv_eq_ediv_of_nonneg (by omega)]
      have b1 : 0 ≤ 24 * numV (tk ys st).text 999 / numV (tk ys (nx ys (nx ys st))).text 999 := Int.ediv_nonneg (by omega) (by omega)
      have b2 : 24 * numV (tk ys st).text 999 / numV (tk ys (nx ys (nx ys st))).text 999 ≤ 24 * numV (tk ys st).text 999 := Int.ediv_le_self _ (by omega)
      exact wr_id (by omega) (by omega)
    rw [e]
    refine ⟨⟨⟨?_, rfl, trivial⟩, trivial⟩, ⟨⟨rfl, rfl⟩, trivial⟩, sameT (C := tokC) ys, trivial⟩
    rw [hw, hw2]
theorem hFrac : HoldsS P 58 76 80 tokC qFrac := by
  refine ⟨Tryz.f58, by kernel_rfl, by kernel_rfl, fun os cs ys p v cs2 hq hp hno => ?_⟩
  unfold qFrac at hq
  split at hq
  · rename_i again st len
    simp only [Option.some.injEq, Prod.mk.injEq] at hq
    obtain ⟨rfl, rfl, rfl⟩ := hq
    exact ⟨1000, ann2, Y2 stdOn, _, rfl, pY2 stdOn, hno, fun _ _ h => h, ⟨frac_run again hp.1.1 hp.1.2.1 hp.1.2.2 hp.2.1 hp.2.2⟩⟩
  · rename_i again st len
    simp only [Option.some.injEq, Prod.mk.injEq] at hq
    obtain ⟨rfl, rfl, rfl⟩ := hq
    refine ⟨1000, ann2, Y2 stdOn, [.v (.one (.sb again))], rfl, pY2 stdOn, rfl, fun pl vs h => ?_, ⟨frac_run again hp.1.1 hp.1.2.1 hp.1.2.2 hp.2.1 hp.2.2⟩⟩
    match vs, h with
    | [v], h => exact ⟨h.1.imp (fun h => by cases h) id, trivial⟩
    | [], h => exact h.elim
    | _ :: _ :: _, h => exact h.2.elim
  · cases hq
def Y3 (o : OnB) : Sums := ((Y2 o).addSp 55 (stSpec 76 80 tokC qSign)).addSp 58 (stSpec 76 80 tokC qFrac)
theorem pY3 (o : OnB) : OkS P (Y3 o) := ((pY2 o).addSt fine hSign).addSt fine hFrac
end Go.AM
open Go Go.AM Go.Proofs
namespace Go.AM
def keepT (keep : List Nat) : Nat → Env → Env
  | _, [] => []
  | i, a :: l => (if keep.contains i then a else AV.any) :: keepT keep (i + 1) l
structure RS where
  st : Nat
  e0 : Int
  e1 : Int
  e2 : Int
  parts : Int
  s0 : Bool
  s1 : Bool
  s2 : Bool
  again : Bool
  first : Bool
structure RR where
  e0 : Int
  e1 : Int
  e2 : Int
  parts : Int
  fault : Int
  st : Nat
def RS.err (x : RS) (fault : Int) (st : Nat) : RR := ⟨x.e0, x.e1, x.e2, 0, fault, st⟩
def letP (ys : List Tok) (x : RS) (sk : Int) (s : Nat) : RS ⊕ RR :=
  if (tk ys s).text = [120] then (if x.s0 = true then .inr (x.err (tk ys s).pos (nx ys s)) else .inl ⟨nx ys s, sk, x.e1, x.e2, x.parts, true, x.s1, x.s2, x.again, false⟩)
  else if (tk ys s).text = [121] then (if x.s1 = true then .inr (x.err (tk ys s).pos (nx ys s)) else .inl ⟨nx ys s, x.e0, sk, x.e2, x.parts, x.s0, true, x.s2, x.again, false⟩)
  else (if x.s2 = true then .inr (x.err (tk ys s).pos (nx ys s)) else .inl ⟨nx ys s, x.e0, x.e1, sk, x.parts, x.s0, x.s1, true, x.again, false⟩)
def stepR (ys : List Tok) (x : RS) : RS ⊕ RR :=
  if x.first = false ∧ sgB ys x.st = false then .inr ⟨x.e0, x.e1, x.e2, x.parts, -1, sgN ys x.st⟩
  else if (tk ys (sgN ys x.st)).kind = 110 ∧ (tk ys (nx ys (sgN ys x.st))).kind = 120 then
    (if numV (tk ys (sgN ys x.st)).text 1000 < 1 then .inr (x.err (tk ys (sgN ys x.st)).pos (nx ys (sgN ys x.st)))
    else letP ys x (sgV ys x.st * numV (tk ys (sgN ys x.st)).text 1000) (nx ys (sgN ys x.st)))
  else if (tk ys (sgN ys x.st)).kind = 120 then letP ys x (sgV ys x.st) (sgN ys x.st)
  else if (tk ys (sgN ys x.st)).kind = 110 then
    (if 0 ≤ (frS ys (sgN ys x.st) x.again).2.1 then .inr (x.err (frS ys (sgN ys x.st) x.again).2.1 (frS ys (sgN ys x.st) x.again).2.2)
    else .inl ⟨(frS ys (sgN ys x.st) x.again).2.2, x.e0, x.e1, x.e2, sgV ys x.st * (frS ys (sgN ys x.st) x.again).1, x.s0, x.s1, x.s2, true, false⟩)
  else .inr (x.err (tk ys (sgN ys x.st)).pos (sgN ys x.st))
def rowR (ys : List Tok) : Nat → RS → RR
  | 0, x => ⟨x.e0, x.e1, x.e2, 0, 0, x.st⟩
  | n + 1, x => match stepR ys x with
    | .inr r => r
    | .inl y => rowR ys n y
def rs0 (st : Nat) : RS := ⟨st, 0, 0, 0, 0, false, false, false, false, true⟩
def rowF (ys : List Tok) (st : Nat) : RR := rowR ys (ys.length + 1) (rs0 st)
def keepHT (n b : Nat) : Nat → Heap → Heap
  | _, [] => []
  | i, x :: l => (if decide (i < n) || decide (i = b) then x else .gone) :: keepHT n b (i + 1) l
def cutL (keep : List Nat) (n d tok : Nat) (env : Env) (h : Heap) : List Ann := match getD env tok AV.any with
  | .v (.one (.ptr b 0)) => (match get? h b with
    | some (.row _ [_, .str tx, _]) => forceE (keepT keep 0 env) fun env => forceH (keepHT n b 0 h) fun h => [⟨PLift (tx = [120]), fun _ => (set env d (.v (.one (.con .u8 0))), h), fun _ => 0⟩, ⟨PLift (tx = [121]), fun _ => (set env d (.v (.one (.con .u8 1))), h), fun _ => 0⟩, ⟨PLift (tx = [122]), fun _ => (set env d (.v (.one (.con .u8 2))), h), fun _ => 0⟩]
    | _ => [])
  | _ => []
def annRow (ys : List Tok) (R : RR) : Annos := ⟨2, fun id env h => if id = 5 then forceE (keepT [0, 2, 5, 7] 0 env) fun env => some ⟨{ p : Nat × RS // rowR ys p.1 p.2 = R ∧ ys.length - p.2.st < p.1 ∧ p.2.st < ys.length },
  fun p => (set (set (set env 6 (.v (.one (.sym .i64 p.1.2.parts)))) 8 (.v (.one (.sb p.1.2.again)))) 9 (.v (.one (.sb p.1.2.first))),
    [.row 76 [.ow 1 3 p.1.2.st (ys.length - p.1.2.st) false], .own 80 tokC ys, .row 43 [.con .i64 0, .con .i64 0, .con .i64 0], .row 43 [.sym .i64 p.1.2.e0, .sym .i64 p.1.2.e1, .sym .i64 p.1.2.e2], .row 102 [.sb p.1.2.s0, .sb p.1.2.s1, .sb p.1.2.s2]]),
  fun p => p.1.1⟩ else none, fun id env h => if id = 18 then cutL [0, 2, 5, 6, 7, 8, 10, 12, 14] 5 15 14 env h else []⟩
end Go.AM

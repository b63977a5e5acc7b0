import Derived.Test.YtagcmdpmmmbedaaGreatDoorCA
import Derived.Test.YtagcmdpmmmbedaaGreatDoorW2
open Go Go.AM Go.Proofs
namespace Go.AM
/-- rows of ints -/
def cInt : Codec where
  τ := Int
  esz := 1
  enc := fun n => [.sym .i64 n]
  dec := fun l => match l with
    | [.sym .i64 n] => some n
    | [.con .i64 n] => some n
    | _ => none
  d := 0
  len_ok := fun _ => rfl
  known_ok := fun _ => rfl
  dec_ok := fun l t pl vs h hv => by
    split at h
    · cases h; exact hv
    · cases h
      match vs, hv with
      | [v], hv => exact ⟨.inr (by rcases hv.1 with h | h; cases h; exact h), trivial⟩
    · cases h
  low_ok := fun _ _ => rfl
  deq := inferInstance
/-- all slots but those forgotten -/
def keepE (keep : List Nat) : Nat → Env → Env
  | _, [] => []
  | i, a :: l => (if keep.contains i then a else AV.any) :: keepE keep (i + 1) l
/-- all variables but those forgotten -/
def keepH (keep : List Nat) : Nat → Heap → Heap
  | _, [] => []
  | i, .own T C xs :: l => .own T C xs :: keepH keep (i + 1) l
  | i, b :: l => (if keep.contains i then b else .gone) :: keepH keep (i + 1) l
def numOf : SV → Option Int
  | .con _ n => some n
  | .sym _ n => some n
  | _ => none
def symI : AV → Int
  | .v (.one (.con _ n)) => n
  | .v (.one (.sym _ n)) => n
  | _ => 0
def blkOf : AV → Nat
  | .v (.one (.ptr b _)) => b
  | _ => 0
def cellI (h : Heap) (b off : Nat) : Int := match get? h b with
  | some (.row _ cs) => symI (.v (.one (getD cs off .any)))
  | _ => 0
def setCell (h : Heap) (b off : Nat) (s : SV) : Heap := match get? h b with
  | some (.row T cs) => set h b (.row T (set cs off s))
  | _ => h
def cellS (h : Heap) (b off : Nat) : SV := match get? h b with
  | some (.row _ cs) => getD cs off .any
  | _ => .any
/-- the loop over a part's neighbours: so many are there -/
def annY (env : Env) (h : Heap) : Option Ann :=
  match getD env 13 AV.any, cellS h (blkOf (getD env 9 AV.any)) 0, (symI (getD env 12 AV.any)).toNat, blkOf (getD env 11 AV.any) with
  | .v (.one (.sym _ x)), .sym _ M, i, p => forceE (keepE [3, 9, 11, 12, 13, 14, 49, 50] 0 env) fun env => forceH (keepH [blkOf (getD env 3 AV.any), blkOf (getD env 9 AV.any), p] 0 h) fun h => some ⟨{ k : Nat // k ≤ if x = 0 then 3 else 2 }, fun k => (set env 14 (.v (.one (.sym .i64 (x - M + (k.1 : Int) * M)))), setCell h p i (.ow (len' h) 1 0 k.1 false) ++ [.own 3 cInt (Dist.ents x M k.1)]), fun k => 4 - k.1⟩
  | _, _, _, _ => none
def rowCells (h : Heap) (b : Nat) : List SV := match get? h b with
  | some (.row _ cs) => cs
  | _ => []
/-- the numbers of an owned row -/
def rowX (h : Heap) : SV → Option ((C : Codec) × List C.τ)
  | .ow b _ _ _ _ => (match get? h b with
    | some (.own _ C xs) => some ⟨C, xs⟩
    | _ => none)
  | _ => none
def toI (C : Codec) (xs : List C.τ) : List Int := (flatC C xs).map fun s => symI (.v (.one s))
abbrev Len3 := Int → Int → Int → Int
def withG (g : List SV) (K : Len3 → Option Ann) : Option Ann := match g with
  | [.sym _ a, .sym _ b, .sym _ c, .sym _ d, .sym _ e, .sym _ f, .sym _ k, .sym _ l, .sym _ m] => K (Dist.len9 a b c d e f k l m)
  | _ => none
def withL (h : Heap) (p i : Nat) (K : List Int → Option Ann) : Option Ann := match rowX h (cellS h p i) with
  | some ⟨C, xs⟩ => K (toI C xs)
  | none => none
def withN (s : AV) (K : Int → Option Ann) : Option Ann := match s with
  | .v (.one s) => (match numOf s with
    | some n => K n
    | none => none)
  | _ => none
def ann5 (env : Env) (h : Heap) : Option Ann :=
  withN (getD env 16 AV.any) fun least => withN (getD env 18 AV.any) fun x => withN (getD env 20 AV.any) fun y => match blkOf (getD env 11 AV.any), blkOf (getD env 15 AV.any) with
  | p, b => withG (rowCells h b) fun g => withL h p 2 fun l2 => forceE (keepE [11, 15, 16, 18, 20, 78, 79, 80, 85, 86, 87, 92, 93, 94] 0 env) fun env => forceH (keepH [p, b] 0 h) fun h => some ⟨Nat, fun k =>
      (set (set env 94 (.v (.one (.sym .i64 (k : Int))))) 16 (.v (.one (.sym .i64 (Dist.best5 g x y (l2.take k) least)))), h), fun k => l2.length - k⟩
def ann4 (env : Env) (h : Heap) : Option Ann :=
  withN (getD env 16 AV.any) fun least => withN (getD env 18 AV.any) fun x => match blkOf (getD env 11 AV.any), blkOf (getD env 15 AV.any) with
  | p, b => withG (rowCells h b) fun g => withL h p 1 fun l1 => withL h p 2 fun l2 => forceE (keepE [11, 15, 16, 18, 78, 79, 80, 85, 86, 87] 0 env) fun env => forceH (keepH [p, b] 0 h) fun h => some ⟨Nat, fun k =>
      (set (set env 87 (.v (.one (.sym .i64 (k : Int))))) 16 (.v (.one (.sym .i64 (Dist.best4 g x (l1.take k) l2 least)))), h), fun k => l1.length - k⟩
def ann3 (env : Env) (h : Heap) : Option Ann :=
  withN (getD env 16 AV.any) fun least => match blkOf (getD env 11 AV.any), blkOf (getD env 15 AV.any) with
  | p, b => withG (rowCells h b) fun g => withL h p 0 fun l0 => withL h p 1 fun l1 => withL h p 2 fun l2 => forceE (keepE [11, 15, 16, 78, 79, 80] 0 env) fun env => forceH (keepH [p, b] 0 h) fun h => some ⟨Nat, fun k =>
      (set (set env 80 (.v (.one (.sym .i64 (k : Int))))) 16 (.v (.one (.sym .i64 (Dist.best3 g (l0.take k) l1 l2 least)))), h), fun k => l0.length - k⟩
def A8 : Annos := ⟨0, fun id env h => if id = 12 then annY env h else if id = 19 then ann3 env h else if id = 22 then ann4 env h else if id = 25 then ann5 env h else none, fun _ => none⟩
end Go.AM

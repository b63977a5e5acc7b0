import Derived.Test.YtagcmdpmmmbedaaGreatDoorOR2
open Go Go.AM Go.Proofs
namespace Go.AM
open Dist
/-- is a list a group, in order? -/
def sortedB : List OpI → Bool
  | [] => true
  | [_] => true
  | o :: q :: l => decide (oC o q < 0) && sortedB (q :: l)
def pairB (xs : List OpI) (o q : OpI) : Bool := decide (oM o q = 0) && decide (oR o q ∈ xs)
def rowB (xs : List OpI) (o : OpI) : Bool := xs.all (pairB xs o)
def closedB (xs : List OpI) : Bool := xs.all (rowB xs)
def checkP (xs : List OpI) : Int := if mapsE xs ≠ 0 then mapsE xs else if sortedB xs && (decide (oneO ∈ xs) && closedB xs) then 0 else 5
def withI (a : AV) (K : Int → Option Ann) : Option Ann := match a with
  | .v (.one (.con _ n)) => K n
  | .v (.one (.sym _ n)) => K n
  | _ => none
def annCheck (xs : List OpI) : Annos := ⟨1, fun id env h =>
  if id = 5 then forceE (keepS [0, 4] 0 env) fun env => some ⟨{ i : Nat // 1 ≤ i ∧ i ≤ max 1 xs.length ∧ sortedB xs = sortedB (xs.drop (i - 1)) }, fun i => (set env 4 (I' (i.1 : Int)), headH 1 h), fun i => xs.length - i.1⟩
  else if id = 14 then forceE (keepS [0, 5, 48, 49, 50] 0 env) fun env => some ⟨{ i : Nat // i ≤ xs.length ∧ closedB xs = (xs.drop i).all (rowB xs) }, fun i => (set env 50 (I' (i.1 : Int)), headH 3 h), fun i => xs.length - i.1⟩
  else if id = 17 then forceE (keepS [0, 5, 9, 48, 49, 50, 54, 55, 56] 0 env) fun env => withI (getD env 50 AV.any) fun i => some ⟨{ j : Nat // j ≤ xs.length ∧ rowB xs (gt xs i.toNat) = (xs.drop j).all (pairB xs (gt xs i.toNat)) }, fun j => (set env 56 (I' (j.1 : Int)), headH 4 h), fun j => xs.length - j.1⟩
  else none, fun _ => none⟩
end Go.AM

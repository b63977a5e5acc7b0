import Derived.Test.YtagcmdpmmmbedaaGreatDoorOQ
open Go Go.AM Go.Proofs
namespace Go.AM
/-- all slots but those forgotten -/
def keepS (keep : List Nat) : Nat → Env → Env
  | _, [] => []
  | i, a :: l => (if keep.contains i then a else AV.any) :: keepS keep (i + 1) l
/-- the blocks that are kept -/
def keepB (keep : List Nat) : Nat → Heap → Heap
  | _, [] => []
  | i, b :: l => (if keep.contains i then b else .gone) :: keepB keep (i + 1) l
/-- so many first blocks of the memory -/
def headH (n : Nat) (h : Heap) : Heap := takeN n h
def I' (n : Int) : AV := .v (.one (.sym .i64 n))
def gt (xs : List OpI) (k : Nat) : OpI := xs.getD k zeroO
/-- the error of a list of maps -/
def mapsL : List OpI → Int → Int
  | [], w => w
  | o :: l, w => if oM oneO o = 3 then 3 else mapsL l (if oM oneO o = 4 then 4 else w)
def mapsE (l : List OpI) : Int := if 192 < (l.length : Int) then 2 else mapsL l 0
def annMaps (xs : List OpI) : Annos := ⟨1, fun id env h => if id = 5 then forceE (keepS [0, 3, 11, 12, 13] 0 env) fun env => some ⟨{ p : Nat × Int // p.1 ≤ xs.length ∧ mapsL xs 0 = mapsL (xs.drop p.1) p.2 }, fun p => (set (set env 13 (I' (p.1.1 : Int))) 3 (I' p.1.2), headH 1 h), fun p => xs.length - p.1.1⟩ else none, fun _ => none⟩
def R0 : Sums := (O11.add 44 qMulO).add 41 qCmpO
theorem pR0 : OkS P R0 := (pO11.add1 fine pO5 ohMulO).add1 fine pO7 ohCmpO
end Go.AM

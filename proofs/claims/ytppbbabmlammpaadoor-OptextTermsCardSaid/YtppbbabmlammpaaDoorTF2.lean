import Derived.Test.YtppbbabmlammpaaDoorTF1
import Derived.Test.YtppbbabmlammpaaDoorTC3
set_option linter.unusedVariables false
set_option linter.unusedSimpArgs false
open Go Go.AM Go.Proofs
namespace Go.AM
open Dist
def letL (e : Int) (l : UInt8) : List Trm := if e = 0 then [] else if e < 0 then [.lt .minus (some (-e)) l] else [.lt .plus (some e) l]
def trmL (e0 e1 e2 t : Int) (mn : Bool) : Nat → List Trm
  | 0 => letL e0 120
  | 1 => letL e1 121
  | 2 => letL e2 122
  | _ => [if mn = true then frTrm .minus (mdR (-t)) else frTrm .plus (mdR t)]
def rotL (e0 e1 e2 t : Int) (mn : Bool) (u : Int) : Nat → List Trm
  | 0 => []
  | k + 1 => rotL e0 e1 e2 t mn u k ++ trmL e0 e1 e2 t mn ((k + u.toNat) % 4)
structure OpT where
  a : Int
  b : Int
  c : Int
  d : Int
  e : Int
  f : Int
  g : Int
  h : Int
  i : Int
  x : Int
  y : Int
  z : Int
  u0 : Int
  u1 : Int
  u2 : Int
  mn : Bool
def accT (o : OpT) : Nat → Nat → List UInt8
  | 0, k => txt (rotL o.a o.b o.c o.x o.mn o.u0 k)
  | 1, k => txt (rotL o.a o.b o.c o.x o.mn o.u0 4) ++ [44] ++ txt (rotL o.d o.e o.f o.y o.mn o.u1 k)
  | _, k => txt (rotL o.a o.b o.c o.x o.mn o.u0 4) ++ [44] ++ txt (rotL o.d o.e o.f o.y o.mn o.u1 4) ++ [44] ++ txt (rotL o.g o.h o.i o.z o.mn o.u2 k)
def annTrm (o : OpT) : Annos := ⟨0, fun id env h =>
  if id = 13 then (match getD env 10 AV.any with
    | .v (.one (.con _ i)) => forceH (keepBs (app (blkOf (getD env 3 AV.any)) (blkOf (getD env 4 AV.any))) 0 h) fun h => forceE (keepT [2, 3, 4, 10, 31] 0 env) fun env =>
      some ⟨{ k : Nat // k ≤ 4 }, fun k => (set (set env 9 (.v (.one (.str (accT o i.toNat k.1))))) 38 (.v (.one (.sym .i64 k.1))), h), fun k => 4 - k.1⟩
    | _ => none) else none, fun _ _ _ => []⟩
end Go.AM

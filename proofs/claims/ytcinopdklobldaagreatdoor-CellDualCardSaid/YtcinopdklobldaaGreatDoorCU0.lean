import Derived.Test.YtcinopdklobldaaGreatDoorCF
import Derived.Test.YtcinopdklobldaaGreatDoorPW
open Go Go.AM Go.Proofs
namespace Go.AM
open Dist
/-- the pairs that the loop of a greatest divisor goes through -/
structure GInv (a b : Int) (p : Int × Int) : Prop where
  h1 : 0 ≤ p.1
  h2 : 0 ≤ p.2
  h3 : Int.gcd p.1 p.2 = Int.gcd a b
def annG (env : Env) (h : Heap) : Option Ann :=
  match getD env 23 AV.any, getD env 24 AV.any with
  | .v (.one (.sym .u64 a)), .v (.one (.sym .u64 b)) => forceE (keepE [0, 1, 2, 3, 4, 11, 12, 16, 17] 0 env) fun env => some ⟨{ p : Int × Int // GInv a b p }, fun p => (set (set env 23 (.v (.one (.sym .u64 p.1.1)))) 24 (.v (.one (.sym .u64 p.1.2))), h), fun p => p.1.2.toNat⟩
  | _, _ => none
def DG : Sums := { D2 with ann := fun f => if f = 103 then some (fun id env h => if id = 39 then annG env h else none) else none }
end Go.AM

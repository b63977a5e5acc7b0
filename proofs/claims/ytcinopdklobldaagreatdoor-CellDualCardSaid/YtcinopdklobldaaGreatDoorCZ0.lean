import Derived.Test.YtcinopdklobldaaGreatDoorCS4
import Derived.Test.YtcinopdklobldaaGreatDoorCM
import Derived.Test.YtcinopdklobldaaGreatDoorCW6
open Go Go.AM Go.Proofs
namespace Go.AM
def F2 : Sums := (D10.add 26 q25w).add 23 qRat
def annQ (env : Env) (h : Heap) : Option Ann :=
  match getD env 14 AV.any, getD env 15 AV.any with
  | .v (.one (.sym .i64 a)), .v (.one (.sym .i64 b)) => forceE (keepE [3, 4, 5, 6, 7, 12, 13] 0 env) fun env => some ⟨{ p : Int × Int // GInv a b p }, fun p => (set (set env 14 (.v (.one (.sym .i64 p.1.1)))) 15 (.v (.one (.sym .i64 p.1.2))), h), fun p => p.1.2.toNat⟩
  | _, _ => none
/-- ahead of the second spacing: the metric, the index, the first spacing -/
def annR (a b c d e f h1 h2 h3 sn sd : Int) : Ann := ⟨Unit, fun _ => (set (set (set (set (keepE [] 0 (rep 212)) 3 (.v (.one (.ptr 0 0)))) 4 (.v (.one (.ptr 1 0)))) 7 (.v (.one (.ptr 2 0)))) 6 (.v (.one (.cb false))),
  [.row 23 [.sym .i64 a, .sym .i64 b, .sym .i64 c, .sym .i64 d, .sym .i64 e, .sym .i64 f], .row 25 [.sym .i64 h1, .sym .i64 h2, .sym .i64 h3], .row 38 [.sym .i64 sn, .sym .i64 sd]]), fun _ => 0⟩
def AQ (a b c d e f h1 h2 h3 sn sd : Int) : Annos := ⟨0, fun id env h => if id = 13 then annQ env h else if id = 14 then annQ env h else none, fun id => if id = 19 then some (annR a b c d e f h1 h2 h3 sn sd) else none⟩
end Go.AM

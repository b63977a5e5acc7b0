import Derived.Test.YtppbbabmlammpaaDoorPC
set_option linter.unusedVariables false
set_option linter.unusedSimpArgs false
open Go Go.AM Go.Proofs
namespace Go.AM
open Dist
def qDcR (B : Int) : PSpec
  | [.v (.one (.sym .i64 n))] => .iff (0 ≤ n ∧ n < B) (.v (.one (.str (Lib.itoa n))))
  | _ => .fail
def VD (B : Int) (o : OnB) : Sums := (Y9 o).addR 50 (qDcR B)
def qFrR : PSpec
  | [.v (.one (.sym .i64 n))] => .ok (.v (.one (.str (frT (mdR n)))))
  | _ => .fail
def annFr : Annos := ⟨0, fun _ _ _ => none, fun id env h => if id = 3 then (match getD env 0 AV.any with
  | .v (.one (.sym _ m)) => forceE (keepT [] 0 env) fun env => [0, 1, 2, 3, 4, 5, 6, 7, 8, 9, 10, 11, 12, 13, 14, 15, 16, 17, 18, 19, 20, 21, 22, 23].map fun (r : Int) => ⟨PLift (m = r), fun _ => (set (set env 0 (.v (.one (.con .i64 r)))) 3 (.v (.one (.con .i64 24))), h), fun _ => 0⟩
  | _ => []) else []⟩
end Go.AM

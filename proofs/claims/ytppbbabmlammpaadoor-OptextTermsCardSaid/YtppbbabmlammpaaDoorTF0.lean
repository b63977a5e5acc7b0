import Derived.Test.YtppbbabmlammpaaDoorTE3
set_option linter.unusedVariables false
set_option linter.unusedSimpArgs false
open Go Go.AM Go.Proofs
namespace Go.AM
open Dist
def qDec (B : Int) : PSpec
  | [.v (.one (.sym .i64 n))] => .iff (0 ≤ n ∧ n < B) (.v (.one (.str (Lib.itoa n))))
  | _ => .fail
def YD (B : Int) (o : OnB) : Sums := (YC o).add 51 (qDec B)
end Go.AM

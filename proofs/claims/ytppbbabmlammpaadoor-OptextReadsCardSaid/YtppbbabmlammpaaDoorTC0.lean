import Derived.Test.YtppbbabmlammpaaDoorTTB
set_option linter.unusedVariables false
set_option linter.unusedSimpArgs false
open Go Go.AM Go.Proofs
namespace Go.AM
def annDiv (a b : Int) : Annos := ⟨0, fun id env h => if id = 1 then some ⟨{ p : Int × Int // 0 ≤ p.1 ∧ 0 ≤ p.2 ∧ Int.gcd p.1 p.2 = Int.gcd a b },
  fun p => (set (set (keepT [] 0 env) 0 (.v (.one (.sym .i64 p.1.1)))) 1 (.v (.one (.sym .i64 p.1.2))), []),
  fun p => p.1.2.toNat⟩ else none, fun _ _ _ => []⟩
end Go.AM

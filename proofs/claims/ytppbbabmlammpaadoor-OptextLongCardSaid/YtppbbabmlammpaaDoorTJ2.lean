import Derived.Test.YtppbbabmlammpaaDoorPI
set_option linter.unusedVariables false
set_option linter.unusedSimpArgs false
open Go Go.AM Go.Proofs
namespace Go.AM
open Dist
def annLong : Annos := ⟨0, fun id env _ => if id = 4 then forceE (keepT [1] 0 env) fun env => some ⟨{ l : List UInt8 // l.length ≤ 65538 }, fun x => (set env 5 (.v (.one (.ow 0 1 0 x.1.length false))), [.own 5 byC x.1]), fun x => 65539 - x.1.length⟩ else none, fun _ _ _ => []⟩
end Go.AM

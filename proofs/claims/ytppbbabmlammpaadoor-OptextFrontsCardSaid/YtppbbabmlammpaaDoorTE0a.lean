import Derived.Test.YtppbbabmlammpaaDoorTD3
set_option linter.unusedVariables false
set_option linter.unusedSimpArgs false
open Go Go.AM Go.Proofs
namespace Go.AM
open Dist
set_option maxRecDepth 100000
theorem mdR_id {r : Int} (h0 : 0 ≤ r) (h1 : r < 24) : mdR r = r := by have := (mdR_bd r).2.2; omega
end Go.AM

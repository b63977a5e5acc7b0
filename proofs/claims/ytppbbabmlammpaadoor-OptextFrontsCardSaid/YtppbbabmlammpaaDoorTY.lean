import Derived.Test.YtppbbabmlammpaaDoorOQ0
import Derived.Test.YtppbbabmlammpaaDoorAMRead
set_option linter.unusedVariables false
set_option linter.unusedSimpArgs false
open Go Go.AM Go.Proofs
namespace Go.AM
def Y0 (o : OnB) : Sums := { O6 with on := o }
theorem pY0 (o : OnB) : OkS P (Y0 o) := ⟨pO6.pure, pO6.spec, pO6.mono⟩
end Go.AM

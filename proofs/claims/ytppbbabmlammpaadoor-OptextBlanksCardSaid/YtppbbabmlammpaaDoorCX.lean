import Derived.Test.YtppbbabmlammpaaDoorTX
import Derived.KernelRfl
open Go Go.AM Go.Proofs
namespace Go.AM
def G0 : Sums := X1
end Go.AM

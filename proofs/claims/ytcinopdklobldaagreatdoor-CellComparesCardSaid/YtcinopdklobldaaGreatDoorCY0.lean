import Derived.Test.YtcinopdklobldaaGreatDoorCJ
import Derived.Test.YtcinopdklobldaaGreatDoorCW6
open Go Go.AM Go.Proofs
namespace Go.AM
def F1 : Sums := (D6.add 23 qRat).add 24 qRat
end Go.AM

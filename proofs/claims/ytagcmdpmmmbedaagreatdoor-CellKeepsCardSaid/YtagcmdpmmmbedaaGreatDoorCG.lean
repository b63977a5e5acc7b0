import Derived.Test.YtagcmdpmmmbedaaGreatDoorCF
open Go Go.AM Go.Proofs
namespace Go.AM
def q15c : PSpec
  | [.v (.agg [.sym .i64 a, .sym .i64 b, .sym .i64 c, .sym .i64 d, .sym .i64 e, .sym .i64 f])] => .ok (.tup [.one (.sym .i64 (if checkC a b c d e f = 0 then detR a b c d e f else 0)), .one (.sym .i64 (checkC a b c d e f))])
  | _ => .fail
def D3 : Sums := ((D2)).add 18 q22c [true, true]
end Go.AM

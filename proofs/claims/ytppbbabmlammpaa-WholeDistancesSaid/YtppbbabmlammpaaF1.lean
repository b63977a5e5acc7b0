import Derived.Test.YtppbbabmlammpaaProg
import Derived.KernelRfl
import Derived.Test.YtppbbabmlammpaaAMExec
open Go Go.AM Go.Proofs
namespace Go.AM
noncomputable abbrev P := Try.prog
abbrev I (n : Int) : AV := .v (.one (.sym .i64 n))
abbrev B (b : Bool) : AV := .v (.one (.sb b))
abbrev V (a b c : Int) : AV := .v (.agg [.sym .i64 a, .sym .i64 b, .sym .i64 c])
abbrev M (a b c d e f g h i : Int) : AV := .v (.agg [.sym .i64 a, .sym .i64 b, .sym .i64 c, .sym .i64 d, .sym .i64 e, .sym .i64 f, .sym .i64 g, .sym .i64 h, .sym .i64 i])
abbrev M6 (a b c d e f : Int) : AV := .v (.agg [.sym .i64 a, .sym .i64 b, .sym .i64 c, .sym .i64 d, .sym .i64 e, .sym .i64 f])
abbrev Pt (m a b c : Int) : AV := .v (.agg [.sym .i64 m, .sym .i64 a, .sym .i64 b, .sym .i64 c])
abbrev C (n : Int) : AV := .v (.one (.con .i64 n))
def G0 : Sums := ⟨fun _ => none, fun _ => none⟩
def modF (n m : Int) : Int := (IntKind.i64.wrap (n.tmod m + m)).tmod m
def qMod : PSpec
  | [.v (.one (.sym .i64 n)), .v (.one (.sym .i64 m))] => .iff (m ≠ 0) (I (modF n m))
  | _ => .fail
def qMod24 : PSpec
  | [.v (.one (.sym .i64 n))] => .ok (I (modF n 24))
  | _ => .fail
def beyond (x m : Int) : Bool := decide (x < IntKind.i64.wrap (0 - m)) || decide (m < x)
def qBeyond : PSpec
  | [.v (.one (.sym .i64 x)), .v (.one (.sym .i64 m))] => .ok (B (beyond x m))
  | _ => .fail
def right (m : Int) : Bool := decide (m = 24) || (decide (m = 48) || (decide (m = 96) || decide (m = 192)))
def qRight : PSpec
  | [.v (.one (.sym .i64 m))] => .ok (B (right m))
  | _ => .fail
def qBeyond3 : PSpec
  | [.v (.agg [.sym .i64 a, .sym .i64 b, .sym .i64 c]), .v (.one (.sym .i64 m))] => .ok (B (beyond a m || (beyond b m || beyond c m)))
  | _ => .fail
def G1 : Sums := (((G0.add 19 qMod).add 65 qMod24).add 46 qBeyond).add 16 qRight |>.add 27 qBeyond3
end Go.AM

import Derived.Test.YtppbbabmlammpaaDoorTG1
set_option linter.unusedVariables false
set_option linter.unusedSimpArgs false
open Go Go.AM Go.Proofs
namespace Go.AM
open Dist
def dk (ys : List DTok) (i : Int) : DTok := ys.getD i.toNat dtkC.d
def Pd (ys : List DTok) (i : Int) (len : Nat) : Prop := len = ys.length ∧ (0 ≤ i ∧ i < (ys.length : Int)) ∧ ys.length ≤ 4611686018427387904
def dH (ys : List DTok) (s : List UInt8) (i p : Int) (len : Nat) : Heap := [.row 89 [.str s, .ow 1 3 0 len false, .sym .i64 i, .sym .i64 p], .own 100 dtkC ys]
def dK (ys : List DTok) (s : List UInt8) (v : AV) (i p : Int) : KV := fun v' h' => MatchTo 2 [v'] h' ([v], dH ys s i p ys.length)
def dtS (t : DTok) : AV := .v (.agg [.sym .u8 t.kind, .sym .i64 t.pos, .sym .i64 t.next])
def dFail (p at' : Int) : Int := if p < 0 then at' else p
def dSkip (ys : List DTok) (i : Int) : Int := if i < (ys.length : Int) - 1 then i + 1 else i
def qNow : MSpec dtkC := fun os cs ys => match os, cs with
  | [], [.str s, .ow 1 3 0 len false, .sym .i64 i, .sym .i64 p] => some (Pd ys i len, dtS (dk ys i), [.str s, .ow 1 3 0 (@List.length DTok ys) false, .sym .i64 i, .sym .i64 p])
  | _, _ => none
end Go.AM

import Derived.Test.YtppbbabmlammpaaDoorTG3
set_option linter.unusedVariables false
set_option linter.unusedSimpArgs false
open Go Go.AM Go.Proofs
namespace Go.AM
open Dist
def numL (l : List UInt8) : Int := l.foldl (fun a b => 10 * a + ((b.toNat : Int) - 48)) 0
def subI (s : List UInt8) (a : Int) (j : Nat) : List UInt8 := (s.drop a.toNat).take (j - a.toNat)
def annNum (s : List UInt8) (a b : Int) : Annos := ⟨2, fun id env h =>
  if id = 5 then forceE (keepT [0, 4] 0 env) fun env => forceH h fun h => some ⟨{ j : Nat // a.toNat ≤ j ∧ j ≤ b.toNat }, fun j => (set (set env 7 (.v (.one (.sym .i64 (numL (subI s a j.1)))))) 8 (.v (.one (.sym .i64 j.1))), h), fun j => b.toNat - j.1⟩
  else none, fun _ _ _ => []⟩
def dTi (ys : List DTok) (i k : Int) : Int := if (dk ys i).kind = k then dSkip ys i else i
def dTp (ys : List DTok) (i p k : Int) : Int := if (dk ys i).kind = k then p else dFail p (dk ys i).pos
def dSv (ys : List DTok) (i : Int) : Int := if (dk ys i).kind = 45 then -1 else 1
def dSi (ys : List DTok) (i : Int) : Int := if (dk ys i).kind = 45 then dSkip ys i else if (dk ys i).kind = 43 then dSkip ys i else i
def dLet (n : Int) : Int := if n < 120 then -1 else if 122 < n then -1 else n - 120
def dNum (s : List UInt8) (a b m : Int) : Int := if m < b - a then -1 else if 1 < b - a ∧ bt s a.toNat = 48 then -1 else numL (subI s a b.toNat)
end Go.AM

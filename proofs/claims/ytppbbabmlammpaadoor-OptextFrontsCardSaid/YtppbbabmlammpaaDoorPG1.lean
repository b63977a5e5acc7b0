import Derived.Test.YtppbbabmlammpaaDoorTTB
import Derived.Test.YtppbbabmlammpaaDoorPT1
set_option linter.unusedVariables false
set_option linter.unusedSimpArgs false
open Go Go.AM Go.Proofs
namespace Go.AM
open Dist
set_option maxRecDepth 100000
def bt (s : List UInt8) (i : Nat) : Int := ((s.getD i 0).toNat : Int)
def symR (r : Int) : Bool := decide (r = 120) || (decide (r = 121) || (decide (r = 122) || (decide (r = 43) || (decide (r = 45) || (decide (r = 44) || decide (r = 47))))))
end Go.AM
open Go Go.AM Go.Proofs
namespace Go.AM
open Dist
set_option maxRecDepth 100000
end Go.AM
open Go Go.AM Go.Proofs
namespace Go.AM
open Dist
def dk (ys : List DTok) (i : Int) : DTok := ys.getD i.toNat dtkC.d
def dSkip (ys : List DTok) (i : Int) : Int := if i < (ys.length : Int) - 1 then i + 1 else i
end Go.AM
open Go Go.AM Go.Proofs
namespace Go.AM
open Dist
set_option maxRecDepth 100000
end Go.AM
open Go Go.AM Go.Proofs
namespace Go.AM
open Dist
def numL (l : List UInt8) : Int := l.foldl (fun a b => 10 * a + ((b.toNat : Int) - 48)) 0
def subI (s : List UInt8) (a : Int) (j : Nat) : List UInt8 := (s.drop a.toNat).take (j - a.toNat)
def dSv (ys : List DTok) (i : Int) : Int := if (dk ys i).kind = 45 then -1 else 1
def dSi (ys : List DTok) (i : Int) : Int := if (dk ys i).kind = 45 then dSkip ys i else if (dk ys i).kind = 43 then dSkip ys i else i
def dNum (s : List UInt8) (a b m : Int) : Int := if m < b - a then -1 else if 1 < b - a ∧ bt s a.toNat = 48 then -1 else numL (subI s a b.toNat)
end Go.AM
open Go Go.AM Go.Proofs
namespace Go.AM
open Dist
set_option maxRecDepth 100000
end Go.AM
open Go Go.AM Go.Proofs
namespace Go.AM
open Dist
set_option maxRecDepth 100000
def dFr (s : List UInt8) (ys : List DTok) (i a b : Int) (g : Bool) : Int × Int × Int :=
  if dNum s a b 3 < 0 ∨ g = true then (0, i, a)
  else if ¬ (dk ys i).kind = 47 then (24 * dNum s a b 3, i, -1)
  else if ¬ (dk ys (dSkip ys i)).kind = 48 then (0, dSkip ys i, (dk ys (dSkip ys i)).pos)
  else if dNum s (dk ys (dSkip ys i)).pos (dk ys (dSkip ys i)).next 3 < 1 ∨ ¬ (24 * dNum s a b 3).tmod (dNum s (dk ys (dSkip ys i)).pos (dk ys (dSkip ys i)).next 3) = 0 then (0, dSkip ys (dSkip ys i), a)
  else ((24 * dNum s a b 3).tdiv (dNum s (dk ys (dSkip ys i)).pos (dk ys (dSkip ys i)).next 3), dSkip ys (dSkip ys i), -1)
end Go.AM

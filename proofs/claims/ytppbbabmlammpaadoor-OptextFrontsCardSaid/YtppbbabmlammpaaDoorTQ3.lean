import Derived.Test.YtppbbabmlammpaaDoorTE2
import Derived.Test.YtppbbabmlammpaaDoorTQ2
set_option linter.unusedVariables false
set_option linter.unusedSimpArgs false
open Go Go.AM Go.Proofs
namespace Go.AM
open Dist
set_option maxRecDepth 100000
def sdD (b : UInt8) : Bool := decide ((b.toNat : Int) = 47) || digR b.toNat
def insL : List UInt8 → Bool
  | [] => true
  | b :: u => sdD b && insL u
def insP (s : List UInt8) (i a : Nat) : Bool := insL ((s.drop a).take (i - a))
def insF (s : List UInt8) (i a : Int) : Bool := if i ≤ a ∨ a < 0 then false else insP s i.toNat a.toNat
def qInside : PSpec
  | [.v (.one (.str s)), .v (.one (.sym .i64 i)), .v (.one (.sym .i64 a))] => .iff (s.length ≤ 10000 ∧ 0 ≤ i ∧ i ≤ s.length) (.v (.one (.sb (insF s i a))))
  | _ => .fail
def annIn (s : List UInt8) (i : Int) (R : Bool) : Annos := ⟨0, fun id env _ =>
  if id = 4 then forceE (keepT [0, 1] 0 env) fun env => some ⟨{ k : Nat // (k : Int) ≤ i ∧ insP s i.toNat k = R }, fun x => (set env 7 (.v (.one (.sym .i64 x.1))), []), fun x => i.toNat - x.1⟩
  else none, fun _ _ _ => []⟩
def annFro (s : List UInt8) : Annos := ⟨0, fun id env _ =>
  if id = 8 then forceE (keepT [1, 5, 27] 0 env) fun env => some ⟨{ k : Nat // k ≤ s.length }, fun x => (set (set env 7 (.v (.one (.sym .i64 (cmF s x.1))))) 28 (.v (.one (.sym .i64 x.1))), []), fun x => s.length - x.1⟩
  else none, fun _ _ _ => []⟩
def YE (o : OnB) : Sums := (YB o).add 22 qInside
end Go.AM

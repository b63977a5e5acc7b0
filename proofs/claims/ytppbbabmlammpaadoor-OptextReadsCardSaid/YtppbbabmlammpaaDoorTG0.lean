import Derived.Test.YtppbbabmlammpaaDoorTTB
import Derived.Test.YtppbbabmlammpaaDoorPT1
set_option linter.unusedVariables false
set_option linter.unusedSimpArgs false
open Go Go.AM Go.Proofs
namespace Go.AM
open Dist
set_option maxRecDepth 100000
def qDigit : PSpec
  | [.v (.one (.sym .u8 n))] => .ok (.v (.one (.sb (digR n))))
  | _ => .fail
theorem nfdig (n : Int) (K : KV) : call P (Y0 stdOn) noAnn 1000 Tryd.f63 [.v (.one (.sym .u8 n))] [] K = ((decide ((48 : Int) ≤ n) = true → K (AV.v (PV.one (SV.sb (decide (n ≤ (57 : Int)))))) []) ∧ (decide ((48 : Int) ≤ n) = false → K (AV.v (PV.one (SV.cb false))) [])) := by kernel_rfl
theorem leafSB {b c : Bool} (h : b = c) : (AV.v (PV.one (SV.sb b))).valOf = some (.bool c) ∧ ([] : Heap) = [] := by subst h; exact ⟨rfl, rfl⟩
theorem leafCB {b c : Bool} (h : b = c) : (AV.v (PV.one (SV.cb b))).valOf = some (.bool c) ∧ ([] : Heap) = [] := by subst h; exact ⟨rfl, rfl⟩
theorem hDigit : Holds P (Y0 stdOn) 63 qDigit := by
  refine holdsA (fn := Tryd.f63) noAnn 1000 rfl (by kernel_rfl) (by kernel_rfl) fun args av hg => ?_
  unfold qDigit at hg
  split at hg
  · rename_i n
    rw [gives_ok hg]
    refine ⟨rfl, .bool (digR n), rfl, ?_⟩
    rw [nfdig]
    refine ⟨fun y => leafSB ?_, fun y => leafCB ?_⟩
    · unfold digR; rw [y]; rfl
    · unfold digR; rw [y]; rfl
  · exact (gives_fail hg).elim
def Z1 (o : OnB) : Sums := (Y0 o).add 63 qDigit
theorem pZ1 (o : OnB) : OkS P (Z1 o) := (pY0 o).add1 fine (pY0 stdOn) hDigit
def bt (s : List UInt8) (i : Nat) : Int := ((s.getD i 0).toNat : Int)
def dEnd (s : List UInt8) : Nat → Nat → Nat
  | 0, j => j
  | n + 1, j => if j < s.length ∧ digR (bt s j) = true then dEnd s n (j + 1) else j
def symR (r : Int) : Bool := decide (r = 120) || (decide (r = 121) || (decide (r = 122) || (decide (r = 43) || (decide (r = 45) || (decide (r = 44) || decide (r = 47))))))
def dtP (s : List UInt8) : Nat → Nat → List DTok
  | 0, _ => []
  | n + 1, i => if i < s.length then
      (if bt s i = 32 then dtP s n (i + 1)
      else if digR (bt s i) = true then ⟨48, i, dEnd s s.length i⟩ :: dtP s n (dEnd s s.length i)
      else if symR (bt s i) = true then ⟨bt s i, i, i + 1⟩ :: dtP s n (i + 1)
      else [⟨0, i, i⟩])
    else [⟨101, s.length, s.length⟩]
def dtoks (s : List UInt8) : List DTok := dtP s (s.length + 1) 0
structure DS where
  n : Nat
  i : Nat
  l : List DTok
def DSok (s : List UInt8) (x : DS) : Prop := x.l ++ dtP s x.n x.i = dtoks s ∧ s.length - x.i < x.n ∧ x.i ≤ s.length ∧ x.l.length ≤ x.i
def annDT (s : List UInt8) : Annos := ⟨0, fun id env h =>
  if id = 3 then forceE (keepT [0] 0 env) fun env => some ⟨{ x : DS // DSok s x }, fun x => (set (set env 3 (.v (.one (.ow 0 3 0 x.1.l.length false)))) 4 (.v (.one (.sym .i64 x.1.i))), [.own 100 dtkC x.1.l]), fun x => x.1.n⟩
  else if id = 10 then (match getD env 4 AV.any with
    | .v (.one (.sym _ k)) => forceH (keepBs (blkOf (getD env 3 AV.any)) 0 h) fun h => forceE (keepT [0, 3, 4, 5] 0 env) fun env => some ⟨{ j : Nat // k.toNat ≤ j ∧ j ≤ s.length ∧ dEnd s (s.length - (j - k.toNat)) j = dEnd s s.length k.toNat }, fun j => (set env 6 (.v (.one (.sym .i64 j.1))), h), fun j => s.length - j.1⟩
    | _ => none)
  else none, fun _ _ _ => []⟩
end Go.AM

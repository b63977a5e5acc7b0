import Derived.Test.YtppbbabmlammpaaDoorTE1
set_option linter.unusedVariables false
set_option linter.unusedSimpArgs false
open Go Go.AM Go.Proofs
namespace Go.AM
open Dist
set_option maxRecDepth 100000
theorem nfawk  (K : KV) : call P (YA stdOn) noAnn 10000 Tryd.f13 [] [] K = (K (AV.v (PV.one (SV.cb (decide (frT (mdR (18 : Int)) = [(51 : UInt8), (47 : UInt8), (52 : UInt8)]))))) []) := by kernel_rfl
theorem itoa_small (n : Nat) (h : n < 10) : Lib.itoa (n : Int) = [UInt8.ofNat (48 + n)] := by
  unfold Lib.itoa
  rw [if_neg (by omega)]
  show Lib.decDigits n = _
  rw [Lib.decDigits, dif_pos h]
theorem frT_18 : frT (mdR 18) = [51, 47, 52] := by
  have e : mdR 18 = 18 := mdR_id (by decide) (by decide)
  rw [e, frT, if_neg (by decide)]
  rw [show (18 : Int).tdiv ((Int.gcd 18 24 : Nat) : Int) = ((3 : Nat) : Int) by decide, show (24 : Int).tdiv ((Int.gcd 18 24 : Nat) : Int) = ((4 : Nat) : Int) by decide, itoa_small 3 (by decide), itoa_small 4 (by decide)]
  rfl
def qAwake : PSpec
  | [] => .ok (.v (.one (.cb true)))
  | _ => .fail
theorem hAwake : Holds P (YA stdOn) 13 qAwake := by
  refine holdsA (fn := Tryd.f13) noAnn 10000 rfl (by kernel_rfl) (by kernel_rfl) fun args av hg => ?_
  unfold qAwake at hg
  split at hg
  · rw [gives_ok hg]
    refine ⟨rfl, .bool true, rfl, ?_⟩
    rw [nfawk]
    exact lT (decide_eq_true frT_18)
  · exact (gives_fail hg).elim
def YB (o : OnB) : Sums := (YA o).add 13 qAwake
theorem pYB (o : OnB) : OkS P (YB o) := (pYA o).add1 fine (pYA stdOn) hAwake
def dgt (s : List UInt8) (i : Nat) : Bool := decide (0 < i) && (digR (s.getD i 0).toNat && digR (s.getD (i - 1) 0).toNat)
def sprP (m : Nat) (s : List UInt8) : Nat → Nat → List UInt8
  | 0, _ => bl m
  | n + 1, i => (if dgt s i = true then [] else bl m) ++ (s.getD i 0 :: sprP m s n (i + 1))
def sprF (m : Nat) (s : List UInt8) : List UInt8 := sprP m s s.length 0
structure SP where
  i : Nat
  j : Nat
  l : List UInt8
def spA (m : Nat) (s : List UInt8) (x : SP) : Prop := x.l ++ sprP m s (s.length - x.i) x.i = sprF m s ∧ x.i ≤ s.length ∧ x.l.length ≤ 4 * x.i
def spB (m : Nat) (s : List UInt8) (k : Int) (x : SP) : Prop := x.l ++ ((if dgt s k.toNat = true then [] else bl (m - x.j)) ++ (s.getD k.toNat 0 :: sprP m s (s.length - (k.toNat + 1)) (k.toNat + 1))) = sprF m s ∧ k.toNat < s.length ∧ x.j ≤ m ∧ x.l.length ≤ 4 * k.toNat + x.j
def spC (m : Nat) (s : List UInt8) (x : SP) : Prop := x.l ++ bl (m - x.j) = sprF m s ∧ x.j ≤ m ∧ x.l.length ≤ 4 * s.length + x.j
def annSpr (m : Nat) (s : List UInt8) : Annos := ⟨0, fun id env _ =>
  if id = 3 then forceE (keepT [0, 1, 9] 0 env) fun env => some ⟨{ x : SP // spA m s x }, fun x => (set (set env 5 (.v (.one (.ow 0 1 0 x.1.l.length false)))) 10 (.v (.one (.sym .i64 x.1.i))), [.own 5 byC x.1.l]), fun x => s.length - x.1.i⟩
  else if id = 7 then (match getD env 10 AV.any with
    | .v (.one (.sym _ k)) => forceE (keepT [0, 1, 6, 9, 10, 41] 0 env) fun env => some ⟨{ x : SP // spB m s k x }, fun x => (set (set (set env 5 (.v (.one (.ow 0 1 0 x.1.l.length false)))) 7 (.v (.one (.sb (dgt s k.toNat))))) 42 (.v (.one (.sym .i64 x.1.j))), [.own 5 byC x.1.l]), fun x => m - x.1.j⟩
    | _ => none)
  else if id = 14 then forceE (keepT [57] 0 env) fun env => some ⟨{ x : SP // spC m s x }, fun x => (set (set env 5 (.v (.one (.ow 0 1 0 x.1.l.length false)))) 58 (.v (.one (.sym .i64 x.1.j))), [.own 5 byC x.1.l]), fun x => m - x.1.j⟩
  else none,
  fun id env _ => if id = 6 then (match getD env 10 AV.any with
    | .v (.one (.sym _ k)) => forceE (keepT [0, 1, 6, 9, 10] 0 env) fun env => [⟨{ x : SP // spB m s k x ∧ x.j = 0 }, fun x => (set (set env 5 (.v (.one (.ow 0 1 0 x.1.l.length false)))) 7 (.v (.one (.sb (dgt s k.toNat)))), [.own 5 byC x.1.l]), fun _ => 0⟩]
    | _ => []) else []⟩
end Go.AM

import Derived.Test.YtppbbabmlammpaaDoorPH
import Derived.Test.YtppbbabmlammpaaDoorPI2
import Derived.Test.YtppbbabmlammpaaDoorPT3
set_option linter.unusedVariables false
set_option linter.unusedSimpArgs false
open Go Go.AM Go.Proofs
namespace Go.AM
def V0 (o : OnB) : Sums := ((V2 o).add 15 qRead).add 17 qRFrac
theorem pV0 (o : OnB) : OkS P (V0 o) := ((pV2 o).add1 fine (pZ7 pruneOn) hDocRead).add1 fine (pZ7 pruneOn) hDocRFrac
end Go.AM
open Go Go.AM Go.Proofs
namespace Go.AM
open Dist
set_option maxRecDepth 100000
theorem nfawk2  (K : KV) : call P (V0 stdOn) noAnn 10000 Tryd.f13 [] [] K = ((((↑([(43 : UInt8)].length + (frT (mdR (Int.ofNat (nat_lit 7 + (1 : Nat))))).length) : Int) ≤ IntKind.i64.max ∧ ((Lib.join [[UInt8.ofNat (nat_lit 44 + (1 : Nat)), UInt8.ofNat (nat_lit 120 + (1 : Nat))], [UInt8.ofNat (nat_lit 119 + (1 : Nat)), UInt8.ofNat (nat_lit 44 + (1 : Nat)), UInt8.ofNat (nat_lit 120 + (1 : Nat))], [UInt8.ofNat (nat_lit 121 + (1 : Nat)), UInt8.ofNat (nat_lit 42 + (1 : Nat)), UInt8.ofNat (nat_lit 48 + (1 : Nat)), UInt8.ofNat (nat_lit 46 + (1 : Nat)), UInt8.ofNat (nat_lit 50 + (1 : Nat))]] [(44 : UInt8)]).length.le (140737488355328 : Nat) ∧ K (AV.v (PV.one (SV.cb (decide (frT (mdR (18 : Int)) = [(51 : UInt8), (47 : UInt8), (52 : UInt8)]))))) []) ∧ (Lib.join [[UInt8.ofNat (nat_lit 44 + (1 : Nat)), UInt8.ofNat (nat_lit 120 + (1 : Nat))], [UInt8.ofNat (nat_lit 119 + (1 : Nat)), UInt8.ofNat (nat_lit 44 + (1 : Nat)), UInt8.ofNat (nat_lit 120 + (1 : Nat))], [UInt8.ofNat (nat_lit 121 + (1 : Nat)), UInt8.ofNat (nat_lit 42 + (1 : Nat)), UInt8.ofNat (nat_lit 48 + (1 : Nat)), UInt8.ofNat (nat_lit 46 + (1 : Nat)), UInt8.ofNat (nat_lit 50 + (1 : Nat))]] [(44 : UInt8)]).length.le (140737488355328 : Nat) ∧ K (AV.v (PV.one (SV.cb (decide (frT (mdR (18 : Int)) = [(51 : UInt8), (47 : UInt8), (52 : UInt8)]))))) []) ∧ (↑([(43 : UInt8)].length + (frT (mdR (Int.ofNat (nat_lit 7 + (1 : Nat))))).length) : Int) ≤ IntKind.i64.max ∧ ((Lib.join [[UInt8.ofNat (nat_lit 44 + (1 : Nat)), UInt8.ofNat (nat_lit 120 + (1 : Nat))], [UInt8.ofNat (nat_lit 119 + (1 : Nat)), UInt8.ofNat (nat_lit 44 + (1 : Nat)), UInt8.ofNat (nat_lit 120 + (1 : Nat))], [UInt8.ofNat (nat_lit 121 + (1 : Nat)), UInt8.ofNat (nat_lit 42 + (1 : Nat)), UInt8.ofNat (nat_lit 48 + (1 : Nat)), UInt8.ofNat (nat_lit 46 + (1 : Nat)), UInt8.ofNat (nat_lit 50 + (1 : Nat))]] [(44 : UInt8)]).length.le (140737488355328 : Nat) ∧ K (AV.v (PV.one (SV.cb (decide (frT (mdR (18 : Int)) = [(51 : UInt8), (47 : UInt8), (52 : UInt8)]))))) []) ∧ (Lib.join [[UInt8.ofNat (nat_lit 44 + (1 : Nat)), UInt8.ofNat (nat_lit 120 + (1 : Nat))], [UInt8.ofNat (nat_lit 119 + (1 : Nat)), UInt8.ofNat (nat_lit 44 + (1 : Nat)), UInt8.ofNat (nat_lit 120 + (1 : Nat))], [UInt8.ofNat (nat_lit 121 + (1 : Nat)), UInt8.ofNat (nat_lit 42 + (1 : Nat)), UInt8.ofNat (nat_lit 48 + (1 : Nat)), UInt8.ofNat (nat_lit 46 + (1 : Nat)), UInt8.ofNat (nat_lit 50 + (1 : Nat))]] [(44 : UInt8)]).length.le (140737488355328 : Nat) ∧ K (AV.v (PV.one (SV.cb (decide (frT (mdR (18 : Int)) = [(51 : UInt8), (47 : UInt8), (52 : UInt8)]))))) []) ∧ ((↑([(43 : UInt8)].length + (frT (mdR (Int.ofNat (nat_lit 7 + (1 : Nat))))).length) : Int) ≤ IntKind.i64.max ∧ ((Lib.join [[UInt8.ofNat (nat_lit 44 + (1 : Nat)), UInt8.ofNat (nat_lit 120 + (1 : Nat))], [UInt8.ofNat (nat_lit 119 + (1 : Nat)), UInt8.ofNat (nat_lit 44 + (1 : Nat)), UInt8.ofNat (nat_lit 120 + (1 : Nat))], [UInt8.ofNat (nat_lit 121 + (1 : Nat)), UInt8.ofNat (nat_lit 42 + (1 : Nat)), UInt8.ofNat (nat_lit 48 + (1 : Nat)), UInt8.ofNat (nat_lit 46 + (1 : Nat)), UInt8.ofNat (nat_lit 50 + (1 : Nat))]] [(44 : UInt8)]).length.le (140737488355328 : Nat) ∧ K (AV.v (PV.one (SV.cb (decide (frT (mdR (18 : Int)) = [(51 : UInt8), (47 : UInt8), (52 : UInt8)]))))) []) ∧ (Lib.join [[UInt8.ofNat (nat_lit 44 + (1 : Nat)), UInt8.ofNat (nat_lit 120 + (1 : Nat))], [UInt8.ofNat (nat_lit 119 + (1 : Nat)), UInt8.ofNat (nat_lit 44 + (1 : Nat)), UInt8.ofNat (nat_lit 120 + (1 : Nat))], [UInt8.ofNat (nat_lit 121 + (1 : Nat)), UInt8.ofNat (nat_lit 42 + (1 : Nat)), UInt8.ofNat (nat_lit 48 + (1 : Nat)), UInt8.ofNat (nat_lit 46 + (1 : Nat)), UInt8.ofNat (nat_lit 50 + (1 : Nat))]] [(44 : UInt8)]).length.le (140737488355328 : Nat) ∧ K (AV.v (PV.one (SV.cb (decide (frT (mdR (18 : Int)) = [(51 : UInt8), (47 : UInt8), (52 : UInt8)]))))) []) ∧ (↑([(43 : UInt8)].length + (frT (mdR (Int.ofNat (nat_lit 7 + (1 : Nat))))).length) : Int) ≤ IntKind.i64.max ∧ ((Lib.join [[UInt8.ofNat (nat_lit 44 + (1 : Nat)), UInt8.ofNat (nat_lit 120 + (1 : Nat))], [UInt8.ofNat (nat_lit 119 + (1 : Nat)), UInt8.ofNat (nat_lit 44 + (1 : Nat)), UInt8.ofNat (nat_lit 120 + (1 : Nat))], [UInt8.ofNat (nat_lit 121 + (1 : Nat)), UInt8.ofNat (nat_lit 42 + (1 : Nat)), UInt8.ofNat (nat_lit 48 + (1 : Nat)), UInt8.ofNat (nat_lit 46 + (1 : Nat)), UInt8.ofNat (nat_lit 50 + (1 : Nat))]] [(44 : UInt8)]).length.le (140737488355328 : Nat) ∧ K (AV.v (PV.one (SV.cb (decide (frT (mdR (18 : Int)) = [(51 : UInt8), (47 : UInt8), (52 : UInt8)]))))) []) ∧ (Lib.join [[UInt8.ofNat (nat_lit 44 + (1 : Nat)), UInt8.ofNat (nat_lit 120 + (1 : Nat))], [UInt8.ofNat (nat_lit 119 + (1 : Nat)), UInt8.ofNat (nat_lit 44 + (1 : Nat)), UInt8.ofNat (nat_lit 120 + (1 : Nat))], [UInt8.ofNat (nat_lit 121 + (1 : Nat)), UInt8.ofNat (nat_lit 42 + (1 : Nat)), UInt8.ofNat (nat_lit 48 + (1 : Nat)), UInt8.ofNat (nat_lit 46 + (1 : Nat)), UInt8.ofNat (nat_lit 50 + (1 : Nat))]] [(44 : UInt8)]).length.le (140737488355328 : Nat) ∧ K (AV.v (PV.one (SV.cb (decide (frT (mdR (18 : Int)) = [(51 : UInt8), (47 : UInt8), (52 : UInt8)]))))) []) := by kernel_rfl
def qAwk : PSpec
  | [] => .ok (.v (.one (.cb true)))
  | _ => .fail
theorem itoa_sm (n : Nat) (h : n < 10) : Lib.itoa (n : Int) = [UInt8.ofNat (48 + n)] := by
  unfold Lib.itoa
  rw [if_neg (by omega)]
  show Lib.decDigits n = _
  rw [Lib.decDigits, dif_pos h]
theorem mdR_sm {x : Int} (h0 : 0 ≤ x) (h1 : x < 24) : mdR x = x := by
  unfold mdR
  rw [Int.tmod_eq_emod_of_nonneg h0, wr_id (by omega) (by omega), Int.tmod_eq_emod_of_nonneg (by omega)]
  omega
theorem frT_at (n a b : Nat) (h0 : 0 < n) (h1 : n < 24) (hg : (n : Int).tdiv ((Int.gcd n 24 : Nat) : Int) = a) (hb : (24 : Int).tdiv ((Int.gcd n 24 : Nat) : Int) = b) (ha : a < 10) (hb9 : b < 10) : frT (mdR n) = [UInt8.ofNat (48 + a), 47, UInt8.ofNat (48 + b)] := by
  rw [mdR_sm (by omega) (by omega), frT, if_neg (by omega), hg, hb, itoa_sm a ha, itoa_sm b hb9]
  rfl
theorem frT_8 : frT (mdR (Int.ofNat (7 + 1))) = [49, 47, 51] := frT_at 8 1 3 (by decide) (by decide) (by decide) (by decide) (by decide) (by decide)
theorem frT_18' : frT (mdR 18) = [51, 47, 52] := frT_at 18 3 4 (by decide) (by decide) (by decide) (by decide) (by decide) (by decide)
theorem hAwk : Holds P (V0 stdOn) 13 qAwk := by
  refine holdsA (fn := Tryd.f13) noAnn 10000 rfl (by kernel_rfl) (by kernel_rfl) fun args av hg => ?_
  unfold qAwk at hg
  split at hg
  · rw [gives_ok hg]
    refine ⟨rfl, .bool true, rfl, ?_⟩
    rw [nfawk2]
    rw [frT_8, frT_18']
    have hj : (Lib.join [[UInt8.ofNat (nat_lit 44 + (1 : Nat)), UInt8.ofNat (nat_lit 120 + (1 : Nat))], [UInt8.ofNat (nat_lit 119 + (1 : Nat)), UInt8.ofNat (nat_lit 44 + (1 : Nat)), UInt8.ofNat (nat_lit 120 + (1 : Nat))], [UInt8.ofNat (nat_lit 121 + (1 : Nat)), UInt8.ofNat (nat_lit 42 + (1 : Nat)), UInt8.ofNat (nat_lit 48 + (1 : Nat)), UInt8.ofNat (nat_lit 46 + (1 : Nat)), UInt8.ofNat (nat_lit 50 + (1 : Nat))]] [(44 : UInt8)]).length.le 140737488355328 := by show (Lib.join _ _).length ≤ 140737488355328; decide
    repeat' apply And.intro
    all_goals first
      | exact hj
      | exact trivial
      | (rw [decide_eq_true rfl]; rfl)
      | rfl
      | decide
  · exact (gives_fail hg).elim
def V1 (o : OnB) : Sums := (V0 o).add 13 qAwk
theorem pV1 (o : OnB) : OkS P (V1 o) := (pV0 o).add1 fine (pV0 stdOn) hAwk
end Go.AM

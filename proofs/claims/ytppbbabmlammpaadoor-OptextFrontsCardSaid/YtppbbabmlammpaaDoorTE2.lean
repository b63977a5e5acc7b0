import Derived.Test.YtppbbabmlammpaaDoorTE1
set_option linter.unusedVariables false
set_option linter.unusedSimpArgs false
open Go Go.AM Go.Proofs
namespace Go.AM
open Dist
set_option maxRecDepth 100000
theorem nfawk  (K : KV) : call P (YA stdOn) noAnn 10000 Tryd.f13 [] [] K = (K (AV.v (PV.one (SV.cb (decide (frT (mdR (18 : Int)) = [(51 : UInt8), (47 : UInt8), (52 : UInt8)]))))) []) := by kernel_rfl
theorem itoa_small (n : Nat) (h : n < 10) : Lib.itoa (n : Int) = [UInt8.ofNat (48 + n)] := by
  unfold Lib.itoa
  rw [if_neg (by omega)]
  show Lib.decDigits n = _
  rw [Lib.decDigits, dif_pos h]
theorem frT_18 : frT (mdR 18) = [51, 47, 52] := by
  have e : mdR 18 = 18 := mdR_id (by decide) (by decide)
  rw [e, frT, if_neg (by decide)]
  rw [show (18 : Int).tdiv ((Int.gcd 18 24 : Nat) : Int) = ((3 : Nat) : Int) by decide, show (24 : Int).tdiv ((Int.gcd 18 24 : Nat) : Int) = ((4 : Nat) : Int) by decide, itoa_small 3 (by decide), itoa_small 4 (by decide)]
  rfl
def qAwake : PSpec
  | [] => .ok (.v (.one (.cb true)))
  | _ => .fail
theorem hAwake : Holds P (YA stdOn) 13 qAwake := by
  refine holdsA (fn := Tryd.f13) noAnn 10000 rfl (by kernel_rfl) (by kernel_rfl) fun args av hg => ?_
  unfold qAwake at hg
  split at hg
  · rw [gives_ok hg]
    refine ⟨rfl, .bool true, rfl, ?_⟩
    rw [nfawk]
    exact lT (decide_eq_true frT_18)
  · exact (gives_fail hg).elim
def YB (o : OnB) : Sums := (YA o).add 13 qAwake
theorem pYB (o : OnB) : OkS P (YB o) := (pYA o).add1 fine (pYA stdOn) hAwake
end Go.AM

import Derived.Test.YtcinopdklobldaaGreatDoorCU4
import Derived.Test.YtcinopdklobldaaGreatDoorP3
import Derived.Test.YtcinopdklobldaaGreatDoorCL0
open Go Go.AM Go.Proofs
namespace Go.AM
open Dist
set_option maxRecDepth 100000
theorem nfnewint (x : Int) (K : KV) : call P D2 noAnn 300 Tryz.f50 [I x] [] K = ((decide (x < (0 : Int)) = true → (decide (x = (0 : Int)) = true → K (AV.v (PV.one (SV.ptr 0 0))) [Blk.row 86 [SV.sb (decide (x < (0 : Int))), SV.nils]]) ∧ (decide (x = (0 : Int)) = false → K (AV.v (PV.one (SV.ptr 1 0))) [Blk.ownL 110 1 1 [SV.sym IntKind.u64 (IntKind.u64.wrap ((0 : Int) - IntKind.u64.wrap x))], Blk.row 86 [SV.sb (decide (x < (0 : Int))), SV.ow 0 1 0 1 true]])) ∧ (decide (x < (0 : Int)) = false → (decide (x = (0 : Int)) = true → K (AV.v (PV.one (SV.ptr 0 0))) [Blk.row 86 [SV.sb (decide (x < (0 : Int))), SV.nils]]) ∧ (decide (x = (0 : Int)) = false → K (AV.v (PV.one (SV.ptr 1 0))) [Blk.ownL 110 1 1 [SV.sym IntKind.u64 (IntKind.u64.wrap x)], Blk.row 86 [SV.sb (decide (x < (0 : Int))), SV.ow 0 1 0 1 true]]))) := by kernel_rfl
/-- a new whole number: its memory, told by its sign -/
def qNewInt : FSpec
  | [.v (.one (.sym .i64 x))] => match x with
    | .negSucc m => some (InR (Int.negSucc m), .v (.one (.ptr 1 0)), [.ownL 110 1 1 [.sym .u64 (Int.ofNat (Nat.succ m))], .row 86 [.sb true, .ow 0 1 0 1 true]])
    | .ofNat 0 => some (True, .v (.one (.ptr 0 0)), [.row 86 [.sb false, .nils]])
    | .ofNat (Nat.succ m) => some (InR (Int.ofNat (Nat.succ m)), .v (.one (.ptr 1 0)), [.ownL 110 1 1 [.sym .u64 (Int.ofNat (Nat.succ m))], .row 86 [.sb false, .ow 0 1 0 1 true]])
  | _ => none
theorem oD2 : OkS P D2 := ⟨okD2, soD2, smD2⟩
theorem hcNewInt : HoldsF P 50 qNewInt := by
  refine ⟨Tryz.f50, by kernel_rfl, by kernel_rfl, fun args p v hs hq hp => ?_⟩
  unfold qNewInt at hq
  split at hq
  · rename_i x
    split at hq
    · rename_i m
      cases hq
      refine ⟨rfl, 300, noAnn, D2, rfl, oD2, ?_⟩
      rw [nfnewint, decide_eq_true (show Int.negSucc m < 0 by omega), decide_eq_false (show ¬ Int.negSucc m = 0 by omega), wrap_neg hp (by omega), show -Int.negSucc m = Int.ofNat (Nat.succ m) from rfl]
      exact ⟨fun _ => ⟨fun h => absurd h (by decide), fun _ => ⟨rfl, rfl⟩⟩, fun h => absurd h (by decide)⟩
    · cases hq
      refine ⟨rfl, 300, noAnn, D2, rfl, oD2, ?_⟩
      rw [nfnewint]
      exact ⟨fun h => absurd h (by decide), fun _ => ⟨fun _ => ⟨rfl, rfl⟩, fun h => absurd h (by decide)⟩⟩
    · rename_i m
      cases hq
      refine ⟨rfl, 300, noAnn, D2, rfl, oD2, ?_⟩
      have e : (Int.ofNat (Nat.succ m)) = ((m : Int) + 1) := rfl
      rw [nfnewint, decide_eq_false (show ¬ Int.ofNat (Nat.succ m) < 0 by rw [e]; omega), decide_eq_false (show ¬ Int.ofNat (Nat.succ m) = 0 by rw [e]; omega), wrap_pos hp (by rw [e]; omega)]
      exact ⟨fun h => absurd h (by decide), fun _ => ⟨fun h => absurd h (by decide), fun _ => ⟨rfl, rfl⟩⟩⟩
  · cases hq
abbrev Np (k : Nat) : Int := Int.ofNat (Nat.succ k)
abbrev Nn (k : Nat) : Int := Int.negSucc k
abbrev Rt (a b : Int) : AV := .v (.agg [.sym .i64 a, .sym .i64 b])
def DR (on : OnB) : Sums := { ((D2.add 48 qForm).add 106 qMul64).addF 50 qNewInt with on := on }
end Go.AM

import Derived.Test.YtcinopdklobldaaGreatDoorCW6
import Derived.Test.YtcinopdklobldaaGreatDoorCW0
open Go Go.AM Go.Proofs
namespace Go.AM
open Dist
theorem onD_mk {p : Prop} [Decidable p] {A B : Prop} (h : p → A) (k : ¬ p → B) : onB (decide p) A B := onB_mk (fun e => h (of_decide_eq_true e)) (fun e => k (of_decide_eq_false e))
/-- magnitudes of two words multiplied, compared: the answers that the paths end in -/
structure Cmp (V : Value) (n : Int) : Prop where
  lo : n < 0 → (AV.tup [PV.one (SV.con .i64 (-1)), PV.one (SV.con .i64 0)]).valOf = some V
  eq : n = 0 → (AV.tup [PV.one (SV.con .i64 0), PV.one (SV.con .i64 0)]).valOf = some V
  hi : 0 < n → (AV.tup [PV.one (SV.con .i64 1), PV.one (SV.con .i64 0)]).valOf = some V
theorem Cmp.leafLo {V : Value} {n : Int} (C : Cmp V n) (h : n < 0) : (AV.tup [PV.one (SV.con IntKind.i64 (-1 : Int)), PV.one (SV.con IntKind.i64 (0 : Int))]).valOf = some V ∧ ([] : Heap) = [] := ⟨C.lo h, rfl⟩
theorem Cmp.leafEq {V : Value} {n : Int} (C : Cmp V n) (h : n = 0) : (AV.tup [PV.one (SV.con IntKind.i64 (0 : Int)), PV.one (SV.con IntKind.i64 (0 : Int))]).valOf = some V ∧ ([] : Heap) = [] := ⟨C.eq h, rfl⟩
theorem Cmp.leafHi {V : Value} {n : Int} (C : Cmp V n) (h : 0 < n) : (AV.tup [PV.one (SV.con IntKind.i64 (1 : Int)), PV.one (SV.con IntKind.i64 (0 : Int))]).valOf = some V ∧ ([] : Heap) = [] := ⟨C.hi h, rfl⟩
theorem cmp_mk {a b c d : Int} (h1 : frm a b = true) (h2 : frm c d = true) : Cmp (.tuple #[.int .i64 (ratC a b c d), .int .i64 (ratE a b c d)]) (a * d - c * b) := by
  obtain ⟨k1, k2⟩ := rat_good h1 h2
  rw [← k1, ← k2]
  refine ⟨fun h => ?_, fun h => ?_, fun h => ?_⟩
  · rw [sgn_lo h]; rfl
  · rw [h]; rfl
  · rw [sgn_hi h]; rfl
theorem wm1 : IntKind.i64.wrap (0 - -1) = 1 := by decide
theorem wm2 : IntKind.i64.wrap (0 - 1) = -1 := by decide
theorem wm3 : IntKind.i64.wrap (0 - 0) = 0 := by decide
abbrev M64 : Int := 18446744073709551616
theorem hi_eq {X : Int} (h0 : 0 ≤ X) (h1 : X < 340282366920938463463374607431768211456) : IntKind.u64.wrap (X / 18446744073709551616 + (X % 18446744073709551616 + 0 + 0) / 18446744073709551616) = X / 18446744073709551616 := by
  rw [IntKind.wrap_u64]
  omega
theorem lo_eq (X : Int) : (X % 18446744073709551616 + 0 + 0) % 18446744073709551616 = X % 18446744073709551616 := by
  omega
theorem np_mul (k i : Nat) : Int.ofNat (Nat.succ k) * Int.ofNat (Nat.succ i) = Int.ofNat ((k + 1) * (i + 1)) := rfl
theorem mul_bd64 {a b : Int} (ha : 0 ≤ a ∧ a ≤ 9223372036854775808) (hb : 0 ≤ b ∧ b ≤ 9223372036854775808) : 0 ≤ a * b ∧ a * b < 340282366920938463463374607431768211456 := by
  refine ⟨Int.mul_nonneg ha.1 hb.1, ?_⟩
  have := Int.mul_le_mul ha.2 hb.2 hb.1 (by omega)
  omega
theorem bd_np {k : Nat} (h : InR (Np k)) : 0 ≤ Int.ofNat (Nat.succ k) ∧ Int.ofNat (Nat.succ k) ≤ 9223372036854775808 := by
  have e : Int.ofNat (Nat.succ k) = (k : Int) + 1 := rfl
  unfold InR at h
  rw [show Np k = (k : Int) + 1 from rfl] at h
  rw [e]
  omega
theorem bd_nn {k : Nat} (h : InR (Nn k)) : 0 ≤ Int.ofNat (Nat.succ k) ∧ Int.ofNat (Nat.succ k) ≤ 9223372036854775808 := by
  have e : Int.ofNat (Nat.succ k) = (k : Int) + 1 := rfl
  unfold InR at h
  rw [show Nn k = -(k : Int) - 1 by show Int.negSucc k = _; omega] at h
  rw [e]
  omega
end Go.AM

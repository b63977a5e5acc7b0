import Derived.Test.YtagcmdpmmmbedaaGreatDoorProg
import Derived.KernelRfl
import Derived.Test.YtagcmdpmmmbedaaGreatDoorP3
open Go Go.AM Go.Proofs
namespace Go.AM
noncomputable abbrev P := Tryz.prog
/-- bits.Add64 -/
def add64 : PSpec
  | [.v (.one (.con .u64 a)), .v (.one (.con .u64 b)), .v (.one (.con .u64 c))] => if 0 ≤ a ∧ 0 ≤ b ∧ (c = 0 ∨ c = 1) then .ok (.tup [.one (.con .u64 ((a + b + c) % 18446744073709551616)), .one (.con .u64 ((a + b + c) / 18446744073709551616))]) else .fail
  | [.v (.one (.sym .u64 a)), .v (.one (.sym .u64 b)), .v (.one (.con .u64 c))] => .iff (0 ≤ a ∧ 0 ≤ b ∧ (c = 0 ∨ c = 1)) (.tup [.one (.sym .u64 ((a + b + c) % 18446744073709551616)), .one (.sym .u64 ((a + b + c) / 18446744073709551616))])
  | [.v (.one (.sym .u64 a)), .v (.one (.con .u64 b)), .v (.one (.con .u64 c))] => .iff (0 ≤ a ∧ 0 ≤ b ∧ (c = 0 ∨ c = 1)) (.tup [.one (.sym .u64 ((a + b + c) % 18446744073709551616)), .one (.sym .u64 ((a + b + c) / 18446744073709551616))])
  | _ => .fail
def G0 : Sums := { pure := fun _ => none, spec := fun _ => none, ext := fun f => if f = 152 then some add64 else none, twin := fun f => if f = 136 then some 63 else none }
theorem run147 (vals : Array Value) (w : World) : (callFunc 136 vals).run P w = .ok (.enter 63 vals) w := by kernel_rfl
theorem run165 (a b : Int) (w : World) (k1 k2 k3 : IntKind) : (callFunc 152 #[.int k1 a, .int k2 b, .int k3 0]).run P w = .ok (.value (.tuple #[.int .u64 (Int.ofNat ((a.toNat + b.toNat + 0) % 2 ^ 64)), .int .u64 (Int.ofNat ((a.toNat + b.toNat + 0) / 2 ^ 64))])) w := by kernel_rfl
theorem run165' (a b : Int) (w : World) (k1 k2 k3 : IntKind) : (callFunc 152 #[.int k1 a, .int k2 b, .int k3 1]).run P w = .ok (.value (.tuple #[.int .u64 (Int.ofNat ((a.toNat + b.toNat + 1) % 2 ^ 64)), .int .u64 (Int.ofNat ((a.toNat + b.toNat + 1) / 2 ^ 64))])) w := by kernel_rfl
theorem run_add64 {a b c : Int} (ha : 0 ≤ a) (hb : 0 ≤ b) (hc : c = 0 ∨ c = 1) (w : World) (k1 k2 k3 : IntKind) : (callFunc 152 #[.int k1 a, .int k2 b, .int k3 c]).run P w = .ok (.value (.tuple #[.int .u64 ((a + b + c) % 18446744073709551616), .int .u64 ((a + b + c) / 18446744073709551616)])) w := by
  rcases hc with rfl | rfl
  · rw [run165]
    have e1 : Int.ofNat ((a.toNat + b.toNat + 0) % 2 ^ 64) = (a + b + 0) % 18446744073709551616 := by simp only [Int.ofNat_eq_natCast]; omega
    have e2 : Int.ofNat ((a.toNat + b.toNat + 0) / 2 ^ 64) = (a + b + 0) / 18446744073709551616 := by simp only [Int.ofNat_eq_natCast]; omega
    rw [e1, e2]
  · rw [run165']
    have e1 : Int.ofNat ((a.toNat + b.toNat + 1) % 2 ^ 64) = (a + b + 1) % 18446744073709551616 := by simp only [Int.ofNat_eq_natCast]; omega
    have e2 : Int.ofNat ((a.toNat + b.toNat + 1) / 2 ^ 64) = (a + b + 1) / 18446744073709551616 := by simp only [Int.ofNat_eq_natCast]; omega
    rw [e1, e2]
theorem ext0 : ExtOk P G0 := by
  refine ⟨fun f p hf args av hg pl vals hargs => ?_, fun f g hf vals w => ?_⟩
  · simp only [G0] at hf
    split at hf
    · rename_i e
      subst e
      cases hf
      unfold add64 at hg
      split at hg
      · rename_i a b c
        split at hg
        · rename_i hc
          rw [gives_ok hg]
          match vals, hargs with
          | [x, y, z], hargs =>
            have hx := con_R hargs.1
            have hy := con_R hargs.2.1
            have hz := con_R hargs.2.2.1
            subst hx
            subst hy
            subst hz
            exact ⟨_, ⟨[.int .u64 ((a + b + c) % 18446744073709551616), .int .u64 ((a + b + c) / 18446744073709551616)], rfl, .inr rfl, .inr rfl, trivial⟩, fun w => run_add64 hc.1 hc.2.1 hc.2.2 w _ _ _⟩
        · exact (gives_fail hg).elim
      · rename_i a b c
        rcases hg with hg | ⟨q, hg, hc⟩
        · cases hg
        · injection hg with e1 e2
          rw [← e1] at hc
          subst e2
          match vals, hargs with
          | [x, y, z], hargs =>
            have hx := sym_R hargs.1
            have hy := sym_R hargs.2.1
            have hz := con_R hargs.2.2.1
            subst hx
            subst hy
            subst hz
            exact ⟨_, ⟨[.int .u64 ((a + b + c) % 18446744073709551616), .int .u64 ((a + b + c) / 18446744073709551616)], rfl, .inr rfl, .inr rfl, trivial⟩, fun w => run_add64 hc.1 hc.2.1 hc.2.2 w _ _ _⟩
      · rename_i a b c
        rcases hg with hg | ⟨q, hg, hc⟩
        · cases hg
        · injection hg with e1 e2
          rw [← e1] at hc
          subst e2
          match vals, hargs with
          | [x, y, z], hargs =>
            have hx := sym_R hargs.1
            have hy := con_R hargs.2.1
            have hz := con_R hargs.2.2.1
            subst hx
            subst hy
            subst hz
            exact ⟨_, ⟨[.int .u64 ((a + b + c) % 18446744073709551616), .int .u64 ((a + b + c) / 18446744073709551616)], rfl, .inr rfl, .inr rfl, trivial⟩, fun w => run_add64 hc.1 hc.2.1 hc.2.2 w _ _ _⟩
      · exact (gives_fail hg).elim
    · cases hf
  · simp only [G0] at hf
    split at hf
    · rename_i e
      subst e
      cases hf
      exact run147 vals w
    · cases hf
end Go.AM

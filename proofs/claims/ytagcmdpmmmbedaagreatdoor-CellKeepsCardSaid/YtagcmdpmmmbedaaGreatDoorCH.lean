import Derived.Test.YtagcmdpmmmbedaaGreatDoorCI
open Go Go.AM Go.Proofs
namespace Go.AM
set_option maxRecDepth 100000
def q18c : PSpec
  | [.v (.agg [.con .i64 a, .con .i64 b, .con .i64 c, .con .i64 d, .con .i64 e, .con .i64 f]), .v (.agg [.con .i64 x, .con .i64 y, .con .i64 z])] => if a = 4 ∧ b = 9 ∧ c = 16 ∧ d = 0 ∧ e = 0 ∧ f = 0 ∧ x = 1 ∧ y = 1 ∧ z = 1 then .ok (.tup [.agg [.con .i64 61, .con .i64 144], .one (.con .i64 0)]) else .fail
  | _ => .fail
theorem nfc18 (K : KV) : call P D4 noAnn 3000 Tryz.f16 [.v (.agg [.con .i64 4, .con .i64 9, .con .i64 16, .con .i64 0, .con .i64 0, .con .i64 0]), .v (.agg [.con .i64 1, .con .i64 1, .con .i64 1])] [] K = K (AV.tup [.agg [.con .i64 61, .con .i64 144], .one (.con .i64 0)]) [] := by kernel_rfl
theorem hc18 : Holds P D4 16 q18c := by
  refine holds_okA (fn := Tryz.f16) noAnn 3000 rfl (by kernel_rfl) (by kernel_rfl) fun args av hg => ?_
  unfold q18c at hg
  split at hg
  · split at hg
    · rename_i hc
      obtain ⟨rfl, rfl, rfl, rfl, rfl, rfl, rfl, rfl, rfl⟩ := hc
      rw [gives_ok hg]
      refine ⟨rfl, _, rfl, ?_⟩
      rw [nfc18]
      exact ⟨rfl, rfl⟩
    · exact (gives_fail hg).elim
  · exact (gives_fail hg).elim
def D5 : Sums := D4.add 16 q18c [true, true]
end Go.AM

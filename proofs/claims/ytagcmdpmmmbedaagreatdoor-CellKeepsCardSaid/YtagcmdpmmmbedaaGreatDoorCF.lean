import Derived.Test.YtagcmdpmmmbedaaGreatDoorCE
open Go Go.AM Go.Proofs
namespace Go.AM
def q22c : PSpec
  | [.v (.agg [.con .i64 a, .con .i64 b]), .v (.agg [.con .i64 c, .con .i64 d])] => if a = 1 ∧ b = 3 ∧ c = 1 ∧ d = 2 then .ok (.tup [.one (.con .i64 (-1)), .one (.con .i64 0)]) else .fail
  | _ => .fail
set_option maxRecDepth 100000
theorem nfc22 (K : KV) : call P D2 noAnn 3000 Tryz.f18 [.v (.agg [.con .i64 1, .con .i64 3]), .v (.agg [.con .i64 1, .con .i64 2])] [] K = ((K (AV.tup [PV.one (SV.con IntKind.i64 (-1)), PV.one (SV.con IntKind.i64 0)]) [] ∧ K (AV.tup [PV.one (SV.con IntKind.i64 (-1)), PV.one (SV.con IntKind.i64 0)]) []) ∧ K (AV.tup [PV.one (SV.con IntKind.i64 (-1)), PV.one (SV.con IntKind.i64 0)]) [] ∧ K (AV.tup [PV.one (SV.con IntKind.i64 (-1)), PV.one (SV.con IntKind.i64 0)]) []) := by kernel_rfl
theorem hc22 : Holds P D2 18 q22c := by
  refine holds_okA (fn := Tryz.f18) noAnn 3000 rfl (by kernel_rfl) (by kernel_rfl) fun args av hg => ?_
  unfold q22c at hg
  split at hg
  · split at hg
    · rename_i hc
      obtain ⟨rfl, rfl, rfl, rfl⟩ := hc
      rw [gives_ok hg]
      refine ⟨rfl, _, rfl, ?_⟩
      rw [nfc22]
      exact ⟨⟨⟨rfl, rfl⟩, ⟨rfl, rfl⟩⟩, ⟨rfl, rfl⟩, ⟨rfl, rfl⟩⟩
    · exact (gives_fail hg).elim
  · exact (gives_fail hg).elim
end Go.AM

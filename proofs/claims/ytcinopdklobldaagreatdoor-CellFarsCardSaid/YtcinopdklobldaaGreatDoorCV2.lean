import Derived.Test.YtcinopdklobldaaGreatDoorCV1
open Go Go.AM Go.Proofs
namespace Go.AM
set_option maxRecDepth 100000
theorem nfbring2 (a b c m : Int) (K : KV) : call P E1 noAnn 3000 Tryz.f98 [V a b c, I m] [] K = (right m = true ∧ right m = true ∧ right m = true ∧ K (AV.v (PV.agg [SV.sym IntKind.i64 (modF a m), SV.sym IntKind.i64 (modF b m), SV.sym IntKind.i64 (modF c m)])) []) := by kernel_rfl
def qBring2 : PSpec
  | [.v (.agg [.sym .i64 a, .sym .i64 b, .sym .i64 c]), .v (.one (.sym .i64 m))] => .iff (right m = true) (V (modF a m) (modF b m) (modF c m))
  | _ => .fail
theorem hcBring2 : Holds P E1 98 qBring2 := by
  refine holds_okA (fn := Tryz.f98) noAnn 3000 rfl (by kernel_rfl) (by kernel_rfl) fun args av hg => ?_
  unfold qBring2 at hg
  split at hg
  · rename_i a b c m
    obtain ⟨hm, rfl⟩ := gives_iff hg
    refine ⟨rfl, _, rfl, ?_⟩
    rw [nfbring2]
    exact ⟨hm, hm, hm, rfl, rfl⟩
  · exact (gives_fail hg).elim
def E2 : Sums := E1.add 98 qBring2
end Go.AM

import Derived.Test.YtagcmdpmmmbedaaGreatDoorCH
open Go Go.AM Go.Proofs
namespace Go.AM
set_option maxRecDepth 100000
def q11c : PSpec
  | [] => .ok (.v (.one (.cb true)))
  | _ => .fail
theorem nfc11 (K : KV) : call P D5 noAnn 3000 Tryz.f5 [] [] K = ((checkC 4 9 16 0 0 0 = 0 ∧ bad10 24 1 0 0 24 23 0 0 = 0) ∧ K (AV.v (PV.one (SV.cb (decide (checkC 1 1 1 0 0 1 = 3))))) []) := by kernel_rfl
theorem hc11 : Holds P D5 5 q11c := by
  refine holds_okA (fn := Tryz.f5) noAnn 3000 rfl (by kernel_rfl) (by kernel_rfl) fun args av hg => ?_
  unfold q11c at hg
  split at hg
  · rw [gives_ok hg]
    refine ⟨rfl, _, rfl, ?_⟩
    rw [nfc11]
    have e : checkC 1 1 1 0 0 1 = 3 := by kernel_rfl
    rw [e]
    exact ⟨⟨by kernel_rfl, by kernel_rfl⟩, rfl, rfl⟩
  · exact (gives_fail hg).elim
def D6 : Sums := D5.add 5 q11c
end Go.AM

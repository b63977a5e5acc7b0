import Derived.Test.YtcinopdklobldaaGreatDoorCV2
open Go Go.AM Go.Proofs
namespace Go.AM
set_option maxRecDepth 100000
theorem nfform2 (m a b c : Int) (K : KV) : call P E2 noAnn 3000 Tryz.f67 [Pt m a b c] [] K = ((right m = true → right m = true ∧ K (AV.v (PV.one (SV.sb (decide (a = modF a m) && (decide (b = modF b m) && (decide (c = modF c m) && true)))))) []) ∧ (right m = false → K (AV.v (PV.one (SV.cb false))) [])) := by kernel_rfl
theorem nfsub2 (a b c d e f m : Int) (K : KV) : call P E2 noAnn 3000 Tryz.f68 [V a b c, V d e f, I m] [] K = ((right m = true ∧ right m = true ∧ right m = true ∧ right m = true ∧ right m = true ∧ K (AV.v (PV.agg [SV.sym IntKind.i64 (modF (IntKind.i64.wrap (modF a m + modF (modF (IntKind.i64.wrap ((0 : Int) - modF d m)) m) m)) m), SV.sym IntKind.i64 (modF (IntKind.i64.wrap (modF b m + modF (modF (IntKind.i64.wrap ((0 : Int) - modF e m)) m) m)) m), SV.sym IntKind.i64 (modF (IntKind.i64.wrap (modF c m + modF (modF (IntKind.i64.wrap ((0 : Int) - modF f m)) m) m)) m)])) []) ∧ right m = true ∧ right m = true ∧ right m = true ∧ right m = true ∧ right m = true ∧ K (AV.v (PV.agg [SV.sym IntKind.i64 (modF (IntKind.i64.wrap (modF a m + modF (modF (IntKind.i64.wrap ((0 : Int) - modF d m)) m) m)) m), SV.sym IntKind.i64 (modF (IntKind.i64.wrap (modF b m + modF (modF (IntKind.i64.wrap ((0 : Int) - modF e m)) m) m)) m), SV.sym IntKind.i64 (modF (IntKind.i64.wrap (modF c m + modF (modF (IntKind.i64.wrap ((0 : Int) - modF f m)) m) m)) m)])) []) := by kernel_rfl
theorem modF_dec {n m : Int} (hm : 24 ≤ m ∧ m ≤ 192) : decide (n = modF n m) = !out m n := by
  have h : n = modF n m ↔ 0 ≤ n ∧ n < m := Dist.modF_form hm
  unfold out
  by_cases hn : 0 ≤ n ∧ n < m
  · rw [decide_eq_true (h.2 hn), decide_eq_false (by omega), decide_eq_false (by omega)]; rfl
  · rw [decide_eq_false (fun k => hn (h.1 k))]
    by_cases h0 : n < 0
    · rw [decide_eq_true h0]; rfl
    · rw [decide_eq_false h0, decide_eq_true (by omega)]; rfl
theorem hcForm2 : Holds P E2 67 q25 := by
  refine holds_okA (fn := Tryz.f67) noAnn 3000 rfl (by kernel_rfl) (by kernel_rfl) fun args av hg => ?_
  unfold q25 at hg
  split at hg
  · rename_i m a b c
    rw [gives_ok hg]
    refine ⟨rfl, _, rfl, ?_⟩
    rw [nfform2]
    unfold form
    refine ⟨fun h => ⟨h, ?_⟩, fun h => ?_⟩
    · have hm := right_bd' h
      rw [modF_dec hm, modF_dec hm, modF_dec hm, h]
      cases out m a <;> cases out m b <;> cases out m c <;> exact ⟨rfl, rfl⟩
    · rw [h]; exact ⟨rfl, rfl⟩
  · exact (gives_fail hg).elim
def qSub2 : PSpec
  | [.v (.agg [.sym .i64 a, .sym .i64 b, .sym .i64 c]), .v (.agg [.sym .i64 d, .sym .i64 e, .sym .i64 f]), .v (.one (.sym .i64 m))] => .iff (form m a b c = true ∧ form m d e f = true) (V (modF (IntKind.i64.wrap (a - d)) m) (modF (IntKind.i64.wrap (b - e)) m) (modF (IntKind.i64.wrap (c - f)) m))
  | _ => .fail
theorem form_spec {m a b c : Int} (h : form m a b c = true) : right m = true ∧ (0 ≤ a ∧ a < m) ∧ (0 ≤ b ∧ b < m) ∧ (0 ≤ c ∧ c < m) := by
  simp only [form, out, Bool.and_eq_true, Bool.not_eq_true', Bool.or_eq_false_iff, decide_eq_false_iff_not] at h
  exact ⟨h.1, by omega, by omega, by omega⟩
theorem hcSub2 : Holds P E2 68 qSub2 := by
  refine holds_okA (fn := Tryz.f68) noAnn 3000 rfl (by kernel_rfl) (by kernel_rfl) fun args av hg => ?_
  unfold qSub2 at hg
  split at hg
  · rename_i a b c d e f m
    obtain ⟨⟨h1, h2⟩, rfl⟩ := gives_iff hg
    refine ⟨rfl, _, rfl, ?_⟩
    rw [nfsub2]
    obtain ⟨hr, ha, hb, hc⟩ := form_spec h1
    obtain ⟨_, hd, he, hf⟩ := form_spec h2
    have hm := right_bd' hr
    have e1 : modF (IntKind.i64.wrap (modF a m + modF (modF (IntKind.i64.wrap (0 - modF d m)) m) m)) m = modF (IntKind.i64.wrap (a - d)) m := Dist.sub_eq hm ha hd
    have e2 : modF (IntKind.i64.wrap (modF b m + modF (modF (IntKind.i64.wrap (0 - modF e m)) m) m)) m = modF (IntKind.i64.wrap (b - e)) m := Dist.sub_eq hm hb he
    have e3 : modF (IntKind.i64.wrap (modF c m + modF (modF (IntKind.i64.wrap (0 - modF f m)) m) m)) m = modF (IntKind.i64.wrap (c - f)) m := Dist.sub_eq hm hc hf
    rw [e1, e2, e3]
    exact ⟨⟨hr, hr, hr, hr, hr, rfl, rfl⟩, hr, hr, hr, hr, hr, rfl, rfl⟩
  · exact (gives_fail hg).elim
def E3 : Sums := (E2.add 67 q25).add 68 qSub2
end Go.AM

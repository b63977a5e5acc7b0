import Derived.Test.YtppbbabmlammpaaF1
import Derived.KernelRfl
open Go Go.AM Go.Proofs
namespace Go.AM
theorem holds_ok {S : Sums} {f : Nat} {fn : Func} {q : PSpec} (hf : P.funcs[f]? = some fn) (hb : fn.body.isSome = true)
    (h : ∀ args av, (q args).gives av → noPtrs args = true ∧ ∃ v, av.valOf = some v ∧ call P S noAnn 100000 fn args [] (fun v' h => v'.valOf = some v ∧ h = [])) : Holds P S f q :=
  ⟨fn, hf, hb, fun args av hg => by
    obtain ⟨h1, v, h2, h3⟩ := h args av hg
    exact ⟨h1, v, 100000, noAnn, rfl, h2, h3⟩⟩
theorem leafB {b c : Bool} (h : b = true ↔ c = true) : (AV.v (.one (.cb b))).valOf = some (.bool c) ∧ ([] : Heap) = [] := by have h := Bool.eq_iff_iff.2 h; subst h; exact ⟨rfl, rfl⟩
theorem leafS {b c : Bool} (h : b = true ↔ c = true) : (AV.v (.one (.sb b))).valOf = some (.bool c) ∧ ([] : Heap) = [] := by have h := Bool.eq_iff_iff.2 h; subst h; exact ⟨rfl, rfl⟩
theorem nf19 (n m : Int) (K : KV) : call P G0 noAnn 100000 Try.f19 [I n, I m] [] K = ((m = 0 → False) ∧ (m = 0 → False) ∧ K (AV.v (PV.one (SV.sym IntKind.i64 ((IntKind.i64.wrap (n.tmod m + m)).tmod m)))) []) := by kernel_rfl
theorem nf65 (n : Int) (K : KV) : call P G0 noAnn 100000 Try.f65 [I n] [] K = (K (AV.v (PV.one (SV.sym IntKind.i64 ((IntKind.i64.wrap (n.tmod 24 + 24)).tmod 24)))) []) := by kernel_rfl
theorem nf46 (x m : Int) (K : KV) : call P G0 noAnn 100000 Try.f46 [I x, I m] [] K = ((decide (x < IntKind.i64.wrap (0 - m)) = true → K (AV.v (PV.one (SV.cb true))) []) ∧ (decide (x < IntKind.i64.wrap (0 - m)) = false → K (AV.v (PV.one (SV.sb (decide (m < x))))) [])) := by kernel_rfl
theorem nf16 (m : Int) (K : KV) : call P G0 noAnn 100000 Try.f16 [I m] [] K = ((decide (m = 24) = true → K (AV.v (PV.one (SV.cb true))) []) ∧ (decide (m = 24) = false → (decide (m = 48) = true → K (AV.v (PV.one (SV.cb true))) []) ∧ (decide (m = 48) = false → (decide (m = 96) = true → K (AV.v (PV.one (SV.cb true))) []) ∧ (decide (m = 96) = false → K (AV.v (PV.one (SV.sb (decide (m = 192))))) [])))) := by kernel_rfl
theorem nf27 (a b c m : Int) (K : KV) : call P G0 noAnn 100000 Try.f27 [V a b c, I m] [] K = ((decide (a < IntKind.i64.wrap (0 - m)) = true → K (AV.v (PV.one (SV.cb true))) []) ∧ (decide (a < IntKind.i64.wrap (0 - m)) = false → (decide (m < a) = true → K (AV.v (PV.one (SV.cb true))) []) ∧ (decide (m < a) = false → (decide (b < IntKind.i64.wrap (0 - m)) = true → K (AV.v (PV.one (SV.cb true))) []) ∧ (decide (b < IntKind.i64.wrap (0 - m)) = false → (decide (m < b) = true → K (AV.v (PV.one (SV.cb true))) []) ∧ (decide (m < b) = false → (decide (c < IntKind.i64.wrap (0 - m)) = true → K (AV.v (PV.one (SV.cb true))) []) ∧ (decide (c < IntKind.i64.wrap (0 - m)) = false → (decide (m < c) = true → K (AV.v (PV.one (SV.cb true))) []) ∧ (decide (m < c) = false → K (AV.v (PV.one (SV.cb false))) []))))))) := by kernel_rfl
theorem h19 : Holds P G0 19 qMod := by
  refine holds_ok (fn := Try.f19) (by kernel_rfl) (by kernel_rfl) fun args av h => ?_
  unfold qMod at h
  split at h
  · rename_i n m
    rcases h with h | ⟨p, h, hp⟩
    · cases h
    · injection h with h1 h2
      subst h2
      rw [← h1] at hp
      exact ⟨rfl, _, rfl, (nf19 n m _).mpr ⟨hp, hp, rfl, rfl⟩⟩
  · exact (gives_fail h).elim
theorem h65 : Holds P G0 65 qMod24 := by
  refine holds_ok (fn := Try.f65) (by kernel_rfl) (by kernel_rfl) fun args av h => ?_
  unfold qMod24 at h
  split at h
  · rename_i n
    rw [gives_ok h]
    exact ⟨rfl, _, rfl, (nf65 n _).mpr ⟨rfl, rfl⟩⟩
  · exact (gives_fail h).elim
theorem h46 : Holds P G0 46 qBeyond := by
  refine holds_ok (fn := Try.f46) (by kernel_rfl) (by kernel_rfl) fun args av h => ?_
  unfold qBeyond at h
  split at h
  · rename_i x m
    rw [gives_ok h]
    refine ⟨rfl, _, rfl, ?_⟩
    rw [nf46 x m]
    repeat' (first | apply leafB | apply leafS | apply And.intro | intro _)
    all_goals
      simp only [decide_eq_true_eq, decide_eq_false_iff_not] at *
      simp only [beyond, Bool.or_eq_true, decide_eq_true_eq, true_iff, Bool.false_eq_true, false_iff]
      omega
  · exact (gives_fail h).elim
theorem h16 : Holds P G0 16 qRight := by
  refine holds_ok (fn := Try.f16) (by kernel_rfl) (by kernel_rfl) fun args av h => ?_
  unfold qRight at h
  split at h
  · rename_i m
    rw [gives_ok h]
    refine ⟨rfl, _, rfl, ?_⟩
    rw [nf16 m]
    repeat' (first | apply leafB | apply leafS | apply And.intro | intro _)
    all_goals
      simp only [decide_eq_true_eq, decide_eq_false_iff_not] at *
      simp only [right, Bool.or_eq_true, decide_eq_true_eq, true_iff, Bool.false_eq_true, false_iff]
      omega
  · exact (gives_fail h).elim
theorem h27 : Holds P G0 27 qBeyond3 := by
  refine holds_ok (fn := Try.f27) (by kernel_rfl) (by kernel_rfl) fun args av h => ?_
  unfold qBeyond3 at h
  split at h
  · rename_i a b c m
    rw [gives_ok h]
    refine ⟨rfl, _, rfl, ?_⟩
    rw [nf27 a b c m]
    repeat' (first | apply leafB | apply leafS | apply And.intro | intro _)
    all_goals
      simp only [decide_eq_true_eq, decide_eq_false_iff_not] at *
      simp only [beyond, Bool.or_eq_true, decide_eq_true_eq, true_iff, Bool.false_eq_true, false_iff]
      omega
  · exact (gives_fail h).elim
end Go.AM

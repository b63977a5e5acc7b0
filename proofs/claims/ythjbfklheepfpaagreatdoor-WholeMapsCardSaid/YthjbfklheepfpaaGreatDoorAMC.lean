import Derived.Test.YthjbfklheepfpaaGreatDoorP3
set_option linter.unusedVariables false
set_option linter.unusedSimpArgs false
set_option maxHeartbeats 4000000
namespace Go.AM
open Go
section
variable {P : Program}
def HoldsL [Glob] (P : Program) (f : Nat) (q : PSpec) : Prop :=
  ∃ fn, P.funcs[f]? = some fn ∧ fn.body.isSome = true ∧ ∀ args av, (q args).gives av → noPtrs (mapA SV.lit args) = true ∧ ∃ v n A S, A.q = 0 ∧ OkS P S ∧ av.valOf = some v ∧ call P S A n fn (mapA SV.lit args) [] (fun v' h => v'.valOf = some v ∧ h = [])
theorem PureOk.addL [Glob] (hF : Fine P) {S : Sums} (hP : PureOk P S) {f : Nat} {q : PSpec} (hq : HoldsL P f q) {m : List Bool} : PureOk P (S.add f q m) := by
  obtain ⟨fn, hf, hfb, hp⟩ := hq
  have core : ∀ args av, (q args).gives av → ∀ w0 Sx pl h vals, ArgsR pl args vals → ∃ v, ∀ w, HRel w0 Sx pl h w → av.R pl v ∧ Calls P f vals.toArray w (fun e w' => e = .returned v ∧ HRel w0 Sx pl h w') := by
    intro args av hg w0 Sx pl h vals hargs
    obtain ⟨h1, v, n, A, S0, hq0, hS0, h2, h3⟩ := hp args av hg
    exact ⟨v, pure_sound hF hS0.pure hS0.spec hS0.mono hf h1 h2 h3 hq0 ((ArgsR_map lit_ok.1 lit_ok.2).2 hargs)⟩
  intro g p hg
  by_cases e : g = f
  · subst e
    simp only [Sums.add, if_true] at hg
    cases hg
    refine ⟨⟨fn, hf, hfb⟩, fun args av hgv w0 Sx pl h vals hargs => ?_⟩
    have hargs' := ArgsR_era (m := m) hargs
    unfold liftQ at hgv
    split at hgv
    · obtain ⟨av', h1, rfl⟩ := gives_map hgv
      obtain ⟨v, hv⟩ := core _ _ h1 w0 Sx pl h vals hargs'
      exact ⟨v, fun w hw => ⟨(AV.R_map lit_ok.1 lit_ok.2).2 (hv w hw).1, (hv w hw).2⟩⟩
    · exact core _ _ hgv w0 Sx pl h vals hargs'
  · simp only [Sums.add, if_neg e] at hg
    exact hP g p hg
theorem OkS.addL [Glob] (hF : Fine P) {S : Sums} (h : OkS P S) {f : Nat} {q : PSpec} (hq : HoldsL P f q) {m : List Bool} : OkS P (S.add f q m) := ⟨h.pure.addL hF hq, h.spec, h.mono⟩
end
end Go.AM

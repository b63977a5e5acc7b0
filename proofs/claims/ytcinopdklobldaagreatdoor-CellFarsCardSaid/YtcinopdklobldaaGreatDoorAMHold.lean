import Derived.Test.YtcinopdklobldaaGreatDoorAMExec
/- A summary whose cases are shown over unlike sums. -/
namespace Go.AM
open Go
section
variable {P : Program}
structure OkS (P : Program) (S : Sums) : Prop where
  pure : PureOk P S
  spec : SpecOk P S
  mono : SpecMono S
def HoldsE (P : Program) (f : Nat) (q : PSpec) : Prop :=
  ∃ fn, P.funcs[f]? = some fn ∧ fn.body.isSome = true ∧ ∀ args av, (q args).gives av → noPtrs args = true ∧ ∃ v n A S, A.q = 0 ∧ OkS P S ∧ av.valOf = some v ∧ call P S A n fn args [] (fun v' h => v'.valOf = some v ∧ h = [])
theorem Holds.toE {S : Sums} (hS : OkS P S) {f : Nat} {q : PSpec} (h : Holds P S f q) : HoldsE P f q := by
  obtain ⟨fn, h1, h2, h3⟩ := h
  refine ⟨fn, h1, h2, fun args av hg => ?_⟩
  obtain ⟨h4, v, n, A, h5, h6, h7⟩ := h3 args av hg
  exact ⟨h4, v, n, A, S, h5, hS, h6, h7⟩
/-- two summaries of one function, for unlike arguments -/
theorem HoldsE.cases {f : Nat} {q q1 q2 : PSpec} (h1 : HoldsE P f q1) (h2 : HoldsE P f q2) (hq : ∀ args av, (q args).gives av → (∃ av', (q1 args).gives av' ∧ av'.valOf = av.valOf) ∨ (∃ av', (q2 args).gives av' ∧ av'.valOf = av.valOf)) : HoldsE P f q := by
  obtain ⟨fn, a1, a2, a3⟩ := h1
  obtain ⟨fn', b1, b2, b3⟩ := h2
  obtain rfl : fn = fn' := Option.some.inj (a1.symm.trans b1)
  refine ⟨fn, a1, a2, fun args av hg => ?_⟩
  rcases hq args av hg with ⟨av', h, e⟩ | ⟨av', h, e⟩
  · rw [← e]; exact a3 args av' h
  · rw [← e]; exact b3 args av' h
theorem PureOk.addE (hF : Fine P) {S : Sums} (hP : PureOk P S) {f : Nat} {q : PSpec} (hq : HoldsE P f q) {m : List Bool} : PureOk P (S.add f q m) := by
  obtain ⟨fn, hf, hfb, hp⟩ := hq
  have core : ∀ args av, (q args).gives av → ∀ w0 Sx pl h vals, ArgsR pl args vals → ∃ v, ∀ w, HRel w0 Sx pl h w → av.R pl v ∧ Calls P f vals.toArray w (fun e w' => e = .returned v ∧ HRel w0 Sx pl h w') := by
    intro args av hg w0 Sx pl h vals hargs
    obtain ⟨h1, v, n, A, S0, hq0, hS0, h2, h3⟩ := hp args av hg
    exact ⟨v, pure_sound hF hS0.pure hS0.spec hS0.mono hf h1 h2 h3 hq0 hargs⟩
  intro g p hg
  by_cases e : g = f
  · subst e
    simp only [Sums.add, if_true] at hg
    cases hg
    refine ⟨⟨fn, hf, hfb⟩, fun args av hgv w0 Sx pl h vals hargs => ?_⟩
    have hargs' := ArgsR_era (m := m) hargs
    unfold liftQ at hgv
    split at hgv
    · obtain ⟨av', h1, rfl⟩ := gives_map hgv
      obtain ⟨v, hv⟩ := core _ _ h1 w0 Sx pl h vals hargs'
      exact ⟨v, fun w hw => ⟨(AV.R_map lit_ok.1 lit_ok.2).2 (hv w hw).1, (hv w hw).2⟩⟩
    · exact core _ _ hgv w0 Sx pl h vals hargs'
  · simp only [Sums.add, if_neg e] at hg
    exact hP g p hg
theorem OkS.add (hF : Fine P) {S : Sums} (h : OkS P S) {f : Nat} {q : PSpec} (hq : HoldsE P f q) {m : List Bool} : OkS P (S.add f q m) := ⟨h.pure.addE hF hq, h.spec, h.mono⟩
theorem OkS.add1 (hF : Fine P) {S S0 : Sums} (h : OkS P S) (h0 : OkS P S0) {f : Nat} {q : PSpec} (hq : Holds P S0 f q) {m : List Bool} : OkS P (S.add f q m) := h.add hF (hq.toE h0)
/-- a summary that forgets literals and gives what it gives -/
def Sums.addR (S : Sums) (f : Nat) (q : PSpec) : Sums := { S with pure := fun g => if g = f then some (fun args => q (eraM [] args)) else S.pure g }
theorem OkS.addR (hF : Fine P) {S : Sums} (h : OkS P S) {f : Nat} {q : PSpec} (hq : HoldsE P f q) : OkS P (S.addR f q) := by
  refine ⟨?_, h.spec, h.mono⟩
  obtain ⟨fn, hf, hfb, hp⟩ := hq
  intro g p hg
  by_cases e : g = f
  · subst e
    simp only [Sums.addR, if_true] at hg
    cases hg
    refine ⟨⟨fn, hf, hfb⟩, fun args av hgv w0 Sx pl h vals hargs => ?_⟩
    obtain ⟨h1, v, n, A, S0, hq0, hS0, h2, h3⟩ := hp _ av hgv
    exact ⟨v, pure_sound hF hS0.pure hS0.spec hS0.mono hf h1 h2 h3 hq0 (ArgsR_era (m := []) hargs)⟩
  · simp only [Sums.addR, if_neg e] at hg
    exact h.pure g p hg
end
end Go.AM

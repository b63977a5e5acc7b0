import Derived.Test.YtcinopdklobldaaGreatDoorAMMatch
/- What 'exec' says of a piece of code holds of its runs. -/
namespace Go.AM
open Go
def EX.to : EX → Exit
  | .normal => .normal
  | .exit id => .exit id
  | .ret => .ret

def SpecOk0 (P : Program) (S : Sums) : Prop := ∀ f sp, S.spec f = some sp → (∃ fn, P.funcs[f]? = some fn ∧ fn.body.isSome = true) ∧
  ∀ args h (K : KV), sp args h K → ∀ w0 Sx pl w vals, HRel w0 Sx pl h w → ArgsR pl args vals →
    Calls P f vals.toArray w (fun e w' => ∃ v av h' pl', e = .returned v ∧ av.R pl' v ∧ PExt pl pl' ∧ HRel w0 Sx pl' h' w' ∧ K av h')

/-- what is said of functions without a body -/
def ExtOk (P : Program) (S : Sums) : Prop :=
  (∀ f p, S.ext f = some p → ∀ args av, (p args).gives av → ∀ pl vals, ArgsR pl args vals → ∃ v, av.R pl v ∧ ∀ w, (callFunc f vals.toArray).run P w = .ok (.value v) w) ∧
  ∀ f g, S.twin f = some g → ∀ vals w, (callFunc f vals).run P w = .ok (.enter g vals) w
def SpecOk (P : Program) (S : Sums) : Prop := SpecOk0 P S ∧ ExtOk P S

def Annos.plain (A : Annos) : Prop := ∀ k, (∀ env h, A.loop k env h = none) ∧ A.cut k = none
/-- how the places may have changed -/
def PE (A : Annos) (pl pl' : List Pl) : Prop := (A.plain → PExt pl pl') ∧ ∀ b, b < A.q → pl'[b]? = pl[b]?
theorem PE.of_ext {A : Annos} {pl pl' : List Pl} (hq : A.q ≤ pl.length) (h : PExt pl pl') : PE A pl pl' :=
  ⟨fun _ => h, fun b hb => by rw [List.getElem?_eq_getElem (by omega : b < pl.length)]; exact h b _ (List.getElem?_eq_getElem (by omega))⟩
theorem PE.trans {A : Annos} {a b c : List Pl} (h : PE A a b) (k : PE A b c) : PE A a c := ⟨fun p => (h.1 p).trans (k.1 p), fun i hi => (k.2 i hi).trans (h.2 i hi)⟩
theorem PE.refl (A : Annos) (a : List Pl) : PE A a a := ⟨fun _ => PExt.refl a, fun _ _ => rfl⟩
theorem PE.len {A : Annos} {pl pl' : List Pl} (hq : A.q ≤ pl.length) (h : PE A pl pl') : A.q ≤ pl'.length := by
  rcases Nat.eq_zero_or_pos A.q with h0 | h0
  · omega
  · have := h.2 (A.q - 1) (by omega)
    rw [List.getElem?_eq_getElem (by omega : A.q - 1 < pl.length)] at this
    have := (List.getElem?_eq_some_iff.1 this).1
    omega

section
variable {P : Program} {S : Sums} {w0 : World} {Sx : Nat → Prop}

theorem rep_len : ∀ n, (rep n).length = n
  | 0 => rfl
  | n + 1 => by simp [rep, rep_len n]
theorem rep_R (pl : List Pl) : ∀ n, ArgsR pl (rep n) (List.replicate n Go.undef)
  | 0 => trivial
  | n + 1 => by rw [List.replicate_succ]; exact ⟨undef_R pl, rep_R pl n⟩
/-- the frame with which a call begins -/
theorem enter_R {pl : List Pl} {args : List AV} {vals : List Value} (hA : ArgsR pl args vals) (n : Nat) :
    EnvR pl (app args (rep (n - len' args))) (vals.toArray ++ Array.replicate (n - vals.toArray.size) Go.undef) := by
  have hl := hA.length
  have hx : ArgsR pl (args ++ rep (n - args.length)) (vals ++ List.replicate (n - vals.length) Go.undef) := hA.append (by rw [hl]; exact rep_R pl _)
  rw [app_eq, len'_eq]
  refine ⟨by simp [rep_len, hl], fun t => ?_⟩
  have := hx.get t
  rw [Array.getD_eq_getD_getElem?, ← Array.getElem?_toList]
  simpa using this

def resFn (tmps : Array Value) : ResultVar → Sem Value
  | .tmp t => pure (tmps.getD t Go.undef)
  | .cell a t => do loadVar t (← asAddr (tmps.getD a Go.undef))
theorem res_one {pl : List Pl} {env : Env} {tmps : Array Value} (hE : EnvR pl env tmps) {h : Heap} {w : World} (hB : HB pl h w) {x : ResultVar} {p : PV} (hx : resOne P env h x = some p) :
    ∃ v, p.R pl v ∧ (resFn tmps x).run P w = .ok v w := by
  cases x with
  | tmp t =>
    simp only [resOne] at hx
    have ht := hE.2 t
    split at hx
    · rename_i p' he
      simp at hx; subst hx
      rw [he] at ht
      exact ⟨_, ht, rfl⟩
    · cases hx
  | cell a t =>
    simp only [resOne] at hx
    have ht := hE.2 a
    split at hx
    · rename_i b off he
      rw [he] at ht
      obtain ⟨ad, had, hv⟩ := ptr_R ht
      obtain ⟨v, g1, g2⟩ := load_run hx had hB
      exact ⟨v, g1, by simp [resFn, hv, asAddr, g2]⟩
    · cases hx
theorem res_all {pl : List Pl} {env : Env} {tmps : Array Value} (hE : EnvR pl env tmps) {h : Heap} {w : World} (hB : HB pl h w) : ∀ {l : List ResultVar} {ps : List PV}, resAll P env h l = some ps →
    ∃ vs, PL pl ps vs ∧ (l.mapM (resFn tmps)).run P w = .ok vs w
  | [], ps, hx => by simp [resAll] at hx; subst hx; exact ⟨[], trivial, by simp⟩
  | x :: l, ps, hx => by
    simp only [resAll] at hx
    cases h1 : resOne P env h x with
    | none => simp [h1] at hx
    | some p =>
      cases h2 : resAll P env h l with
      | none => simp [h1, h2] at hx
      | some ps' =>
        simp [h1, h2] at hx
        subst hx
        obtain ⟨v, g1, g2⟩ := res_one hE hB h1
        obtain ⟨vs, g3, g4⟩ := res_all hE hB h2
        refine ⟨v :: vs, ⟨g1, g3⟩, ?_⟩
        rw [List.mapM_cons, Sem.run_bind, g2]
        simp only [Result.andThen_ok, Sem.run_bind, g4, Sem.run_pure]
theorem PL.length {pl : List Pl} : ∀ {l : List PV} {vs : List Value}, PL pl l vs → l.length = vs.length
  | [], [], _ => rfl
  | [], _ :: _, hv => hv.elim
  | _ :: _, [], hv => hv.elim
  | _ :: _, _ :: _, hv => by simp [PL.length hv.2]
theorem res_sound {pl : List Pl} {env : Env} {tmps : Array Value} (hE : EnvR pl env tmps) {h : Heap} {w : World} (hB : HB pl h w) {fn : Func} {av : AV} (hr : resV P fn env h = some av) :
    ∃ v, av.R pl v ∧ (results fn tmps).run P w = .ok v w := by
  unfold resV at hr
  cases ha : resAll P env h fn.results.toList with
  | none => simp [ha] at hr
  | some ps =>
    obtain ⟨vs, g1, g2⟩ := res_all hE hB ha
    have hl := g1.length
    have hm : (results fn tmps).run P w = .ok (if h : vs.toArray.size = 1 then vs.toArray[0] else .tuple vs.toArray) w := by
      have hu : results fn tmps = (do let vs ← fn.results.mapM (resFn tmps); pure (if h : vs.size = 1 then vs[0] else .tuple vs)) := by
        unfold results
        congr 1
      rw [hu, Sem.run_bind, Array.mapM_eq_mapM_toList]
      simp only [Sem.run_map, g2, Result.andThen_ok]
      rfl
    cases ps with
    | nil =>
      cases vs with
      | cons _ _ => simp at hl
      | nil =>
        simp [ha] at hr
        subst hr
        exact ⟨_, ⟨[], rfl, trivial⟩, by rw [hm]; rfl⟩
    | cons p ps =>
      cases ps with
      | nil =>
        match vs, hl, g1, hm with
        | [v], _, g1, hm =>
          simp [ha] at hr
          subst hr
          exact ⟨v, g1.1, by rw [hm]; rfl⟩
      | cons p2 ps =>
        simp [ha] at hr
        subst hr
        refine ⟨_, ⟨vs, rfl, g1⟩, ?_⟩
        rw [hm, dif_neg]
        simp at hl ⊢
        omega
end
end Go.AM

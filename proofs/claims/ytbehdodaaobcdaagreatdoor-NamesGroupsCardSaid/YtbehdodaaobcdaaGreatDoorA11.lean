import Derived.Test.YtbehdodaaobcdaaGreatDoorA10
set_option maxHeartbeats 4000000
namespace Go.AM
open Go
def EX.to : EX → Exit
  | .normal => .normal
  | .exit id => .exit id
  | .ret => .ret

def SpecOk0 [Glob] (P : Program) (S : Sums) : Prop := ∀ f sp, S.spec f = some sp → (∃ fn, P.funcs[f]? = some fn ∧ fn.body.isSome = true) ∧
  ∀ args h (K : KV), sp args h K → ∀ w0 Sx pl w vals, HRel w0 Sx pl h w → ArgsR pl args vals →
    Calls P f vals.toArray w (fun e w' => ∃ v av h' pl', e = .returned v ∧ av.R pl' v ∧ PExt pl pl' ∧ HRel w0 Sx pl' h' w' ∧ K av h')

def ExtOk (P : Program) (S : Sums) : Prop :=
  (∀ f p, S.ext f = some p → ∀ args av, (p args).gives av → ∀ pl vals, ArgsR pl args vals → ∃ v, av.R pl v ∧ ∀ w, (callFunc f vals.toArray).run P w = .ok (.value v) w) ∧
  ∀ f g, S.twin f = some g → ∀ vals w, (callFunc f vals).run P w = .ok (.enter g vals) w
def SpecOk [Glob] (P : Program) (S : Sums) : Prop := SpecOk0 P S ∧ ExtOk P S

def Annos.plain (A : Annos) : Prop := ∀ k, (∀ env h, A.loop k env h = none) ∧ ∀ env h, A.cut k env h = []
def PE (A : Annos) (pl pl' : List Pl) : Prop := (A.plain → PExt pl pl') ∧ ∀ b, b < A.q → pl'[b]? = pl[b]?
theorem PE.of_ext {A : Annos} {pl pl' : List Pl} (hq : A.q ≤ pl.length) (h : PExt pl pl') : PE A pl pl' :=
  ⟨fun _ => h, fun b hb => by rw [List.getElem?_eq_getElem (by omega : b < pl.length)]; exact h b _ (List.getElem?_eq_getElem (by omega))⟩
theorem PE.trans {A : Annos} {a b c : List Pl} (h : PE A a b) (k : PE A b c) : PE A a c := ⟨fun p => (h.1 p).trans (k.1 p), fun i hi => (k.2 i hi).trans (h.2 i hi)⟩
theorem PE.refl (A : Annos) (a : List Pl) : PE A a a := ⟨fun _ => PExt.refl a, fun _ _ => rfl⟩
theorem PE.len {A : Annos} {pl pl' : List Pl} (hq : A.q ≤ pl.length) (h : PE A pl pl') : A.q ≤ pl'.length := by
  rcases Nat.eq_zero_or_pos A.q with h0 | h0
  · omega
  · have := h.2 (A.q - 1) (by omega)
    rw [List.getElem?_eq_getElem (by omega : A.q - 1 < pl.length)] at this
    have := (List.getElem?_eq_some_iff.1 this).1
    omega

section
variable {P : Program} {S : Sums} {w0 : World} {Sx : Marks}

theorem rep_len : ∀ n, (rep n).length = n
  | 0 => rfl
  | n + 1 => by simp [rep, rep_len n]
theorem rep_R (pl : List Pl) : ∀ n, ArgsR pl (rep n) (List.replicate n Go.undef)
  | 0 => trivial
  | n + 1 => by rw [List.replicate_succ]; exact ⟨undef_R pl, rep_R pl n⟩
theorem enter_R {pl : List Pl} {args : List AV} {vals : List Value} (hA : ArgsR pl args vals) (n : Nat) :
    EnvR pl (app args (rep (n - len' args))) (vals.toArray ++ Array.replicate (n - vals.toArray.size) Go.undef) := by
  have hl := hA.length
  have hx : ArgsR pl (args ++ rep (n - args.length)) (vals ++ List.replicate (n - vals.length) Go.undef) := hA.append (by rw [hl]; exact rep_R pl _)
  rw [app_eq, len'_eq]
  refine ⟨by simp [rep_len, hl], fun t => ?_⟩
  have := hx.get t
  rw [Array.getD_eq_getD_getElem?, ← Array.getElem?_toList]
  simpa using this

def resFn (tmps : Array Value) : ResultVar → Sem Value
  | .tmp t => pure (tmps.getD t Go.undef)
  | .cell a t => do loadVar t (← asAddr (tmps.getD a Go.undef))
theorem res_one {pl : List Pl} {env : Env} {tmps : Array Value} (hE : EnvR pl env tmps) {h : Heap} {w : World} (hB : HB pl h w) {x : ResultVar} {p : PV} (hx : resOne P env h x = some p) :
    ∃ v, p.R pl v ∧ (resFn tmps x).run P w = .ok v w := by
  cases x with
  | tmp t =>
    simp only [resOne] at hx
    have ht := hE.2 t
    split at hx
    · rename_i p' he
      simp at hx; subst hx
      rw [he] at ht
      exact ⟨_, ht, rfl⟩
    · cases hx
  | cell a t =>
    simp only [resOne] at hx
    have ht := hE.2 a
    split at hx
    · rename_i b off he
      rw [he] at ht
      obtain ⟨ad, had, hv⟩ := ptr_R ht
      obtain ⟨v, g1, g2⟩ := load_run hx had hB
      exact ⟨v, g1, by simp [resFn, hv, asAddr, g2]⟩
    · cases hx
theorem res_all {pl : List Pl} {env : Env} {tmps : Array Value} (hE : EnvR pl env tmps) {h : Heap} {w : World} (hB : HB pl h w) : ∀ {l : List ResultVar} {ps : List PV}, resAll P env h l = some ps →
    ∃ vs, PL pl ps vs ∧ (l.mapM (resFn tmps)).run P w = .ok vs w
  | [], ps, hx => by simp [resAll] at hx; subst hx; exact ⟨[], trivial, by simp⟩
  | x :: l, ps, hx => by
    simp only [resAll] at hx
    cases h1 : resOne P env h x with
    | none => simp [h1] at hx
    | some p =>
      cases h2 : resAll P env h l with
      | none => simp [h1, h2] at hx
      | some ps' =>
        simp [h1, h2] at hx
        subst hx
        obtain ⟨v, g1, g2⟩ := res_one hE hB h1
        obtain ⟨vs, g3, g4⟩ := res_all hE hB h2
        refine ⟨v :: vs, ⟨g1, g3⟩, ?_⟩
        rw [List.mapM_cons, Sem.run_bind, g2]
        simp only [Result.andThen_ok, Sem.run_bind, g4, Sem.run_pure]
theorem PL.length {pl : List Pl} : ∀ {l : List PV} {vs : List Value}, PL pl l vs → l.length = vs.length
  | [], [], _ => rfl
  | [], _ :: _, hv => hv.elim
  | _ :: _, [], hv => hv.elim
  | _ :: _, _ :: _, hv => by simp [PL.length hv.2]
theorem res_sound {pl : List Pl} {env : Env} {tmps : Array Value} (hE : EnvR pl env tmps) {h : Heap} {w : World} (hB : HB pl h w) {fn : Func} {av : AV} (hr : resV P fn env h = some av) :
    ∃ v, av.R pl v ∧ (results fn tmps).run P w = .ok v w := by
  unfold resV at hr
  cases ha : resAll P env h fn.results.toList with
  | none => simp [ha] at hr
  | some ps =>
    obtain ⟨vs, g1, g2⟩ := res_all hE hB ha
    have hl := g1.length
    have hm : (results fn tmps).run P w = .ok (if h : vs.toArray.size = 1 then vs.toArray[0] else .tuple vs.toArray) w := by
      have hu : results fn tmps = (do let vs ← fn.results.mapM (resFn tmps); pure (if h : vs.size = 1 then vs[0] else .tuple vs)) := by
        unfold results
        congr 1
      rw [hu, Sem.run_bind, Array.mapM_eq_mapM_toList]
      simp only [Sem.run_map, g2, Result.andThen_ok]
      rfl
    cases ps with
    | nil =>
      cases vs with
      | cons _ _ => simp at hl
      | nil =>
        simp [ha] at hr
        subst hr
        exact ⟨_, ⟨[], rfl, trivial⟩, by rw [hm]; rfl⟩
    | cons p ps =>
      cases ps with
      | nil =>
        match vs, hl, g1, hm with
        | [v], _, g1, hm =>
          simp [ha] at hr
          subst hr
          exact ⟨v, g1.1, by rw [hm]; rfl⟩
      | cons p2 ps =>
        simp [ha] at hr
        subst hr
        refine ⟨_, ⟨vs, rfl, g1⟩, ?_⟩
        rw [hm, dif_neg]
        simp at hl ⊢
        omega
end
end Go.AM
namespace Go.AM
open Go
section
variable {P : Program} {S : Sums}

def SpecMono (S : Sums) : Prop := ∀ f sp, S.spec f = some sp → ∀ args h (K K' : KV), (∀ v h, K v h → K' v h) → sp args h K → sp args h K'

theorem ite_mono {c : Prop} [Decidable c] {A A' B B' : Prop} (h1 : A → A') (h2 : B → B') : (if c then A else B) → (if c then A' else B') := by
  intro h
  by_cases hc : c
  · rw [if_pos hc] at h ⊢; exact h1 h
  · rw [if_neg hc] at h ⊢; exact h2 h
theorem kOR_mono {r : OR} {K K' : AV → Prop} (h : ∀ v, K v → K' v) (hk : kOR r K) : kOR r K' := by
  cases r with
  | fail => exact hk
  | ok v => exact h _ hk
  | iff p v => exact ⟨hk.1, h _ hk.2⟩
theorem splitIx_mono {i : Int} {K K' : Nat → Prop} (h : ∀ q, K q → K' q) : ∀ {n : Nat}, splitIx i K n → splitIx i K' n
  | 0, _ => trivial
  | _ + 1, hs => ⟨splitIx_mono h hs.1, fun e => h _ (hs.2 e)⟩
theorem storeE_mono {t b z idx sub : Nat} {h : Heap} {p : PV} {K K' : Heap → Prop} (hK : ∀ h, K h → K' h) (hk : storeE P t h b z idx sub p K) : storeE P t h b z idx sub p K' := by
  unfold storeE at hk ⊢
  repeat' (split at hk)
  all_goals first
    | exact hk.elim
    | (refine ite_mono ?_ (fun h => h) (by assumption))
    | skip
  all_goals simp_all
theorem mapV_mono {t : Nat} {r : Option Operand} {h : Heap} {K K' : KV} (hK : ∀ v h, K v h → K' v h) (hk : mapV P t r h K) : mapV P t r h K' := by
  unfold mapV at hk ⊢
  repeat' (split at hk)
  all_goals first
    | exact hk.elim
    | skip
  all_goals simp_all
theorem putV_mono {t : Nat} {m k v : AV} {h : Heap} {K K' : KV} (hK : ∀ v h, K v h → K' v h) (hk : putV P t m k v h K) : putV P t m k v h K' := by
  unfold putV at hk ⊢
  repeat' (split at hk)
  all_goals first
    | exact hk.elim
    | skip
  all_goals simp_all
theorem sliceV_mono {t n : Nat} {ps : Option (List (Nat × PV))} {h : Heap} {K K' : KV} (hK : ∀ v h, K v h → K' v h) (hk : sliceV P t n ps h K) : sliceV P t n ps h K' := by
  unfold sliceV at hk ⊢
  repeat' (split at hk)
  all_goals first
    | exact hk.elim
    | skip
  all_goals simp_all
theorem appV_mono {env : Env} {args : List Operand} {ts : List Nat} {h : Heap} {K K' : KV} (hK : ∀ v h, K v h → K' v h) (hk : appV P env args ts h K) : appV P env args ts h K' := by
  unfold appV at hk ⊢
  repeat' (split at hk)
  all_goals first
    | exact hk.elim
    | skip
  all_goals first
    | (simp_all; done)
    | (obtain ⟨ys, q1, q2, q3⟩ := hk
       simp_all
       exact ⟨ys, q1, hK _ _ q3⟩)
    | (obtain ⟨ys, q1, q2, q3⟩ := hk
       simp_all
       exact ⟨ys, q1, q2, hK _ _ q3⟩)
theorem appR_mono {h : Heap} {t : Nat} {s : AV} {src : (C : Codec) × (Nat × Nat × Prop × List C.τ)} {K K' : KV} (hK : ∀ v h, K v h → K' v h) (hk : appR P h t s src K) : appR P h t s src K' := by
  obtain ⟨C, b2, m, pr, ys⟩ := src
  unfold appR at hk ⊢
  simp only at hk ⊢
  split at hk
  · split at hk
    · split at hk
      · rename_i hc
        rw [if_pos hc]
        split at hk
        · exact ⟨hk.1, hK _ _ hk.2⟩
        · split at hk
          · rename_i hc2
            rw [if_pos hc2]
            split at hk
            · split at hk
              · rename_i hc3
                rw [if_pos hc3]
                exact ⟨hk.1, hK _ _ hk.2⟩
              · exact hk.elim
            · split at hk
              · rename_i hc3
                rw [if_pos hc3]
                obtain ⟨h1, zs, h2, h3⟩ := hk
                exact ⟨h1, zs, h2, hK _ _ h3⟩
              · exact hk.elim
            · exact hk.elim
          · exact hk.elim
        · exact hk.elim
      · exact hk.elim
    · exact hk.elim
  · exact hk.elim
theorem allM_mono {f g : Env × Heap → Prop} (h : ∀ t, f t → g t) : ∀ {Ls : List Ann}, allM Ls f → allM Ls g
  | [], _ => trivial
  | [_], k => fun x => h _ (k x)
  | _ :: M :: Ls, k => ⟨fun x => h _ (k.1 x), allM_mono h (Ls := M :: Ls) k.2⟩
theorem appS_mono {h : Heap} {t u : Nat} {s x : AV} {K K' : KV} (hK : ∀ v h, K v h → K' v h) (hk : appS P t u s x h K) : appS P t u s x h K' := by
  unfold appS at hk ⊢
  split at hk
  · split at hk
    · rename_i hc
      rw [if_pos hc]
      split at hk
      · split at hk
        · rename_i hl
          rw [if_pos hl]
          split at hk
          · rename_i h2; rw [if_pos h2]; exact hK _ _ hk
          · exact hk.elim
        · rename_i hl
          rw [if_neg hl]
          exact ⟨hk.1, hK _ _ hk.2⟩
      · split at hk
        · rename_i hc1
          rw [if_pos hc1]
          split at hk
          · split at hk
            · rename_i hc2
              rw [if_pos hc2]
              split at hk
              · rename_i hl
                rw [if_pos hl]
                split at hk
                · rename_i h2; rw [if_pos h2]; exact hK _ _ hk
                · exact hk.elim
              · rename_i hl
                rw [if_neg hl]
                split at hk
                · exact ⟨hk.1, hK _ _ hk.2⟩
                · exact hk.elim
            · exact hk.elim
          · split at hk
            · rename_i hc2
              rw [if_pos hc2]
              obtain ⟨h1, zs, h2, h3⟩ := hk
              exact ⟨h1, zs, h2, hK _ _ h3⟩
            · exact hk.elim
          · exact hk.elim
        · exact hk.elim
      · exact hk.elim
    · exact hk.elim
  · exact hk.elim
theorem toStr_mono {h : Heap} {x : AV} {K K' : AV → Prop} (hK : ∀ v, K v → K' v) (hk : toStr h x K) : toStr h x K' := by
  have cs : ∀ {l : List SV}, (match litBytes l with | some s => K (.v (.one (.cstr s))) | none => (match numBytes l with | some s => K (.v (.one (.str s))) | none => False)) →
      (match litBytes l with | some s => K' (.v (.one (.cstr s))) | none => (match numBytes l with | some s => K' (.v (.one (.str s))) | none => False)) := by
    intro l hl
    split at hl
    · exact hK _ hl
    · split at hl
      · exact hK _ hl
      · exact hl.elim
  unfold toStr at hk ⊢
  split at hk
  · exact hK _ hk
  · split at hk
    · rename_i hc
      rw [if_pos hc]
      split at hk
      · split at hk
        · rename_i hc2
          rw [if_pos hc2]
          split at hk
          · exact cs hk
          · exact hk.elim
        · exact hk.elim
      · split at hk
        · rename_i hc2
          rw [if_pos hc2]
          obtain ⟨ns, h1, h2, h3⟩ := hk
          exact ⟨ns, h1, h2, hK _ h3⟩
        · exact hk.elim
      · exact hk.elim
    · exact hk.elim
  · split at hk
    · split at hk
      · exact cs hk
      · exact hk.elim
    · exact hk.elim
  · exact hk.elim
theorem convX_to {h : Heap} {s d : Nat} {x : AV} {K K' : KV} (hK : ∀ v, K v h → K' v h) (hk : convX P s d x h K) : convX P s d x h K' := by
  unfold convX at hk ⊢
  split at hk
  · split at hk
    · rename_i hc
      rw [if_pos hc]
      exact toStr_mono hK hk
    · exact hk.elim
  · split at hk
    · split at hk
      · split at hk
        · rename_i hc
          rw [if_pos hc]
          exact hK _ hk
        · exact hk.elim
      · exact hk.elim
    · exact hk.elim
  · split at hk
    · split at hk
      · split at hk
        · rename_i hc
          rw [if_pos hc]
          exact hK _ hk
        · exact hk.elim
      · exact hk.elim
    · exact hk.elim
  · exact hk.elim
theorem sliceDataX_mono {h : Heap} {x : AV} {K K' : KV} (hK : ∀ v h, K v h → K' v h) (hk : sliceDataX h x K) : sliceDataX h x K' := by
  unfold sliceDataX at hk ⊢
  split at hk
  · exact hK _ _ hk
  · split at hk
    · rename_i hc
      rw [if_pos hc]
      split at hk
      · split at hk
        · rename_i hc2; rw [if_pos hc2]; exact hK _ _ hk
        · exact hk.elim
      · split at hk
        · exact hk.elim
        · rename_i hc2; rw [if_neg hc2]; exact ⟨hk.1, hK _ _ hk.2⟩
      · exact hk.elim
    · exact hk.elim
  · exact hk.elim
theorem strDataX_mono {ts : List Nat} {l : List AV} {h : Heap} {K K' : KV} (hK : ∀ v h, K v h → K' v h) (hk : strDataX P ts l h K) : strDataX P ts l h K' := by
  unfold strDataX at hk ⊢
  split at hk
  · split at hk
    · rename_i hc; rw [if_pos hc]; exact hK _ _ hk
    · exact hk.elim
  · split at hk
    · split at hk
      · rename_i hc
        rw [if_pos hc]
        split at hk
        · exact hK _ _ hk
        · exact hk.elim
      · exact hk.elim
    · split at hk
      · rename_i hc
        rw [if_pos hc]
        obtain ⟨s, h1, h2, h3⟩ := hk
        exact ⟨s, h1, h2, hK _ _ h3⟩
      · exact hk.elim
    · exact hk.elim
  · exact hk.elim
theorem rangeX_mono {t : Nat} {x : AV} {h : Heap} {K K' : KV} (hK : ∀ v h, K v h → K' v h) (hk : rangeX P t x h K) : rangeX P t x h K' := by
  unfold rangeX at hk ⊢
  split at hk
  · exact hK _ _ hk
  · exact hK _ _ hk
  · exact hk.elim
theorem nextX_mono {x : AV} {h : Heap} {K K' : KV} (hK : ∀ v h, K v h → K' v h) (hk : nextX x h K) : nextX x h K' := by
  unfold nextX at hk ⊢
  split at hk
  · split at hk
    · split at hk
      · rename_i hc; rw [if_pos hc]; exact hK _ _ hk
      · rename_i hc; rw [if_neg hc]; exact hK _ _ hk
    · exact ⟨fun h1 => hK _ _ (hk.1 h1), fun h1 => hK _ _ (hk.2 h1)⟩
    · exact hk.elim
  · exact hk.elim
theorem aop2_mono {h : Heap} {o : Op} {l : List AV} {K K' : KV} (hK : ∀ v h, K v h → K' v h) (hk : aop2 P h o l K) : aop2 P h o l K' := by
  unfold aop2 at hk ⊢
  split at hk
  · exact convX_to (fun v hv => hK v h hv) hk
  · exact sliceDataX_mono hK hk
  · exact strDataX_mono hK hk
  · exact hk.elim
theorem appW_mono {env : Env} {args : List Operand} {ts : List Nat} {h : Heap} {K K' : KV} (hK : ∀ v h, K v h → K' v h) (hk : appW P env args ts h K) : appW P env args ts h K' := by
  unfold appW at hk ⊢
  split at hk
  · split at hk
    · split at hk
      · rename_i hc
        rw [if_pos hc]
        exact appR_mono hK hk
      · exact hk.elim
    · split at hk
      · exact appS_mono hK hk
      · exact appV_mono hK hk
  · exact appV_mono hK hk
theorem copyX_mono {ts : List Nat} {l : List AV} {h : Heap} {K K' : KV} (hK : ∀ v h, K v h → K' v h) (hk : copyX P ts l h K) : copyX P ts l h K' := by
  unfold copyX at hk ⊢
  split at hk
  · split at hk
    · split at hk
      · split at hk
        · split at hk
          · rename_i hkn
            rw [if_pos hkn]
            split at hk
            · split at hk
              · split at hk
                · exact hK _ _ hk
                · exact hk
              · exact hk
            · exact hK _ _ hk
            · exact hk
          · exact hk.elim
        · exact hk
      · exact hk
    · exact hk
  · exact hk
theorem aop1_mono {h : Heap} {o : Op} {l : List AV} {K K' : KV} (hK : ∀ v h, K v h → K' v h) (hk : aop1 P h o l K) : aop1 P h o l K' := by
  unfold aop1 at hk ⊢
  split at hk
  · unfold makeX at hk ⊢
    split at hk
    · split at hk
      · split at hk
        · rename_i hc; rw [if_pos hc]; exact hK _ _ hk
        · exact hk.elim
      · exact hk
    · exact hk
  · exact copyX_mono hK hk
  · unfold clearX at hk ⊢
    split at hk
    · split at hk
      · exact hK _ _ hk
      · exact hk
    · split at hk
      · split at hk
        · rename_i hc; rw [if_pos hc]; exact hK _ _ hk
        · rename_i hc
          rw [if_neg hc]
          split at hk
          · split at hk
            · rename_i hc; rw [if_pos hc]
              split at hk
              · exact hK _ _ hk
              · exact hk
            · exact hk.elim
          · exact hk
      · exact hk
    · exact hk
  · exact hk
theorem convB_mono {s d : Nat} {x : AV} {h : Heap} {K K' : KV} (hK : ∀ v h, K v h → K' v h) (hk : convB P s d x h K) : convB P s d x h K' := by
  unfold convB at hk ⊢
  split at hk
  · split at hk
    · rename_i hc
      rw [if_pos hc]
      split at hk
      · split at hk
        · rename_i hlit
          rw [if_pos hlit]
          split at hk
          · rename_i hl; rw [if_pos hl]; exact hK _ _ hk
          · exact hk.elim
        · rename_i hlit
          rw [if_neg hlit]
          exact ⟨hk.1, hK _ _ hk.2⟩
      · exact hk.elim
    · exact hk.elim
  · split at hk
    · rename_i hc
      rw [if_pos hc]
      split at hk
      · split at hk
        · split at hk
          · rename_i hl; rw [if_pos hl]; exact hK _ _ hk
          · exact hk.elim
        · exact hk.elim
      · exact hk.elim
    · exact hk.elim
  · exact hk.elim
theorem aop_mono {env : Env} {h : Heap} {o : Op} {K K' : KV} (hK : ∀ v h, K v h → K' v h) (hk : aop P env h o K) : aop P env h o K' := by
  have hq : ∀ {r : OR}, kOR r (fun v => K v h) → kOR r (fun v => K' v h) := fun hr => kOR_mono (fun v hv => hK _ _ hv) hr
  unfold aop at hk ⊢
  split at hk
  · split at hk
    · exact hK _ _ hk
    · exact hk
  · split at hk
    · split at hk
      · rename_i hkn; rw [if_pos hkn]; exact hK _ _ hk
      · exact hk.elim
    · exact hk
  · split at hk
    · split at hk
      · exact hK _ _ hk
      · exact hk
    · exact storeE_mono (fun h' hh => hK _ _ hh) hk
    · exact hk
  · exact mapV_mono hK hk
  · exact rangeX_mono hK hk
  · exact nextX_mono hK hk
  · exact putV_mono hK hk
  · exact putV_mono hK hk
  · exact sliceV_mono hK hk
  · exact appW_mono hK hk
  · split at hk
    · split at hk
      · exact ⟨hk.1, splitIx_mono (fun q hq => hK _ _ hq) hk.2⟩
      · exact hk
    · split at hk
      · rename_i hz; rw [if_pos hz]; exact ⟨hk.1, splitIx_mono (fun q hq => hK _ _ hq) hk.2⟩
      · exact hk.elim
    · exact hq hk
  · split at hk
    · split at hk
      · refine ⟨hk.1, splitIx_mono (fun q hq => ?_) hk.2⟩
        split at hq
        · exact hK _ _ hq
        · exact hq
      · exact hk
    · exact hq hk
  · split at hk
    · exact ⟨fun hb => hK _ _ (hk.1 hb), fun hb => hK _ _ (hk.2 hb)⟩
    · exact hq hk
  · split at hk
    · rename_i hc; rw [if_pos hc]; exact aop1_mono hK hk
    · rename_i hc
      rw [if_neg hc]
      split at hk
      · rename_i hy; rw [if_pos hy]; exact aop2_mono hK hk
      · rename_i hy; rw [if_neg hy]; exact hq hk

theorem goQ_mono {h : Heap} {o : Oper} {env : Env} {N N' : Env → Prop} (hN : ∀ e, N e → N' e) (hg : goQ P S h o env N) : goQ P S h o env N' := by
  unfold goQ at hg ⊢
  split at hg
  · split at hg
    · split at hg
      · exact kOR_mono (fun v hv => hN _ hv) hg
      · exact hg.elim
    · exact hg.elim
  · exact kOR_mono (fun v hv => hN _ hv) hg
theorem execQ_mono {ops : List Oper} {h : Heap} {K K' : Env → Prop} (hK : ∀ e, K e → K' e) : ∀ {l : List Oper} {env : Env}, execQ P S ops l env h K → execQ P S ops l env h K'
  | [], env, hx => hK env hx
  | o :: l, env, hx => by
    rw [execQ_cons] at hx ⊢
    have ih : ∀ e, execQ P S ops l e h K → execQ P S ops l e h K' := fun e he => execQ_mono hK he
    split at hx
    · exact goQ_mono ih hx
    · exact ih _ hx
    · exact S.on.mono hx (ite_mono (goQ_mono ih) (ih _)) (ite_mono (ih _) (goQ_mono ih))
    · exact hx
theorem kRes_mono {n : Nat} {fn : Func} {env : Env} {h : Heap} {K K' : KV} (hK : ∀ v h, K v h → K' v h) (hk : kRes P n fn env h K) : kRes P n fn env h K' := by
  unfold kRes at hk ⊢
  split at hk
  · exact hK _ _ hk
  · exact hk

theorem outLp_mono {b : Nat} {env : Env} {h : Heap} {K K' : KE} (hK : ∀ e env h, K e env h → K' e env h) (hk : outLp b env h K) : outLp b env h K' := by
  unfold outLp at hk ⊢
  split at hk
  · exact hK _ _ _ hk
  · exact hk
theorem endLp_mono {b : Nat} {e : List AV} {ps : Array Tmp} {asg body : Code} {ex : EX} {h : Heap} {K K' : KV} (hK : ∀ v h, K v h → K' v h) (hk : endLp b e ps asg body K ex h) : endLp b e ps asg body K' ex h := by
  unfold endLp at hk ⊢
  split at hk
  · exact hK _ _ hk
  · exact hk
theorem allR_mono {f g : Nat → Prop} (h : ∀ j, f j → g j) : ∀ {l : List Nat}, allR l f → allR l g
  | [], _ => trivial
  | [_], hx => h _ hx
  | _ :: _ :: _, hx => ⟨h _ hx.1, allR_mono h hx.2⟩
theorem all_mono (hM : SpecMono S) : ∀ n, (∀ A c env h (K K' : KE), (∀ e env h, K e env h → K' e env h) → exec P S A n c env h K → exec P S A n c env h K') ∧
    (∀ A ops l env h (K K' : Env → Heap → Prop), (∀ env h, K env h → K' env h) → execOps P S A n ops l env h K → execOps P S A n ops l env h K') ∧
    (∀ ops L env h (K K' : Env → Heap → Prop), (∀ env h, K env h → K' env h) → runPlan P S n ops L env h K → runPlan P S n ops L env h K') ∧
    (∀ op env h (K K' : KV), (∀ v h, K v h → K' v h) → exec1 P S n op env h K → exec1 P S n op env h K')
  | 0 => ⟨fun _ _ _ _ _ _ _ hx => by unfold exec at hx; exact hx.elim, fun _ _ _ _ _ _ _ _ hx => by unfold execOps at hx; exact hx.elim, fun _ _ _ _ _ _ _ hx => by unfold runPlan at hx; exact hx.elim, fun _ _ _ _ _ _ hx => by unfold exec1 at hx; exact hx.elim⟩
  | n + 1 => by
    obtain ⟨hE, hO, hR, h1⟩ := all_mono hM n
    refine ⟨?_, ?_, ?_, ?_⟩
    · intro A c env h K K' hK hx
      cases c with
      | skip => exact hK _ _ _ hx
      | label _ => exact hK _ _ _ hx
      | exit _ => exact hK _ _ _ hx
      | ret => exact hK _ _ _ hx
      | goto _ => exact hx
      | refuse _ => exact hx
      | rangeFunc g ps asg body =>
        unfold exec at hx ⊢
        simp only at hx ⊢
        split at hx
        · split at hx
          · split at hx
            · simp only [forceE_eq] at hx ⊢
              refine hE _ _ _ _ _ _ ?_ hx
              intro e env' h' hk
              cases e with
              | normal => exact kRes_mono (fun _ _ hk => outLp_mono hK hk) hk
              | ret => exact kRes_mono (fun _ _ hk => outLp_mono hK hk) hk
              | exit _ => exact hk
            · exact hx.elim
          · exact hx.elim
        · exact hx.elim
      | scope _ => exact hx
      | seq a b =>
        unfold exec at hx ⊢
        simp only at hx ⊢
        split at hx
        · rename_i hA
          refine hE _ _ _ _ _ _ ?_ hx
          intro e env h hk
          cases e with
          | normal => exact hE _ _ _ _ _ _ hK hk
          | exit _ => exact hK _ _ _ hk
          | ret => exact hK _ _ _ hk
        · refine ⟨hE _ _ _ _ _ _ ?_ hx.1, allM_mono (fun t ht => hE _ _ _ _ _ _ hK ht) hx.2⟩
          intro e env h hk
          cases e with
          | normal => exact hk
          | exit _ => exact hK _ _ _ hk
          | ret => exact hK _ _ _ hk
      | cond c t e =>
        unfold exec at hx ⊢
        simp only at hx ⊢
        split at hx
        · exact hE _ _ _ _ _ _ hK hx
        · exact hE _ _ _ _ _ _ hK hx
        · exact S.on.mono hx (hE _ _ _ _ _ _ hK) (hE _ _ _ _ _ _ hK)
        · exact hx.elim
      | block id body =>
        unfold exec at hx ⊢
        refine hE _ _ _ _ _ _ ?_ hx
        intro e env h hk
        cases e with
        | normal => exact hK _ _ _ hk
        | ret => exact hK _ _ _ hk
        | exit i =>
          simp only at hk ⊢
          split at hk
          · rename_i e; rw [if_pos e]; exact hK _ _ _ hk
          · rename_i e; rw [if_neg e]; exact hK _ _ _ hk
      | loop body =>
        unfold exec at hx ⊢
        simp only [forceE_eq, forceH_eq] at hx ⊢
        split at hx
        · refine hE _ _ _ _ _ _ ?_ hx
          intro e env h hk
          cases e with
          | normal => exact hE _ _ _ _ _ _ hK hk
          | exit _ => exact hK _ _ _ hk
          | ret => exact hK _ _ _ hk
        · refine ⟨hx.1, fun x => hE _ _ _ _ _ _ ?_ (hx.2 x)⟩
          intro e env h hk
          cases e with
          | normal => exact hk
          | exit _ => exact hK _ _ _ hk
          | ret => exact hK _ _ _ hk
      | region id ops draw =>
        unfold exec at hx ⊢
        simp only [forceE_eq, forceH_eq] at hx ⊢
        exact ite_mono (ite_mono (execQ_mono (fun e he => hK _ _ _ he)) (ite_mono (execQ_mono (fun e he => hO _ _ _ _ _ _ _ (fun _ _ hk => hK _ _ _ hk) he)) (ite_mono (hR _ _ _ _ _ _ (fun _ _ hk => hK _ _ _ hk)) (fun h => h))))
          (hO _ _ _ _ _ _ _ (fun _ _ hk => hK _ _ _ hk)) hx
    · intro A ops l env h K K' hK hx
      cases l with
      | nil => unfold execOps at hx ⊢; exact hK _ _ hx
      | cons o l =>
        unfold execOps at hx ⊢
        split at hx
        · split at hx
          · rename_i hb
            rw [if_pos hb]
            split at hx
            · exact convB_mono (fun v h hk => hO _ _ _ _ _ _ _ hK hk) hx
            · exact hx.elim
          · rename_i hb
            rw [if_neg hb]
            exact h1 _ _ _ _ _ (fun v h hk => hO _ _ _ _ _ _ _ hK hk) hx
        · exact hO _ _ _ _ _ _ _ hK hx
        · exact S.on.mono hx (hO _ _ _ _ _ _ _ hK) (hO _ _ _ _ _ _ _ hK)
        · exact hx
    · intro ops L env h K K' hK hx
      unfold runPlan at hx ⊢
      split at hx
      · exact hK _ _ hx
      · split at hx
        · split at hx
          · exact ite_mono (hR _ _ _ _ _ _ hK) (fun h => h) hx
          · split at hx
            · exact kOR_mono (fun v hk => hR _ _ _ _ _ _ hK hk) hx
            · exact hx
        · refine allR_mono (fun j hj => ?_) hx
          split at hj
          · split at hj
            · exact h1 _ _ _ _ _ (fun v h hk => hR _ _ _ _ _ _ hK hk) hj
            · exact hj.elim
          · exact hj.elim
    · intro op env h K K' hK hx
      unfold exec1 at hx ⊢
      split at hx
      · split at hx
        · split at hx
          · exact kOR_mono (fun v hv => hK _ _ hv) hx
          · split at hx
            · rename_i hsp; exact hM _ _ hsp _ _ _ _ hK hx
            · split at hx
              · exact kOR_mono (fun v hv => hK _ _ hv) hx
              · split at hx
                · split at hx
                  · refine hE _ _ _ _ _ _ ?_ hx
                    intro e env h hk
                    cases e with
                    | normal => exact kRes_mono hK hk
                    | exit _ => exact hk
                    | ret => exact kRes_mono hK hk
                  · exact hx
                · exact hx
        · split at hx
          · split at hx
            · refine hE _ _ _ _ _ _ ?_ hx
              intro e env h hk
              cases e with
              | normal => exact hE _ _ _ _ _ _ (fun ex _ _ hk => endLp_mono hK hk) hk
              | exit _ => exact hk
              | ret => exact hk
            · exact hx
          · exact hx
        · exact hx.elim
      · exact aop_mono hK hx

def Agree (env env' : Env) (o : Op) : Prop := ∀ x ∈ o.operands.toList, ev env' x = ev env x
theorem evs_congr {env env' : Env} : ∀ {l : List Operand}, (∀ x ∈ l, ev env' x = ev env x) → evs env' l = evs env l
  | [], _ => rfl
  | x :: l, h => by simp only [evs]; rw [h x (by simp), evs_congr (fun y hy => h y (by simp [hy]))]
theorem evParts_congr {env env' : Env} : ∀ {l : List (Nat × Operand)}, (∀ x ∈ l.map (·.2), ev env' x = ev env x) → evParts env' l = evParts env l
  | [], _ => rfl
  | (i, x) :: l, h => by simp only [evParts]; rw [h x (by simp), evParts_congr (fun y hy => h y (by simp only [List.map_cons, List.mem_cons]; exact .inr hy))]
theorem caps_congr {env env' : Env} : ∀ {l : List Operand}, (∀ x ∈ l, ev env' x = ev env x) → caps env' l = caps env l
  | [], _ => rfl
  | x :: l, h => by simp only [caps]; rw [h x (by simp), caps_congr (fun y hy => h y (by simp [hy]))]
theorem lenV_congr {env env' : Env} {l : List Operand} {ts : List Nat} (hA : ∀ x ∈ l, ev env' x = ev env x) : lenV P env' l ts = lenV P env l ts := by
  unfold lenV
  split
  · rw [hA _ (by simp)]
  · rfl
theorem appV_congr {env env' : Env} {l : List Operand} {ts : List Nat} {h : Heap} {K : KV} (hA : ∀ x ∈ l, ev env' x = ev env x) : appV P env' l ts h K = appV P env l ts h K := by
  unfold appV
  split
  · rw [hA _ (by simp), hA _ (by simp)]
  · rfl
theorem appW_congr {env env' : Env} {l : List Operand} {ts : List Nat} {h : Heap} {K : KV} (hA : ∀ x ∈ l, ev env' x = ev env x) : appW P env' l ts h K = appW P env l ts h K := by
  unfold appW
  split
  · rename_i s x t t'
    rw [hA s (by simp), hA x (by simp), appV_congr hA]
  · exact appV_congr hA
theorem qop0_congr {env env' : Env} {h : Heap} {o : Op} (hA : Agree env env' o) : qop0 P env' h o = qop0 P env h o := by
  unfold Agree at hA
  cases o <;> simp only [qop0, Op.operands] at hA ⊢
  case build t parts => rw [evParts_congr (by simpa using hA)]
  case makeFunc f first cap =>
    cases f <;> simp only
    rw [caps_congr (fun x hx => hA x (by simp at hx ⊢; exact .inr hx))]
  case call c =>
    split <;> first | (rename_i heq; cases heq; done) | skip
    · rename_i args ts heq
      injection heq with heq
      subst heq
      exact lenV_congr (fun x hx => hA x (by simp [Call.operands]; simpa using hx))
    · rfl
  all_goals (try rfl)
  all_goals simp only [List.mem_cons, List.not_mem_nil, or_false, forall_eq_or_imp, forall_eq] at hA
  all_goals first
    | rw [hA]
    | (obtain ⟨h1, h2⟩ := hA; rw [h1, h2])
    | (obtain ⟨h1, h2, h3⟩ := hA; rw [h1, h2, h3])
    | (obtain ⟨h1, _⟩ := hA; rw [h1])
theorem qop_congr {env env' : Env} {h : Heap} {o : Op} (hA : Agree env env' o) : qop P env' h o = qop P env h o := by
  unfold qop
  rw [qop0_congr hA, evs_congr hA]
theorem qopE_congr {env env' : Env} {h : Heap} {o : Op} (hA : Agree env env' o) : qopE P env' h o = qopE P env h o := by
  unfold qopE
  rw [qop_congr hA, evs_congr hA]
theorem aop_congr {env env' : Env} {h : Heap} {o : Op} {K : KV} (hA : Agree env env' o) : aop P env' h o K = aop P env h o K := by
  have hq := qop_congr (P := P) (h := h) hA
  have he := evs_congr hA
  have hq2 := qopE_congr (P := P) (h := h) hA
  unfold Agree at hA
  by_cases hcall : ∃ c, o = .call c
  · obtain ⟨c, rfl⟩ := hcall
    unfold aop
    split <;> first | (rename_i heq; cases heq; done) | skip
    · rename_i args ts heq
      injection heq with heq
      subst heq
      exact appW_congr (fun x hx => hA x (by simp [Op.operands, Call.operands]; simpa using hx))
    · rw [hq2, he]
  by_cases hbs : ∃ t n ps, o = .buildSlice t n ps
  · obtain ⟨t, n, ps, rfl⟩ := hbs
    simp only [aop]
    rw [evParts_congr (fun x hx => hA x (by simpa [Op.operands] using hx))]
  by_cases hnx : ∃ it c, o = .next it c
  · obtain ⟨it, c, rfl⟩ := hnx
    cases c with
    | true => simp only [aop]; rw [hA it (by simp [Op.operands])]
    | false => simp only [aop, hq2, he]
  cases o <;> first | exact absurd ⟨_, rfl⟩ hcall | exact absurd ⟨_, _, _, rfl⟩ hbs | exact absurd ⟨_, _, rfl⟩ hnx | skip
  all_goals simp only [aop, hq, hq2, he]
  all_goals simp only [Op.operands, List.mem_cons, List.not_mem_nil, or_false, forall_eq_or_imp, forall_eq] at hA
  all_goals first
    | rfl
    | rw [hA]
    | (obtain ⟨h1, h2⟩ := hA; rw [h1, h2])
    | (obtain ⟨h1, h2, h3⟩ := hA; rw [h1, h2, h3])
theorem exec1_congr {n : Nat} {env env' : Env} {h : Heap} {o : Op} {K : KV} (hA : Agree env env' o) : exec1 P S n o env' h K = exec1 P S n o env h K := by
  cases n with
  | zero => unfold exec1; rfl
  | succ n =>
    unfold exec1
    split
    · rename_i x args ts
      have h1 : ev env' x = ev env x := hA x (by simp [Op.operands, Call.operands])
      have h2 : evs env' args.toList = evs env args.toList := evs_congr (fun y hy => hA y (by simp [Op.operands, Call.operands]; right; simpa using hy))
      rw [h1, h2]
    · exact aop_congr hA
end
end Go.AM

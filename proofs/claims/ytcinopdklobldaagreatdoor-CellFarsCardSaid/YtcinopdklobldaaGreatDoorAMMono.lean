import Derived.Test.YtcinopdklobldaaGreatDoorAMSound
/- 'exec' asks no more of a weaker end; an operation looks at its operands alone. -/
namespace Go.AM
open Go
section
variable {P : Program} {S : Sums}

def SpecMono (S : Sums) : Prop := ∀ f sp, S.spec f = some sp → ∀ args h (K K' : KV), (∀ v h, K v h → K' v h) → sp args h K → sp args h K'

theorem ite_mono {c : Prop} [Decidable c] {A A' B B' : Prop} (h1 : A → A') (h2 : B → B') : (if c then A else B) → (if c then A' else B') := by
  intro h
  by_cases hc : c
  · rw [if_pos hc] at h ⊢; exact h1 h
  · rw [if_neg hc] at h ⊢; exact h2 h
theorem kOR_mono {r : OR} {K K' : AV → Prop} (h : ∀ v, K v → K' v) (hk : kOR r K) : kOR r K' := by
  cases r with
  | fail => exact hk
  | ok v => exact h _ hk
  | iff p v => exact ⟨hk.1, h _ hk.2⟩
theorem splitIx_mono {i : Int} {K K' : Nat → Prop} (h : ∀ q, K q → K' q) : ∀ {n : Nat}, splitIx i K n → splitIx i K' n
  | 0, _ => trivial
  | _ + 1, hs => ⟨splitIx_mono h hs.1, fun e => h _ (hs.2 e)⟩
theorem storeE_mono {t b z idx sub : Nat} {h : Heap} {p : PV} {K K' : Heap → Prop} (hK : ∀ h, K h → K' h) (hk : storeE P t h b z idx sub p K) : storeE P t h b z idx sub p K' := by
  unfold storeE at hk ⊢
  repeat' (split at hk)
  all_goals first
    | exact hk.elim
    | (refine ite_mono ?_ (fun h => h) (by assumption))
    | skip
  all_goals simp_all
theorem mapV_mono {t : Nat} {r : Option Operand} {h : Heap} {K K' : KV} (hK : ∀ v h, K v h → K' v h) (hk : mapV P t r h K) : mapV P t r h K' := by
  unfold mapV at hk ⊢
  repeat' (split at hk)
  all_goals first
    | exact hk.elim
    | skip
  all_goals simp_all
theorem putV_mono {t : Nat} {m k v : AV} {h : Heap} {K K' : KV} (hK : ∀ v h, K v h → K' v h) (hk : putV P t m k v h K) : putV P t m k v h K' := by
  unfold putV at hk ⊢
  repeat' (split at hk)
  all_goals first
    | exact hk.elim
    | skip
  all_goals simp_all
theorem sliceV_mono {t n : Nat} {ps : Option (List (Nat × PV))} {h : Heap} {K K' : KV} (hK : ∀ v h, K v h → K' v h) (hk : sliceV P t n ps h K) : sliceV P t n ps h K' := by
  unfold sliceV at hk ⊢
  repeat' (split at hk)
  all_goals first
    | exact hk.elim
    | skip
  all_goals simp_all
theorem appV_mono {env : Env} {args : List Operand} {ts : List Nat} {h : Heap} {K K' : KV} (hK : ∀ v h, K v h → K' v h) (hk : appV P env args ts h K) : appV P env args ts h K' := by
  unfold appV at hk ⊢
  repeat' (split at hk)
  all_goals first
    | exact hk.elim
    | skip
  all_goals simp_all
theorem copyX_mono {ts : List Nat} {l : List AV} {h : Heap} {K K' : KV} (hK : ∀ v h, K v h → K' v h) (hk : copyX P ts l h K) : copyX P ts l h K' := by
  unfold copyX at hk ⊢
  split at hk
  · split at hk
    · split at hk
      · split at hk
        · split at hk
          · rename_i hkn
            rw [if_pos hkn]
            split at hk
            · split at hk
              · split at hk
                · exact hK _ _ hk
                · exact hk
              · exact hk
            · exact hK _ _ hk
            · exact hk
          · exact hk.elim
        · exact hk
      · exact hk
    · exact hk
  · exact hk
theorem aop1_mono {h : Heap} {o : Op} {l : List AV} {K K' : KV} (hK : ∀ v h, K v h → K' v h) (hk : aop1 P h o l K) : aop1 P h o l K' := by
  unfold aop1 at hk ⊢
  split at hk
  · unfold makeX at hk ⊢
    split at hk
    · split at hk
      · split at hk
        · rename_i hc; rw [if_pos hc]; exact hK _ _ hk
        · exact hk.elim
      · exact hk
    · exact hk
  · exact copyX_mono hK hk
  · exact hk
theorem aop_mono {env : Env} {h : Heap} {o : Op} {K K' : KV} (hK : ∀ v h, K v h → K' v h) (hk : aop P env h o K) : aop P env h o K' := by
  have hq : ∀ {r : OR}, kOR r (fun v => K v h) → kOR r (fun v => K' v h) := fun hr => kOR_mono (fun v hv => hK _ _ hv) hr
  unfold aop at hk ⊢
  split at hk
  · split at hk
    · exact hK _ _ hk
    · exact hk
  · split at hk
    · split at hk
      · rename_i hkn; rw [if_pos hkn]; exact hK _ _ hk
      · exact hk.elim
    · exact hk
  · split at hk
    · split at hk
      · exact hK _ _ hk
      · exact hk
    · exact storeE_mono (fun h' hh => hK _ _ hh) hk
    · exact hk
  · exact mapV_mono hK hk
  · exact putV_mono hK hk
  · exact putV_mono hK hk
  · exact sliceV_mono hK hk
  · exact appV_mono hK hk
  · split at hk
    · split at hk
      · exact ⟨hk.1, splitIx_mono (fun q hq => hK _ _ hq) hk.2⟩
      · exact hk
    · split at hk
      · rename_i hz; rw [if_pos hz]; exact ⟨hk.1, splitIx_mono (fun q hq => hK _ _ hq) hk.2⟩
      · exact hk.elim
    · exact hq hk
  · split at hk
    · split at hk
      · refine ⟨hk.1, splitIx_mono (fun q hq => ?_) hk.2⟩
        split at hq
        · exact hK _ _ hq
        · exact hq
      · exact hk
    · exact hq hk
  · split at hk
    · exact ⟨fun hb => hK _ _ (hk.1 hb), fun hb => hK _ _ (hk.2 hb)⟩
    · exact hq hk
  · split at hk
    · rename_i hc; rw [if_pos hc]; exact aop1_mono hK hk
    · rename_i hc; rw [if_neg hc]; exact hq hk

theorem goQ_mono {h : Heap} {o : Oper} {env : Env} {N N' : Env → Prop} (hN : ∀ e, N e → N' e) (hg : goQ P S h o env N) : goQ P S h o env N' := by
  unfold goQ at hg ⊢
  split at hg
  · split at hg
    · split at hg
      · exact kOR_mono (fun v hv => hN _ hv) hg
      · exact hg.elim
    · exact hg.elim
  · exact kOR_mono (fun v hv => hN _ hv) hg
theorem execQ_mono {ops : List Oper} {h : Heap} {K K' : Env → Prop} (hK : ∀ e, K e → K' e) : ∀ {l : List Oper} {env : Env}, execQ P S ops l env h K → execQ P S ops l env h K'
  | [], env, hx => hK env hx
  | o :: l, env, hx => by
    rw [execQ_cons] at hx ⊢
    have ih : ∀ e, execQ P S ops l e h K → execQ P S ops l e h K' := fun e he => execQ_mono hK he
    split at hx
    · exact goQ_mono ih hx
    · exact ih _ hx
    · exact S.on.mono hx (ite_mono (goQ_mono ih) (ih _)) (ite_mono (ih _) (goQ_mono ih))
    · exact hx
theorem kRes_mono {n : Nat} {fn : Func} {env : Env} {h : Heap} {K K' : KV} (hK : ∀ v h, K v h → K' v h) (hk : kRes P n fn env h K) : kRes P n fn env h K' := by
  unfold kRes at hk ⊢
  split at hk
  · exact hK _ _ hk
  · exact hk

theorem allR_mono {f g : Nat → Prop} (h : ∀ j, f j → g j) : ∀ {l : List Nat}, allR l f → allR l g
  | [], _ => trivial
  | [_], hx => h _ hx
  | _ :: _ :: _, hx => ⟨h _ hx.1, allR_mono h hx.2⟩
theorem all_mono (hM : SpecMono S) : ∀ n, (∀ A c env h (K K' : KE), (∀ e env h, K e env h → K' e env h) → exec P S A n c env h K → exec P S A n c env h K') ∧
    (∀ A ops l env h (K K' : Env → Heap → Prop), (∀ env h, K env h → K' env h) → execOps P S A n ops l env h K → execOps P S A n ops l env h K') ∧
    (∀ ops L env h (K K' : Env → Heap → Prop), (∀ env h, K env h → K' env h) → runPlan P S n ops L env h K → runPlan P S n ops L env h K') ∧
    (∀ op env h (K K' : KV), (∀ v h, K v h → K' v h) → exec1 P S n op env h K → exec1 P S n op env h K')
  | 0 => ⟨fun _ _ _ _ _ _ _ hx => by unfold exec at hx; exact hx.elim, fun _ _ _ _ _ _ _ _ hx => by unfold execOps at hx; exact hx.elim, fun _ _ _ _ _ _ _ hx => by unfold runPlan at hx; exact hx.elim, fun _ _ _ _ _ _ hx => by unfold exec1 at hx; exact hx.elim⟩
  | n + 1 => by
    obtain ⟨hE, hO, hR, h1⟩ := all_mono hM n
    refine ⟨?_, ?_, ?_, ?_⟩
    · intro A c env h K K' hK hx
      cases c with
      | skip => exact hK _ _ _ hx
      | label _ => exact hK _ _ _ hx
      | exit _ => exact hK _ _ _ hx
      | ret => exact hK _ _ _ hx
      | goto _ => exact hx
      | refuse _ => exact hx
      | rangeFunc _ _ _ _ => exact hx
      | scope _ => exact hx
      | seq a b =>
        unfold exec at hx ⊢
        simp only at hx ⊢
        split at hx
        · rename_i hA
          refine hE _ _ _ _ _ _ ?_ hx
          intro e env h hk
          cases e with
          | normal => exact hE _ _ _ _ _ _ hK hk
          | exit _ => exact hK _ _ _ hk
          | ret => exact hK _ _ _ hk
        · refine ⟨hE _ _ _ _ _ _ ?_ hx.1, fun x => hE _ _ _ _ _ _ hK (hx.2 x)⟩
          intro e env h hk
          cases e with
          | normal => exact hk
          | exit _ => exact hK _ _ _ hk
          | ret => exact hK _ _ _ hk
      | cond c t e =>
        unfold exec at hx ⊢
        simp only at hx ⊢
        split at hx
        · exact hE _ _ _ _ _ _ hK hx
        · exact hE _ _ _ _ _ _ hK hx
        · exact S.on.mono hx (hE _ _ _ _ _ _ hK) (hE _ _ _ _ _ _ hK)
        · exact hx.elim
      | block id body =>
        unfold exec at hx ⊢
        refine hE _ _ _ _ _ _ ?_ hx
        intro e env h hk
        cases e with
        | normal => exact hK _ _ _ hk
        | ret => exact hK _ _ _ hk
        | exit i =>
          simp only at hk ⊢
          split at hk
          · rename_i e; rw [if_pos e]; exact hK _ _ _ hk
          · rename_i e; rw [if_neg e]; exact hK _ _ _ hk
      | loop body =>
        unfold exec at hx ⊢
        simp only [forceE_eq, forceH_eq] at hx ⊢
        split at hx
        · refine hE _ _ _ _ _ _ ?_ hx
          intro e env h hk
          cases e with
          | normal => exact hE _ _ _ _ _ _ hK hk
          | exit _ => exact hK _ _ _ hk
          | ret => exact hK _ _ _ hk
        · refine ⟨hx.1, fun x => hE _ _ _ _ _ _ ?_ (hx.2 x)⟩
          intro e env h hk
          cases e with
          | normal => exact hk
          | exit _ => exact hK _ _ _ hk
          | ret => exact hK _ _ _ hk
      | region id ops draw =>
        unfold exec at hx ⊢
        simp only [forceE_eq, forceH_eq] at hx ⊢
        exact ite_mono (ite_mono (execQ_mono (fun e he => hK _ _ _ he)) (ite_mono (execQ_mono (fun e he => hO _ _ _ _ _ _ _ (fun _ _ hk => hK _ _ _ hk) he)) (ite_mono (hR _ _ _ _ _ _ (fun _ _ hk => hK _ _ _ hk)) (fun h => h))))
          (hO _ _ _ _ _ _ _ (fun _ _ hk => hK _ _ _ hk)) hx
    · intro A ops l env h K K' hK hx
      cases l with
      | nil => unfold execOps at hx ⊢; exact hK _ _ hx
      | cons o l =>
        unfold execOps at hx ⊢
        split at hx
        · exact h1 _ _ _ _ _ (fun v h hk => hO _ _ _ _ _ _ _ hK hk) hx
        · exact hO _ _ _ _ _ _ _ hK hx
        · exact S.on.mono hx (hO _ _ _ _ _ _ _ hK) (hO _ _ _ _ _ _ _ hK)
        · exact hx
    · intro ops L env h K K' hK hx
      unfold runPlan at hx ⊢
      split at hx
      · exact hK _ _ hx
      · split at hx
        · split at hx
          · exact ite_mono (hR _ _ _ _ _ _ hK) (fun h => h) hx
          · split at hx
            · exact kOR_mono (fun v hk => hR _ _ _ _ _ _ hK hk) hx
            · exact hx
        · refine allR_mono (fun j hj => ?_) hx
          split at hj
          · split at hj
            · exact h1 _ _ _ _ _ (fun v h hk => hR _ _ _ _ _ _ hK hk) hj
            · exact hj.elim
          · exact hj.elim
    · intro op env h K K' hK hx
      unfold exec1 at hx ⊢
      split at hx
      · split at hx
        · split at hx
          · exact kOR_mono (fun v hv => hK _ _ hv) hx
          · split at hx
            · rename_i hsp; exact hM _ _ hsp _ _ _ _ hK hx
            · split at hx
              · exact kOR_mono (fun v hv => hK _ _ hv) hx
              · split at hx
                · split at hx
                  · refine hE _ _ _ _ _ _ ?_ hx
                    intro e env h hk
                    cases e with
                    | normal => exact kRes_mono hK hk
                    | exit _ => exact hk
                    | ret => exact kRes_mono hK hk
                  · exact hx
                · exact hx
        · exact hx.elim
      · exact aop_mono hK hx

/- an operation looks at its operands alone -/
def Agree (env env' : Env) (o : Op) : Prop := ∀ x ∈ o.operands.toList, ev env' x = ev env x
theorem evs_congr {env env' : Env} : ∀ {l : List Operand}, (∀ x ∈ l, ev env' x = ev env x) → evs env' l = evs env l
  | [], _ => rfl
  | x :: l, h => by simp only [evs]; rw [h x (by simp), evs_congr (fun y hy => h y (by simp [hy]))]
theorem evParts_congr {env env' : Env} : ∀ {l : List (Nat × Operand)}, (∀ x ∈ l.map (·.2), ev env' x = ev env x) → evParts env' l = evParts env l
  | [], _ => rfl
  | (i, x) :: l, h => by simp only [evParts]; rw [h x (by simp), evParts_congr (fun y hy => h y (by simp only [List.map_cons, List.mem_cons]; exact .inr hy))]
theorem caps_congr {env env' : Env} : ∀ {l : List Operand}, (∀ x ∈ l, ev env' x = ev env x) → caps env' l = caps env l
  | [], _ => rfl
  | x :: l, h => by simp only [caps]; rw [h x (by simp), caps_congr (fun y hy => h y (by simp [hy]))]
theorem lenV_congr {env env' : Env} {l : List Operand} {ts : List Nat} (hA : ∀ x ∈ l, ev env' x = ev env x) : lenV P env' l ts = lenV P env l ts := by
  unfold lenV
  split
  · rw [hA _ (by simp)]
  · rfl
theorem appV_congr {env env' : Env} {l : List Operand} {ts : List Nat} {h : Heap} {K : KV} (hA : ∀ x ∈ l, ev env' x = ev env x) : appV P env' l ts h K = appV P env l ts h K := by
  unfold appV
  split
  · rw [hA _ (by simp), hA _ (by simp)]
  · rfl
theorem qop0_congr {env env' : Env} {h : Heap} {o : Op} (hA : Agree env env' o) : qop0 P env' h o = qop0 P env h o := by
  unfold Agree at hA
  cases o <;> simp only [qop0, Op.operands] at hA ⊢
  case build t parts => rw [evParts_congr (by simpa using hA)]
  case makeFunc f first cap =>
    cases f <;> simp only
    rw [caps_congr (fun x hx => hA x (by simp at hx ⊢; exact .inr hx))]
  case call c =>
    split <;> first | (rename_i heq; cases heq; done) | skip
    · rename_i args ts heq
      injection heq with heq
      subst heq
      exact lenV_congr (fun x hx => hA x (by simp [Call.operands]; simpa using hx))
    · rfl
  all_goals (try rfl)
  all_goals simp only [List.mem_cons, List.not_mem_nil, or_false, forall_eq_or_imp, forall_eq] at hA
  all_goals first
    | rw [hA]
    | (obtain ⟨h1, h2⟩ := hA; rw [h1, h2])
    | (obtain ⟨h1, h2, h3⟩ := hA; rw [h1, h2, h3])
    | (obtain ⟨h1, _⟩ := hA; rw [h1])
theorem qop_congr {env env' : Env} {h : Heap} {o : Op} (hA : Agree env env' o) : qop P env' h o = qop P env h o := by
  unfold qop
  rw [qop0_congr hA, evs_congr hA]
theorem qopE_congr {env env' : Env} {h : Heap} {o : Op} (hA : Agree env env' o) : qopE P env' h o = qopE P env h o := by
  unfold qopE
  rw [qop_congr hA, evs_congr hA]
theorem aop_congr {env env' : Env} {h : Heap} {o : Op} {K : KV} (hA : Agree env env' o) : aop P env' h o K = aop P env h o K := by
  have hq := qop_congr (P := P) (h := h) hA
  have he := evs_congr hA
  have hq2 := qopE_congr (P := P) (h := h) hA
  unfold Agree at hA
  by_cases hcall : ∃ c, o = .call c
  · obtain ⟨c, rfl⟩ := hcall
    unfold aop
    split <;> first | (rename_i heq; cases heq; done) | skip
    · rename_i args ts heq
      injection heq with heq
      subst heq
      exact appV_congr (fun x hx => hA x (by simp [Op.operands, Call.operands]; simpa using hx))
    · rw [hq2, he]
  by_cases hbs : ∃ t n ps, o = .buildSlice t n ps
  · obtain ⟨t, n, ps, rfl⟩ := hbs
    simp only [aop]
    rw [evParts_congr (fun x hx => hA x (by simpa [Op.operands] using hx))]
  cases o <;> first | exact absurd ⟨_, rfl⟩ hcall | exact absurd ⟨_, _, _, rfl⟩ hbs | skip
  all_goals simp only [aop, hq, hq2, he]
  all_goals simp only [Op.operands, List.mem_cons, List.not_mem_nil, or_false, forall_eq_or_imp, forall_eq] at hA
  all_goals first
    | rfl
    | rw [hA]
    | (obtain ⟨h1, h2⟩ := hA; rw [h1, h2])
    | (obtain ⟨h1, h2, h3⟩ := hA; rw [h1, h2, h3])
theorem exec1_congr {n : Nat} {env env' : Env} {h : Heap} {o : Op} {K : KV} (hA : Agree env env' o) : exec1 P S n o env' h K = exec1 P S n o env h K := by
  cases n with
  | zero => unfold exec1; rfl
  | succ n =>
    unfold exec1
    split
    · rename_i x args ts
      have h1 : ev env' x = ev env x := hA x (by simp [Op.operands, Call.operands])
      have h2 : evs env' args.toList = evs env args.toList := evs_congr (fun y hy => hA y (by simp [Op.operands, Call.operands]; right; simpa using hy))
      rw [h1, h2]
    · exact aop_congr hA
end
end Go.AM

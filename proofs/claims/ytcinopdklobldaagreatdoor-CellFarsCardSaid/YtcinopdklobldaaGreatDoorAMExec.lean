import Derived.Test.YtcinopdklobldaaGreatDoorAMPlan
import Derived.Deep.LoopGhost
/- The main theorem: what 'exec' says of a piece of code holds of its runs. -/
namespace Go.AM
open Go
section
variable {P : Program} {S : Sums}

/-- what follows a piece of code, in the abstract machine's terms -/
def After (A : Annos) (w0 : World) (Sx : Nat → Prop) (pl : List Pl) (K : KE) (Q : Exit → Act → World → Prop) : Prop :=
  ∀ ex env' h' pl' a' w', K ex env' h' → EnvR pl' env' a'.tmps → a'.defers = [] → PE A pl pl' → HRel w0 Sx pl' h' w' → Q ex.to a' w'
def AfterO (A : Annos) (w0 : World) (Sx : Nat → Prop) (pl : List Pl) (K : Env → Heap → Prop) (Q : Act → World → Prop) : Prop :=
  ∀ env' h' pl' a' w', K env' h' → EnvR pl' env' a'.tmps → a'.defers = [] → PE A pl pl' → HRel w0 Sx pl' h' w' → Q a' w'

def ExecOk (P : Program) (S : Sums) (n : Nat) : Prop := ∀ (A : Annos) c env h K pl w0 Sx a w Q, exec P S A n c env h K → EnvR pl env a.tmps → a.defers = [] → A.q ≤ pl.length → HRel w0 Sx pl h w → After A w0 Sx pl K Q → c.wp P Q a w
def OpsOk (P : Program) (S : Sums) (n : Nat) : Prop := ∀ (A : Annos) (ops : Array Oper) l env h K pl w0 Sx a w Q, execOps P S A n ops.toList l env h K → EnvR pl env a.tmps → a.defers = [] → A.q ≤ pl.length → HRel w0 Sx pl h w → AfterO A w0 Sx pl K (Q .normal) → wpList P ops Q l a w
def Op1Ok (P : Program) (S : Sums) (n : Nat) : Prop := ∀ (o : Oper) env h K pl w0 Sx a w next Q, exec1 P S n o.op env h K → EnvR pl env a.tmps → HRel w0 Sx pl h w →
  (∀ v av h' pl' w', K av h' → av.R pl' v → PExt pl pl' → HRel w0 Sx pl' h' w' → next (a.put o.dst v) w') → o.wp P a w next Q

theorem After.to_pe {A : Annos} {w0 : World} {Sx : Nat → Prop} {pl pl' : List Pl} {K : KE} {Q : Exit → Act → World → Prop} (h : After A w0 Sx pl K Q) (hp : PE A pl pl') : After A w0 Sx pl' K Q :=
  fun ex env' h' pl'' a' w' hk hE hd hpe hR => h ex env' h' pl'' a' w' hk hE hd (hp.trans hpe) hR
theorem AfterO.to_pe {A : Annos} {w0 : World} {Sx : Nat → Prop} {pl pl' : List Pl} {K : Env → Heap → Prop} {Q : Act → World → Prop} (h : AfterO A w0 Sx pl K Q) (hp : PE A pl pl') : AfterO A w0 Sx pl' K Q :=
  fun env' h' pl'' a' w' hk hE hd hpe hR => h env' h' pl'' a' w' hk hE hd (hp.trans hpe) hR

theorem calls_wp {f : Nat} {vals : Array Value} {o : Oper} {a : Act} {w : World} {next : Act → World → Prop} {Q : Exit → Act → World → Prop} (hr : (execOp a.eval o).run P w = .ok (.enter f vals) w) (hc : Calls P f vals w (fun e w' => ∃ v, e = .returned v ∧ next (a.put o.dst v) w')) : o.wp P a w next Q := by
  unfold Oper.wp
  rw [hr]
  refine hc.mono fun e w' ⟨v, he, hn⟩ => ?_
  subst he
  exact hn

theorem PE.ext {A : Annos} {pl pl' : List Pl} (h : PE A pl pl') (hq : A.q = pl.length ∨ A.plain) : PExt pl pl' := by
  rcases hq with hq | hq
  · intro b p hb
    rw [h.2 b (by rw [hq]; exact (List.getElem?_eq_some_iff.1 hb).1)]
    exact hb
  · exact h.1 hq
theorem annOf_q (S : Sums) (f : Nat) {n m : Nat} (h : n = m) : (S.annOf f n).q = m ∨ S.annOf f n = noAnn := by
  unfold Sums.annOf
  split
  · exact .inl h
  · exact .inr rfl
theorem op1_ok (hF : Fine P) (hP : PureOk P S) (hS : SpecOk P S) {n : Nat} (hX : ExecOk P S n) : Op1Ok P S (n + 1) := by
  intro o env h K pl w0 Sx a w next Q hx hE hR hN
  unfold exec1 at hx
  split at hx
  · rename_i x args ts ho
    have hx' := hE.ev (a := a) x
    split at hx
    · rename_i f cap he
      rw [he] at hx'
      obtain ⟨vs, hvs, hfx⟩ := fn_R hx'
      have hargs : ArgsR pl (app (evs env args.toList) (capArgs cap)) ((args.map a.eval ++ vs.toArray).toList) := by
        rw [app_eq, Array.toList_append, Array.toList_map]
        exact (evs_R hE _).append (capArgs_R hvs)
      split at hx
      · rename_i p hp
        obtain ⟨av, g1, g2⟩ := gives_kOR hx
        obtain ⟨⟨fn, hf, hb⟩, hpure⟩ := hP f p hp
        obtain ⟨v, hv⟩ := hpure _ av g1 w0 Sx pl h _ hargs
        have hvw := hv w hR
        rw [Array.toArray_toList] at hvw
        exact calls_wp (call_run hF hf hb ho hfx w) (hvw.2.mono fun e w' ⟨he, hR'⟩ => ⟨v, he, hN _ _ _ _ _ g2 hvw.1 (PExt.refl pl) hR'⟩)
      · split at hx
        · rename_i sp hsp
          obtain ⟨⟨fn, hf, hb⟩, hspec⟩ := hS.1 f sp hsp
          have hc := hspec _ _ _ hx w0 Sx pl w _ hR hargs
          rw [Array.toArray_toList] at hc
          exact calls_wp (call_run hF hf hb ho hfx w) (hc.mono fun e w' ⟨v, av, h', pl', he, hv, hp, hR', hk⟩ => ⟨v, he, hN _ _ _ _ _ hk hv hp hR'⟩)
        · split at hx
          · rename_i p hp
            obtain ⟨av, g1, g2⟩ := gives_kOR hx
            obtain ⟨v, hv, hrun⟩ := hS.2.1 f p hp _ av g1 pl _ hargs
            rw [Array.toArray_toList] at hrun
            exact wp_of_run (by rw [call_run0 ho hfx w]; exact hrun w) (hN v av h pl w g2 hv (PExt.refl pl) hR)
          split at hx
          · rename_i fn hf
            split at hx
            · rename_i c hb
              have henter : (execOp a.eval o).run P w = .ok (.enter (match S.twin f with | some g => g | none => f) (args.map a.eval ++ vs.toArray)) w := by
                cases htw : S.twin f with
                | some g => rw [call_run0 ho hfx w]; exact hS.2.2 f g htw _ w
                | none => rw [htw] at hf; exact call_run hF hf (by rw [hb]; rfl) ho hfx w
              refine calls_wp henter ?_
              have hent := enter_R hargs fn.ntmps
              rw [Array.toArray_toList] at hent
              have hq2 := annOf_q S f (show len' h = pl.length by rw [hR.len]; exact len'_eq h)
              refine calls_of_wp hf hb (hX (S.annOf f (len' h)) c _ h _ pl w0 Sx _ w _ hx hent rfl (by rcases hq2 with h | h; exact Nat.le_of_eq h; rw [h]; exact Nat.zero_le _) hR ?_)
              intro ex env' h' pl' a' w' hk hE' hd' hpe hR'
              have hpx : PExt pl pl' := hpe.ext (hq2.imp id fun h => by rw [h]; exact fun k => ⟨fun _ _ => rfl, rfl⟩)
              have done : kRes P (len' h) fn env' h' K → ∃ v, (results fn a'.tmps).run P w' = .ok v w' ∧ next (a.put o.dst v) w' := fun hk => by
                unfold kRes at hk
                split at hk
                · rename_i av hav
                  obtain ⟨v, g1, g2⟩ := res_sound hE' hR'.hb hav
                  obtain ⟨pl2, k1, k2, k3⟩ := trim_sound hR.len hpx hR' g1
                  exact ⟨v, g2, hN _ _ _ _ _ hk k3 k1 k2⟩
                · exact hk.elim
              cases ex with
              | normal => obtain ⟨v, g1, g2⟩ := done hk; exact ⟨hd', v, g1, v, rfl, g2⟩
              | ret => obtain ⟨v, g1, g2⟩ := done hk; exact ⟨hd', v, g1, v, rfl, g2⟩
              | exit id => exact hk.elim
            · exact hx.elim
          · exact hx.elim
    · exact hx.elim
  · exact aop_sound hE hR o hx hN

theorem ops_ok {n : Nat} (hO : OpsOk P S n) (h1 : Op1Ok P S n) : OpsOk P S (n + 1) := by
  intro A ops l env h K pl w0 Sx a w Q hx hE hd hq hR hQ
  cases l with
  | nil =>
    unfold execOps at hx
    exact wpList_nil (hQ env h pl a w hx hE hd (PE.refl A pl) hR)
  | cons o l =>
    unfold execOps at hx
    have hgs := guard_spec hE ops o
    split at hx <;> rename_i hgv <;> rw [hgv] at hgs
    · unfold wpList
      rw [if_pos hgs]
      refine .inl (h1 o env h _ pl w0 Sx a w _ Q hx hE hR ?_)
      intro v av h' pl' w' hk hv hp hR'
      have hpe := PE.of_ext hq hp
      exact hO A ops l _ h' K pl' w0 Sx _ w' Q hk ((hE.ext hp).put o.dst hv) ((put_defers _ _ _).trans hd) (hpe.len hq) hR' (hQ.to_pe hpe)
    · unfold wpList
      rw [if_neg (by simp [hgs])]
      exact hO A ops l _ h K pl w0 Sx _ w Q hx (hE.put o.dst (undef_R pl)) ((put_defers _ _ _).trans hd) hq hR hQ
    · rename_i b d
      have hx := (S.on.h _ _ _).1 hx
      obtain ⟨_, hv⟩ := hgs
      cases b with
      | true => exact hO A ops (o :: l) _ h K pl w0 Sx a w Q (hx.1 rfl) (hE.same d (av := mkB true true) (by rw [hv]; exact mkB_R pl true true)) hd hq hR hQ
      | false => exact hO A ops (o :: l) _ h K pl w0 Sx a w Q (hx.2 rfl) (hE.same d (av := mkB true false) (by rw [hv]; exact mkB_R pl true false)) hd hq hR hQ
    · exact hx.elim

theorem HRel.drew {w0 : World} {Sx : Nat → Prop} {pl : List Pl} {h : Heap} {w : World} (hR : HRel w0 Sx pl h w) : HRel w0 Sx pl h { w with drawn := w.drawn + 1 } :=
  ⟨hR.len, ⟨hR.fr.os, hR.fr.tape, hR.fr.output, hR.fr.size, hR.fr.block⟩, fun b x p hx hp => by
    have := hR.hb b x p hx hp
    exact this.mono (PExt.refl pl) (fun _ => rfl), hR.lt, hR.own, hR.inj⟩

/-- a loop that stands ahead of its body -/
def LoopW (P : Program) (c : Code) (Q : Exit → Act → World → Prop) (a : Act) (w : World) : Prop :=
  ∀ b k cs, ∃ e a' w', Q e a' w' ∧ Arrives P (lone (b.at a (.code c :: .inLoop c :: k)) cs w) b k cs e a' w'
theorem LoopW.wp {c : Code} {Q : Exit → Act → World → Prop} {a : Act} {w : World} (h : LoopW P c Q a w) : (Code.loop c).wp P Q a w := by
  intro b k cs
  obtain ⟨e, a', w', hq, harr⟩ := h b k cs
  exact ⟨e, a', w', hq, .of_steps (.one step_loop) harr⟩
theorem LoopW.step {c : Code} {Q : Exit → Act → World → Prop} {a : Act} {w : World} (h : c.wp P (Exit.then (LoopW P c Q) Q) a w) : LoopW P c Q a w := by
  intro b k cs
  obtain ⟨e, a₁, w₁, hq, harr⟩ := h b (.inLoop c :: k) cs
  cases e with
  | normal =>
    obtain ⟨e₂, a₂, w₂, hq₂, harr₂⟩ := hq b k cs
    exact ⟨e₂, a₂, w₂, hq₂, .of_steps (Steps.trans harr (.one step_inLoop)) harr₂⟩
  | exit id => exact ⟨_, a₁, w₁, hq, .pass (x := .inLoop c) rfl (fun _ _ => .inl (by simp)) harr⟩
  | goto l => exact ⟨_, a₁, w₁, hq, .pass (x := .inLoop c) rfl (fun _ _ => .inl (by simp)) harr⟩
  | ret => exact ⟨_, a₁, w₁, hq, .pass (x := .inLoop c) rfl (fun _ _ => .inl (by simp)) harr⟩
  | panic ch => exact ⟨_, a₁, w₁, hq, .pass (x := .inLoop c) rfl (fun _ _ => .inl (by simp)) harr⟩
  | outgrown => exact ⟨_, a₁, w₁, hq, .pass (x := .inLoop c) rfl (fun _ _ => .inl (by simp)) harr⟩
theorem LoopW.ghost {c : Code} {Q : Exit → Act → World → Prop} (I : Nat → Act → World → Prop)
    (round : ∀ n a w, I n a w → c.wp P (Exit.then (fun a' w' => ∃ n', n' < n ∧ I n' a' w') Q) a w) : ∀ n a w, I n a w → LoopW P c Q a w := by
  intro n
  induction n using Nat.strongRecOn with
  | ind n ih =>
    intro a w hI
    refine LoopW.step (Code.wp_mono ?_ (round n a w hI))
    intro e a' w' hq
    cases e with
    | normal => obtain ⟨n', hlt, hI'⟩ := hq; exact ih n' hlt a' w' hI'
    | _ => exact hq
theorem exec_ok (hF : Fine P) (hP : PureOk P S) (hM : SpecMono S) {n : Nat} (hall : ∀ m, m ≤ n → ExecOk P S m) (hO : OpsOk P S n) (h1 : OpsSound P S n) : ExecOk P S (n + 1) := by
  have hX := hall n (Nat.le_refl n)
  intro A c env h K pl w0 Sx a w Q hx hE hd hq hR hQ
  cases c with
  | skip => exact wp_skip (hQ .normal env h pl a w hx hE hd (PE.refl A pl) hR)
  | label l => exact wp_label (hQ .normal env h pl a w hx hE hd (PE.refl A pl) hR)
  | exit id => exact wp_exit (hQ (.exit id) env h pl a w hx hE hd (PE.refl A pl) hR)
  | ret => exact wp_ret (hQ .ret env h pl a w hx hE hd (PE.refl A pl) hR)
  | goto l => exact hx.elim
  | refuse s => exact hx.elim
  | rangeFunc _ _ _ _ => exact hx.elim
  | scope b => exact hx.elim
  | seq x y =>
    unfold exec at hx
    simp only at hx
    refine wp_seq ?_
    split at hx
    · refine hX A x env h _ pl w0 Sx a w _ hx hE hd hq hR ?_
      intro ex env' h' pl' a' w' hk hE' hd' hpe hR'
      cases ex with
      | normal => exact hX A y env' h' K pl' w0 Sx a' w' Q hk hE' hd' (hpe.len hq) hR' (hQ.to_pe hpe)
      | exit id => exact hQ (.exit id) env' h' pl' a' w' hk hE' hd' hpe hR'
      | ret => exact hQ .ret env' h' pl' a' w' hk hE' hd' hpe hR'
    · rename_i L hL
      refine hX A x env h _ pl w0 Sx a w _ hx.1 hE hd hq hR ?_
      intro ex env' h' pl' a' w' hk hE' hd' hpe hR'
      cases ex with
      | normal =>
        obtain ⟨z, hm⟩ := hk
        rw [MatchTo_eq] at hm
        obtain ⟨pl2, hR2, hE2, hp2⟩ := MatchBy_sound hm hR' hE' (hpe.len hq)
        have hpe2 : PE A pl pl2 := ⟨fun hpl => absurd hL (by rw [(hpl _).2]; simp), fun b hb => (hp2 b hb).trans (hpe.2 b hb)⟩
        exact hX A y _ _ K pl2 w0 Sx a' w' Q (hx.2 z) hE2 hd' (hpe2.len hq) hR2 (hQ.to_pe hpe2)
      | exit id => exact hQ (.exit id) env' h' pl' a' w' hk hE' hd' hpe hR'
      | ret => exact hQ .ret env' h' pl' a' w' hk hE' hd' hpe hR'
  | cond c x y =>
    unfold exec at hx
    simp only at hx
    have hc := hE.ev (a := a) c
    split at hx
    · rename_i he
      rw [he] at hc
      exact wp_cond_true (cb_R hc) (hX A x env h K pl w0 Sx a w Q hx hE hd hq hR hQ)
    · rename_i he
      rw [he] at hc
      exact wp_cond_false (cb_R hc) (hX A y env h K pl w0 Sx a w Q hx hE hd hq hR hQ)
    · rename_i b he
      rw [he] at hc
      have hx := (S.on.h _ _ _).1 hx
      exact wp_cond_split (sb_R hc) (fun hb => hX A x env h K pl w0 Sx a w Q (hx.1 hb) hE hd hq hR hQ) (fun hb => hX A y env h K pl w0 Sx a w Q (hx.2 hb) hE hd hq hR hQ)
    · exact hx.elim
  | block id body =>
    unfold exec at hx
    simp only at hx
    refine wp_block (hX A body env h _ pl w0 Sx a w _ hx hE hd hq hR ?_)
    intro ex env' h' pl' a' w' hk hE' hd' hpe hR'
    cases ex with
    | normal => exact hQ .normal env' h' pl' a' w' hk hE' hd' hpe hR'
    | ret => exact hQ .ret env' h' pl' a' w' hk hE' hd' hpe hR'
    | exit i =>
      simp only at hk
      show Exit.inBlock id Q (.exit i) a' w'
      unfold Exit.inBlock
      simp only
      split at hk
      · rename_i e; rw [if_pos e]; exact hQ .normal env' h' pl' a' w' hk hE' hd' hpe hR'
      · rename_i e; rw [if_neg e]; exact hQ (.exit i) env' h' pl' a' w' hk hE' hd' hpe hR'
  | loop body =>
    have key : ∀ m, m ≤ n + 1 → ∀ env h pl' a w, exec P S A m (.loop body) env h K → EnvR pl' env a.tmps → a.defers = [] → PE A pl pl' → HRel w0 Sx pl' h w → LoopW P body Q a w := by
      intro m
      induction m with
      | zero => intro _ env h pl' a w hx; unfold exec at hx; exact hx.elim
      | succ m ih =>
        intro hm env h pl' a w hx hE hd hpe hR
        unfold exec at hx
        simp only [forceE_eq, forceH_eq] at hx
        cases hA : A.loop (firstRegion body) env h with
        | none =>
          simp only [hA] at hx
          refine LoopW.step ?_
          refine hall m (by omega) A body env h _ pl' w0 Sx a w _ hx hE hd (hpe.len hq) hR ?_
          intro ex env' h' pl2 a' w' hk hE' hd' hpe' hR'
          cases ex with
          | normal => exact ih (by omega) env' h' pl2 a' w' hk hE' hd' (hpe.trans hpe') hR'
          | exit id => exact hQ (.exit id) env' h' pl2 a' w' hk hE' hd' (hpe.trans hpe') hR'
          | ret => exact hQ .ret env' h' pl2 a' w' hk hE' hd' (hpe.trans hpe') hR'
        | some L =>
          simp only [hA] at hx
          obtain ⟨⟨z, hm0⟩, hround⟩ := hx
          rw [MatchTo_eq] at hm0
          have hnp : ∀ {pl2 : List Pl}, (A.plain → PExt pl pl2) := fun hpl => absurd hA (by rw [(hpl _).1]; simp)
          obtain ⟨pl2, hR2, hE2, hp2⟩ := MatchBy_sound hm0 hR hE (hpe.len hq)
          refine LoopW.ghost (fun k a w => ∃ z pl', L.mu z = k ∧ EnvR pl' (L.inv z).1 a.tmps ∧ a.defers = [] ∧ PE A pl pl' ∧ HRel w0 Sx pl' (L.inv z).2 w) ?_ (L.mu z) a w ⟨z, pl2, rfl, hE2, hd, ⟨hnp, fun b hb => (hp2 b hb).trans (hpe.2 b hb)⟩, hR2⟩
          intro k a w ⟨z, pl', hmu, hE, hd, hpe, hR⟩
          refine hall m (by omega) A body _ _ _ pl' w0 Sx a w _ (hround z) hE hd (hpe.len hq) hR ?_
          intro ex env' h' pl3 a' w' hk hE' hd' hpe' hR'
          have hpe3 := hpe.trans hpe'
          cases ex with
          | normal =>
            obtain ⟨y, hlt, hm⟩ := hk
            rw [MatchTo_eq] at hm
            obtain ⟨pl4, hR4, hE4, hp4⟩ := MatchBy_sound hm hR' hE' (hpe3.len hq)
            exact ⟨L.mu y, by omega, y, pl4, rfl, hE4, hd', ⟨hnp, fun b hb => (hp4 b hb).trans (hpe3.2 b hb)⟩, hR4⟩
          | exit id => exact hQ (.exit id) env' h' pl3 a' w' hk hE' hd' hpe3 hR'
          | ret => exact hQ .ret env' h' pl3 a' w' hk hE' hd' hpe3 hR'
    exact (key (n + 1) (Nat.le_refl _) env h pl a w hx hE hd (PE.refl A pl) hR).wp
  | region id ops draw =>
    unfold exec at hx
    simp only [forceE_eq, forceH_eq] at hx
    cases draw with
    | false =>
      simp only [Bool.false_eq_true, if_false] at hx
      exact wp_region_list (hO A ops ops.toList env h _ pl w0 Sx a w Q hx hE hd hq hR (fun env' h' pl' a' w' hk hE' hd' hpe hR' => hQ .normal env' h' pl' a' w' hk hE' hd' hpe hR'))
    | true =>
      simp only [if_true] at hx
      split at hx
      · rename_i hlex
        rw [Bool.and_eq_true] at hlex
        refine wp_region_quiet (C := HRel w0 Sx pl h) hF.mixed hlex.1 hR.drew (execQ_sound hF hP ⟨w, hR⟩ ops.toList env a hx hE hd ?_)
        intro env' a' hk hE' hd' w' hR'
        exact hQ .normal env' h pl a' w' hk hE' hd' (PE.refl A pl) hR'
      · split at hx
        · rename_i hlex
          rw [takeN_eq, dropN_eq] at hx
          refine wp_region_quiet_tail (C := HRel w0 Sx pl h) _ hF.mixed hlex hR.drew (execQ_sound hF hP ⟨w, hR⟩ _ env a hx hE hd ?_)
          intro env' a' hk hE' hd' w' hR'
          exact hO A ops _ env' h _ pl w0 Sx a' w' Q hk hE' hd' hq hR' (fun env' h' pl' a' w' hk hE' hd' hpe hR' => hQ .normal env' h' pl' a' w' hk hE' hd' hpe hR')
        · split at hx
          · rename_i hap
            have hL0 : (Array.replicate ops.size false).size = ops.size := by simp
            have hleft : left ops (Array.replicate ops.size false) ≤ ops.size := Nat.le_trans List.countP_le_length (by simp)
            have hAA := plan_AA hM hap n (Nat.le_refl n) ops.size (Array.replicate ops.size false) env h hx (fun j oj _ hl => by rw [getD_replicate_false] at hl; cases hl) hL0 hleft
            refine wp_region_any hF.mixed (AA_sound h1 hap hq (Q := Q) (fun env' h' pl' a' w' hk hE' hd' hpe hR' => hQ .normal env' h' pl' a' w' hk hE' hd' hpe hR') _ _ _ _ _ _ hAA ⟨⟨pl, fun _ => 0, hE, hR.drew, PE.refl A pl, fun i hp => ?_, fun i i' hp => ?_⟩, hd, hL0⟩)
            · simp only [pendOf, getD_replicate_false, Bool.and_false, Bool.false_and, Bool.false_eq_true] at hp
            · simp only [pendOf, getD_replicate_false, Bool.and_false, Bool.false_and, Bool.false_eq_true] at hp
          · exact hx.elim

theorem all_ok (hF : Fine P) (hP : PureOk P S) (hS : SpecOk P S) (hM : SpecMono S) : ∀ n, (∀ m, m ≤ n → ExecOk P S m) ∧ OpsOk P S n ∧ OpsSound P S n
  | 0 => by
    refine ⟨fun m hm => ?_, ?_, ?_⟩
    · have : m = 0 := by omega
      subst this
      intro A c env h K pl w0 Sx a w Q hx
      unfold exec at hx
      exact hx.elim
    · intro A ops l env h K pl w0 Sx a w Q hx
      unfold execOps at hx
      exact hx.elim
    · intro m hm o env h K pl w0 Sx a w next Q hx
      have : m = 0 := by omega
      subst this
      unfold exec1 at hx
      exact hx.elim
  | n + 1 => by
    obtain ⟨h1, h2, h3⟩ := all_ok hF hP hS hM n
    refine ⟨fun m hm => ?_, ops_ok h2 (h3 n (Nat.le_refl n)), fun m hm => ?_⟩
    · by_cases e : m ≤ n
      · exact h1 m e
      · have : m = n + 1 := by omega
        subst this
        exact exec_ok hF hP hM h1 h2 h3
    · by_cases e : m ≤ n
      · exact h3 m e
      · have : m = n + 1 := by omega
        subst this
        exact op1_ok hF hP hS (h1 n (Nat.le_refl n))

/-- a call: what 'call' says of it holds -/
theorem call_sound (hF : Fine P) (hP : PureOk P S) (hS : SpecOk P S) (hM : SpecMono S) {f : Nat} {fn : Func} (hf : P.funcs[f]? = some fn) {A : Annos} {n : Nat} {args : List AV} {h : Heap} {K : KV} (hc : call P S A n fn args h K)
    (hq : A.q = h.length ∨ A = noAnn) {w0 : World} {Sx : Nat → Prop} {pl : List Pl} {w : World} {vals : List Value} (hR : HRel w0 Sx pl h w) (hargs : ArgsR pl args vals) :
    Calls P f vals.toArray w (fun e w' => ∃ v av h' pl', e = .returned v ∧ av.R pl' v ∧ PExt pl pl' ∧ HRel w0 Sx pl' h' w' ∧ K av h') := by
  unfold call at hc
  have hq1 : A.q ≤ pl.length := by
    rcases hq with hq | hq
    · rw [hq, hR.len]; exact Nat.le_refl _
    · rw [hq]; exact Nat.zero_le _
  have hq2 : A.q = pl.length ∨ A.plain := by
    rcases hq with hq | hq
    · left; rw [hq, hR.len]
    · right; rw [hq]; exact fun k => ⟨fun _ _ => rfl, rfl⟩
  split at hc
  · rename_i c hb
    refine calls_of_wp hf hb ((all_ok hF hP hS hM n).1 n (Nat.le_refl n) A c _ h _ pl w0 Sx _ w _ hc (enter_R hargs fn.ntmps) rfl hq1 hR ?_)
    intro ex env' h' pl' a' w' hk hE' hd' hpe hR'
    have hpx := hpe.ext hq2
    have done : kRes P (len' h) fn env' h' K → ∃ v, (results fn a'.tmps).run P w' = .ok v w' ∧ ∃ v' av h' pl', Ending.returned v = .returned v' ∧ av.R pl' v' ∧ PExt pl pl' ∧ HRel w0 Sx pl' h' w' ∧ K av h' := fun hk => by
      unfold kRes at hk
      split at hk
      · rename_i av hav
        obtain ⟨v, g1, g2⟩ := res_sound hE' hR'.hb hav
        obtain ⟨pl2, k1, k2, k3⟩ := trim_sound hR.len hpx hR' g1
        exact ⟨v, g2, v, av, _, pl2, rfl, k3, k1, k2, hk⟩
      · exact hk.elim
    cases ex with
    | normal => obtain ⟨v, g1, g2⟩ := done hk; exact ⟨hd', v, g1, g2⟩
    | ret => obtain ⟨v, g1, g2⟩ := done hk; exact ⟨hd', v, g1, g2⟩
    | exit id => exact hk.elim
  · exact hc.elim

def valsOf : List SV → Option (List Value)
  | [] => some []
  | s :: l => match s.val [], valsOf l with
    | some v, some vs => some (v :: vs)
    | _, _ => none
def PV.valOf : PV → Option Value
  | .one s => s.val []
  | .agg l => match valsOf l with | some vs => some (.agg vs.toArray) | none => none
def pvalsOf : List PV → Option (List Value)
  | [] => some []
  | s :: l => match s.valOf, pvalsOf l with
    | some v, some vs => some (v :: vs)
    | _, _ => none
def AV.valOf : AV → Option Value
  | .v p => p.valOf
  | .tup l => match pvalsOf l with | some vs => some (.tuple vs.toArray) | none => none
theorem SV.valOf_spec {s : SV} {v : Value} (h : s.val [] = some v) : s.R [] v ∧ ∀ u, s.R [] u → u = v := by
  refine ⟨.inr h, fun u hu => ?_⟩
  rcases hu with rfl | hu
  · cases h
  · rw [h] at hu; exact (Option.some.inj hu).symm
theorem valsOf_spec : ∀ {l : List SV} {vs : List Value}, valsOf l = some vs → RL [] l vs ∧ ∀ us, RL [] l us → us = vs
  | [], vs, h => by
    simp [valsOf] at h; subst h
    exact ⟨trivial, fun us hu => by cases us with | nil => rfl | cons _ _ => exact hu.elim⟩
  | s :: l, vs, h => by
    simp only [valsOf] at h
    cases h1 : s.val [] with
    | none => simp [h1] at h
    | some v =>
      cases h2 : valsOf l with
      | none => simp [h1, h2] at h
      | some ws =>
        simp [h1, h2] at h; subst h
        have a1 := SV.valOf_spec h1
        have a2 := valsOf_spec h2
        exact ⟨⟨a1.1, a2.1⟩, fun us hu => by
          cases us with
          | nil => exact hu.elim
          | cons u us => rw [a1.2 u hu.1, a2.2 us hu.2]⟩
theorem PV.valOf_spec {p : PV} {v : Value} (h : p.valOf = some v) : p.R [] v ∧ ∀ u, p.R [] u → u = v := by
  cases p with
  | one s => exact SV.valOf_spec h
  | agg l =>
    simp only [PV.valOf] at h
    cases h1 : valsOf l with
    | none => simp [h1] at h
    | some vs =>
      simp [h1] at h; subst h
      have a1 := valsOf_spec h1
      exact ⟨⟨vs, rfl, a1.1⟩, fun u ⟨us, hu, hr⟩ => by rw [hu, a1.2 us hr]⟩
theorem pvalsOf_spec : ∀ {l : List PV} {vs : List Value}, pvalsOf l = some vs → PL [] l vs ∧ ∀ us, PL [] l us → us = vs
  | [], vs, h => by
    simp [pvalsOf] at h; subst h
    exact ⟨trivial, fun us hu => by cases us with | nil => rfl | cons _ _ => exact hu.elim⟩
  | s :: l, vs, h => by
    simp only [pvalsOf] at h
    cases h1 : s.valOf with
    | none => simp [h1] at h
    | some v =>
      cases h2 : pvalsOf l with
      | none => simp [h1, h2] at h
      | some ws =>
        simp [h1, h2] at h; subst h
        have a1 := PV.valOf_spec h1
        have a2 := pvalsOf_spec h2
        exact ⟨⟨a1.1, a2.1⟩, fun us hu => by
          cases us with
          | nil => exact hu.elim
          | cons u us => rw [a1.2 u hu.1, a2.2 us hu.2]⟩
theorem AV.valOf_spec {p : AV} {v : Value} (h : p.valOf = some v) : p.R [] v ∧ ∀ u, p.R [] u → u = v := by
  cases p with
  | v p => exact PV.valOf_spec h
  | tup l =>
    simp only [AV.valOf] at h
    cases h1 : pvalsOf l with
    | none => simp [h1] at h
    | some vs =>
      simp [h1] at h; subst h
      have a1 := pvalsOf_spec h1
      exact ⟨⟨vs, rfl, a1.1⟩, fun u ⟨us, hu, hr⟩ => by rw [hu, a1.2 us hr]⟩
def noPtrs : List AV → Bool
  | [] => true
  | a :: l => a.below 0 && noPtrs l
theorem noPtrs_R {pl : List Pl} : ∀ {l : List AV} {vs : List Value}, noPtrs l = true → ArgsR pl l vs → ArgsR [] l vs
  | [], [], _, _ => trivial
  | [], _ :: _, _, h => h.elim
  | _ :: _, [], _, h => h.elim
  | _ :: _, _ :: _, hb, h => by
    simp only [noPtrs, Bool.and_eq_true] at hb
    exact ⟨by simpa using AV.R_take (n := 0) hb.1 h.1, noPtrs_R hb.2 h.2⟩

/-- a function that takes and gives no memory: run on an empty heap -/
theorem pure_sound (hF : Fine P) (hP : PureOk P S) (hS : SpecOk P S) (hM : SpecMono S) {f : Nat} {fn : Func} (hf : P.funcs[f]? = some fn) {A : Annos} {n : Nat} {args : List AV} {av : AV} {v : Value} (hb0 : noPtrs args = true) (hk0 : av.valOf = some v)
    (hc : call P S A n fn args [] (fun v' h => v'.valOf = some v ∧ h = [])) (hq : A.q = 0) {w0 : World} {Sx : Nat → Prop} {pl : List Pl} {h : Heap} {vals : List Value} (hargs : ArgsR pl args vals) :
    ∀ w, HRel w0 Sx pl h w → av.R pl v ∧ Calls P f vals.toArray w (fun e w' => e = .returned v ∧ HRel w0 Sx pl h w') := by
  have empty : ∀ w : World, HRel w (fun _ => False) [] [] w := fun w => ⟨rfl, ⟨rfl, rfl, rfl, Nat.le_refl _, fun _ _ _ => rfl⟩, fun b x p hx => by simp at hx, fun b p x hp => by simp at hp, fun b p x hp => by simp at hp, fun b c p q x y hp => by simp at hp⟩
  have back : ∀ {w w' : World}, HRel w0 Sx pl h w → HRel w (fun _ => False) [] [] w' → HRel w0 Sx pl h w' := fun {w w'} h1 h2 => by
    have hblk : ∀ k, k < w.heap.size → w'.heap[k]? = w.heap[k]? := fun k hk => h2.fr.block k hk (fun h => h)
    refine ⟨h1.len, ⟨h2.fr.os.trans h1.fr.os, h2.fr.tape.trans h1.fr.tape, h2.fr.output.trans h1.fr.output, Nat.le_trans h1.fr.size h2.fr.size, fun k hk hs => (hblk k (Nat.lt_of_lt_of_le hk h1.fr.size)).trans (h1.fr.block k hk hs)⟩, ?_, ?_, h1.own, h1.inj⟩
    · intro b x p hx hp
      exact (h1.hb b _ p hx hp).mono (PExt.refl pl) (fun ha => hblk _ (h1.lt b p _ hp hx ha))
    · intro b p x hp hx ha
      exact Nat.lt_of_lt_of_le (h1.lt b p x hp hx ha) h2.fr.size
  intro w hw
  have hs := AV.valOf_spec hk0
  refine ⟨hs.1.ext (fun b p hp => by simp at hp), ?_⟩
  refine (call_sound hF hP hS hM hf hc (.inl (by simpa using hq)) (empty w) (noPtrs_R hb0 hargs)).mono ?_
  rintro e w' ⟨v', av', h', pl', rfl, hv', _, hR', hav, rfl⟩
  have hpl : pl' = [] := by have := hR'.len; simpa using this
  subst hpl
  rw [(AV.valOf_spec hav).2 v' hv']
  exact ⟨rfl, back hw hR'⟩

/- summaries are said of open numbers alone; of literals they give literals -/
def SV.era : SV → SV
  | .con k n => .sym k n
  | .cb b => .sb b
  | .cstr s => .str s
  | s => s
def SV.lit : SV → SV
  | .sym k n => .con k n
  | .sb b => .cb b
  | .str s => .cstr s
  | s => s
def SV.isLit : SV → Bool
  | .con .. => true
  | .cb _ => true
  | .cstr _ => true
  | _ => false
def mapS (f : SV → SV) : List SV → List SV
  | [] => []
  | s :: l => f s :: mapS f l
def PV.mapS (f : SV → SV) : PV → PV
  | .one s => .one (f s)
  | .agg l => .agg (AM.mapS f l)
def mapP (f : SV → SV) : List PV → List PV
  | [] => []
  | s :: l => s.mapS f :: mapP f l
def AV.mapS (f : SV → SV) : AV → AV
  | .v p => .v (p.mapS f)
  | .tup l => .tup (mapP f l)
def mapA (f : SV → SV) : List AV → List AV
  | [] => []
  | s :: l => s.mapS f :: mapA f l
def allLitS : List SV → Bool
  | [] => true
  | s :: l => s.isLit && allLitS l
def PV.isLit : PV → Bool
  | .one s => s.isLit
  | .agg l => allLitS l
def allLitP : List PV → Bool
  | [] => true
  | s :: l => s.isLit && allLitP l
def AV.isLit : AV → Bool
  | .v p => p.isLit
  | .tup l => allLitP l
def allLitA : List AV → Bool
  | [] => true
  | s :: l => s.isLit && allLitA l
def OR.map (f : AV → AV) : OR → OR
  | .fail => .fail
  | .ok v => .ok (f v)
  | .iff p v => .iff p (f v)
/-- the arguments, literals forgotten but where the list says to keep them -/
def eraM : List Bool → List AV → List AV
  | _, [] => []
  | true :: m, a :: l => a :: eraM m l
  | false :: m, a :: l => a.mapS SV.era :: eraM m l
  | [], a :: l => a.mapS SV.era :: eraM [] l
def liftQ (m : List Bool) (q : PSpec) : PSpec := fun args => if allLitA args then (q (eraM m args)).map (AV.mapS SV.lit) else q (eraM m args)

section
variable {f : SV → SV} (hf : ∀ pl s, (f s).val pl = s.val pl) (hf0 : ∀ s, f s = .any ↔ s = .any)
include hf hf0
theorem SV.R_map {pl : List Pl} {s : SV} {v : Value} : (f s).R pl v ↔ s.R pl v := by
  unfold SV.R
  rw [hf, hf0]
theorem RL_map {pl : List Pl} : ∀ {l : List SV} {vs : List Value}, RL pl (AM.mapS f l) vs ↔ RL pl l vs
  | [], [] => Iff.rfl
  | [], _ :: _ => Iff.rfl
  | _ :: _, [] => Iff.rfl
  | _ :: _, _ :: _ => by simp only [AM.mapS, RL, SV.R_map hf hf0, RL_map]
theorem PV.R_map {pl : List Pl} {p : PV} {v : Value} : (p.mapS f).R pl v ↔ p.R pl v := by
  cases p with
  | one s => exact SV.R_map hf hf0
  | agg l => simp only [PV.mapS, PV.R, RL_map hf hf0]
theorem PL_map {pl : List Pl} : ∀ {l : List PV} {vs : List Value}, PL pl (mapP f l) vs ↔ PL pl l vs
  | [], [] => Iff.rfl
  | [], _ :: _ => Iff.rfl
  | _ :: _, [] => Iff.rfl
  | _ :: _, _ :: _ => by simp only [AM.mapP, PL, PV.R_map hf hf0, PL_map]
theorem AV.R_map {pl : List Pl} {p : AV} {v : Value} : (p.mapS f).R pl v ↔ p.R pl v := by
  cases p with
  | v s => exact PV.R_map hf hf0
  | tup l => simp only [AV.mapS, AV.R, PL_map hf hf0]
theorem ArgsR_map {pl : List Pl} : ∀ {l : List AV} {vs : List Value}, ArgsR pl (mapA f l) vs ↔ ArgsR pl l vs
  | [], [] => Iff.rfl
  | [], _ :: _ => Iff.rfl
  | _ :: _, [] => Iff.rfl
  | _ :: _, _ :: _ => by simp only [AM.mapA, ArgsR, AV.R_map hf hf0, ArgsR_map]
end
theorem era_ok : (∀ pl s, (SV.era s).val pl = s.val pl) ∧ ∀ s, SV.era s = .any ↔ s = .any := by
  refine ⟨fun pl s => by cases s <;> rfl, fun s => by cases s <;> simp [SV.era]⟩
theorem lit_ok : (∀ pl s, (SV.lit s).val pl = s.val pl) ∧ ∀ s, SV.lit s = .any ↔ s = .any := by
  refine ⟨fun pl s => by cases s <;> rfl, fun s => by cases s <;> simp [SV.lit]⟩
theorem gives_map {r : OR} {g : AV → AV} {av : AV} (h : (r.map g).gives av) : ∃ av', r.gives av' ∧ av = g av' := by
  cases r with
  | fail => exact (gives_fail h).elim
  | ok v => exact ⟨v, .inl rfl, gives_ok h⟩
  | iff p v =>
    rcases h with h | ⟨q, h, hq⟩
    · cases h
    · injection h with h1 h2
      exact ⟨v, .inr ⟨p, rfl, by rw [h1]; exact hq⟩, h2.symm⟩

theorem ArgsR_era {pl : List Pl} : ∀ {m : List Bool} {l : List AV} {vs : List Value}, ArgsR pl l vs → ArgsR pl (eraM m l) vs
  | [], [], [], h => h
  | _ :: _, [], [], h => h
  | [], [], _ :: _, h => h.elim
  | _ :: _, [], _ :: _, h => h.elim
  | [], _ :: _, [], h => h.elim
  | _ :: _, _ :: _, [], h => h.elim
  | [], _ :: _, _ :: _, h => ⟨(AV.R_map era_ok.1 era_ok.2).2 h.1, ArgsR_era (m := []) h.2⟩
  | true :: m, _ :: _, _ :: _, h => ⟨h.1, ArgsR_era (m := m) h.2⟩
  | false :: m, _ :: _, _ :: _, h => ⟨(AV.R_map era_ok.1 era_ok.2).2 h.1, ArgsR_era (m := m) h.2⟩
def Sums.add (S : Sums) (f : Nat) (q : PSpec) (m : List Bool := []) : Sums := { S with pure := fun g => if g = f then some (liftQ m q) else S.pure g }
/-- what a summary of open numbers says is so -/
def Holds (P : Program) (S : Sums) (f : Nat) (q : PSpec) : Prop :=
  ∃ fn, P.funcs[f]? = some fn ∧ fn.body.isSome = true ∧ ∀ args av, (q args).gives av → noPtrs args = true ∧ ∃ v n A, A.q = 0 ∧ av.valOf = some v ∧ call P S A n fn args [] (fun v' h => v'.valOf = some v ∧ h = [])
/-- the summaries grow by a pure one -/
theorem PureOk.add (hF : Fine P) {S0 : Sums} (hP0 : PureOk P S0) (hS : SpecOk P S0) (hM : SpecMono S0) (hP : PureOk P S) {f : Nat} {q : PSpec} (hq : Holds P S0 f q) {m : List Bool} : PureOk P (S.add f q m) := by
  obtain ⟨fn, hf, hfb, hp⟩ := hq
  have core : ∀ args av, (q args).gives av → ∀ w0 Sx pl h vals, ArgsR pl args vals → ∃ v, ∀ w, HRel w0 Sx pl h w → av.R pl v ∧ Calls P f vals.toArray w (fun e w' => e = .returned v ∧ HRel w0 Sx pl h w') := by
    intro args av hg w0 Sx pl h vals hargs
    obtain ⟨h1, v, n, A, hq0, h2, h3⟩ := hp args av hg
    exact ⟨v, pure_sound hF hP0 hS hM hf h1 h2 h3 hq0 hargs⟩
  intro g p hg
  by_cases e : g = f
  · subst e
    simp only [Sums.add, if_true] at hg
    cases hg
    refine ⟨⟨fn, hf, hfb⟩, fun args av hgv w0 Sx pl h vals hargs => ?_⟩
    have hargs' := ArgsR_era (m := m) hargs
    unfold liftQ at hgv
    split at hgv
    · obtain ⟨av', h1, rfl⟩ := gives_map hgv
      obtain ⟨v, hv⟩ := core _ _ h1 w0 Sx pl h vals hargs'
      exact ⟨v, fun w hw => ⟨(AV.R_map lit_ok.1 lit_ok.2).2 (hv w hw).1, (hv w hw).2⟩⟩
    · exact core _ _ hgv w0 Sx pl h vals hargs'
  · simp only [Sums.add, if_neg e] at hg
    exact hP g p hg
theorem SpecOk.add (hS : SpecOk P S) (f : Nat) (q : PSpec) (m : List Bool) : SpecOk P (S.add f q m) := hS
theorem SpecMono.add (hS : SpecMono S) (f : Nat) (q : PSpec) (m : List Bool) : SpecMono (S.add f q m) := hS
theorem SpecOk.pure (hS : SpecOk P S) (f : Nat → Option PSpec) : SpecOk P { S with pure := f } := hS
end
end Go.AM

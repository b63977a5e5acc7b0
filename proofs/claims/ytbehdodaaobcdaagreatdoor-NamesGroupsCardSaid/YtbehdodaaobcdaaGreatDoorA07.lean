import Derived.Test.YtbehdodaaobcdaaGreatDoorA06
set_option maxHeartbeats 4000000
namespace Go.AM
open Go
section
variable {P : Program} {S : Sums}

theorem gives_kOR {r : OR} {K : AV → Prop} (h : kOR r K) : ∃ av, r.gives av ∧ K av := by
  cases r with
  | fail => exact h.elim
  | ok v => exact ⟨v, .inl rfl, h⟩
  | iff p v => exact ⟨v, .inr ⟨p, rfl, h.1⟩, h.2⟩

def goQ (P : Program) (S : Sums) (h : Heap) (o : Oper) (env : Env) (N : Env → Prop) : Prop :=
  match o.op with
  | .call { callee := .value f, args, .. } => (match ev env f with
    | .v (.one (.fn f cap)) => (match S.pure f with
      | some p => kOR (p (app (evs env args.toList) (capArgs cap))) (fun v => N (putD env o.dst v))
      | none => False)
    | _ => False)
  | op => kOR (qopE P env h op) (fun v => N (putD env o.dst v))

theorem execQ_cons (ops : List Oper) (o : Oper) (l : List Oper) (env : Env) (h : Heap) (K : Env → Prop) : execQ P S ops (o :: l) env h K =
    (match guardV ops env o with
    | .yes => goQ P S h o env (fun e => execQ P S ops l e h K)
    | .no => execQ P S ops l (putD env o.dst AV.undef) h K
    | .open_ b d => S.on.f b ((if (match o.guard with | some (_, w) => w | none => true) then goQ P S h o (set env d (mkB true true)) (fun e => execQ P S ops l e h K) else execQ P S ops l (putD (set env d (mkB true true)) o.dst AV.undef) h K))
        ((if (match o.guard with | some (_, w) => w | none => true) then execQ P S ops l (putD (set env d (mkB true false)) o.dst AV.undef) h K else goQ P S h o (set env d (mkB true false)) (fun e => execQ P S ops l e h K)))
    | .bad => False) := by
  unfold goQ
  rfl

theorem EnvR.same {pl : List Pl} {env : Env} {tmps : Array Value} (h : EnvR pl env tmps) (d : Nat) {av : AV} (hv : av.R pl (tmps.getD d Go.undef)) : EnvR pl (AM.set env d av) tmps := by
  refine ⟨by simp [set_eq, h.1], fun t => ?_⟩
  have ht := h.2 t
  rw [getD_eq, set_eq, List.getElem?_set]
  rw [getD_eq] at ht
  by_cases e : d = t
  · subst e
    by_cases hl : d < env.length
    · rw [Array.getD_eq_getD_getElem?] at hv; simpa [hl] using hv
    · simp [hl]; exact any_R pl _
  · simp only [if_neg e]; exact ht

theorem put_defers (a : Act) (d : Option Nat) (v : Value) : (a.put d v).defers = a.defers := by cases d <;> rfl

variable {w0 : World} {Sx : Marks} {pl : List Pl} {h : Heap}
theorem goQ_sound [Glob] (hF : Fine P) (hP : PureOk P S) (hne : ∃ w, HRel w0 Sx pl h w) {o : Oper} {env : Env} {a : Act} {N : Env → Prop} {Q : Act → Prop} (hg : goQ P S h o env N) (hE : EnvR pl env a.tmps)
    (hN : ∀ env' a', N env' → EnvR pl env' a'.tmps → a'.defers = a.defers → Q a') : o.quiet P a (HRel w0 Sx pl h) Q := by
  unfold goQ at hg
  obtain ⟨w1, hw1⟩ := hne
  split at hg
  · rename_i x args ts ho
    have hx := hE.ev (a := a) x
    split at hg
    · rename_i f cap he
      rw [he] at hx
      obtain ⟨vs, hvs, hx⟩ := fn_R hx
      split at hg
      · rename_i p hp
        obtain ⟨av, g1, g2⟩ := gives_kOR hg
        obtain ⟨⟨fn, hf, hb⟩, hpure⟩ := hP f p hp
        have hargs : ArgsR pl (app (evs env args.toList) (capArgs cap)) ((args.map a.eval ++ vs.toArray).toList) := by
          rw [app_eq, Array.toList_append, Array.toList_map]
          exact (evs_R hE _).append (capArgs_R hvs)
        obtain ⟨v, hv⟩ := hpure _ av g1 w0 Sx pl h _ hargs
        refine ⟨v, fun w hw => ?_, hN _ _ g2 (hE.put o.dst (hv w1 hw1).1) (put_defers _ _ _)⟩
        unfold Oper.quietAt
        rw [call_run hF hf hb ho hx w]
        have hcall := (hv w hw).2
        rw [Array.toArray_toList] at hcall
        exact ⟨rfl, hcall⟩
      · exact hg.elim
    · exact hg.elim
  · obtain ⟨av, g1, g2⟩ := gives_kOR hg
    obtain ⟨v, hv⟩ := qopE_sound hw1.inj hE o g1
    refine ⟨v, fun w hw => ?_, hN _ _ g2 (hE.put o.dst (hv w1 hw1.hb).1) (put_defers _ _ _)⟩
    unfold Oper.quietAt
    rw [(hv w hw.hb).2]
    exact ⟨rfl, rfl⟩

theorem execQ_sound [Glob] {ds : List Deferred} (hF : Fine P) (hP : PureOk P S) (hne : ∃ w, HRel w0 Sx pl h w) {ops : Array Oper} {K : Env → Prop} {Q : Act → Prop} : ∀ (l : List Oper) (env : Env) (a : Act), execQ P S ops.toList l env h K → EnvR pl env a.tmps → a.defers = ds →
    (∀ env' a', K env' → EnvR pl env' a'.tmps → a'.defers = ds → Q a') → wpQuiet P ops (HRel w0 Sx pl h) Q l a
  | [], env, a, hx, hE, hd, hQ => hQ env a hx hE hd
  | o :: l, env, a, hx, hE, hd, hQ => by
    rw [execQ_cons] at hx
    have hgs := guard_spec hE ops o
    have hgo : ∀ env' : Env, EnvR pl env' a.tmps → goQ P S h o env' (fun e => execQ P S ops.toList l e h K) → o.quiet P a (HRel w0 Sx pl h) (wpQuiet P ops (HRel w0 Sx pl h) Q l) :=
      fun env' hE' hg => goQ_sound hF hP hne hg hE' (fun env'' a'' hk hE'' hd'' => execQ_sound hF hP hne l env'' a'' hk hE'' (hd''.trans hd) hQ)
    have hskip : ∀ env' : Env, EnvR pl env' a.tmps → execQ P S ops.toList l (putD env' o.dst AV.undef) h K → wpQuiet P ops (HRel w0 Sx pl h) Q l (a.put o.dst Go.undef) :=
      fun env' hE' hg => execQ_sound hF hP hne l _ _ hg (hE'.put o.dst (undef_R pl)) ((put_defers _ _ _).trans hd) hQ
    unfold wpQuiet
    split at hx <;> rename_i hgv <;> rw [hgv] at hgs
    · simp only [hgs, if_true]; exact hgo env hE hx
    · simp only [hgs, Bool.false_eq_true, if_false]; exact hskip env hE hx
    · rename_i b d
      obtain ⟨⟨j, want, hgd, hw⟩, hv⟩ := hgs
      rw [hw]
      simp only [hgd] at hx
      have hx := (S.on.h _ _ _).1 hx
      cases b with
      | true =>
        have hE' := hE.same d (av := mkB true true) (by rw [hv]; exact mkB_R pl true true)
        have hx' := hx.1 rfl
        cases want with
        | true => simp only [beq_self_eq_true, if_true]; exact hgo _ hE' (by simpa using hx')
        | false => simp only [show (true == false) = false from rfl, Bool.false_eq_true, if_false]; exact hskip _ hE' (by simpa using hx')
      | false =>
        have hE' := hE.same d (av := mkB true false) (by rw [hv]; exact mkB_R pl true false)
        have hx' := hx.2 rfl
        cases want with
        | true => simp only [show (false == true) = false from rfl, Bool.false_eq_true, if_false]; exact hskip _ hE' (by simpa using hx')
        | false => simp only [beq_self_eq_true, if_true]; exact hgo _ hE' (by simpa using hx')
    · exact hx.elim

section tail
variable {md : Region.Mode} {C : World → Prop} {ops : Array Oper}
def wpAnyLQ (P : Program) (md : Region.Mode) (ops : Array Oper) (C : World → Prop) (n : Nat) (L : Array Bool → Act → Prop) : Nat → Array Bool → Act → Prop
  | 0, listed, a => L listed a
  | f + 1, listed, a =>
    Region.ready md ops listed ≠ [] ∧ ∀ i ∈ Region.ready md ops listed, i < n ∧ qOp P ops C i (wpAnyLQ P md ops C n L f (listed.setIfInBounds i true)) a
theorem wpAnyLQ_first {n i : Nat} {oi : Oper} {v : Value} {L : Array Bool → Act → Prop} (hi : ops[i]? = some oi) (hsel : ∀ (j : Nat) (o : Oper) cs b, ops[j]? = some o → o.op ≠ .select cs b)
    (hs : Region.sinkB md ops n = true) (hc : Region.chainB md ops n = true) (hn : n < ops.size) (hin : i < n)
    (hdone : ∀ listed a, L listed a → ∀ j ∈ Region.ready md ops listed, n ≤ j) :
    ∀ (f : Nat) (listed : Array Bool) (a : Act), HeadInv md ops n listed →
      (∀ j oj, ops[j]? = some oj → j ≠ i → listed.getD j true = false → (∀ e ∈ oj.after, Region.binds md e = true → e.on ≠ i) → oi.apart ops oj = true) →
      i ∈ Region.ready md ops listed → YieldsIn P ops C oi v a →
      wpAnyLQ P md ops C n L f (listed.setIfInBounds i true) (a.put oi.dst v) → wpAnyLQ P md ops C n L (f + 1) listed a := by
  intro f
  induction f with
  | zero =>
    intro listed a inv _ hr hy H
    have hun := (mem_ready.1 hr).1
    refine ⟨fun h => (by rw [h] at hr; cases hr), fun j hj => ?_⟩
    have hjn : j < n := by
      rcases Nat.lt_or_ge j n with h | h
      · exact h
      · exact absurd hj (tail_waits hs hc hn inv _ i rfl hin hun j h)
    refine ⟨hjn, ?_⟩
    by_cases hji : j = i
    · subst hji; exact hy.qOp hi H
    · have := hdone _ _ H j (ready_mono hj hji)
      omega
  | succ f ih =>
    intro listed a inv hfree hr hy H
    have hun := (mem_ready.1 hr).1
    refine ⟨fun h => (by rw [h] at hr; cases hr), fun j hj => ?_⟩
    have hjn : j < n := by
      rcases Nat.lt_or_ge j n with h | h
      · exact h
      · exact absurd hj (tail_waits hs hc hn inv _ i rfl hin hun j h)
    refine ⟨hjn, ?_⟩
    by_cases hji : j = i
    · subst hji; exact hy.qOp hi H
    · have h1 := (H.2 j (ready_mono hj hji)).2
      obtain ⟨hjun, oj, hoj, hall⟩ := mem_ready.1 hj
      have hnot : ∀ e ∈ oj.after, Region.binds md e = true → e.on ≠ i := fun e he hb heq => by
        have h1 := hall e he hb
        rw [heq, getD_both hun] at h1
        cases h1
      have h2 := qOp_put hoj (hfree j oj hoj hji hjun hnot) (fun cs b => hsel i oi cs b hi) (fun cs b => hsel j oj cs b hoj) hy h1
      have hfree' : ∀ k ok, ops[k]? = some ok → k ≠ i → (listed.setIfInBounds j true).getD k true = false →
          (∀ e ∈ ok.after, Region.binds md e = true → e.on ≠ i) → oi.apart ops ok = true := fun k ok hk hki hun hno => by
        refine hfree k ok hk hki ?_ hno
        by_cases hjk : j = k
        · subst hjk; exact hjun
        · rw [getD_set_ne true hjk] at hun; exact hun
      refine qOp_mono (fun a' h3 => ih (listed.setIfInBounds j true) a' (inv.set hj hjn) hfree' (ready_mono hr (Ne.symm hji)) h3.1 ?_) h2
      rw [Array.setIfInBounds_comm _ _ hji]
      exact h3.2
theorem wpAnyLQ_lex {n g : Nat} {Lq : Act → Prop} (hsel : Region.noSelect ops = true) (hs : Region.sinkB md ops n = true) (hc : Region.chainB md ops n = true) (hn : n < ops.size) :
    ∀ (l : List Oper) (k : Nat) (listed : Array Bool) (a : Act), (∀ j, j < l.length → l[j]? = ops[k + j]?) → k + l.length = n → HeadInv md ops n listed →
    Region.lexHead md ops g l.length k listed = true → wpQuiet P ops C Lq l a →
    wpAnyLQ P md ops C n (fun listed' a' => Region.seqB md ops g n listed' = true ∧ Lq a') l.length listed a
  | [], k, listed, a, _, hk, _, hB, h => by
    have : k = n := by simpa using hk
    subst this
    exact ⟨by simpa [Region.lexHead] using hB, h⟩
  | o :: l, k, listed, a, hl, hk, inv, hB, h => by
    have h0 : ops[k]? = some o := by simpa using (hl 0 (by simp)).symm
    simp only [List.length_cons, Region.lexHead, Bool.and_eq_true] at hB
    obtain ⟨⟨hr, hf⟩, hB'⟩ := hB
    have hkn : k < n := by simp only [List.length_cons] at hk; omega
    have hr' : k ∈ Region.ready md ops listed := by simpa using hr
    have hst : qOp P ops C k (wpQuiet P ops C Lq l) a := by unfold qOp; simp only [h0]; exact h
    obtain ⟨v, hy, hK⟩ := yieldsIn_of_qOp h0 hst
    exact wpAnyLQ_first h0 (Region.noSelect_spec hsel) hs hc hn hkn (fun listed' a' hL => seqB_ready hL.1) l.length listed a inv (Region.free_spec h0 hf) hr' hy
      (wpAnyLQ_lex hsel hs hc hn l (k + 1) _ _ (fun j hj => by have := hl (j + 1) (by simp; omega); simpa [Nat.add_assoc, Nat.add_comm 1 j] using this) (by simp only [List.length_cons] at hk; omega) (inv.set hr' hkn) hB' hK)
end tail
end
end Go.AM

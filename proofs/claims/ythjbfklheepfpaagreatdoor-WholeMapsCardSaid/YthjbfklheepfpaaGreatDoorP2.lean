import Derived.Test.YthjbfklheepfpaaGreatDoorP1
import Derived.Lib.OthersKept
import Derived.Laws.RangeString
import Derived.Laws.CopyRow
import Derived.Great.BuildSlice
import Derived.Laws.MakeOwn
import Derived.Lib.AppendStr
import Derived.Lib.UnsafeStr
import Derived.Lib.Builder
import Derived.Laws.BytesString
set_option linter.unusedVariables false
set_option linter.unusedSimpArgs false
set_option maxHeartbeats 4000000
namespace Go.AM
open Go
section
variable {P : Program} {S : Sums}

theorem gives_kOR {r : OR} {K : AV → Prop} (h : kOR r K) : ∃ av, r.gives av ∧ K av := by
  cases r with
  | fail => exact h.elim
  | ok v => exact ⟨v, .inl rfl, h⟩
  | iff p v => exact ⟨v, .inr ⟨p, rfl, h.1⟩, h.2⟩

def goQ (P : Program) (S : Sums) (h : Heap) (o : Oper) (env : Env) (N : Env → Prop) : Prop :=
  match o.op with
  | .call { callee := .value f, args, .. } => (match ev env f with
    | .v (.one (.fn f cap)) => (match S.pure f with
      | some p => kOR (p (app (evs env args.toList) (capArgs cap))) (fun v => N (putD env o.dst v))
      | none => False)
    | _ => False)
  | op => kOR (qopE P env h op) (fun v => N (putD env o.dst v))

theorem execQ_cons (ops : List Oper) (o : Oper) (l : List Oper) (env : Env) (h : Heap) (K : Env → Prop) : execQ P S ops (o :: l) env h K =
    (match guardV ops env o with
    | .yes => goQ P S h o env (fun e => execQ P S ops l e h K)
    | .no => execQ P S ops l (putD env o.dst AV.undef) h K
    | .open_ b d => S.on.f b ((if (match o.guard with | some (_, w) => w | none => true) then goQ P S h o (set env d (mkB true true)) (fun e => execQ P S ops l e h K) else execQ P S ops l (putD (set env d (mkB true true)) o.dst AV.undef) h K))
        ((if (match o.guard with | some (_, w) => w | none => true) then execQ P S ops l (putD (set env d (mkB true false)) o.dst AV.undef) h K else goQ P S h o (set env d (mkB true false)) (fun e => execQ P S ops l e h K)))
    | .bad => False) := by
  unfold goQ
  rfl

theorem EnvR.same {pl : List Pl} {env : Env} {tmps : Array Value} (h : EnvR pl env tmps) (d : Nat) {av : AV} (hv : av.R pl (tmps.getD d Go.undef)) : EnvR pl (AM.set env d av) tmps := by
  refine ⟨by simp [set_eq, h.1], fun t => ?_⟩
  have ht := h.2 t
  rw [getD_eq, set_eq, List.getElem?_set]
  rw [getD_eq] at ht
  by_cases e : d = t
  · subst e
    by_cases hl : d < env.length
    · rw [Array.getD_eq_getD_getElem?] at hv; simpa [hl] using hv
    · simp [hl]; exact any_R pl _
  · simp only [if_neg e]; exact ht

theorem put_defers (a : Act) (d : Option Nat) (v : Value) : (a.put d v).defers = a.defers := by cases d <;> rfl

variable {w0 : World} {Sx : Marks} {pl : List Pl} {h : Heap}
theorem goQ_sound [Glob] (hF : Fine P) (hP : PureOk P S) (hne : ∃ w, HRel w0 Sx pl h w) {o : Oper} {env : Env} {a : Act} {N : Env → Prop} {Q : Act → Prop} (hg : goQ P S h o env N) (hE : EnvR pl env a.tmps)
    (hN : ∀ env' a', N env' → EnvR pl env' a'.tmps → a'.defers = a.defers → Q a') : o.quiet P a (HRel w0 Sx pl h) Q := by
  unfold goQ at hg
  obtain ⟨w1, hw1⟩ := hne
  split at hg
  · rename_i x args ts ho
    have hx := hE.ev (a := a) x
    split at hg
    · rename_i f cap he
      rw [he] at hx
      obtain ⟨vs, hvs, hx⟩ := fn_R hx
      split at hg
      · rename_i p hp
        obtain ⟨av, g1, g2⟩ := gives_kOR hg
        obtain ⟨⟨fn, hf, hb⟩, hpure⟩ := hP f p hp
        have hargs : ArgsR pl (app (evs env args.toList) (capArgs cap)) ((args.map a.eval ++ vs.toArray).toList) := by
          rw [app_eq, Array.toList_append, Array.toList_map]
          exact (evs_R hE _).append (capArgs_R hvs)
        obtain ⟨v, hv⟩ := hpure _ av g1 w0 Sx pl h _ hargs
        refine ⟨v, fun w hw => ?_, hN _ _ g2 (hE.put o.dst (hv w1 hw1).1) (put_defers _ _ _)⟩
        unfold Oper.quietAt
        rw [call_run hF hf hb ho hx w]
        have hcall := (hv w hw).2
        rw [Array.toArray_toList] at hcall
        exact ⟨rfl, hcall⟩
      · exact hg.elim
    · exact hg.elim
  · obtain ⟨av, g1, g2⟩ := gives_kOR hg
    obtain ⟨v, hv⟩ := qopE_sound hw1.inj hE o g1
    refine ⟨v, fun w hw => ?_, hN _ _ g2 (hE.put o.dst (hv w1 hw1.hb).1) (put_defers _ _ _)⟩
    unfold Oper.quietAt
    rw [(hv w hw.hb).2]
    exact ⟨rfl, rfl⟩

theorem execQ_sound [Glob] (hF : Fine P) (hP : PureOk P S) (hne : ∃ w, HRel w0 Sx pl h w) {ops : Array Oper} {K : Env → Prop} {Q : Act → Prop} : ∀ (l : List Oper) (env : Env) (a : Act), execQ P S ops.toList l env h K → EnvR pl env a.tmps → a.defers = [] →
    (∀ env' a', K env' → EnvR pl env' a'.tmps → a'.defers = [] → Q a') → wpQuiet P ops (HRel w0 Sx pl h) Q l a
  | [], env, a, hx, hE, hd, hQ => hQ env a hx hE hd
  | o :: l, env, a, hx, hE, hd, hQ => by
    rw [execQ_cons] at hx
    have hgs := guard_spec hE ops o
    have hgo : ∀ env' : Env, EnvR pl env' a.tmps → goQ P S h o env' (fun e => execQ P S ops.toList l e h K) → o.quiet P a (HRel w0 Sx pl h) (wpQuiet P ops (HRel w0 Sx pl h) Q l) :=
      fun env' hE' hg => goQ_sound hF hP hne hg hE' (fun env'' a'' hk hE'' hd'' => execQ_sound hF hP hne l env'' a'' hk hE'' (hd''.trans hd) hQ)
    have hskip : ∀ env' : Env, EnvR pl env' a.tmps → execQ P S ops.toList l (putD env' o.dst AV.undef) h K → wpQuiet P ops (HRel w0 Sx pl h) Q l (a.put o.dst Go.undef) :=
      fun env' hE' hg => execQ_sound hF hP hne l _ _ hg (hE'.put o.dst (undef_R pl)) ((put_defers _ _ _).trans hd) hQ
    unfold wpQuiet
    split at hx <;> rename_i hgv <;> rw [hgv] at hgs
    · simp only [hgs, if_true]; exact hgo env hE hx
    · simp only [hgs, Bool.false_eq_true, if_false]; exact hskip env hE hx
    · rename_i b d
      obtain ⟨⟨j, want, hgd, hw⟩, hv⟩ := hgs
      rw [hw]
      simp only [hgd] at hx
      have hx := (S.on.h _ _ _).1 hx
      cases b with
      | true =>
        have hE' := hE.same d (av := mkB true true) (by rw [hv]; exact mkB_R pl true true)
        have hx' := hx.1 rfl
        cases want with
        | true => simp only [beq_self_eq_true, if_true]; exact hgo _ hE' (by simpa using hx')
        | false => simp only [show (true == false) = false from rfl, Bool.false_eq_true, if_false]; exact hskip _ hE' (by simpa using hx')
      | false =>
        have hE' := hE.same d (av := mkB true false) (by rw [hv]; exact mkB_R pl true false)
        have hx' := hx.2 rfl
        cases want with
        | true => simp only [show (false == true) = false from rfl, Bool.false_eq_true, if_false]; exact hskip _ hE' (by simpa using hx')
        | false => simp only [beq_self_eq_true, if_true]; exact hgo _ hE' (by simpa using hx')
    · exact hx.elim

section tail
variable {md : Region.Mode} {C : World → Prop} {ops : Array Oper}
def wpAnyLQ (P : Program) (md : Region.Mode) (ops : Array Oper) (C : World → Prop) (n : Nat) (L : Array Bool → Act → Prop) : Nat → Array Bool → Act → Prop
  | 0, listed, a => L listed a
  | f + 1, listed, a =>
    Region.ready md ops listed ≠ [] ∧ ∀ i ∈ Region.ready md ops listed, i < n ∧ qOp P ops C i (wpAnyLQ P md ops C n L f (listed.setIfInBounds i true)) a
theorem wpAny_of_headQ {n g : Nat} {L : Array Bool → Act → Prop} {Q' : Exit → Act → World → Prop} (hL : ∀ listed a w, C w → L listed a → wpAny P md ops Q' g listed a w) :
    ∀ (f : Nat) (listed : Array Bool) (a : Act) (w : World), C w → wpAnyLQ P md ops C n L f listed a → wpAny P md ops Q' (f + g) listed a w
  | 0, listed, a, w, hC, h => by rw [Nat.zero_add]; exact hL _ _ _ hC h
  | f + 1, listed, a, w, hC, h => by
    rw [show f + 1 + g = (f + g) + 1 by omega]
    exact ⟨fun h0 => absurd h0 h.1, fun i hi => wpOp_of_qOp hC (fun a' w' hC' h' => wpAny_of_headQ hL f _ a' w' hC' h') (h.2 i hi).2⟩
theorem wpAnyLQ_first {n i : Nat} {oi : Oper} {v : Value} {L : Array Bool → Act → Prop} (hi : ops[i]? = some oi) (hsel : ∀ (j : Nat) (o : Oper) cs b, ops[j]? = some o → o.op ≠ .select cs b)
    (hs : Region.sinkB md ops n = true) (hc : Region.chainB md ops n = true) (hn : n < ops.size) (hin : i < n)
    (hdone : ∀ listed a, L listed a → ∀ j ∈ Region.ready md ops listed, n ≤ j) :
    ∀ (f : Nat) (listed : Array Bool) (a : Act), HeadInv md ops n listed →
      (∀ j oj, ops[j]? = some oj → j ≠ i → listed.getD j true = false → (∀ e ∈ oj.after, Region.binds md e = true → e.on ≠ i) → oi.apart ops oj = true) →
      i ∈ Region.ready md ops listed → YieldsIn P ops C oi v a →
      wpAnyLQ P md ops C n L f (listed.setIfInBounds i true) (a.put oi.dst v) → wpAnyLQ P md ops C n L (f + 1) listed a := by
  intro f
  induction f with
  | zero =>
    intro listed a inv _ hr hy H
    have hun := (mem_ready.1 hr).1
    refine ⟨fun h => (by rw [h] at hr; cases hr), fun j hj => ?_⟩
    have hjn : j < n := by
      rcases Nat.lt_or_ge j n with h | h
      · exact h
      · exact absurd hj (tail_waits hs hc hn inv _ i rfl hin hun j h)
    refine ⟨hjn, ?_⟩
    by_cases hji : j = i
    · subst hji; exact hy.qOp hi H
    · have := hdone _ _ H j (ready_mono hj hji)
      omega
  | succ f ih =>
    intro listed a inv hfree hr hy H
    have hun := (mem_ready.1 hr).1
    refine ⟨fun h => (by rw [h] at hr; cases hr), fun j hj => ?_⟩
    have hjn : j < n := by
      rcases Nat.lt_or_ge j n with h | h
      · exact h
      · exact absurd hj (tail_waits hs hc hn inv _ i rfl hin hun j h)
    refine ⟨hjn, ?_⟩
    by_cases hji : j = i
    · subst hji; exact hy.qOp hi H
    · have h1 := (H.2 j (ready_mono hj hji)).2
      obtain ⟨hjun, oj, hoj, hall⟩ := mem_ready.1 hj
      have hnot : ∀ e ∈ oj.after, Region.binds md e = true → e.on ≠ i := fun e he hb heq => by
        have h1 := hall e he hb
        rw [heq, getD_both hun] at h1
        cases h1
      have h2 := qOp_put hoj (hfree j oj hoj hji hjun hnot) (fun cs b => hsel i oi cs b hi) (fun cs b => hsel j oj cs b hoj) hy h1
      have hfree' : ∀ k ok, ops[k]? = some ok → k ≠ i → (listed.setIfInBounds j true).getD k true = false →
          (∀ e ∈ ok.after, Region.binds md e = true → e.on ≠ i) → oi.apart ops ok = true := fun k ok hk hki hun hno => by
        refine hfree k ok hk hki ?_ hno
        by_cases hjk : j = k
        · subst hjk; exact hjun
        · rw [getD_set_ne true hjk] at hun; exact hun
      refine qOp_mono (fun a' h3 => ih (listed.setIfInBounds j true) a' (inv.set hj hjn) hfree' (ready_mono hr (Ne.symm hji)) h3.1 ?_) h2
      rw [Array.setIfInBounds_comm _ _ hji]
      exact h3.2
theorem wpAnyLQ_lex {n g : Nat} {Lq : Act → Prop} (hsel : Region.noSelect ops = true) (hs : Region.sinkB md ops n = true) (hc : Region.chainB md ops n = true) (hn : n < ops.size) :
    ∀ (l : List Oper) (k : Nat) (listed : Array Bool) (a : Act), (∀ j, j < l.length → l[j]? = ops[k + j]?) → k + l.length = n → HeadInv md ops n listed →
    Region.lexHead md ops g l.length k listed = true → wpQuiet P ops C Lq l a →
    wpAnyLQ P md ops C n (fun listed' a' => Region.seqB md ops g n listed' = true ∧ Lq a') l.length listed a
  | [], k, listed, a, _, hk, _, hB, h => by
    have : k = n := by simpa using hk
    subst this
    exact ⟨by simpa [Region.lexHead] using hB, h⟩
  | o :: l, k, listed, a, hl, hk, inv, hB, h => by
    have h0 : ops[k]? = some o := by simpa using (hl 0 (by simp)).symm
    simp only [List.length_cons, Region.lexHead, Bool.and_eq_true] at hB
    obtain ⟨⟨hr, hf⟩, hB'⟩ := hB
    have hkn : k < n := by simp only [List.length_cons] at hk; omega
    have hr' : k ∈ Region.ready md ops listed := by simpa using hr
    have hst : qOp P ops C k (wpQuiet P ops C Lq l) a := by unfold qOp; simp only [h0]; exact h
    obtain ⟨v, hy, hK⟩ := yieldsIn_of_qOp h0 hst
    exact wpAnyLQ_first h0 (Region.noSelect_spec hsel) hs hc hn hkn (fun listed' a' hL => seqB_ready hL.1) l.length listed a inv (Region.free_spec h0 hf) hr' hy
      (wpAnyLQ_lex hsel hs hc hn l (k + 1) _ _ (fun j hj => by have := hl (j + 1) (by simp; omega); simpa [Nat.add_assoc, Nat.add_comm 1 j] using this) (by simp only [List.length_cons] at hk; omega) (inv.set hr' hkn) hB' hK)
theorem wp_region_quiet_tail {id : Nat} {Q : Exit → Act → World → Prop} {a : Act} {w : World} {ops : Array Oper} (n : Nat) (hm : P.follows .mixedOrders = true) (hB : Region.lexTailB .any ops n = true) (hC : C { w with drawn := w.drawn + 1 })
    (h : wpQuiet P ops C (fun a' => ∀ w', C w' → wpList P ops Q (ops.toList.drop n) a' w') (ops.toList.take n) a) : (Code.region id ops true).wp P Q a w := by
  simp only [Region.lexTailB, Bool.and_eq_true, decide_eq_true_eq] at hB
  obtain ⟨⟨⟨⟨hsel, hn⟩, hs⟩, hc⟩, hlex⟩ := hB
  have htl : (ops.toList.take n).length = n := by simp; omega
  have hdl : (ops.toList.drop n).length = ops.size - n := by simp
  have inv0 : HeadInv .any ops n (Array.replicate ops.size false) :=
    ⟨by simp, fun j oj _ hl => (by rw [getD_replicate_false] at hl; cases hl), fun t _ ht => getD_in (by simpa using ht) (getD_replicate_false _ _)⟩
  have H := wpAnyLQ_lex (P := P) (C := C) (md := .any) (g := ops.size - n) hsel hs hc hn (ops.toList.take n) 0 _ a (fun j hj => by
    have hj' : j < n := by rw [htl] at hj; exact hj
    simp [hj']) (by simpa using htl) inv0 (by rw [htl]; exact hlex) h
  refine wp_region_any hm ?_
  have := wpAny_of_headQ (P := P) (C := C) (Q' := Q) (g := ops.size - n) (fun listed a' w' hC' hL => by
    have := wpAny_of_seq (P := P) (md := .any) (Q' := Q) (ops.toList.drop n) n listed a' w' (fun j => by simp [List.getElem?_drop]) (by rw [hdl]; exact hL.1) (hL.2 w' hC')
    rwa [hdl] at this) _ _ _ _ hC H
  rw [htl, show n + (ops.size - n) = ops.size by omega] at this
  exact this
end tail
end
end Go.AM
namespace Go.AM
open Go
section
variable {P : Program} {w0 : World} {Sx : Marks} {pl : List Pl} {h : Heap} {w : World}

theorem EntR.ext {pl pl' : List Pl} (hp : PExt pl pl') : ∀ {es : List (PV × PV)} {ms : List MapEntry}, EntR pl es ms → EntR pl' es ms
  | [], [], _ => trivial
  | [], _ :: _, h => h.elim
  | _ :: _, [], h => h.elim
  | _ :: _, _ :: _, h => ⟨h.1.ext hp, h.2.1.ext hp, EntR.ext hp h.2.2⟩
theorem BlkR.mono {pl pl' : List Pl} {w w' : World} {x : Blk} {p : Pl} (hp : PExt pl pl') (hc : x.alive p = true → w'.heap[p.blk]? = w.heap[p.blk]?) (hd : x.rd p = true → w'.heap[p.blk]? = w.heap[p.blk]?) (hb : BlkR pl w x p) : BlkR pl' w' x p := by
  have own : ∀ {T z m n : Nat} {vs : List Value}, ((!p.nil) = true → w'.heap[p.blk]? = w.heap[p.blk]?) → w.ownsRowZ 0 T z (p.sv m) n vs → w'.ownsRowZ 0 T z (p.sv m) n vs := by
    intro T z m n vs hc h
    refine ⟨h.1, ?_⟩
    rcases h.2 with hn | ⟨g, cap, cur, hv, h1, h2, h3⟩
    · exact .inl hn
    · refine .inr ⟨g, cap, cur, hv, h1, ?_, h3⟩
      unfold Pl.sv at hv
      split at hv
      · cases hv
      · rename_i hn
        simp only [Value.slice.injEq, Option.some.injEq, Addr.mk.injEq] at hv
        rw [← hv.1.1, hc (by simpa using hn), hv.1.1]
        exact h2
  cases x with
  | gone => trivial
  | row T cs =>
    obtain ⟨vs, h1, h2⟩ := hb
    exact ⟨vs, h1.ext hp, by rw [hc rfl]; exact h2⟩
  | own T C xs =>
    obtain ⟨vs, h1, h2⟩ := hb
    exact ⟨vs, h1.ext hp, own hc h2⟩
  | ownL T z n cs =>
    obtain ⟨vs, h1, h2⟩ := hb
    exact ⟨vs, h1.ext hp, own hc h2⟩
  | mp es =>
    obtain ⟨ms, clock, h1, h2⟩ := hb
    exact ⟨ms, clock, h1.ext hp, by rw [hc rfl]; exact h2⟩
  | omp C es =>
    obtain ⟨ms, clock, h1, h2⟩ := hb
    exact ⟨ms, clock, h1.ext hp, by rw [hc rfl]; exact h2⟩
  | sit c s n =>
    have h1 : w.heap[p.blk]? = _ := hb
    exact (hc rfl).trans h1
  | ro T C xs =>
    obtain ⟨vs, h1, h2, h3⟩ := hb
    refine ⟨vs, h1.ext hp, h2, fun j v hj => ?_⟩
    cases hn : p.nil with
    | true =>
      rw [h2 hn] at h1
      cases vs with
      | nil => simp at hj
      | cons _ _ => exact h1.elim
    | false =>
      have := h3 j v hj
      simp only [World.cell?] at this ⊢
      rw [hd (by simp [Blk.rd, hn])]
      exact this

theorem HRel.rdk [Glob] (hR : HRel w0 Sx pl h w) {w' : World} (hfr : Fr w0 Sx.S w') {b : Nat} {p : Pl} {x : Blk} (hp : pl[b]? = some p) (hx : h[b]? = some x) (hd : x.rd p = true) : w'.heap[p.blk]? = w.heap[p.blk]? := by
  obtain ⟨h1, h2⟩ := hR.rok.1 _ (hR.ro b p x hp hx hd)
  rw [hfr.block _ h1 h2, hR.fr.block _ h1 h2]
theorem Fr.grown {w' : World} {row : Option Nat} (h : Fr w0 Sx.S w) (hg : w.grownBy w' row) (hrow : ∀ k, row = some k → w0.heap.size ≤ k ∨ Sx k) : Fr w0 Sx.S w' :=
  ⟨hg.os.trans h.os, hg.tape.trans h.tape, hg.output.trans h.output, Nat.le_trans h.size hg.size, fun k hk hS => by
    rw [hg.block k (Nat.lt_of_lt_of_le hk h.size) (fun e => by rcases hrow k e.symm with h1 | h1; omega; exact hS h1)]
    exact h.block k hk hS⟩
theorem get_set_same {α : Type _} {l : List α} {b : Nat} {x y : α} (h : l[b]? = some x) : (AM.set l b y)[b]? = some y := by
  rw [set_eq, List.getElem?_set]
  simp [(List.getElem?_eq_some_iff.1 h).1]
theorem get_set_other {α : Type _} {l : List α} {b c : Nat} {y : α} (h : b ≠ c) : (AM.set l b y)[c]? = l[c]? := by
  rw [set_eq, List.getElem?_set]
  simp [h]
theorem HRel.forget [Glob] (hR : HRel w0 Sx pl h w) (b : Nat) : HRel w0 Sx pl (AM.set h b .gone) w := by
  have key : ∀ (c : Nat) x p, (AM.set h b .gone)[c]? = some x → x.alive p = true → h[c]? = some x ∧ b ≠ c := fun c x p hx ha => by
    by_cases e : b = c
    · subst e
      rw [set_eq, List.getElem?_set] at hx
      simp only [if_true] at hx
      split at hx
      · cases hx; cases ha
      · cases hx
    · rw [get_set_other e] at hx; exact ⟨hx, e⟩
  refine ⟨by simp [set_eq, hR.len], hR.fr, fun c x p hx hp => ?_, fun c p x hp hx ha => hR.lt c p x hp (key c x p hx ha).1 ha, fun c p x hp hx ha => hR.own c p x hp (key c x p hx ha).1 ha,
    fun c d p q x y hp hq hx hy ha hya e => hR.inj c d p q x y hp hq (key c x p hx ha).1 (key d y q hy hya).1 ha hya e, fun c p x hp hx hd => ?_, hR.rok⟩
  rotate_left
  · by_cases e : b = c
    · subst e
      rw [set_eq, List.getElem?_set] at hx
      simp only [if_true] at hx
      split at hx
      · cases hx; cases hd
      · cases hx
    · rw [get_set_other e] at hx; exact hR.ro c p x hp hx hd
  by_cases e : b = c
  · subst e
    rw [set_eq, List.getElem?_set] at hx
    simp only [if_true] at hx
    split at hx
    · cases hx; trivial
    · cases hx
  · rw [get_set_other e] at hx; exact hR.hb c x p hx hp
theorem HRel.fresh [Glob] (hR : HRel w0 Sx pl h w) {w' : World} (hfr : Fr w0 Sx.S w') (hsz : w.heap.size ≤ w'.heap.size)
    (hkeep : ∀ (b : Nat) p x, pl[b]? = some p → h[b]? = some x → x.alive p = true → w'.heap[p.blk]? = w.heap[p.blk]?) {x' : Blk} {p' : Pl} (hx' : BlkR (pl ++ [p']) w' x' p')
    (hlive : x'.alive p' = true → p'.blk < w'.heap.size ∧ (w0.heap.size ≤ p'.blk ∨ Sx p'.blk) ∧ ∀ (b : Nat) p x, pl[b]? = some p → h[b]? = some x → x.alive p = true → p.blk ≠ p'.blk) (hrd : x'.rd p' = true → Sx.R p'.blk := by exact fun h => nomatch h) :
    HRel w0 Sx (pl ++ [p']) (h ++ [x']) w' ∧ PExt pl (pl ++ [p']) := by
  have hp : PExt pl (pl ++ [p']) := PExt.push pl _
  have hlen := hR.len
  have cases_ : ∀ (b : Nat) p x, (pl ++ [p'])[b]? = some p → (h ++ [x'])[b]? = some x → (pl[b]? = some p ∧ h[b]? = some x) ∨ (b = pl.length ∧ p = p' ∧ x = x') := fun b p x hb hx => by
    by_cases hlt : b < pl.length
    · rw [List.getElem?_append_left hlt] at hb
      rw [List.getElem?_append_left (by omega)] at hx
      exact .inl ⟨hb, hx⟩
    · rw [List.getElem?_append_right (by omega)] at hb
      rw [List.getElem?_append_right (by omega)] at hx
      have : b - pl.length = 0 := by
        rcases Nat.eq_zero_or_pos (b - pl.length) with h0 | h0
        · exact h0
        · rw [List.getElem?_eq_none (by simp; omega)] at hb; cases hb
      rw [this] at hb
      rw [← hlen, this] at hx
      simp at hb hx
      exact .inr ⟨by omega, hb.symm, hx.symm⟩
  refine ⟨⟨by simp [hlen], hfr, ?_, ?_, ?_, ?_, ?_, hR.rok⟩, hp⟩
  rotate_right
  · intro b p x hb hx hd
    rcases cases_ b p x hb hx with ⟨h1, h2⟩ | ⟨_, rfl, rfl⟩
    · exact hR.ro b p x h1 h2 hd
    · exact hrd hd
  · intro b x p hx hb
    rcases cases_ b p x hb hx with ⟨h1, h2⟩ | ⟨_, rfl, rfl⟩
    · exact (hR.hb b x p h2 h1).mono hp (hkeep b p x h1 h2) (hR.rdk hfr h1 h2)
    · exact hx'
  · intro b p x hb hx ha
    rcases cases_ b p x hb hx with ⟨h1, h2⟩ | ⟨_, rfl, rfl⟩
    · exact Nat.lt_of_lt_of_le (hR.lt b p x h1 h2 ha) hsz
    · exact (hlive ha).1
  · intro b p x hb hx ha
    rcases cases_ b p x hb hx with ⟨h1, h2⟩ | ⟨_, rfl, rfl⟩
    · exact hR.own b p x h1 h2 ha
    · exact (hlive ha).2.1
  · intro b c p q x y hb hc hx hy ha hya e
    rcases cases_ b p x hb hx with ⟨h1, h2⟩ | ⟨e1, rfl, rfl⟩ <;> rcases cases_ c q y hc hy with ⟨k1, k2⟩ | ⟨e2, rfl, rfl⟩
    · exact hR.inj b c p q x y h1 k1 h2 k2 ha hya e
    · exact absurd e ((hlive hya).2.2 b p x h1 h2 ha)
    · exact absurd e.symm ((hlive ha).2.2 c q y k1 k2 hya)
    · rw [e1, e2]
theorem HRel.push [Glob] (hR : HRel w0 Sx pl h w) {T : Nat} {cs : List SV} {vs : List Value} (hv : RL pl cs vs) :
    HRel w0 Sx (pl ++ [⟨w.heap.size, false, 0⟩]) (h ++ [.row T cs]) (w.alloc (.cells vs.toArray T)) ∧ PExt pl (pl ++ [⟨w.heap.size, false, 0⟩]) := by
  have hg := World.grownBy_alloc w (.cells vs.toArray T) none
  refine hR.fresh (hR.fr.grown hg (by simp)) hg.size (fun b p x hp hx ha => hg.block _ (hR.lt b p x hp hx ha) (by simp)) ?_ (fun _ => ⟨?_, .inl hR.fr.size, fun b p x hp hx ha => ?_⟩)
  · refine ⟨vs, hv.ext (PExt.push pl _), ?_⟩
    exact heap_alloc_new w _
  · show w.heap.size < (w.heap.push _).size
    simp
  · have := hR.lt b p x hp hx ha
    simp only; omega

theorem HRel.updG [Glob] (hR : HRel w0 Sx pl h w) {b : Nat} {p : Pl} {x x' : Blk} (hq : pl[b]? = some p) (hg : h[b]? = some x) (ha0 : x.alive p = true) {w' : World} (hgr : w.grownBy w' (some p.blk)) (hx' : BlkR pl w' x' p) (hrd : x'.rd p = false := by rfl) :
    HRel w0 Sx pl (AM.set h b x') w' := by
  have hlt : b < h.length := (List.getElem?_eq_some_iff.1 hg).1
  have hfr' := hR.fr.grown hgr (fun k hk => by cases hk; exact hR.own b p _ hq hg ha0)
  refine ⟨by simp [set_eq, hR.len], hfr', ?_, ?_, ?_, ?_, ?_, hR.rok⟩
  rotate_right
  · intro c pc y hpc hx hd
    by_cases e : b = c
    · subst e
      rw [get_set_same hg] at hx
      cases hx
      rw [hq] at hpc
      cases hpc
      rw [hrd] at hd
      cases hd
    · rw [get_set_other e] at hx
      exact hR.ro c pc y hpc hx hd
  · intro c y pc hx hpc
    by_cases e : b = c
    · subst e
      rw [get_set_same hg] at hx
      cases hx
      rw [hq] at hpc
      cases hpc
      exact hx'
    · rw [get_set_other e] at hx
      exact (hR.hb c _ pc hx hpc).mono (PExt.refl pl) (fun ha => hgr.block _ (hR.lt c pc _ hpc hx ha) (fun e2 => e (hR.inj b c p pc _ _ hq hpc hg hx ha0 ha (Option.some.inj e2).symm))) (hR.rdk hfr' hpc hx)
  · intro c pc y hpc hx ha
    refine Nat.lt_of_lt_of_le ?_ hgr.size
    by_cases e : b = c
    · subst e; rw [hq] at hpc; cases hpc; exact hR.lt b p _ hq hg ha0
    · rw [get_set_other e] at hx; exact hR.lt c pc y hpc hx ha
  · intro c pc y hpc hx ha
    by_cases e : b = c
    · subst e; rw [hq] at hpc; cases hpc; exact hR.own b p _ hq hg ha0
    · rw [get_set_other e] at hx; exact hR.own c pc y hpc hx ha
  · intro c d pc pd y z hpc hpd hx hy ha hya e
    have key : ∀ (c : Nat) y pc, pl[c]? = some pc → (AM.set h b x')[c]? = some y → y.alive pc = true → ∃ z, h[c]? = some z ∧ z.alive pc = true := fun c y pc hpc hx ha => by
      by_cases e : b = c
      · subst e; rw [hq] at hpc; cases hpc; exact ⟨_, hg, ha0⟩
      · rw [get_set_other e] at hx; exact ⟨y, hx, ha⟩
    obtain ⟨y', hy', hay⟩ := key c y pc hpc hx ha
    obtain ⟨z', hz', haz⟩ := key d z pd hpd hy hya
    exact hR.inj c d pc pd y' z' hpc hpd hy' hz' hay haz e

theorem HRel.upd [Glob] (hR : HRel w0 Sx pl h w) {b : Nat} {p : Pl} {x x' : Blk} (hq : pl[b]? = some p) (hg : h[b]? = some x) (ha0 : x.alive p = true) {cur : Array Value} (hx' : BlkR pl (w.setRow p.blk cur) x' p) (hrd : x'.rd p = false := by rfl) :
    HRel w0 Sx pl (AM.set h b x') (w.setRow p.blk cur) :=
  hR.updG hq hg ha0 (hrd := hrd) ⟨rfl, rfl, rfl, by simp, fun k _ hk => setRow_other w p.blk k _ (fun e => hk (by rw [e]))⟩ hx'

theorem take_over {α : Type _} {l us : List α} {off n : Nat} (h : off + us.length ≤ n) (hn : n ≤ l.length) :
    (l.take off ++ us ++ l.drop (off + us.length)).take n = (l.take n).take off ++ us ++ (l.take n).drop (off + us.length) := by
  have e1 : (l.take off ++ us).length = off + us.length := by simp; omega
  rw [List.take_append, List.take_of_length_le (l := l.take off ++ us) (by omega), e1, List.take_take, Nat.min_eq_left (by omega), List.drop_take]
theorem own_nonnil {T z m n : Nat} {p : Pl} {vs : List Value} (h : w.ownsRowZ 0 T z (p.sv m) n vs) (hv : 0 < vs.length) : p.nil = false := by
  cases hn : p.nil with
  | false => rfl
  | true =>
    rcases h.2 with ⟨_, h0⟩ | ⟨g, cap, cur, hv, _⟩
    · have := h.1; rw [h0] at this; omega
    · simp [Pl.sv, hn] at hv
theorem own_store {T z m n : Nat} {p : Pl} {vs us : List Value} {off : Nat} (h : w.ownsRowZ 0 T z (p.sv m) n vs) (hle : off + us.length ≤ vs.length) (hpos : 0 < us.length) (hone : ∀ u ∈ us, u.oneCell' = true) :
    ∃ cur', (storeCells ⟨p.blk, off, none⟩ us).run P w = .ok () (w.setRow p.blk cur') ∧ (w.setRow p.blk cur').ownsRowZ 0 T z (p.sv m) n (vs.take off ++ us ++ vs.drop (off + us.length)) := by
  have hn := own_nonnil h (by omega)
  have hlen := h.1
  rcases h.2 with ⟨h1, _⟩ | ⟨g, cap, cur, hv, h1, ⟨fz, h2, hfz⟩, h3, h4, h5, h6⟩
  · simp [Pl.sv, hn] at h1
  · simp only [Pl.sv, hn, Bool.false_eq_true, if_false, Value.slice.injEq, Option.some.injEq, Addr.mk.injEq] at hv
    obtain ⟨⟨rfl, _⟩, hmn, rfl⟩ := hv
    have hcur : n * z ≤ cur.size := by rw [h5]; exact Nat.mul_le_mul_right _ h3
    have hst := run_storeCells_atZ P p.blk off T fz us 0 cur w h2 hfz (by omega) hone
    simp only [Nat.add_zero] at hst
    have hsz2 : ((cur.toList.take off ++ us ++ cur.toList.drop (off + us.length)).toArray).size = cur.size := by simp; omega
    refine ⟨_, hst, ⟨by simp; omega, .inr ⟨p.blk, p.cap, _, by simp [Pl.sv, hn, hmn], h1, ⟨fz, setRow_heap w p.blk cur _ T fz h2, by rw [hsz2]; exact hfz⟩, h3, h4, by rw [hsz2]; exact h5, ?_⟩⟩⟩
    have := take_over (l := cur.toList) (us := us) (off := off) (n := n * z) (by omega) (by simpa using hcur)
    simp only [List.append_assoc] at this ⊢
    rw [this, h6]
theorem flat_set {pl : List Pl} {C : Codec} {y : C.τ} : ∀ {xs : List C.τ} {vs us : List Value} {idx : Nat}, RL pl (flatC C xs) vs → idx < xs.length → RL pl (C.enc y) us →
    RL pl (flatC C (xs.set idx y)) (vs.take (idx * C.esz) ++ us ++ vs.drop (idx * C.esz + C.esz))
  | [], _, _, _, _, hi, _ => by simp at hi
  | t :: xs, vs, us, 0, h, _, hu => by
    have h2 := (RL.split h).2
    rw [C.len_ok] at h2
    simpa [flatC] using RL.append hu h2
  | t :: xs, vs, us, idx + 1, h, hi, hu => by
    have h1 := (RL.split h).1
    have h2 := (RL.split h).2
    rw [C.len_ok] at h1 h2
    have ih := RL.append h1 (flat_set (idx := idx) h2 (by simpa using hi) hu)
    have e : (idx + 1) * C.esz = C.esz + idx * C.esz := by rw [Nat.add_mul, Nat.one_mul, Nat.add_comm]
    rw [List.drop_drop, ← Nat.add_assoc, ← e] at ih
    have e2 : vs.take ((idx + 1) * C.esz) = vs.take C.esz ++ (vs.drop C.esz).take (idx * C.esz) := by rw [e, List.take_add]
    rw [e2]
    simpa [flatC, List.append_assoc] using ih
theorem splice {α : Type _} {vs us : List α} {o z sub : Nat} (h : sub + us.length ≤ z) (hz : o + z ≤ vs.length) :
    vs.take o ++ (((vs.drop o).take z).take sub ++ us ++ ((vs.drop o).take z).drop (sub + us.length)) ++ vs.drop (o + z) = vs.take (o + sub) ++ us ++ vs.drop (o + sub + us.length) := by
  have e1 : vs.take (o + sub) = vs.take o ++ ((vs.drop o).take z).take sub := by rw [List.take_take, Nat.min_eq_left (by omega), List.take_add]
  have e2 : vs.drop (o + sub + us.length) = ((vs.drop o).take z).drop (sub + us.length) ++ vs.drop (o + z) := by
    have e3 : vs.drop (o + z) = (vs.drop o).drop z := by rw [List.drop_drop]
    have e4 : vs.drop (o + sub + us.length) = (vs.drop o).drop (sub + us.length) := by rw [List.drop_drop, Nat.add_assoc]
    rw [e3, e4]
    generalize vs.drop o = l at *
    have : l.drop (sub + us.length) = (l.take z ++ l.drop z).drop (sub + us.length) := by rw [List.take_append_drop]
    rw [this, List.drop_append]
    have e5 : sub + us.length - (List.take z l).length = 0 ∨ l.length < z := by simp; omega
    rcases e5 with e5 | e5
    · rw [e5]; rfl
    · rw [List.drop_of_length_le (i := z) (by omega)]; simp
  rw [e1, e2]
  simp [List.append_assoc]

theorem HRel.store [Glob] (hR : HRel w0 Sx pl h w) {t b off : Nat} {p : PV} {h' : Heap} (hs : storeV P t h b off p = some h') {v : Value} (hv : p.R pl v) {ad : Addr} (had : addrOf pl b off = some ad) :
    ∃ w', (storeVar t ad v).run P w = .ok () w' ∧ HRel w0 Sx pl h' w' := by
  unfold storeV at hs
  cases hg : get? h b with
  | none => simp [hg] at hs
  | some x =>
    unfold addrOf at had
    cases hq : pl[b]? with
    | none => simp [hq] at had
    | some q =>
      simp [hq] at had
      subst had
      cases x with
      | gone => simp [hg] at hs
      | own T C xs => simp [hg] at hs
      | ro T C xs => simp [hg] at hs
      | omp C es => simp [hg] at hs
      | sit c s n => simp [hg] at hs
      | mp es => simp [hg] at hs
      | row T cs =>
        simp only [hg] at hs
        split at hs
        · rename_i hk
          simp only [Bool.and_eq_true, decide_eq_true_eq] at hk
          obtain ⟨hk, hsize⟩ := hk
          cases ho : over cs off p.cells with
          | none => simp [ho] at hs
          | some cs' =>
            simp [ho] at hs
            subst hs
            rw [get?_eq] at hg
            obtain ⟨vs, h1, h2⟩ := hR.hb b _ q hg hq
            have ⟨hc, hone⟩ := PV.cells_R hk hv
            have ⟨ho1, ho2⟩ := over_spec h1 hc ho
            have hst := run_storeCells_at P q.blk off T v.cells.toList 0 vs.toArray w h2 (by simpa using ho2) hone
            simp only [Nat.add_zero, List.toList_toArray] at hst
            have hl := hc.length
            refine ⟨w.setRow q.blk (List.take off vs ++ v.cells.toList ++ List.drop (off + v.cells.toList.length) vs).toArray, ?_, ?_⟩
            · have hsz : v.cells.size = len' p.cells := by rw [len'_eq, hl]; simp
              unfold storeVar
              simp only [Sem.run_bind, run_size hsize, Result.andThen_ok]
              rw [if_neg (by simpa using hsz)]
              exact hst
            · exact hR.upd hq hg rfl ⟨_, ho1, setRow_heap w q.blk _ _ T (0, 0) h2⟩
        · cases hs
      | ownL T z n cs =>
        simp only [hg] at hs
        split at hs
        · rename_i hk
          simp only [Bool.and_eq_true, decide_eq_true_eq] at hk
          obtain ⟨⟨hk, hsize⟩, hpos⟩ := hk
          cases ho : over cs off p.cells with
          | none => simp [ho] at hs
          | some cs' =>
            simp [ho] at hs
            subst hs
            rw [get?_eq] at hg
            obtain ⟨vs, h1, h2⟩ := hR.hb b _ q hg hq
            have ⟨hc, hone⟩ := PV.cells_R hk hv
            have ⟨ho1, ho2⟩ := over_spec h1 hc ho
            have hl := hc.length
            have hsz : v.cells.size = len' p.cells := by rw [len'_eq, hl]; simp
            have hpos' : 0 < v.cells.toList.length := by rw [← hl, ← len'_eq]; exact hpos
            have hnn := own_nonnil h2 (by omega)
            obtain ⟨cur', g1, g2⟩ := own_store (P := P) h2 ho2 hpos' hone
            refine ⟨w.setRow q.blk cur', ?_, hR.upd hq hg (by simp [Blk.alive, hnn]) ⟨_, ho1, g2⟩⟩
            unfold storeVar
            simp only [Sem.run_bind, run_size hsize, Result.andThen_ok]
            rw [if_neg (by simpa using hsz)]
            exact g1
        · cases hs
theorem HRel.storeE [Glob] (hR : HRel w0 Sx pl h w) {t b z idx sub : Nat} {p : PV} {K : Heap → Prop} (hs : storeE P t h b z idx sub p K) {v : Value} (hv : p.R pl v) {ad : Addr} (had : addrOf pl b (idx * z + sub) = some ad) :
    ∃ w' h', (storeVar t ad v).run P w = .ok () w' ∧ HRel w0 Sx pl h' w' ∧ K h' := by
  unfold AM.storeE at hs
  unfold addrOf at had
  cases hq : pl[b]? with
  | none => simp [hq] at had
  | some q =>
    simp [hq] at had
    subst had
    split at hs
    · rename_i T C xs hg
      rw [get?_eq] at hg
      split at hs
      · rename_i hk
        simp only [Bool.and_eq_true, decide_eq_true_eq] at hk
        obtain ⟨⟨⟨hk, hz⟩, hsize⟩, hpos⟩ := hk
        subst hz
        split at hs
        · rename_i cs' ho
          split at hs
          · rename_i y hy
            obtain ⟨hi, hK⟩ := hs
            obtain ⟨vs, h1, h2⟩ := hR.hb b _ q hg hq
            have ⟨hc, hone⟩ := PV.cells_R hk hv
            have hseg := flat_get h1 hi
            have ⟨ho1, ho2⟩ := over_spec hseg hc ho
            have hl := hc.length
            have hsz : v.cells.size = len' p.cells := by rw [len'_eq, hl]; simp
            have hpos' : 0 < v.cells.toList.length := by rw [← hl, ← len'_eq]; exact hpos
            have hset := flat_set h1 hi (C.dec_ok _ _ _ _ hy ho1)
            have hvl : vs.length = xs.length * C.esz := by rw [← h1.length, flat_len]
            have hoz : idx * C.esz + C.esz ≤ vs.length := by
              rw [hvl, ← Nat.succ_mul]; exact Nat.mul_le_mul_right _ hi
            have hsub : sub + v.cells.toList.length ≤ C.esz := by simp at ho2 ⊢; omega
            rw [splice hsub hoz] at hset
            have hnn := own_nonnil h2 (by omega)
            obtain ⟨cur', g1, g2⟩ := own_store (P := P) h2 (off := idx * C.esz + sub) (us := v.cells.toList) (by omega) hpos' hone
            refine ⟨w.setRow q.blk cur', _, ?_, hR.upd hq hg (by simp [Blk.alive, hnn]) (x' := .own T C (xs.set idx y)) ⟨_, hset, by simpa using g2⟩, hK⟩
            unfold storeVar
            simp only [Sem.run_bind, run_size hsize, Result.andThen_ok]
            rw [if_neg (by simpa using hsz)]
            exact g1
          · exact hs.elim
        · exact hs.elim
      · exact hs.elim
    · exact hs.elim

theorem splitIx_pick {i : Int} {K : Nat → Prop} : ∀ {n : Nat}, splitIx i K n → 0 ≤ i → i < (n : Int) → K i.toNat
  | 0, _, h0, h1 => by omega
  | n + 1, hs, h0, h1 => by
    by_cases e : i = (n : Int)
    · have := hs.2 e
      rwa [show i.toNat = n by omega]
    · exact splitIx_pick hs.1 h0 (by omega)

theorem wp_of_run {o : Oper} {a : Act} {next : Act → World → Prop} {Q : Exit → Act → World → Prop} {v : Value} {w' : World} (hr : (execOp a.eval o).run P w = .ok (.value v) w') (hn : next (a.put o.dst v) w') : o.wp P a w next Q := by
  unfold Oper.wp
  rw [hr]
  exact hn

theorem repC_R {z : List SV} {zs : List Value} (hz : RL pl z zs) : ∀ n, RL pl (repC z n) (List.flatten (List.replicate n zs))
  | 0 => by simp [repC, RL]
  | n + 1 => by
    simp only [repC, app_eq, List.replicate_succ, List.flatten_cons]
    exact hz.append (repC_R hz n)
theorem repC_len {z : List SV} : ∀ n, (repC z n).length = n * z.length
  | 0 => by simp [repC]
  | n + 1 => by simp [repC, app_eq, repC_len n, Nat.add_mul, Nat.add_comm]
theorem over_len {α : Type _} : ∀ {n : Nat} {l ys r : List α}, over l n ys = some r → r.length = l.length
  | 0, l, [], r, h => by cases l <;> simp [over] at h <;> subst h <;> rfl
  | 0, [], y :: ys, _, h => by simp [over] at h
  | n + 1, [], _, _, h => by simp [over] at h
  | 0, s :: l, y :: ys, r, h => by
    simp only [over] at h
    cases ho : over l 0 ys with
    | none => simp [ho] at h
    | some r' => simp [ho] at h; subst h; simp [over_len ho]
  | n + 1, s :: l, ys, r, h => by
    simp only [over] at h
    cases ho : over l n ys with
    | none => simp [ho] at h
    | some r' => simp [ho] at h; subst h; simp [over_len ho]
theorem fillP_len {place : Nat → Option (Nat × Nat)} : ∀ {ps : List (Nat × PV)} {cells r : List SV}, fillP place cells ps = some r → r.length = cells.length
  | [], _, _, h => by simp [fillP] at h; subst h; rfl
  | (i, p) :: ps, cells, r, h => by
    simp only [fillP] at h
    cases hq : place i with
    | none => simp [hq] at h
    | some os =>
      simp only [hq] at h
      split at h
      · cases ho : over cells os.1 p.cells with
        | none => simp [ho] at h
        | some cs => simp only [ho] at h; rw [fillP_len h, over_len ho]
      · cases h
theorem zeros_eq (z : Array Value) : ∀ n, ((Array.range (n * z.size)).map (fun i => z[i % z.size]!)).toList = List.flatten (List.replicate n z.toList)
  | 0 => by simp
  | n + 1 => by
    have ih := zeros_eq z n
    rw [List.replicate_succ', List.flatten_append, ← ih]
    simp only [Array.toList_map, Array.toList_range, Nat.add_mul, Nat.one_mul, List.range_add, List.map_append, List.map_map, List.flatten_cons, List.flatten_nil, List.append_nil]
    congr 1
    apply List.ext_getElem
    · simp
    · intro j h1 h2
      simp only [List.getElem_map, List.getElem_range, Function.comp]
      simp at h1
      rw [Nat.mul_add_mod_self_right, Nat.mod_eq_of_lt h1]
      simp [h1]
theorem sliceV_sound [Glob] (hR : HRel w0 Sx pl h w) {t n : Nat} {parts : List (Nat × Operand)} {env : Env} {K : KV} {f : Nat × Operand → Nat × Value} (hE : ∀ ps, evParts env parts = some ps → PartsR pl ps (parts.map f))
    (hk : sliceV P t n (evParts env parts) h K) : ∃ w', (Instr.buildSlice t n (parts.map f).toArray).run P w = .ok (.slice (some ⟨w.heap.size, 0, none⟩) n n) w' ∧ ∃ av h' pl', K av h' ∧ av.R pl' (.slice (some ⟨w.heap.size, 0, none⟩) n n) ∧ PExt pl pl' ∧ HRel w0 Sx pl' h' w' := by
  unfold sliceV at hk
  split at hk
  · rename_i e ps hu hps
    split at hk
    · rename_i z sz hz hs
      split at hk
      · rename_i hlz
        split at hk
        · rename_i cs hf
          split at hk
          · rename_i hc
            simp only [Bool.and_eq_true, decide_eq_true_eq] at hc
            obtain ⟨hkn, hsmall⟩ := hc
            obtain ⟨i, v, hi, hv, rfl⟩ := zeroOf_spec hz
            have hsz := info_size hs
            rw [hi] at hsz
            simp at hsz
            have hzr := ofValue_cells (pl := pl) v
            have hzl : v.cells.size = sz + 1 := by rw [← hlz, len'_eq, hzr.length]; simp
            have hrep := repC_R hzr n
            obtain ⟨us, h1, h2⟩ := fill_sound (place' := fun i => some (i * (sz + 1), sz + 1)) (fun _ => rfl) (hE ps hps) hrep hf
            have hus : us.length = n * (sz + 1) := by rw [← h1.length, fillP_len hf, repC_len, hzr.length]; simp [hzl]
            have e0 : (Array.range (n * (sz + 1))).map (fun i => v.cells[i % v.cells.size]!) = (List.flatten (List.replicate n v.cells.toList)).toArray := by
              apply Array.ext'
              have := zeros_eq v.cells n
              rw [hzl] at this ⊢
              simpa using this
            have hrun : (Instr.buildSlice t n (parts.map f).toArray).run P w = .ok (.slice (some ⟨w.heap.size, 0, none⟩) n n) (w.alloc (.cells us.toArray e)) := by
              by_cases h0 : n = 0
              · subst h0
                simp at h2
                have e00 : Array.range 0 = #[] := rfl
                simp [Instr.buildSlice, run_underlying hu, run_size hs, h2, newRow, e00]
              · have hpos : ¬ n * i.size = 0 := by rw [hsz]; intro h; rcases Nat.mul_eq_zero.1 h with h | h <;> omega
                have := Go.run_buildSlice (P := P) w t e n (parts.map f).toArray us.toArray i v hu hi hv (by rw [hsz]; omega) hpos (by rw [hsz, e0]; simpa using h2)
                exact this
            have hg := World.grownBy_alloc w (.cells us.toArray e) none
            have hnew : (w.alloc (.cells us.toArray e)).heap[w.heap.size]? = some (.cells us.toArray e (0, 0)) := heap_alloc_new w _
            have hF := hR.fresh (p' := ⟨w.heap.size, false, n⟩) (x' := .ownL e (sz + 1) n cs) (hR.fr.grown hg (by simp)) hg.size (fun b p x hp hx ha => hg.block _ (hR.lt b p x hp hx ha) (by simp))
              ⟨us, h1.ext (PExt.push pl _), hus, .inr ⟨w.heap.size, n, us.toArray, by simp [Pl.sv], Nat.zero_le _, ⟨(0, 0), hnew, offEnd0 _⟩, Nat.le_refl _, ?_, by simpa using hus, by simp [List.take_of_length_le, hus]⟩⟩
              (fun _ => ⟨by show w.heap.size < (w.heap.push _).size; simp, .inl hR.fr.size, fun b p x hp hx ha => by have := hR.lt b p x hp hx ha; simp only; omega⟩)
            · refine ⟨_, hrun, _, _, _, hk, ?_, hF.2, hF.1⟩
              refine .inr ?_
              simp [SV.val, owVal, len'_eq, ← hR.len]
            · have : n ≤ n * (sz + 1) := Nat.le_mul_of_pos_right _ (Nat.succ_pos _)
              simp only [maxLen]; omega
          · exact hk.elim
        · exact hk.elim
      · exact hk.elim
    · exact hk.elim
  · exact hk.elim
theorem app_own {t e : Nat} {i : TypeInfo} {z : Value} {size bytes : Nat} (ht : P.underlying t = some (.slice e)) (hi : P.info? e = some i) (hz : i.zero = some z)
    (hsize : i.size = size) (hby : i.bytes = bytes) (hzs : z.cells.size = size) (hsz : 0 < size) {p : Pl} {n : Nat} {xs : List Value} (hown : w.ownsRowZ 0 e size (p.sv n) n xs)
    {ad : Addr} {m c : Nat} {news : List Value} (hl : news.length = m * size) (hnews : ∀ (j : Nat) u, news[j]? = some u → w.cell? (ad.add j) = some u) (h1 : ∀ u ∈ news, u.oneCell' = true) (hm : 0 < m)
    (h63 : n + m ≤ maxLen) (hbytes : (n + m) * bytes ≤ 140737488355328) :
    ∃ (p' : Pl) (w' : World), (∀ ty, (Builtin.append_ #[t, t] ty #[p.sv n, .slice (some ad) m c]).run P w = .ok (p'.sv (n + m)) w') ∧ p'.nil = false ∧ w'.ownsRowZ 0 e size (p'.sv (n + m)) (n + m) (xs ++ news) ∧
      w.grownBy w' (p.sv n).ownBlock ∧ ((p.nil = false ∧ p'.blk = p.blk) ∨ w.heap.size ≤ p'.blk) ∧ p'.blk < w'.heap.size := by
  have fin : ∀ (base : Nat), base ≤ w.heap.size → w.ownsRowZ base e size (p.sv n) n xs → ∃ (p' : Pl) (w' : World), (∀ ty, (Builtin.append_ #[t, t] ty #[p.sv n, .slice (some ad) m c]).run P w = .ok (p'.sv (n + m)) w') ∧ p'.nil = false ∧
      w'.ownsRowZ 0 e size (p'.sv (n + m)) (n + m) (xs ++ news) ∧ w.grownBy w' (p.sv n).ownBlock ∧ base ≤ p'.blk ∧ p'.blk < w'.heap.size := by
    intro base hb ho
    obtain ⟨v', w', g1, g2, g3, g4⟩ := run_append_ownZ (P := P) w base t 0 e i z size bytes ht hi hz hsize hby hzs hsz (p.sv n) n xs ho ad m c news hl hnews h1 h63 hbytes hb
    rcases g2.2 with ⟨hv, h0⟩ | ⟨g, cap, cur, hv, k1, k2, k3⟩
    · omega
    · refine ⟨⟨g, false, cap⟩, w', fun ty => ?_, rfl, ?_, g3, k1, (Array.getElem?_eq_some_iff.1 k2.choose_spec.1).1⟩
      · have : (Builtin.append_ #[t, t] ty #[p.sv n, .slice (some ad) m c]) = (Builtin.append_ #[t, t] 0 #[p.sv n, .slice (some ad) m c]) := rfl
        rw [this, g1, hv]
        simp [Pl.sv]
      · exact ⟨g2.1, .inr ⟨g, cap, cur, by simp [Pl.sv], Nat.zero_le _, k2, k3⟩⟩
  cases hn : p.nil with
  | true =>
    have ho : w.ownsRowZ w.heap.size e size (p.sv n) n xs := by
      refine ⟨hown.1, ?_⟩
      rcases hown.2 with h | ⟨g, cap, cur, hv, _⟩
      · exact .inl h
      · simp [Pl.sv, hn] at hv
    obtain ⟨p', w', g1, g2, g3, g4, g5, g6⟩ := fin w.heap.size (Nat.le_refl _) ho
    exact ⟨p', w', g1, g2, g3, g4, .inr g5, g6⟩
  | false =>
    obtain ⟨p', w', g1, g2, g3, g4, g5, g6⟩ := fin 0 (Nat.zero_le _) hown
    refine ⟨p', w', g1, g2, g3, g4, ?_, g6⟩
    rcases hown.2 with ⟨h, _⟩ | ⟨g, cap, cur, hv, _, ⟨fz, k2, kz⟩, k3, k4, k5, k6⟩
    · simp [Pl.sv, hn] at h
    · simp only [Pl.sv, hn, Bool.false_eq_true, if_false, Value.slice.injEq, Option.some.injEq, Addr.mk.injEq] at hv
      obtain ⟨⟨rfl, _⟩, _, rfl⟩ := hv
      have hr0 := g1 0
      have e1 : p.sv n = .slice (some ⟨p.blk, 0, none⟩) n p.cap := by simp [Pl.sv, hn]
      rw [e1] at hr0
      subst hsize hby
      have inj : ∀ {v1 v2 : Value} {w1 w2 : World}, (Result.ok v1 w1 : Result Value) = .ok v2 w2 → v1 = v2 := fun h => by injection h
      by_cases hroom : n + m ≤ p.cap
      · have hfit : n * i.size + news.length ≤ cur.size := by rw [hl, k5, ← Nat.add_mul]; exact Nat.mul_le_mul_right _ hroom
        have hr := run_append_roomZ (P := P) w t 0 e i ht hi p.blk n p.cap cur fz k2 kz ad m c news hl hnews h1 hroom hfit
        have := inj (hr0.symm.trans hr)
        simp [Pl.sv, g2] at this
        exact .inl ⟨rfl, this.1⟩
      · have holds : ∀ (j : Nat) u, xs[j]? = some u → w.cell? ((⟨p.blk, 0, none⟩ : Addr).add j) = some u := hown.cells (g := p.blk) (by simp [Pl.sv, hn, Value.ownBlock])
        have hr := run_append_grow (P := P) w t 0 e i z ht hi hz ⟨p.blk, 0, none⟩ n p.cap xs hown.1 holds ad m c news hl hnews (by omega) (by simp only [maxLen] at h63; omega) (growslice_fits (by omega) hbytes)
        have := inj (hr0.symm.trans hr)
        simp [Pl.sv, g2] at this
        exact .inr (by omega)
theorem decAll_R {C : Codec} : ∀ {m : Nat} {cs : List SV} {ys : List C.τ} {vs : List Value}, decAll C m cs = some ys → RL pl cs vs → vs.length = m * C.esz → RL pl (flatC C ys) vs ∧ ys.length = m
  | 0, cs, ys, vs, h, hv, hl => by
    simp [decAll] at h
    subst h
    have : vs = [] := List.eq_nil_of_length_eq_zero (by simpa using hl)
    subst this
    exact ⟨trivial, rfl⟩
  | m + 1, cs, ys, vs, h, hv, hl => by
    simp only [decAll] at h
    cases ht : takeE C.esz cs with
    | none => simp [ht] at h
    | some l =>
      cases hd : C.dec l with
      | none => simp [ht, hd] at h
      | some y =>
        cases hr : decAll C m (dropN C.esz cs) with
        | none => simp [ht, hd, hr] at h
        | some r =>
          simp [ht, hd, hr] at h
          subst h
          have ⟨h1, h2⟩ := RL.takeE hv ht
          have h3 := hv.drop C.esz
          have ih := decAll_R hr h3 (by rw [List.length_drop, hl, Nat.add_mul, Nat.one_mul]; omega)
          refine ⟨?_, by simp [ih.2]⟩
          have := RL.append (C.dec_ok _ _ _ _ hd h1) ih.1
          rwa [List.take_append_drop] at this
theorem flat_append {C : Codec} : ∀ (xs ys : List C.τ), flatC C (xs ++ ys) = flatC C xs ++ flatC C ys
  | [], _ => rfl
  | x :: xs, ys => by simp [flatC, flat_append xs ys]
theorem numEq_R : ∀ {l' l : List SV} {vs : List Value}, numEq l' l → RL pl l vs → RL pl l' vs
  | [], [], [], _, _ => trivial
  | [], [], _ :: _, _, h => h.elim
  | .sym k' n' :: l', .sym k n :: l, v :: vs, he, h => by
    obtain ⟨h1, h2⟩ := he
    split at h1
    · rename_i hk
      subst hk h1
      exact ⟨h.1, numEq_R h2 h.2⟩
    · exact h1.elim
  | .sym k' n' :: l', .con k n :: l, v :: vs, he, h => by
    obtain ⟨h1, h2⟩ := he
    split at h1
    · rename_i hk
      subst hk h1
      exact ⟨h.1.imp (fun h => by cases h) id, numEq_R h2 h.2⟩
    · exact h1.elim
  | .sym _ _ :: _, .sym _ _ :: _, [], _, h => h.elim
  | .sym _ _ :: _, .con _ _ :: _, [], _, h => h.elim
theorem num_R {C : Codec} {m : Nat} {cs : List SV} {ys : List C.τ} {vs : List Value} (h : SameNum C ys m cs) (hv : RL pl cs vs) : RL pl (flatC C ys) vs ∧ ys.length = m := by
  obtain ⟨hl, hf⟩ := h
  exact ⟨numEq_R hf hv, hl⟩
theorem appV_sound [Glob] {env : Env} {a : Act} {K : KV} (hE : EnvR pl env a.tmps) (hR : HRel w0 Sx pl h w) {args : Array Operand} {ts : Array Nat} (hk : appV P env args.toList ts.toList h K) :
    ∃ v av h' pl' w', (∀ ty, (Builtin.append_ ts ty (args.map a.eval)).run P w = .ok v w') ∧ K av h' ∧ av.R pl' v ∧ PExt pl pl' ∧ HRel w0 Sx pl' h' w' := by
  unfold appV at hk
  split at hk
  · rename_i s x t t' hargs hts
    have hargs' : args = #[s, x] := by rw [← Array.toArray_toList (xs := args), hargs]
    have hts' : ts = #[t, t'] := by rw [← Array.toArray_toList (xs := ts), hts]
    subst hargs' hts'
    have hs := hE.ev (a := a) s
    have hx := hE.ev (a := a) x
    split at hk
    · rename_i e b2 esz st m2 htt hu he
      have htt' : t = t' := by simpa using htt
      subst htt'
      rw [he] at hx
      split at hk
      · rename_i hm0
        have hm0 : m2 = 0 := by simpa using hm0
        subst hm0
        obtain ⟨ax, cx, hvx⟩ : ∃ ax cx, a.eval x = .slice ax 0 cx := by
          obtain ⟨p, hp, hc⟩ := ow_R' hx
          rcases hc with ⟨_, _, _, h2⟩ | ⟨_, h2⟩
          · exact ⟨_, _, h2⟩
          · exact ⟨_, _, h2⟩
        have hfirst : ∀ k, (Builtin.firstCells k 0 (.slice ax 0 cx)).run P w = .ok #[] w := fun k => by
          cases ax with
          | none => simp [Builtin.firstCells]
          | some a1 => simp [Builtin.firstCells, loadCells, loadCellsFrom]
        split at hk
        · rename_i z hz hes
          rw [hes] at hs
          refine ⟨.slice none 0 0, _, h, pl, w, fun ty => ?_, hk, .inr rfl, PExt.refl _, hR⟩
          have h1 := nils_R hs
          simp only [List.map_toArray, List.map_cons, List.map_nil]
          rw [h1, hvx]
          simp [Builtin.append_, run_underlying hu, run_size hz, Builtin.lenOf, hfirst]
        · rename_i z b esz' n hz hes
          rw [hes] at hs
          split at hk
          · rename_i T3 z3 n3 cs hg
            rw [get?_eq] at hg
            split at hk
            · rename_i hn3
              have hn3 : n3 = n := by simpa using hn3
              subst hn3
              refine ⟨a.eval s, _, h, pl, w, fun ty => ?_, hk, hs, PExt.refl _, hR⟩
              obtain ⟨p, hp, hc⟩ := ow_R hs (.inr rfl)
              simp only [List.map_toArray, List.map_cons, List.map_nil]
              rcases hc with ⟨_, _, h0, h2⟩ | ⟨hpn, h2⟩
              · rw [h2, hvx]
                simp [Builtin.append_, run_underlying hu, run_size hz, Builtin.lenOf, hfirst]
              · obtain ⟨vs, _, ho⟩ := hR.hb b _ p hg hp
                have hcap : n3 ≤ p.cap := by
                  rcases ho.2 with ⟨h1, _⟩ | ⟨g, cap, cur, h1, _, _, h3, _⟩
                  · simp [Pl.sv, hpn] at h1
                  · simp only [Pl.sv, hpn, Bool.false_eq_true, if_false, Value.slice.injEq] at h1
                    omega
                rw [h2, hvx]
                simp [Builtin.append_, run_underlying hu, run_size hz, Builtin.lenOf, hfirst, hcap, storeCells]
            · exact hk.elim
          · exact hk.elim
        · exact hk.elim
      split at hk
      · rename_i sz by_ z T2 esz2 n2 ms0 hsz hby hz hg2
        split at hk
        rotate_left
        · exact hk.elim
        rename_i ms htk
        split at hk
        · rename_i hc
          simp only [Bool.and_eq_true, decide_eq_true_eq] at hc
          obtain ⟨⟨⟨⟨⟨rfl, rfl⟩, rfl⟩, hlz⟩, hm⟩, hkn⟩ := hc
          obtain ⟨i, v, hi, hv, rfl⟩ := zeroOf_spec hz
          have hsize := info_size hsz
          rw [hi] at hsize
          simp at hsize
          have hbytes : i.bytes = by_ := by simpa [bytes?, hi] using hby
          have hzl : v.cells.size = sz + 1 := by rw [← hlz, len'_eq, (ofValue_cells (pl := pl) v).length]; simp
          obtain ⟨p2, hp2, hc2⟩ := ow_R hx (.inl hm)
          rw [get?_eq] at hg2
          obtain ⟨us0, hr0, ho2⟩ := hR.hb b2 _ p2 hg2 hp2
          obtain ⟨hr2, hle2⟩ := (hr0.drop (st * (sz + 1))).takeE htk
          generalize hus : (us0.drop (st * (sz + 1))).take (m2 * (sz + 1)) = us at hr2
          have hl2 : us.length = m2 * (sz + 1) := by rw [← hus, List.length_take]; omega
          have hpos : 0 < us.length := by rw [hl2]; exact Nat.mul_pos hm (Nat.succ_pos _)
          have hn2 := own_nonnil ho2 (by rw [List.length_drop] at hle2; omega)
          rcases hc2 with ⟨h0, _⟩ | ⟨_, hx'⟩
          · rw [h0] at hn2; cases hn2
          have hone := knownAll_oneCell hkn hr2
          have hnews : ∀ (j : Nat) u, us[j]? = some u → w.cell? ((⟨p2.blk, st * (sz + 1), none⟩ : Addr).add j) = some u := fun j u hu => by
            have hj : j < m2 * (sz + 1) := by rw [← hl2]; exact (List.getElem?_eq_some_iff.1 hu).1
            rw [← hus, List.getElem?_take_of_lt hj, List.getElem?_drop] at hu
            have := Seen.of_own ho2 _ u hu
            rw [Addr.add_lit]
            simpa using this
          -- the new row
          have fin : ∀ (p : Pl) (n : Nat) (xs : List Value) (hh : Heap) (x' : Blk) (len : Nat) (lit : Bool), a.eval s = p.sv n → w.ownsRowZ 0 T2 (sz + 1) (p.sv n) n xs → n + m2 ≤ maxLen → (n + m2) * by_ ≤ 140737488355328 → len = n + m2 →
              HRel w0 Sx pl hh w → hh.length = h.length → (p.nil = false → (w0.heap.size ≤ p.blk ∨ Sx p.blk) ∧ ∀ (c : Nat) q y, pl[c]? = some q → hh[c]? = some y → y.alive q = true → q.blk ≠ p.blk) →
              (∀ pl' w' p', PExt pl pl' → w'.ownsRowZ 0 T2 (sz + 1) (p'.sv (n + m2)) (n + m2) (xs ++ us) → p'.nil = false → BlkR pl' w' x' p') → (∀ p' : Pl, p'.nil = false → x'.alive p' = true ∧ x'.rd p' = false) → K (.v (.one (.ow (len' h) (sz + 1) 0 len lit))) (hh ++ [x']) →
              ∃ v av h' pl' w', (∀ ty, (Builtin.append_ #[t, t] ty (#[s, x].map a.eval)).run P w = .ok v w') ∧ K av h' ∧ av.R pl' v ∧ PExt pl pl' ∧ HRel w0 Sx pl' h' w' := by
            intro p n xs hh x' len lit hsv hown h63 hb hlen hRh hhl hfree hblk hal hK
            obtain ⟨p', w', g1, g2, g3, g4, g5, g6⟩ := app_own (P := P) hu hi hv hsize hbytes hzl (Nat.succ_pos _) hown hl2 hnews hone hm h63 hb (c := p2.cap - st)
            have hrow : ∀ k, (p.sv n).ownBlock = some k → p.nil = false ∧ k = p.blk := fun k hk => by
              unfold Pl.sv at hk
              cases hn : p.nil with
              | true => simp [hn, Value.ownBlock] at hk
              | false => simp [hn, Value.ownBlock] at hk; exact ⟨rfl, hk.symm⟩
            have hF := hRh.fresh (x' := x') (p' := p') (hRh.fr.grown g4 (fun k hk => by have := hrow k hk; rw [this.2]; exact (hfree this.1).1)) g4.size
              (fun c q y hq hy ha => g4.block _ (hRh.lt c q y hq hy ha) (fun e => by have := hrow _ e.symm; exact (hfree this.1).2 c q y hq hy ha this.2))
              (hblk _ _ _ (PExt.push pl _) g3 g2)
              (fun _ => ⟨g6, by
                rcases g5 with ⟨h1, h2⟩ | h1
                · rw [h2]; exact (hfree h1).1
                · exact .inl (Nat.le_trans hRh.fr.size h1), fun c q y hq hy ha => by
                rcases g5 with ⟨h1, h2⟩ | h1
                · rw [h2]; exact (hfree h1).2 c q y hq hy ha
                · have := hRh.lt c q y hq hy ha; omega⟩) (hrd := fun h => by rw [(hal p' g2).2] at h; cases h)
            refine ⟨p'.sv (n + m2), _, _, _, w', fun ty => ?_, hK, ?_, hF.2, hF.1⟩
            · have := g1 ty
              simp only [List.map_toArray, List.map_cons, List.map_nil]
              rw [hsv, hx']
              exact this
            · refine .inr ?_
              have e0 : len' h = pl.length := by rw [len'_eq, hR.len]
              simp [SV.val, owVal, e0, g2, Pl.sv, hlen]
          split at hk
          · -- to the nil slice
            rename_i hes
            rw [hes] at hs
            split at hk
            · rename_i hc
              simp only [Bool.and_eq_true, decide_eq_true_eq] at hc
              have hnil : a.eval s = (⟨0, true, 0⟩ : Pl).sv 0 := by rw [nils_R hs]; rfl
              refine fin ⟨0, true, 0⟩ 0 [] h (.ownL T2 (sz + 1) m2 ms) m2 true hnil (World.ownsRowZ_nil w 0 T2 (sz + 1)) (by simp only [maxLen]; omega) (by simpa using hc.1) (by omega) hR rfl (fun h => by cases h) ?_ (fun p' h => ⟨by simp [Blk.alive, h], rfl⟩) hk
              intro pl' w' p' hp ho hn
              rw [Nat.zero_add, List.nil_append] at ho
              exact ⟨us, hr2.ext hp, ho⟩
            · exact hk.elim
          · -- to a row
            rename_i b esz' n lit hes
            rw [hes] at hs
            split at hk
            · rename_i hc0
              simp only [Bool.and_eq_true, decide_eq_true_eq] at hc0
              obtain ⟨rfl, hbb⟩ := hc0
              obtain ⟨p, hp, hpc⟩ := ow_R hs (.inr rfl)
              have hsv : a.eval s = p.sv n := by
                rcases hpc with ⟨h1, _, h2, h3⟩ | ⟨h1, h3⟩
                · rw [h3, Pl.sv, if_pos h1]
                · rw [h3]; simp [Pl.sv, h1]
              have hfree : ∀ x0, h[b]? = some x0 → (p.nil = false → x0.alive p = true) → p.nil = false → (w0.heap.size ≤ p.blk ∨ Sx p.blk) ∧ ∀ (c : Nat) q y, pl[c]? = some q → (AM.set h b .gone)[c]? = some y → y.alive q = true → q.blk ≠ p.blk := fun x0 hx0 ha0 hn => by
                refine ⟨hR.own b p x0 hp hx0 (ha0 hn), fun c q y hq hy ha e => ?_⟩
                by_cases ebc : b = c
                · subst ebc
                  rw [get_set_same hx0] at hy
                  cases hy
                  cases ha
                · rw [get_set_other ebc] at hy
                  exact ebc (hR.inj b c p q x0 y hp hq hx0 hy (ha0 hn) ha e.symm)
              split at hk
              · rename_i T esz3 n3 cs hg
                rw [get?_eq] at hg
                split at hk
                · rename_i hc
                  simp only [Bool.and_eq_true, decide_eq_true_eq] at hc
                  obtain ⟨⟨⟨⟨rfl, rfl⟩, rfl⟩, hb⟩, hsm⟩ := hc
                  obtain ⟨xs, hr, ho⟩ := hR.hb b _ p hg hp
                  refine fin p n3 xs (AM.set h b .gone) (.ownL T (sz + 1) (n3 + m2) (app cs ms)) (n3 + m2) true hsv ho (by simp only [maxLen]; omega) hb rfl (hR.forget b) (by simp [set_eq]) (hfree _ hg (fun h => by simp [Blk.alive, h])) ?_ (fun p' h => ⟨by simp [Blk.alive, h], rfl⟩) hk
                  intro pl' w' p' hpx ho' hn
                  exact ⟨xs ++ us, by rw [app_eq]; exact (hr.append hr2).ext hpx, ho'⟩
                · exact hk.elim
              · rename_i T C xs0 hg
                rw [get?_eq] at hg
                split at hk
                · rename_i hc
                  simp only [Bool.and_eq_true, decide_eq_true_eq] at hc
                  obtain ⟨⟨hce, rfl⟩, _⟩ := hc
                  split at hk
                  · rename_i ys hys
                    obtain ⟨⟨hnx, hb, hsm⟩, hk⟩ := hk
                    subst hnx
                    obtain ⟨xs, hr, ho⟩ := hR.hb b _ p hg hp
                    rw [hce] at ho
                    have hd := decAll_R hys hr2 (by rw [hl2, hce])
                    refine fin p xs0.length xs (AM.set h b .gone) (.own T C (xs0 ++ ys)) (xs0.length + m2) false hsv ho (by simp only [maxLen]; omega) hb rfl (hR.forget b) (by simp [set_eq]) (hfree _ hg (fun h => by simp [Blk.alive, h])) ?_ (fun p' h => ⟨by simp [Blk.alive, h], rfl⟩) hk
                    intro pl' w' p' hpx ho' hn
                    refine ⟨xs ++ us, by rw [flat_append]; exact (hr.append hd.1).ext hpx, ?_⟩
                    rw [hce, List.length_append, hd.2]
                    exact ho'
                  · obtain ⟨ys, hys, ⟨hnx, hb, hsm⟩, hk⟩ := hk
                    subst hnx
                    obtain ⟨xs, hr, ho⟩ := hR.hb b _ p hg hp
                    rw [hce] at ho
                    have hd := num_R hys hr2
                    refine fin p xs0.length xs (AM.set h b .gone) (.own T C (xs0 ++ ys)) (xs0.length + m2) false hsv ho (by simp only [maxLen]; omega) hb rfl (hR.forget b) (by simp [set_eq]) (hfree _ hg (fun h => by simp [Blk.alive, h])) ?_ (fun p' h => ⟨by simp [Blk.alive, h], rfl⟩) hk
                    intro pl' w' p' hpx ho' hn
                    refine ⟨xs ++ us, by rw [flat_append]; exact (hr.append hd.1).ext hpx, ?_⟩
                    rw [hce, List.length_append, hd.2]
                    exact ho'
                · exact hk.elim
              · exact hk.elim
            · exact hk.elim
          · exact hk.elim
        · exact hk.elim
      · exact hk.elim
    · exact hk.elim
  · exact hk.elim
theorem flat_sub {C : Codec} {xs : List C.τ} {vs : List Value} {st m : Nat} (h : RL pl (flatC C xs) vs) (hle : st + m ≤ xs.length) :
    RL pl (flatC C ((xs.drop st).take m)) ((vs.drop (st * C.esz)).take (m * C.esz)) := by
  have h1 : RL pl (flatC C (xs.drop st)) (vs.drop (st * C.esz)) := by
    rw [← List.take_append_drop st xs, flat_append] at h
    have := (RL.split h).2
    rwa [flat_len, List.length_take, Nat.min_eq_left (by omega)] at this
  rw [← List.take_append_drop m (xs.drop st), flat_append] at h1
  have := (RL.split h1).1
  rwa [flat_len, List.length_take, List.length_drop, Nat.min_eq_left (by omega)] at this
theorem srcV_R [Glob] (hR : HRel w0 Sx pl h w) {x : AV} {v : Value} (hx : x.R pl v) {C : Codec} {b2 m : Nat} {pr : Prop} {ys : List C.τ} (hs : srcV h x = some ⟨C, (b2, m, pr, ys)⟩) (hpr : pr) :
    ∃ (ad : Option Addr) (c : Nat) (us : List Value), v = .slice ad m c ∧ RL pl (flatC C ys) us ∧ ys.length = m ∧ us.length = m * C.esz ∧ (ad = none → m = 0 ∧ c = 0) ∧
      ∀ a, ad = some a → a.spot = none ∧ a.block < w.heap.size ∧ Seen w a.block a.off us := by
  unfold srcV at hs
  split at hs
  · rename_i b esz m' cap
    split at hs
    · rename_i T C' xs hg
      rw [get?_eq] at hg
      split at hs
      · rename_i hce
        simp only [Option.some.injEq, Sigma.mk.injEq] at hs
        obtain ⟨rfl, hs⟩ := hs
        have hs := eq_of_heq hs
        simp only [Prod.mk.injEq] at hs
        obtain ⟨rfl, rfl, rfl, rfl⟩ := hs
        have hpr : m' = xs.length := hpr
        obtain ⟨p, hp, hc⟩ := rs_R hx
        obtain ⟨vs, g1, g2, g3⟩ := hR.hb _ _ p hg hp
        have hlen : vs.length = m' * C'.esz := by rw [← g1.length, flat_len, hpr]
        rcases hc with ⟨_, h0, hcap, hv⟩ | ⟨hn, hv⟩
        · exact ⟨none, cap, vs, by rw [hv, h0, hcap], g1, hpr.symm, hlen, fun _ => ⟨h0, hcap⟩, fun a ha => by cases ha⟩
        · refine ⟨_, cap, vs, hv, g1, hpr.symm, hlen, fun h => (by cases h), fun a ha => ?_⟩
          cases ha
          exact ⟨rfl, Nat.lt_of_lt_of_le (hR.rok.1 _ (hR.ro _ p _ hp hg (by simp [Blk.rd, hn]))).1 hR.fr.size, g3⟩
      · cases hs
    · cases hs
  · rename_i b esz st m'
    split at hs
    · rename_i T C' xs hg
      rw [get?_eq] at hg
      split at hs
      · rename_i hce
        simp only [Option.some.injEq, Sigma.mk.injEq] at hs
        obtain ⟨rfl, hs⟩ := hs
        have hs := eq_of_heq hs
        simp only [Prod.mk.injEq] at hs
        obtain ⟨rfl, rfl, rfl, rfl⟩ := hs
        have hpr : st + m' ≤ xs.length := hpr
        obtain ⟨p, hp, hc⟩ := ow_R' hx
        obtain ⟨vs, g1, g2⟩ := hR.hb _ _ p hg hp
        have hvl : vs.length = xs.length * C'.esz := by rw [← g1.length, flat_len]
        have g4 := flat_sub g1 hpr
        have hlen : ((xs.drop st).take m').length = m' := by rw [List.length_take, List.length_drop]; omega
        have hlen2 : ((vs.drop (st * C'.esz)).take (m' * C'.esz)).length = m' * C'.esz := by rw [← g4.length, flat_len, hlen]
        rcases hc with ⟨_, _, h0, hv⟩ | ⟨hn, hv⟩
        · exact ⟨none, 0, _, by rw [hv, h0], g4, hlen, hlen2, fun _ => ⟨h0, rfl⟩, fun a ha => by cases ha⟩
        · refine ⟨_, _, _, hv, g4, hlen, hlen2, fun h => (by cases h), fun a ha => ?_⟩
          cases ha
          refine ⟨rfl, hR.lt _ p _ hp hg (by simp [Blk.alive, hn]), fun j u hj => ?_⟩
          have hj' : j < m' * C'.esz := by rw [← hlen2]; exact (List.getElem?_eq_some_iff.1 hj).1
          have hm0 : m' ≠ 0 := fun h => by rw [h] at hj'; simp at hj'
          rw [List.getElem?_take_of_lt hj', List.getElem?_drop] at hj
          have := Seen.of_own g2 _ u hj
          simp only [if_neg (show ¬(m' = 0 ∧ p.cap = st) from fun h => hm0 h.1)]
          rw [Nat.zero_add] at this
          rw [← hce]
          exact this
      · cases hs
    · cases hs
  · cases hs
theorem same_R {C1 C2 : Codec} {zs : List C1.τ} {ys : List C2.τ} {us : List Value} (hs : SameRows C1 zs C2 ys) (h : RL pl (flatC C2 ys) us) : RL pl (flatC C1 zs) us := by
  rw [hs.hf']
  exact h
theorem app_own_row [Glob] (hR : HRel w0 Sx pl h w) {t e size bytes : Nat} {i : TypeInfo} {z : Value} (hu : P.underlying t = some (.slice e)) (hi : P.info? e = some i) (hz : i.zero = some z) (hsz : size? P e = some size) (hsize : i.size = size) (hby : i.bytes = bytes) (hzs : z.cells.size = size) (hpos : 0 < size)
    {p : Pl} {n : Nat} {xs us : List Value} {hh : Heap} {C : Codec} {zs : List C.τ} (hCe : C.esz = size) (hown : w.ownsRowZ 0 e size (p.sv n) n xs) (hRh : HRel w0 Sx pl hh w) (hhl : hh.length = h.length)
    (hfree : p.nil = false → (w0.heap.size ≤ p.blk ∨ Sx p.blk) ∧ p.blk < w.heap.size ∧ ∀ (c : Nat) q y, pl[c]? = some q → hh[c]? = some y → y.alive q = true → q.blk ≠ p.blk)
    {ad : Option Addr} {m c : Nat} (hl : us.length = m * size) (hnews : 0 < m → ∃ a, ad = some a ∧ ∀ (j : Nat) u, us[j]? = some u → w.cell? (a.add j) = some u) (hone : ∀ u ∈ us, u.oneCell' = true)
    (h63 : n + m ≤ maxLen) (hb : (n + m) * bytes ≤ 140737488355328) (hrow : RL pl (flatC C zs) (xs ++ us)) (hzl : zs.length = n + m) :
    ∃ v' w' pl', (∀ ty, (Builtin.append_ #[t, t] ty #[p.sv n, .slice ad m c]).run P w = .ok v' w') ∧ (AV.v (.one (.ow pl.length size 0 (n + m) false))).R pl' v' ∧ PExt pl pl' ∧ HRel w0 Sx pl' (hh ++ [.own e C zs]) w' := by
  by_cases hm : 0 < m
  · obtain ⟨a, rfl, hn⟩ := hnews hm
    obtain ⟨p', w', g1, g2, g3, g4, g5, g6⟩ := app_own (P := P) hu hi hz hsize hby hzs hpos hown hl hn hone hm h63 hb (c := c)
    have hrow' : ∀ k, (p.sv n).ownBlock = some k → p.nil = false ∧ k = p.blk := fun k hk => by
      unfold Pl.sv at hk
      cases hn : p.nil with
      | true => simp [hn, Value.ownBlock] at hk
      | false => simp [hn, Value.ownBlock] at hk; exact ⟨rfl, hk.symm⟩
    have hF := hRh.fresh (x' := .own e C zs) (p' := p') (hRh.fr.grown g4 (fun k hk => by have := hrow' k hk; rw [this.2]; exact (hfree this.1).1)) g4.size
      (fun c q y hq hy ha => g4.block _ (hRh.lt c q y hq hy ha) (fun e => by have := hrow' _ e.symm; exact (hfree this.1).2.2 c q y hq hy ha this.2))
      ⟨xs ++ us, hrow.ext (PExt.push pl _), by rw [hCe, hzl]; exact g3⟩
      (fun _ => ⟨g6, by
        rcases g5 with ⟨h1, h2⟩ | h1
        · rw [h2]; exact (hfree h1).1
        · exact .inl (Nat.le_trans hRh.fr.size h1), fun c q y hq hy ha => by
        rcases g5 with ⟨h1, h2⟩ | h1
        · rw [h2]; exact (hfree h1).2.2 c q y hq hy ha
        · have := hRh.lt c q y hq hy ha; omega⟩)
    exact ⟨p'.sv (n + m), w', _, g1, .inr (by simp [SV.val, owVal, g2, Pl.sv]), hF.2, hF.1⟩
  · obtain rfl : m = 0 := by omega
    have hus : us = [] := List.eq_nil_of_length_eq_zero (by simpa using hl)
    subst hus
    rw [List.append_nil] at hrow
    have hfirst : ∀ k, (Builtin.firstCells k 0 (.slice ad 0 c)).run P w = .ok #[] w := fun k => by
      cases ad with
      | none => simp [Builtin.firstCells]
      | some a1 => simp [Builtin.firstCells, loadCells, loadCellsFrom]
    have hF := hRh.fresh (x' := .own e C zs) (p' := p) hRh.fr (Nat.le_refl _) (fun _ _ _ _ _ _ => rfl) ⟨xs, hrow.ext (PExt.push pl _), by rw [hCe, hzl]; exact hown⟩
      (fun ha => by
        have hn : p.nil = false := by simpa [Blk.alive] using ha
        have := hfree hn
        exact ⟨this.2.1, this.1, this.2.2⟩)
    refine ⟨p.sv n, w, _, fun ty => ?_, .inr ?_, hF.2, hF.1⟩
    · cases hn : p.nil with
      | true =>
        simp [Builtin.append_, run_underlying hu, run_size hsz, Builtin.lenOf, hfirst, Pl.sv, hn]
      | false =>
        have hcap : n ≤ p.cap := by
          rcases hown.2 with ⟨h1, _⟩ | ⟨g, cap, cur, h1, _, _, h3, _⟩
          · simp [Pl.sv, hn] at h1
          · simp only [Pl.sv, hn, Bool.false_eq_true, if_false, Value.slice.injEq] at h1
            omega
        simp [Builtin.append_, run_underlying hu, run_size hsz, Builtin.lenOf, hfirst, Pl.sv, hn, hcap, storeCells]
    · cases hn : p.nil with
      | true =>
        have h0 : n = 0 := by
          rcases hown.2 with ⟨h1, h2⟩ | ⟨g, cap, cur, h1, _⟩
          · exact h2
          · simp [Pl.sv, hn] at h1
        simp [SV.val, owVal, hn, Pl.sv, h0]
      | false => simp [SV.val, owVal, hn, Pl.sv]
theorem appR_sound [Glob] (hR : HRel w0 Sx pl h w) {t : Nat} {s x : AV} {vs vx : Value} (hs : s.R pl vs) (hx : x.R pl vx) {src : (C : Codec) × (Nat × Nat × Prop × List C.τ)} (hsrc : srcV h x = some src) {K : KV} (hk : appR P h t s src K) :
    ∃ v av h' pl' w', (∀ ty, (Builtin.append_ #[t, t] ty #[vs, vx]).run P w = .ok v w') ∧ K av h' ∧ av.R pl' v ∧ PExt pl pl' ∧ HRel w0 Sx pl' h' w' := by
  obtain ⟨C, b2, m, pr, ys⟩ := src
  unfold appR at hk
  simp only at hk
  split at hk
  · rename_i e hu
    split at hk
    · rename_i sz by_ z hsz hby hz
      split at hk
      · rename_i hc
        simp only [Bool.and_eq_true, decide_eq_true_eq] at hc
        obtain ⟨hlz, hCe⟩ := hc
        obtain ⟨i, v, hi, hv, rfl⟩ := zeroOf_spec hz
        have hsize := info_size hsz
        rw [hi] at hsize
        simp at hsize
        have hbytes : i.bytes = by_ := by simpa [bytes?, hi] using hby
        have hzl : v.cells.size = sz + 1 := by rw [← hlz, len'_eq, (ofValue_cells (pl := pl) v).length]; simp
        have src : pr → ∃ (ad : Option Addr) (c : Nat) (us : List Value), vx = .slice ad m c ∧ RL pl (flatC C ys) us ∧ ys.length = m ∧ us.length = m * (sz + 1) ∧ (∀ u ∈ us, u.oneCell' = true) ∧ (0 < m → ∃ a, ad = some a ∧ ∀ (j : Nat) u, us[j]? = some u → w.cell? (a.add j) = some u) := fun hpr => by
          obtain ⟨ad, c, us, k1, k2, k3, k4, k5, k6⟩ := srcV_R hR hx hsrc hpr
          refine ⟨ad, c, us, k1, k2, k3, by rw [k4, hCe], knownAll_oneCell (flat_known ys) k2, fun hm => ?_⟩
          cases ad with
          | none => have := (k5 rfl).1; omega
          | some a =>
            obtain ⟨q1, _, q3⟩ := k6 a rfl
            refine ⟨a, rfl, fun j u hj => ?_⟩
            have := q3 j u hj
            obtain ⟨ab, ao, asp⟩ := a
            simp only at q1
            subst q1
            rw [Addr.add_lit]
            exact this
        have fin : ∀ {p : Pl} {n : Nat} {xs us : List Value} {hh : Heap} {C1 : Codec} {zs : List C1.τ} {ad : Option Addr} {c : Nat}, vs = p.sv n → vx = .slice ad m c → C1.esz = sz + 1 → w.ownsRowZ 0 e (sz + 1) (p.sv n) n xs → HRel w0 Sx pl hh w → hh.length = h.length →
            (p.nil = false → (w0.heap.size ≤ p.blk ∨ Sx p.blk) ∧ p.blk < w.heap.size ∧ ∀ (c : Nat) q y, pl[c]? = some q → hh[c]? = some y → y.alive q = true → q.blk ≠ p.blk) →
            us.length = m * (sz + 1) → (0 < m → ∃ a, ad = some a ∧ ∀ (j : Nat) u, us[j]? = some u → w.cell? (a.add j) = some u) → (∀ u ∈ us, u.oneCell' = true) → n + m ≤ maxLen → (n + m) * by_ ≤ 140737488355328 → RL pl (flatC C1 zs) (xs ++ us) → zs.length = n + m →
            K (.v (.one (.ow (len' h) (sz + 1) 0 (n + m) false))) (hh ++ [.own e C1 zs]) → ∃ v av h' pl' w', (∀ ty, (Builtin.append_ #[t, t] ty #[vs, vx]).run P w = .ok v w') ∧ K av h' ∧ av.R pl' v ∧ PExt pl pl' ∧ HRel w0 Sx pl' h' w' := by
          intro p n xs us hh C1 zs ad c h1 h2 h3 h4 h5 h6 h7 h8 h9 h10 h11 h12 h13 h14 hK
          obtain ⟨v', w', pl', g1, g2, g3, g4⟩ := app_own_row (P := P) hR hu hi hv hsz hsize hbytes hzl (Nat.succ_pos _) h3 h4 h5 h6 h7 h8 h9 h10 h11 h12 h13 h14 (c := c)
          rw [len'_eq, ← hR.len] at hK
          exact ⟨v', _, _, pl', w', by rw [h1, h2]; exact g1, hK, g2, g3, g4⟩
        split at hk
        · obtain ⟨⟨hpr, hb, h63⟩, hk⟩ := hk
          obtain ⟨ad, c, us, k1, k2, k3, k4, k5, k6⟩ := src hpr
          refine fin (p := ⟨0, true, 0⟩) (n := 0) (xs := []) (hh := h) (C1 := C) (zs := ys) (by rw [nils_R hs]; rfl) k1 hCe (World.ownsRowZ_nil w 0 e (sz + 1)) hR rfl (fun h => by cases h) k4 k6 k5 (by simp only [maxLen]; omega) (by simpa using hb) (by simpa using k2) (by omega) ?_
          simpa using hk
        · rename_i b esz' n lit
          split at hk
          · rename_i hc
            simp only [Bool.and_eq_true, decide_eq_true_eq] at hc
            obtain ⟨rfl, hbb⟩ := hc
            obtain ⟨p, hp, hpc⟩ := ow_R hs (.inr rfl)
            have hsv : vs = p.sv n := by
              rcases hpc with ⟨h1, _, h2, h3⟩ | ⟨h1, h3⟩
              · rw [h3, Pl.sv, if_pos h1]
              · rw [h3]; simp [Pl.sv, h1]
            have hfree : ∀ x0, h[b]? = some x0 → (p.nil = false → x0.alive p = true) → p.nil = false → (w0.heap.size ≤ p.blk ∨ Sx p.blk) ∧ p.blk < w.heap.size ∧ ∀ (c : Nat) q y, pl[c]? = some q → (AM.set h b .gone)[c]? = some y → y.alive q = true → q.blk ≠ p.blk := fun x0 hx0 ha0 hn => by
              refine ⟨hR.own b p x0 hp hx0 (ha0 hn), hR.lt b p x0 hp hx0 (ha0 hn), fun c q y hq hy ha e => ?_⟩
              by_cases ebc : b = c
              · subst ebc
                rw [get_set_same hx0] at hy
                cases hy
                cases ha
              · rw [get_set_other ebc] at hy
                exact ebc (hR.inj b c p q x0 y hp hq hx0 hy (ha0 hn) ha e.symm)
            split at hk
            · rename_i T esz3 n3 cs hg
              rw [get?_eq] at hg
              split at hk
              · rename_i hc
                simp only [Bool.and_eq_true, decide_eq_true_eq] at hc
                obtain ⟨⟨⟨rfl, rfl⟩, rfl⟩, rfl⟩ := hc
                obtain ⟨⟨hpr, hb, h63⟩, hk⟩ := hk
                obtain ⟨ad, c, us, k1, k2, k3, k4, k5, k6⟩ := src hpr
                obtain ⟨xs, hr, ho⟩ := hR.hb b _ p hg hp
                have hxs : xs = [] := List.eq_nil_of_length_eq_zero (by have := ho.1; simpa using this)
                subst hxs
                refine fin (p := p) (n := 0) (xs := []) (hh := AM.set h b .gone) (C1 := C) (zs := ys) hsv k1 hCe ho (hR.forget b) (by simp [set_eq]) (hfree _ hg (fun h => by simp [Blk.alive, h])) k4 k6 k5 (by simp only [maxLen]; omega) (by simpa using hb) (by simpa using k2) (by omega) ?_
                simpa using hk
              · exact hk.elim
            · rename_i T C1 xs0 hg
              rw [get?_eq] at hg
              split at hk
              · rename_i hc
                simp only [Bool.and_eq_true, decide_eq_true_eq] at hc
                obtain ⟨⟨hce, rfl⟩, _⟩ := hc
                obtain ⟨⟨hpr, rfl, hb, h63⟩, zs, hsr, hk⟩ := hk
                obtain ⟨ad, c, us, k1, k2, k3, k4, k5, k6⟩ := src hpr
                obtain ⟨xs, hr, ho⟩ := hR.hb b _ p hg hp
                rw [hce] at ho
                have hcr := same_R hsr k2
                refine fin (p := p) (xs := xs) (hh := AM.set h b .gone) (C1 := C1) (zs := xs0 ++ zs) hsv k1 hce ho (hR.forget b) (by simp [set_eq]) (hfree _ hg (fun h => by simp [Blk.alive, h])) k4 k6 k5 (by simp only [maxLen]; omega) hb ?_ (by simp [hsr.hl', k3]) hk
                rw [flat_append]
                exact hr.append hcr
              · exact hk.elim
            · exact hk.elim
          · exact hk.elim
        · exact hk.elim
      · exact hk.elim
    · exact hk.elim
  · exact hk.elim
theorem rangeX_sound {t : Nat} {x : AV} {v : Value} {K : KV} (hx : x.R pl v) (hk : rangeX P t x h K) : ∃ s lit, v = .string ⟨s.toArray⟩ ∧ P.underlying t = some .string ∧ K (.v (.one (.ptr (len' h) 0))) (h ++ [.sit lit s 0]) := by
  unfold rangeX at hk
  split at hk
  · rename_i s hu; exact ⟨s, _, cstr_R hx, hu, hk⟩
  · rename_i s hu; exact ⟨s, _, str_R hx, hu, hk⟩
  · exact hk.elim
theorem nextX_sound [Glob] (hR : HRel w0 Sx pl h w) {x : AV} {v : Value} {K : KV} (hx : x.R pl v) (hk : nextX x h K) (ty : TypeId) : ∃ u w' av h', (Instr.next v true ty).run P w = .ok u w' ∧ K av h' ∧ av.R pl u ∧ HRel w0 Sx pl h' w' := by
  unfold nextX at hk
  split at hk
  · rename_i b
    obtain ⟨ad, had, rfl⟩ := ptr_R hx
    have adr : ∀ (c : Bool) (s : List UInt8) (n : Nat), get? h b = some (.sit c s n) → ∃ p : Pl, pl[b]? = some p ∧ ad = ⟨p.blk, 0, none⟩ ∧ w.heap[p.blk]? = some (.stringIter ⟨s.toArray⟩ n) ∧ ∀ n', HRel w0 Sx pl (AM.set h b (.sit c s n')) (w.iterAt p.blk ⟨s.toArray⟩ n') := fun c s n hg => by
      rw [get?_eq] at hg
      have hlt : b < pl.length := by rw [hR.len]; exact (List.getElem?_eq_some_iff.1 hg).1
      have hp := List.getElem?_eq_getElem hlt
      refine ⟨pl[b], hp, ?_, hR.hb b _ _ hg hp, fun n' => hR.updG hp hg rfl ⟨rfl, rfl, rfl, by rw [Lib.iterAt_size]; exact Nat.le_refl _, fun k _ hk => Lib.iterAt_other w _ k _ _ (fun e => hk (by rw [e]))⟩ ?_⟩
      · simpa [addrOf, hp] using had.symm
      · exact Lib.iterAt_heap w _ _ n _ (hR.hb b _ _ hg hp)
    split at hk
    · rename_i s n hg
      obtain ⟨p, hp, rfl, hb, hup⟩ := adr _ _ _ hg
      have hsz : (ByteArray.mk s.toArray).size = s.length := by simp [ByteArray.size]
      rw [len'_eq] at hk
      split at hk
      · rename_i hlt
        exact ⟨_, _, _, _, Lib.run_next_any_at w p.blk _ n ty hb (by rw [hsz]; exact hlt), hk, ⟨_, rfl, .inr rfl, .inr rfl, .inr rfl, trivial⟩, hup _⟩
      · rename_i hlt
        exact ⟨_, _, _, _, Lib.run_next_end_at w p.blk _ n ty hb (by rw [hsz]; exact hlt), hk, ⟨_, rfl, .inr rfl, trivial⟩, hR⟩
    · rename_i s n hg
      obtain ⟨p, hp, rfl, hb, hup⟩ := adr _ _ _ hg
      have hsz : (ByteArray.mk s.toArray).size = s.length := by simp [ByteArray.size]
      by_cases hlt : n < s.length
      · exact ⟨_, _, _, _, Lib.run_next_any_at w p.blk _ n ty hb (by rw [hsz]; exact hlt), hk.1 hlt, ⟨_, rfl, .inr rfl, .inr rfl, .inr rfl, trivial⟩, hup _⟩
      · exact ⟨_, _, _, _, Lib.run_next_end_at w p.blk _ n ty hb (by rw [hsz]; exact hlt), hk.2 (by omega), ⟨_, rfl, .inr rfl, trivial⟩, hR⟩
    · exact hk.elim
  · exact hk.elim
theorem mapV_inv {t : Nat} {r : Option Operand} {K : KV} (hk : mapV P t r h K) : K (.v (.one (.mp (len' h)))) (h ++ [.mp []]) ∧ (r = none ∨ ∃ k n, r = some (.const (.int k n))) ∧ ∃ kt e, P.underlying t = some (.map kt e) := by
  unfold mapV at hk
  split at hk
  · rename_i hu; exact ⟨hk, .inl rfl, _, _, hu⟩
  · rename_i hu; exact ⟨hk, .inr ⟨_, _, rfl⟩, _, _, hu⟩
  · exact hk.elim
theorem omE_append {C : Codec} : ∀ (es fs : List (C.τ × Int)), omE C (es ++ fs) = omE C es ++ omE C fs
  | [], _ => rfl
  | (x, n) :: l, fs => by simp [omE, omE_append l fs]
theorem EntR_append : ∀ {es fs : List (PV × PV)} {ms ns : List MapEntry}, EntR pl es ms → EntR pl fs ns → EntR pl (es ++ fs) (ms ++ ns)
  | [], _, [], _, _, h => h
  | [], _, _ :: _, _, h, _ => h.elim
  | _ :: _, _, [], _, h, _ => h.elim
  | _ :: _, _, _ :: _, _, h, k => ⟨h.1, h.2.1, EntR_append h.2.2 k⟩
theorem mix_get {α : Type} {d : DecidableEq α} {x : α} : ∀ {es : List (α × Int)} {i j : Nat} {n : Int}, mix d x es i = some (j, n) → ∃ k, j = i + k ∧ es[k]? = some (x, n)
  | [], _, _, _, h => by simp [mix] at h
  | (y, m) :: l, i, j, n, h => by
    simp only [mix] at h
    split at h
    · rename_i hxy _
      cases h
      exact ⟨0, rfl, by simp [hxy]⟩
    · obtain ⟨k, h1, h2⟩ := mix_get h
      exact ⟨k + 1, by omega, by simpa using h2⟩
theorem EntR_get {C : Codec} : ∀ {es : List (C.τ × Int)} {ms : List MapEntry} {k : Nat} {x : C.τ} {n : Int}, EntR pl (omE C es) ms → es[k]? = some (x, n) → ∃ e, ms[k]? = some e ∧ (PV.agg (C.enc x)).R pl e.key
  | [], _, _, _, _, _, h => by simp at h
  | _ :: _, [], _, _, _, h, _ => h.elim
  | (y, m) :: l, e :: ms, 0, x, n, h, hk => by
    simp at hk
    obtain ⟨rfl, rfl⟩ := hk
    exact ⟨e, rfl, h.1⟩
  | (y, m) :: l, e :: ms, k + 1, x, n, h, hk => by
    obtain ⟨e', h1, h2⟩ := EntR_get h.2.2 (show l[k]? = some (x, n) by simpa using hk)
    exact ⟨e', by simpa using h1, h2⟩
theorem EntR_set {C : Codec} {x : C.τ} {n : Int} {kv vv : Value} (hk : (PV.agg (C.enc x)).R pl kv) (hv : (PV.one (.sym .i64 n)).R pl vv) : ∀ {es : List (C.τ × Int)} {ms : List MapEntry} (j : Nat), EntR pl (omE C es) ms →
    EntR pl (omE C (es.set j (x, n))) (ms.modify j fun e => { e with key := kv, val := vv })
  | [], [], _, h => by simpa using h
  | [], _ :: _, _, h => h.elim
  | _ :: _, [], _, h => h.elim
  | (y, m) :: l, e :: ms, 0, h => by
    simp only [List.set_cons_zero, List.modify_zero_cons, omE]
    exact ⟨hk, hv, h.2.2⟩
  | (y, m) :: l, e :: ms, j + 1, h => by
    simp only [List.set_cons_succ, List.modify_succ_cons, omE]
    exact ⟨h.1, h.2.1, EntR_set hk hv j h.2.2⟩
theorem sameBits_nums {l : List SV} (hl : ∀ s ∈ l, numS s = true) {vs : List Value} (hv : RL pl l vs) (n : Nat) : (vs.zip vs).all (fun (x, y) => Instr.sameBits n x y) = true := by
  induction l generalizing vs with
  | nil =>
    cases vs with
    | nil => rfl
    | cons _ _ => exact hv.elim
  | cons s l ih =>
    cases vs with
    | nil => exact hv.elim
    | cons v vs =>
      simp only [List.zip_cons_cons, List.all_cons, Bool.and_eq_true]
      refine ⟨?_, ih (fun t ht => hl t (by simp [ht])) hv.2⟩
      have hs := hl s (by simp)
      cases s <;> first | (cases hs; done) | skip
      rcases hv.1 with h | h
      · cases h
      · simp only [SV.val, Option.some.injEq] at h
        subst h
        cases n <;> simp [Instr.sameBits]
theorem i64_R {s : SV} {n : Int} (h : i64? s = some n) {v : Value} (hv : (PV.one s).R pl v) : v = .int .i64 n := by
  unfold i64? at h
  split at h
  · cases h; exact con_R hv
  · cases h; exact sym_R hv
  · cases h
theorem putV_sound [Glob] (hR : HRel w0 Sx pl h w) {t : Nat} {m k v : AV} {K : KV} {mv kv vv : Value} (hm : m.R pl mv) (hkv : k.R pl kv) (hv : v.R pl vv) (hk : putV P t m k v h K) :
    ∃ w' h', (Instr.mapUpdate t mv kv vv).run P w = .ok () w' ∧ K AV.undef h' ∧ HRel w0 Sx pl h' w' := by
  unfold putV at hk
  split at hk
  · rename_i kt e b k v hu
    have hmv : ∃ p, pl[b]? = some p ∧ mv = .map (some p.blk) := by
      rcases hm with hm | hm
      · cases hm
      · simp only [SV.val] at hm
        cases hp : pl[b]? with
        | none => simp [hp] at hm
        | some p => simp [hp] at hm; exact ⟨p, rfl, hm.symm⟩
    obtain ⟨p, hp, rfl⟩ := hmv
    split at hk
    · rename_i es hg
      rw [get?_eq] at hg
      obtain ⟨ms, clock, h1, h2⟩ := hR.hb b _ p hg hp
      have hgo : (getObj p.blk).run P w = .ok (.map ms clock) w := by simp [getObj, Sem.run, h2]
      split at hk
      · rename_i hok
        have hck : ∀ em, (Instr.checkKey em 10000 kt kv).run P w = .ok () w := by
          unfold keyOk at hok
          cases he : aEq P 20 kt k k with
          | none => simp [he] at hok
          | some cb => exact (aEq_sound 20 kt k k cb.1 cb.2 kv kv 10000 w he hkv hkv (by decide)).2
        split at hk
        · rename_i es' hput
          have hset : ∀ o, (setObj p.blk o).run P w = .ok () { w with heap := w.heap.setIfInBounds p.blk o } := fun o => by simp [setObj, Sem.run, h2]
          have hgr : ∀ o, w.grownBy { w with heap := w.heap.setIfInBounds p.blk o } (some p.blk) := fun o => ⟨rfl, rfl, rfl, by simp, fun i hi hne => by
            show (w.heap.setIfInBounds p.blk o)[i]? = _
            rw [Array.getElem?_setIfInBounds, if_neg (fun e => hne (by rw [e]))]⟩
          have hat : ∀ o, ({ w with heap := w.heap.setIfInBounds p.blk o } : World).heap[p.blk]? = some o := fun o => by
            show (w.heap.setIfInBounds p.blk o)[p.blk]? = _
            rw [Array.getElem?_setIfInBounds, if_pos rfl, if_pos (Array.getElem?_eq_some_iff.1 h2).1]
          rcases aPut_sound hkv hv 0 hput h1 with ⟨j, en, old, g1, g2, g3, g4, g5, g6⟩ | ⟨g1, g2⟩
          · have hfk : ∃ x, (Instr.findKey kt kv ms.toList).run P w = .ok (some (j, x)) w := by
              cases hd : P.underlying kt with
              | none =>
                unfold keyOk aEq at hok
                simp [hd] at hok
              | some d =>
                obtain ⟨x1, hx1⟩ := g4 w
                rw [Nat.zero_add] at hx1
                cases k with
                | one a1 =>
                  obtain ⟨x2, hx2⟩ := g5 d a1 rfl hd
                  rw [Nat.zero_add] at hx2
                  exact ⟨x2, by simp [Instr.findKey, run_underlying hd, hx2]⟩
                | agg l =>
                  obtain ⟨vs, rfl, _⟩ := hkv
                  refine ⟨x1, ?_⟩
                  cases hml : ms.toList with
                  | nil => rw [hml] at g2; simp at g2
                  | cons e0 ml =>
                    have : Instr.findNow d (.agg vs.toArray) (e0 :: ml) 0 = none := by
                      unfold Instr.findNow
                      have : Instr.sameNow d (.agg vs.toArray) e0.key = none := by cases d <;> rfl
                      rw [this]
                    rw [hml] at hx1
                    simp [Instr.findKey, run_underlying hd, this, hx1]
            obtain ⟨x, hx⟩ := hfk
            have hj : ms[j]? = some en := by simpa using g2
            refine ⟨_, _, ?_, hk, hR.updG hp hg rfl (hgr (.map (ms.modify j fun e => { e with key := kv, val := vv }) clock)) (x' := .mp es') ⟨_, clock, ?_, hat _⟩⟩
            · simp [Instr.mapUpdate, run_underlying hu, hgo, hck, hx, hj, Instr.keyThatStays, g3, hset]
            · simpa [Array.toList_modify] using g6
          · obtain ⟨r', k1, k2⟩ := findKey_sound hkv hok g1 h1 w
            cases r' with
            | some ix => exact k2.elim
            | none =>
              refine ⟨_, _, ?_, hk, hR.updG hp hg rfl (hgr (.map (ms.push { key := kv, val := vv, born := clock }) (clock + 1))) (x' := .mp es') ⟨_, clock + 1, ?_, hat _⟩⟩
              · simp [Instr.mapUpdate, run_underlying hu, hgo, hck, k1, hset]
              · simpa using g2 clock
        · exact hk.elim
      · exact hk.elim
    · rename_i C es hg
      rw [get?_eq] at hg
      obtain ⟨ms, clock, h1, h2⟩ := hR.hb b _ p hg hp
      have hgo : (getObj p.blk).run P w = .ok (.map ms clock) w := by simp [getObj, Sem.run, h2]
      have hset : ∀ o, (setObj p.blk o).run P w = .ok () { w with heap := w.heap.setIfInBounds p.blk o } := fun o => by simp [setObj, Sem.run, h2]
      have hgr : ∀ o, w.grownBy { w with heap := w.heap.setIfInBounds p.blk o } (some p.blk) := fun o => ⟨rfl, rfl, rfl, by simp, fun i hi hne => by
        show (w.heap.setIfInBounds p.blk o)[i]? = _
        rw [Array.getElem?_setIfInBounds, if_neg (fun e => hne (by rw [e]))]⟩
      have hat : ∀ o, ({ w with heap := w.heap.setIfInBounds p.blk o } : World).heap[p.blk]? = some o := fun o => by
        show (w.heap.setIfInBounds p.blk o)[p.blk]? = _
        rw [Array.getElem?_setIfInBounds, if_pos rfl, if_pos (Array.getElem?_eq_some_iff.1 h2).1]
      split at hk
      · rename_i l s
        split at hk
        · rename_i x n hx hn
          obtain ⟨hK, hk⟩ := hk
          have hk' : (PV.agg (C.enc x)).R pl kv := by
            obtain ⟨vs, rfl, hv⟩ := hkv
            exact ⟨vs, rfl, C.dec_ok _ _ _ _ hx hv⟩
          have hvv : vv = .int .i64 n := i64_R hn hv
          have hv' : (PV.one (.sym .i64 n)).R pl vv := .inr (by rw [hvv]; rfl)
          have hck := fun em => keyLaw_check (P := P) hK hk' w em
          have hfk := findKeyO_sound (P := P) hK hk' h1 w
          cases hmx : mix C.deq x es 0 with
          | none =>
            have e : mput C es x n = es ++ [(x, n)] := by unfold mput; rw [hmx]
            rw [e] at hk
            simp only [hmx, Option.map_none] at hfk
            refine ⟨_, _, ?_, hk, hR.updG hp hg rfl (hgr (.map (ms.push { key := kv, val := vv, born := clock }) (clock + 1))) (x' := .omp C (es ++ [(x, n)])) ⟨_, clock + 1, ?_, hat _⟩⟩
            · simp [Instr.mapUpdate, run_underlying hu, hgo, hck, hfk, hset]
            · rw [omE_append]
              simpa using EntR_append h1 (show EntR pl (omE C [(x, n)]) [{ key := kv, val := vv, born := clock }] from ⟨hk', hv', trivial⟩)
          | some z =>
            obtain ⟨j, n0⟩ := z
            have e : mput C es x n = es.set j (x, n) := by unfold mput; rw [hmx]
            rw [e] at hk
            simp only [hmx, Option.map_some] at hfk
            obtain ⟨k0, rfl, hk0⟩ := mix_get hmx
            rw [Nat.zero_add] at *
            obtain ⟨en, hen, hkey⟩ := EntR_get h1 hk0
            have hj : ms[k0]? = some en := by simpa using hen
            have hsb : Instr.sameBits 10000 en.key kv = true := by
              have := PV.known_eq (p := .agg (C.enc x)) (C.known_ok x) hkey hk'
              rw [this]
              obtain ⟨vs, rfl, hvs⟩ := hk'
              simp only [Instr.sameBits, BEq.rfl, Bool.true_and]
              simpa using sameBits_nums (hK.2 x) hvs 9999
            refine ⟨_, _, ?_, hk, hR.updG hp hg rfl (hgr (.map (ms.modify k0 fun e => { e with key := kv, val := vv }) clock)) (x' := .omp C (es.set k0 (x, n))) ⟨_, clock, ?_, hat _⟩⟩
            · simp [Instr.mapUpdate, run_underlying hu, hgo, hck, hfk, hj, Instr.keyThatStays, hsb, hset]
            · simpa [Array.toList_modify] using EntR_set hk' hv' k0 h1
        · exact hk.elim
      · exact hk.elim
    · exact hk.elim
  · exact hk.elim
theorem makeX_sound [Glob] (hR : HRel w0 Sx pl h w) {t : Nat} {l c : AV} {K : KV} {vl vc : Value} (hl : l.R pl vl) (hc : c.R pl vc) (hk : makeX P t l c h K) :
    ∃ w' v av h' pl', (Instr.makeSlice t vl vc).run P w = .ok v w' ∧ K av h' ∧ av.R pl' v ∧ PExt pl pl' ∧ HRel w0 Sx pl' h' w' := by
  unfold makeX at hk
  split at hk
  · rename_i e n m hu hn hm
    obtain ⟨k1, rfl⟩ := litB_R hn hl
    obtain ⟨k2, rfl⟩ := litB_R hm hc
    split at hk
    · rename_i z sz by_ hz hs hb
      split at hk
      · rename_i hcond
        obtain ⟨h1, h2, h3, h4, h5⟩ := hcond
        obtain ⟨i, v, hi, hv, rfl⟩ := zeroOf_spec hz
        have hsz := info_size hs
        rw [hi] at hsz
        simp at hsz
        have hby : i.bytes = by_ := by simpa [bytes?, hi] using hb
        have hzl : v.cells.size = sz + 1 := by rw [← h5, len'_eq, (ofValue_cells (pl := pl) v).length]; simp
        have hbm : (i.bytes : Int) * (m : Int) ≤ 281474976710656 := by
          have : i.bytes * m ≤ 65536 * 65536 := Nat.mul_le_mul (by omega) (by omega)
          have h7 : ((i.bytes * m : Nat) : Int) ≤ 281474976710656 := by omega
          rwa [Int.natCast_mul] at h7
        have hrun := run_makeSlice (P := P) w t e i v hu hi hv k1 k2 (n : Int) (m : Int) (by omega) (by omega) (by rw [hsz, Int.toNat_natCast]; omega) hbm (by omega)
        rw [Int.toNat_natCast, Int.toNat_natCast] at hrun
        have hcells : madeCells v.cells (m * i.size) = (List.flatten (List.replicate m v.cells.toList)).toArray := by
          apply Array.ext'
          rw [hsz, ← hzl]
          simpa [madeCells] using zeros_eq v.cells m
        rw [hcells] at hrun
        have ⟨hR', hp⟩ := hR.push (T := e) (repC_R (ofValue_cells (pl := pl) v) m)
        refine ⟨_, _, _, _, _, hrun, hk, .inr ?_, hp, hR'⟩
        simp [SV.val, addrOf, len'_eq, ← hR.len]
      · exact hk.elim
    · exact hk.elim
  · exact hk.elim
theorem lenX_R {x : AV} {n : Nat} (h : lenX x = some n) {v : Value} (hv : x.R pl v) : ∃ a c, v = .slice a n c := by
  unfold lenX at h
  split at h
  · cases h
    obtain ⟨ad, _, rfl⟩ := sl_R hv
    exact ⟨_, _, rfl⟩
  · cases h
    obtain ⟨p, hp, hc⟩ := ow_R' hv
    rcases hc with ⟨_, _, h1, h2⟩ | ⟨_, h2⟩
    · rw [h2, h1]; exact ⟨_, _, rfl⟩
    · exact ⟨_, _, h2⟩
  · cases h
    rw [nils_R hv]
    exact ⟨_, _, rfl⟩
  · cases h
theorem cellsX_run [Glob] (hR : HRel w0 Sx pl h w) {x : AV} {n : Nat} {cs : List SV} (hc : cellsX h x n = some cs) {a : Option Addr} {m c : Nat} (hv : x.R pl (.slice a m c)) :
    ∃ us, RL pl cs us ∧ us.length = n ∧ ∀ z k, k * z = n → (Builtin.firstCells z k (.slice a m c)).run P w = .ok us.toArray w := by
  unfold cellsX at hc
  split at hc
  · rename_i b off len cap
    obtain ⟨ad, had, hv⟩ := sl_R hv
    cases hv
    split at hc
    · rename_i T ds hg
      rw [get?_eq] at hg
      unfold addrOf at had
      cases hp : pl[b]? with
      | none => simp [hp] at had
      | some p =>
        simp [hp] at had
        obtain ⟨vs, h1, h2⟩ := hR.hb b _ p hg hp
        have ⟨h3, h4⟩ := (h1.drop off).takeE hc
        refine ⟨_, h3, by rw [List.length_take]; omega, fun z k hk => ?_⟩
        have hl := run_loadCells_list (P := P) w ad ((vs.drop off).take n) (fun j v hj => by
          rw [← had, Addr.add_lit]
          have hj' : vs[off + j]? = some v := by
            have h5 : j < n := by
              have := (List.getElem?_eq_some_iff.1 hj).1
              rw [List.length_take] at this
              omega
            rw [List.getElem?_take_of_lt h5, List.getElem?_drop] at hj
            exact hj
          have := Seen.of_row h2 (off + j) v hj'
          rwa [Nat.zero_add] at this)
        have e : ((vs.drop off).take n).length = n := by rw [List.length_take]; omega
        rw [e] at hl
        simp [Builtin.firstCells, hk, hl]
    · cases hc
  · rename_i b z0 len
    obtain ⟨p, hp, hpc⟩ := ow_R hv (.inr rfl)
    split at hc
    · rename_i T z1 n1 ds hg
      rw [get?_eq] at hg
      obtain ⟨vs, h1, h2⟩ := hR.hb b _ p hg hp
      have ⟨h3, h4⟩ := h1.takeE hc
      refine ⟨_, h3, by rw [List.length_take]; omega, fun z k hk => ?_⟩
      rcases hpc with ⟨hn, _, _, h5⟩ | ⟨hn, h5⟩
      · cases h5
        have h6 : vs.length = 0 := by
          rcases Nat.eq_zero_or_pos vs.length with h0 | h0
          · exact h0
          · have := own_nonnil h2 h0
            rw [hn] at this
            cases this
        have : n = 0 := by omega
        subst this
        simp [Builtin.firstCells]
      · cases h5
        have hl := run_loadCells_list (P := P) w ⟨p.blk, 0 * z0, none⟩ (vs.take n) (fun j v hj => by
          have h6 : j < n := by
            have := (List.getElem?_eq_some_iff.1 hj).1
            rw [List.length_take] at this
            omega
          rw [List.getElem?_take_of_lt h6] at hj
          have := Seen.of_own h2 j v hj
          rw [Addr.add_lit]
          simpa using this)
        have e : (vs.take n).length = n := by rw [List.length_take]; omega
        rw [e] at hl
        simp [Builtin.firstCells, hk] at hl ⊢
        simp [hl]
    · cases hc
  · split at hc
    · rename_i h0
      cases hc
      have := nils_R hv
      cases this
      exact ⟨[], trivial, h0.symm, fun z k hk => by simp [Builtin.firstCells]⟩
    · cases hc
  · cases hc
theorem clearX_sound [Glob] (hR : HRel w0 Sx pl h w) {ts : List Nat} {l : List AV} {K : KV} {vs : List Value} (hl : ArgsR pl l vs) (hk : clearX P ts l h K) :
    ∃ w' h', (∀ ty, (Builtin.clear_ ts.toArray ty vs.toArray).run P w = .ok (.tuple #[]) w') ∧ K AV.undef h' ∧ HRel w0 Sx pl h' w' := by
  unfold clearX at hk
  split at hk
  · rename_i t
    match vs, hl with
    | [vx], hl =>
      split at hk
      · rename_i e hu
        refine ⟨w, h, fun ty => ?_, hk, hR⟩
        have := nils_R (show (AV.v (.one .nils)).R pl vx from hl.1)
        subst this
        simp [Builtin.clear_, run_underlying hu]
      · exact hk.elim
  · rename_i t b esz st len
    match vs, hl with
    | [vx], hl =>
      have hx : (AV.v (.one (.ow b esz st len true))).R pl vx := hl.1
      split at hk
      · rename_i e hu
        split at hk
        · rename_i h0
          have h0 : len = 0 := by simpa using h0
          subst h0
          refine ⟨w, h, fun ty => ?_, hk, hR⟩
          obtain ⟨p, _, hc⟩ := ow_R' hx
          rcases hc with ⟨_, _, _, h2⟩ | ⟨_, h2⟩
          · simp [Builtin.clear_, run_underlying hu, h2]
          · simp [Builtin.clear_, run_underlying hu, h2]
        · rename_i h0
          have h0 : 0 < len := by have : ¬ len = 0 := by simpa using h0
                                  omega
          split at hk
          · rename_i z sz T z1 n cs hz hsz hg
            rw [get?_eq] at hg
            split at hk
            · rename_i hc
              simp only [Bool.and_eq_true, decide_eq_true_eq] at hc
              obtain ⟨⟨rfl, hlz⟩, hkn⟩ := hc
              split at hk
              · rename_i cs' ho
                obtain ⟨i, v, hi, hv, rfl⟩ := zeroOf_spec hz
                obtain ⟨p, hp, hc⟩ := ow_R hx (.inl h0)
                rcases hc with ⟨_, _, h1, _⟩ | ⟨hpn, h2⟩
                · omega
                obtain ⟨us0, hr, hown⟩ := hR.hb b _ p hg hp
                have hzr := repC_R (ofValue_cells (pl := pl) v) len
                have ⟨ho1, ho2⟩ := over_spec hr hzr ho
                have hzl : v.cells.size = sz + 1 := by rw [← hlz, len'_eq, (ofValue_cells (pl := pl) v).length]; simp
                have hpos : 0 < (List.flatten (List.replicate len v.cells.toList)).length := by
                  rw [← zeros_eq]
                  simp only [Array.length_toList, Array.size_map, Array.size_range, hzl]
                  exact Nat.mul_pos h0 (Nat.succ_pos _)
                obtain ⟨cur', g1, g2⟩ := own_store (P := P) hown ho2 hpos (knownAll_oneCell hkn hzr)
                refine ⟨w.setRow p.blk cur', _, fun ty => ?_, hk, hR.upd hp hg (by simp [Blk.alive, hpn]) (x' := .ownL T z1 n cs') ⟨_, ho1, g2⟩⟩
                subst h2
                rw [← zeros_eq] at g1
                have hzv : (zeroValue e).run P w = .ok v w := by simp [zeroValue, typeInfo, hi, hv]
                have hzc : (Builtin.zeroCells v.cells len).toList = ((Array.range (len * v.cells.size)).map (fun i => v.cells[i % v.cells.size]!)).toList := rfl
                obtain ⟨k, rfl⟩ : ∃ k, len = k + 1 := ⟨len - 1, by omega⟩
                simp only [Builtin.clear_]
                have hst : (storeCells ⟨p.blk, st * (sz + 1), none⟩ (Builtin.zeroCells v.cells (k + 1)).toList).run P w = .ok () (w.setRow p.blk cur') := by rw [hzc]; exact g1
                simp [run_underlying hu, hzv, hst]
              · exact hk.elim
            · exact hk.elim
          · exact hk.elim
      · exact hk.elim
  · exact hk.elim
theorem copyX_sound [Glob] (hR : HRel w0 Sx pl h w) {ts : List Nat} {l : List AV} {K : KV} {vs : List Value} (hl : ArgsR pl l vs) (hk : copyX P ts l h K) :
    ∃ w' v av h', (∀ ty, (Builtin.copy_ ts.toArray ty vs.toArray).run P w = .ok v w') ∧ K av h' ∧ av.R pl v ∧ HRel w0 Sx pl h' w' := by
  unfold copyX at hk
  split at hk
  · rename_i t t' x y
    match vs, hl with
    | [vx, vy], hl =>
      split at hk
      · rename_i e n m hu htt hn hm
        obtain ⟨ax, cx, hvx⟩ := lenX_R hn hl.1
        obtain ⟨ay, cy, hvy⟩ := lenX_R hm hl.2.1
        have hx := hl.1
        have hy := hl.2.1
        rw [hvx] at hx
        rw [hvy] at hy
        split at hk
        · rename_i sz hz
          split at hk
          · rename_i cs hcs
            split at hk
            · rename_i hkn
              obtain ⟨us, h1, h2, h3⟩ := cellsX_run (P := P) hR hcs hy
              have hone := knownAll_oneCell hkn h1
              have hfc := h3 (sz + 1) (Nat.min m n) rfl
              split at hk
              · rename_i b off len cap _
                obtain ⟨ad, had, hv⟩ := sl_R hx
                cases hv
                split at hk
                · rename_i T ds hg
                  rw [get?_eq] at hg
                  unfold addrOf at had
                  cases hq : pl[b]? with
                  | none => simp [hq] at had
                  | some q =>
                    simp [hq] at had
                    subst had
                    split at hk
                    · rename_i ds' ho
                      obtain ⟨ws, k1, k2⟩ := hR.hb b _ q hg hq
                      have ⟨ho1, ho2⟩ := over_spec k1 h1 ho
                      have hst := run_storeCells_at P q.blk off T us 0 ws.toArray w k2 (by simpa using ho2) hone
                      simp only [Nat.add_zero, List.toList_toArray] at hst
                      refine ⟨w.setRow q.blk (List.take off ws ++ us ++ List.drop (off + us.length) ws).toArray, _, _, _, fun ty => ?_, hk, mkI_R pl true .i64 _, hR.upd hq hg rfl ⟨_, ho1, setRow_heap w q.blk _ _ T (0, 0) k2⟩⟩
                      rw [hvx, hvy]
                      simp [Builtin.copy_, run_underlying hu, Builtin.lenOf, run_size hz, hfc, hst, goInt]
                    · exact hk.elim
                · exact hk.elim
              · have := nils_R hx
                cases this
                refine ⟨w, _, _, _, fun ty => ?_, hk, mkI_R pl true .i64 _, hR⟩
                rw [hvx, hvy]
                have hn0 : Nat.min m 0 = 0 := by simp
                simp only [hn0] at hfc
                simp [Builtin.copy_, run_underlying hu, Builtin.lenOf, run_size hz, hfc, goInt, hn0]
              · exact hk.elim
            · exact hk.elim
          · exact hk.elim
        · exact hk.elim
      · exact hk.elim
  · exact hk.elim
end
end Go.AM
namespace Go.AM
open Go
section
variable {P : Program} {w0 : World} {Sx : Marks} {pl : List Pl} {h : Heap} {w : World}
theorem byteT_spec {e : Nat} (h : byteT P e = true) : ∃ i, P.info? e = some i ∧ i.zero = some (.int .u8 0) ∧ i.size = 1 ∧ i.bytes = 1 := by
  unfold byteT at h
  split at h
  · rename_i i hi
    split at h
    · rename_i n hz
      simp only [Bool.and_eq_true, decide_eq_true_eq] at h
      obtain ⟨⟨rfl, h2⟩, h3⟩ := h
      exact ⟨i, hi, hz, h2, h3⟩
    · cases h
  · cases h
theorem litStr_R {x : AV} {lit : Bool} {ys : List UInt8} (h : litStr x = some (lit, ys)) {v : Value} (hv : x.R pl v) : v = .string ⟨ys.toArray⟩ := by
  unfold litStr at h
  split at h
  · cases h; exact cstr_R hv
  · cases h; exact str_R hv
  · cases h
def byteV (ys : List UInt8) : List Value := ys.map fun b => Value.int .u8 ((b.toNat : Nat) : Int)
theorem strCells_mk (ys : List UInt8) : Lib.strCells ⟨ys.toArray⟩ = byteV ys := by simp [Lib.strCells, byteV]
theorem bytesL_R : ∀ ys : List UInt8, RL pl (bytesL ys) (byteV ys)
  | [] => trivial
  | _ :: l => ⟨.inr rfl, bytesL_R l⟩
theorem byC_R : ∀ ys : List UInt8, RL pl (flatC byC ys) (byteV ys)
  | [] => trivial
  | _ :: l => ⟨.inr rfl, byC_R l⟩
theorem sym1 {k : IntKind} {n : Int} {v : Value} (h : (SV.sym k n).R pl v) : v = .int k n := sym_R (pl := pl) (k := k) (n := n) h
theorem con1 {k : IntKind} {n : Int} {v : Value} (h : (SV.con k n).R pl v) : v = .int k n := con_R (pl := pl) (k := k) (n := n) h
theorem byC_vals : ∀ {ys : List UInt8} {vs : List Value}, RL pl (flatC byC ys) vs → vs = byteV ys
  | [], [], _ => rfl
  | [], _ :: _, h => h.elim
  | _ :: _, [], h => h.elim
  | y :: ys, v :: vs, h => by
    have h1 := sym1 h.1
    have h2 := byC_vals (ys := ys) (vs := vs) h.2
    rw [h1, h2]; rfl
theorem biC_vals : ∀ {ns : List Int} {vs : List Value}, RL pl (flatC biC ns) vs → vs = ns.map (Value.int .u8)
  | [], [], _ => rfl
  | [], _ :: _, h => h.elim
  | _ :: _, [], h => h.elim
  | y :: ys, v :: vs, h => by
    have h1 := sym1 h.1
    have h2 := biC_vals (ns := ys) (vs := vs) h.2
    rw [h1, h2]; rfl
theorem numBytes_R : ∀ {l : List SV} {s : List UInt8} {vs : List Value}, numBytes l = some s → RL pl l vs → ∃ ns : List Int, vs = ns.map (Value.int .u8) ∧ s = ns.map byteI
  | [], s, [], h, _ => by simp [numBytes] at h; exact ⟨[], rfl, h⟩
  | [], _, _ :: _, _, h => h.elim
  | _ :: _, _, [], _, h => h.elim
  | x :: l, s, v :: vs, h, hr => by
    unfold numBytes at h
    split at h
    · cases ‹x :: l = []›
    · rename_i n l' he
      cases he
      split at h
      · rename_i r hr'
        cases h
        obtain ⟨ns, h1, h2⟩ := numBytes_R hr' hr.2
        exact ⟨n :: ns, by rw [con1 hr.1, h1]; rfl, by rw [h2]; rfl⟩
      · cases h
    · rename_i n l' he
      cases he
      split at h
      · rename_i r hr'
        cases h
        obtain ⟨ns, h1, h2⟩ := numBytes_R hr' hr.2
        exact ⟨n :: ns, by rw [sym1 hr.1, h1]; rfl, by rw [h2]; rfl⟩
      · cases h
    · cases h
theorem litBytes_num : ∀ {l : List SV} {s : List UInt8}, litBytes l = some s → numBytes l = some s
  | [], s, h => by simpa [litBytes, numBytes] using h
  | x :: l, s, h => by
    unfold litBytes at h
    split at h
    · cases ‹x :: l = []›
    · rename_i n l' he
      cases he
      split at h
      · rename_i r hr
        cases h
        simp only [numBytes, litBytes_num hr]
      · cases h
    · cases h
def bcat (us : List byC.τ) (ys : List UInt8) : List byC.τ := @HAppend.hAppend (List byC.τ) (List byC.τ) (List byC.τ) _ us ys
theorem byC_app (us : List byC.τ) (ys : List UInt8) : flatC byC (bcat us ys) = flatC byC us ++ flatC byC ys := flat_append (C := byC) us ys
theorem byC_len (us : List byC.τ) (ys : List UInt8) : (bcat us ys).length = us.length + ys.length := List.length_append
theorem app_str {t u e : Nat} {i : TypeInfo} (ht : P.underlying t = some (.slice e)) (hu : P.underlying u = some .string) (hi : P.info? e = some i) (hz : i.zero = some (.int .u8 0)) (hsize : i.size = 1) (hby : i.bytes = 1)
    {p : Pl} {n : Nat} {xs : List Value} (hown : w.ownsRowZ 0 e 1 (p.sv n) n xs) (s : ByteArray) (hb : n + s.size ≤ 140737488355328) :
    ∃ (p' : Pl) (w' : World), (∀ ty, (Builtin.append_ #[t, u] ty #[p.sv n, .string s]).run P w = .ok (p'.sv (n + s.size)) w') ∧ w'.ownsRowZ 0 e 1 (p'.sv (n + s.size)) (n + s.size) (xs ++ Lib.strCells s) ∧
      w.grownBy w' (p.sv n).ownBlock ∧ (p'.nil = true → n + s.size = 0) ∧ (p'.nil = false → ((p.nil = false ∧ p'.blk = p.blk) ∨ w.heap.size ≤ p'.blk) ∧ p'.blk < w'.heap.size) := by
  have h63 : n + s.size ≤ maxLen := by simp only [maxLen]; omega
  have fin : ∀ (base : Nat), base ≤ w.heap.size → w.ownsRowZ base e 1 (p.sv n) n xs → ∃ (p' : Pl) (w' : World), (∀ ty, (Builtin.append_ #[t, u] ty #[p.sv n, .string s]).run P w = .ok (p'.sv (n + s.size)) w') ∧ w'.ownsRowZ 0 e 1 (p'.sv (n + s.size)) (n + s.size) (xs ++ Lib.strCells s) ∧
      w.grownBy w' (p.sv n).ownBlock ∧ (p'.nil = true → n + s.size = 0) ∧ (p'.nil = false → base ≤ p'.blk ∧ p'.blk < w'.heap.size) := by
    intro base hbs ho
    obtain ⟨v', w', g1, g2, g3, _⟩ := Lib.run_append_own_stringZ (P := P) w base t u 0 e i ht hu hi hz hsize hby (p.sv n) n xs ho s h63 hb hbs
    have hty : ∀ ty, (Builtin.append_ #[t, u] ty #[p.sv n, .string s]) = (Builtin.append_ #[t, u] 0 #[p.sv n, .string s]) := fun ty => rfl
    rcases g2.2 with ⟨hv, h0⟩ | ⟨g, cap, cur, hv, k1, k2, k3⟩
    · refine ⟨⟨0, true, 0⟩, w', fun ty => ?_, ⟨g2.1, .inl ⟨rfl, h0⟩⟩, g3, fun _ => h0, fun h => by cases h⟩
      rw [hty, g1, hv]
      rfl
    · refine ⟨⟨g, false, cap⟩, w', fun ty => ?_, ?_, g3, fun h => (by cases h), fun _ => ⟨k1, (Array.getElem?_eq_some_iff.1 k2.choose_spec.1).1⟩⟩
      · rw [hty, g1, hv]
        simp [Pl.sv]
      · exact ⟨g2.1, .inr ⟨g, cap, cur, by simp [Pl.sv], Nat.zero_le _, k2, k3⟩⟩
  cases hn : p.nil with
  | true =>
    have ho : w.ownsRowZ w.heap.size e 1 (p.sv n) n xs := by
      refine ⟨hown.1, ?_⟩
      rcases hown.2 with h | ⟨g, cap, cur, hv, _⟩
      · exact .inl h
      · simp [Pl.sv, hn] at hv
    obtain ⟨p', w', g1, g2, g3, g4, g5⟩ := fin w.heap.size (Nat.le_refl _) ho
    exact ⟨p', w', g1, g2, g3, g4, fun h => ⟨.inr (g5 h).1, (g5 h).2⟩⟩
  | false =>
    obtain ⟨p', w', g1, g2, g3, g4, g5⟩ := fin 0 (Nat.zero_le _) hown
    refine ⟨p', w', g1, g2, g3, g4, fun h => ⟨?_, (g5 h).2⟩⟩
    rcases hown.2 with ⟨h, _⟩ | ⟨g, cap, cur, hv, _, ⟨fz, k2, kz⟩, k3, k4, k5, k6⟩
    · simp [Pl.sv, hn] at h
    · simp only [Pl.sv, hn, Bool.false_eq_true, if_false, Value.slice.injEq, Option.some.injEq, Addr.mk.injEq] at hv
      obtain ⟨⟨rfl, _⟩, _, rfl⟩ := hv
      have hr0 := g1 0
      have e1 : p.sv n = .slice (some ⟨p.blk, 0, none⟩) n p.cap := by simp [Pl.sv, hn]
      rw [e1] at hr0
      have inj : ∀ {v1 v2 : Value} {w1 w2 : World}, (Result.ok v1 w1 : Result Value) = .ok v2 w2 → v1 = v2 := fun h => by injection h
      by_cases hroom : n + s.size ≤ p.cap
      · have hr := Lib.run_append_room_stringZ (P := P) w t u 0 e i ht hu hi hsize p.blk n p.cap cur fz k2 kz s hroom (by omega)
        have := inj (hr0.symm.trans hr)
        simp [Pl.sv, h] at this
        exact .inl ⟨rfl, this.1⟩
      · have holds : ∀ (j : Nat) u, xs[j]? = some u → w.cell? ((⟨p.blk, 0, none⟩ : Addr).add j) = some u := hown.cells (g := p.blk) (by simp [Pl.sv, hn, Value.ownBlock])
        have hr := Lib.run_append_grow_string (P := P) w t u 0 e i (.int .u8 0) ht hu hi hz ⟨p.blk, 0, none⟩ n p.cap xs (by rw [hsize]; exact hown.1) holds s (by omega) (by omega) (by rw [hby]; exact growslice_fits (by omega) (by omega))
        have := inj (hr0.symm.trans hr)
        simp [Pl.sv, h] at this
        exact .inr (by omega)
theorem app_str_row [Glob] (hR : HRel w0 Sx pl h w) {t u e : Nat} {i : TypeInfo} (ht : P.underlying t = some (.slice e)) (hu : P.underlying u = some .string) (hi : P.info? e = some i) (hz : i.zero = some (.int .u8 0)) (hsize : i.size = 1) (hby : i.bytes = 1)
    {p : Pl} {n m : Nat} {xs : List Value} {hh : Heap} (hown : w.ownsRowZ 0 e 1 (p.sv n) n xs) (hRh : HRel w0 Sx pl hh w)
    (hfree : p.nil = false → (w0.heap.size ≤ p.blk ∨ Sx p.blk) ∧ p.blk < w.heap.size ∧ ∀ (c : Nat) q y, pl[c]? = some q → hh[c]? = some y → y.alive q = true → q.blk ≠ p.blk)
    (s : List UInt8) (hb : n + s.length ≤ 140737488355328) (hm : m = n + s.length) {x' : Blk} {lit : Bool} (hal : ∀ q, x'.alive q = !q.nil) (hrd : ∀ q, x'.rd q = false)
    (hx' : ∀ (q : Pl) (w' : World), w'.ownsRowZ 0 e 1 (q.sv m) m (xs ++ byteV s) → BlkR (pl ++ [q]) w' x' q) :
    ∃ v' w' pl', (∀ ty, (Builtin.append_ #[t, u] ty #[p.sv n, .string ⟨s.toArray⟩]).run P w = .ok v' w') ∧ (AV.v (.one (.ow pl.length 1 0 m lit))).R pl' v' ∧ PExt pl pl' ∧ HRel w0 Sx pl' (hh ++ [x']) w' := by
  have hsz : (ByteArray.mk s.toArray).size = s.length := by simp [ByteArray.size]
  obtain ⟨p', w', g1, g3, g4, g5, g6⟩ := app_str (P := P) ht hu hi hz hsize hby hown ⟨s.toArray⟩ (by rw [hsz]; exact hb)
  rw [hsz, ← hm, strCells_mk] at g3
  rw [hsz, ← hm] at g1 g5
  have hrow' : ∀ k, (p.sv n).ownBlock = some k → p.nil = false ∧ k = p.blk := fun k hk => by
    unfold Pl.sv at hk
    cases hn : p.nil with
    | true => simp [hn, Value.ownBlock] at hk
    | false => simp [hn, Value.ownBlock] at hk; exact ⟨rfl, hk.symm⟩
  have hF := hRh.fresh (x' := x') (p' := p') (hRh.fr.grown g4 (fun k hk => by have := hrow' k hk; rw [this.2]; exact (hfree this.1).1)) g4.size
    (fun c q y hq hy ha => g4.block _ (hRh.lt c q y hq hy ha) (fun e => by have := hrow' _ e.symm; exact (hfree this.1).2.2 c q y hq hy ha this.2))
    (hx' p' w' g3)
    (fun ha => by
      have hn : p'.nil = false := by rw [hal] at ha; simpa using ha
      have g7 := g6 hn
      refine ⟨g7.2, ?_, fun c q y hq hy ha => ?_⟩
      · rcases g7.1 with ⟨h1, h2⟩ | h1
        · rw [h2]; exact (hfree h1).1
        · exact .inl (Nat.le_trans hRh.fr.size h1)
      · rcases g7.1 with ⟨h1, h2⟩ | h1
        · rw [h2]; exact (hfree h1).2.2 c q y hq hy ha
        · have := hRh.lt c q y hq hy ha; omega)
    (fun h => by rw [hrd] at h; cases h)
  refine ⟨p'.sv m, w', _, g1, .inr ?_, hF.2, hF.1⟩
  cases hn : p'.nil with
  | true => simp [SV.val, owVal, hn, Pl.sv, g5 hn]
  | false => simp [SV.val, owVal, hn, Pl.sv]
theorem appS_sound [Glob] (hR : HRel w0 Sx pl h w) {t u : Nat} {s x : AV} {vs vx : Value} (hs : s.R pl vs) (hx : x.R pl vx) {K : KV} (hk : appS P t u s x h K) :
    ∃ v av h' pl' w', (∀ ty, (Builtin.append_ #[t, u] ty #[vs, vx]).run P w = .ok v w') ∧ K av h' ∧ av.R pl' v ∧ PExt pl pl' ∧ HRel w0 Sx pl' h' w' := by
  unfold appS at hk
  split at hk
  · rename_i e lit ys ht hu hl
    have hvx := litStr_R hl hx
    subst hvx
    split at hk
    · rename_i hbt
      obtain ⟨i, hi, hz, hsize, hby⟩ := byteT_spec hbt
      have fin : ∀ {p : Pl} {n m : Nat} {xs : List Value} {hh : Heap} {x' : Blk} {lit : Bool}, vs = p.sv n → w.ownsRowZ 0 e 1 (p.sv n) n xs → HRel w0 Sx pl hh w →
          (p.nil = false → (w0.heap.size ≤ p.blk ∨ Sx p.blk) ∧ p.blk < w.heap.size ∧ ∀ (c : Nat) q y, pl[c]? = some q → hh[c]? = some y → y.alive q = true → q.blk ≠ p.blk) →
          n + ys.length ≤ 140737488355328 → m = n + ys.length → (∀ q, x'.alive q = !q.nil) → (∀ q, x'.rd q = false) → (∀ (q : Pl) (w' : World), w'.ownsRowZ 0 e 1 (q.sv m) m (xs ++ byteV ys) → BlkR (pl ++ [q]) w' x' q) →
          K (.v (.one (.ow (len' h) 1 0 m lit))) (hh ++ [x']) → ∃ v av h' pl' w', (∀ ty, (Builtin.append_ #[t, u] ty #[vs, .string ⟨ys.toArray⟩]).run P w = .ok v w') ∧ K av h' ∧ av.R pl' v ∧ PExt pl pl' ∧ HRel w0 Sx pl' h' w' := by
        intro p n m xs hh x' lit h1 h2 h3 h4 h5 h6 h7 h8 h9 hK
        obtain ⟨v', w', pl', g1, g2, g3, g4⟩ := app_str_row (P := P) hR ht hu hi hz hsize hby h2 h3 h4 ys h5 h6 h7 h8 h9 (lit := lit)
        rw [len'_eq, ← hR.len] at hK
        exact ⟨v', _, _, pl', w', by rw [h1]; exact g1, hK, g2, g3, g4⟩
      split at hk
      · have hv := nils_R hs
        have nl : ∀ {x' : Blk} {lit : Bool} {m : Nat}, m = ys.length → ys.length ≤ 140737488355328 → (∀ q, x'.alive q = !q.nil) → (∀ q, x'.rd q = false) → (∀ (q : Pl) (w' : World), w'.ownsRowZ 0 e 1 (q.sv m) m (byteV ys) → BlkR (pl ++ [q]) w' x' q) → K (.v (.one (.ow (len' h) 1 0 m lit))) (h ++ [x']) →
            ∃ v av h' pl' w', (∀ ty, (Builtin.append_ #[t, u] ty #[vs, .string ⟨ys.toArray⟩]).run P w = .ok v w') ∧ K av h' ∧ av.R pl' v ∧ PExt pl pl' ∧ HRel w0 Sx pl' h' w' := fun h1 h2 h3 h4 h5 h6 =>
          fin (p := ⟨0, true, 0⟩) (n := 0) (xs := []) (by rw [hv]; rfl) (World.ownsRowZ_nil w 0 e 1) hR (fun h => by cases h) (by omega) (by omega) h3 h4 (fun q w' ho => h5 q w' (by simpa using ho)) h6
        split at hk
        · split at hk
          · rename_i hlen
            have hlen := of_decide_eq_true hlen
            rw [len'_eq ys] at hlen hk
            exact nl (x' := .ownL e 1 ys.length (bytesL ys)) (lit := true) rfl (by omega) (fun q => rfl) (fun q => rfl) (fun q w' ho => ⟨byteV ys, (bytesL_R ys), ho⟩) hk
          · exact hk.elim
        · exact nl (x' := .own e byC ys) (lit := false) rfl hk.1 (fun q => rfl) (fun q => rfl) (fun q w' ho => ⟨byteV ys, byC_R ys, ho⟩) hk.2
      · rename_i b z n lit0
        split at hk
        · rename_i hz1
          have hz1 := of_decide_eq_true hz1
          subst hz1
          obtain ⟨p, hp, hpc⟩ := ow_R hs (.inr rfl)
          have hsv : vs = p.sv n := by
            rcases hpc with ⟨h1, _, h2, h3⟩ | ⟨h1, h3⟩
            · rw [h3, Pl.sv, if_pos h1]
            · rw [h3]; simp [Pl.sv, h1]
          have hfree : ∀ x0, h[b]? = some x0 → (p.nil = false → x0.alive p = true) → p.nil = false → (w0.heap.size ≤ p.blk ∨ Sx p.blk) ∧ p.blk < w.heap.size ∧ ∀ (c : Nat) q y, pl[c]? = some q → (AM.set h b .gone)[c]? = some y → y.alive q = true → q.blk ≠ p.blk := fun x0 hx0 ha0 hn => by
            refine ⟨hR.own b p x0 hp hx0 (ha0 hn), hR.lt b p x0 hp hx0 (ha0 hn), fun c q y hq hy ha e => ?_⟩
            by_cases ebc : b = c
            · subst ebc
              rw [get_set_same hx0] at hy
              cases hy
              cases ha
            · rw [get_set_other ebc] at hy
              exact ebc (hR.inj b c p q x0 y hp hq hx0 hy (ha0 hn) ha e.symm)
          split at hk
          · rename_i T z3 n3 cs hg
            rw [get?_eq] at hg
            split at hk
            · rename_i hc
              simp only [Bool.and_eq_true, decide_eq_true_eq] at hc
              obtain ⟨⟨rfl, rfl⟩, rfl⟩ := hc
              obtain ⟨xs, hr, ho⟩ := hR.hb b _ p hg hp
              split at hk
              · split at hk
                · rename_i hlen
                  have hlen := of_decide_eq_true hlen
                  rw [len'_eq ys] at hlen hk
                  rw [app_eq] at hk
                  refine fin (p := p) (n := n3) (xs := xs) (hh := AM.set h b .gone) (x' := .ownL T 1 (n3 + ys.length) (cs ++ bytesL ys)) (lit := true) hsv ho (hR.forget b) (hfree _ hg (fun h => by simp [Blk.alive, h])) (by omega) rfl (fun q => rfl) (fun q => rfl) (fun q w' ho' => ⟨xs ++ byteV ys, ?_, ho'⟩) hk
                  exact (RL.append hr (bytesL_R ys)).ext (PExt.push pl _)
                · exact hk.elim
              · split at hk
                · rename_i us hd
                  have hxl : xs.length = n3 * byC.esz := by rw [ho.1]; rfl
                  obtain ⟨k1, k2⟩ := decAll_R hd hr hxl
                  refine fin (p := p) (n := n3) (xs := xs) (hh := AM.set h b .gone) (x' := .own T byC (@HAppend.hAppend (List byC.τ) (List byC.τ) (List byC.τ) _ us ys)) (lit := false) hsv ho (hR.forget b) (hfree _ hg (fun h => by simp [Blk.alive, h])) hk.1 rfl (fun q => rfl) (fun q => rfl) (fun q w' ho' => ⟨xs ++ byteV ys, ?_, ?_⟩) hk.2
                  · show RL (pl ++ [q]) (flatC byC (bcat us ys)) _
                    rw [byC_app]
                    exact (RL.append k1 (byC_R ys)).ext (PExt.push pl q)
                  · show w'.ownsRowZ 0 _ 1 (q.sv (bcat us ys).length) (bcat us ys).length _
                    rw [byC_len, k2]
                    exact ho'
                · exact hk.elim
            · exact hk.elim
          · rename_i T C xs0 hg
            rw [get?_eq] at hg
            split at hk
            · rename_i hc
              simp only [Bool.and_eq_true, decide_eq_true_eq] at hc
              obtain ⟨hce, rfl⟩ := hc
              obtain ⟨⟨rfl, hb⟩, zs, hsr, hk⟩ := hk
              obtain ⟨xs, hr, ho⟩ := hR.hb b _ p hg hp
              rw [hce] at ho
              have hcr := same_R hsr (byC_R (pl := pl) ys)
              refine fin (p := p) (xs := xs) (hh := AM.set h b .gone) (x' := .own T C (xs0 ++ zs)) (lit := false) hsv ho (hR.forget b) (hfree _ hg (fun h => by simp [Blk.alive, h])) hb rfl (fun q => rfl) (fun q => rfl) (fun q w' ho' => ⟨xs ++ byteV ys, ?_, ?_⟩) hk
              · rw [flat_append]
                exact (RL.append hr hcr).ext (PExt.push pl _)
              · rw [hce]
                have e1 : (xs0 ++ zs).length = xs0.length + ys.length := by rw [List.length_append]; exact congrArg (xs0.length + ·) hsr.hl'
                rw [e1]
                exact ho'
            · exact hk.elim
          · exact hk.elim
        · exact hk.elim
      · exact hk.elim
    · exact hk.elim
  · exact hk.elim
theorem fold_push [Glob] : ∀ (ns : List Int) (acc : Array UInt8), ns.foldl (fun (r : ByteArray) n => r.push (UInt8.ofNat n.toNat)) ⟨acc⟩ = ⟨acc ++ (ns.map byteI).toArray⟩
  | [], acc => by simp
  | n :: ns, acc => by
    rw [List.foldl_cons]
    show List.foldl _ (ByteArray.mk (acc.push (UInt8.ofNat n.toNat))) ns = _
    rw [fold_push ns]
    simp [byteI]
theorem bytes_run [Glob] {src dst e : TypeId} (hs : P.underlying src = some (.slice e)) (he : P.underlying e = some (.int .u8)) (hd : P.underlying dst = some .string) (a : Addr) (c : Nat) {ns : List Int} (hc : ∀ (j : Nat) v, (ns.map (Value.int .u8))[j]? = some v → w.cell? (a.add j) = some v) :
    (convert src dst (.slice (some a) ns.length c)).run P w = .ok (.string ⟨(ns.map byteI).toArray⟩) w := by
  rw [run_convert_bytes_string w src dst e _ _ _ hs he hd]
  have hl := run_loadCells_list (P := P) w a (ns.map (Value.int .u8)) hc
  rw [List.length_map] at hl
  rw [run_bytesToString w a ns.length c ns hl]
  have := fold_push ns #[]
  rw [show (ByteArray.mk #[]) = ByteArray.empty from rfl] at this
  rw [this]
  simp
theorem toStr_sound [Glob] (hR : HRel w0 Sx pl h w) {src dst e : TypeId} (hs : P.underlying src = some (.slice e)) (he : P.underlying e = some (.int .u8)) (hd : P.underlying dst = some .string) {x : AV} {v : Value} (hx : x.R pl v) {K : AV → Prop} (hk : toStr h x K) :
    ∃ u av, (convert src dst v).run P w = .ok u w ∧ K av ∧ av.R pl u := by
  have nil0 : ∀ c, (convert src dst (.slice none 0 c)).run P w = .ok (.string ⟨#[]⟩) w := fun c => by
    rw [run_convert_bytes_string w src dst e _ _ _ hs he hd]
    rfl
  have out : ∀ {l : List SV} {us : List Value} {b : Nat} {ao : Nat} {c : Nat}, RL pl l us → (∀ (j : Nat) v, us[j]? = some v → w.cell? ⟨b, ao + j, none⟩ = some v) →
      (match litBytes l with | some s => K (.v (.one (.cstr s))) | none => (match numBytes l with | some s => K (.v (.one (.str s))) | none => False)) →
      ∃ u av, (convert src dst (.slice (some ⟨b, ao, none⟩) us.length c)).run P w = .ok u w ∧ K av ∧ av.R pl u := by
    intro l us b ao c hr hc hk
    have go : ∀ {s : List UInt8}, numBytes l = some s → (convert src dst (.slice (some ⟨b, ao, none⟩) us.length c)).run P w = .ok (.string ⟨s.toArray⟩) w := fun {s} hn => by
      obtain ⟨ns, rfl, rfl⟩ := numBytes_R hn hr
      have := bytes_run (w := w) hs he hd ⟨b, ao, none⟩ c (ns := ns) (fun j v hj => by rw [Addr.add_lit]; exact hc j v hj)
      rw [List.length_map]
      exact this
    split at hk
    · rename_i s hl
      exact ⟨_, _, go (litBytes_num hl), hk, .inr rfl⟩
    · split at hk
      · rename_i s hl
        exact ⟨_, _, go hl, hk, .inr rfl⟩
      · exact hk.elim
  unfold toStr at hk
  split at hk
  · rw [nils_R hx]
    exact ⟨_, _, nil0 0, hk, .inr rfl⟩
  · rename_i b z st n lit
    split at hk
    · rename_i hz
      have hz := of_decide_eq_true hz
      subst hz
      obtain ⟨p, hp, hpc⟩ := ow_R' hx
      split at hk
      · rename_i T z3 n3 cs hg
        rw [get?_eq] at hg
        split at hk
        · rename_i hc
          simp only [Bool.and_eq_true, decide_eq_true_eq] at hc
          obtain ⟨rfl, hle⟩ := hc
          obtain ⟨vs, h1, h2⟩ := hR.hb b _ p hg hp
          split at hk
          · rename_i l hl
            rw [dropN_eq] at hl
            have h1' : RL pl (cs.drop st) (vs.drop st) := by have := h1.drop st; rwa [dropN_eq] at this
            have ⟨h3, h4⟩ := h1'.takeE hl
            have hul : ((vs.drop st).take n).length = n := by rw [List.length_take]; omega
            rcases hpc with ⟨hn, rfl, rfl, h5⟩ | ⟨hn, h5⟩
            · subst h5
              have : l = [] := by
                have := h3.length
                rw [hul] at this
                exact List.eq_nil_of_length_eq_zero this
              subst this
              simp only [litBytes] at hk
              exact ⟨_, _, nil0 0, hk, .inr rfl⟩
            · subst h5
              have := out (c := p.cap - st) (b := p.blk) (ao := if n = 0 ∧ p.cap = st then 0 else st * 1) h3 (fun j v hj => by
                have hjn : j < n := by have := (List.getElem?_eq_some_iff.1 hj).1; omega
                rw [if_neg (by omega), Nat.mul_one]
                rw [List.getElem?_take_of_lt hjn, List.getElem?_drop] at hj
                have := Seen.of_own h2 (st + j) v hj
                simpa using this) hk
              rw [hul] at this
              exact this
          · exact hk.elim
        · exact hk.elim
      · rename_i T C xs hg
        rw [get?_eq] at hg
        split at hk
        · rename_i hce
          have hce := of_decide_eq_true hce
          obtain ⟨ns, hsr, hle, hk⟩ := hk
          obtain ⟨vs, h1, h2⟩ := hR.hb b _ p hg hp
          have hvs := biC_vals (same_R hsr h1)
          subst hvs
          refine ⟨_, _, ?_, hk, .inr rfl⟩
          rcases hpc with ⟨hn, rfl, rfl, h5⟩ | ⟨hn, h5⟩
          · subst h5
            simpa using nil0 0
          · subst h5
            have hnl : ((ns.drop st).take n).length = n := by
              have h9 : ns.length = xs.length := hsr.hl'
              rw [List.length_take, List.length_drop, h9]
              omega
            have := bytes_run (w := w) hs he hd ⟨p.blk, (if n = 0 ∧ p.cap = st then 0 else st * 1), none⟩ (p.cap - st) (ns := (ns.drop st).take n) (fun j v hj => by
              have hjn : j < n := by have := (List.getElem?_eq_some_iff.1 hj).1; rw [List.length_map] at this; omega
              rw [Addr.add_lit, if_neg (by omega), Nat.mul_one]
              rw [List.map_take, List.map_drop, List.getElem?_take_of_lt hjn, List.getElem?_drop] at hj
              have := Seen.of_own h2 (st + j) v hj
              simpa using this)
            rw [hnl] at this
            exact this
        · exact hk.elim
      · exact hk.elim
    · exact hk.elim
  · rename_i b off n c
    obtain ⟨ad, had, rfl⟩ := sl_R hx
    split at hk
    · rename_i T cs hg
      rw [get?_eq] at hg
      split at hk
      · rename_i l hl
        rw [dropN_eq] at hl
        unfold addrOf at had
        cases hp : pl[b]? with
        | none => simp [hp] at had
        | some p =>
          simp [hp] at had
          subst had
          obtain ⟨vs, h1, h2⟩ := hR.hb b _ p hg hp
          have h1' : RL pl (cs.drop off) (vs.drop off) := by have := h1.drop off; rwa [dropN_eq] at this
          have ⟨h3, h4⟩ := h1'.takeE hl
          have hul : ((vs.drop off).take n).length = n := by rw [List.length_take]; omega
          have := out (c := c) (b := p.blk) (ao := off) h3 (fun j v hj => by
            have hjn : j < n := by have := (List.getElem?_eq_some_iff.1 hj).1; omega
            rw [List.getElem?_take_of_lt hjn, List.getElem?_drop] at hj
            have := Seen.of_row h2 (off + j) v hj
            simpa using this) hk
          rw [hul] at this
          exact this
      · exact hk.elim
    · exact hk.elim
  · exact hk.elim
theorem convX_sound [Glob] (hR : HRel w0 Sx pl h w) {src dst : TypeId} {x : AV} {v : Value} (hx : x.R pl v) {K : KV} (hk : convX P src dst x h K) :
    ∃ u av, (convert src dst v).run P w = .ok u w ∧ K av h ∧ av.R pl u := by
  unfold convX at hk
  split at hk
  · rename_i e hs hd
    split at hk
    · rename_i hc
      simp only [Bool.and_eq_true] at hc
      have he : P.underlying e = some (.int .u8) := by
        have := hc.2
        unfold u8T at this
        split at this
        · assumption
        · cases this
      exact toStr_sound hR hs he hd hx hk
    · exact hk.elim
  · rename_i t hs hd
    split at hk
    · rename_i b off
      obtain ⟨ad, had, rfl⟩ := ptr_R hx
      split at hk
      · rename_i T cs sz hg hsz
        rw [get?_eq] at hg
        split at hk
        · rename_i hlt
          have hlt := of_decide_eq_true hlt
          rw [len'_eq] at hlt
          unfold addrOf at had
          cases hp : pl[b]? with
          | none => simp [hp] at had
          | some p =>
            simp [hp] at had
            subst had
            obtain ⟨vs, h1, h2⟩ := hR.hb b _ p hg hp
            unfold size? at hsz
            cases hi : P.info? t with
            | none => simp [hi] at hsz
            | some i =>
              simp [hi] at hsz
              refine ⟨_, _, Lib.run_to_unsafe (P := P) w ⟨p.blk, off, none⟩ hs hd hi (by omega) (e := T) (cells := vs.length) (by simp [World.shape?, h2]) (by rw [← h1.length]; exact hlt), hk, hx⟩
        · exact hk.elim
      · exact hk.elim
    · exact hk.elim
  · rename_i u hs hd
    split at hk
    · rename_i b off
      obtain ⟨ad, had, rfl⟩ := ptr_R hx
      split at hk
      · rename_i T cs sz hg hsz
        rw [get?_eq] at hg
        split at hk
        · rename_i hlies
          rw [len'_eq] at hlies
          unfold addrOf at had
          cases hp : pl[b]? with
          | none => simp [hp] at had
          | some p =>
            simp [hp] at had
            subst had
            obtain ⟨vs, h1, h2⟩ := hR.hb b _ p hg hp
            unfold size? at hsz
            cases hi : P.info? u with
            | none => simp [hi] at hsz
            | some i =>
              refine ⟨_, _, Lib.run_from_unsafe (P := P) w ⟨p.blk, off, none⟩ hs hd hi (e := T) (cells := vs.length) (by simp [World.shape?, h2]) (by rw [← h1.length]; exact hlies), hk, hx⟩
        · exact hk.elim
      · exact hk.elim
    · exact hk.elim
  · exact hk.elim
theorem sliceDataX_sound [Glob] (hR : HRel w0 Sx pl h w) {ts : Array TypeId} {ty : TypeId} {x : AV} {v : Value} (hx : x.R pl v) {K : KV} (hk : sliceDataX h x K) :
    ∃ u av, (Builtin.unsafeSliceData_ ts ty #[v]).run P w = .ok u w ∧ K av h ∧ av.R pl u := by
  unfold sliceDataX at hk
  split at hk
  · rw [nils_R hx]
    exact ⟨_, _, Lib.run_unsafeSliceData_nil w ts ty 0 0, hk, .inr rfl⟩
  · rename_i b z n lit
    split at hk
    · obtain ⟨p, hp, hpc⟩ := ow_R hx (.inr rfl)
      have go : ∀ {m : Nat} {vs : List Value} {T z' : Nat}, 0 < n → n ≤ m → w.ownsRowZ 0 T z' (p.sv m) m vs → K (.v (.one (.ptr b 0))) h → ∃ u av, (Builtin.unsafeSliceData_ ts ty #[v]).run P w = .ok u w ∧ K av h ∧ av.R pl u := by
        intro m vs T z' h0 hle ho hK
        rcases hpc with ⟨_, _, h2, _⟩ | ⟨hn, h5⟩
        · omega
        · subst h5
          have hcap : m ≤ p.cap := by
            rcases ho.2 with ⟨h1, _⟩ | ⟨g, cap, cur, h1, _, _, h3, _⟩
            · simp [Pl.sv, hn] at h1
            · simp only [Pl.sv, hn, Bool.false_eq_true, if_false, Value.slice.injEq] at h1
              omega
          refine ⟨_, _, Lib.run_unsafeSliceData_row w ts ty _ n (p.cap - 0) (by omega), hK, .inr ?_⟩
          simp [SV.val, addrOf, hp]
      split at hk
      · rename_i T z3 n3 cs hg
        rw [get?_eq] at hg
        split at hk
        · rename_i hc
          simp only [Bool.and_eq_true, decide_eq_true_eq] at hc
          obtain ⟨vs, h1, h2⟩ := hR.hb b _ p hg hp
          exact go hc.1 hc.2 h2 hk
        · exact hk.elim
      · rename_i T C xs hg
        rw [get?_eq] at hg
        split at hk
        · exact hk.elim
        · obtain ⟨vs, h1, h2⟩ := hR.hb b _ p hg hp
          exact go hk.1.1 hk.1.2 h2 hk.2
      · exact hk.elim
    · exact hk.elim
  · exact hk.elim
theorem grown_freeze (w : World) (a : Addr) (n : Nat) : w.grownBy (w.freeze a n) (some a.block) := by
  unfold World.freeze
  split
  · exact ⟨rfl, rfl, rfl, Nat.le_refl _, fun _ _ _ => rfl⟩
  · refine ⟨rfl, rfl, rfl, by simp, fun k _ hk => ?_⟩
    simp only [Array.getElem?_modify]
    rw [if_neg (fun e => hk (by rw [e]))]
theorem strDataX_sound [Glob] (hR : HRel w0 Sx pl h w) {ts : List Nat} {ty : TypeId} {l : List AV} {vs : List Value} (hl : ArgsR pl l vs) {K : KV} (hk : strDataX P ts l h K) :
    ∃ u w' av h', (Builtin.unsafeString_ ts.toArray ty vs.toArray).run P w = .ok u w' ∧ K av h' ∧ av.R pl u ∧ HRel w0 Sx pl h' w' := by
  unfold strDataX at hk
  split at hk
  · rename_i t1 t2 n
    match vs, hl with
    | [v1, v2], hl =>
      split at hk
      · rename_i hn
        have hn := of_decide_eq_true hn
        subst hn
        have e1 := nilp_R hl.1
        have e2 := con1 hl.2.1
        subst e1 e2
        exact ⟨_, _, _, _, Lib.run_unsafeString_none w t1 t2 ty none, hk, .inr rfl, hR⟩
      · exact hk.elim
    | [], hl => exact hl.elim
    | [_], hl => exact hl.2.elim
    | _ :: _ :: _ :: _, hl => exact hl.2.2.elim
  · rename_i t1 t2 b y
    match vs, hl with
    | [v1, v2], hl =>
      obtain ⟨ad, had, rfl⟩ := ptr_R hl.1
      have go : ∀ {e : Nat} {s : List UInt8} {x0 : Blk} {p : Pl} {m : Nat}, P.underlying t1 = some (.pointer e) → P.cellsOf e = 1 → pl[b]? = some p → h[b]? = some x0 → (p.nil = false → x0.alive p = true) → w.ownsRowZ 0 e 1 (p.sv m) m (byteV s) → v2 = .int .i64 (s.length : Int) → 0 < s.length → s.length ≤ 9223372036854775807 →
          (Builtin.unsafeString_ #[t1, t2] ty #[.pointer (some ad), v2]).run P w = .ok (.string ⟨s.toArray⟩) (w.freeze ⟨p.blk, 0, none⟩ s.length) ∧ HRel w0 Sx pl (AM.set h b .gone) (w.freeze ⟨p.blk, 0, none⟩ s.length) := by
        intro e s x0 p m hu hce hp hg hal ho hv h0 h63
        have hbl : (byteV s).length = s.length := by simp [byteV]
        have hn := own_nonnil ho (by rw [hbl]; exact h0)
        have had' : ad = ⟨p.blk, 0, none⟩ := by simpa [addrOf, hp] using had.symm
        subst had' hv
        rcases ho.2 with ⟨h1, _⟩ | ⟨g, cap, cur, h1, _, ⟨fz, h2, _⟩, h3, h4, h5, h6⟩
        · simp [Pl.sv, hn] at h1
        · simp only [Pl.sv, hn, Bool.false_eq_true, if_false, Value.slice.injEq, Option.some.injEq, Addr.mk.injEq] at h1
          obtain ⟨⟨rfl, _⟩, _, rfl⟩ := h1
          refine ⟨Lib.run_unsafeString_row w t1 t2 ty e hu hce p.blk cur.size (by simp [World.shape?, h2]) s (fun e => by rw [e] at h0; simp at h0) (by have := ho.1; rw [hbl] at this; omega) h63 (fun j x hj => ?_), ?_⟩
          · have := ho.cells (g := p.blk) (by simp [Pl.sv, hn, Value.ownBlock]) j (.int .u8 x.toNat) (by simp [byteV, hj])
            exact this
          · exact hR.updG hp hg (hal hn) (grown_freeze w ⟨p.blk, 0, none⟩ s.length) trivial
      have hbp : ∀ {x0 : Blk}, h[b]? = some x0 → ∃ p, pl[b]? = some p := fun hg => by
        have hlt : b < pl.length := by rw [hR.len]; exact (List.getElem?_eq_some_iff.1 hg).1
        exact ⟨_, List.getElem?_eq_getElem hlt⟩
      split at hk
      · rename_i e T z n cs m hu hg hm
        rw [get?_eq] at hg
        split at hk
        · rename_i hc
          simp only [Bool.and_eq_true, decide_eq_true_eq] at hc
          obtain ⟨⟨⟨⟨⟨rfl, rfl⟩, hce⟩, h0⟩, rfl⟩, hle⟩ := hc
          split at hk
          · rename_i s hd
            obtain ⟨p, hp⟩ := hbp hg
            obtain ⟨us, h1, h2⟩ := hR.hb b _ p hg hp
            obtain ⟨k1, k2⟩ := decAll_R hd h1 (by rw [h2.1]; rfl)
            have := byC_vals k1
            subst this
            have hv := i64_R hm (v := v2) hl.2.1
            obtain ⟨g1, g2⟩ := go hu hce hp hg (fun hn => by simp [Blk.alive, hn]) h2 (by rw [hv]; exact congrArg (fun z : Nat => Value.int .i64 (z : Int)) k2.symm) (by have h9 : @List.length UInt8 s = n := k2; rw [h9]; exact h0) (by have h9 : @List.length UInt8 s = n := k2; rw [h9]; omega)
            exact ⟨_, _, _, _, g1, hk, .inr rfl, g2⟩
          · exact hk.elim
        · exact hk.elim
      · rename_i e T C xs m hu hg hm
        rw [get?_eq] at hg
        split at hk
        · rename_i hc
          simp only [Bool.and_eq_true, decide_eq_true_eq] at hc
          obtain ⟨⟨rfl, hCe⟩, hce⟩ := hc
          obtain ⟨s, hsr, ⟨rfl, h0, h63⟩, hk⟩ := hk
          obtain ⟨p, hp⟩ := hbp hg
          obtain ⟨us, h1, h2⟩ := hR.hb b _ p hg hp
          have := byC_vals (same_R hsr h1)
          subst this
          rw [hCe] at h2
          obtain ⟨g1, g2⟩ := go hu hce hp hg (fun hn => by simp [Blk.alive, hn]) h2 (i64_R hm (v := v2) hl.2.1) h0 h63
          exact ⟨_, _, _, _, g1, hk, .inr rfl, g2⟩
        · exact hk.elim
      · exact hk.elim
    | [], hl => exact hl.elim
    | [_], hl => exact hl.2.elim
    | _ :: _ :: _ :: _, hl => exact hl.2.2.elim
  · exact hk.elim
theorem freeze_cells {w : World} {g : Nat} {cur : Array Value} {e : TypeId} {fz : Nat × Nat} (hg : w.heap[g]? = some (.cells cur e fz)) (hz : offEnd fz cur.size) : ∃ fz', (w.freeze ⟨g, cur.size, none⟩ 1).heap[g]? = some (.cells cur e fz') ∧ offEnd fz' cur.size := by
  obtain ⟨lo, hi⟩ := fz
  refine ⟨if lo == hi then (cur.size, cur.size + 1) else (min lo cur.size, max hi (cur.size + 1)), ?_, ?_⟩
  · simp [World.freeze, Array.getElem?_modify, hg]
  · split
    · exact .inr (Nat.le_refl _)
    · rename_i hne
      rcases hz with h | h
      · exact absurd (by simpa using h) hne
      · right
        simp only at h ⊢
        omega
theorem run_convert_mark {src e : TypeId} (hs : P.underlying src = some (.slice e)) (he : P.underlying e = some (.int .u8)) (a : Addr) (n c cs : Nat) {T : TypeId} (hsh : w.shape? a.block = some (T, cs)) :
    (convert src src (.slice (some a) n c)).run P w = .ok (.slice (some a) n c) (w.freeze ⟨a.block, cs, none⟩ 1) := by
  simp [convert, run_underlying hs, run_underlying he, markStringish, hsh]
theorem convB_sound [Glob] (hR : HRel w0 Sx pl h w) {s d : TypeId} {x : AV} {v : Value} (hx : x.R pl v) {K : KV} (hk : convB P s d x h K) :
    ∃ u av h' pl' w', (convert s d v).run P w = .ok u w' ∧ K av h' ∧ av.R pl' u ∧ PExt pl pl' ∧ HRel w0 Sx pl' h' w' := by
  unfold convB at hk
  split at hk
  · rename_i e hs hd
    split at hk
    · rename_i hc
      simp only [Bool.and_eq_true] at hc
      have he : P.underlying e = some (.int .u8) := by
        have := hc.2
        unfold u8T at this
        split at this
        · assumption
        · cases this
      split at hk
      · rename_i lit ys hl
        have hv := litStr_R hl hx
        subst hv
        have hsz : (ByteArray.mk ys.toArray).size = ys.length := by simp [ByteArray.size]
        have hrun := Lib.run_convert_string_bytes (P := P) w s d e ⟨ys.toArray⟩ hs hd he
        have hgr : w.grownBy (Lib.bytesWorld w e ⟨ys.toArray⟩) none := ⟨rfl, rfl, rfl, by rw [Lib.bytesWorld_size]; omega, fun k hk _ => Lib.bytesWorld_at_old w _ _ k hk⟩
        have fin : ∀ {x' : Blk} {lit : Bool}, ys.length ≤ 140737488355328 → (∀ q, x'.alive q = !q.nil) → (∀ q, x'.rd q = false) → (∀ (q : Pl) (w' : World), w'.ownsRowZ 0 e 1 (q.sv ys.length) ys.length (byteV ys) → BlkR (pl ++ [q]) w' x' q) →
            K (.v (.one (.ow (len' h) 1 0 ys.length lit))) (h ++ [x']) → ∃ u av h' pl' w', (convert s d (.string ⟨ys.toArray⟩)).run P w = .ok u w' ∧ K av h' ∧ av.R pl' u ∧ PExt pl pl' ∧ HRel w0 Sx pl' h' w' := by
          intro x' lit hlen hal hrd hx' hK
          have hge := grownCap_ge w ys.length 0 e
          have hle := grownCap_le_maxLen w ys.length 0 e (by simp only [maxLen]; omega)
          have hcs : (Lib.bytesCells w e ⟨ys.toArray⟩).size = grownCap w ys.length 0 e := by
            simp only [Lib.bytesCells, hsz, Array.size_append, Array.size_map, Array.size_replicate, List.size_toArray]
            omega
          have hF := hR.fresh (x' := x') (p' := ⟨w.heap.size, false, grownCap w ys.length 0 e⟩) (hR.fr.grown hgr (by simp)) hgr.size (fun b p x hp hx ha => hgr.block _ (hR.lt b p x hp hx ha) (by simp))
            (hx' _ _ ⟨by simp [byteV], .inr ⟨w.heap.size, grownCap w ys.length 0 e, _, by simp [Pl.sv], Nat.zero_le _, ⟨_, Lib.bytesWorld_at_new w e _, .inr (Nat.le_refl _)⟩, hge, hle, by rw [hcs, Nat.mul_one], by
              rw [Nat.mul_one]
              have e1 : ((Array.map (fun b => Value.int .u8 (UInt8.toNat b : Nat)) ys.toArray).toList) = byteV ys := by simp [byteV]
              have e2 : (byteV ys).length = ys.length := by simp [byteV]
              simp only [Lib.bytesCells, Array.toList_append, e1]
              rw [← e2, List.take_left]⟩⟩)
            (fun _ => ⟨by rw [Lib.bytesWorld_size]; exact Nat.lt_succ_self _, .inl hR.fr.size, fun b p x hp hx ha => by have := hR.lt b p x hp hx ha; simp only; omega⟩)
            (fun h => by rw [hrd] at h; cases h)
          rw [len'_eq, ← hR.len] at hK
          refine ⟨_, _, _, _, _, hrun, hK, .inr ?_, hF.2, hF.1⟩
          simp [SV.val, owVal, hsz]
        split at hk
        · split at hk
          · rename_i hlen
            have hlen := of_decide_eq_true hlen
            rw [len'_eq ys] at hlen hk
            exact fin (x' := .ownL e 1 ys.length (bytesL ys)) (lit := true) (by omega) (fun q => rfl) (fun q => rfl) (fun q w' ho => ⟨byteV ys, bytesL_R ys, ho⟩) hk
          · exact hk.elim
        · exact fin (x' := .own e byC ys) (lit := false) hk.1 (fun q => rfl) (fun q => rfl) (fun q w' ho => ⟨byteV ys, byC_R ys, ho⟩) hk.2
      · exact hk.elim
    · exact hk.elim
  · rename_i e0 e hs hd
    split at hk
    · rename_i hc
      simp only [Bool.and_eq_true, decide_eq_true_eq] at hc
      obtain ⟨rfl, hu⟩ := hc
      have he : P.underlying e = some (.int .u8) := by
        unfold u8T at hu
        split at hu
        · assumption
        · cases hu
      split at hk
      · rename_i b n l
        split at hk
        · rename_i T m cs hg
          rw [get?_eq] at hg
          split at hk
          · rename_i hc2
            simp only [Bool.and_eq_true, decide_eq_true_eq] at hc2
            obtain ⟨hn0, hm0⟩ := hc2
            obtain ⟨p, hp, hpc⟩ := ow_R hx (.inr rfl)
            obtain ⟨vs, hvs, ho⟩ := hR.hb b _ p hg hp
            have hn := own_nonnil ho (by rw [ho.1]; omega)
            rcases hpc with ⟨h1, _⟩ | ⟨_, h3⟩
            · rw [hn] at h1; cases h1
            · rcases ho.2 with ⟨h1, _⟩ | ⟨g, cap, cur, h1, _, ⟨fz, h2, hz⟩, hrest⟩
              · simp [Pl.sv, hn] at h1
              · have hbk : g = p.blk ∧ cap = p.cap := by
                  simp only [Pl.sv, hn, Bool.false_eq_true, if_false, Value.slice.injEq, Option.some.injEq, Addr.mk.injEq] at h1
                  exact ⟨h1.1.1.symm, h1.2.2.symm⟩
                obtain ⟨rfl, rfl⟩ := hbk
                obtain ⟨fz', k1, k2⟩ := freeze_cells h2 hz
                have hsh : w.shape? p.blk = some (T, cur.size) := by simp [World.shape?, h2]
                subst h3
                refine ⟨_, _, _, pl, _, run_convert_mark (P := P) hd he _ _ _ cur.size hsh, hk, hx, PExt.refl pl, hR.updG hp hg (by simp [Blk.alive, hn]) (grown_freeze w ⟨p.blk, cur.size, none⟩ 1) ⟨vs, hvs, ho.1, .inr ⟨p.blk, p.cap, cur, h1, Nat.zero_le _, ⟨fz', k1, k2⟩, hrest⟩⟩⟩
          · exact hk.elim
        · exact hk.elim
      · exact hk.elim
    · exact hk.elim
  · exact hk.elim
theorem aop2_sound [Glob] (hR : HRel w0 Sx pl h w) {a : Act} (o : Oper) {op : Op} (ho : o.op = op) {l : List AV} (hl : ArgsR pl l (op.operands.toList.map a.eval)) {K : KV} (hk : aop2 P h op l K) :
    ∃ v w' av h', (execOp a.eval o).run P w = .ok (.value v) w' ∧ K av h' ∧ av.R pl v ∧ HRel w0 Sx pl h' w' := by
  unfold aop2 at hk
  split at hk
  · rename_i s d y x
    obtain ⟨u, av, g1, g2, g3⟩ := convX_sound (P := P) hR (v := a.eval y) hl.1 hk
    refine ⟨u, w, av, h, ?_, g2, g3, hR⟩
    unfold execOp
    simp [ho, g1]
  · rename_i args ts x
    have e : (Op.call { callee := .builtin .unsafeSliceData, args := args, argTypes := ts }).operands.toList = args.toList := by simp [Op.operands, Call.operands]
    rw [e] at hl
    match hA : args.toList, hl with
    | [y], hl =>
      have hargs' : args = #[y] := by rw [← Array.toArray_toList (xs := args), hA]
      obtain ⟨u, av, g1, g2, g3⟩ := sliceDataX_sound (P := P) hR (ts := ts) (ty := o.type) (v := a.eval y) hl.1 hk
      refine ⟨u, w, av, h, ?_, g2, g3, hR⟩
      unfold execOp
      simp [ho, resolve, invoke, builtin, hargs', g1]
    | [], hl => exact hl.elim
    | _ :: _ :: _, hl => exact hl.2.elim
  · rename_i args ts
    have e : (Op.call { callee := .builtin .unsafeString, args := args, argTypes := ts }).operands.toList = args.toList := by simp [Op.operands, Call.operands]
    rw [e] at hl
    obtain ⟨u, w', av, h', g1, g2, g3, g4⟩ := strDataX_sound (P := P) hR (ty := o.type) hl hk
    refine ⟨u, w', av, h', ?_, g2, g3, g4⟩
    rw [show (List.map a.eval args.toList).toArray = args.map a.eval from by apply Array.ext'; simp, Array.toArray_toList] at g1
    unfold execOp
    simp [ho, resolve, invoke, builtin, g1]
  · exact hk.elim
end
end Go.AM
namespace Go.AM
open Go
section
variable {P : Program} {w0 : World} {Sx : Marks} {pl : List Pl} {h : Heap} {w : World}
theorem appW_sound [Glob] {env : Env} {a : Act} {K : KV} (hE : EnvR pl env a.tmps) (hR : HRel w0 Sx pl h w) {args : Array Operand} {ts : Array Nat} (hk : appW P env args.toList ts.toList h K) :
    ∃ v av h' pl' w', (∀ ty, (Builtin.append_ ts ty (args.map a.eval)).run P w = .ok v w') ∧ K av h' ∧ av.R pl' v ∧ PExt pl pl' ∧ HRel w0 Sx pl' h' w' := by
  unfold appW at hk
  split at hk
  · rename_i s x t t' hargs hts
    split at hk
    · rename_i src hsrc
      split at hk
      · rename_i htt
        have htt : t = t' := by simpa using htt
        subst htt
        have hargs' : args = #[s, x] := by rw [← Array.toArray_toList (xs := args), hargs]
        have hts' : ts = #[t, t] := by rw [← Array.toArray_toList (xs := ts), hts]
        subst hargs' hts'
        have := appR_sound hR (hE.ev (a := a) s) (hE.ev (a := a) x) hsrc hk
        simpa using this
      · exact hk.elim
    · split at hk
      · have hargs' : args = #[s, x] := by rw [← Array.toArray_toList (xs := args), hargs]
        have hts' : ts = #[t, t'] := by rw [← Array.toArray_toList (xs := ts), hts]
        subst hargs' hts'
        have := appS_sound (P := P) hR (hE.ev (a := a) s) (hE.ev (a := a) x) hk
        simpa using this
      · exact appV_sound hE hR hk
  · exact appV_sound hE hR hk
theorem aop_sound [Glob] {env : Env} {a : Act} {K : KV} (hE : EnvR pl env a.tmps) (hR : HRel w0 Sx pl h w) (o : Oper) {next : Act → World → Prop} {Q : Exit → Act → World → Prop} (hk : aop P env h o.op K)
    (hn : ∀ v av h' pl' w', K av h' → av.R pl' v → PExt pl pl' → HRel w0 Sx pl' h' w' → next (a.put o.dst v) w') : o.wp P a w next Q := by
  have quietE : ∀ {op : Op}, o.op = op → kOR (qopE P env h op) (fun v => K v h) → o.wp P a w next Q := fun {op} he hk => by
    obtain ⟨av, g1, g2⟩ := gives_kOR hk
    subst he
    obtain ⟨v, hv⟩ := qopE_sound hR.inj hE o g1
    have := hv w hR.hb
    exact wp_of_run this.2 (hn v av h pl w g2 this.1 (PExt.refl pl) hR)
  have quiet : ∀ {op : Op}, o.op = op → kOR (qop P env h op) (fun v => K v h) → o.wp P a w next Q := fun {op} he hk => quietE he (kOR_E hk)
  unfold aop at hk
  split at hk
  · -- alloc
    rename_i t ho
    cases hz : zeroOf P t with
    | none => simp [hz] at hk
    | some z =>
      simp only [hz] at hk
      obtain ⟨i, v, hi, hv, rfl⟩ := zeroOf_spec hz
      have ⟨hR', hp⟩ := hR.push (T := t) (ofValue_cells (pl := pl) v)
      refine wp_of_run (v := .pointer (some ⟨w.heap.size, 0, none⟩)) (w' := w.alloc (.cells v.cells.toList.toArray t)) ?_ (hn _ _ _ _ _ hk ?_ hp hR')
      · unfold execOp
        simp [ho, Instr.alloc, zeroValue, typeInfo, hi, hv, newVar, newRow]
      · refine .inr ?_
        simp [SV.val, addrOf, len'_eq, ← hR.len]
  · -- box
    rename_i t x ho
    have hx := hE.ev (a := a) x
    split at hk
    · rename_i p he
      rw [he] at hx
      split at hk
      · rename_i hkn
        have ⟨hc, _⟩ := PV.cells_R hkn hx
        have ⟨hR', hp⟩ := hR.push (T := t) hc
        refine wp_of_run (v := .pointer (some ⟨w.heap.size, 0, none⟩)) (w' := w.alloc (.cells (a.eval x).cells.toList.toArray t)) ?_ (hn _ _ _ _ _ hk ?_ hp hR')
        · unfold execOp
          simp [ho, Instr.box, newVar, newRow]
        · refine .inr ?_
          simp [SV.val, addrOf, len'_eq, ← hR.len]
      · exact hk.elim
    · exact hk.elim
  · -- store
    rename_i t x y ho
    have hx := hE.ev (a := a) x
    have hy := hE.ev (a := a) y
    split at hk
    · rename_i b off p he1 he2
      rw [he1] at hx
      rw [he2] at hy
      obtain ⟨ad, had, hv⟩ := ptr_R hx
      split at hk
      · rename_i h' hst
        obtain ⟨w', g1, g2⟩ := hR.store hst hy had
        unfold Oper.wp execOp
        simp only [ho, hv, Instr.storeAt, Instr.sureAddr, Sem.run_bind, Sem.run_pure, Result.andThen_ok, g1]
        exact hn _ _ _ _ _ hk (undef_R pl) (PExt.refl pl) g2
      · exact hk.elim
    · rename_i b z idx sub p he1 he2
      rw [he1] at hx
      rw [he2] at hy
      obtain ⟨ad, had, hv⟩ := pe_R hx
      obtain ⟨w', h', g1, g2, g3⟩ := hR.storeE hk hy had
      unfold Oper.wp execOp
      simp only [ho, hv, Instr.storeAt, Instr.sureAddr, Sem.run_bind, Sem.run_pure, Result.andThen_ok, g1]
      exact hn _ _ _ _ _ g3 (undef_R pl) (PExt.refl pl) g2
    · exact hk.elim
  · -- makeMap
    rename_i t r ho
    obtain ⟨h1, h2, kt, e, hu⟩ := mapV_inv hk
    have hF := hR.fresh (p' := ⟨w.heap.size, false, 0⟩) (x' := .mp []) (w' := w.alloc (.map #[] 0)) (hR.fr.grown (World.grownBy_alloc w (.map #[] 0) none) (by simp)) (World.grownBy_alloc w (.map #[] 0) none).size
      (fun b p x hp hx ha => (World.grownBy_alloc w (.map #[] 0) none).block _ (hR.lt b p x hp hx ha) (by simp)) ⟨#[], 0, trivial, heap_alloc_new w _⟩
      (fun _ => ⟨by show w.heap.size < (w.heap.push _).size; simp, .inl hR.fr.size, fun b p x hp hx ha => by have := hR.lt b p x hp hx ha; simp only; omega⟩)
    refine wp_of_run (v := .map (some w.heap.size)) (w' := w.alloc (.map #[] 0)) ?_ (hn _ _ _ _ _ h1 ?_ hF.2 hF.1)
    · unfold execOp
      rcases h2 with rfl | ⟨k, n, rfl⟩
      · simp [ho, Instr.makeMap]
      · simp [ho, Instr.makeMap, run_underlying hu, asInt, asIntOf, Act.eval]
    · refine .inr ?_
      simp [SV.val, len'_eq, ← hR.len]
  · -- range
    rename_i t x ho
    obtain ⟨s, lit, hv, hu, h1⟩ := rangeX_sound (hE.ev (a := a) x) hk
    have hF := hR.fresh (p' := ⟨w.heap.size, false, 0⟩) (x' := .sit lit s 0) (w' := w.alloc (.stringIter ⟨s.toArray⟩ 0)) (hR.fr.grown (World.grownBy_alloc w (.stringIter ⟨s.toArray⟩ 0) none) (by simp)) (World.grownBy_alloc w (.stringIter ⟨s.toArray⟩ 0) none).size
      (fun b p x hp hx ha => (World.grownBy_alloc w (.stringIter ⟨s.toArray⟩ 0) none).block _ (hR.lt b p x hp hx ha) (by simp)) (heap_alloc_new w _)
      (fun _ => ⟨by show w.heap.size < (w.heap.push _).size; simp, .inl hR.fr.size, fun b p x hp hx ha => by have := hR.lt b p x hp hx ha; simp only; omega⟩)
    refine wp_of_run (v := .pointer (some ⟨w.heap.size, 0, none⟩)) (w' := w.alloc (.stringIter ⟨s.toArray⟩ 0)) ?_ (hn _ _ _ _ _ h1 ?_ hF.2 hF.1)
    · unfold execOp
      simp [ho, hv, run_range_string w t _ hu, World.iter]
    · refine .inr ?_
      simp [SV.val, addrOf, len'_eq, ← hR.len]
  · -- next
    rename_i it ho
    obtain ⟨u, w', av, h', g1, g2, g3, g4⟩ := nextX_sound (P := P) hR (hE.ev (a := a) it) hk o.type
    refine wp_of_run (v := u) (w' := w') ?_ (hn _ _ _ _ _ g2 g3 (PExt.refl pl) g4)
    unfold execOp
    simp [ho, g1]
  · -- insert
    rename_i t m k v ho
    obtain ⟨w', h', g1, g2, g3⟩ := putV_sound hR (hE.ev (a := a) m) (hE.ev (a := a) k) (hE.ev (a := a) v) hk
    unfold Oper.wp execOp
    simp only [ho, Sem.run_bind, g1, Result.andThen_ok, Sem.run_pure]
    exact hn _ _ _ _ _ g2 (undef_R pl) (PExt.refl pl) g3
  · -- mapUpdate
    rename_i t m k v ho
    obtain ⟨w', h', g1, g2, g3⟩ := putV_sound hR (hE.ev (a := a) m) (hE.ev (a := a) k) (hE.ev (a := a) v) hk
    unfold Oper.wp execOp
    simp only [ho, Sem.run_bind, g1, Result.andThen_ok, Sem.run_pure]
    exact hn _ _ _ _ _ g2 (undef_R pl) (PExt.refl pl) g3
  · -- buildSlice
    rename_i t n parts ho
    obtain ⟨w', g1, av, h', pl', k1, k2, k3, k4⟩ := sliceV_sound hR (fun ps h => evParts_R hE h) hk
    refine wp_of_run (v := .slice (some ⟨w.heap.size, 0, none⟩) n n) (w' := w') ?_ (hn _ _ _ _ _ k1 k2 k3 k4)
    unfold execOp
    have := g1
    rw [← Array.toList_map] at this
    simp [ho, this]
  · -- append
    rename_i args ts ho
    obtain ⟨v, av, h', pl', w', g1, g2⟩ := appW_sound hE hR hk
    refine wp_of_run (v := v) (w' := w') ?_ (hn _ _ _ _ _ g2.1 g2.2.1 g2.2.2.1 g2.2.2.2)
    unfold execOp
    simp [ho, resolve, invoke, builtin, g1]
  · -- indexAddr
    rename_i t x i ho
    have hx := hE.ev (a := a) x
    have hi := hE.ev (a := a) i
    split at hk
    · rename_i n e b off k j hu he1 he2
      rw [he1] at hx
      rw [he2] at hi
      obtain ⟨ad, had, hv⟩ := ptr_R hx
      have hj := sym_R hi
      split at hk
      · rename_i z hz
        obtain ⟨hb, hs⟩ := hk
        have := splitIx_pick hs hb.1 hb.2
        refine wp_of_run (v := .pointer (some (ad.add (j.toNat * z)))) (w' := w) ?_ (hn _ _ _ _ _ this (.inr (by simp [SV.val, addrOf_add had])) (PExt.refl pl) hR)
        unfold execOp
        simp [ho, hv, hj, Instr.indexAt, asIntOf, run_underlying hu, Instr.sureAddr, hb, run_size hz]
      · exact hk.elim
    · rename_i e b z st len k j hu he1 he2
      rw [he1] at hx
      rw [he2] at hi
      have hj := sym_R hi
      split at hk
      · rename_i hz
        obtain ⟨hb, hs⟩ := hk
        have := splitIx_pick hs hb.1 hb.2
        obtain ⟨ad, h1, h2⟩ := ow_indexAt hx hu hz (k := k) hb
        refine wp_of_run (v := .pointer (some ad)) (w' := w) ?_ (hn _ _ _ _ _ this (.inr (by simp [SV.val, h1])) (PExt.refl pl) hR)
        unfold execOp
        simp [ho, hj, h2]
      · exact hk.elim
    · exact quiet ho hk
  · -- index
    rename_i t x i ho
    have hx := hE.ev (a := a) x
    have hi := hE.ev (a := a) i
    split at hk
    · rename_i n e cs k j hu he1 he2
      rw [he1] at hx
      rw [he2] at hi
      obtain ⟨vs, hv, hr⟩ := hx
      have hj := sym_R hi
      split at hk
      · rename_i z hz
        obtain ⟨hb, hs⟩ := hk
        have hs' := splitIx_pick hs hb.1 hb.2
        split at hs'
        · rename_i p hp
          obtain ⟨v, g1, g2⟩ := part_run hr hp
          refine wp_of_run (v := v) (w' := w) ?_ (hn _ _ _ _ _ hs' g1 (PExt.refl pl) hR)
          unfold execOp
          simp [ho, hv, hj, Instr.index, asIntOf, run_underlying hu, hb, run_size hz, g2]
        · exact hs'.elim
      · exact hk.elim
    · exact quiet ho hk
  · -- pick
    rename_i c x y ho
    have hc := hE.ev (a := a) c
    split at hk
    · rename_i b he
      rw [he] at hc
      have hb := sb_R hc
      cases b with
      | true =>
        refine wp_of_run (v := a.eval x) (w' := w) ?_ (hn _ _ _ _ _ (hk.1 rfl) (hE.ev x) (PExt.refl pl) hR)
        unfold execOp
        simp [ho, hb, asBool]
      | false =>
        refine wp_of_run (v := a.eval y) (w' := w) ?_ (hn _ _ _ _ _ (hk.2 rfl) (hE.ev y) (PExt.refl pl) hR)
        unfold execOp
        simp [ho, hb, asBool]
    · exact quiet ho hk
  · split at hk
    · have hev := evs_R hE o.op.operands.toList
      unfold aop1 at hk
      split at hk
      · rename_i t x y u v ho hl
        rw [hl, ho] at hev
        obtain ⟨w', r, av, h', pl', g1, g2, g3, g4, g5⟩ := makeX_sound (P := P) hR (show u.R pl (a.eval x) from hev.1) (show v.R pl (a.eval y) from hev.2.1) hk
        refine wp_of_run (v := r) (w' := w') ?_ (hn _ _ _ _ _ g2 g3 g4 g5)
        unfold execOp
        simp [ho, g1]
      · rename_i args ts ho
        rw [ho] at hev hk
        have e : (Op.call { callee := .builtin .copy, args := args, argTypes := ts }).operands.toList = args.toList := by simp [Op.operands, Call.operands]
        rw [e] at hev hk
        obtain ⟨w', r, av, h', g1, g2, g3, g4⟩ := copyX_sound (P := P) hR hev hk
        refine wp_of_run (v := r) (w' := w') ?_ (hn _ _ _ _ _ g2 g3 (PExt.refl pl) g4)
        unfold execOp
        have := g1 o.type
        rw [show (List.map a.eval args.toList).toArray = args.map a.eval from by apply Array.ext'; simp, Array.toArray_toList] at this
        simp [ho, resolve, invoke, builtin, this]
      · rename_i args ts ho
        rw [ho] at hev hk
        have e : (Op.call { callee := .builtin .clear, args := args, argTypes := ts }).operands.toList = args.toList := by simp [Op.operands, Call.operands]
        rw [e] at hev hk
        obtain ⟨w', h', g1, g2, g4⟩ := clearX_sound (P := P) hR hev hk
        refine wp_of_run (v := .tuple #[]) (w' := w') ?_ (hn _ _ _ _ _ g2 ⟨[], rfl, trivial⟩ (PExt.refl pl) g4)
        unfold execOp
        have := g1 o.type
        rw [show (List.map a.eval args.toList).toArray = args.map a.eval from by apply Array.ext'; simp, Array.toArray_toList] at this
        simp [ho, resolve, invoke, builtin, this]
      · exact hk.elim
    · split at hk
      · have hev := evs_R hE o.op.operands.toList
        obtain ⟨v, w', av, h', g1, g2, g3, g4⟩ := aop2_sound (P := P) hR (a := a) o rfl hev hk
        exact wp_of_run (v := v) (w' := w') g1 (hn _ _ _ _ _ g2 g3 (PExt.refl pl) g4)
      · exact quietE rfl hk
end
end Go.AM
namespace Go.AM
open Go
section
variable {r : List (Nat × Nat)} {pl pl' : List Pl}

theorem look_mem : ∀ {r : List (Nat × Nat)} {x y : Nat}, look r x = some y → (x, y) ∈ r
  | [], _, _, h => by simp [look] at h
  | (a, b) :: l, x, y, h => by
    simp only [look] at h
    split at h
    · rename_i e; subst e; simp at h; subst h; simp
    · exact List.mem_cons_of_mem _ (look_mem h)
theorem injR_mem : ∀ {r : List (Nat × Nat)}, injR r = true → ∀ {x x' y : Nat}, (x, y) ∈ r → (x', y) ∈ r → x = x'
  | [], _, _, _, _, h, _ => by simp at h
  | (a, b) :: l, hi, x, x', y, h, h' => by
    simp only [injR, Bool.and_eq_true, List.all_eq_true, decide_eq_true_eq] at hi
    rcases List.mem_cons.1 h with h | h <;> rcases List.mem_cons.1 h' with h' | h'
    · injection h with h1 h2; injection h' with h3 h4; rw [h1, h3]
    · injection h with h1 h2; exact absurd h2.symm (by have := hi.1 _ h'; exact fun e => this (by rw [e]))
    · injection h' with h1 h2; exact absurd h2.symm (by have := hi.1 _ h; exact fun e => this (by rw [e]))
    · exact injR_mem hi.2 h h'

structure Follows (r : List (Nat × Nat)) (pl pl' : List Pl) : Prop where
  to : ∀ b' b p, look r b' = some b → pl[b]? = some p → pl'[b']? = some p
  nil : ∀ b', look r b' = some (1000000 + b') → ∃ p, pl'[b']? = some p ∧ p.nil = true

theorem addrOf_follows (hr : Follows r pl pl') {b' b o : Nat} (hl : look r b' = some b) {a : Addr} (h : addrOf pl b o = some a) : addrOf pl' b' o = some a := by
  unfold addrOf at *
  cases hp : pl[b]? with
  | none => simp [hp] at h
  | some p => rw [hr.to b' b p hl hp]; simpa [hp] using h
theorem eqC_follows (hr : Follows r pl pl') : ∀ {l' l : List (Nat × Nat)} {vs : List Value}, eqC r l' l → capVals pl l = some vs → capVals pl' l' = some vs
  | [], [], _, _, h => h
  | [], _ :: _, _, he, _ => he.elim
  | (_, _) :: _, [], _, he, _ => he.elim
  | (b', o') :: l', (b, o) :: l, vs, he, h => by
    simp only [eqC] at he
    split at he
    · rename_i hc
      obtain ⟨h1, rfl⟩ := hc
      simp only [capVals] at h ⊢
      cases ha : addrOf pl b o' with
      | none => simp [ha] at h
      | some ad =>
        cases hv : capVals pl l with
        | none => simp [ha, hv] at h
        | some us =>
          simp [ha, hv] at h
          rw [addrOf_follows hr h1 ha, eqC_follows hr he hv]
          simp [h]
    · exact he.elim
theorem SV.eqs_R (hr : Follows r pl pl') {s' s : SV} (he : s'.eqs r s) {v : Value} (h : s.R pl v) : s'.R pl' v := by
  unfold SV.eqs at he
  split at he
  · exact .inl rfl
  all_goals first
    | exact he.elim
    | (rcases h with h | h <;> first | (cases h; done) | skip)
  all_goals right
  all_goals simp only [SV.val] at h ⊢
  any_goals (exact h)
  any_goals (subst he; exact h)
  any_goals (split at he <;> first | exact he.elim | skip)
  any_goals (rename_i hc; obtain ⟨rfl, rfl⟩ := hc; exact h)
  any_goals (rename_i hc; subst hc; first | exact h | (subst he; exact h))
  any_goals (rename_i hc; obtain ⟨rfl, rfl⟩ := hc; subst he; exact h)
  · rename_i b' o' b o hc
    obtain ⟨h1, rfl⟩ := hc
    cases ha : addrOf pl b o' with
    | none => simp [ha] at h
    | some ad => rw [addrOf_follows hr h1 ha]; simpa [ha] using h
  · rename_i b' o' n' c' b o n c hc
    obtain ⟨h1, rfl, rfl, rfl⟩ := hc
    cases ha : addrOf pl b o' with
    | none => simp [ha] at h
    | some ad => rw [addrOf_follows hr h1 ha]; simpa [ha] using h
  · rename_i b' z' s' n' l' b z s n l hc
    obtain ⟨h1, rfl⟩ := hc
    obtain ⟨rfl, rfl⟩ := he
    unfold owVal at *
    cases hp : pl[b]? with
    | none => simp [hp] at h
    | some p => rw [hr.to b' b p h1 hp]; simpa [hp] using h
  · rename_i b' z' s' n' l' hc
    obtain ⟨rfl, rfl⟩ := he
    obtain ⟨p, h1, h2⟩ := hr.nil b' hc
    simp [owVal, h1, h2, ← h]
  · rename_i b' z' i' o' b z i o hc
    obtain ⟨h1, rfl⟩ := hc
    obtain ⟨rfl, rfl⟩ := he
    cases ha : addrOf pl b (i' * z' + o') with
    | none => simp [ha] at h
    | some ad => rw [addrOf_follows hr h1 ha]; simpa [ha] using h
  · rename_i b' z' n' c' b z n c hc
    obtain ⟨h1, rfl⟩ := hc
    obtain ⟨rfl, rfl⟩ := he
    unfold rsVal at *
    cases hp : pl[b]? with
    | none => simp [hp] at h
    | some p => rw [hr.to b' b p h1 hp]; simpa [hp] using h
  · rename_i b' z' i' o' b z i o hc
    obtain ⟨h1, rfl⟩ := hc
    obtain ⟨rfl, rfl⟩ := he
    unfold rpVal at *
    cases hp : pl[b]? with
    | none => simp [hp] at h
    | some p => rw [hr.to b' b p h1 hp]; simpa [hp] using h
  · rename_i f' c' f c hc
    subst hc
    cases ha : capVals pl c with
    | none => simp [ha] at h
    | some ad => rw [eqC_follows hr he ha]; simpa [ha] using h
  · rename_i b' b hc
    cases hp : pl[b]? with
    | none => simp [hp] at h
    | some p => rw [hr.to b' b p hc hp]; simpa [hp] using h
  · rename_i t' b' o' t b o hc
    obtain ⟨rfl, h1, rfl⟩ := hc
    cases ha : addrOf pl b o' with
    | none => simp [ha] at h
    | some ad => rw [addrOf_follows hr h1 ha]; simpa [ha] using h
theorem eqsL_R (hr : Follows r pl pl') : ∀ {l' l : List SV} {vs : List Value}, eqsL r l' l → RL pl l vs → RL pl' l' vs
  | [], [], [], _, _ => trivial
  | [], [], _ :: _, _, h => h.elim
  | [], _ :: _, _, he, _ => he.elim
  | _ :: _, [], _, he, _ => he.elim
  | _ :: _, _ :: _, [], _, h => h.elim
  | _ :: _, _ :: _, _ :: _, he, h => by
    have he := andT_and SV.triv_eqs he
    exact ⟨SV.eqs_R hr he.1 h.1, eqsL_R hr he.2 h.2⟩
theorem PV.eqs_R (hr : Follows r pl pl') {s' s : PV} (he : s'.eqs r s) {v : Value} (h : s.R pl v) : s'.R pl' v := by
  unfold PV.eqs at he
  split at he
  · exact Or.inl rfl
  · exact SV.eqs_R hr he h
  · obtain ⟨vs, rfl, h1⟩ := h
    exact ⟨vs, rfl, eqsL_R hr he h1⟩
  · exact he.elim
theorem eqsP_R (hr : Follows r pl pl') : ∀ {l' l : List PV} {vs : List Value}, eqsP r l' l → PL pl l vs → PL pl' l' vs
  | [], [], [], _, _ => trivial
  | [], [], _ :: _, _, h => h.elim
  | [], _ :: _, _, he, _ => he.elim
  | _ :: _, [], _, he, _ => he.elim
  | _ :: _, _ :: _, [], _, h => h.elim
  | _ :: _, _ :: _, _ :: _, he, h => by
    have he := andT_and PV.triv_eqs he
    exact ⟨PV.eqs_R hr he.1 h.1, eqsP_R hr he.2 h.2⟩
theorem AV.eqs_R (hr : Follows r pl pl') {s' s : AV} (he : s'.eqs r s) {v : Value} (h : s.R pl v) : s'.R pl' v := by
  unfold AV.eqs at he
  split at he
  · exact Or.inl rfl
  · exact PV.eqs_R hr he h
  · obtain ⟨vs, rfl, h1⟩ := h
    exact ⟨vs, rfl, eqsP_R hr he h1⟩
  · exact he.elim
theorem eqsE_len : ∀ {l' l : Env}, eqsE r l' l → l'.length = l.length
  | [], [], _ => rfl
  | [], _ :: _, he => he.elim
  | _ :: _, [], he => he.elim
  | _ :: _, _ :: _, he => by
    have he := andT_and AV.triv_eqs he
    simp [eqsE_len he.2]
theorem eqsE_get (hr : Follows r pl pl') : ∀ {l' l : Env} {f : Nat → Value}, eqsE r l' l → (∀ t, (getD l t AV.any).R pl (f t)) → ∀ t, (getD l' t AV.any).R pl' (f t)
  | [], [], _, _, _, t => by simp [getD]; exact any_R pl' _
  | [], _ :: _, _, he, _, _ => he.elim
  | _ :: _, [], _, he, _, _ => he.elim
  | _ :: _, _ :: _, _, he, h, 0 => by
    have he := andT_and AV.triv_eqs he
    exact AV.eqs_R hr he.1 (h 0)
  | _ :: _, _ :: _, f, he, h, t + 1 => by
    have he := andT_and AV.triv_eqs he
    simpa [getD] using eqsE_get hr (f := fun t => f (t + 1)) he.2 (fun t => by simpa [getD] using h (t + 1)) t

theorem eqsH_get {h : Heap} : ∀ {h' : Heap} {n : Nat}, eqsH r h n h' → ∀ (b' : Nat) x', h'[b']? = some x' → x' = .gone ∨ (∃ b x, look r (n + b') = some b ∧ h[b]? = some x ∧ x'.eqs r x) ∨
    ((∀ b, look r (n + b') = some b → h[b]? = none) ∧ ∃ T C, x' = .own T C [])
  | [], _, _, _, _, hx => by simp at hx
  | y' :: l, n, he, 0, x', hx => by
    simp at hx
    subst hx
    have fin : (∀ b, look r n = some b → h[b]? = none) → emptyB y' → (∀ b, look r (n + 0) = some b → h[b]? = none) ∧ ∃ T C, y' = .own T C [] := fun h2 h1 => by
      cases y' with
      | own T C xs => exact ⟨h2, T, C, by have : xs = [] := List.eq_nil_of_length_eq_zero h1; rw [this]⟩
      | _ => exact h1.elim
    by_cases hg : y' = .gone
    · exact .inl hg
    · right
      have h1 : eqsAt r h n y' := by
        have h1 := he.1
        cases y' <;> first | exact absurd rfl hg | exact h1
      unfold eqsAt at h1
      cases hl : look r n with
      | none =>
        rw [hl] at h1
        exact .inr ⟨fun b hb => by simp at hb, (fin (by rw [hl]; intro b hb; cases hb) h1).2⟩
      | some b =>
        rw [hl] at h1
        cases hg2 : get? h b with
        | none =>
          simp only [hg2] at h1
          rw [get?_eq] at hg2
          exact .inr ⟨fun b2 hb => by cases hb; exact hg2, (fin (by rw [hl]; intro b2 hb; cases hb; exact hg2) h1).2⟩
        | some x => simp only [hg2] at h1; rw [get?_eq] at hg2; exact .inl ⟨b, x, rfl, hg2, h1⟩
  | y' :: l, n, he, b' + 1, x', hx => by
    have := eqsH_get he.2 b' x' (by simpa using hx)
    rw [show n + (b' + 1) = n + 1 + b' by omega]
    exact this

def plNew (r : List (Nat × Nat)) (pl : List Pl) (n : Nat) : List Pl := (List.range n).map fun b' => match look r b' with | some b => (pl[b]?).getD ⟨0, true, 0⟩ | none => ⟨0, true, 0⟩
theorem plNew_get {n b' b : Nat} (hn : b' < n) (hl : look r b' = some b) : (plNew r pl n)[b']? = some ((pl[b]?).getD ⟨0, true, 0⟩) := by
  simp [plNew, hn, hl]
theorem plNew_none {n b' : Nat} (hn : b' < n) (hl : look r b' = none) : (plNew r pl n)[b']? = some ⟨0, true, 0⟩ := by
  simp [plNew, hn, hl]
theorem keepsR_look : ∀ {n : Nat}, keepsR r n = true → ∀ b, b < n → look r b = some b
  | 0, _, b, hb => by omega
  | n + 1, hk, b, hb => by
    simp only [keepsR, Bool.and_eq_true, decide_eq_true_eq] at hk
    by_cases e : b = n
    · subst e; exact hk.1
    · exact keepsR_look hk.2 b (by omega)

theorem SV.R_of_low {pl pl' : List Pl} {s : SV} (hb : s.below 0 = true) {v : Value} (h : s.R pl v) : s.R pl' v := by
  rcases h with h | h
  · exact .inl h
  · right
    cases s <;> first | exact h | (simp [SV.below] at hb; done) | skip
    case fn f cap =>
      cases cap with
      | nil => exact h
      | cons x l => simp [SV.below] at hb
theorem RL_of_low {pl pl' : List Pl} : ∀ {l : List SV} {vs : List Value}, belowAll 0 l = true → RL pl l vs → RL pl' l vs
  | [], [], _, _ => trivial
  | [], _ :: _, _, h => h.elim
  | _ :: _, [], _, h => h.elim
  | _ :: _, _ :: _, hb, h => by
    simp only [belowAll, Bool.and_eq_true] at hb
    exact ⟨SV.R_of_low hb.1 h.1, RL_of_low hb.2 h.2⟩
theorem below_append {n : Nat} : ∀ {a b : List SV}, belowAll n a = true → belowAll n b = true → belowAll n (a ++ b) = true
  | [], _, _, hb => hb
  | s :: a, b, ha, hb => by
    simp only [belowAll, List.cons_append, Bool.and_eq_true] at ha ⊢
    exact ⟨ha.1, below_append ha.2 hb⟩
theorem flat_low {C : Codec} : ∀ (xs : List C.τ), belowAll 0 (flatC C xs) = true
  | [] => rfl
  | t :: xs => below_append (C.low_ok t 0) (flat_low xs)
theorem eqsM_R (hr : Follows r pl pl') : ∀ {es' es : List (PV × PV)} {ms : List MapEntry}, eqsM r es' es → EntR pl es ms → EntR pl' es' ms
  | [], [], [], _, _ => trivial
  | [], [], _ :: _, _, h => h.elim
  | [], _ :: _, _, he, _ => he.elim
  | _ :: _, [], _, he, _ => he.elim
  | _ :: _, _ :: _, [], _, h => h.elim
  | (k', v') :: l', (k, v) :: l, e :: ms, he, h => by
    have he := andT_and PV.triv_eqs he
    have he2 := andT_and PV.triv_eqs he.2
    exact ⟨PV.eqs_R hr he.1 h.1, PV.eqs_R hr he2.1 h.2.1, eqsM_R hr he2.2 h.2.2⟩
theorem EntR_low {C : Codec} {pl pl' : List Pl} : ∀ {es : List (C.τ × Int)} {ms : List MapEntry}, EntR pl (omE C es) ms → EntR pl' (omE C es) ms
  | [], [], _ => trivial
  | [], _ :: _, h => h.elim
  | _ :: _, [], h => h.elim
  | (x, n) :: l, e :: ms, h => by
    refine ⟨?_, ?_, EntR_low h.2.2⟩
    · obtain ⟨vs, h1, h2⟩ := h.1
      exact ⟨vs, h1, RL_of_low (C.low_ok x 0) h2⟩
    · rcases h.2.1 with h1 | h1
      · cases h1
      · exact .inr h1
variable {w0 : World} {Sx : Marks} {w : World}
theorem MatchBy_sound [Glob] {q : Nat} {env env' : Env} {h h' : Heap} (hm : MatchBy q r env h env' h') (hR : HRel w0 Sx pl h w) {tmps : Array Value} (hE : EnvR pl env tmps) (hq : q ≤ pl.length) :
    ∃ pl', HRel w0 Sx pl' h' w ∧ EnvR pl' env' tmps ∧ ∀ b, b < q → pl'[b]? = pl[b]? := by
  unfold MatchBy at hm
  split at hm
  · rename_i hc
    simp only [Bool.and_eq_true, List.all_eq_true, decide_eq_true_eq] at hc
    obtain ⟨⟨⟨⟨hinj, hkeep⟩, hdom⟩, hbig⟩, _⟩ := hc
    obtain ⟨hmE, hmH⟩ := hm
    have hlenh : pl.length = h.length := hR.len
    have hdom' : ∀ {b' b}, look r b' = some b → b' < h'.length := fun hl => by have := hdom _ (look_mem hl); rwa [len'_eq] at this
    have hF : Follows r pl (plNew r pl h'.length) := by
      refine ⟨fun b' b p hl hp => by rw [plNew_get (hdom' hl) hl, hp]; rfl, fun b' hl => ⟨_, plNew_get (hdom' hl) hl, ?_⟩⟩
      rw [List.getElem?_eq_none (by rw [len'_eq] at hbig; omega)]
      rfl
    have key : ∀ (b' : Nat) x' p', h'[b']? = some x' → (plNew r pl h'.length)[b']? = some p' → x' = .gone ∨ (∃ b x, look r b' = some b ∧ h[b]? = some x ∧ x'.eqs r x ∧ pl[b]? = some p' ∧ (x'.alive p' = true → x.alive p' = true) ∧ (x'.rd p' = true → x.rd p' = true)) ∨ (p' = ⟨0, true, 0⟩ ∧ ∃ T C, x' = .own T C []) := fun b' x' p' hx hp => by
      rcases eqsH_get hmH b' x' hx with h1 | ⟨b, x, h1, h2, h3⟩ | ⟨h1, T, C, h2⟩
      · exact .inl h1
      · right; left
        rw [Nat.zero_add] at h1
        have hlt : b < pl.length := by rw [hR.len]; exact (List.getElem?_eq_some_iff.1 h2).1
        have h4 := hF.to b' b _ h1 (List.getElem?_eq_getElem hlt)
        rw [hp] at h4
        refine ⟨b, x, h1, h2, h3, by rw [Option.some.inj h4]; exact List.getElem?_eq_getElem hlt, fun ha => ?_, fun ha => ?_⟩
        · cases x' <;> cases x <;> first | exact h3.elim | exact ha | (cases ha; done) | skip
        · cases x' <;> cases x <;> first | exact h3.elim | exact ha | (cases ha; done) | skip
      · right; right
        rw [Nat.zero_add] at h1
        have hlt' : b' < h'.length := (List.getElem?_eq_some_iff.1 hx).1
        refine ⟨?_, T, C, h2⟩
        cases hl : look r b' with
        | none => rw [plNew_none hlt' hl] at hp; exact (Option.some.inj hp).symm
        | some b =>
          rw [plNew_get hlt' hl] at hp
          have := h1 b hl
          have h5 : h.length ≤ b := List.getElem?_eq_none_iff.1 this
          rw [List.getElem?_eq_none (by omega)] at hp
          exact (Option.some.inj hp).symm
    have keya : ∀ (b' : Nat) x' p', h'[b']? = some x' → x'.alive p' = true → (plNew r pl h'.length)[b']? = some p' → ∃ b x, look r b' = some b ∧ h[b]? = some x ∧ x'.eqs r x ∧ pl[b]? = some p' ∧ x.alive p' = true := fun b' x' p' hx ha hp => by
      rcases key b' x' p' hx hp with h1 | ⟨b, x, h1, h2, h3, h4, h5, _⟩ | ⟨h1, T, C, h2⟩
      · rw [h1] at ha; cases ha
      · exact ⟨b, x, h1, h2, h3, h4, h5 ha⟩
      · rw [h2, h1] at ha; cases ha
    refine ⟨plNew r pl h'.length, ⟨by simp [plNew], hR.fr, ?_, ?_, ?_, ?_, ?_, hR.rok⟩, ⟨by rw [eqsE_len hmE]; exact hE.1, eqsE_get hF hmE hE.2⟩, ?_⟩
    · intro b' x' p' hx hp
      rcases key b' x' p' hx hp with h1 | ⟨b, x, h1, h2, h3, h4, h5, _⟩ | ⟨h1, T, C, h2⟩
      · rw [h1]; trivial
      · have hb := hR.hb b _ p' h2 h4
        cases x' with
        | gone => trivial
        | row T cs =>
          cases x with
          | row T2 cs2 =>
            simp only [Blk.eqs] at h3
            split at h3
            · rename_i e; subst e
              obtain ⟨vs, g1, g2⟩ := hb
              exact ⟨vs, eqsL_R hF h3 g1, g2⟩
            · exact h3.elim
          | _ => exact h3.elim
        | ownL T z n cs =>
          cases x with
          | ownL T2 z2 n2 cs2 =>
            simp only [Blk.eqs] at h3
            split at h3
            · rename_i e; obtain ⟨rfl, rfl⟩ := e
              obtain ⟨rfl, h3⟩ := h3
              obtain ⟨vs, g1, g2⟩ := hb
              exact ⟨vs, eqsL_R hF h3 g1, g2⟩
            · exact h3.elim
          | _ => exact h3.elim
        | mp es =>
          cases x with
          | mp es2 =>
            obtain ⟨ms, clock, g1, g2⟩ := hb
            exact ⟨ms, clock, eqsM_R hF h3 g1, g2⟩
          | _ => exact h3.elim
        | omp C es =>
          cases x with
          | mp es2 =>
            obtain ⟨ms, clock, g1, g2⟩ := hb
            obtain ⟨h3⟩ := h3
            exact ⟨ms, clock, eqsM_R (r := []) ⟨fun b' b p hl => by simp [look] at hl, fun b' hl => by simp [look] at hl⟩ h3 g1, g2⟩
          | omp C2 es2 =>
            obtain ⟨h3⟩ := h3
            obtain ⟨ms, clock, g1, g2⟩ := hb
            refine ⟨ms, clock, ?_, g2⟩
            rw [h3]
            exact EntR_low g1
          | _ => exact h3.elim
        | sit c s n =>
          cases x with
          | sit c2 s2 n2 =>
            obtain ⟨rfl, rfl⟩ := h3
            exact hb
          | _ => exact h3.elim
        | ro T C xs =>
          cases x with
          | ro T2 C2 xs2 =>
            simp only [Blk.eqs] at h3
            split at h3
            · obtain ⟨hl, hf⟩ := h3
              obtain ⟨vs, g1, g2, g3⟩ := hb
              refine ⟨vs, ?_, fun hn => ?_, g3⟩
              · rw [hf]
                exact RL_of_low (flat_low xs2) g1
              · have := g2 hn
                rw [this] at hl
                exact List.eq_nil_of_length_eq_zero hl
            · exact h3.elim
          | _ => exact h3.elim
        | own T C xs =>
          cases x with
          | ownL T2 z2 n2 cs2 =>
            simp only [Blk.eqs] at h3
            split at h3
            · rename_i e; obtain ⟨rfl, rfl⟩ := e
              obtain ⟨hl, hf⟩ := h3
              obtain ⟨vs, g1, g2⟩ := hb
              refine ⟨vs, eqsL_R hF hf g1, ?_⟩
              rw [hl]; exact g2
            · exact h3.elim
          | own T2 C2 xs2 =>
            simp only [Blk.eqs] at h3
            split at h3
            · rename_i e; obtain ⟨rfl, e⟩ := e
              obtain ⟨hl, hf⟩ := h3
              obtain ⟨vs, g1, g2⟩ := hb
              refine ⟨vs, ?_, ?_⟩
              · rw [hf]
                exact RL_of_low (flat_low xs2) g1
              · rw [hl, e]; exact g2
            · exact h3.elim
          | _ => exact h3.elim
      · rw [h2]
        exact ⟨[], trivial, by rw [h1]; exact World.ownsRowZ_nil w 0 T C.esz⟩
    · intro b' p' x' hp hx ha
      obtain ⟨b, x, _, h2, _, h4, h5⟩ := keya b' x' p' hx ha hp
      exact hR.lt b p' x h4 h2 h5
    · intro b' p' x' hp hx ha
      obtain ⟨b, x, _, h2, _, h4, h5⟩ := keya b' x' p' hx ha hp
      exact hR.own b p' x h4 h2 h5
    · intro b' c' p' q' x' y' hp hq' hx hy ha hya e
      obtain ⟨b, x, h1, h2, _, h4, h5⟩ := keya b' x' p' hx ha hp
      obtain ⟨c, y, k1, k2, _, k4, k5⟩ := keya c' y' q' hy hya hq'
      have := hR.inj b c p' q' x y h4 k4 h2 k2 h5 k5 e
      subst this
      exact injR_mem hinj (look_mem h1) (look_mem k1)
    · intro b' p' x' hp hx hd
      rcases key b' x' p' hx hp with h1 | ⟨b, x, h1, h2, h3, h4, _, h5⟩ | ⟨h1, T, C, h2⟩
      · rw [h1] at hd; cases hd
      · exact hR.ro b p' x h4 h2 (h5 hd)
      · rw [h2] at hd; cases hd
    · intro b hb
      have hl := keepsR_look hkeep b hb
      rw [plNew_get (hdom' hl) hl, List.getElem?_eq_getElem (by omega : b < pl.length)]
      rfl
  · exact hm.elim

theorem addrOf_take {n b o : Nat} (hb : b < n) : addrOf (pl.take n) b o = addrOf pl b o := by
  unfold addrOf
  rw [List.getElem?_take_of_lt hb]
theorem capVals_take {n : Nat} : ∀ {l : List (Nat × Nat)}, l.all (fun x => decide (x.1 < n)) = true → capVals (pl.take n) l = capVals pl l
  | [], _ => rfl
  | (b, o) :: l, h => by
    simp only [List.all_cons, Bool.and_eq_true, decide_eq_true_eq] at h
    simp only [capVals, addrOf_take h.1, capVals_take h.2]
theorem SV.R_take {n : Nat} {s : SV} (hb : s.below n = true) {v : Value} (h : s.R pl v) : s.R (pl.take n) v := by
  rcases h with h | h
  · exact .inl h
  · right
    cases s <;> simp only [SV.val, SV.below, decide_eq_true_eq] at * <;> try exact h
    case ptr => rw [addrOf_take hb]; exact h
    case sl => rw [addrOf_take hb]; exact h
    case ifp => rw [addrOf_take hb]; exact h
    case fn => rw [capVals_take hb]; exact h
    case ow => unfold owVal at *; rw [List.getElem?_take_of_lt hb]; exact h
    case pe => rw [addrOf_take hb]; exact h
    case rs => unfold rsVal at *; rw [List.getElem?_take_of_lt hb]; exact h
    case rp => unfold rpVal at *; rw [List.getElem?_take_of_lt hb]; exact h
    case mp => rw [List.getElem?_take_of_lt hb]; exact h
theorem RL_take {n : Nat} : ∀ {l : List SV} {vs : List Value}, belowAll n l = true → RL pl l vs → RL (pl.take n) l vs
  | [], [], _, _ => trivial
  | [], _ :: _, _, h => h.elim
  | _ :: _, [], _, h => h.elim
  | _ :: _, _ :: _, hb, h => by
    simp only [belowAll, Bool.and_eq_true] at hb
    exact ⟨SV.R_take hb.1 h.1, RL_take hb.2 h.2⟩
theorem PV.R_take {n : Nat} {s : PV} (hb : s.below n = true) {v : Value} (h : s.R pl v) : s.R (pl.take n) v := by
  cases s with
  | one s => exact SV.R_take hb h
  | agg l => obtain ⟨vs, rfl, h1⟩ := h; exact ⟨vs, rfl, RL_take hb h1⟩
theorem PL_take {n : Nat} : ∀ {l : List PV} {vs : List Value}, belowPs n l = true → PL pl l vs → PL (pl.take n) l vs
  | [], [], _, _ => trivial
  | [], _ :: _, _, h => h.elim
  | _ :: _, [], _, h => h.elim
  | _ :: _, _ :: _, hb, h => by
    simp only [belowPs, Bool.and_eq_true] at hb
    exact ⟨PV.R_take hb.1 h.1, PL_take hb.2 h.2⟩
theorem AV.R_take {n : Nat} {s : AV} (hb : s.below n = true) {v : Value} (h : s.R pl v) : s.R (pl.take n) v := by
  cases s with
  | v s => exact PV.R_take hb h
  | tup l => obtain ⟨vs, rfl, h1⟩ := h; exact ⟨vs, rfl, PL_take hb h1⟩
theorem EntR_take {n : Nat} : ∀ {es : List (PV × PV)} {ms : List MapEntry}, belowEs n es = true → EntR pl es ms → EntR (pl.take n) es ms
  | [], [], _, _ => trivial
  | [], _ :: _, _, h => h.elim
  | _ :: _, [], _, h => h.elim
  | (k, v) :: es, _ :: _, hb, h => by
    simp only [belowEs, Bool.and_eq_true] at hb
    exact ⟨PV.R_take hb.1.1 h.1, PV.R_take hb.1.2 h.2.1, EntR_take hb.2 h.2.2⟩
theorem heapBelow_get {n : Nat} : ∀ {h : Heap}, heapBelow n h = true → ∀ (b : Nat) x, h[b]? = some x → x.below n = true
  | [], _, _, _, hx => by simp at hx
  | y :: l, hb, 0, x, hx => by simp only [heapBelow, Bool.and_eq_true] at hb; simp at hx; subst hx; exact hb.1
  | y :: l, hb, b + 1, x, hx => by simp only [heapBelow, Bool.and_eq_true] at hb; exact heapBelow_get hb.2 b x (by simpa using hx)
theorem HRel.take [Glob] {h : Heap} (hR : HRel w0 Sx pl h w) {n : Nat} (hb : heapBelow n (h.take n) = true) : HRel w0 Sx (pl.take n) (h.take n) w := by
  have hp : ∀ {b : Nat} {p}, (pl.take n)[b]? = some p → pl[b]? = some p := fun {b p} hq => by
    rw [List.getElem?_take] at hq
    split at hq
    · exact hq
    · cases hq
  have hx : ∀ {b : Nat} {x}, (h.take n)[b]? = some x → h[b]? = some x := fun {b x} hq => by
    rw [List.getElem?_take] at hq
    split at hq
    · exact hq
    · cases hq
  refine ⟨by simp [hR.len], hR.fr, fun b x p hxx hpp => ?_, fun b p x hpp hxx ha => hR.lt b p x (hp hpp) (hx hxx) ha, fun b p x hpp hxx ha => hR.own b p x (hp hpp) (hx hxx) ha,
    fun b c p q x y h1 h2 h3 h4 h5 h6 e => hR.inj b c p q x y (hp h1) (hp h2) (hx h3) (hx h4) h5 h6 e, fun b p x h1 h2 h3 => hR.ro b p x (hp h1) (hx h2) h3, hR.rok⟩
  cases x with
  | gone => trivial
  | row T cs =>
    obtain ⟨vs, g1, g2⟩ := hR.hb b _ p (hx hxx) (hp hpp)
    exact ⟨vs, RL_take (heapBelow_get hb b _ hxx) g1, g2⟩
  | ownL T z m cs =>
    obtain ⟨vs, g1, g2⟩ := hR.hb b _ p (hx hxx) (hp hpp)
    exact ⟨vs, RL_take (heapBelow_get hb b _ hxx) g1, g2⟩
  | own T C xs =>
    obtain ⟨vs, g1, g2⟩ := hR.hb b _ p (hx hxx) (hp hpp)
    exact ⟨vs, RL_of_low (flat_low xs) g1, g2⟩
  | mp es =>
    obtain ⟨ms, clock, g1, g2⟩ := hR.hb b _ p (hx hxx) (hp hpp)
    exact ⟨ms, clock, EntR_take (heapBelow_get hb b _ hxx) g1, g2⟩
  | omp C es =>
    obtain ⟨ms, clock, g1, g2⟩ := hR.hb b _ p (hx hxx) (hp hpp)
    exact ⟨ms, clock, EntR_low g1, g2⟩
  | sit c s n => exact hR.hb b _ p (hx hxx) (hp hpp)
  | ro T C xs =>
    obtain ⟨vs, g1, g2, g3⟩ := hR.hb b _ p (hx hxx) (hp hpp)
    exact ⟨vs, RL_of_low (flat_low xs) g1, g2, g3⟩
theorem PExt.take_eq [Glob] {pl0 : List Pl} (hp : PExt pl0 pl) : pl.take pl0.length = pl0 := by
  apply List.ext_getElem?
  intro i
  by_cases hi : i < pl0.length
  · rw [List.getElem?_take_of_lt hi, hp i _ (List.getElem?_eq_getElem hi)]
    exact (List.getElem?_eq_getElem hi).symm
  · rw [List.getElem?_take, if_neg hi]
    exact (List.getElem?_eq_none (by omega)).symm
theorem trim_sound [Glob] {h h0 : Heap} {pl0 : List Pl} (hl : pl0.length = h0.length) (hp : PExt pl0 pl) (hR : HRel w0 Sx pl h w) {av : AV} {v : Value} (hv : av.R pl v) :
    ∃ pl', PExt pl0 pl' ∧ HRel w0 Sx pl' (trim (len' h0) av h) w ∧ av.R pl' v := by
  unfold trim
  split
  · rename_i hc
    simp only [Bool.and_eq_true, len'_eq, takeN_eq] at hc ⊢
    refine ⟨pl.take h0.length, ?_, hR.take hc.2, AV.R_take hc.1 hv⟩
    rw [← hl, hp.take_eq]
    exact PExt.refl _
  · exact ⟨pl, hp, hR, hv⟩
end
end Go.AM
namespace Go.AM
open Go
def EX.to : EX → Exit
  | .normal => .normal
  | .exit id => .exit id
  | .ret => .ret

def SpecOk0 [Glob] (P : Program) (S : Sums) : Prop := ∀ f sp, S.spec f = some sp → (∃ fn, P.funcs[f]? = some fn ∧ fn.body.isSome = true) ∧
  ∀ args h (K : KV), sp args h K → ∀ w0 Sx pl w vals, HRel w0 Sx pl h w → ArgsR pl args vals →
    Calls P f vals.toArray w (fun e w' => ∃ v av h' pl', e = .returned v ∧ av.R pl' v ∧ PExt pl pl' ∧ HRel w0 Sx pl' h' w' ∧ K av h')

def ExtOk (P : Program) (S : Sums) : Prop :=
  (∀ f p, S.ext f = some p → ∀ args av, (p args).gives av → ∀ pl vals, ArgsR pl args vals → ∃ v, av.R pl v ∧ ∀ w, (callFunc f vals.toArray).run P w = .ok (.value v) w) ∧
  ∀ f g, S.twin f = some g → ∀ vals w, (callFunc f vals).run P w = .ok (.enter g vals) w
def SpecOk [Glob] (P : Program) (S : Sums) : Prop := SpecOk0 P S ∧ ExtOk P S

def Annos.plain (A : Annos) : Prop := ∀ k, (∀ env h, A.loop k env h = none) ∧ ∀ env h, A.cut k env h = []
def PE (A : Annos) (pl pl' : List Pl) : Prop := (A.plain → PExt pl pl') ∧ ∀ b, b < A.q → pl'[b]? = pl[b]?
theorem PE.of_ext {A : Annos} {pl pl' : List Pl} (hq : A.q ≤ pl.length) (h : PExt pl pl') : PE A pl pl' :=
  ⟨fun _ => h, fun b hb => by rw [List.getElem?_eq_getElem (by omega : b < pl.length)]; exact h b _ (List.getElem?_eq_getElem (by omega))⟩
theorem PE.trans {A : Annos} {a b c : List Pl} (h : PE A a b) (k : PE A b c) : PE A a c := ⟨fun p => (h.1 p).trans (k.1 p), fun i hi => (k.2 i hi).trans (h.2 i hi)⟩
theorem PE.refl (A : Annos) (a : List Pl) : PE A a a := ⟨fun _ => PExt.refl a, fun _ _ => rfl⟩
theorem PE.len {A : Annos} {pl pl' : List Pl} (hq : A.q ≤ pl.length) (h : PE A pl pl') : A.q ≤ pl'.length := by
  rcases Nat.eq_zero_or_pos A.q with h0 | h0
  · omega
  · have := h.2 (A.q - 1) (by omega)
    rw [List.getElem?_eq_getElem (by omega : A.q - 1 < pl.length)] at this
    have := (List.getElem?_eq_some_iff.1 this).1
    omega

section
variable {P : Program} {S : Sums} {w0 : World} {Sx : Marks}

theorem rep_len : ∀ n, (rep n).length = n
  | 0 => rfl
  | n + 1 => by simp [rep, rep_len n]
theorem rep_R (pl : List Pl) : ∀ n, ArgsR pl (rep n) (List.replicate n Go.undef)
  | 0 => trivial
  | n + 1 => by rw [List.replicate_succ]; exact ⟨undef_R pl, rep_R pl n⟩
theorem enter_R {pl : List Pl} {args : List AV} {vals : List Value} (hA : ArgsR pl args vals) (n : Nat) :
    EnvR pl (app args (rep (n - len' args))) (vals.toArray ++ Array.replicate (n - vals.toArray.size) Go.undef) := by
  have hl := hA.length
  have hx : ArgsR pl (args ++ rep (n - args.length)) (vals ++ List.replicate (n - vals.length) Go.undef) := hA.append (by rw [hl]; exact rep_R pl _)
  rw [app_eq, len'_eq]
  refine ⟨by simp [rep_len, hl], fun t => ?_⟩
  have := hx.get t
  rw [Array.getD_eq_getD_getElem?, ← Array.getElem?_toList]
  simpa using this

def resFn (tmps : Array Value) : ResultVar → Sem Value
  | .tmp t => pure (tmps.getD t Go.undef)
  | .cell a t => do loadVar t (← asAddr (tmps.getD a Go.undef))
theorem res_one {pl : List Pl} {env : Env} {tmps : Array Value} (hE : EnvR pl env tmps) {h : Heap} {w : World} (hB : HB pl h w) {x : ResultVar} {p : PV} (hx : resOne P env h x = some p) :
    ∃ v, p.R pl v ∧ (resFn tmps x).run P w = .ok v w := by
  cases x with
  | tmp t =>
    simp only [resOne] at hx
    have ht := hE.2 t
    split at hx
    · rename_i p' he
      simp at hx; subst hx
      rw [he] at ht
      exact ⟨_, ht, rfl⟩
    · cases hx
  | cell a t =>
    simp only [resOne] at hx
    have ht := hE.2 a
    split at hx
    · rename_i b off he
      rw [he] at ht
      obtain ⟨ad, had, hv⟩ := ptr_R ht
      obtain ⟨v, g1, g2⟩ := load_run hx had hB
      exact ⟨v, g1, by simp [resFn, hv, asAddr, g2]⟩
    · cases hx
theorem res_all {pl : List Pl} {env : Env} {tmps : Array Value} (hE : EnvR pl env tmps) {h : Heap} {w : World} (hB : HB pl h w) : ∀ {l : List ResultVar} {ps : List PV}, resAll P env h l = some ps →
    ∃ vs, PL pl ps vs ∧ (l.mapM (resFn tmps)).run P w = .ok vs w
  | [], ps, hx => by simp [resAll] at hx; subst hx; exact ⟨[], trivial, by simp⟩
  | x :: l, ps, hx => by
    simp only [resAll] at hx
    cases h1 : resOne P env h x with
    | none => simp [h1] at hx
    | some p =>
      cases h2 : resAll P env h l with
      | none => simp [h1, h2] at hx
      | some ps' =>
        simp [h1, h2] at hx
        subst hx
        obtain ⟨v, g1, g2⟩ := res_one hE hB h1
        obtain ⟨vs, g3, g4⟩ := res_all hE hB h2
        refine ⟨v :: vs, ⟨g1, g3⟩, ?_⟩
        rw [List.mapM_cons, Sem.run_bind, g2]
        simp only [Result.andThen_ok, Sem.run_bind, g4, Sem.run_pure]
theorem PL.length {pl : List Pl} : ∀ {l : List PV} {vs : List Value}, PL pl l vs → l.length = vs.length
  | [], [], _ => rfl
  | [], _ :: _, hv => hv.elim
  | _ :: _, [], hv => hv.elim
  | _ :: _, _ :: _, hv => by simp [PL.length hv.2]
theorem res_sound {pl : List Pl} {env : Env} {tmps : Array Value} (hE : EnvR pl env tmps) {h : Heap} {w : World} (hB : HB pl h w) {fn : Func} {av : AV} (hr : resV P fn env h = some av) :
    ∃ v, av.R pl v ∧ (results fn tmps).run P w = .ok v w := by
  unfold resV at hr
  cases ha : resAll P env h fn.results.toList with
  | none => simp [ha] at hr
  | some ps =>
    obtain ⟨vs, g1, g2⟩ := res_all hE hB ha
    have hl := g1.length
    have hm : (results fn tmps).run P w = .ok (if h : vs.toArray.size = 1 then vs.toArray[0] else .tuple vs.toArray) w := by
      have hu : results fn tmps = (do let vs ← fn.results.mapM (resFn tmps); pure (if h : vs.size = 1 then vs[0] else .tuple vs)) := by
        unfold results
        congr 1
      rw [hu, Sem.run_bind, Array.mapM_eq_mapM_toList]
      simp only [Sem.run_map, g2, Result.andThen_ok]
      rfl
    cases ps with
    | nil =>
      cases vs with
      | cons _ _ => simp at hl
      | nil =>
        simp [ha] at hr
        subst hr
        exact ⟨_, ⟨[], rfl, trivial⟩, by rw [hm]; rfl⟩
    | cons p ps =>
      cases ps with
      | nil =>
        match vs, hl, g1, hm with
        | [v], _, g1, hm =>
          simp [ha] at hr
          subst hr
          exact ⟨v, g1.1, by rw [hm]; rfl⟩
      | cons p2 ps =>
        simp [ha] at hr
        subst hr
        refine ⟨_, ⟨vs, rfl, g1⟩, ?_⟩
        rw [hm, dif_neg]
        simp at hl ⊢
        omega
end
end Go.AM
namespace Go.AM
open Go
section
variable {P : Program} {S : Sums}

def SpecMono (S : Sums) : Prop := ∀ f sp, S.spec f = some sp → ∀ args h (K K' : KV), (∀ v h, K v h → K' v h) → sp args h K → sp args h K'

theorem ite_mono {c : Prop} [Decidable c] {A A' B B' : Prop} (h1 : A → A') (h2 : B → B') : (if c then A else B) → (if c then A' else B') := by
  intro h
  by_cases hc : c
  · rw [if_pos hc] at h ⊢; exact h1 h
  · rw [if_neg hc] at h ⊢; exact h2 h
theorem kOR_mono {r : OR} {K K' : AV → Prop} (h : ∀ v, K v → K' v) (hk : kOR r K) : kOR r K' := by
  cases r with
  | fail => exact hk
  | ok v => exact h _ hk
  | iff p v => exact ⟨hk.1, h _ hk.2⟩
theorem splitIx_mono {i : Int} {K K' : Nat → Prop} (h : ∀ q, K q → K' q) : ∀ {n : Nat}, splitIx i K n → splitIx i K' n
  | 0, _ => trivial
  | _ + 1, hs => ⟨splitIx_mono h hs.1, fun e => h _ (hs.2 e)⟩
theorem storeE_mono {t b z idx sub : Nat} {h : Heap} {p : PV} {K K' : Heap → Prop} (hK : ∀ h, K h → K' h) (hk : storeE P t h b z idx sub p K) : storeE P t h b z idx sub p K' := by
  unfold storeE at hk ⊢
  repeat' (split at hk)
  all_goals first
    | exact hk.elim
    | (refine ite_mono ?_ (fun h => h) (by assumption))
    | skip
  all_goals simp_all
theorem mapV_mono {t : Nat} {r : Option Operand} {h : Heap} {K K' : KV} (hK : ∀ v h, K v h → K' v h) (hk : mapV P t r h K) : mapV P t r h K' := by
  unfold mapV at hk ⊢
  repeat' (split at hk)
  all_goals first
    | exact hk.elim
    | skip
  all_goals simp_all
theorem putV_mono {t : Nat} {m k v : AV} {h : Heap} {K K' : KV} (hK : ∀ v h, K v h → K' v h) (hk : putV P t m k v h K) : putV P t m k v h K' := by
  unfold putV at hk ⊢
  repeat' (split at hk)
  all_goals first
    | exact hk.elim
    | skip
  all_goals simp_all
theorem sliceV_mono {t n : Nat} {ps : Option (List (Nat × PV))} {h : Heap} {K K' : KV} (hK : ∀ v h, K v h → K' v h) (hk : sliceV P t n ps h K) : sliceV P t n ps h K' := by
  unfold sliceV at hk ⊢
  repeat' (split at hk)
  all_goals first
    | exact hk.elim
    | skip
  all_goals simp_all
theorem appV_mono {env : Env} {args : List Operand} {ts : List Nat} {h : Heap} {K K' : KV} (hK : ∀ v h, K v h → K' v h) (hk : appV P env args ts h K) : appV P env args ts h K' := by
  unfold appV at hk ⊢
  repeat' (split at hk)
  all_goals first
    | exact hk.elim
    | skip
  all_goals first
    | (simp_all; done)
    | (obtain ⟨ys, q1, q2, q3⟩ := hk
       simp_all
       exact ⟨ys, q1, hK _ _ q3⟩)
    | (obtain ⟨ys, q1, q2, q3⟩ := hk
       simp_all
       exact ⟨ys, q1, q2, hK _ _ q3⟩)
theorem appR_mono {h : Heap} {t : Nat} {s : AV} {src : (C : Codec) × (Nat × Nat × Prop × List C.τ)} {K K' : KV} (hK : ∀ v h, K v h → K' v h) (hk : appR P h t s src K) : appR P h t s src K' := by
  obtain ⟨C, b2, m, pr, ys⟩ := src
  unfold appR at hk ⊢
  simp only at hk ⊢
  split at hk
  · split at hk
    · split at hk
      · rename_i hc
        rw [if_pos hc]
        split at hk
        · exact ⟨hk.1, hK _ _ hk.2⟩
        · split at hk
          · rename_i hc2
            rw [if_pos hc2]
            split at hk
            · split at hk
              · rename_i hc3
                rw [if_pos hc3]
                exact ⟨hk.1, hK _ _ hk.2⟩
              · exact hk.elim
            · split at hk
              · rename_i hc3
                rw [if_pos hc3]
                obtain ⟨h1, zs, h2, h3⟩ := hk
                exact ⟨h1, zs, h2, hK _ _ h3⟩
              · exact hk.elim
            · exact hk.elim
          · exact hk.elim
        · exact hk.elim
      · exact hk.elim
    · exact hk.elim
  · exact hk.elim
theorem allM_mono {f g : Env × Heap → Prop} (h : ∀ t, f t → g t) : ∀ {Ls : List Ann}, allM Ls f → allM Ls g
  | [], _ => trivial
  | [_], k => fun x => h _ (k x)
  | _ :: M :: Ls, k => ⟨fun x => h _ (k.1 x), allM_mono h (Ls := M :: Ls) k.2⟩
theorem appS_mono {h : Heap} {t u : Nat} {s x : AV} {K K' : KV} (hK : ∀ v h, K v h → K' v h) (hk : appS P t u s x h K) : appS P t u s x h K' := by
  unfold appS at hk ⊢
  split at hk
  · split at hk
    · rename_i hc
      rw [if_pos hc]
      split at hk
      · split at hk
        · rename_i hl
          rw [if_pos hl]
          split at hk
          · rename_i h2; rw [if_pos h2]; exact hK _ _ hk
          · exact hk.elim
        · rename_i hl
          rw [if_neg hl]
          exact ⟨hk.1, hK _ _ hk.2⟩
      · split at hk
        · rename_i hc1
          rw [if_pos hc1]
          split at hk
          · split at hk
            · rename_i hc2
              rw [if_pos hc2]
              split at hk
              · rename_i hl
                rw [if_pos hl]
                split at hk
                · rename_i h2; rw [if_pos h2]; exact hK _ _ hk
                · exact hk.elim
              · rename_i hl
                rw [if_neg hl]
                split at hk
                · exact ⟨hk.1, hK _ _ hk.2⟩
                · exact hk.elim
            · exact hk.elim
          · split at hk
            · rename_i hc2
              rw [if_pos hc2]
              obtain ⟨h1, zs, h2, h3⟩ := hk
              exact ⟨h1, zs, h2, hK _ _ h3⟩
            · exact hk.elim
          · exact hk.elim
        · exact hk.elim
      · exact hk.elim
    · exact hk.elim
  · exact hk.elim
theorem toStr_mono {h : Heap} {x : AV} {K K' : AV → Prop} (hK : ∀ v, K v → K' v) (hk : toStr h x K) : toStr h x K' := by
  have cs : ∀ {l : List SV}, (match litBytes l with | some s => K (.v (.one (.cstr s))) | none => (match numBytes l with | some s => K (.v (.one (.str s))) | none => False)) →
      (match litBytes l with | some s => K' (.v (.one (.cstr s))) | none => (match numBytes l with | some s => K' (.v (.one (.str s))) | none => False)) := by
    intro l hl
    split at hl
    · exact hK _ hl
    · split at hl
      · exact hK _ hl
      · exact hl.elim
  unfold toStr at hk ⊢
  split at hk
  · exact hK _ hk
  · split at hk
    · rename_i hc
      rw [if_pos hc]
      split at hk
      · split at hk
        · rename_i hc2
          rw [if_pos hc2]
          split at hk
          · exact cs hk
          · exact hk.elim
        · exact hk.elim
      · split at hk
        · rename_i hc2
          rw [if_pos hc2]
          obtain ⟨ns, h1, h2, h3⟩ := hk
          exact ⟨ns, h1, h2, hK _ h3⟩
        · exact hk.elim
      · exact hk.elim
    · exact hk.elim
  · split at hk
    · split at hk
      · exact cs hk
      · exact hk.elim
    · exact hk.elim
  · exact hk.elim
theorem convX_to {h : Heap} {s d : Nat} {x : AV} {K K' : KV} (hK : ∀ v, K v h → K' v h) (hk : convX P s d x h K) : convX P s d x h K' := by
  unfold convX at hk ⊢
  split at hk
  · split at hk
    · rename_i hc
      rw [if_pos hc]
      exact toStr_mono hK hk
    · exact hk.elim
  · split at hk
    · split at hk
      · split at hk
        · rename_i hc
          rw [if_pos hc]
          exact hK _ hk
        · exact hk.elim
      · exact hk.elim
    · exact hk.elim
  · split at hk
    · split at hk
      · split at hk
        · rename_i hc
          rw [if_pos hc]
          exact hK _ hk
        · exact hk.elim
      · exact hk.elim
    · exact hk.elim
  · exact hk.elim
theorem sliceDataX_mono {h : Heap} {x : AV} {K K' : KV} (hK : ∀ v h, K v h → K' v h) (hk : sliceDataX h x K) : sliceDataX h x K' := by
  unfold sliceDataX at hk ⊢
  split at hk
  · exact hK _ _ hk
  · split at hk
    · rename_i hc
      rw [if_pos hc]
      split at hk
      · split at hk
        · rename_i hc2; rw [if_pos hc2]; exact hK _ _ hk
        · exact hk.elim
      · split at hk
        · exact hk.elim
        · rename_i hc2; rw [if_neg hc2]; exact ⟨hk.1, hK _ _ hk.2⟩
      · exact hk.elim
    · exact hk.elim
  · exact hk.elim
theorem strDataX_mono {ts : List Nat} {l : List AV} {h : Heap} {K K' : KV} (hK : ∀ v h, K v h → K' v h) (hk : strDataX P ts l h K) : strDataX P ts l h K' := by
  unfold strDataX at hk ⊢
  split at hk
  · split at hk
    · rename_i hc; rw [if_pos hc]; exact hK _ _ hk
    · exact hk.elim
  · split at hk
    · split at hk
      · rename_i hc
        rw [if_pos hc]
        split at hk
        · exact hK _ _ hk
        · exact hk.elim
      · exact hk.elim
    · split at hk
      · rename_i hc
        rw [if_pos hc]
        obtain ⟨s, h1, h2, h3⟩ := hk
        exact ⟨s, h1, h2, hK _ _ h3⟩
      · exact hk.elim
    · exact hk.elim
  · exact hk.elim
theorem rangeX_mono {t : Nat} {x : AV} {h : Heap} {K K' : KV} (hK : ∀ v h, K v h → K' v h) (hk : rangeX P t x h K) : rangeX P t x h K' := by
  unfold rangeX at hk ⊢
  split at hk
  · exact hK _ _ hk
  · exact hK _ _ hk
  · exact hk.elim
theorem nextX_mono {x : AV} {h : Heap} {K K' : KV} (hK : ∀ v h, K v h → K' v h) (hk : nextX x h K) : nextX x h K' := by
  unfold nextX at hk ⊢
  split at hk
  · split at hk
    · split at hk
      · rename_i hc; rw [if_pos hc]; exact hK _ _ hk
      · rename_i hc; rw [if_neg hc]; exact hK _ _ hk
    · exact ⟨fun h1 => hK _ _ (hk.1 h1), fun h1 => hK _ _ (hk.2 h1)⟩
    · exact hk.elim
  · exact hk.elim
theorem aop2_mono {h : Heap} {o : Op} {l : List AV} {K K' : KV} (hK : ∀ v h, K v h → K' v h) (hk : aop2 P h o l K) : aop2 P h o l K' := by
  unfold aop2 at hk ⊢
  split at hk
  · exact convX_to (fun v hv => hK v h hv) hk
  · exact sliceDataX_mono hK hk
  · exact strDataX_mono hK hk
  · exact hk.elim
theorem appW_mono {env : Env} {args : List Operand} {ts : List Nat} {h : Heap} {K K' : KV} (hK : ∀ v h, K v h → K' v h) (hk : appW P env args ts h K) : appW P env args ts h K' := by
  unfold appW at hk ⊢
  split at hk
  · split at hk
    · split at hk
      · rename_i hc
        rw [if_pos hc]
        exact appR_mono hK hk
      · exact hk.elim
    · split at hk
      · exact appS_mono hK hk
      · exact appV_mono hK hk
  · exact appV_mono hK hk
theorem copyX_mono {ts : List Nat} {l : List AV} {h : Heap} {K K' : KV} (hK : ∀ v h, K v h → K' v h) (hk : copyX P ts l h K) : copyX P ts l h K' := by
  unfold copyX at hk ⊢
  split at hk
  · split at hk
    · split at hk
      · split at hk
        · split at hk
          · rename_i hkn
            rw [if_pos hkn]
            split at hk
            · split at hk
              · split at hk
                · exact hK _ _ hk
                · exact hk
              · exact hk
            · exact hK _ _ hk
            · exact hk
          · exact hk.elim
        · exact hk
      · exact hk
    · exact hk
  · exact hk
theorem aop1_mono {h : Heap} {o : Op} {l : List AV} {K K' : KV} (hK : ∀ v h, K v h → K' v h) (hk : aop1 P h o l K) : aop1 P h o l K' := by
  unfold aop1 at hk ⊢
  split at hk
  · unfold makeX at hk ⊢
    split at hk
    · split at hk
      · split at hk
        · rename_i hc; rw [if_pos hc]; exact hK _ _ hk
        · exact hk.elim
      · exact hk
    · exact hk
  · exact copyX_mono hK hk
  · unfold clearX at hk ⊢
    split at hk
    · split at hk
      · exact hK _ _ hk
      · exact hk
    · split at hk
      · split at hk
        · rename_i hc; rw [if_pos hc]; exact hK _ _ hk
        · rename_i hc
          rw [if_neg hc]
          split at hk
          · split at hk
            · rename_i hc; rw [if_pos hc]
              split at hk
              · exact hK _ _ hk
              · exact hk
            · exact hk.elim
          · exact hk
      · exact hk
    · exact hk
  · exact hk
theorem convB_mono {s d : Nat} {x : AV} {h : Heap} {K K' : KV} (hK : ∀ v h, K v h → K' v h) (hk : convB P s d x h K) : convB P s d x h K' := by
  unfold convB at hk ⊢
  split at hk
  · split at hk
    · rename_i hc
      rw [if_pos hc]
      split at hk
      · split at hk
        · rename_i hlit
          rw [if_pos hlit]
          split at hk
          · rename_i hl; rw [if_pos hl]; exact hK _ _ hk
          · exact hk.elim
        · rename_i hlit
          rw [if_neg hlit]
          exact ⟨hk.1, hK _ _ hk.2⟩
      · exact hk.elim
    · exact hk.elim
  · split at hk
    · rename_i hc
      rw [if_pos hc]
      split at hk
      · split at hk
        · split at hk
          · rename_i hl; rw [if_pos hl]; exact hK _ _ hk
          · exact hk.elim
        · exact hk.elim
      · exact hk.elim
    · exact hk.elim
  · exact hk.elim
theorem aop_mono {env : Env} {h : Heap} {o : Op} {K K' : KV} (hK : ∀ v h, K v h → K' v h) (hk : aop P env h o K) : aop P env h o K' := by
  have hq : ∀ {r : OR}, kOR r (fun v => K v h) → kOR r (fun v => K' v h) := fun hr => kOR_mono (fun v hv => hK _ _ hv) hr
  unfold aop at hk ⊢
  split at hk
  · split at hk
    · exact hK _ _ hk
    · exact hk
  · split at hk
    · split at hk
      · rename_i hkn; rw [if_pos hkn]; exact hK _ _ hk
      · exact hk.elim
    · exact hk
  · split at hk
    · split at hk
      · exact hK _ _ hk
      · exact hk
    · exact storeE_mono (fun h' hh => hK _ _ hh) hk
    · exact hk
  · exact mapV_mono hK hk
  · exact rangeX_mono hK hk
  · exact nextX_mono hK hk
  · exact putV_mono hK hk
  · exact putV_mono hK hk
  · exact sliceV_mono hK hk
  · exact appW_mono hK hk
  · split at hk
    · split at hk
      · exact ⟨hk.1, splitIx_mono (fun q hq => hK _ _ hq) hk.2⟩
      · exact hk
    · split at hk
      · rename_i hz; rw [if_pos hz]; exact ⟨hk.1, splitIx_mono (fun q hq => hK _ _ hq) hk.2⟩
      · exact hk.elim
    · exact hq hk
  · split at hk
    · split at hk
      · refine ⟨hk.1, splitIx_mono (fun q hq => ?_) hk.2⟩
        split at hq
        · exact hK _ _ hq
        · exact hq
      · exact hk
    · exact hq hk
  · split at hk
    · exact ⟨fun hb => hK _ _ (hk.1 hb), fun hb => hK _ _ (hk.2 hb)⟩
    · exact hq hk
  · split at hk
    · rename_i hc; rw [if_pos hc]; exact aop1_mono hK hk
    · rename_i hc
      rw [if_neg hc]
      split at hk
      · rename_i hy; rw [if_pos hy]; exact aop2_mono hK hk
      · rename_i hy; rw [if_neg hy]; exact hq hk

theorem goQ_mono {h : Heap} {o : Oper} {env : Env} {N N' : Env → Prop} (hN : ∀ e, N e → N' e) (hg : goQ P S h o env N) : goQ P S h o env N' := by
  unfold goQ at hg ⊢
  split at hg
  · split at hg
    · split at hg
      · exact kOR_mono (fun v hv => hN _ hv) hg
      · exact hg.elim
    · exact hg.elim
  · exact kOR_mono (fun v hv => hN _ hv) hg
theorem execQ_mono {ops : List Oper} {h : Heap} {K K' : Env → Prop} (hK : ∀ e, K e → K' e) : ∀ {l : List Oper} {env : Env}, execQ P S ops l env h K → execQ P S ops l env h K'
  | [], env, hx => hK env hx
  | o :: l, env, hx => by
    rw [execQ_cons] at hx ⊢
    have ih : ∀ e, execQ P S ops l e h K → execQ P S ops l e h K' := fun e he => execQ_mono hK he
    split at hx
    · exact goQ_mono ih hx
    · exact ih _ hx
    · exact S.on.mono hx (ite_mono (goQ_mono ih) (ih _)) (ite_mono (ih _) (goQ_mono ih))
    · exact hx
theorem kRes_mono {n : Nat} {fn : Func} {env : Env} {h : Heap} {K K' : KV} (hK : ∀ v h, K v h → K' v h) (hk : kRes P n fn env h K) : kRes P n fn env h K' := by
  unfold kRes at hk ⊢
  split at hk
  · exact hK _ _ hk
  · exact hk

theorem allR_mono {f g : Nat → Prop} (h : ∀ j, f j → g j) : ∀ {l : List Nat}, allR l f → allR l g
  | [], _ => trivial
  | [_], hx => h _ hx
  | _ :: _ :: _, hx => ⟨h _ hx.1, allR_mono h hx.2⟩
theorem all_mono (hM : SpecMono S) : ∀ n, (∀ A c env h (K K' : KE), (∀ e env h, K e env h → K' e env h) → exec P S A n c env h K → exec P S A n c env h K') ∧
    (∀ A ops l env h (K K' : Env → Heap → Prop), (∀ env h, K env h → K' env h) → execOps P S A n ops l env h K → execOps P S A n ops l env h K') ∧
    (∀ ops L env h (K K' : Env → Heap → Prop), (∀ env h, K env h → K' env h) → runPlan P S n ops L env h K → runPlan P S n ops L env h K') ∧
    (∀ op env h (K K' : KV), (∀ v h, K v h → K' v h) → exec1 P S n op env h K → exec1 P S n op env h K')
  | 0 => ⟨fun _ _ _ _ _ _ _ hx => by unfold exec at hx; exact hx.elim, fun _ _ _ _ _ _ _ _ hx => by unfold execOps at hx; exact hx.elim, fun _ _ _ _ _ _ _ hx => by unfold runPlan at hx; exact hx.elim, fun _ _ _ _ _ _ hx => by unfold exec1 at hx; exact hx.elim⟩
  | n + 1 => by
    obtain ⟨hE, hO, hR, h1⟩ := all_mono hM n
    refine ⟨?_, ?_, ?_, ?_⟩
    · intro A c env h K K' hK hx
      cases c with
      | skip => exact hK _ _ _ hx
      | label _ => exact hK _ _ _ hx
      | exit _ => exact hK _ _ _ hx
      | ret => exact hK _ _ _ hx
      | goto _ => exact hx
      | refuse _ => exact hx
      | rangeFunc _ _ _ _ => exact hx
      | scope _ => exact hx
      | seq a b =>
        unfold exec at hx ⊢
        simp only at hx ⊢
        split at hx
        · rename_i hA
          refine hE _ _ _ _ _ _ ?_ hx
          intro e env h hk
          cases e with
          | normal => exact hE _ _ _ _ _ _ hK hk
          | exit _ => exact hK _ _ _ hk
          | ret => exact hK _ _ _ hk
        · refine ⟨hE _ _ _ _ _ _ ?_ hx.1, allM_mono (fun t ht => hE _ _ _ _ _ _ hK ht) hx.2⟩
          intro e env h hk
          cases e with
          | normal => exact hk
          | exit _ => exact hK _ _ _ hk
          | ret => exact hK _ _ _ hk
      | cond c t e =>
        unfold exec at hx ⊢
        simp only at hx ⊢
        split at hx
        · exact hE _ _ _ _ _ _ hK hx
        · exact hE _ _ _ _ _ _ hK hx
        · exact S.on.mono hx (hE _ _ _ _ _ _ hK) (hE _ _ _ _ _ _ hK)
        · exact hx.elim
      | block id body =>
        unfold exec at hx ⊢
        refine hE _ _ _ _ _ _ ?_ hx
        intro e env h hk
        cases e with
        | normal => exact hK _ _ _ hk
        | ret => exact hK _ _ _ hk
        | exit i =>
          simp only at hk ⊢
          split at hk
          · rename_i e; rw [if_pos e]; exact hK _ _ _ hk
          · rename_i e; rw [if_neg e]; exact hK _ _ _ hk
      | loop body =>
        unfold exec at hx ⊢
        simp only [forceE_eq, forceH_eq] at hx ⊢
        split at hx
        · refine hE _ _ _ _ _ _ ?_ hx
          intro e env h hk
          cases e with
          | normal => exact hE _ _ _ _ _ _ hK hk
          | exit _ => exact hK _ _ _ hk
          | ret => exact hK _ _ _ hk
        · refine ⟨hx.1, fun x => hE _ _ _ _ _ _ ?_ (hx.2 x)⟩
          intro e env h hk
          cases e with
          | normal => exact hk
          | exit _ => exact hK _ _ _ hk
          | ret => exact hK _ _ _ hk
      | region id ops draw =>
        unfold exec at hx ⊢
        simp only [forceE_eq, forceH_eq] at hx ⊢
        exact ite_mono (ite_mono (execQ_mono (fun e he => hK _ _ _ he)) (ite_mono (execQ_mono (fun e he => hO _ _ _ _ _ _ _ (fun _ _ hk => hK _ _ _ hk) he)) (ite_mono (hR _ _ _ _ _ _ (fun _ _ hk => hK _ _ _ hk)) (fun h => h))))
          (hO _ _ _ _ _ _ _ (fun _ _ hk => hK _ _ _ hk)) hx
    · intro A ops l env h K K' hK hx
      cases l with
      | nil => unfold execOps at hx ⊢; exact hK _ _ hx
      | cons o l =>
        unfold execOps at hx ⊢
        split at hx
        · split at hx
          · rename_i hb
            rw [if_pos hb]
            split at hx
            · exact convB_mono (fun v h hk => hO _ _ _ _ _ _ _ hK hk) hx
            · exact hx.elim
          · rename_i hb
            rw [if_neg hb]
            exact h1 _ _ _ _ _ (fun v h hk => hO _ _ _ _ _ _ _ hK hk) hx
        · exact hO _ _ _ _ _ _ _ hK hx
        · exact S.on.mono hx (hO _ _ _ _ _ _ _ hK) (hO _ _ _ _ _ _ _ hK)
        · exact hx
    · intro ops L env h K K' hK hx
      unfold runPlan at hx ⊢
      split at hx
      · exact hK _ _ hx
      · split at hx
        · split at hx
          · exact ite_mono (hR _ _ _ _ _ _ hK) (fun h => h) hx
          · split at hx
            · exact kOR_mono (fun v hk => hR _ _ _ _ _ _ hK hk) hx
            · exact hx
        · refine allR_mono (fun j hj => ?_) hx
          split at hj
          · split at hj
            · exact h1 _ _ _ _ _ (fun v h hk => hR _ _ _ _ _ _ hK hk) hj
            · exact hj.elim
          · exact hj.elim
    · intro op env h K K' hK hx
      unfold exec1 at hx ⊢
      split at hx
      · split at hx
        · split at hx
          · exact kOR_mono (fun v hv => hK _ _ hv) hx
          · split at hx
            · rename_i hsp; exact hM _ _ hsp _ _ _ _ hK hx
            · split at hx
              · exact kOR_mono (fun v hv => hK _ _ hv) hx
              · split at hx
                · split at hx
                  · refine hE _ _ _ _ _ _ ?_ hx
                    intro e env h hk
                    cases e with
                    | normal => exact kRes_mono hK hk
                    | exit _ => exact hk
                    | ret => exact kRes_mono hK hk
                  · exact hx
                · exact hx
        · exact hx.elim
      · exact aop_mono hK hx

def Agree (env env' : Env) (o : Op) : Prop := ∀ x ∈ o.operands.toList, ev env' x = ev env x
theorem evs_congr {env env' : Env} : ∀ {l : List Operand}, (∀ x ∈ l, ev env' x = ev env x) → evs env' l = evs env l
  | [], _ => rfl
  | x :: l, h => by simp only [evs]; rw [h x (by simp), evs_congr (fun y hy => h y (by simp [hy]))]
theorem evParts_congr {env env' : Env} : ∀ {l : List (Nat × Operand)}, (∀ x ∈ l.map (·.2), ev env' x = ev env x) → evParts env' l = evParts env l
  | [], _ => rfl
  | (i, x) :: l, h => by simp only [evParts]; rw [h x (by simp), evParts_congr (fun y hy => h y (by simp only [List.map_cons, List.mem_cons]; exact .inr hy))]
theorem caps_congr {env env' : Env} : ∀ {l : List Operand}, (∀ x ∈ l, ev env' x = ev env x) → caps env' l = caps env l
  | [], _ => rfl
  | x :: l, h => by simp only [caps]; rw [h x (by simp), caps_congr (fun y hy => h y (by simp [hy]))]
theorem lenV_congr {env env' : Env} {l : List Operand} {ts : List Nat} (hA : ∀ x ∈ l, ev env' x = ev env x) : lenV P env' l ts = lenV P env l ts := by
  unfold lenV
  split
  · rw [hA _ (by simp)]
  · rfl
theorem appV_congr {env env' : Env} {l : List Operand} {ts : List Nat} {h : Heap} {K : KV} (hA : ∀ x ∈ l, ev env' x = ev env x) : appV P env' l ts h K = appV P env l ts h K := by
  unfold appV
  split
  · rw [hA _ (by simp), hA _ (by simp)]
  · rfl
theorem appW_congr {env env' : Env} {l : List Operand} {ts : List Nat} {h : Heap} {K : KV} (hA : ∀ x ∈ l, ev env' x = ev env x) : appW P env' l ts h K = appW P env l ts h K := by
  unfold appW
  split
  · rename_i s x t t'
    rw [hA s (by simp), hA x (by simp), appV_congr hA]
  · exact appV_congr hA
theorem qop0_congr {env env' : Env} {h : Heap} {o : Op} (hA : Agree env env' o) : qop0 P env' h o = qop0 P env h o := by
  unfold Agree at hA
  cases o <;> simp only [qop0, Op.operands] at hA ⊢
  case build t parts => rw [evParts_congr (by simpa using hA)]
  case makeFunc f first cap =>
    cases f <;> simp only
    rw [caps_congr (fun x hx => hA x (by simp at hx ⊢; exact .inr hx))]
  case call c =>
    split <;> first | (rename_i heq; cases heq; done) | skip
    · rename_i args ts heq
      injection heq with heq
      subst heq
      exact lenV_congr (fun x hx => hA x (by simp [Call.operands]; simpa using hx))
    · rfl
  all_goals (try rfl)
  all_goals simp only [List.mem_cons, List.not_mem_nil, or_false, forall_eq_or_imp, forall_eq] at hA
  all_goals first
    | rw [hA]
    | (obtain ⟨h1, h2⟩ := hA; rw [h1, h2])
    | (obtain ⟨h1, h2, h3⟩ := hA; rw [h1, h2, h3])
    | (obtain ⟨h1, _⟩ := hA; rw [h1])
theorem qop_congr {env env' : Env} {h : Heap} {o : Op} (hA : Agree env env' o) : qop P env' h o = qop P env h o := by
  unfold qop
  rw [qop0_congr hA, evs_congr hA]
theorem qopE_congr {env env' : Env} {h : Heap} {o : Op} (hA : Agree env env' o) : qopE P env' h o = qopE P env h o := by
  unfold qopE
  rw [qop_congr hA, evs_congr hA]
theorem aop_congr {env env' : Env} {h : Heap} {o : Op} {K : KV} (hA : Agree env env' o) : aop P env' h o K = aop P env h o K := by
  have hq := qop_congr (P := P) (h := h) hA
  have he := evs_congr hA
  have hq2 := qopE_congr (P := P) (h := h) hA
  unfold Agree at hA
  by_cases hcall : ∃ c, o = .call c
  · obtain ⟨c, rfl⟩ := hcall
    unfold aop
    split <;> first | (rename_i heq; cases heq; done) | skip
    · rename_i args ts heq
      injection heq with heq
      subst heq
      exact appW_congr (fun x hx => hA x (by simp [Op.operands, Call.operands]; simpa using hx))
    · rw [hq2, he]
  by_cases hbs : ∃ t n ps, o = .buildSlice t n ps
  · obtain ⟨t, n, ps, rfl⟩ := hbs
    simp only [aop]
    rw [evParts_congr (fun x hx => hA x (by simpa [Op.operands] using hx))]
  by_cases hnx : ∃ it c, o = .next it c
  · obtain ⟨it, c, rfl⟩ := hnx
    cases c with
    | true => simp only [aop]; rw [hA it (by simp [Op.operands])]
    | false => simp only [aop, hq2, he]
  cases o <;> first | exact absurd ⟨_, rfl⟩ hcall | exact absurd ⟨_, _, _, rfl⟩ hbs | exact absurd ⟨_, _, rfl⟩ hnx | skip
  all_goals simp only [aop, hq, hq2, he]
  all_goals simp only [Op.operands, List.mem_cons, List.not_mem_nil, or_false, forall_eq_or_imp, forall_eq] at hA
  all_goals first
    | rfl
    | rw [hA]
    | (obtain ⟨h1, h2⟩ := hA; rw [h1, h2])
    | (obtain ⟨h1, h2, h3⟩ := hA; rw [h1, h2, h3])
theorem exec1_congr {n : Nat} {env env' : Env} {h : Heap} {o : Op} {K : KV} (hA : Agree env env' o) : exec1 P S n o env' h K = exec1 P S n o env h K := by
  cases n with
  | zero => unfold exec1; rfl
  | succ n =>
    unfold exec1
    split
    · rename_i x args ts
      have h1 : ev env' x = ev env x := hA x (by simp [Op.operands, Call.operands])
      have h2 : evs env' args.toList = evs env args.toList := evs_congr (fun y hy => hA y (by simp [Op.operands, Call.operands]; right; simpa using hy))
      rw [h1, h2]
    · exact aop_congr hA
end
end Go.AM

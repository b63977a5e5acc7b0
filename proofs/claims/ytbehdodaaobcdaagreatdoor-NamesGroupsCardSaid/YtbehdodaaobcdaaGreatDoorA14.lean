import Derived.Test.YtbehdodaaobcdaaGreatDoorA13
set_option maxHeartbeats 4000000
namespace Go.AM
open Go
section
variable {P : Program} {S : Sums} {N : Nat} {ops : Array Oper} {D : Env → Heap → Prop}

theorem putD_len {env : Env} {d : Option Nat} {v : AV} : (putD env d v).length = env.length := by cases d <;> simp [putD, set_eq]
theorem adoptL_len {L : Array Bool} : ∀ (l : List Nat) (env : Env) (h : Heap), (adoptL P ops.toList L l env h).1.length = env.length
  | [], _, _ => rfl
  | a :: l, env, h => by
    unfold adoptL
    split
    · split
      · rw [adoptL_len l]; simp [set_eq]
      · exact adoptL_len l env h
    · exact adoptL_len l env h
theorem AA_takeAlloc (hM : SpecMono S) (hap : allocsApart P ops.toList = true) {i d t : Nat} {z : List SV} (hal : allocOf P ops.toList i = some (d, t, z)) : ∀ (f : Nat) (L : Array Bool) (env : Env) (h : Heap), Closed ops L → i ∈ Region.ready .any ops L → d < env.length →
    (∀ (j : Nat) oj, ops[j]? = some oj → j ≠ i → L.getD j true = false → ancB ops.toList 4 j i = true ∨ (d ∉ tmpsOf oj.op ∧ oj.dst ≠ some d)) →
    AA P S N ops D f (L.setIfInBounds i true) (AM.set env d AV.any) h → AA P S N ops D (f + 1) L env h := by
  obtain ⟨oi, _, _, hi, _, hdst, hgd, _⟩ := allocOf_spec hal
  have hgi : get? ops.toList i = some oi := by rw [get?_eq]; simpa using hi
  intro f
  induction f with
  | zero =>
    intro L env h hc hr hd hT hA
    refine ⟨fun h0 => (by rw [h0] at hr; cases hr), fun j hj => ?_⟩
    by_cases hji : j = i
    · subst hji
      unfold stepJ
      simp only [hgi, hal]
      exact ⟨hd, hA⟩
    · have := ready_mono hj hji
      rw [hA.1] at this
      cases this
  | succ f ih =>
    intro L env h hc hr hd hT hA
    have hun := (mem_ready.1 hr).1
    refine ⟨fun h0 => (by rw [h0] at hr; cases hr), fun j hj => ?_⟩
    by_cases hji : j = i
    · subst hji
      unfold stepJ
      simp only [hgi, hal]
      exact ⟨hd, hA⟩
    · obtain ⟨hjun, oj, hoj, hjdeps⟩ := mem_ready.1 hj
      have hgj : get? ops.toList j = some oj := by rw [get?_eq]; simpa using hoj
      have hstep := hA.2 j (ready_mono hj hji)
      have hc' := hc.set hj
      have hr' : i ∈ Region.ready .any ops (L.setIfInBounds j true) := ready_mono hr (Ne.symm hji)
      have hT' : ∀ (k : Nat) ok, ops[k]? = some ok → k ≠ i → (L.setIfInBounds j true).getD k true = false → ancB ops.toList 4 k i = true ∨ (d ∉ tmpsOf ok.op ∧ ok.dst ≠ some d) := fun k ok hk hne hu => by
        have hkj : k ≠ j := fun e => by subst e; exact listed_in hu
        rw [getD_set_ne true (Ne.symm hkj)] at hu
        exact hT k ok hk hne hu
      rcases hT j oj hoj hji hjun with hanc | ⟨ap1, ap2⟩
      · rw [not_anc hc hj hun] at hanc; cases hanc
      have hnot : i ∉ needs P ops.toList j := fun hm => by
        unfold needs at hm
        simp only [hgj, List.mem_filter, List.any_eq_true] at hm
        obtain ⟨_, s, hs, hs2⟩ := hm
        simp [slotOfAlloc, hal] at hs2
        subst hs2
        exact ap1 hs
      have hni : needs P ops.toList i = [] := by
        obtain ⟨o', _, _, ho', hop, _⟩ := allocOf_spec hal
        rw [hi] at ho'
        cases ho'
        unfold needs
        simp [hgi, hop, tmpsOf, Op.operands]
      have hpend : ∀ a ∈ needs P ops.toList j, pendOf P ops.toList (L.setIfInBounds i true) a = pendOf P ops.toList L a := fun a ha => by
        have hai : a ≠ i := fun e => hnot (e ▸ ha)
        unfold pendOf
        rw [getD_set_ne false (Ne.symm hai)]
        congr 2
        rw [Bool.eq_iff_iff]
        simp only [List.any_eq_true, Bool.and_eq_true]
        constructor
        · rintro ⟨k, hk, h1, h2⟩
          by_cases e2 : k = i
          · subst e2; rw [hni] at h2; cases h2
          · rw [getD_set_ne false (Ne.symm e2)] at h1; exact ⟨k, hk, h1, h2⟩
        · rintro ⟨k, hk, h1, h2⟩
          exact ⟨k, hk, getD_set_true h1, h2⟩
      unfold stepJ at hstep ⊢
      simp only [hgj] at hstep ⊢
      cases halj : allocOf P ops.toList j with
      | some dtz =>
        obtain ⟨e, t', z'⟩ := dtz
        simp only [halj] at hstep ⊢
        obtain ⟨o', _, _, ho', _, hdst', _⟩ := allocOf_spec halj
        rw [hoj] at ho'
        cases ho'
        refine ⟨by have := hstep.1; simpa [set_eq] using this, ?_⟩
        refine ih _ _ h hc' hr' (by simpa [set_eq] using hd) hT' ?_
        have hne : e ≠ d := fun he => ap2 (by rw [hdst', he])
        rw [set_comm' hne, Array.setIfInBounds_comm _ _ hji]
        exact hstep.2
      | none =>
        simp only [halj] at hstep ⊢
        obtain ⟨hgdj, m, hm, hx⟩ := hstep
        refine ⟨hgdj, m, hm, ?_⟩
        have hput : AM.set env d AV.any = putD env (some d) AV.any := rfl
        rw [hput, adoptL_put _ hpend (fun a ha e t' z' hea hde => by
          have hai : a ≠ i := fun e => hnot (e ▸ ha)
          obtain ⟨oa, _, _, hoa, _, hdsta, _⟩ := allocOf_spec hea
          exact allocsApart_spec hap hal hoa hai (by rw [hdsta, hde]))] at hx
        have hlen := adoptL_len (P := P) (ops := ops) (L := L) (needs P ops.toList j) env h
        generalize adoptL P ops.toList L (needs P ops.toList j) env h = st at hx hlen ⊢
        rw [exec1_congr (agree_put (d := some d) (fun t' ht => by rw [← Option.some.inj ht]; exact ap1))] at hx
        refine (all_mono hM m).2.2.2 _ _ _ _ _ (fun v h2 hk => ?_) hx
        refine ih _ _ h2 hc' hr' ?_ hT' ?_
        · rw [putD_len, hlen]; exact hd
        · have e : AM.set (putD st.1 oj.dst v) d AV.any = putD (putD st.1 (some d) AV.any) oj.dst v := putD_comm (env := st.1) (d := oj.dst) (e := some d) (fun t' ht he => ap2 (by rw [ht, Option.some.inj he]))
          rw [e, Array.setIfInBounds_comm _ _ hji]
          exact hk

def left (ops : Array Oper) (L : Array Bool) : Nat := (List.range ops.size).countP (fun i => !L.getD i true)
theorem countP_drop {p q : Nat → Bool} {i : Nat} (hp : p i = true) (hq : q i = false) (hne : ∀ j, j ≠ i → q j = p j) : ∀ l : List Nat, l.Nodup → i ∈ l → l.countP q + 1 = l.countP p
  | [], _, h => by cases h
  | a :: l, hnd, hm => by
    have hnd' := List.nodup_cons.1 hnd
    by_cases e : a = i
    · subst e
      have : l.countP q = l.countP p := by
        have : ∀ x ∈ l, q x = p x := fun x hx => hne x (fun he => hnd'.1 (he ▸ hx))
        rw [List.countP_congr (fun x hx => by rw [this x hx])]
      simp [List.countP_cons, hp, hq, this]
    · have hm' : i ∈ l := by
        rcases List.mem_cons.1 hm with h | h
        · exact absurd h.symm e
        · exact h
      have := countP_drop hp hq hne l hnd'.2 hm'
      simp only [List.countP_cons, hne a e]
      omega
theorem left_set {L : Array Bool} {i : Nat} (hi : i ∈ Region.ready .any ops L) (hL : L.size = ops.size) : left ops (L.setIfInBounds i true) + 1 = left ops L := by
  obtain ⟨hun, o, ho, _⟩ := mem_ready.1 hi
  have hlt : i < ops.size := (Array.getElem?_eq_some_iff.1 ho).1
  refine countP_drop (i := i) (by simp [hun]) ?_ (fun j hj => by rw [getD_set_ne true (Ne.symm hj)]) _ List.nodup_range (List.mem_range.2 hlt)
  have : i < L.size := by rw [hL]; exact hlt
  simp [this]

theorem exec1_of_qval {n : Nat} {op : Op} (hq : quietB S op = true) {env : Env} {h : Heap} {K : KV} (hk : kOR (qval P S env h op) (fun v => K v h)) : exec1 P S (n + 1) op env h K := by
  unfold exec1
  unfold quietB at hq
  split
  · rename_i x args ts
    have hp : pureCall S (.call { callee := .value x, args := args, argTypes := ts }) = true := by simpa [insens, isLoad] using hq
    unfold pureCall at hp
    split at hp
    · rename_i heq
      injection heq with heq
      injection heq with h1 h2 h3
      injection h1 with h1
      subst h1
      rename_i f _ _
      cases hs : S.pure f with
      | none => simp [hs] at hp
      | some p =>
        simp only [qval, hs] at hk
        simp only [ev, hs]
        exact hk
    · cases hp
  · rename_i hn
    have hqv : qval P S env h op = qop P env h op := by
      unfold qval
      split
      · exact absurd rfl (hn _ _ _)
      · rfl
    rw [hqv] at hk
    unfold aop
    split
    · exact hk.elim
    · exact hk.elim
    · exact hk.elim
    · exact hk.elim
    · exact hk.elim
    · exact hk.elim
    · exact hk.elim
    · exact hk.elim
    · exact hk.elim
    · exact hk.elim
    · split
      · rename_i hu he1 he2
        simp only [qop, qop0, qop1, orElse, Op.operands, evs, hu, he1, he2] at hk
        exact hk.elim
      · rename_i hu he1 he2
        simp only [qop, qop0, qop1, orElse, Op.operands, evs, hu, he1, he2, if_true] at hk
        simp only [ite_self] at hk
        exact hk.elim
      · exact hk
    · split
      · rename_i hu he1 he2
        simp only [qop, qop0, qop1, orElse, Op.operands, evs, hu, he1, he2] at hk
        exact hk.elim
      · exact hk
    · split
      · rename_i he
        simp only [qop, qop0, qop1, orElse, Op.operands, evs, he] at hk
        exact hk.elim
      · exact hk
    · split
      · rename_i hx
        unfold isX at hx
        split at hx
        · exact hk.elim
        · exact hk.elim
        · exact hk.elim
        · cases hx
      · split
        · rename_i hy
          rw [qop_isY hy] at hk
          exact hk.elim
        · exact kOR_E hk

theorem findTake_spec {L : Array Bool} {env : Env} : ∀ {l : List Nat} {i : Nat}, findTake P S ops.toList L env l = some i → i ∈ l ∧ takeOk P S ops.toList L env i = true
  | [], _, h => by cases h
  | a :: l, i, h => by
    unfold findTake at h
    split at h
    · rename_i ht; cases h; exact ⟨by simp, (Bool.and_eq_true _ _ ▸ ht).1⟩
    · have := findTake_spec h; exact ⟨by simp [this.1], this.2⟩

theorem allR_mem {f : Nat → Prop} : ∀ {l : List Nat}, allR l f → ∀ {j}, j ∈ l → f j
  | [j], h, i, hi => by simp at hi; subst hi; exact h
  | j :: k :: l, h, i, hi => by
    rcases List.mem_cons.1 hi with rfl | hi
    · exact h.1
    · exact allR_mem h.2 hi
theorem plan_AA [Glob] (hM : SpecMono S) (hap : allocsApart P ops.toList = true) : ∀ (n : Nat), n ≤ N → ∀ (f : Nat) (L : Array Bool) (env : Env) (h : Heap), runPlan P S n ops L env h D → Closed ops L → L.size = ops.size → left ops L ≤ f → AA P S N ops D f L env h
  | 0, _, _, _, _, _, hx, _, _, _ => by unfold runPlan at hx; exact hx.elim
  | n + 1, hn, f, L, env, h, hx, hc, hL, hf => by
    unfold runPlan at hx
    split at hx
    · rename_i hr
      cases f with
      | zero => exact ⟨hr, hx⟩
      | succ f => exact ⟨fun _ => hx, fun j hj => by rw [hr] at hj; cases hj⟩
    · rename_i r R hr
      have hsucc : ∀ {i}, i ∈ Region.ready .any ops L → ∃ f', f = f' + 1 ∧ left ops (L.setIfInBounds i true) ≤ f' := fun {i} hi => by
        have := left_set hi hL
        exact ⟨f - 1, by omega, by omega⟩
      split at hx
      · rename_i i hft
        obtain ⟨him, htk⟩ := findTake_spec hft
        have hi : i ∈ Region.ready .any ops L := by rw [hr]; exact him
        obtain ⟨f', rfl, hf'⟩ := hsucc hi
        have hc' := hc.set hi
        have hL' : (L.setIfInBounds i true).size = ops.size := by simp [hL]
        split at hx
        · rename_i d t z hal
          split at hx
          · rename_i hd
            rw [len'_eq] at hd
            refine AA_takeAlloc hM hap hal f' L env h hc hi hd ?_ (plan_AA hM hap n (by omega) f' _ _ h hx hc' hL' hf')
            intro j oj hj hne hun
            unfold takeOk at htk
            simp only [hal, takeA, List.all_eq_true, List.mem_range, len'_eq, Array.length_toList] at htk
            have h1 := htk j (Array.getElem?_eq_some_iff.1 hj).1
            have hg : get? ops.toList j = some oj := by rw [get?_eq]; simpa using hj
            simpa [hne, hun, hg] using h1
          · exact hx.elim
        · rename_i hal
          split at hx
          · rename_i o hg
            have ho : ops[i]? = some o := by rw [get?_eq] at hg; simpa using hg
            obtain ⟨av, g1, g2⟩ := gives_kOR hx
            unfold takeOk at htk
            simp only [hal, hg] at htk
            have hT := takeQ_spec ho htk
            exact AA_take hM ho hal f' L env h av hc hi hT g1 ⟨n + 1, hn, fun env h K hk => exec1_of_qval hT.quiet hk⟩ (plan_AA hM hap n (by omega) f' _ _ h g2 hc' hL' hf')
          · exact hx.elim
      · have hir : r ∈ Region.ready .any ops L := by rw [hr]; simp
        obtain ⟨f', rfl, _⟩ := hsucc hir
        refine ⟨fun h0 => (by rw [h0] at hr; cases hr), fun j hj => ?_⟩
        have hxj := allR_mem hx (by rw [← hr]; exact hj)
        have hf' : left ops (L.setIfInBounds j true) ≤ f' := by
          have := left_set hj hL
          omega
        split at hxj
        · rename_i oo e1 e2
          split at hxj
          · rename_i hgd
            unfold stepJ
            simp only [e2, e1]
            refine ⟨hgd, n, by omega, (all_mono hM n).2.2.2 _ _ _ _ _ (fun v h2 hk => ?_) hxj⟩
            exact plan_AA hM hap n (by omega) f' _ _ h2 hk (hc.set hj) (by simp [hL]) hf'
          · exact hxj.elim
        · exact hxj.elim
end
end Go.AM

import Derived.Test.YtbehdodaaobcdaaGreatDoorA12
set_option maxHeartbeats 4000000
namespace Go.AM
open Go
section
variable {P : Program} {S : Sums} {N : Nat} {ops : Array Oper} {D : Env → Heap → Prop}

theorem ev_put {env : Env} {d : Option Nat} {v : AV} {x : Operand} (h : ∀ t, x = .tmp t → d ≠ some t) : ev (putD env d v) x = ev env x := by
  cases x with
  | tmp t =>
    cases d with
    | none => rfl
    | some d =>
      have hne : d ≠ t := fun e => h t rfl (by rw [e])
      simp only [ev, putD, getD_eq, set_eq, List.getElem?_set, if_neg hne]
  | const v => rfl
  | global g => rfl
  | func f => rfl
theorem mem_tmpsOf {op : Op} {t : Nat} (h : Operand.tmp t ∈ op.operands.toList) : t ∈ tmpsOf op := by
  unfold tmpsOf
  rw [List.mem_filterMap]
  exact ⟨_, h, rfl⟩
theorem agree_put {env : Env} {d : Option Nat} {v : AV} {op : Op} (h : ∀ t, d = some t → t ∉ tmpsOf op) : Agree env (putD env d v) op := by
  intro x hx
  refine ev_put fun t ht hd => ?_
  subst ht
  exact h t hd (mem_tmpsOf hx)
theorem Agree.trans {a b c : Env} {op : Op} (h : Agree a b op) (k : Agree b c op) : Agree a c op := fun x hx => (k x hx).trans (h x hx)
theorem set_comm' {α : Type} {l : List α} {i j : Nat} {x y : α} (h : i ≠ j) : AM.set (AM.set l i x) j y = AM.set (AM.set l j y) i x := by
  simp only [set_eq]
  exact List.set_comm x y h
theorem putD_comm {env : Env} {d e : Option Nat} {x y : AV} (h : ∀ t, d = some t → e ≠ some t) : putD (putD env d x) e y = putD (putD env e y) d x := by
  cases d with
  | none => rfl
  | some d => cases e with
    | none => rfl
    | some e => exact set_comm' (fun he => h d rfl (by rw [he]))

theorem qval_congr {env env' : Env} {h : Heap} {o : Op} (hA : Agree env env' o) : qval P S env' h o = qval P S env h o := by
  unfold qval
  split
  · rename_i f args ts
    have h2 : evs env' args.toList = evs env args.toList := evs_congr (fun y hy => hA y (by simp [Op.operands, Call.operands]; right; simpa using hy))
    rw [h2]
  · exact qop_congr hA
theorem qval_insens {env : Env} {h h' : Heap} {o : Op} (hi : insens o = true) : qval P S env h' o = qval P S env h o := by
  cases o <;> first | (cases hi; done) | rfl | skip
  · rename_i fn first cap
    cases fn <;> rfl
  · rename_i c
    unfold insens at hi
    split at hi <;> first | (cases hi; done) | (rename_i heq; cases heq; done) | skip
    all_goals first | rfl | (rename_i heq; injection heq with heq; subst heq; rfl)
theorem qval_pure {env : Env} {h h' : Heap} {o : Op} (hi : pureCall S o = true) : qval P S env h' o = qval P S env h o := by
  unfold pureCall at hi
  split at hi
  · rfl
  · cases hi
def ablk : AV → Option Nat
  | .v (.one (.ptr b _)) => some b
  | .v (.one (.pe b _ _ _)) => some b
  | .v (.one (.rp b _ _ _)) => some b
  | _ => none
theorem qval_load {env : Env} {h h' : Heap} {t : Nat} {a : Operand} (hb : ∀ b, ablk (ev env a) = some b → get? h' b = get? h b) : qval P S env h' (.load t a) = qval P S env h (.load t a) := by
  show orElse (qop0 P env h' (.load t a)) _ = orElse (qop0 P env h (.load t a)) _
  have e : qop0 P env h' (.load t a) = qop0 P env h (.load t a) := by
    simp only [qop0]
    split
    · rename_i b off he
      simp only [loadV, hb b (by rw [he]; rfl)]
    · rename_i b z i s he
      simp only [loadE, hb b (by rw [he]; rfl)]
    · rename_i b z i s he
      simp only [loadR, hb b (by rw [he]; rfl)]
    · rfl
  rw [e]

theorem aop2_conv {env : Env} {h : Heap} {s d : Nat} {x : Operand} {K : KV} (hk : aop2 P h (.convert s d x) (evs env (Op.convert s d x).operands.toList) K) : aop2 P h (.convert s d x) (evs env (Op.convert s d x).operands.toList) (fun v h' => h' = h ∧ K v h') := by
  have e : evs env (Op.convert s d x).operands.toList = [ev env x] := by simp [Op.operands, evs]
  rw [e] at hk ⊢
  unfold aop2 at hk ⊢
  exact convX_to (fun _ hv => ⟨rfl, hv⟩) hk
theorem aop_quiet {env : Env} {h : Heap} {o : Op} {K : KV} (hi : (insens o || isLoad o) = true) (hk : aop P env h o K) : aop P env h o (fun v h' => h' = h ∧ K v h') := by
  have hq : ∀ {r : OR}, kOR r (fun v => K v h) → kOR r (fun v => h = h ∧ K v h) := fun hr => kOR_mono (fun v hv => ⟨rfl, hv⟩) hr
  unfold aop at hk ⊢
  split at hk
  · cases hi
  · cases hi
  · cases hi
  · cases hi
  · cases hi
  · cases hi
  · cases hi
  · cases hi
  · cases hi
  · cases hi
  · split at hk
    · split at hk
      · exact ⟨hk.1, splitIx_mono (fun q hq => ⟨rfl, hq⟩) hk.2⟩
      · exact hk
    · split at hk
      · rename_i hz; rw [if_pos hz]; exact ⟨hk.1, splitIx_mono (fun q hq => ⟨rfl, hq⟩) hk.2⟩
      · exact hk.elim
    · exact hq hk
  · split at hk
    · split at hk
      · refine ⟨hk.1, splitIx_mono (fun q hq => ?_) hk.2⟩
        split at hq
        · exact ⟨rfl, hq⟩
        · exact hq
      · exact hk
    · exact hq hk
  · cases hi
  · split at hk
    · rename_i hx
      unfold isX at hx
      split at hx
      · cases hi
      · cases hi
      · cases hi
      · cases hx
    · rename_i hc
      rw [if_neg hc]
      split at hk
      · rename_i hy
        rw [if_pos hy]
        unfold isY at hy
        split at hy
        · exact aop2_conv hk
        · cases hi
        · cases hi
        · cases hy
      · rename_i hy; rw [if_neg hy]; exact hq hk
theorem qop_isY {env : Env} {h : Heap} {o : Op} (hy : isY P o = true) : qop P env h o = .fail := by
  unfold isY at hy
  split at hy
  · rename_i s d x
    have h0 : qop0 P env h (.convert s d x) = .fail := by
      unfold memConv at hy
      split at hy <;> first | (rename_i hs hd; simp [qop0, hs, hd]; done) | cases hy
    have h1 : ∀ l, qop1 P (.convert s d x) l = .fail := fun l => by
      unfold memConv at hy
      split at hy <;> first | (rename_i hs hd; unfold qop1; split <;> simp_all; done) | cases hy
    simp only [qop, h0, h1, orElse]
  · simp [qop, qop0, qop1, orElse, bltX]
  · simp [qop, qop0, qop1, orElse, bltX]
  · cases hy
theorem exec1_quiet {m : Nat} {env : Env} {h : Heap} {o : Op} {K : KV} (hi : quietB S o = true) (hk : exec1 P S m o env h K) : exec1 P S m o env h (fun v h' => h' = h ∧ K v h') := by
  cases m with
  | zero => unfold exec1 at hk; exact hk.elim
  | succ m =>
    unfold exec1 at hk ⊢
    unfold quietB at hi
    split at hk
    · rename_i x args ts
      have hp : pureCall S (.call { callee := .value x, args := args, argTypes := ts }) = true := by simpa [insens, isLoad] using hi
      unfold pureCall at hp
      split at hp
      · rename_i heq
        injection heq with heq
        injection heq with h1 h2 h3
        injection h1 with h1
        subst h1
        rename_i f _ _
        cases hs : S.pure f with
        | none => simp [hs] at hp
        | some p =>
          simp only [ev, hs] at hk ⊢
          exact kOR_mono (fun v hv => ⟨trivial, hv⟩) hk
      · cases hp
    · rename_i hn
      have : pureCall S o = false := by
        cases hpc : pureCall S o with
        | false => rfl
        | true =>
          unfold pureCall at hpc
          split at hpc
          · exact absurd rfl (hn _ _ _)
          · cases hpc
      rw [this, Bool.or_false] at hi
      exact aop_quiet hi hk
theorem exec1_store [Glob] {m : Nat} {env : Env} {h : Heap} {t : Nat} {x y : Operand} {K : KV} (hk : exec1 P S m (.store t x y) env h K) :
    exec1 P S m (.store t x y) env h (fun v h' => (∀ b' o' b, ev env x = .v (.one (.ptr b' o')) → b ≠ b' → get? h' b = get? h b) ∧ K v h') := by
  cases m with
  | zero => unfold exec1 at hk; exact hk.elim
  | succ m =>
    unfold exec1 at hk ⊢
    simp only [aop] at hk ⊢
    split at hk
    · rename_i b off p he1 he2
      split at hk
      · rename_i h' hs
        refine ⟨fun b' o' c he hne => ?_, hk⟩
        rw [he1] at he
        injection he with he
        injection he with he
        injection he with he _
        subst he
        unfold storeV at hs
        split at hs
        · split at hs
          · split at hs
            · have e := Option.some.inj hs
              subst e
              rw [get?_eq, get?_eq, get_set_other (Ne.symm hne)]
            · cases hs
          · cases hs
        · split at hs
          · split at hs
            · have e := Option.some.inj hs
              subst e
              rw [get?_eq, get?_eq, get_set_other (Ne.symm hne)]
            · cases hs
          · cases hs
        · cases hs
      · exact hk
    · rename_i b z idx sub p he1 he2
      refine storeE_mono (fun h' hh => ⟨fun b' o' c he hne => ?_, hh⟩) hk
      rw [he1] at he
      cases he
    · exact hk

def Closed (ops : Array Oper) (L : Array Bool) : Prop := ∀ (j : Nat) oj, ops[j]? = some oj → L.getD j false = true → ∀ e ∈ oj.after, Region.binds .any e = true → L.getD e.on false = true
theorem Closed.set {L : Array Bool} (hc : Closed ops L) {i : Nat} (hi : i ∈ Region.ready .any ops L) : Closed ops (L.setIfInBounds i true) := by
  intro j oj hj hl e he hb
  obtain ⟨_, o, ho, hall⟩ := mem_ready.1 hi
  by_cases hij : i = j
  · subst hij
    rw [ho] at hj
    cases hj
    exact getD_set_true (hall e he hb)
  · rw [getD_set_ne false hij] at hl
    exact getD_set_true (hc j oj hj hl e he hb)
theorem anc_listed {L : Array Bool} (hc : Closed ops L) : ∀ {n j i : Nat} {oj : Oper}, ancB ops.toList n j i = true → ops[j]? = some oj → (∀ e ∈ oj.after, Region.binds .any e = true → L.getD e.on false = true) → L.getD i false = true
  | 0, _, _, _, h, _, _ => by cases h
  | n + 1, j, i, oj, h, hj, hall => by
    unfold ancB at h
    have hg : get? ops.toList j = some oj := by rw [get?_eq]; simpa using hj
    simp only [hg, List.any_eq_true, Bool.or_eq_true, decide_eq_true_eq] at h
    obtain ⟨d, hd, h⟩ := h
    unfold depsOf at hd
    rw [List.mem_map] at hd
    obtain ⟨e, he, rfl⟩ := hd
    rw [List.mem_filter] at he
    have hl := hall e (by simpa using he.1) he.2
    rcases h with h | h
    · rw [← h]; exact hl
    · cases hk : ops[e.on]? with
      | none =>
        cases n with
        | zero => cases h
        | succ n =>
          unfold ancB at h
          have hg2 : get? ops.toList e.on = none := by rw [get?_eq]; simpa using hk
          simp [hg2] at h
      | some ok => exact anc_listed hc h hk (fun e2 he2 hb2 => hc e.on ok hk hl e2 he2 hb2)
theorem not_anc {L : Array Bool} (hc : Closed ops L) {n j i : Nat} (hj : j ∈ Region.ready .any ops L) (hun : L.getD i true = false) : ancB ops.toList n j i = false := by
  obtain ⟨_, oj, hoj, hall⟩ := mem_ready.1 hj
  cases h : ancB ops.toList n j i with
  | false => rfl
  | true =>
    have := anc_listed hc h hoj hall
    rw [getD_both hun] at this
    cases this

def DiffC (P : Program) (ops : Array Oper) (L : Array Bool) (env : Env) (oi oj : Oper) : Prop :=
  ∃ t a tx x y b o b' o', oi.op = .load t a ∧ oj.op = .store tx x y ∧ ev env a = .v (.one (.ptr b o)) ∧ ev env x = .v (.one (.ptr b' o')) ∧ b ≠ b' ∧
    ∀ s, x = .tmp s → ∀ (k : Nat) ok, ops[k]? = some ok → slotOfAlloc P ops.toList k s = false ∧ (L.getD k true = false → ok.dst ≠ some s)
structure TakeC (P : Program) (S : Sums) (ops : Array Oper) (L : Array Bool) (env : Env) (i : Nat) (oi : Oper) : Prop where
  guard : oi.guard = none
  quiet : quietB S oi.op = true
  needs : needs P ops.toList i = []
  dst : ∀ a d t z, allocOf P ops.toList a = some (d, t, z) → oi.dst ≠ some d
  tmps : ∀ a d t z, allocOf P ops.toList a = some (d, t, z) → d ∉ tmpsOf oi.op
  others : ∀ (j : Nat) oj, ops[j]? = some oj → j ≠ i → L.getD j true = false → ancB ops.toList 4 j i = true ∨
    (apartB oi oj = true ∧ (insens oi.op = true ∨ pureCall S oi.op = true ∨ quietB S oj.op = true ∨ isAlloc P ops.toList j = true ∨ DiffC P ops L env oi oj))

theorem takeQ_spec {L : Array Bool} {env : Env} {i : Nat} {oi : Oper} (hi : ops[i]? = some oi) (h : takeQ P S ops.toList L env i oi = true) : TakeC P S ops L env i oi := by
  unfold takeQ at h
  simp only [Bool.and_eq_true, List.all_eq_true, List.mem_range, len'_eq, Array.length_toList] at h
  obtain ⟨⟨⟨⟨h1, h2⟩, h3⟩, h4⟩, h5⟩ := h
  have hneeds : needs P ops.toList i = [] := by simpa using h3
  have allocLt : ∀ {a d t z}, allocOf P ops.toList a = some (d, t, z) → a < ops.size := fun ha => by
    obtain ⟨o, _, _, ho, _⟩ := allocOf_spec ha
    exact (Array.getElem?_eq_some_iff.1 ho).1
  refine ⟨by simpa using h1, h2, hneeds, fun a d t z ha hd => ?_, fun a d t z ha hd => ?_, fun j oj hj hne hun => ?_⟩
  · have := h4 a (allocLt ha)
    simp [hd, slotOfAlloc, ha] at this
  · have hm : a ∈ needs P ops.toList i := by
      unfold AM.needs
      have hg : get? ops.toList i = some oi := by rw [get?_eq]; simpa using hi
      simp only [hg, List.mem_filter, List.mem_range, len'_eq, Array.length_toList, List.any_eq_true]
      exact ⟨allocLt ha, d, hd, by simp [slotOfAlloc, ha]⟩
    rw [hneeds] at hm
    cases hm
  · have hjl : j < ops.size := (Array.getElem?_eq_some_iff.1 hj).1
    have hg : get? ops.toList j = some oj := by rw [get?_eq]; simpa using hj
    have h6 := h5 j hjl
    simp only [hne, decide_false, Bool.false_or, hun, hg, Bool.or_eq_true, Bool.and_eq_true] at h6
    rcases h6 with h6 | ⟨h6, h7⟩
    · exact .inl h6
    · right
      refine ⟨h6, ?_⟩
      rcases h7 with (((h7 | h7) | h7) | h7) | h7
      · exact .inl h7
      · exact .inr (.inl h7)
      · exact .inr (.inr (.inl h7))
      · exact .inr (.inr (.inr (.inl h7)))
      · refine .inr (.inr (.inr (.inr ?_)))
        unfold diffBlk at h7
        split at h7
        · rename_i t a tx x y ho1 ho2
          simp only [Bool.and_eq_true] at h7
          obtain ⟨h8, h9⟩ := h7
          split at h8
          · rename_i b o b' o' he1 he2
            refine ⟨t, a, tx, x, y, b, o, b', o', ho1, ho2, he1, he2, by simpa using h8, fun s hs k ok hk => ?_⟩
            subst hs
            simp only [List.all_eq_true, List.mem_range, len'_eq, Array.length_toList, Bool.and_eq_true, Bool.not_eq_true', Bool.or_eq_true] at h9
            have hg2 : get? ops.toList k = some ok := by rw [get?_eq]; simpa using hk
            have := h9 k (Array.getElem?_eq_some_iff.1 hk).1
            refine ⟨this.1, fun hun => ?_⟩
            simpa [hun, hg2] using this.2
          · cases h8
        · cases h7

theorem pendOf_take {L : Array Bool} {i : Nat} (hal : allocOf P ops.toList i = none) (hn : needs P ops.toList i = []) (a : Nat) : pendOf P ops.toList (L.setIfInBounds i true) a = pendOf P ops.toList L a := by
  unfold pendOf
  by_cases e : a = i
  · subst e; simp [isAlloc, hal]
  · rw [getD_set_ne false (Ne.symm e)]
    congr 2
    rw [Bool.eq_iff_iff]
    simp only [List.any_eq_true, Bool.and_eq_true]
    constructor
    · rintro ⟨k, hk, h1, h2⟩
      by_cases e2 : k = i
      · subst e2; rw [hn] at h2; cases h2
      · rw [getD_set_ne false (Ne.symm e2)] at h1; exact ⟨k, hk, h1, h2⟩
    · rintro ⟨k, hk, h1, h2⟩
      exact ⟨k, hk, getD_set_true h1, h2⟩
theorem adoptL_put {L L' : Array Bool} {d : Option Nat} {v : AV} : ∀ (l : List Nat), (∀ a ∈ l, pendOf P ops.toList L' a = pendOf P ops.toList L a) → (∀ a ∈ l, ∀ e t z, allocOf P ops.toList a = some (e, t, z) → d ≠ some e) → ∀ (env : Env) (h : Heap),
    adoptL P ops.toList L' l (putD env d v) h = (putD (adoptL P ops.toList L l env h).1 d v, (adoptL P ops.toList L l env h).2)
  | [], _, _, _, _ => rfl
  | a :: l, hp, hd, env, h => by
    unfold adoptL
    rw [hp a (by simp)]
    have hp' : ∀ a ∈ l, pendOf P ops.toList L' a = pendOf P ops.toList L a := fun b hb => hp b (by simp [hb])
    have hd' : ∀ a ∈ l, ∀ e t z, allocOf P ops.toList a = some (e, t, z) → d ≠ some e := fun b hb => hd b (by simp [hb])
    split
    · cases ha : allocOf P ops.toList a with
      | none => exact adoptL_put l hp' hd' env h
      | some etz =>
        obtain ⟨e, t, z⟩ := etz
        simp only
        have : AM.set (putD env d v) e (.v (.one (.ptr (len' h) 0))) = putD (AM.set env e (.v (.one (.ptr (len' h) 0)))) d v := by
          cases d with
          | none => rfl
          | some d => exact set_comm' (fun he => hd a (by simp) e t z ha (by rw [he]))
        rw [this]
        exact adoptL_put l hp' hd' _ _
    · exact adoptL_put l hp' hd' env h
theorem adoptL_ev {L : Array Bool} {x : Operand} (hx : ∀ s, x = .tmp s → ∀ a e t z, allocOf P ops.toList a = some (e, t, z) → e ≠ s) : ∀ (l : List Nat) (env : Env) (h : Heap), ev (adoptL P ops.toList L l env h).1 x = ev env x
  | [], _, _ => rfl
  | a :: l, env, h => by
    unfold adoptL
    split
    · cases ha : allocOf P ops.toList a with
      | none => exact adoptL_ev hx l env h
      | some etz =>
        obtain ⟨e, t, z⟩ := etz
        simp only
        rw [adoptL_ev hx l _ _]
        exact ev_put (d := some e) (fun s hs he => hx s hs a e t z ha (Option.some.inj he))
    · exact adoptL_ev hx l env h
theorem adoptL_heap {L : Array Bool} : ∀ (l : List Nat) (env : Env) (h : Heap) (b : Nat) x, get? h b = some x → get? (adoptL P ops.toList L l env h).2 b = some x
  | [], _, _, _, _, hb => hb
  | a :: l, env, h, b, x, hb => by
    unfold adoptL
    split
    · cases ha : allocOf P ops.toList a with
      | none => exact adoptL_heap l env h b x hb
      | some etz =>
        obtain ⟨e, t, z⟩ := etz
        simp only
        refine adoptL_heap l _ _ b x ?_
        rw [get?_eq] at hb ⊢
        rw [List.getElem?_append_left (List.getElem?_eq_some_iff.1 hb).1]
        exact hb
    · exact adoptL_heap l env h b x hb

theorem qval_load_some {env : Env} {h : Heap} {t : Nat} {a : Operand} {av : AV} (hg : (qval P S env h (.load t a)).gives av) : ∃ b x, ablk (ev env a) = some b ∧ get? h b = some x := by
  have hg : (qop0 P env h (.load t a)).gives av := by
    have hg' : (orElse (qop0 P env h (.load t a)) .fail).gives av := hg
    cases hr : qop0 P env h (.load t a) with
    | fail => rw [hr] at hg'; exact (gives_fail hg').elim
    | ok v => rw [hr] at hg'; exact hg'
    | iff p v => rw [hr] at hg'; exact hg'
  simp only [qop0] at hg
  split at hg
  · rename_i b off he
    obtain ⟨p, hp, _⟩ := gives_ofOpt hg
    unfold loadV at hp
    split at hp
    · rename_i T cs hgb; exact ⟨b, _, by rw [he]; rfl, hgb⟩
    · rename_i T z n cs hgb; exact ⟨b, _, by rw [he]; rfl, hgb⟩
    · cases hp
  · rename_i b z i s he
    unfold loadE at hg
    split at hg
    · rename_i T C xs hgb; exact ⟨b, _, by rw [he]; rfl, hgb⟩
    · exact (gives_fail hg).elim
  · rename_i b z i s he
    unfold loadR at hg
    split at hg
    · rename_i T C xs hgb; exact ⟨b, _, by rw [he]; rfl, hgb⟩
    · exact (gives_fail hg).elim
  · exact (gives_fail hg).elim

theorem apart_spec {oi oj : Oper} (h : apartB oi oj = true) : (∀ t, oi.dst = some t → t ∉ tmpsOf oj.op) ∧ (∀ t, oi.dst = some t → oj.dst ≠ some t) ∧ (∀ t, oj.dst = some t → t ∉ tmpsOf oi.op) := by
  unfold apartB at h
  rw [Bool.and_eq_true] at h
  obtain ⟨h1, h2⟩ := h
  refine ⟨fun t ht => ?_, fun t ht => ?_, fun t ht => ?_⟩
  · simp [ht] at h1; exact h1.1
  · simp [ht] at h1; exact h1.2
  · simp [ht] at h2; exact h2

theorem listed_in {L : Array Bool} {j : Nat} (h : (L.setIfInBounds j true).getD j true = false) : False := by
  rcases Nat.lt_or_ge j L.size with hl | hl
  · simp [hl] at h
  · simp [Array.getElem?_eq_none (by simpa using hl : (L.setIfInBounds j true).size ≤ j)] at h

theorem TakeC.next {L : Array Bool} {env env2 : Env} {i j : Nat} {oi : Oper} (hT : TakeC P S ops L env i oi)
    (hev : ∀ t a, oi.op = .load t a → ev env2 a = ev env a) (hst : ∀ x, (∀ s, x = .tmp s → ∀ (k : Nat) ok, ops[k]? = some ok → slotOfAlloc P ops.toList k s = false ∧ (L.getD k true = false → ok.dst ≠ some s)) → ev env2 x = ev env x) :
    TakeC P S ops (L.setIfInBounds j true) env2 i oi := by
  have back : ∀ {k : Nat}, (L.setIfInBounds j true).getD k true = false → k ≠ j ∧ L.getD k true = false := fun {k} hk => by
    have hkj : k ≠ j := fun e => by subst e; exact listed_in hk
    rw [getD_set_ne true (Ne.symm hkj)] at hk
    exact ⟨hkj, hk⟩
  refine ⟨hT.guard, hT.quiet, hT.needs, hT.dst, hT.tmps, fun k ok hk hne hun => ?_⟩
  obtain ⟨hkj, hun'⟩ := back hun
  rcases hT.others k ok hk hne hun' with h | ⟨h1, h2⟩
  · exact .inl h
  · refine .inr ⟨h1, ?_⟩
    rcases h2 with h2 | h2 | h2 | h2 | ⟨t, a, tx, x, y, b, o, b', o', g1, g2, g3, g4, g5, g6⟩
    · exact .inl h2
    · exact .inr (.inl h2)
    · exact .inr (.inr (.inl h2))
    · exact .inr (.inr (.inr (.inl h2)))
    · refine .inr (.inr (.inr (.inr ⟨t, a, tx, x, y, b, o, b', o', g1, g2, by rw [hev t a g1]; exact g3, by rw [hst x g6]; exact g4, g5, fun s hs m om hm => ?_⟩)))
      have := g6 s hs m om hm
      exact ⟨this.1, fun hum => this.2 (back hum).2⟩

theorem AA_take [Glob] (hM : SpecMono S) {i : Nat} {oi : Oper} (hi : ops[i]? = some oi) (hal : allocOf P ops.toList i = none) : ∀ (f : Nat) (L : Array Bool) (env : Env) (h : Heap) (av : AV), Closed ops L → i ∈ Region.ready .any ops L → TakeC P S ops L env i oi →
    (qval P S env h oi.op).gives av → (∃ n, n ≤ N ∧ ∀ env h (K : KV), kOR (qval P S env h oi.op) (fun v => K v h) → exec1 P S n oi.op env h K) → AA P S N ops D f (L.setIfInBounds i true) (putD env oi.dst av) h → AA P S N ops D (f + 1) L env h := by
  intro f
  induction f with
  | zero =>
    intro L env h av hc hr hT hg hfuel hA
    refine ⟨fun h0 => (by rw [h0] at hr; cases hr), fun j hj => ?_⟩
    by_cases hji : j = i
    · subst hji
      obtain ⟨n, hn, hx⟩ := hfuel
      have hgi : get? ops.toList j = some oi := by rw [get?_eq]; simpa using hi
      unfold stepJ
      simp only [hgi, hal]
      refine ⟨hT.guard, n, hn, ?_⟩
      rw [hT.needs]
      refine hx _ _ _ ?_
      rcases hg with hg | ⟨p, hg, hp⟩
      · simp only [adoptL, hg]; exact hA
      · simp only [adoptL, hg]; exact ⟨hp, hA⟩
    · have := ready_mono hj hji
      rw [hA.1] at this
      cases this
  | succ f ih =>
    intro L env h av hc hr hT hg hfuel hA
    have hun := (mem_ready.1 hr).1
    refine ⟨fun h0 => (by rw [h0] at hr; cases hr), fun j hj => ?_⟩
    by_cases hji : j = i
    · subst hji
      obtain ⟨n, hn, hx⟩ := hfuel
      have hgi : get? ops.toList j = some oi := by rw [get?_eq]; simpa using hi
      unfold stepJ
      simp only [hgi, hal]
      refine ⟨hT.guard, n, hn, ?_⟩
      rw [hT.needs]
      refine hx _ _ _ ?_
      rcases hg with hg | ⟨p, hg, hp⟩
      · simp only [adoptL, hg]; exact hA
      · simp only [adoptL, hg]; exact ⟨hp, hA⟩
    · obtain ⟨hjun, oj, hoj, hjdeps⟩ := mem_ready.1 hj
      have hgj : get? ops.toList j = some oj := by rw [get?_eq]; simpa using hoj
      have hstep := hA.2 j (ready_mono hj hji)
      have hc' := hc.set hj
      have hr' : i ∈ Region.ready .any ops (L.setIfInBounds j true) := ready_mono hr (Ne.symm hji)
      rcases hT.others j oj hoj hji hjun with hanc | ⟨hap, hcompat⟩
      · rw [not_anc hc hj hun] at hanc; cases hanc
      obtain ⟨ap1, ap2, ap3⟩ := apart_spec hap
      unfold stepJ at hstep ⊢
      simp only [hgj] at hstep ⊢
      cases halj : allocOf P ops.toList j with
      | some dtz =>
        obtain ⟨d, t, z⟩ := dtz
        simp only [halj] at hstep ⊢
        obtain ⟨o', _, _, ho', _, hdst, _⟩ := allocOf_spec halj
        rw [hoj] at ho'
        cases ho'
        refine ⟨by have := hstep.1; cases hd : oi.dst <;> simp [hd, putD, set_eq] at this <;> exact this, ?_⟩
        have hagree : Agree env (AM.set env d AV.any) oi.op := agree_put (d := some d) (fun t ht => by rw [← Option.some.inj ht]; exact hT.tmps j d _ z halj)
        refine ih _ _ h av hc' hr' (hT.next (fun t a ho => hagree a (by rw [ho]; simp [Op.operands])) (fun x hx => ev_put (d := some d) (fun s hs he => ?_))) (by rw [qval_congr hagree]; exact hg) hfuel ?_
        · have := (hx s hs j oj hoj).1
          rw [← Option.some.inj he] at this
          simp [slotOfAlloc, halj] at this
        · have e : putD (AM.set env d AV.any) oi.dst av = AM.set (putD env oi.dst av) d AV.any := by
            have := putD_comm (env := env) (d := some d) (e := oi.dst) (x := AV.any) (y := av) (fun t ht he => by rw [← Option.some.inj ht] at he; exact hT.dst j d _ z halj he)
            exact this
          rw [e, Array.setIfInBounds_comm _ _ hji]
          exact hstep.2
      | none =>
        simp only [halj] at hstep ⊢
        obtain ⟨hgd, m, hm, hx⟩ := hstep
        refine ⟨hgd, m, hm, ?_⟩
        rw [adoptL_put _ (fun a _ => pendOf_take hal hT.needs a) (fun a _ e t z ha => hT.dst a e t z ha)] at hx
        generalize hst : adoptL P ops.toList L (needs P ops.toList j) env h = st at hx ⊢
        have hev1 : ∀ x, (∀ s, x = .tmp s → ∀ a e t z, allocOf P ops.toList a = some (e, t, z) → e ≠ s) → ev st.1 x = ev env x := fun x hx => by rw [← hst]; exact adoptL_ev hx _ _ _
        have hag1 : Agree env st.1 oi.op := fun x hxm => hev1 x (fun s hs a e t z ha he => by subst hs; subst he; exact hT.tmps a e t z ha (mem_tmpsOf hxm))
        rw [exec1_congr (agree_put ap1)] at hx
        have hagJ : ∀ v, Agree st.1 (putD st.1 oj.dst v) oi.op := fun v => agree_put ap3
        have fin : ∀ v h2, qval P S st.1 h2 oi.op = qval P S env h oi.op → AA P S N ops D f ((L.setIfInBounds i true).setIfInBounds j true) (putD (putD st.1 oi.dst av) oj.dst v) h2 → AA P S N ops D (f + 1) (L.setIfInBounds j true) (putD st.1 oj.dst v) h2 := fun v h2 hq hk => by
          refine ih _ _ h2 av hc' hr' (hT.next (fun t a ho => (hag1.trans (hagJ v)) a (by rw [ho]; simp [Op.operands])) (fun x hx => ?_)) (by rw [qval_congr (hagJ v), hq]; exact hg) hfuel ?_
          · rw [ev_put (fun s hs => (hx s hs j oj hoj).2 hjun)]
            exact hev1 x (fun s hs a e t z ha he => by
              obtain ⟨oa, _, _, hoa, _⟩ := allocOf_spec ha
              have := (hx s hs a oa hoa).1
              simp [slotOfAlloc, ha, he] at this)
          · rw [putD_comm (env := st.1) (d := oj.dst) (e := oi.dst) (fun t ht he => ap2 t he ht), Array.setIfInBounds_comm _ _ hji]
            exact hk
        -- what j may have done to what i reads
        have hq1 : insens oi.op = true ∨ pureCall S oi.op = true → ∀ h2, qval P S st.1 h2 oi.op = qval P S env h oi.op := fun hh h2 => by
          rw [qval_congr hag1]
          rcases hh with hh | hh
          · exact qval_insens hh
          · exact qval_pure hh
        by_cases hins : insens oi.op = true ∨ pureCall S oi.op = true
        · exact (all_mono hM m).2.2.2 _ _ _ _ _ (fun v h2 hk => fin v h2 (hq1 hins h2) hk) hx
        · have hload : isLoad oi.op = true := by
            have := hT.quiet
            unfold quietB at this
            simp only [Bool.or_eq_true] at this
            rcases this with (h1 | h1) | h1
            · exact absurd (.inl h1) hins
            · exact h1
            · exact absurd (.inr h1) hins
          obtain ⟨t, a, hoa⟩ : ∃ t a, oi.op = .load t a := by
            cases ho : oi.op <;> rw [ho] at hload <;> first | (cases hload; done) | exact ⟨_, _, rfl⟩
          obtain ⟨b, x0, he0, hb0⟩ := qval_load_some (by rw [← hoa]; exact hg)
          have hb1 : get? st.2 b = some x0 := by rw [← hst]; exact adoptL_heap _ _ _ _ _ hb0
          have hsame : ∀ h2, get? h2 b = get? st.2 b → qval P S st.1 h2 oi.op = qval P S env h oi.op := fun h2 hb2 => by
            rw [qval_congr hag1, hoa]
            refine qval_load fun b1 he1 => ?_
            rw [he0] at he1
            injection he1 with he1
            subst he1
            rw [hb2, hb1, hb0]
          rcases hcompat with h1 | h1 | h1 | h1 | ⟨t', a', tx, x, y, b1, o1, b', o', g1, g2, g3, g4, g5, g6⟩
          · exact absurd (.inl h1) hins
          · exact absurd (.inr h1) hins
          · exact (all_mono hM m).2.2.2 _ _ _ _ _ (fun v h2 ⟨hh, hk⟩ => fin v h2 (hsame h2 (by rw [hh])) hk) (exec1_quiet h1 hx)
          · simp [isAlloc, halj] at h1
          · rw [g2] at hx ⊢
            have hxev : ev st.1 x = .v (.one (.ptr b' o')) := by
              rw [← g4]
              exact hev1 x (fun s hs a e t z ha he => by
                obtain ⟨oa, _, _, hoa, _⟩ := allocOf_spec ha
                have := (g6 s hs a oa hoa).1
                simp [slotOfAlloc, ha, he] at this)
            rw [hoa] at g1
            injection g1 with _ g1
            subst g1
            have g3' : ablk (ev env a) = some b1 := by rw [g3]; rfl
            rw [he0] at g3'
            injection g3' with g3'
            subst g3'
            exact (all_mono hM m).2.2.2 _ _ _ _ _ (fun v h2 ⟨hh, hk⟩ => fin v h2 (hsame h2 (hh b' o' b hxev g5)) hk) (exec1_store hx)
end
end Go.AM

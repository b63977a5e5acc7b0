import Derived.Test.YtcinopdklobldaaGreatDoorAMMem
/- A state seen as another one; what a call made for itself is dropped. -/
namespace Go.AM
open Go
section
variable {r : List (Nat × Nat)} {pl pl' : List Pl}

theorem look_mem : ∀ {r : List (Nat × Nat)} {x y : Nat}, look r x = some y → (x, y) ∈ r
  | [], _, _, h => by simp [look] at h
  | (a, b) :: l, x, y, h => by
    simp only [look] at h
    split at h
    · rename_i e; subst e; simp at h; subst h; simp
    · exact List.mem_cons_of_mem _ (look_mem h)
theorem injR_mem : ∀ {r : List (Nat × Nat)}, injR r = true → ∀ {x x' y : Nat}, (x, y) ∈ r → (x', y) ∈ r → x = x'
  | [], _, _, _, _, h, _ => by simp at h
  | (a, b) :: l, hi, x, x', y, h, h' => by
    simp only [injR, Bool.and_eq_true, List.all_eq_true, decide_eq_true_eq] at hi
    rcases List.mem_cons.1 h with h | h <;> rcases List.mem_cons.1 h' with h' | h'
    · injection h with h1 h2; injection h' with h3 h4; rw [h1, h3]
    · injection h with h1 h2; exact absurd h2.symm (by have := hi.1 _ h'; exact fun e => this (by rw [e]))
    · injection h' with h1 h2; exact absurd h2.symm (by have := hi.1 _ h; exact fun e => this (by rw [e]))
    · exact injR_mem hi.2 h h'

/-- the places follow the renaming -/
structure Follows (r : List (Nat × Nat)) (pl pl' : List Pl) : Prop where
  to : ∀ b' b p, look r b' = some b → pl[b]? = some p → pl'[b']? = some p
  nil : ∀ b', look r b' = some (1000000 + b') → ∃ p, pl'[b']? = some p ∧ p.nil = true

theorem addrOf_follows (hr : Follows r pl pl') {b' b o : Nat} (hl : look r b' = some b) {a : Addr} (h : addrOf pl b o = some a) : addrOf pl' b' o = some a := by
  unfold addrOf at *
  cases hp : pl[b]? with
  | none => simp [hp] at h
  | some p => rw [hr.to b' b p hl hp]; simpa [hp] using h
theorem eqC_follows (hr : Follows r pl pl') : ∀ {l' l : List (Nat × Nat)} {vs : List Value}, eqC r l' l → capVals pl l = some vs → capVals pl' l' = some vs
  | [], [], _, _, h => h
  | [], _ :: _, _, he, _ => he.elim
  | (_, _) :: _, [], _, he, _ => he.elim
  | (b', o') :: l', (b, o) :: l, vs, he, h => by
    simp only [eqC] at he
    split at he
    · rename_i hc
      obtain ⟨h1, rfl⟩ := hc
      simp only [capVals] at h ⊢
      cases ha : addrOf pl b o' with
      | none => simp [ha] at h
      | some ad =>
        cases hv : capVals pl l with
        | none => simp [ha, hv] at h
        | some us =>
          simp [ha, hv] at h
          rw [addrOf_follows hr h1 ha, eqC_follows hr he hv]
          simp [h]
    · exact he.elim
theorem SV.eqs_R (hr : Follows r pl pl') {s' s : SV} (he : s'.eqs r s) {v : Value} (h : s.R pl v) : s'.R pl' v := by
  unfold SV.eqs at he
  split at he
  · exact .inl rfl
  all_goals first
    | exact he.elim
    | (rcases h with h | h <;> first | (cases h; done) | skip)
  all_goals right
  all_goals simp only [SV.val] at h ⊢
  any_goals (exact h)
  any_goals (subst he; exact h)
  any_goals (split at he <;> first | exact he.elim | skip)
  any_goals (rename_i hc; obtain ⟨rfl, rfl⟩ := hc; exact h)
  any_goals (rename_i hc; subst hc; first | exact h | (subst he; exact h))
  any_goals (rename_i hc; obtain ⟨rfl, rfl⟩ := hc; subst he; exact h)
  · rename_i b' o' b o hc
    obtain ⟨h1, rfl⟩ := hc
    cases ha : addrOf pl b o' with
    | none => simp [ha] at h
    | some ad => rw [addrOf_follows hr h1 ha]; simpa [ha] using h
  · rename_i b' o' n' c' b o n c hc
    obtain ⟨h1, rfl, rfl, rfl⟩ := hc
    cases ha : addrOf pl b o' with
    | none => simp [ha] at h
    | some ad => rw [addrOf_follows hr h1 ha]; simpa [ha] using h
  · rename_i b' z' s' n' l' b z s n l hc
    obtain ⟨h1, rfl⟩ := hc
    obtain ⟨rfl, rfl⟩ := he
    unfold owVal at *
    cases hp : pl[b]? with
    | none => simp [hp] at h
    | some p => rw [hr.to b' b p h1 hp]; simpa [hp] using h
  · rename_i b' z' s' n' l' hc
    obtain ⟨rfl, rfl⟩ := he
    obtain ⟨p, h1, h2⟩ := hr.nil b' hc
    simp [owVal, h1, h2, ← h]
  · rename_i b' z' i' o' b z i o hc
    obtain ⟨h1, rfl⟩ := hc
    obtain ⟨rfl, rfl⟩ := he
    cases ha : addrOf pl b (i' * z' + o') with
    | none => simp [ha] at h
    | some ad => rw [addrOf_follows hr h1 ha]; simpa [ha] using h
  · rename_i f' c' f c hc
    subst hc
    cases ha : capVals pl c with
    | none => simp [ha] at h
    | some ad => rw [eqC_follows hr he ha]; simpa [ha] using h
  · rename_i t' b' o' t b o hc
    obtain ⟨rfl, h1, rfl⟩ := hc
    cases ha : addrOf pl b o' with
    | none => simp [ha] at h
    | some ad => rw [addrOf_follows hr h1 ha]; simpa [ha] using h
theorem eqsL_R (hr : Follows r pl pl') : ∀ {l' l : List SV} {vs : List Value}, eqsL r l' l → RL pl l vs → RL pl' l' vs
  | [], [], [], _, _ => trivial
  | [], [], _ :: _, _, h => h.elim
  | [], _ :: _, _, he, _ => he.elim
  | _ :: _, [], _, he, _ => he.elim
  | _ :: _, _ :: _, [], _, h => h.elim
  | _ :: _, _ :: _, _ :: _, he, h => by
    have he := andT_and SV.triv_eqs he
    exact ⟨SV.eqs_R hr he.1 h.1, eqsL_R hr he.2 h.2⟩
theorem PV.eqs_R (hr : Follows r pl pl') {s' s : PV} (he : s'.eqs r s) {v : Value} (h : s.R pl v) : s'.R pl' v := by
  unfold PV.eqs at he
  split at he
  · exact Or.inl rfl
  · exact SV.eqs_R hr he h
  · obtain ⟨vs, rfl, h1⟩ := h
    exact ⟨vs, rfl, eqsL_R hr he h1⟩
  · exact he.elim
theorem eqsP_R (hr : Follows r pl pl') : ∀ {l' l : List PV} {vs : List Value}, eqsP r l' l → PL pl l vs → PL pl' l' vs
  | [], [], [], _, _ => trivial
  | [], [], _ :: _, _, h => h.elim
  | [], _ :: _, _, he, _ => he.elim
  | _ :: _, [], _, he, _ => he.elim
  | _ :: _, _ :: _, [], _, h => h.elim
  | _ :: _, _ :: _, _ :: _, he, h => by
    have he := andT_and PV.triv_eqs he
    exact ⟨PV.eqs_R hr he.1 h.1, eqsP_R hr he.2 h.2⟩
theorem AV.eqs_R (hr : Follows r pl pl') {s' s : AV} (he : s'.eqs r s) {v : Value} (h : s.R pl v) : s'.R pl' v := by
  unfold AV.eqs at he
  split at he
  · exact Or.inl rfl
  · exact PV.eqs_R hr he h
  · obtain ⟨vs, rfl, h1⟩ := h
    exact ⟨vs, rfl, eqsP_R hr he h1⟩
  · exact he.elim
theorem eqsE_len : ∀ {l' l : Env}, eqsE r l' l → l'.length = l.length
  | [], [], _ => rfl
  | [], _ :: _, he => he.elim
  | _ :: _, [], he => he.elim
  | _ :: _, _ :: _, he => by
    have he := andT_and AV.triv_eqs he
    simp [eqsE_len he.2]
theorem eqsE_get (hr : Follows r pl pl') : ∀ {l' l : Env} {f : Nat → Value}, eqsE r l' l → (∀ t, (getD l t AV.any).R pl (f t)) → ∀ t, (getD l' t AV.any).R pl' (f t)
  | [], [], _, _, _, t => by simp [getD]; exact any_R pl' _
  | [], _ :: _, _, he, _, _ => he.elim
  | _ :: _, [], _, he, _, _ => he.elim
  | _ :: _, _ :: _, _, he, h, 0 => by
    have he := andT_and AV.triv_eqs he
    exact AV.eqs_R hr he.1 (h 0)
  | _ :: _, _ :: _, f, he, h, t + 1 => by
    have he := andT_and AV.triv_eqs he
    simpa [getD] using eqsE_get hr (f := fun t => f (t + 1)) he.2 (fun t => by simpa [getD] using h (t + 1)) t

theorem eqsH_get {h : Heap} : ∀ {h' : Heap} {n : Nat}, eqsH r h n h' → ∀ (b' : Nat) x', h'[b']? = some x' → x' = .gone ∨ (∃ b x, look r (n + b') = some b ∧ h[b]? = some x ∧ x'.eqs r x) ∨
    ((∀ b, look r (n + b') = some b → h[b]? = none) ∧ ∃ T C, x' = .own T C [])
  | [], _, _, _, _, hx => by simp at hx
  | y' :: l, n, he, 0, x', hx => by
    simp at hx
    subst hx
    have fin : (∀ b, look r n = some b → h[b]? = none) → emptyB y' → (∀ b, look r (n + 0) = some b → h[b]? = none) ∧ ∃ T C, y' = .own T C [] := fun h2 h1 => by
      cases y' with
      | own T C xs => exact ⟨h2, T, C, by have : xs = [] := List.eq_nil_of_length_eq_zero h1; rw [this]⟩
      | _ => exact h1.elim
    by_cases hg : y' = .gone
    · exact .inl hg
    · right
      have h1 : eqsAt r h n y' := by
        have h1 := he.1
        cases y' <;> first | exact absurd rfl hg | exact h1
      unfold eqsAt at h1
      cases hl : look r n with
      | none =>
        rw [hl] at h1
        exact .inr ⟨fun b hb => by simp at hb, (fin (by rw [hl]; intro b hb; cases hb) h1).2⟩
      | some b =>
        rw [hl] at h1
        cases hg2 : get? h b with
        | none =>
          simp only [hg2] at h1
          rw [get?_eq] at hg2
          exact .inr ⟨fun b2 hb => by cases hb; exact hg2, (fin (by rw [hl]; intro b2 hb; cases hb; exact hg2) h1).2⟩
        | some x => simp only [hg2] at h1; rw [get?_eq] at hg2; exact .inl ⟨b, x, rfl, hg2, h1⟩
  | y' :: l, n, he, b' + 1, x', hx => by
    have := eqsH_get he.2 b' x' (by simpa using hx)
    rw [show n + (b' + 1) = n + 1 + b' by omega]
    exact this

def plNew (r : List (Nat × Nat)) (pl : List Pl) (n : Nat) : List Pl := (List.range n).map fun b' => match look r b' with | some b => (pl[b]?).getD ⟨0, true, 0⟩ | none => ⟨0, true, 0⟩
theorem plNew_get {n b' b : Nat} (hn : b' < n) (hl : look r b' = some b) : (plNew r pl n)[b']? = some ((pl[b]?).getD ⟨0, true, 0⟩) := by
  simp [plNew, hn, hl]
theorem plNew_none {n b' : Nat} (hn : b' < n) (hl : look r b' = none) : (plNew r pl n)[b']? = some ⟨0, true, 0⟩ := by
  simp [plNew, hn, hl]
theorem keepsR_look : ∀ {n : Nat}, keepsR r n = true → ∀ b, b < n → look r b = some b
  | 0, _, b, hb => by omega
  | n + 1, hk, b, hb => by
    simp only [keepsR, Bool.and_eq_true, decide_eq_true_eq] at hk
    by_cases e : b = n
    · subst e; exact hk.1
    · exact keepsR_look hk.2 b (by omega)

theorem SV.R_of_low {pl pl' : List Pl} {s : SV} (hb : s.below 0 = true) {v : Value} (h : s.R pl v) : s.R pl' v := by
  rcases h with h | h
  · exact .inl h
  · right
    cases s <;> first | exact h | (simp [SV.below] at hb; done) | skip
    case fn f cap =>
      cases cap with
      | nil => exact h
      | cons x l => simp [SV.below] at hb
theorem RL_of_low {pl pl' : List Pl} : ∀ {l : List SV} {vs : List Value}, belowAll 0 l = true → RL pl l vs → RL pl' l vs
  | [], [], _, _ => trivial
  | [], _ :: _, _, h => h.elim
  | _ :: _, [], _, h => h.elim
  | _ :: _, _ :: _, hb, h => by
    simp only [belowAll, Bool.and_eq_true] at hb
    exact ⟨SV.R_of_low hb.1 h.1, RL_of_low hb.2 h.2⟩
theorem below_append {n : Nat} : ∀ {a b : List SV}, belowAll n a = true → belowAll n b = true → belowAll n (a ++ b) = true
  | [], _, _, hb => hb
  | s :: a, b, ha, hb => by
    simp only [belowAll, List.cons_append, Bool.and_eq_true] at ha ⊢
    exact ⟨ha.1, below_append ha.2 hb⟩
theorem flat_low {C : Codec} : ∀ (xs : List C.τ), belowAll 0 (flatC C xs) = true
  | [] => rfl
  | t :: xs => below_append (C.low_ok t 0) (flat_low xs)
variable {w0 : World} {Sx : Nat → Prop} {w : World}
theorem MatchBy_sound {q : Nat} {env env' : Env} {h h' : Heap} (hm : MatchBy q r env h env' h') (hR : HRel w0 Sx pl h w) {tmps : Array Value} (hE : EnvR pl env tmps) (hq : q ≤ pl.length) :
    ∃ pl', HRel w0 Sx pl' h' w ∧ EnvR pl' env' tmps ∧ ∀ b, b < q → pl'[b]? = pl[b]? := by
  unfold MatchBy at hm
  split at hm
  · rename_i hc
    simp only [Bool.and_eq_true, List.all_eq_true, decide_eq_true_eq] at hc
    obtain ⟨⟨⟨hinj, hkeep⟩, hdom⟩, hbig⟩ := hc
    obtain ⟨hmE, hmH⟩ := hm
    have hlenh : pl.length = h.length := hR.len
    have hdom' : ∀ {b' b}, look r b' = some b → b' < h'.length := fun hl => by have := hdom _ (look_mem hl); rwa [len'_eq] at this
    have hF : Follows r pl (plNew r pl h'.length) := by
      refine ⟨fun b' b p hl hp => by rw [plNew_get (hdom' hl) hl, hp]; rfl, fun b' hl => ⟨_, plNew_get (hdom' hl) hl, ?_⟩⟩
      rw [List.getElem?_eq_none (by rw [len'_eq] at hbig; omega)]
      rfl
    have key : ∀ (b' : Nat) x' p', h'[b']? = some x' → (plNew r pl h'.length)[b']? = some p' → x' = .gone ∨ (∃ b x, look r b' = some b ∧ h[b]? = some x ∧ x'.eqs r x ∧ pl[b]? = some p' ∧ (x'.alive p' = true → x.alive p' = true)) ∨ (p' = ⟨0, true, 0⟩ ∧ ∃ T C, x' = .own T C []) := fun b' x' p' hx hp => by
      rcases eqsH_get hmH b' x' hx with h1 | ⟨b, x, h1, h2, h3⟩ | ⟨h1, T, C, h2⟩
      · exact .inl h1
      · right; left
        rw [Nat.zero_add] at h1
        have hlt : b < pl.length := by rw [hR.len]; exact (List.getElem?_eq_some_iff.1 h2).1
        have h4 := hF.to b' b _ h1 (List.getElem?_eq_getElem hlt)
        rw [hp] at h4
        refine ⟨b, x, h1, h2, h3, by rw [Option.some.inj h4]; exact List.getElem?_eq_getElem hlt, fun ha => ?_⟩
        cases x' <;> cases x <;> first | exact h3.elim | exact ha | (cases ha; done) | skip
      · right; right
        rw [Nat.zero_add] at h1
        have hlt' : b' < h'.length := (List.getElem?_eq_some_iff.1 hx).1
        refine ⟨?_, T, C, h2⟩
        cases hl : look r b' with
        | none => rw [plNew_none hlt' hl] at hp; exact (Option.some.inj hp).symm
        | some b =>
          rw [plNew_get hlt' hl] at hp
          have := h1 b hl
          have h5 : h.length ≤ b := List.getElem?_eq_none_iff.1 this
          rw [List.getElem?_eq_none (by omega)] at hp
          exact (Option.some.inj hp).symm
    have keya : ∀ (b' : Nat) x' p', h'[b']? = some x' → x'.alive p' = true → (plNew r pl h'.length)[b']? = some p' → ∃ b x, look r b' = some b ∧ h[b]? = some x ∧ x'.eqs r x ∧ pl[b]? = some p' ∧ x.alive p' = true := fun b' x' p' hx ha hp => by
      rcases key b' x' p' hx hp with h1 | ⟨b, x, h1, h2, h3, h4, h5⟩ | ⟨h1, T, C, h2⟩
      · rw [h1] at ha; cases ha
      · exact ⟨b, x, h1, h2, h3, h4, h5 ha⟩
      · rw [h2, h1] at ha; cases ha
    refine ⟨plNew r pl h'.length, ⟨by simp [plNew], hR.fr, ?_, ?_, ?_, ?_⟩, ⟨by rw [eqsE_len hmE]; exact hE.1, eqsE_get hF hmE hE.2⟩, ?_⟩
    · intro b' x' p' hx hp
      rcases key b' x' p' hx hp with h1 | ⟨b, x, h1, h2, h3, h4, h5⟩ | ⟨h1, T, C, h2⟩
      · rw [h1]; trivial
      · have hb := hR.hb b _ p' h2 h4
        cases x' with
        | gone => trivial
        | row T cs =>
          cases x with
          | row T2 cs2 =>
            simp only [Blk.eqs] at h3
            split at h3
            · rename_i e; subst e
              obtain ⟨vs, g1, g2⟩ := hb
              exact ⟨vs, eqsL_R hF h3 g1, g2⟩
            · exact h3.elim
          | _ => exact h3.elim
        | ownL T z n cs =>
          cases x with
          | ownL T2 z2 n2 cs2 =>
            simp only [Blk.eqs] at h3
            split at h3
            · rename_i e; obtain ⟨rfl, rfl⟩ := e
              obtain ⟨rfl, h3⟩ := h3
              obtain ⟨vs, g1, g2⟩ := hb
              exact ⟨vs, eqsL_R hF h3 g1, g2⟩
            · exact h3.elim
          | _ => exact h3.elim
        | mp es => cases x <;> exact h3.elim
        | own T C xs =>
          cases x with
          | ownL T2 z2 n2 cs2 =>
            simp only [Blk.eqs] at h3
            split at h3
            · rename_i e; obtain ⟨rfl, rfl⟩ := e
              obtain ⟨hl, hf⟩ := h3
              obtain ⟨vs, g1, g2⟩ := hb
              refine ⟨vs, eqsL_R hF hf g1, ?_⟩
              rw [hl]; exact g2
            · exact h3.elim
          | own T2 C2 xs2 =>
            simp only [Blk.eqs] at h3
            split at h3
            · rename_i e; obtain ⟨rfl, e⟩ := e
              obtain ⟨hl, hf⟩ := h3
              obtain ⟨vs, g1, g2⟩ := hb
              refine ⟨vs, ?_, ?_⟩
              · rw [hf]
                exact RL_of_low (flat_low xs2) g1
              · rw [hl, e]; exact g2
            · exact h3.elim
          | _ => exact h3.elim
      · rw [h2]
        exact ⟨[], trivial, by rw [h1]; exact World.ownsRow_nil w 0 T C.esz⟩
    · intro b' p' x' hp hx ha
      obtain ⟨b, x, _, h2, _, h4, h5⟩ := keya b' x' p' hx ha hp
      exact hR.lt b p' x h4 h2 h5
    · intro b' p' x' hp hx ha
      obtain ⟨b, x, _, h2, _, h4, h5⟩ := keya b' x' p' hx ha hp
      exact hR.own b p' x h4 h2 h5
    · intro b' c' p' q' x' y' hp hq' hx hy ha hya e
      obtain ⟨b, x, h1, h2, _, h4, h5⟩ := keya b' x' p' hx ha hp
      obtain ⟨c, y, k1, k2, _, k4, k5⟩ := keya c' y' q' hy hya hq'
      have := hR.inj b c p' q' x y h4 k4 h2 k2 h5 k5 e
      subst this
      exact injR_mem hinj (look_mem h1) (look_mem k1)
    · intro b hb
      have hl := keepsR_look hkeep b hb
      rw [plNew_get (hdom' hl) hl, List.getElem?_eq_getElem (by omega : b < pl.length)]
      rfl
  · exact hm.elim

/- what a call made for itself is dropped -/
theorem addrOf_take {n b o : Nat} (hb : b < n) : addrOf (pl.take n) b o = addrOf pl b o := by
  unfold addrOf
  rw [List.getElem?_take_of_lt hb]
theorem capVals_take {n : Nat} : ∀ {l : List (Nat × Nat)}, l.all (fun x => decide (x.1 < n)) = true → capVals (pl.take n) l = capVals pl l
  | [], _ => rfl
  | (b, o) :: l, h => by
    simp only [List.all_cons, Bool.and_eq_true, decide_eq_true_eq] at h
    simp only [capVals, addrOf_take h.1, capVals_take h.2]
theorem SV.R_take {n : Nat} {s : SV} (hb : s.below n = true) {v : Value} (h : s.R pl v) : s.R (pl.take n) v := by
  rcases h with h | h
  · exact .inl h
  · right
    cases s <;> simp only [SV.val, SV.below, decide_eq_true_eq] at * <;> try exact h
    case ptr => rw [addrOf_take hb]; exact h
    case sl => rw [addrOf_take hb]; exact h
    case ifp => rw [addrOf_take hb]; exact h
    case fn => rw [capVals_take hb]; exact h
    case ow => unfold owVal at *; rw [List.getElem?_take_of_lt hb]; exact h
    case pe => rw [addrOf_take hb]; exact h
    case mp => rw [List.getElem?_take_of_lt hb]; exact h
theorem RL_take {n : Nat} : ∀ {l : List SV} {vs : List Value}, belowAll n l = true → RL pl l vs → RL (pl.take n) l vs
  | [], [], _, _ => trivial
  | [], _ :: _, _, h => h.elim
  | _ :: _, [], _, h => h.elim
  | _ :: _, _ :: _, hb, h => by
    simp only [belowAll, Bool.and_eq_true] at hb
    exact ⟨SV.R_take hb.1 h.1, RL_take hb.2 h.2⟩
theorem PV.R_take {n : Nat} {s : PV} (hb : s.below n = true) {v : Value} (h : s.R pl v) : s.R (pl.take n) v := by
  cases s with
  | one s => exact SV.R_take hb h
  | agg l => obtain ⟨vs, rfl, h1⟩ := h; exact ⟨vs, rfl, RL_take hb h1⟩
theorem PL_take {n : Nat} : ∀ {l : List PV} {vs : List Value}, belowPs n l = true → PL pl l vs → PL (pl.take n) l vs
  | [], [], _, _ => trivial
  | [], _ :: _, _, h => h.elim
  | _ :: _, [], _, h => h.elim
  | _ :: _, _ :: _, hb, h => by
    simp only [belowPs, Bool.and_eq_true] at hb
    exact ⟨PV.R_take hb.1 h.1, PL_take hb.2 h.2⟩
theorem AV.R_take {n : Nat} {s : AV} (hb : s.below n = true) {v : Value} (h : s.R pl v) : s.R (pl.take n) v := by
  cases s with
  | v s => exact PV.R_take hb h
  | tup l => obtain ⟨vs, rfl, h1⟩ := h; exact ⟨vs, rfl, PL_take hb h1⟩
theorem EntR_take {n : Nat} : ∀ {es : List (PV × PV)} {ms : List MapEntry}, belowEs n es = true → EntR pl es ms → EntR (pl.take n) es ms
  | [], [], _, _ => trivial
  | [], _ :: _, _, h => h.elim
  | _ :: _, [], _, h => h.elim
  | (k, v) :: es, _ :: _, hb, h => by
    simp only [belowEs, Bool.and_eq_true] at hb
    exact ⟨PV.R_take hb.1.1 h.1, PV.R_take hb.1.2 h.2.1, EntR_take hb.2 h.2.2⟩
theorem heapBelow_get {n : Nat} : ∀ {h : Heap}, heapBelow n h = true → ∀ (b : Nat) x, h[b]? = some x → x.below n = true
  | [], _, _, _, hx => by simp at hx
  | y :: l, hb, 0, x, hx => by simp only [heapBelow, Bool.and_eq_true] at hb; simp at hx; subst hx; exact hb.1
  | y :: l, hb, b + 1, x, hx => by simp only [heapBelow, Bool.and_eq_true] at hb; exact heapBelow_get hb.2 b x (by simpa using hx)
theorem HRel.take {h : Heap} (hR : HRel w0 Sx pl h w) {n : Nat} (hb : heapBelow n (h.take n) = true) : HRel w0 Sx (pl.take n) (h.take n) w := by
  have hp : ∀ {b : Nat} {p}, (pl.take n)[b]? = some p → pl[b]? = some p := fun {b p} hq => by
    rw [List.getElem?_take] at hq
    split at hq
    · exact hq
    · cases hq
  have hx : ∀ {b : Nat} {x}, (h.take n)[b]? = some x → h[b]? = some x := fun {b x} hq => by
    rw [List.getElem?_take] at hq
    split at hq
    · exact hq
    · cases hq
  refine ⟨by simp [hR.len], hR.fr, fun b x p hxx hpp => ?_, fun b p x hpp hxx ha => hR.lt b p x (hp hpp) (hx hxx) ha, fun b p x hpp hxx ha => hR.own b p x (hp hpp) (hx hxx) ha,
    fun b c p q x y h1 h2 h3 h4 h5 h6 e => hR.inj b c p q x y (hp h1) (hp h2) (hx h3) (hx h4) h5 h6 e⟩
  cases x with
  | gone => trivial
  | row T cs =>
    obtain ⟨vs, g1, g2⟩ := hR.hb b _ p (hx hxx) (hp hpp)
    exact ⟨vs, RL_take (heapBelow_get hb b _ hxx) g1, g2⟩
  | ownL T z m cs =>
    obtain ⟨vs, g1, g2⟩ := hR.hb b _ p (hx hxx) (hp hpp)
    exact ⟨vs, RL_take (heapBelow_get hb b _ hxx) g1, g2⟩
  | own T C xs =>
    obtain ⟨vs, g1, g2⟩ := hR.hb b _ p (hx hxx) (hp hpp)
    exact ⟨vs, RL_of_low (flat_low xs) g1, g2⟩
  | mp es =>
    obtain ⟨ms, clock, g1, g2⟩ := hR.hb b _ p (hx hxx) (hp hpp)
    exact ⟨ms, clock, EntR_take (heapBelow_get hb b _ hxx) g1, g2⟩
theorem PExt.take_eq {pl0 : List Pl} (hp : PExt pl0 pl) : pl.take pl0.length = pl0 := by
  apply List.ext_getElem?
  intro i
  by_cases hi : i < pl0.length
  · rw [List.getElem?_take_of_lt hi, hp i _ (List.getElem?_eq_getElem hi)]
    exact (List.getElem?_eq_getElem hi).symm
  · rw [List.getElem?_take, if_neg hi]
    exact (List.getElem?_eq_none (by omega)).symm
theorem trim_sound {h h0 : Heap} {pl0 : List Pl} (hl : pl0.length = h0.length) (hp : PExt pl0 pl) (hR : HRel w0 Sx pl h w) {av : AV} {v : Value} (hv : av.R pl v) :
    ∃ pl', PExt pl0 pl' ∧ HRel w0 Sx pl' (trim (len' h0) av h) w ∧ av.R pl' v := by
  unfold trim
  split
  · rename_i hc
    simp only [Bool.and_eq_true, len'_eq, takeN_eq] at hc ⊢
    refine ⟨pl.take h0.length, ?_, hR.take hc.2, AV.R_take hc.1 hv⟩
    rw [← hl, hp.take_eq]
    exact PExt.refl _
  · exact ⟨pl, hp, hR, hv⟩
end
end Go.AM

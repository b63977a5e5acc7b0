import Derived.Test.YtcinopdklobldaaGreatDoorAMMono
/- A region that draws its order, with new variables and stores among its operations: whatever order is drawn. -/
namespace Go.AM
open Go
section
variable {P : Program} {S : Sums} {N : Nat} {ops : Array Oper} {D : Env → Heap → Prop}

/-- operation j, wherever it comes up -/
def stepJ (P : Program) (S : Sums) (N : Nat) (ops : Array Oper) (L : Array Bool) (j : Nat) (env : Env) (h : Heap) (K : Env → Heap → Prop) : Prop :=
  match get? ops.toList j with
  | none => False
  | some o => match allocOf P ops.toList j with
    | some (d, _, _) => d < env.length ∧ K (set env d AV.any) h
    | none => o.guard = none ∧ ∃ m, m ≤ N ∧ exec1 P S m o.op (adoptL P ops.toList L (needs P ops.toList j) env h).1 (adoptL P ops.toList L (needs P ops.toList j) env h).2
        (fun v h2 => K (putD (adoptL P ops.toList L (needs P ops.toList j) env h).1 o.dst v) h2)
/-- whatever order is drawn from here on -/
def AA (P : Program) (S : Sums) (N : Nat) (ops : Array Oper) (D : Env → Heap → Prop) : Nat → Array Bool → Env → Heap → Prop
  | 0, L, env, h => Region.ready .any ops L = [] ∧ D env h
  | f + 1, L, env, h => (Region.ready .any ops L = [] → D env h) ∧ ∀ j ∈ Region.ready .any ops L, stepJ P S N ops L j env h (fun env' h' => AA P S N ops D f (L.setIfInBounds j true) env' h')

theorem allocOf_spec {i d t : Nat} {z : List SV} (h : allocOf P ops.toList i = some (d, t, z)) :
    ∃ o v ti, ops[i]? = some o ∧ o.op = .alloc t ∧ o.dst = some d ∧ o.guard = none ∧ P.info? t = some ti ∧ ti.zero = some v ∧ ∀ pl, RL pl z v.cells.toList := by
  unfold allocOf at h
  cases hg : get? ops.toList i with
  | none => simp [hg] at h
  | some o =>
    simp only [hg] at h
    split at h
    · rename_i t' d' ho hd hgd
      cases hz : zeroOf P t' with
      | none => simp [hz] at h
      | some z' =>
        simp [hz] at h
        obtain ⟨rfl, rfl, rfl⟩ := h
        obtain ⟨ti, v, h1, h2, rfl⟩ := zeroOf_spec hz
        rw [get?_eq] at hg
        exact ⟨o, v, ti, by simpa using hg, ho, hd, hgd, h1, h2, fun pl => ofValue_cells v⟩
    · cases h

/- facts on the variables that were made ahead of their turn -/
def aliveAt (pl : List Pl) (h : Heap) (c : Nat) : Prop := ∃ (b : Nat) (p : Pl) (x : Blk), pl[b]? = some p ∧ h[b]? = some x ∧ x.alive p = true ∧ p.blk = c
structure Fact (P : Program) (ops : Array Oper) (w0 w : World) (tmps : Array Value) (pl : List Pl) (h : Heap) (i k : Nat) : Prop where
  slot : ∀ d t z, allocOf P ops.toList i = some (d, t, z) → tmps.getD d Go.undef = .pointer (some ⟨k, 0, none⟩)
  cells : ∀ d t z, allocOf P ops.toList i = some (d, t, z) → ∃ vs : List Value, (∀ pl, RL pl z vs) ∧ w.heap[k]? = some (.cells vs.toArray t (0, 0))
  new : w0.heap.size ≤ k
  lt : k < w.heap.size
  free : ¬ aliveAt pl h k

theorem HRel.adopt {w0 : World} {Sx : Nat → Prop} {pl : List Pl} {h : Heap} {w : World} (hR : HRel w0 Sx pl h w) {T k : Nat} {cs : List SV} {vs : List Value} (hv : RL pl cs vs) (hk : w.heap[k]? = some (.cells vs.toArray T (0, 0)))
    (h1 : w0.heap.size ≤ k) (h2 : k < w.heap.size) (h3 : ¬ aliveAt pl h k) : HRel w0 Sx (pl ++ [⟨k, false, 0⟩]) (h ++ [.row T cs]) w ∧ PExt pl (pl ++ [⟨k, false, 0⟩]) :=
  hR.fresh hR.fr (Nat.le_refl _) (fun _ _ _ _ _ _ => rfl) ⟨vs, hv.ext (PExt.push pl _), hk⟩ (fun _ => ⟨h2, .inl h1, fun b p x hb hx ha e => h3 ⟨b, p, x, hb, hx, ha, e⟩⟩)

theorem aliveAt_push {pl : List Pl} {h : Heap} (hl : pl.length = h.length) {k c T : Nat} {cs : List SV} (ha : aliveAt (pl ++ [⟨k, false, 0⟩]) (h ++ [.row T cs]) c) : aliveAt pl h c ∨ c = k := by
  obtain ⟨b, p, x, h1, h2, h3, rfl⟩ := ha
  by_cases hlt : b < pl.length
  · rw [List.getElem?_append_left hlt] at h1
    rw [List.getElem?_append_left (by omega)] at h2
    exact .inl ⟨b, p, x, h1, h2, h3, rfl⟩
  · rw [List.getElem?_append_right (by omega)] at h1
    have : b - pl.length = 0 := by
      rcases Nat.eq_zero_or_pos (b - pl.length) with h0 | h0
      · exact h0
      · rw [List.getElem?_eq_none (by simp; omega)] at h1; cases h1
    rw [this] at h1
    simp at h1
    exact .inr (by rw [← h1])

theorem adopt_sound {w0 : World} {Sx : Nat → Prop} {w : World} {tmps : Array Value} {L : Array Bool} {κ : Nat → Nat} : ∀ (l : List Nat) (X : Nat → Prop) (pl : List Pl) (env : Env) (h : Heap), l.Nodup → (∀ i ∈ l, X i) → EnvR pl env tmps → HRel w0 Sx pl h w →
    (∀ i, X i → pendOf P ops.toList L i = true → Fact P ops w0 w tmps pl h i (κ i)) → (∀ i i', X i → X i' → pendOf P ops.toList L i = true → pendOf P ops.toList L i' = true → κ i = κ i' → i = i') →
    ∃ pl', EnvR pl' (adoptL P ops.toList L l env h).1 tmps ∧ HRel w0 Sx pl' (adoptL P ops.toList L l env h).2 w ∧ PExt pl pl' ∧
      ∀ i, X i → i ∉ l → pendOf P ops.toList L i = true → Fact P ops w0 w tmps pl' (adoptL P ops.toList L l env h).2 i (κ i)
  | [], X, pl, env, h, _, _, hE, hR, hF, _ => ⟨pl, hE, hR, PExt.refl pl, fun i hx _ hp => hF i hx hp⟩
  | a :: l, X, pl, env, h, hnd, hX, hE, hR, hF, hinj => by
    have hnd' := (List.nodup_cons.1 hnd)
    unfold adoptL
    split
    · rename_i hpa
      cases ha : allocOf P ops.toList a with
      | none => simp [pendOf, isAlloc, ha] at hpa
      | some dtz =>
        obtain ⟨d, t, z⟩ := dtz
        simp only
        have hfa := hF a (hX a (by simp)) hpa
        obtain ⟨vs, hvs, hcell⟩ := hfa.cells d t z ha
        have ⟨hR', hp⟩ := hR.adopt (hvs pl) hcell hfa.new hfa.lt hfa.free
        have hE' : EnvR (pl ++ [⟨κ a, false, 0⟩]) (AM.set env d (.v (.one (.ptr (len' h) 0)))) tmps := (hE.ext hp).same d (by
          rw [hfa.slot d t z ha]
          exact .inr (by simp [SV.val, addrOf, len'_eq, ← hR.len]))
        obtain ⟨pl', g1, g2, g3, g4⟩ := adopt_sound l (fun i => X i ∧ i ≠ a) (pl ++ [⟨κ a, false, 0⟩]) _ _ hnd'.2
          (fun i hi => ⟨hX i (by simp [hi]), fun e => hnd'.1 (e ▸ hi)⟩) hE' hR'
          (fun i hi hpi => by
            have hf := hF i hi.1 hpi
            refine ⟨hf.slot, hf.cells, hf.new, hf.lt, fun hal => ?_⟩
            rcases aliveAt_push hR.len hal with hal | hal
            · exact hf.free hal
            · exact hi.2 (hinj i a hi.1 (hX a (by simp)) hpi hpa hal))
          (fun i i' hi hi' hpi hpi' e => hinj i i' hi.1 hi'.1 hpi hpi' e)
        exact ⟨pl', g1, g2, hp.trans g3, fun i hi hn hpi => g4 i ⟨hi, fun e => hn (by simp [e])⟩ (fun hm => hn (by simp [hm])) hpi⟩
    · obtain ⟨pl', g1, g2, g3, g4⟩ := adopt_sound l X pl env h hnd'.2 (fun i hi => hX i (by simp [hi])) hE hR hF hinj
      exact ⟨pl', g1, g2, g3, fun i hi hn hpi => g4 i hi (fun hm => hn (by simp [hm])) hpi⟩

theorem needs_nodup (j : Nat) : (needs P ops.toList j).Nodup := by
  unfold needs
  split
  · exact List.Pairwise.filter _ List.nodup_range
  · exact List.nodup_nil
theorem pendOf_set {L : Array Bool} {i j : Nat} (hp : pendOf P ops.toList (L.setIfInBounds j true) i = true) (hj : j < L.size) (hjn : j < ops.size) :
    isAlloc P ops.toList i = true ∧ (i = j ∨ pendOf P ops.toList L i = true) ∧ i ∉ needs P ops.toList j := by
  unfold pendOf at hp ⊢
  simp only [Bool.and_eq_true, Bool.not_eq_true', List.any_eq_false, List.mem_range, len'_eq, Array.length_toList, not_and, Bool.not_eq_true] at hp ⊢
  obtain ⟨⟨h1, h2⟩, h3⟩ := hp
  refine ⟨h1, ?_, ?_⟩
  · by_cases e : i = j
    · exact .inl e
    · right
      refine ⟨⟨h1, by rwa [getD_set_ne false (Ne.symm e)] at h2⟩, fun k hk => ?_⟩
      have := h3 k hk
      cases hl : L.getD k false with
      | false => intro hh; cases hh
      | true => intro _; rw [getD_set_true hl] at this; exact this rfl
  · have := h3 j hjn
    have hl : (L.setIfInBounds j true).getD j false = true := by simp [hj]
    rw [hl] at this
    simpa using this

/-- a state from which the rest of the region is run -/
structure RelA (P : Program) (ops : Array Oper) (A : Annos) (w0 : World) (Sx : Nat → Prop) (pl0 : List Pl) (L : Array Bool) (env : Env) (h : Heap) (a : Act) (w : World) : Prop where
  rel : ∃ (pl : List Pl) (κ : Nat → Nat), EnvR pl env a.tmps ∧ HRel w0 Sx pl h w ∧ PE A pl0 pl ∧ (∀ i, pendOf P ops.toList L i = true → Fact P ops w0 w a.tmps pl h i (κ i)) ∧
    (∀ i i', pendOf P ops.toList L i = true → pendOf P ops.toList L i' = true → κ i = κ i' → i = i')
  defers : a.defers = []
  size : L.size = ops.size

theorem put_other {a : Act} {d : Option Nat} {v : Value} {e : Nat} (h : d ≠ some e) : (a.put d v).tmps.getD e Go.undef = a.tmps.getD e Go.undef := by
  cases d with
  | none => rfl
  | some d =>
    have hne : d ≠ e := fun x => h (by rw [x])
    simp [Act.put, Array.getD_eq_getD_getElem?, Array.getElem?_setIfInBounds_ne hne]

theorem allocsApart_spec (h : allocsApart P ops.toList = true) {i d t : Nat} {z : List SV} (hi : allocOf P ops.toList i = some (d, t, z)) {j : Nat} {oj : Oper} (hj : ops[j]? = some oj) (hne : j ≠ i) : oj.dst ≠ some d := by
  unfold allocsApart at h
  rw [List.all_eq_true] at h
  obtain ⟨o, _, _, ho, _⟩ := allocOf_spec hi
  have hil : i < ops.size := (Array.getElem?_eq_some_iff.1 ho).1
  have h1 := h i (by simp [len'_eq, hil])
  simp only [hi, List.all_eq_true] at h1
  have hjl : j < ops.size := (Array.getElem?_eq_some_iff.1 hj).1
  have h2 := h1 j (by simp [len'_eq, hjl])
  have h3 : get? ops.toList j = some oj := by rw [get?_eq]; simpa using hj
  simpa [hne, h3] using h2

/-- each operation, alone: what the machine shows of it -/
def OpsSound (P : Program) (S : Sums) (N : Nat) : Prop := ∀ m, m ≤ N → ∀ (o : Oper) env h K pl w0 Sx a w next Q, exec1 P S m o.op env h K → EnvR pl env a.tmps → HRel w0 Sx pl h w →
  (∀ v av h' pl' w', K av h' → av.R pl' v → PExt pl pl' → HRel w0 Sx pl' h' w' → next (a.put o.dst v) w') → o.wp P a w next Q

theorem AA_sound (hO : OpsSound P S N) (hap : allocsApart P ops.toList = true) {A : Annos} {w0 : World} {Sx : Nat → Prop} {pl0 : List Pl} (hq0 : A.q ≤ pl0.length) {Q : Exit → Act → World → Prop}
    (hD : ∀ env h pl a w, D env h → EnvR pl env a.tmps → a.defers = [] → PE A pl0 pl → HRel w0 Sx pl h w → Q .normal a w) :
    ∀ (f : Nat) (L : Array Bool) (env : Env) (h : Heap) (a : Act) (w : World), AA P S N ops D f L env h → RelA P ops A w0 Sx pl0 L env h a w → wpAny P .any ops Q f L a w
  | 0, L, env, h, a, w, hA, hr => by
    obtain ⟨pl, κ, hE, hR, hp, _⟩ := hr.rel
    exact ⟨hA.1, hD env h pl a w hA.2 hE hr.defers hp hR⟩
  | f + 1, L, env, h, a, w, hA, hr => by
    obtain ⟨pl, κ, hE, hR, hpe, hfact, hinj⟩ := hr.rel
    refine ⟨fun h0 => hD env h pl a w (hA.1 h0) hE hr.defers hpe hR, fun j hj => ?_⟩
    have hstep := hA.2 j hj
    obtain ⟨hun, o, ho, hdeps⟩ := mem_ready.1 hj
    have hjn : j < ops.size := (Array.getElem?_eq_some_iff.1 ho).1
    have hjL : j < L.size := by rw [hr.size]; exact hjn
    have hgo : get? ops.toList j = some o := by rw [get?_eq]; simpa using ho
    unfold stepJ at hstep
    simp only [hgo] at hstep
    unfold wpOp
    simp only [ho]
    cases hal : allocOf P ops.toList j with
    | some dtz =>
      obtain ⟨d, t, z⟩ := dtz
      simp only [hal] at hstep
      obtain ⟨o', v, ti, ho', hop, hdst, hgd, hti, hz, hzv⟩ := allocOf_spec hal
      rw [ho] at ho'
      cases ho'
      rw [if_pos (by simp [Region.wanted, hgd])]
      left
      refine wp_of_run (v := .pointer (some ⟨w.heap.size, 0, none⟩)) (w' := w.alloc (.cells v.cells.toList.toArray t)) ?_ ?_
      · unfold execOp
        simp [hop, Instr.alloc, zeroValue, typeInfo, hti, hz, newVar, newRow]
      · have hsz : (w.alloc (.cells v.cells.toList.toArray t)).heap.size = w.heap.size + 1 := by show (w.heap.push _).size = _; simp
        have hold : ∀ k, k < w.heap.size → (w.alloc (.cells v.cells.toList.toArray t)).heap[k]? = w.heap[k]? := fun k hk => by
          show (w.heap.push _)[k]? = _
          rw [Array.getElem?_push, if_neg (by omega)]
        have hR' : HRel w0 Sx pl h (w.alloc (.cells v.cells.toList.toArray t)) := by
          refine ⟨hR.len, ⟨hR.fr.os, hR.fr.tape, hR.fr.output, by have := hR.fr.size; omega, fun k hk hS => ?_⟩, ?_, fun b p x hb hx ha => by have := hR.lt b p x hb hx ha; omega, hR.own, hR.inj⟩
          · rw [hold k (by have := hR.fr.size; omega)]; exact hR.fr.block k hk hS
          · intro b x p hx hb
            exact (hR.hb b _ p hx hb).mono (PExt.refl pl) (fun ha => hold _ (hR.lt b p _ hb hx ha))
        refine AA_sound hO hap hq0 hD f _ _ h _ _ hstep.2 ⟨⟨pl, fun i => if i = j then w.heap.size else κ i, ?_, hR', hpe, ?_, ?_⟩, (put_defers _ _ _).trans hr.defers, by simp [hr.size]⟩
        · rw [hdst]; exact hE.put (some d) (any_R pl _)
        · intro i hpi
          obtain ⟨_, hc, _⟩ := pendOf_set hpi hjL hjn
          by_cases e : i = j
          · subst e
            simp only [if_true]
            refine ⟨fun d' t' z' h' => ?_, fun d' t' z' h' => ?_, hR.fr.size, by omega, fun ⟨b, p, x, h1, h2, h3, h4⟩ => by have := hR.lt b p x h1 h2 h3; omega⟩
            · rw [hal] at h'; cases h'
              rw [hdst]
              have hlt : d < a.tmps.size := by rw [← hE.1]; exact hstep.1
              simp [Act.put, hlt]
            · rw [hal] at h'; cases h'
              refine ⟨v.cells.toList, hzv, ?_⟩
              show (w.heap.push _)[w.heap.size]? = _
              simp
          · have hpi' := hc.resolve_left e
            have hf := hfact i hpi'
            simp only [if_neg e]
            refine ⟨fun d' t' z' h' => ?_, fun d' t' z' h' => ?_, hf.new, by have := hf.lt; omega, hf.free⟩
            · rw [put_other (allocsApart_spec hap h' ho (Ne.symm e))]; exact hf.slot d' t' z' h'
            · obtain ⟨vs, k1, k2⟩ := hf.cells d' t' z' h'
              exact ⟨vs, k1, by rw [hold _ hf.lt]; exact k2⟩
        · intro i i' hpi hpi' e
          have hc := (pendOf_set hpi hjL hjn).2.1
          have hc' := (pendOf_set hpi' hjL hjn).2.1
          by_cases e1 : i = j <;> by_cases e2 : i' = j
          · rw [e1, e2]
          · simp only [e1, e2, if_true, if_false] at e; have := (hfact i' (hc'.resolve_left e2)).lt; omega
          · simp only [e1, e2, if_true, if_false] at e; have := (hfact i (hc.resolve_left e1)).lt; omega
          · simp only [e1, e2, if_false] at e; exact hinj i i' (hc.resolve_left e1) (hc'.resolve_left e2) e
    | none =>
      simp only [hal] at hstep
      obtain ⟨hgd, m, hm, hx⟩ := hstep
      rw [if_pos (by simp [Region.wanted, hgd])]
      left
      obtain ⟨pl1, hE1, hR1, hp1, hfact1⟩ := adopt_sound (P := P) (ops := ops) (L := L) (κ := κ) (needs P ops.toList j) (fun _ => True) pl env h (needs_nodup j) (fun _ _ => trivial) hE hR (fun i _ hp => hfact i hp) (fun i i' _ _ h1 h2 e => hinj i i' h1 h2 e)
      generalize hst : adoptL P ops.toList L (needs P ops.toList j) env h = st at hx hE1 hR1 hfact1
      -- the same, told of the world at hand
      have hRw : HRel w (aliveAt pl1 st.2) pl1 st.2 w := ⟨hR1.len, ⟨rfl, rfl, rfl, Nat.le_refl _, fun _ _ _ => rfl⟩, hR1.hb, hR1.lt, fun b p x h1 h2 h3 => .inr ⟨b, p, x, h1, h2, h3, rfl⟩, hR1.inj⟩
      refine hO m hm o st.1 st.2 _ pl1 w (aliveAt pl1 st.2) a w _ Q hx hE1 hRw ?_
      intro v av h2 pl2 w2 hk hv hp2 hR2
      have hkeep : ∀ k, k < w.heap.size → ¬ aliveAt pl1 st.2 k → w2.heap[k]? = w.heap[k]? := hR2.fr.block
      have hR2' : HRel w0 Sx pl2 h2 w2 := by
        refine ⟨hR2.len, ⟨hR2.fr.os.trans hR1.fr.os, hR2.fr.tape.trans hR1.fr.tape, hR2.fr.output.trans hR1.fr.output, Nat.le_trans hR1.fr.size hR2.fr.size, fun k hk hS => ?_⟩, hR2.hb, hR2.lt, fun b p x h1 h2 h3 => ?_, hR2.inj⟩
        · rw [hkeep k (Nat.lt_of_lt_of_le hk hR1.fr.size) (fun ⟨b, p, x, h1, h2, h3, h4⟩ => by
            rcases hR1.own b p x h1 h2 h3 with h5 | h5
            · omega
            · rw [h4] at h5; exact hS h5)]
          exact hR1.fr.block k hk hS
        · rcases hR2.own b p x h1 h2 h3 with h5 | ⟨b', p', x', k1, k2, k3, k4⟩
          · exact .inl (Nat.le_trans hR1.fr.size h5)
          · rw [← k4]; exact hR1.own b' p' x' k1 k2 k3
      have hpe1 : PE A pl pl1 := PE.of_ext (hpe.len hq0) hp1
      have hpe2 : PE A pl1 pl2 := PE.of_ext (hpe1.len (hpe.len hq0)) hp2
      refine AA_sound hO hap hq0 hD f _ _ h2 _ _ hk ⟨⟨pl2, κ, (hE1.ext hp2).put o.dst hv, hR2', (hpe.trans hpe1).trans hpe2, ?_, ?_⟩, (put_defers _ _ _).trans hr.defers, by simp [hr.size]⟩
      · intro i hpi
        obtain ⟨hia, hc, hnn⟩ := pendOf_set hpi hjL hjn
        have hij : i ≠ j := fun e => by subst e; simp [isAlloc, hal] at hia
        have hpi' := hc.resolve_left hij
        have hf := hfact1 i trivial hnn hpi'
        refine ⟨fun d t z h' => ?_, fun d t z h' => ?_, hf.new, Nat.lt_of_lt_of_le hf.lt hR2.fr.size, fun ⟨b, p, x, h1, h2, h3, h4⟩ => ?_⟩
        · rw [put_other (allocsApart_spec hap h' ho (Ne.symm hij))]; exact hf.slot d t z h'
        · obtain ⟨vs, k1, k2⟩ := hf.cells d t z h'
          exact ⟨vs, k1, by rw [hkeep _ hf.lt hf.free]; exact k2⟩
        · rcases hR2.own b p x h1 h2 h3 with h5 | h5
          · have := hf.lt; omega
          · rw [h4] at h5; exact hf.free h5
      · intro i i' hpi hpi' e
        obtain ⟨hia, hc, _⟩ := pendOf_set hpi hjL hjn
        obtain ⟨hia', hc', _⟩ := pendOf_set hpi' hjL hjn
        have hij : i ≠ j := fun e => by subst e; simp [isAlloc, hal] at hia
        have hij' : i' ≠ j := fun e => by subst e; simp [isAlloc, hal] at hia'
        exact hinj i i' (hc.resolve_left hij) (hc'.resolve_left hij') e
end
end Go.AM

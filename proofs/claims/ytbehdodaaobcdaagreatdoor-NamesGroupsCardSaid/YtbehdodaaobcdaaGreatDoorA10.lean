import Derived.Test.YtbehdodaaobcdaaGreatDoorA09
set_option maxHeartbeats 4000000
namespace Go.AM
open Go
section
variable {P : Program} {w0 : World} {Sx : Marks} {pl : List Pl} {h : Heap} {w : World}
theorem appW_sound [Glob] {env : Env} {a : Act} {K : KV} (hE : EnvR pl env a.tmps) (hR : HRel w0 Sx pl h w) {args : Array Operand} {ts : Array Nat} (hk : appW P env args.toList ts.toList h K) :
    ∃ v av h' pl' w', (∀ ty, (Builtin.append_ ts ty (args.map a.eval)).run P w = .ok v w') ∧ K av h' ∧ av.R pl' v ∧ PExt pl pl' ∧ HRel w0 Sx pl' h' w' := by
  unfold appW at hk
  split at hk
  · rename_i s x t t' hargs hts
    split at hk
    · rename_i src hsrc
      split at hk
      · rename_i htt
        have htt : t = t' := by simpa using htt
        subst htt
        have hargs' : args = #[s, x] := by rw [← Array.toArray_toList (xs := args), hargs]
        have hts' : ts = #[t, t] := by rw [← Array.toArray_toList (xs := ts), hts]
        subst hargs' hts'
        have := appR_sound hR (hE.ev (a := a) s) (hE.ev (a := a) x) hsrc hk
        simpa using this
      · exact hk.elim
    · split at hk
      · have hargs' : args = #[s, x] := by rw [← Array.toArray_toList (xs := args), hargs]
        have hts' : ts = #[t, t'] := by rw [← Array.toArray_toList (xs := ts), hts]
        subst hargs' hts'
        have := appS_sound (P := P) hR (hE.ev (a := a) s) (hE.ev (a := a) x) hk
        simpa using this
      · exact appV_sound hE hR hk
  · exact appV_sound hE hR hk
theorem aop_sound [Glob] {env : Env} {a : Act} {K : KV} (hE : EnvR pl env a.tmps) (hR : HRel w0 Sx pl h w) (o : Oper) {next : Act → World → Prop} {Q : Exit → Act → World → Prop} (hk : aop P env h o.op K)
    (hn : ∀ v av h' pl' w', K av h' → av.R pl' v → PExt pl pl' → HRel w0 Sx pl' h' w' → next (a.put o.dst v) w') : o.wp P a w next Q := by
  have quietE : ∀ {op : Op}, o.op = op → kOR (qopE P env h op) (fun v => K v h) → o.wp P a w next Q := fun {op} he hk => by
    obtain ⟨av, g1, g2⟩ := gives_kOR hk
    subst he
    obtain ⟨v, hv⟩ := qopE_sound hR.inj hE o g1
    have := hv w hR.hb
    exact wp_of_run this.2 (hn v av h pl w g2 this.1 (PExt.refl pl) hR)
  have quiet : ∀ {op : Op}, o.op = op → kOR (qop P env h op) (fun v => K v h) → o.wp P a w next Q := fun {op} he hk => quietE he (kOR_E hk)
  unfold aop at hk
  split at hk
  · -- alloc
    rename_i t ho
    cases hz : zeroOf P t with
    | none => simp [hz] at hk
    | some z =>
      simp only [hz] at hk
      obtain ⟨i, v, hi, hv, rfl⟩ := zeroOf_spec hz
      have ⟨hR', hp⟩ := hR.push (T := t) (ofValue_cells (pl := pl) v)
      refine wp_of_run (v := .pointer (some ⟨w.heap.size, 0, none⟩)) (w' := w.alloc (.cells v.cells.toList.toArray t)) ?_ (hn _ _ _ _ _ hk ?_ hp hR')
      · unfold execOp
        simp [ho, Instr.alloc, zeroValue, typeInfo, hi, hv, newVar, newRow]
      · refine .inr ?_
        simp [SV.val, addrOf, len'_eq, ← hR.len]
  · -- box
    rename_i t x ho
    have hx := hE.ev (a := a) x
    split at hk
    · rename_i p he
      rw [he] at hx
      split at hk
      · rename_i hkn
        have ⟨hc, _⟩ := PV.cells_R hkn hx
        have ⟨hR', hp⟩ := hR.push (T := t) hc
        refine wp_of_run (v := .pointer (some ⟨w.heap.size, 0, none⟩)) (w' := w.alloc (.cells (a.eval x).cells.toList.toArray t)) ?_ (hn _ _ _ _ _ hk ?_ hp hR')
        · unfold execOp
          simp [ho, Instr.box, newVar, newRow]
        · refine .inr ?_
          simp [SV.val, addrOf, len'_eq, ← hR.len]
      · exact hk.elim
    · exact hk.elim
  · -- store
    rename_i t x y ho
    have hx := hE.ev (a := a) x
    have hy := hE.ev (a := a) y
    split at hk
    · rename_i b off p he1 he2
      rw [he1] at hx
      rw [he2] at hy
      obtain ⟨ad, had, hv⟩ := ptr_R hx
      split at hk
      · rename_i h' hst
        obtain ⟨w', g1, g2⟩ := hR.store hst hy had
        unfold Oper.wp execOp
        simp only [ho, hv, Instr.storeAt, Instr.sureAddr, Sem.run_bind, Sem.run_pure, Result.andThen_ok, g1]
        exact hn _ _ _ _ _ hk (undef_R pl) (PExt.refl pl) g2
      · exact hk.elim
    · rename_i b z idx sub p he1 he2
      rw [he1] at hx
      rw [he2] at hy
      obtain ⟨ad, had, hv⟩ := pe_R hx
      obtain ⟨w', h', g1, g2, g3⟩ := hR.storeE hk hy had
      unfold Oper.wp execOp
      simp only [ho, hv, Instr.storeAt, Instr.sureAddr, Sem.run_bind, Sem.run_pure, Result.andThen_ok, g1]
      exact hn _ _ _ _ _ g3 (undef_R pl) (PExt.refl pl) g2
    · exact hk.elim
  · -- makeMap
    rename_i t r ho
    obtain ⟨h1, h2, kt, e, hu⟩ := mapV_inv hk
    have hF := hR.fresh (p' := ⟨w.heap.size, false, 0⟩) (x' := .mp []) (w' := w.alloc (.map #[] 0)) (hR.fr.grown (World.grownBy_alloc w (.map #[] 0) none) (by simp)) (World.grownBy_alloc w (.map #[] 0) none).size
      (fun b p x hp hx ha => (World.grownBy_alloc w (.map #[] 0) none).block _ (hR.lt b p x hp hx ha) (by simp)) ⟨#[], 0, trivial, heap_alloc_new w _⟩
      (fun _ => ⟨by show w.heap.size < (w.heap.push _).size; simp, .inl hR.fr.size, fun b p x hp hx ha => by have := hR.lt b p x hp hx ha; simp only; omega⟩)
    refine wp_of_run (v := .map (some w.heap.size)) (w' := w.alloc (.map #[] 0)) ?_ (hn _ _ _ _ _ h1 ?_ hF.2 hF.1)
    · unfold execOp
      rcases h2 with rfl | ⟨k, n, rfl⟩
      · simp [ho, Instr.makeMap]
      · simp [ho, Instr.makeMap, run_underlying hu, asInt, asIntOf, Act.eval]
    · refine .inr ?_
      simp [SV.val, len'_eq, ← hR.len]
  · -- range
    rename_i t x ho
    obtain ⟨s, lit, hv, hu, h1⟩ := rangeX_sound (hE.ev (a := a) x) hk
    have hF := hR.fresh (p' := ⟨w.heap.size, false, 0⟩) (x' := .sit lit s 0) (w' := w.alloc (.stringIter ⟨s.toArray⟩ 0)) (hR.fr.grown (World.grownBy_alloc w (.stringIter ⟨s.toArray⟩ 0) none) (by simp)) (World.grownBy_alloc w (.stringIter ⟨s.toArray⟩ 0) none).size
      (fun b p x hp hx ha => (World.grownBy_alloc w (.stringIter ⟨s.toArray⟩ 0) none).block _ (hR.lt b p x hp hx ha) (by simp)) (heap_alloc_new w _)
      (fun _ => ⟨by show w.heap.size < (w.heap.push _).size; simp, .inl hR.fr.size, fun b p x hp hx ha => by have := hR.lt b p x hp hx ha; simp only; omega⟩)
    refine wp_of_run (v := .pointer (some ⟨w.heap.size, 0, none⟩)) (w' := w.alloc (.stringIter ⟨s.toArray⟩ 0)) ?_ (hn _ _ _ _ _ h1 ?_ hF.2 hF.1)
    · unfold execOp
      simp [ho, hv, run_range_string w t _ hu, World.iter]
    · refine .inr ?_
      simp [SV.val, addrOf, len'_eq, ← hR.len]
  · -- next
    rename_i it ho
    obtain ⟨u, w', av, h', g1, g2, g3, g4⟩ := nextX_sound (P := P) hR (hE.ev (a := a) it) hk o.type
    refine wp_of_run (v := u) (w' := w') ?_ (hn _ _ _ _ _ g2 g3 (PExt.refl pl) g4)
    unfold execOp
    simp [ho, g1]
  · -- insert
    rename_i t m k v ho
    obtain ⟨w', h', g1, g2, g3⟩ := putV_sound hR (hE.ev (a := a) m) (hE.ev (a := a) k) (hE.ev (a := a) v) hk
    unfold Oper.wp execOp
    simp only [ho, Sem.run_bind, g1, Result.andThen_ok, Sem.run_pure]
    exact hn _ _ _ _ _ g2 (undef_R pl) (PExt.refl pl) g3
  · -- mapUpdate
    rename_i t m k v ho
    obtain ⟨w', h', g1, g2, g3⟩ := putV_sound hR (hE.ev (a := a) m) (hE.ev (a := a) k) (hE.ev (a := a) v) hk
    unfold Oper.wp execOp
    simp only [ho, Sem.run_bind, g1, Result.andThen_ok, Sem.run_pure]
    exact hn _ _ _ _ _ g2 (undef_R pl) (PExt.refl pl) g3
  · -- buildSlice
    rename_i t n parts ho
    obtain ⟨w', g1, av, h', pl', k1, k2, k3, k4⟩ := sliceV_sound hR (fun ps h => evParts_R hE h) hk
    refine wp_of_run (v := .slice (some ⟨w.heap.size, 0, none⟩) n n) (w' := w') ?_ (hn _ _ _ _ _ k1 k2 k3 k4)
    unfold execOp
    have := g1
    rw [← Array.toList_map] at this
    simp [ho, this]
  · -- append
    rename_i args ts ho
    obtain ⟨v, av, h', pl', w', g1, g2⟩ := appW_sound hE hR hk
    refine wp_of_run (v := v) (w' := w') ?_ (hn _ _ _ _ _ g2.1 g2.2.1 g2.2.2.1 g2.2.2.2)
    unfold execOp
    simp [ho, resolve, invoke, builtin, g1]
  · -- indexAddr
    rename_i t x i ho
    have hx := hE.ev (a := a) x
    have hi := hE.ev (a := a) i
    split at hk
    · rename_i n e b off k j hu he1 he2
      rw [he1] at hx
      rw [he2] at hi
      obtain ⟨ad, had, hv⟩ := ptr_R hx
      have hj := sym_R hi
      split at hk
      · rename_i z hz
        obtain ⟨hb, hs⟩ := hk
        have := splitIx_pick hs hb.1 hb.2
        refine wp_of_run (v := .pointer (some (ad.add (j.toNat * z)))) (w' := w) ?_ (hn _ _ _ _ _ this (.inr (by simp [SV.val, addrOf_add had])) (PExt.refl pl) hR)
        unfold execOp
        simp [ho, hv, hj, Instr.indexAt, asIntOf, run_underlying hu, Instr.sureAddr, hb, run_size hz]
      · exact hk.elim
    · rename_i e b z st len k j hu he1 he2
      rw [he1] at hx
      rw [he2] at hi
      have hj := sym_R hi
      split at hk
      · rename_i hz
        obtain ⟨hb, hs⟩ := hk
        have := splitIx_pick hs hb.1 hb.2
        obtain ⟨ad, h1, h2⟩ := ow_indexAt hx hu hz (k := k) hb
        refine wp_of_run (v := .pointer (some ad)) (w' := w) ?_ (hn _ _ _ _ _ this (.inr (by simp [SV.val, h1])) (PExt.refl pl) hR)
        unfold execOp
        simp [ho, hj, h2]
      · exact hk.elim
    · exact quiet ho hk
  · -- index
    rename_i t x i ho
    have hx := hE.ev (a := a) x
    have hi := hE.ev (a := a) i
    split at hk
    · rename_i n e cs k j hu he1 he2
      rw [he1] at hx
      rw [he2] at hi
      obtain ⟨vs, hv, hr⟩ := hx
      have hj := sym_R hi
      split at hk
      · rename_i z hz
        obtain ⟨hb, hs⟩ := hk
        have hs' := splitIx_pick hs hb.1 hb.2
        split at hs'
        · rename_i p hp
          obtain ⟨v, g1, g2⟩ := part_run hr hp
          refine wp_of_run (v := v) (w' := w) ?_ (hn _ _ _ _ _ hs' g1 (PExt.refl pl) hR)
          unfold execOp
          simp [ho, hv, hj, Instr.index, asIntOf, run_underlying hu, hb, run_size hz, g2]
        · exact hs'.elim
      · exact hk.elim
    · exact quiet ho hk
  · -- pick
    rename_i c x y ho
    have hc := hE.ev (a := a) c
    split at hk
    · rename_i b he
      rw [he] at hc
      have hb := sb_R hc
      cases b with
      | true =>
        refine wp_of_run (v := a.eval x) (w' := w) ?_ (hn _ _ _ _ _ (hk.1 rfl) (hE.ev x) (PExt.refl pl) hR)
        unfold execOp
        simp [ho, hb, asBool]
      | false =>
        refine wp_of_run (v := a.eval y) (w' := w) ?_ (hn _ _ _ _ _ (hk.2 rfl) (hE.ev y) (PExt.refl pl) hR)
        unfold execOp
        simp [ho, hb, asBool]
    · exact quiet ho hk
  · split at hk
    · have hev := evs_R hE o.op.operands.toList
      unfold aop1 at hk
      split at hk
      · rename_i t x y u v ho hl
        rw [hl, ho] at hev
        obtain ⟨w', r, av, h', pl', g1, g2, g3, g4, g5⟩ := makeX_sound (P := P) hR (show u.R pl (a.eval x) from hev.1) (show v.R pl (a.eval y) from hev.2.1) hk
        refine wp_of_run (v := r) (w' := w') ?_ (hn _ _ _ _ _ g2 g3 g4 g5)
        unfold execOp
        simp [ho, g1]
      · rename_i args ts ho
        rw [ho] at hev hk
        have e : (Op.call { callee := .builtin .copy, args := args, argTypes := ts }).operands.toList = args.toList := by simp [Op.operands, Call.operands]
        rw [e] at hev hk
        obtain ⟨w', r, av, h', g1, g2, g3, g4⟩ := copyX_sound (P := P) hR hev hk
        refine wp_of_run (v := r) (w' := w') ?_ (hn _ _ _ _ _ g2 g3 (PExt.refl pl) g4)
        unfold execOp
        have := g1 o.type
        rw [show (List.map a.eval args.toList).toArray = args.map a.eval from by apply Array.ext'; simp, Array.toArray_toList] at this
        simp [ho, resolve, invoke, builtin, this]
      · rename_i args ts ho
        rw [ho] at hev hk
        have e : (Op.call { callee := .builtin .clear, args := args, argTypes := ts }).operands.toList = args.toList := by simp [Op.operands, Call.operands]
        rw [e] at hev hk
        obtain ⟨w', h', g1, g2, g4⟩ := clearX_sound (P := P) hR hev hk
        refine wp_of_run (v := .tuple #[]) (w' := w') ?_ (hn _ _ _ _ _ g2 ⟨[], rfl, trivial⟩ (PExt.refl pl) g4)
        unfold execOp
        have := g1 o.type
        rw [show (List.map a.eval args.toList).toArray = args.map a.eval from by apply Array.ext'; simp, Array.toArray_toList] at this
        simp [ho, resolve, invoke, builtin, this]
      · exact hk.elim
    · split at hk
      · have hev := evs_R hE o.op.operands.toList
        obtain ⟨v, w', av, h', g1, g2, g3, g4⟩ := aop2_sound (P := P) hR (a := a) o rfl hev hk
        exact wp_of_run (v := v) (w' := w') g1 (hn _ _ _ _ _ g2 g3 (PExt.refl pl) g4)
      · exact quietE rfl hk
end
end Go.AM
namespace Go.AM
open Go
section
variable {r : List (Nat × Nat)} {pl pl' : List Pl}

theorem look_mem : ∀ {r : List (Nat × Nat)} {x y : Nat}, look r x = some y → (x, y) ∈ r
  | [], _, _, h => by simp [look] at h
  | (a, b) :: l, x, y, h => by
    simp only [look] at h
    split at h
    · rename_i e; subst e; simp at h; subst h; simp
    · exact List.mem_cons_of_mem _ (look_mem h)
theorem injR_mem : ∀ {r : List (Nat × Nat)}, injR r = true → ∀ {x x' y : Nat}, (x, y) ∈ r → (x', y) ∈ r → x = x'
  | [], _, _, _, _, h, _ => by simp at h
  | (a, b) :: l, hi, x, x', y, h, h' => by
    simp only [injR, Bool.and_eq_true, List.all_eq_true, decide_eq_true_eq] at hi
    rcases List.mem_cons.1 h with h | h <;> rcases List.mem_cons.1 h' with h' | h'
    · injection h with h1 h2; injection h' with h3 h4; rw [h1, h3]
    · injection h with h1 h2; exact absurd h2.symm (by have := hi.1 _ h'; exact fun e => this (by rw [e]))
    · injection h' with h1 h2; exact absurd h2.symm (by have := hi.1 _ h; exact fun e => this (by rw [e]))
    · exact injR_mem hi.2 h h'

structure Follows (r : List (Nat × Nat)) (pl pl' : List Pl) : Prop where
  to : ∀ b' b p, look r b' = some b → pl[b]? = some p → pl'[b']? = some p
  nil : ∀ b', look r b' = some (1000000 + b') → ∃ p, pl'[b']? = some p ∧ p.nil = true

theorem addrOf_follows (hr : Follows r pl pl') {b' b o : Nat} (hl : look r b' = some b) {a : Addr} (h : addrOf pl b o = some a) : addrOf pl' b' o = some a := by
  unfold addrOf at *
  cases hp : pl[b]? with
  | none => simp [hp] at h
  | some p => rw [hr.to b' b p hl hp]; simpa [hp] using h
theorem eqC_follows (hr : Follows r pl pl') : ∀ {l' l : List (Nat × Nat)} {vs : List Value}, eqC r l' l → capVals pl l = some vs → capVals pl' l' = some vs
  | [], [], _, _, h => h
  | [], _ :: _, _, he, _ => he.elim
  | (_, _) :: _, [], _, he, _ => he.elim
  | (b', o') :: l', (b, o) :: l, vs, he, h => by
    simp only [eqC] at he
    split at he
    · rename_i hc
      obtain ⟨h1, rfl⟩ := hc
      simp only [capVals] at h ⊢
      cases ha : addrOf pl b o' with
      | none => simp [ha] at h
      | some ad =>
        cases hv : capVals pl l with
        | none => simp [ha, hv] at h
        | some us =>
          simp [ha, hv] at h
          rw [addrOf_follows hr h1 ha, eqC_follows hr he hv]
          simp [h]
    · exact he.elim
theorem SV.eqs_R (hr : Follows r pl pl') {s' s : SV} (he : s'.eqs r s) {v : Value} (h : s.R pl v) : s'.R pl' v := by
  unfold SV.eqs at he
  split at he
  · exact .inl rfl
  all_goals first
    | exact he.elim
    | (rcases h with h | h <;> first | (cases h; done) | skip)
  all_goals right
  all_goals simp only [SV.val] at h ⊢
  any_goals (exact h)
  any_goals (subst he; exact h)
  any_goals (split at he <;> first | exact he.elim | skip)
  any_goals (rename_i hc; obtain ⟨rfl, rfl⟩ := hc; exact h)
  any_goals (rename_i hc; subst hc; first | exact h | (subst he; exact h))
  any_goals (rename_i hc; obtain ⟨rfl, rfl⟩ := hc; subst he; exact h)
  · rename_i b' o' b o hc
    obtain ⟨h1, rfl⟩ := hc
    cases ha : addrOf pl b o' with
    | none => simp [ha] at h
    | some ad => rw [addrOf_follows hr h1 ha]; simpa [ha] using h
  · rename_i b' o' n' c' b o n c hc
    obtain ⟨h1, rfl, rfl, rfl⟩ := hc
    cases ha : addrOf pl b o' with
    | none => simp [ha] at h
    | some ad => rw [addrOf_follows hr h1 ha]; simpa [ha] using h
  · rename_i b' z' s' n' l' b z s n l hc
    obtain ⟨h1, rfl⟩ := hc
    obtain ⟨rfl, rfl⟩ := he
    unfold owVal at *
    cases hp : pl[b]? with
    | none => simp [hp] at h
    | some p => rw [hr.to b' b p h1 hp]; simpa [hp] using h
  · rename_i b' z' s' n' l' hc
    obtain ⟨rfl, rfl⟩ := he
    obtain ⟨p, h1, h2⟩ := hr.nil b' hc
    simp [owVal, h1, h2, ← h]
  · rename_i b' z' i' o' b z i o hc
    obtain ⟨h1, rfl⟩ := hc
    obtain ⟨rfl, rfl⟩ := he
    cases ha : addrOf pl b (i' * z' + o') with
    | none => simp [ha] at h
    | some ad => rw [addrOf_follows hr h1 ha]; simpa [ha] using h
  · rename_i b' z' n' c' b z n c hc
    obtain ⟨h1, rfl⟩ := hc
    obtain ⟨rfl, rfl⟩ := he
    unfold rsVal at *
    cases hp : pl[b]? with
    | none => simp [hp] at h
    | some p => rw [hr.to b' b p h1 hp]; simpa [hp] using h
  · rename_i b' z' i' o' b z i o hc
    obtain ⟨h1, rfl⟩ := hc
    obtain ⟨rfl, rfl⟩ := he
    unfold rpVal at *
    cases hp : pl[b]? with
    | none => simp [hp] at h
    | some p => rw [hr.to b' b p h1 hp]; simpa [hp] using h
  · rename_i f' c' f c hc
    subst hc
    cases ha : capVals pl c with
    | none => simp [ha] at h
    | some ad => rw [eqC_follows hr he ha]; simpa [ha] using h
  · rename_i b' b hc
    cases hp : pl[b]? with
    | none => simp [hp] at h
    | some p => rw [hr.to b' b p hc hp]; simpa [hp] using h
  · rename_i b' b hc
    cases hp : pl[b]? with
    | none => simp [hp] at h
    | some p => rw [hr.to b' b p hc hp]; simpa [hp] using h
  · rename_i t' b' o' t b o hc
    obtain ⟨rfl, h1, rfl⟩ := hc
    cases ha : addrOf pl b o' with
    | none => simp [ha] at h
    | some ad => rw [addrOf_follows hr h1 ha]; simpa [ha] using h
theorem eqsL_R (hr : Follows r pl pl') : ∀ {l' l : List SV} {vs : List Value}, eqsL r l' l → RL pl l vs → RL pl' l' vs
  | [], [], [], _, _ => trivial
  | [], [], _ :: _, _, h => h.elim
  | [], _ :: _, _, he, _ => he.elim
  | _ :: _, [], _, he, _ => he.elim
  | _ :: _, _ :: _, [], _, h => h.elim
  | _ :: _, _ :: _, _ :: _, he, h => by
    have he := andT_and SV.triv_eqs he
    exact ⟨SV.eqs_R hr he.1 h.1, eqsL_R hr he.2 h.2⟩
theorem PV.eqs_R (hr : Follows r pl pl') {s' s : PV} (he : s'.eqs r s) {v : Value} (h : s.R pl v) : s'.R pl' v := by
  unfold PV.eqs at he
  split at he
  · exact Or.inl rfl
  · exact SV.eqs_R hr he h
  · obtain ⟨vs, rfl, h1⟩ := h
    exact ⟨vs, rfl, eqsL_R hr he h1⟩
  · exact he.elim
theorem eqsP_R (hr : Follows r pl pl') : ∀ {l' l : List PV} {vs : List Value}, eqsP r l' l → PL pl l vs → PL pl' l' vs
  | [], [], [], _, _ => trivial
  | [], [], _ :: _, _, h => h.elim
  | [], _ :: _, _, he, _ => he.elim
  | _ :: _, [], _, he, _ => he.elim
  | _ :: _, _ :: _, [], _, h => h.elim
  | _ :: _, _ :: _, _ :: _, he, h => by
    have he := andT_and PV.triv_eqs he
    exact ⟨PV.eqs_R hr he.1 h.1, eqsP_R hr he.2 h.2⟩
theorem AV.eqs_R (hr : Follows r pl pl') {s' s : AV} (he : s'.eqs r s) {v : Value} (h : s.R pl v) : s'.R pl' v := by
  unfold AV.eqs at he
  split at he
  · exact Or.inl rfl
  · exact PV.eqs_R hr he h
  · obtain ⟨vs, rfl, h1⟩ := h
    exact ⟨vs, rfl, eqsP_R hr he h1⟩
  · exact he.elim
theorem eqsE_len : ∀ {l' l : Env}, eqsE r l' l → l'.length = l.length
  | [], [], _ => rfl
  | [], _ :: _, he => he.elim
  | _ :: _, [], he => he.elim
  | _ :: _, _ :: _, he => by
    have he := andT_and AV.triv_eqs he
    simp [eqsE_len he.2]
theorem eqsE_get (hr : Follows r pl pl') : ∀ {l' l : Env} {f : Nat → Value}, eqsE r l' l → (∀ t, (getD l t AV.any).R pl (f t)) → ∀ t, (getD l' t AV.any).R pl' (f t)
  | [], [], _, _, _, t => by simp [getD]; exact any_R pl' _
  | [], _ :: _, _, he, _, _ => he.elim
  | _ :: _, [], _, he, _, _ => he.elim
  | _ :: _, _ :: _, _, he, h, 0 => by
    have he := andT_and AV.triv_eqs he
    exact AV.eqs_R hr he.1 (h 0)
  | _ :: _, _ :: _, f, he, h, t + 1 => by
    have he := andT_and AV.triv_eqs he
    simpa [getD] using eqsE_get hr (f := fun t => f (t + 1)) he.2 (fun t => by simpa [getD] using h (t + 1)) t

theorem eqsH_get {h : Heap} : ∀ {h' : Heap} {n : Nat}, eqsH r h n h' → ∀ (b' : Nat) x', h'[b']? = some x' → x' = .gone ∨ (∃ b x, look r (n + b') = some b ∧ h[b]? = some x ∧ x'.eqs r x) ∨
    ((∀ b, look r (n + b') = some b → h[b]? = none) ∧ ∃ T C, x' = .own T C [])
  | [], _, _, _, _, hx => by simp at hx
  | y' :: l, n, he, 0, x', hx => by
    simp at hx
    subst hx
    have fin : (∀ b, look r n = some b → h[b]? = none) → emptyB y' → (∀ b, look r (n + 0) = some b → h[b]? = none) ∧ ∃ T C, y' = .own T C [] := fun h2 h1 => by
      cases y' with
      | own T C xs => exact ⟨h2, T, C, by have : xs = [] := List.eq_nil_of_length_eq_zero h1; rw [this]⟩
      | _ => exact h1.elim
    by_cases hg : y' = .gone
    · exact .inl hg
    · right
      have h1 : eqsAt r h n y' := by
        have h1 := he.1
        cases y' <;> first | exact absurd rfl hg | exact h1
      unfold eqsAt at h1
      cases hl : look r n with
      | none =>
        rw [hl] at h1
        exact .inr ⟨fun b hb => by simp at hb, (fin (by rw [hl]; intro b hb; cases hb) h1).2⟩
      | some b =>
        rw [hl] at h1
        cases hg2 : get? h b with
        | none =>
          simp only [hg2] at h1
          rw [get?_eq] at hg2
          exact .inr ⟨fun b2 hb => by cases hb; exact hg2, (fin (by rw [hl]; intro b2 hb; cases hb; exact hg2) h1).2⟩
        | some x => simp only [hg2] at h1; rw [get?_eq] at hg2; exact .inl ⟨b, x, rfl, hg2, h1⟩
  | y' :: l, n, he, b' + 1, x', hx => by
    have := eqsH_get he.2 b' x' (by simpa using hx)
    rw [show n + (b' + 1) = n + 1 + b' by omega]
    exact this

def plNew (r : List (Nat × Nat)) (pl : List Pl) (n : Nat) : List Pl := (List.range n).map fun b' => match look r b' with | some b => (pl[b]?).getD ⟨0, true, 0⟩ | none => ⟨0, true, 0⟩
theorem plNew_get {n b' b : Nat} (hn : b' < n) (hl : look r b' = some b) : (plNew r pl n)[b']? = some ((pl[b]?).getD ⟨0, true, 0⟩) := by
  simp [plNew, hn, hl]
theorem plNew_none {n b' : Nat} (hn : b' < n) (hl : look r b' = none) : (plNew r pl n)[b']? = some ⟨0, true, 0⟩ := by
  simp [plNew, hn, hl]
theorem keepsR_look : ∀ {n : Nat}, keepsR r n = true → ∀ b, b < n → look r b = some b
  | 0, _, b, hb => by omega
  | n + 1, hk, b, hb => by
    simp only [keepsR, Bool.and_eq_true, decide_eq_true_eq] at hk
    by_cases e : b = n
    · subst e; exact hk.1
    · exact keepsR_look hk.2 b (by omega)

theorem SV.R_of_low {pl pl' : List Pl} {s : SV} (hb : s.below 0 = true) {v : Value} (h : s.R pl v) : s.R pl' v := by
  rcases h with h | h
  · exact .inl h
  · right
    cases s <;> first | exact h | (simp [SV.below] at hb; done) | skip
    case fn f cap =>
      cases cap with
      | nil => exact h
      | cons x l => simp [SV.below] at hb
theorem RL_of_low {pl pl' : List Pl} : ∀ {l : List SV} {vs : List Value}, belowAll 0 l = true → RL pl l vs → RL pl' l vs
  | [], [], _, _ => trivial
  | [], _ :: _, _, h => h.elim
  | _ :: _, [], _, h => h.elim
  | _ :: _, _ :: _, hb, h => by
    simp only [belowAll, Bool.and_eq_true] at hb
    exact ⟨SV.R_of_low hb.1 h.1, RL_of_low hb.2 h.2⟩
theorem below_append {n : Nat} : ∀ {a b : List SV}, belowAll n a = true → belowAll n b = true → belowAll n (a ++ b) = true
  | [], _, _, hb => hb
  | s :: a, b, ha, hb => by
    simp only [belowAll, List.cons_append, Bool.and_eq_true] at ha ⊢
    exact ⟨ha.1, below_append ha.2 hb⟩
theorem flat_low {C : Codec} : ∀ (xs : List C.τ), belowAll 0 (flatC C xs) = true
  | [] => rfl
  | t :: xs => below_append (C.low_ok t 0) (flat_low xs)
theorem eqsM_R (hr : Follows r pl pl') : ∀ {es' es : List (PV × PV)} {ms : List MapEntry}, eqsM r es' es → EntR pl es ms → EntR pl' es' ms
  | [], [], [], _, _ => trivial
  | [], [], _ :: _, _, h => h.elim
  | [], _ :: _, _, he, _ => he.elim
  | _ :: _, [], _, he, _ => he.elim
  | _ :: _, _ :: _, [], _, h => h.elim
  | (k', v') :: l', (k, v) :: l, e :: ms, he, h => by
    have he := andT_and PV.triv_eqs he
    have he2 := andT_and PV.triv_eqs he.2
    exact ⟨PV.eqs_R hr he.1 h.1, PV.eqs_R hr he2.1 h.2.1, eqsM_R hr he2.2 h.2.2⟩
theorem EntR_low {C : Codec} {pl pl' : List Pl} : ∀ {es : List (C.τ × Int)} {ms : List MapEntry}, EntR pl (omE C es) ms → EntR pl' (omE C es) ms
  | [], [], _ => trivial
  | [], _ :: _, h => h.elim
  | _ :: _, [], h => h.elim
  | (x, n) :: l, e :: ms, h => by
    refine ⟨?_, ?_, EntR_low h.2.2⟩
    · obtain ⟨vs, h1, h2⟩ := h.1
      exact ⟨vs, h1, RL_of_low (C.low_ok x 0) h2⟩
    · rcases h.2.1 with h1 | h1
      · cases h1
      · exact .inr h1
variable {w0 : World} {Sx : Marks} {w : World}
theorem MatchBy_sound [Glob] {q : Nat} {env env' : Env} {h h' : Heap} (hm : MatchBy q r env h env' h') (hR : HRel w0 Sx pl h w) {tmps : Array Value} (hE : EnvR pl env tmps) (hq : q ≤ pl.length) :
    ∃ pl', HRel w0 Sx pl' h' w ∧ EnvR pl' env' tmps ∧ ∀ b, b < q → pl'[b]? = pl[b]? := by
  unfold MatchBy at hm
  split at hm
  · rename_i hc
    simp only [Bool.and_eq_true, List.all_eq_true, decide_eq_true_eq] at hc
    obtain ⟨⟨⟨⟨hinj, hkeep⟩, hdom⟩, hbig⟩, _⟩ := hc
    obtain ⟨hmE, hmH⟩ := hm
    have hlenh : pl.length = h.length := hR.len
    have hdom' : ∀ {b' b}, look r b' = some b → b' < h'.length := fun hl => by have := hdom _ (look_mem hl); rwa [len'_eq] at this
    have hF : Follows r pl (plNew r pl h'.length) := by
      refine ⟨fun b' b p hl hp => by rw [plNew_get (hdom' hl) hl, hp]; rfl, fun b' hl => ⟨_, plNew_get (hdom' hl) hl, ?_⟩⟩
      rw [List.getElem?_eq_none (by rw [len'_eq] at hbig; omega)]
      rfl
    have key : ∀ (b' : Nat) x' p', h'[b']? = some x' → (plNew r pl h'.length)[b']? = some p' → x' = .gone ∨ (∃ b x, look r b' = some b ∧ h[b]? = some x ∧ x'.eqs r x ∧ pl[b]? = some p' ∧ (x'.alive p' = true → x.alive p' = true) ∧ (x'.rd p' = true → x.rd p' = true)) ∨ (p' = ⟨0, true, 0⟩ ∧ ∃ T C, x' = .own T C []) := fun b' x' p' hx hp => by
      rcases eqsH_get hmH b' x' hx with h1 | ⟨b, x, h1, h2, h3⟩ | ⟨h1, T, C, h2⟩
      · exact .inl h1
      · right; left
        rw [Nat.zero_add] at h1
        have hlt : b < pl.length := by rw [hR.len]; exact (List.getElem?_eq_some_iff.1 h2).1
        have h4 := hF.to b' b _ h1 (List.getElem?_eq_getElem hlt)
        rw [hp] at h4
        refine ⟨b, x, h1, h2, h3, by rw [Option.some.inj h4]; exact List.getElem?_eq_getElem hlt, fun ha => ?_, fun ha => ?_⟩
        · cases x' <;> cases x <;> first | exact h3.elim | exact ha | (cases ha; done) | skip
        · cases x' <;> cases x <;> first | exact h3.elim | exact ha | (cases ha; done) | skip
      · right; right
        rw [Nat.zero_add] at h1
        have hlt' : b' < h'.length := (List.getElem?_eq_some_iff.1 hx).1
        refine ⟨?_, T, C, h2⟩
        cases hl : look r b' with
        | none => rw [plNew_none hlt' hl] at hp; exact (Option.some.inj hp).symm
        | some b =>
          rw [plNew_get hlt' hl] at hp
          have := h1 b hl
          have h5 : h.length ≤ b := List.getElem?_eq_none_iff.1 this
          rw [List.getElem?_eq_none (by omega)] at hp
          exact (Option.some.inj hp).symm
    have keya : ∀ (b' : Nat) x' p', h'[b']? = some x' → x'.alive p' = true → (plNew r pl h'.length)[b']? = some p' → ∃ b x, look r b' = some b ∧ h[b]? = some x ∧ x'.eqs r x ∧ pl[b]? = some p' ∧ x.alive p' = true := fun b' x' p' hx ha hp => by
      rcases key b' x' p' hx hp with h1 | ⟨b, x, h1, h2, h3, h4, h5, _⟩ | ⟨h1, T, C, h2⟩
      · rw [h1] at ha; cases ha
      · exact ⟨b, x, h1, h2, h3, h4, h5 ha⟩
      · rw [h2, h1] at ha; cases ha
    refine ⟨plNew r pl h'.length, ⟨by simp [plNew], hR.fr, ?_, ?_, ?_, ?_, ?_, hR.rok, hR.drw⟩, ⟨by rw [eqsE_len hmE]; exact hE.1, eqsE_get hF hmE hE.2⟩, ?_⟩
    · intro b' x' p' hx hp
      rcases key b' x' p' hx hp with h1 | ⟨b, x, h1, h2, h3, h4, h5, _⟩ | ⟨h1, T, C, h2⟩
      · rw [h1]; trivial
      · have hb := hR.hb b _ p' h2 h4
        cases x' with
        | gone => trivial
        | row T cs =>
          cases x with
          | row T2 cs2 =>
            simp only [Blk.eqs] at h3
            split at h3
            · rename_i e; subst e
              obtain ⟨vs, g1, g2⟩ := hb
              exact ⟨vs, eqsL_R hF h3 g1, g2⟩
            · exact h3.elim
          | _ => exact h3.elim
        | ownL T z n cs =>
          cases x with
          | ownL T2 z2 n2 cs2 =>
            simp only [Blk.eqs] at h3
            split at h3
            · rename_i e; obtain ⟨rfl, rfl⟩ := e
              obtain ⟨rfl, h3⟩ := h3
              obtain ⟨vs, g1, g2⟩ := hb
              exact ⟨vs, eqsL_R hF h3 g1, g2⟩
            · exact h3.elim
          | _ => exact h3.elim
        | mp es =>
          cases x with
          | mp es2 =>
            obtain ⟨ms, clock, g1, g2⟩ := hb
            exact ⟨ms, clock, eqsM_R hF h3 g1, g2⟩
          | _ => exact h3.elim
        | omp C es =>
          cases x with
          | mp es2 =>
            obtain ⟨ms, clock, g1, g2⟩ := hb
            obtain ⟨h3⟩ := h3
            exact ⟨ms, clock, eqsM_R (r := []) ⟨fun b' b p hl => by simp [look] at hl, fun b' hl => by simp [look] at hl⟩ h3 g1, g2⟩
          | omp C2 es2 =>
            obtain ⟨h3⟩ := h3
            obtain ⟨ms, clock, g1, g2⟩ := hb
            refine ⟨ms, clock, ?_, g2⟩
            rw [h3]
            exact EntR_low g1
          | _ => exact h3.elim
        | sit c s n =>
          cases x with
          | sit c2 s2 n2 =>
            obtain ⟨rfl, rfl⟩ := h3
            exact hb
          | _ => exact h3.elim
        | lp e ps asg body j => cases x <;> exact h3.elim
        | ro T C xs =>
          cases x with
          | ro T2 C2 xs2 =>
            simp only [Blk.eqs] at h3
            split at h3
            · obtain ⟨hl, hf⟩ := h3
              obtain ⟨vs, g1, g2, g3⟩ := hb
              refine ⟨vs, ?_, fun hn => ?_, g3⟩
              · rw [hf]
                exact RL_of_low (flat_low xs2) g1
              · have := g2 hn
                rw [this] at hl
                exact List.eq_nil_of_length_eq_zero hl
            · exact h3.elim
          | _ => exact h3.elim
        | own T C xs =>
          cases x with
          | ownL T2 z2 n2 cs2 =>
            simp only [Blk.eqs] at h3
            split at h3
            · rename_i e; obtain ⟨rfl, rfl⟩ := e
              obtain ⟨hl, hf⟩ := h3
              obtain ⟨vs, g1, g2⟩ := hb
              refine ⟨vs, eqsL_R hF hf g1, ?_⟩
              rw [hl]; exact g2
            · exact h3.elim
          | own T2 C2 xs2 =>
            simp only [Blk.eqs] at h3
            split at h3
            · rename_i e; obtain ⟨rfl, e⟩ := e
              obtain ⟨hl, hf⟩ := h3
              obtain ⟨vs, g1, g2⟩ := hb
              refine ⟨vs, ?_, ?_⟩
              · rw [hf]
                exact RL_of_low (flat_low xs2) g1
              · rw [hl, e]; exact g2
            · exact h3.elim
          | _ => exact h3.elim
      · rw [h2]
        exact ⟨[], trivial, by rw [h1]; exact World.ownsRowZ_nil w 0 T C.esz⟩
    · intro b' p' x' hp hx ha
      obtain ⟨b, x, _, h2, _, h4, h5⟩ := keya b' x' p' hx ha hp
      exact hR.lt b p' x h4 h2 h5
    · intro b' p' x' hp hx ha
      obtain ⟨b, x, _, h2, _, h4, h5⟩ := keya b' x' p' hx ha hp
      exact hR.own b p' x h4 h2 h5
    · intro b' c' p' q' x' y' hp hq' hx hy ha hya e
      obtain ⟨b, x, h1, h2, _, h4, h5⟩ := keya b' x' p' hx ha hp
      obtain ⟨c, y, k1, k2, _, k4, k5⟩ := keya c' y' q' hy hya hq'
      have := hR.inj b c p' q' x y h4 k4 h2 k2 h5 k5 e
      subst this
      exact injR_mem hinj (look_mem h1) (look_mem k1)
    · intro b' p' x' hp hx hd
      rcases key b' x' p' hx hp with h1 | ⟨b, x, h1, h2, h3, h4, _, h5⟩ | ⟨h1, T, C, h2⟩
      · rw [h1] at hd; cases hd
      · exact hR.ro b p' x h4 h2 (h5 hd)
      · rw [h2] at hd; cases hd
    · intro b hb
      have hl := keepsR_look hkeep b hb
      rw [plNew_get (hdom' hl) hl, List.getElem?_eq_getElem (by omega : b < pl.length)]
      rfl
  · exact hm.elim

theorem addrOf_take {n b o : Nat} (hb : b < n) : addrOf (pl.take n) b o = addrOf pl b o := by
  unfold addrOf
  rw [List.getElem?_take_of_lt hb]
theorem capVals_take {n : Nat} : ∀ {l : List (Nat × Nat)}, l.all (fun x => decide (x.1 < n)) = true → capVals (pl.take n) l = capVals pl l
  | [], _ => rfl
  | (b, o) :: l, h => by
    simp only [List.all_cons, Bool.and_eq_true, decide_eq_true_eq] at h
    simp only [capVals, addrOf_take h.1, capVals_take h.2]
theorem SV.R_take {n : Nat} {s : SV} (hb : s.below n = true) {v : Value} (h : s.R pl v) : s.R (pl.take n) v := by
  rcases h with h | h
  · exact .inl h
  · right
    cases s <;> simp only [SV.val, SV.below, decide_eq_true_eq] at * <;> try exact h
    case ptr => rw [addrOf_take hb]; exact h
    case sl => rw [addrOf_take hb]; exact h
    case ifp => rw [addrOf_take hb]; exact h
    case fn => rw [capVals_take hb]; exact h
    case ow => unfold owVal at *; rw [List.getElem?_take_of_lt hb]; exact h
    case pe => rw [addrOf_take hb]; exact h
    case rs => unfold rsVal at *; rw [List.getElem?_take_of_lt hb]; exact h
    case rp => unfold rpVal at *; rw [List.getElem?_take_of_lt hb]; exact h
    case mp => rw [List.getElem?_take_of_lt hb]; exact h
    case yld => rw [List.getElem?_take_of_lt hb]; exact h
theorem RL_take {n : Nat} : ∀ {l : List SV} {vs : List Value}, belowAll n l = true → RL pl l vs → RL (pl.take n) l vs
  | [], [], _, _ => trivial
  | [], _ :: _, _, h => h.elim
  | _ :: _, [], _, h => h.elim
  | _ :: _, _ :: _, hb, h => by
    simp only [belowAll, Bool.and_eq_true] at hb
    exact ⟨SV.R_take hb.1 h.1, RL_take hb.2 h.2⟩
theorem PV.R_take {n : Nat} {s : PV} (hb : s.below n = true) {v : Value} (h : s.R pl v) : s.R (pl.take n) v := by
  cases s with
  | one s => exact SV.R_take hb h
  | agg l => obtain ⟨vs, rfl, h1⟩ := h; exact ⟨vs, rfl, RL_take hb h1⟩
theorem PL_take {n : Nat} : ∀ {l : List PV} {vs : List Value}, belowPs n l = true → PL pl l vs → PL (pl.take n) l vs
  | [], [], _, _ => trivial
  | [], _ :: _, _, h => h.elim
  | _ :: _, [], _, h => h.elim
  | _ :: _, _ :: _, hb, h => by
    simp only [belowPs, Bool.and_eq_true] at hb
    exact ⟨PV.R_take hb.1 h.1, PL_take hb.2 h.2⟩
theorem AV.R_take {n : Nat} {s : AV} (hb : s.below n = true) {v : Value} (h : s.R pl v) : s.R (pl.take n) v := by
  cases s with
  | v s => exact PV.R_take hb h
  | tup l => obtain ⟨vs, rfl, h1⟩ := h; exact ⟨vs, rfl, PL_take hb h1⟩
theorem belowAs_getD {n : Nat} : ∀ {e : List AV} (t : Nat), belowAs n e = true → getD e t AV.any = AV.any ∨ (getD e t AV.any).below n = true
  | [], _, _ => .inl rfl
  | a :: l, 0, h => by simp only [belowAs, Bool.and_eq_true] at h; exact .inr h.1
  | a :: l, t + 1, h => by simp only [belowAs, Bool.and_eq_true] at h; exact belowAs_getD t h.2
theorem EnvR_take {n : Nat} {e : Env} {tmps : Array Value} (hb : belowAs n e = true) (h : EnvR pl e tmps) : EnvR (pl.take n) e tmps :=
  ⟨h.1, fun t => by
    rcases belowAs_getD t hb with h1 | h1
    · rw [h1]; exact any_R _ _
    · exact AV.R_take h1 (h.2 t)⟩
theorem EntR_take {n : Nat} : ∀ {es : List (PV × PV)} {ms : List MapEntry}, belowEs n es = true → EntR pl es ms → EntR (pl.take n) es ms
  | [], [], _, _ => trivial
  | [], _ :: _, _, h => h.elim
  | _ :: _, [], _, h => h.elim
  | (k, v) :: es, _ :: _, hb, h => by
    simp only [belowEs, Bool.and_eq_true] at hb
    exact ⟨PV.R_take hb.1.1 h.1, PV.R_take hb.1.2 h.2.1, EntR_take hb.2 h.2.2⟩
theorem heapBelow_get {n : Nat} : ∀ {h : Heap}, heapBelow n h = true → ∀ (b : Nat) x, h[b]? = some x → x.below n = true
  | [], _, _, _, hx => by simp at hx
  | y :: l, hb, 0, x, hx => by simp only [heapBelow, Bool.and_eq_true] at hb; simp at hx; subst hx; exact hb.1
  | y :: l, hb, b + 1, x, hx => by simp only [heapBelow, Bool.and_eq_true] at hb; exact heapBelow_get hb.2 b x (by simpa using hx)
theorem HRel.take [Glob] {h : Heap} (hR : HRel w0 Sx pl h w) {n : Nat} (hb : heapBelow n (h.take n) = true) : HRel w0 Sx (pl.take n) (h.take n) w := by
  have hp : ∀ {b : Nat} {p}, (pl.take n)[b]? = some p → pl[b]? = some p := fun {b p} hq => by
    rw [List.getElem?_take] at hq
    split at hq
    · exact hq
    · cases hq
  have hx : ∀ {b : Nat} {x}, (h.take n)[b]? = some x → h[b]? = some x := fun {b x} hq => by
    rw [List.getElem?_take] at hq
    split at hq
    · exact hq
    · cases hq
  refine ⟨by simp [hR.len], hR.fr, fun b x p hxx hpp => ?_, fun b p x hpp hxx ha => hR.lt b p x (hp hpp) (hx hxx) ha, fun b p x hpp hxx ha => hR.own b p x (hp hpp) (hx hxx) ha,
    fun b c p q x y h1 h2 h3 h4 h5 h6 e => hR.inj b c p q x y (hp h1) (hp h2) (hx h3) (hx h4) h5 h6 e, fun b p x h1 h2 h3 => hR.ro b p x (hp h1) (hx h2) h3, hR.rok, hR.drw⟩
  cases x with
  | gone => trivial
  | row T cs =>
    obtain ⟨vs, g1, g2⟩ := hR.hb b _ p (hx hxx) (hp hpp)
    exact ⟨vs, RL_take (heapBelow_get hb b _ hxx) g1, g2⟩
  | ownL T z m cs =>
    obtain ⟨vs, g1, g2⟩ := hR.hb b _ p (hx hxx) (hp hpp)
    exact ⟨vs, RL_take (heapBelow_get hb b _ hxx) g1, g2⟩
  | own T C xs =>
    obtain ⟨vs, g1, g2⟩ := hR.hb b _ p (hx hxx) (hp hpp)
    exact ⟨vs, RL_of_low (flat_low xs) g1, g2⟩
  | mp es =>
    obtain ⟨ms, clock, g1, g2⟩ := hR.hb b _ p (hx hxx) (hp hpp)
    exact ⟨ms, clock, EntR_take (heapBelow_get hb b _ hxx) g1, g2⟩
  | omp C es =>
    obtain ⟨ms, clock, g1, g2⟩ := hR.hb b _ p (hx hxx) (hp hpp)
    exact ⟨ms, clock, EntR_low g1, g2⟩
  | sit c s n => exact hR.hb b _ p (hx hxx) (hp hpp)
  | lp e ps asg body j =>
    obtain ⟨fn, tmps, D, g1, g2⟩ := hR.hb b _ p (hx hxx) (hp hpp)
    exact ⟨fn, tmps, D, EnvR_take (heapBelow_get hb b _ hxx) g1, g2⟩
  | ro T C xs =>
    obtain ⟨vs, g1, g2, g3⟩ := hR.hb b _ p (hx hxx) (hp hpp)
    exact ⟨vs, RL_of_low (flat_low xs) g1, g2, g3⟩
theorem PExt.take_eq [Glob] {pl0 : List Pl} (hp : PExt pl0 pl) : pl.take pl0.length = pl0 := by
  apply List.ext_getElem?
  intro i
  by_cases hi : i < pl0.length
  · rw [List.getElem?_take_of_lt hi, hp i _ (List.getElem?_eq_getElem hi)]
    exact (List.getElem?_eq_getElem hi).symm
  · rw [List.getElem?_take, if_neg hi]
    exact (List.getElem?_eq_none (by omega)).symm
theorem trim_sound [Glob] {h h0 : Heap} {pl0 : List Pl} (hl : pl0.length = h0.length) (hp : PExt pl0 pl) (hR : HRel w0 Sx pl h w) {av : AV} {v : Value} (hv : av.R pl v) :
    ∃ pl', PExt pl0 pl' ∧ HRel w0 Sx pl' (trim (len' h0) av h) w ∧ av.R pl' v := by
  unfold trim
  split
  · rename_i hc
    simp only [Bool.and_eq_true, len'_eq, takeN_eq] at hc ⊢
    refine ⟨pl.take h0.length, ?_, hR.take hc.2, AV.R_take hc.1 hv⟩
    rw [← hl, hp.take_eq]
    exact PExt.refl _
  · exact ⟨pl, hp, hR, hv⟩
end
end Go.AM

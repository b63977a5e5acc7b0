import Derived.Test.YtbehdodaaobcdaaGreatDoorA15
set_option maxHeartbeats 4000000
namespace Go.AM
open Go
section
variable {P : Program}
structure OkS [Glob] (P : Program) (S : Sums) : Prop where
  pure : PureOk P S
  spec : SpecOk P S
  mono : SpecMono S
def HoldsE [Glob] (P : Program) (f : Nat) (q : PSpec) : Prop :=
  ∃ fn, P.funcs[f]? = some fn ∧ fn.body.isSome = true ∧ ∀ args av, (q args).gives av → noPtrs args = true ∧ ∃ v n A S, A.q = 0 ∧ OkS P S ∧ av.valOf = some v ∧ call P S A n fn args [] (fun v' h => v'.valOf = some v ∧ h = [])
theorem Holds.toE [Glob] {S : Sums} (hS : OkS P S) {f : Nat} {q : PSpec} (h : Holds P S f q) : HoldsE P f q := by
  obtain ⟨fn, h1, h2, h3⟩ := h
  refine ⟨fn, h1, h2, fun args av hg => ?_⟩
  obtain ⟨h4, v, n, A, h5, h6, h7⟩ := h3 args av hg
  exact ⟨h4, v, n, A, S, h5, hS, h6, h7⟩
theorem HoldsE.cases [Glob] {f : Nat} {q q1 q2 : PSpec} (h1 : HoldsE P f q1) (h2 : HoldsE P f q2) (hq : ∀ args av, (q args).gives av → (∃ av', (q1 args).gives av' ∧ av'.valOf = av.valOf) ∨ (∃ av', (q2 args).gives av' ∧ av'.valOf = av.valOf)) : HoldsE P f q := by
  obtain ⟨fn, a1, a2, a3⟩ := h1
  obtain ⟨fn', b1, b2, b3⟩ := h2
  obtain rfl : fn = fn' := Option.some.inj (a1.symm.trans b1)
  refine ⟨fn, a1, a2, fun args av hg => ?_⟩
  rcases hq args av hg with ⟨av', h, e⟩ | ⟨av', h, e⟩
  · rw [← e]; exact a3 args av' h
  · rw [← e]; exact b3 args av' h
theorem PureOk.addE [Glob] (hF : Fine P) {S : Sums} (hP : PureOk P S) {f : Nat} {q : PSpec} (hq : HoldsE P f q) {m : List Bool} : PureOk P (S.add f q m) := by
  obtain ⟨fn, hf, hfb, hp⟩ := hq
  have core : ∀ args av, (q args).gives av → ∀ w0 Sx pl h vals, ArgsR pl args vals → ∃ v, ∀ w, HRel w0 Sx pl h w → av.R pl v ∧ Calls P f vals.toArray w (fun e w' => e = .returned v ∧ HRel w0 Sx pl h w') := by
    intro args av hg w0 Sx pl h vals hargs
    obtain ⟨h1, v, n, A, S0, hq0, hS0, h2, h3⟩ := hp args av hg
    exact ⟨v, pure_sound hF hS0.pure hS0.spec hS0.mono hf h1 h2 h3 hq0 hargs⟩
  intro g p hg
  by_cases e : g = f
  · subst e
    simp only [Sums.add, if_true] at hg
    cases hg
    refine ⟨⟨fn, hf, hfb⟩, fun args av hgv w0 Sx pl h vals hargs => ?_⟩
    have hargs' := ArgsR_era (m := m) hargs
    unfold liftQ at hgv
    split at hgv
    · obtain ⟨av', h1, rfl⟩ := gives_map hgv
      obtain ⟨v, hv⟩ := core _ _ h1 w0 Sx pl h vals hargs'
      exact ⟨v, fun w hw => ⟨(AV.R_map lit_ok.1 lit_ok.2).2 (hv w hw).1, (hv w hw).2⟩⟩
    · exact core _ _ hgv w0 Sx pl h vals hargs'
  · simp only [Sums.add, if_neg e] at hg
    exact hP g p hg
theorem OkS.add [Glob] (hF : Fine P) {S : Sums} (h : OkS P S) {f : Nat} {q : PSpec} (hq : HoldsE P f q) {m : List Bool} : OkS P (S.add f q m) := ⟨h.pure.addE hF hq, h.spec, h.mono⟩
theorem OkS.add1 [Glob] (hF : Fine P) {S S0 : Sums} (h : OkS P S) (h0 : OkS P S0) {f : Nat} {q : PSpec} (hq : Holds P S0 f q) {m : List Bool} : OkS P (S.add f q m) := h.add hF (hq.toE h0)
def Sums.addR (S : Sums) (f : Nat) (q : PSpec) : Sums := { S with pure := fun g => if g = f then some (fun args => q (eraM [] args)) else S.pure g }
theorem OkS.addR [Glob] (hF : Fine P) {S : Sums} (h : OkS P S) {f : Nat} {q : PSpec} (hq : HoldsE P f q) : OkS P (S.addR f q) := by
  refine ⟨?_, h.spec, h.mono⟩
  obtain ⟨fn, hf, hfb, hp⟩ := hq
  intro g p hg
  by_cases e : g = f
  · subst e
    simp only [Sums.addR, if_true] at hg
    cases hg
    refine ⟨⟨fn, hf, hfb⟩, fun args av hgv w0 Sx pl h vals hargs => ?_⟩
    obtain ⟨h1, v, n, A, S0, hq0, hS0, h2, h3⟩ := hp _ av hgv
    exact ⟨v, pure_sound hF hS0.pure hS0.spec hS0.mono hf h1 h2 h3 hq0 (ArgsR_era (m := []) hargs)⟩
  · simp only [Sums.addR, if_neg e] at hg
    exact h.pure g p hg
end
end Go.AM
namespace Go.AM
open Go
def shC (n : Nat) : List (Nat × Nat) → List (Nat × Nat)
  | [] => []
  | (b, o) :: l => (b + n, o) :: shC n l
def SV.sh (n : Nat) : SV → SV
  | .ptr b o => .ptr (b + n) o
  | .sl b o l c => .sl (b + n) o l c
  | .ow b z s l q => .ow (b + n) z s l q
  | .pe b z i o => .pe (b + n) z i o
  | .rs b z l c => .rs (b + n) z l c
  | .rp b z i o => .rp (b + n) z i o
  | .mp b => .mp (b + n)
  | .yld b => .yld (b + n)
  | .fn f c => .fn f (shC n c)
  | .ifp t b o => .ifp t (b + n) o
  | s => s
def shL (n : Nat) : List SV → List SV
  | [] => []
  | s :: l => s.sh n :: shL n l
def PV.sh (n : Nat) : PV → PV
  | .one s => .one (s.sh n)
  | .agg l => .agg (shL n l)
def shP (n : Nat) : List PV → List PV
  | [] => []
  | s :: l => s.sh n :: shP n l
def AV.sh (n : Nat) : AV → AV
  | .v p => .v (p.sh n)
  | .tup l => .tup (shP n l)
def shE (n : Nat) : List (PV × PV) → List (PV × PV)
  | [] => []
  | (k, v) :: l => (k.sh n, v.sh n) :: shE n l
def shA (n : Nat) : List AV → List AV
  | [] => []
  | a :: l => a.sh n :: shA n l
def Blk.sh (n : Nat) : Blk → Blk
  | .row T cs => .row T (shL n cs)
  | .ownL T z m cs => .ownL T z m (shL n cs)
  | .mp es => .mp (shE n es)
  | .lp e ps asg body j => .lp (shA n e) ps asg body j
  | b => b
def shH (n : Nat) : Heap → Heap
  | [] => []
  | b :: l => b.sh n :: shH n l
def PSh (n : Nat) (pl pl' : List Pl) : Prop := ∀ (b : Nat) p, pl[b]? = some p → pl'[b + n]? = some p
section
variable {n : Nat} {pl pl' : List Pl}
theorem addrOf_sh (h : PSh n pl pl') {b off : Nat} {a : Addr} (ha : addrOf pl b off = some a) : addrOf pl' (b + n) off = some a := by
  unfold addrOf at *
  cases hp : pl[b]? with
  | none => rw [hp] at ha; cases ha
  | some p => rw [h b p hp]; rw [hp] at ha; exact ha
theorem capVals_sh (h : PSh n pl pl') : ∀ {l : List (Nat × Nat)} {vs : List Value}, capVals pl l = some vs → capVals pl' (shC n l) = some vs
  | [], _, hv => hv
  | (b, o) :: l, vs, hv => by
    simp only [capVals, shC] at *
    cases ha : addrOf pl b o with
    | none => simp [ha] at hv
    | some a =>
      cases hc : capVals pl l with
      | none => simp [hc] at hv
      | some r => rw [addrOf_sh h ha, capVals_sh h hc]; simpa [ha, hc] using hv
theorem owVal_sh (h : PSh n pl pl') {b esz st len : Nat} {v : Value} (hv : owVal pl b esz st len = some v) : owVal pl' (b + n) esz st len = some v := by
  unfold owVal at *
  cases hp : pl[b]? with
  | none => rw [hp] at hv; cases hv
  | some p => rw [h b p hp]; rw [hp] at hv; exact hv
theorem rsVal_sh (h : PSh n pl pl') {b len cap : Nat} {v : Value} (hv : rsVal pl b len cap = some v) : rsVal pl' (b + n) len cap = some v := by
  unfold rsVal at *
  cases hp : pl[b]? with
  | none => rw [hp] at hv; cases hv
  | some p => rw [h b p hp]; rw [hp] at hv; exact hv
theorem rpVal_sh (h : PSh n pl pl') {b m : Nat} {v : Value} (hv : rpVal pl b m = some v) : rpVal pl' (b + n) m = some v := by
  unfold rpVal at *
  cases hp : pl[b]? with
  | none => rw [hp] at hv; cases hv
  | some p => rw [h b p hp]; rw [hp] at hv; exact hv
theorem SV.sh_val (h : PSh n pl pl') {s : SV} {v : Value} (hv : s.val pl = some v) : (s.sh n).val pl' = some v := by
  cases s <;> simp only [SV.val, SV.sh] at * <;> try exact hv
  case ptr b off => cases ha : addrOf pl b off with
    | none => simp [ha] at hv
    | some a => rw [addrOf_sh h ha]; simpa [ha] using hv
  case sl b off len cap => cases ha : addrOf pl b off with
    | none => simp [ha] at hv
    | some a => rw [addrOf_sh h ha]; simpa [ha] using hv
  case ifp t b off => cases ha : addrOf pl b off with
    | none => simp [ha] at hv
    | some a => rw [addrOf_sh h ha]; simpa [ha] using hv
  case ow b esz st len lit => exact owVal_sh h hv
  case rs b esz len cap => exact rsVal_sh h hv
  case rp b esz idx sub => exact rpVal_sh h hv
  case mp b => cases hp : pl[b]? with
    | none => simp [hp] at hv
    | some p => rw [h b p hp]; simpa [hp] using hv
  case yld b => cases hp : pl[b]? with
    | none => simp [hp] at hv
    | some p => rw [h b p hp]; simpa [hp] using hv
  case pe b esz idx sub => cases ha : addrOf pl b (idx * esz + sub) with
    | none => simp [ha] at hv
    | some a => rw [addrOf_sh h ha]; simpa [ha] using hv
  case fn f cap => cases ha : capVals pl cap with
    | none => simp [ha] at hv
    | some a => rw [capVals_sh h ha]; simpa [ha] using hv
theorem SV.sh_R (h : PSh n pl pl') {s : SV} {v : Value} (hv : s.R pl v) : (s.sh n).R pl' v := by
  rcases hv with rfl | hv
  · exact .inl rfl
  · exact .inr (SV.sh_val h hv)
theorem RL.sh (h : PSh n pl pl') : ∀ {l : List SV} {vs : List Value}, RL pl l vs → RL pl' (shL n l) vs
  | [], [], _ => trivial
  | [], _ :: _, hv => hv.elim
  | _ :: _, [], hv => hv.elim
  | _ :: _, _ :: _, hv => ⟨SV.sh_R h hv.1, RL.sh h hv.2⟩
theorem PV.sh_R (h : PSh n pl pl') {p : PV} {v : Value} (hv : p.R pl v) : (p.sh n).R pl' v := by
  cases p with
  | one s => exact SV.sh_R h hv
  | agg l => obtain ⟨vs, h1, h2⟩ := hv; exact ⟨vs, h1, h2.sh h⟩
theorem PL.sh (h : PSh n pl pl') : ∀ {l : List PV} {vs : List Value}, PL pl l vs → PL pl' (shP n l) vs
  | [], [], _ => trivial
  | [], _ :: _, hv => hv.elim
  | _ :: _, [], hv => hv.elim
  | _ :: _, _ :: _, hv => ⟨PV.sh_R h hv.1, PL.sh h hv.2⟩
theorem AV.sh_R (h : PSh n pl pl') {p : AV} {v : Value} (hv : p.R pl v) : (p.sh n).R pl' v := by
  cases p with
  | v p => exact PV.sh_R h hv
  | tup l => obtain ⟨vs, h1, h2⟩ := hv; exact ⟨vs, h1, h2.sh h⟩
theorem EnvR.sh (h : PSh n pl pl') {e : Env} {tmps : Array Value} (hE : EnvR pl e tmps) : EnvR pl' (shA n e) tmps := by
  have hl : ∀ l : Env, (shA n l).length = l.length := fun l => by induction l with | nil => rfl | cons a l ih => simp [shA, ih]
  have hg : ∀ (l : Env) (t : Nat), getD (shA n l) t AV.any = (getD l t AV.any).sh n := fun l => by
    induction l with
    | nil => intro t; rfl
    | cons a l ih =>
      intro t
      cases t with
      | zero => rfl
      | succ t => exact ih t
  exact ⟨by rw [hl]; exact hE.1, fun t => by rw [hg]; exact AV.sh_R h (hE.2 t)⟩
theorem EntR.sh (h : PSh n pl pl') : ∀ {es : List (PV × PV)} {ms : List MapEntry}, EntR pl es ms → EntR pl' (shE n es) ms
  | [], [], _ => trivial
  | [], _ :: _, h => h.elim
  | _ :: _, [], h => h.elim
  | (_, _) :: _, _ :: _, hv => ⟨PV.sh_R h hv.1, PV.sh_R h hv.2.1, EntR.sh h hv.2.2⟩
theorem BlkR.sh (h : PSh n pl pl') {w : World} {x : Blk} {p : Pl} (hb : BlkR pl w x p) : BlkR pl' w (x.sh n) p := by
  cases x with
  | gone => trivial
  | row T cs => obtain ⟨vs, h1, h2⟩ := hb; exact ⟨vs, h1.sh h, h2⟩
  | own T C xs => obtain ⟨vs, h1, h2⟩ := hb; exact ⟨vs, RL_of_low (flat_low xs) h1, h2⟩
  | ownL T z m cs => obtain ⟨vs, h1, h2⟩ := hb; exact ⟨vs, h1.sh h, h2⟩
  | mp es => obtain ⟨ms, clock, h1, h2⟩ := hb; exact ⟨ms, clock, h1.sh h, h2⟩
  | omp C es => obtain ⟨ms, clock, h1, h2⟩ := hb; exact ⟨ms, clock, EntR_low h1, h2⟩
  | sit c s n => exact hb
  | lp e ps asg body j => obtain ⟨fn, tmps, D, h1, h2⟩ := hb; exact ⟨fn, tmps, D, EnvR.sh h h1, h2⟩
  | ro T C xs => obtain ⟨vs, h1, h2, h3⟩ := hb; exact ⟨vs, RL_of_low (flat_low xs) h1, h2, h3⟩
theorem Blk.sh_alive (x : Blk) (p : Pl) : (x.sh n).alive p = x.alive p := by cases x <;> rfl
theorem Blk.sh_rd (x : Blk) (p : Pl) : (x.sh n).rd p = x.rd p := by cases x <;> rfl
theorem shH_len : ∀ (l : Heap), (shH n l).length = l.length
  | [] => rfl
  | _ :: l => by simp [shH, shH_len l]
theorem shH_get : ∀ {l : Heap} {b : Nat} {x : Blk}, (shH n l)[b]? = some x → ∃ y, l[b]? = some y ∧ x = y.sh n
  | [], _, _, h => by simp [shH] at h
  | y :: l, 0, x, h => by simp [shH] at h; exact ⟨y, rfl, h.symm⟩
  | _ :: l, b + 1, x, h => by simp [shH] at h ⊢; exact shH_get h
end
variable {w0 : World} {Sx : Marks} {pl : List Pl} {h : Heap} {w w' : World}
theorem HRel.join [Glob] (hR : HRel w0 Sx pl h w) {pl2 : List Pl} {h2 : Heap} {M : Marks} (h1 : HRel w M pl2 h2 w') (hM : ∀ k, ¬ M k) (hn : ∀ (c : Nat) q y, pl2[c]? = some q → h2[c]? = some y → y.rd q = false) :
    HRel w0 Sx (pl ++ pl2) (h ++ shH pl.length h2) w' ∧ PExt pl (pl ++ pl2) ∧ PSh pl.length pl2 (pl ++ pl2) := by
  have hp : PExt pl (pl ++ pl2) := fun b q hb => by rw [List.getElem?_append_left ((List.getElem?_eq_some_iff.1 hb).1)]; exact hb
  have hs : PSh pl.length pl2 (pl ++ pl2) := fun b q hb => by rw [List.getElem?_append_right (by omega), Nat.add_sub_cancel]; exact hb
  have hblk : ∀ k, k < w.heap.size → w'.heap[k]? = w.heap[k]? := fun k hk => h1.fr.block k hk (hM k)
  have hlen := hR.len
  have cs : ∀ (b : Nat) p x, (pl ++ pl2)[b]? = some p → (h ++ shH pl.length h2)[b]? = some x → (pl[b]? = some p ∧ h[b]? = some x) ∨ (∃ c y, b = c + pl.length ∧ pl2[c]? = some p ∧ h2[c]? = some y ∧ x = y.sh pl.length) := fun b p x hb hx => by
    by_cases hlt : b < pl.length
    · rw [List.getElem?_append_left hlt] at hb
      rw [List.getElem?_append_left (by omega)] at hx
      exact .inl ⟨hb, hx⟩
    · rw [List.getElem?_append_right (by omega)] at hb
      rw [List.getElem?_append_right (by omega), ← hlen] at hx
      obtain ⟨y, h3, h4⟩ := shH_get hx
      exact .inr ⟨b - pl.length, y, by omega, hb, h3, h4⟩
  refine ⟨⟨by simp [hlen, shH_len, h1.len], ⟨h1.fr.os.trans hR.fr.os, h1.fr.tape.trans hR.fr.tape, h1.fr.output.trans hR.fr.output, Nat.le_trans hR.fr.size h1.fr.size, fun k hk hS => (hblk k (Nat.lt_of_lt_of_le hk hR.fr.size)).trans (hR.fr.block k hk hS)⟩, ?_, ?_, ?_, ?_, ?_, hR.rok, fun d => Nat.le_trans (hR.drw d) (h1.drw d)⟩, hp, hs⟩
  rotate_right
  · intro b p x hb hx hd
    rcases cs b p x hb hx with ⟨h3, h4⟩ | ⟨c, y, rfl, h3, h4, rfl⟩
    · exact hR.ro b p x h3 h4 hd
    · rw [Blk.sh_rd, hn c p y h3 h4] at hd; cases hd
  · intro b x p hx hb
    rcases cs b p x hb hx with ⟨h3, h4⟩ | ⟨c, y, rfl, h3, h4, rfl⟩
    · exact (hR.hb b x p h4 h3).mono hp (fun ha => hblk _ (hR.lt b p x h3 h4 ha)) (fun hd => hblk _ (Nat.lt_of_lt_of_le (hR.rok.1 _ (hR.ro b p x h3 h4 hd)).1 hR.fr.size))
    · exact (h1.hb c y p h4 h3).sh hs
  · intro b p x hb hx ha
    rcases cs b p x hb hx with ⟨h3, h4⟩ | ⟨c, y, rfl, h3, h4, rfl⟩
    · exact Nat.lt_of_lt_of_le (hR.lt b p x h3 h4 ha) h1.fr.size
    · exact h1.lt c p y h3 h4 (by rwa [Blk.sh_alive] at ha)
  · intro b p x hb hx ha
    rcases cs b p x hb hx with ⟨h3, h4⟩ | ⟨c, y, rfl, h3, h4, rfl⟩
    · exact hR.own b p x h3 h4 ha
    · rcases h1.own c p y h3 h4 (by rwa [Blk.sh_alive] at ha) with h | h
      · exact .inl (Nat.le_trans hR.fr.size h)
      · exact (hM _ h).elim
  · intro b c p q x y hb hc hx hy ha hya e
    have new : ∀ {c : Nat} {p : Pl} {y : Blk}, pl2[c]? = some p → h2[c]? = some y → (y.sh pl.length).alive p = true → w.heap.size ≤ p.blk := fun h3 h4 ha => by
      rcases h1.own _ _ _ h3 h4 (by rwa [Blk.sh_alive] at ha) with h | h
      · exact h
      · exact (hM _ h).elim
    rcases cs b p x hb hx with ⟨h3, h4⟩ | ⟨c1, y1, rfl, h3, h4, rfl⟩ <;> rcases cs c q y hc hy with ⟨k3, k4⟩ | ⟨c2, y2, rfl, k3, k4, rfl⟩
    · exact hR.inj b c p q x y h3 k3 h4 k4 ha hya e
    · have := hR.lt b p x h3 h4 ha
      have := new k3 k4 hya
      omega
    · have := hR.lt c q y k3 k4 hya
      have := new h3 h4 ha
      omega
    · rw [h1.inj c1 c2 p q y1 y2 h3 k3 h4 k4 (by rwa [Blk.sh_alive] at ha) (by rwa [Blk.sh_alive] at hya) e]
section
variable {P : Program}
abbrev FSpec := List AV → Option (Prop × AV × Heap)
def freshSpec (q : FSpec) : ASpec := fun args h K => match q args with
  | some (p, v, hs) => p ∧ K (v.sh (len' h)) (app h (shH (len' h) hs))
  | none => False
def HoldsF [Glob] (P : Program) (f : Nat) (q : FSpec) : Prop :=
  ∃ fn, P.funcs[f]? = some fn ∧ fn.body.isSome = true ∧ ∀ args p v hs, q args = some (p, v, hs) → p → noPtrs args = true ∧ ∃ n A S, A.q = 0 ∧ OkS P S ∧ call P S A n fn args [] (fun v' h' => v' = v ∧ h' = hs)
def Sums.addF (S : Sums) (f : Nat) (q : FSpec) : Sums := { S with spec := fun g => if g = f then some (freshSpec q) else S.spec g }
theorem OkS.addF [Glob] (hF : Fine P) {S : Sums} (h : OkS P S) {f : Nat} {q : FSpec} (hq : HoldsF P f q) : OkS P (S.addF f q) := by
  refine ⟨h.pure, ⟨fun g sp hg => ?_, h.spec.2⟩, fun g sp hg => ?_⟩
  · by_cases e : g = f
    · subst e
      simp only [Sums.addF, if_true] at hg
      cases hg
      obtain ⟨fn, hf, hfb, hp⟩ := hq
      refine ⟨⟨fn, hf, hfb⟩, fun args hh K hsp w0 Sx pl w vals hR hargs => ?_⟩
      unfold freshSpec at hsp
      split at hsp
      · rename_i p v hs hqa
        obtain ⟨hp0, hK⟩ := hsp
        obtain ⟨hb0, n, A, S0, hA, hS0, hc⟩ := hp args p v hs hqa hp0
        refine (call_sound hF hS0.pure hS0.spec hS0.mono hf hc (.inl (by simpa using hA)) (empty_R w hR.tabw) (noPtrs_R hb0 hargs)).mono ?_
        rintro e w' ⟨v', av, h', pl', rfl, hv', _, hR', rfl, rfl⟩
        obtain ⟨j1, j2, j3⟩ := hR.join hR' (fun _ h => h) (fun c q y hq hy => by
          cases hd : y.rd q with
          | false => rfl
          | true => exact (hR'.ro c q y hq hy hd).elim)
        rw [app_eq, len'_eq, ← hR.len] at hK
        exact ⟨v', _, _, _, rfl, AV.sh_R j3 hv', j2, j1, hK⟩
      · exact hsp.elim
    · simp only [Sums.addF, if_neg e] at hg
      exact h.spec.1 g sp hg
  · by_cases e : g = f
    · subst e
      simp only [Sums.addF, if_true] at hg
      cases hg
      intro args hh K K' hK hx
      unfold freshSpec at hx ⊢
      split at hx
      · exact ⟨hx.1, hK _ _ hx.2⟩
      · exact hx.elim
    · simp only [Sums.addF, if_neg e] at hg
      exact h.mono g sp hg
end
end Go.AM
namespace Go.AM
open Go
section
variable {w0 : World} {Sx : Marks} {pl : List Pl} {h : Heap} {w w' : World}
theorem HRel.later [Glob] (hR : HRel w0 Sx pl h w) (hfr : Fr w (fun _ => False) w') (hdr : Glob.dr → w.drawn ≤ w'.drawn) : HRel w0 Sx pl h w' := by
  have hblk : ∀ k, k < w.heap.size → w'.heap[k]? = w.heap[k]? := fun k hk => hfr.block k hk (fun h => h)
  refine ⟨hR.len, ⟨hfr.os.trans hR.fr.os, hfr.tape.trans hR.fr.tape, hfr.output.trans hR.fr.output, Nat.le_trans hR.fr.size hfr.size, fun k hk hs => (hblk k (Nat.lt_of_lt_of_le hk hR.fr.size)).trans (hR.fr.block k hk hs)⟩, ?_, ?_, hR.own, hR.inj, hR.ro, hR.rok, fun d => Nat.le_trans (hR.drw d) (hdr d)⟩
  · intro b x p hx hp
    exact (hR.hb b _ p hx hp).mono (PExt.refl pl) (fun ha => hblk _ (hR.lt b p _ hp hx ha)) (fun hd => hblk _ (Nat.lt_of_lt_of_le (hR.rok.1 _ (hR.ro b p _ hp hx hd)).1 hR.fr.size))
  · intro b p x hp hx ha
    exact Nat.lt_of_lt_of_le (hR.lt b p x hp hx ha) hfr.size
theorem row_R [Glob] (htab : Glob.tab w) {C : Codec} {xs : List C.τ} {ad : Option Addr} {us : List Value} (hr : RL pl (flatC C xs) us) (hn : ad = none → xs = []) (ha : ∀ a, ad = some a → a.spot = none ∧ a.block < w.heap.size ∧ Seen w a.block a.off us) :
    ∃ (p : Pl) (M : Marks), (∀ k, ¬ M k) ∧ HRel w M [p] [.ro 0 C xs] w ∧ ∀ m c, (ad = none → m = 0 ∧ c = 0) → rsVal [p] 0 m c = some (.slice ad m c) := by
  cases ad with
  | none =>
    have hxs := hn rfl
    subst hxs
    refine ⟨⟨0, true, 0⟩, noMarks, fun k h => h, ⟨rfl, ⟨rfl, rfl, rfl, Nat.le_refl _, fun _ _ _ => rfl⟩, ?_, ?_, ?_, ?_, ?_, ⟨fun k hk => hk.elim, htab, fun k _ h => h⟩, fun _ => Nat.le_refl _⟩, fun m c hmc => ?_⟩
    · intro b x p hx hp
      cases b with
      | zero =>
        simp at hx hp
        subst hx hp
        exact ⟨[], trivial, fun _ => rfl, fun j v hj => by simp at hj⟩
      | succ b => simp at hx
    · intro b p x hp hx hal
      cases b with
      | zero => simp at hx; subst hx; cases hal
      | succ b => simp at hx
    · intro b p x hp hx hal
      cases b with
      | zero => simp at hx; subst hx; cases hal
      | succ b => simp at hx
    · intro b c p q x y hp hq hx hy hal
      cases b with
      | zero => simp at hx; subst hx; cases hal
      | succ b => simp at hx
    · intro b p x hp hx hd
      cases b with
      | zero => simp at hx hp; subst hx hp; cases hd
      | succ b => simp at hx
    · obtain ⟨rfl, rfl⟩ := hmc rfl
      simp [rsVal]
  | some a =>
    obtain ⟨h1, h2, h3⟩ := ha a rfl
    obtain ⟨ab, ao, asp⟩ := a
    simp only at h1 h2 h3
    subst h1
    refine ⟨⟨ab, false, ao⟩, ⟨fun _ => False, fun k => k = ab⟩, fun k h => h, ⟨rfl, ⟨rfl, rfl, rfl, Nat.le_refl _, fun _ _ _ => rfl⟩, ?_, ?_, ?_, ?_, ?_, ⟨fun k hk => ⟨by rw [show k = ab from hk]; exact h2, fun h => h⟩, htab, fun k _ h => h⟩, fun _ => Nat.le_refl _⟩, fun m c _ => ?_⟩
    · intro b x p hx hp
      cases b with
      | zero =>
        simp at hx hp
        subst hx hp
        exact ⟨us, RL_of_low (flat_low xs) hr, fun h => by simp at h, h3⟩
      | succ b => simp at hx
    · intro b p x hp hx hal
      cases b with
      | zero => simp at hx; subst hx; cases hal
      | succ b => simp at hx
    · intro b p x hp hx hal
      cases b with
      | zero => simp at hx; subst hx; cases hal
      | succ b => simp at hx
    · intro b c p q x y hp hq hx hy hal
      cases b with
      | zero => simp at hx; subst hx; cases hal
      | succ b => simp at hx
    · intro b p x hp hx hd
      cases b with
      | zero => simp at hp; subst hp; rfl
      | succ b => simp at hx
    · simp [rsVal]
theorem shC_add (n m : Nat) : ∀ (l : List (Nat × Nat)), shC n (shC m l) = shC (n + m) l
  | [] => rfl
  | (b, o) :: l => by simp [shC, shC_add n m l, Nat.add_comm, Nat.add_left_comm]
theorem SV.sh_add (n m : Nat) (s : SV) : (s.sh m).sh n = s.sh (n + m) := by
  cases s <;> simp [SV.sh, shC_add, Nat.add_comm, Nat.add_left_comm]
theorem shL_add (n m : Nat) : ∀ (l : List SV), shL n (shL m l) = shL (n + m) l
  | [] => rfl
  | s :: l => by simp [shL, shL_add n m l, SV.sh_add]
theorem PV.sh_add (n m : Nat) (p : PV) : (p.sh m).sh n = p.sh (n + m) := by
  cases p <;> simp [PV.sh, shL_add, SV.sh_add]
theorem shP_add (n m : Nat) : ∀ (l : List PV), shP n (shP m l) = shP (n + m) l
  | [] => rfl
  | s :: l => by simp [shP, shP_add n m l, PV.sh_add]
theorem AV.sh_add (n m : Nat) (v : AV) : (v.sh m).sh n = v.sh (n + m) := by
  cases v <;> simp [AV.sh, shP_add, PV.sh_add]
theorem shE_add (n m : Nat) : ∀ (l : List (PV × PV)), shE n (shE m l) = shE (n + m) l
  | [] => rfl
  | (k, v) :: l => by simp [shE, shE_add n m l, PV.sh_add]
theorem shA_add (n m : Nat) : ∀ (l : List AV), shA n (shA m l) = shA (n + m) l
  | [] => rfl
  | v :: l => by simp [shA, shA_add n m l, AV.sh_add]
theorem Blk.sh_add (n m : Nat) (x : Blk) : (x.sh m).sh n = x.sh (n + m) := by
  cases x <;> simp [Blk.sh, shL_add, shE_add, shA_add]
theorem shH_add (n m : Nat) : ∀ (l : Heap), shH n (shH m l) = shH (n + m) l
  | [] => rfl
  | b :: l => by simp [shH, shH_add n m l, Blk.sh_add]
theorem shC_low (n : Nat) : ∀ {l : List (Nat × Nat)}, l.all (fun x => decide (x.1 < 0)) = true → shC n l = l
  | [], _ => rfl
  | (b, o) :: l, h => by simp at h
theorem SV.sh_low {n : Nat} {s : SV} (h : s.below 0 = true) : s.sh n = s := by
  cases s <;> simp only [SV.below, SV.sh] at * <;> try rfl
  all_goals first
    | (simp at h; done)
    | (rw [shC_low n h])
theorem shL_low {n : Nat} : ∀ {l : List SV}, belowAll 0 l = true → shL n l = l
  | [], _ => rfl
  | s :: l, h => by
    simp only [belowAll, Bool.and_eq_true] at h
    simp [shL, SV.sh_low h.1, shL_low h.2]
theorem PV.sh_low {n : Nat} {p : PV} (h : p.below 0 = true) : p.sh n = p := by
  cases p with
  | one s => simp only [PV.sh, SV.sh_low (s := s) h]
  | agg l => simp only [PV.sh, shL_low (l := l) h]
theorem shP_low {n : Nat} : ∀ {l : List PV}, belowPs 0 l = true → shP n l = l
  | [], _ => rfl
  | s :: l, h => by
    simp only [belowPs, Bool.and_eq_true] at h
    simp [shP, PV.sh_low h.1, shP_low h.2]
theorem AV.sh_low {n : Nat} {v : AV} (h : v.below 0 = true) : v.sh n = v := by
  cases v with
  | v p => simp only [AV.sh, PV.sh_low (p := p) h]
  | tup l => simp only [AV.sh, shP_low (l := l) h]
end
def del {α : Type _} : List α → Nat → List α
  | [], _ => []
  | _ :: l, 0 => l
  | a :: l, n + 1 => a :: del l n
def ins {α : Type _} (x : α) : List α → Nat → List α
  | l, 0 => x :: l
  | [], _ + 1 => [x]
  | a :: l, n + 1 => a :: ins x l n
theorem args_del {pl : List Pl} : ∀ {l : List AV} {vs : List Value} {i : Nat} {a : AV}, ArgsR pl l vs → get? l i = some a → noPtrs (del l i) = true →
    ∃ v, a.R pl v ∧ ∀ (pl1 : List Pl) (b : AV), b.R pl1 v → ArgsR pl1 (ins b (del l i) i) vs
  | [], _, _, _, _, h, _ => by simp [get?] at h
  | _ :: _, [], _, _, h, _, _ => h.elim
  | x :: l, v :: vs, 0, a, h, hg, hn => by
    simp [get?] at hg
    subst hg
    refine ⟨v, h.1, fun pl1 b hb => ?_⟩
    have e : ins b (del (x :: l) 0) 0 = b :: l := by cases l <;> rfl
    rw [e]
    exact ⟨hb, (noPtrs_R hn h.2).ext (fun c p hc => by simp at hc)⟩
  | x :: l, v :: vs, i + 1, a, h, hg, hn => by
    simp only [del, noPtrs, Bool.and_eq_true] at hn
    obtain ⟨u, h1, h2⟩ := args_del h.2 (show get? l i = some a by simpa [get?] using hg) hn.2
    refine ⟨u, h1, fun pl1 b hb => ⟨?_, h2 pl1 b hb⟩⟩
    have := AV.R_take (n := 0) hn.1 h.1
    simp at this
    exact this.ext (fun c p hc => by simp at hc)
section
variable {P : Program}
abbrev RSpec (C : Codec) := List AV → List C.τ → Option (Prop × AV × Heap)
def noRo : Heap → Bool
  | [] => true
  | .ro _ _ _ :: _ => false
  | _ :: l => noRo l
theorem noRo_get : ∀ {l : Heap} {k : Nat} {x : Blk} {p : Pl}, noRo l = true → l[k]? = some x → x.rd p = false
  | [], _, _, _, _, h => by simp at h
  | b :: l, 0, x, p, hn, h => by
    simp at h
    subst h
    cases b <;> first | rfl | (simp [noRo] at hn)
  | b :: l, k + 1, x, p, hn, h => by
    have : noRo l = true := by cases b <;> first | exact hn | (simp [noRo] at hn)
    exact noRo_get this (by simpa using h)
def rowK (h : Heap) (p : Prop) (v : AV) (hs : Heap) (K : KV) : Prop := match hs with
  | [] => if v.below 0 then p ∧ K v h else False
  | b :: l => if noRo (b :: l) then p ∧ K (v.sh (len' h + 1)) (app h (.gone :: shH (len' h + 1) (b :: l))) else False
def rowSpec (i : Nat) (C : Codec) (q : RSpec C) : ASpec := fun args h K => match get? args i with
  | some a => (match srcV h a with
    | some ⟨C2, (_, m, pr, ys)⟩ => if decide (C2.esz = C.esz) && noPtrs (del args i) then ∃ zs : List C.τ, SameRows C zs C2 ys ∧ (match q (del args i) zs with
      | some (p, v, hs) => rowK h (pr ∧ p) v hs K
      | none => False) else False
    | none => (match a with
      | .v (.one .nils) => if noPtrs (del args i) then (match q (del args i) [] with
        | some (p, v, hs) => rowK h p v hs K
        | none => False) else False
      | _ => False))
  | none => False
structure CallR (P : Program) (S : Sums) (A : Annos) (n : Nat) (fn : Func) (args : List AV) (h : Heap) (K : KV) : Prop where
  out : call P S A n fn args h K
def HoldsR [Glob] (P : Program) (f : Nat) (i : Nat) (C : Codec) (q : RSpec C) : Prop :=
  ∃ fn, P.funcs[f]? = some fn ∧ fn.body.isSome = true ∧ ∀ os xs p v hs, q os xs = some (p, v, hs) → p → noPtrs os = true →
    ∀ c, ∃ n A S, A.q = 1 ∧ OkS P S ∧ CallR P S A n fn (ins (.v (.one (.rs 0 C.esz xs.length c))) os i) [.ro 0 C xs] (fun v' h' => MatchTo 1 [v'] h' ([v.sh 1], .ro 0 C xs :: shH 1 hs))
def Sums.addSp (S : Sums) (f : Nat) (sp : ASpec) : Sums := { S with spec := fun g => if g = f then some sp else S.spec g }
theorem rowK_mono {h : Heap} {p : Prop} {v : AV} {hs : Heap} {K K' : KV} (hK : ∀ v h, K v h → K' v h) (hk : rowK h p v hs K) : rowK h p v hs K' := by
  unfold rowK at hk ⊢
  split at hk
  · split at hk
    · rename_i hc; rw [if_pos hc]; exact ⟨hk.1, hK _ _ hk.2⟩
    · exact hk.elim
  · split at hk
    · rename_i hc; rw [if_pos hc]; exact ⟨hk.1, hK _ _ hk.2⟩
    · exact hk.elim
theorem rowSpec_mono {i : Nat} {C : Codec} {q : RSpec C} {args : List AV} {h : Heap} {K K' : KV} (hK : ∀ v h, K v h → K' v h) (hk : rowSpec i C q args h K) : rowSpec i C q args h K' := by
  unfold rowSpec at hk ⊢
  split at hk
  · split at hk
    · split at hk
      · rename_i hc
        rw [if_pos hc]
        obtain ⟨zs, hz, hk⟩ := hk
        refine ⟨zs, hz, ?_⟩
        split at hk
        · exact rowK_mono hK hk
        · exact hk.elim
      · exact hk.elim
    · split at hk
      · split at hk
        · rename_i hc
          rw [if_pos hc]
          split at hk
          · exact rowK_mono hK hk
          · exact hk.elim
        · exact hk.elim
      · exact hk.elim
  · exact hk.elim
theorem OkS.addRow [Glob] (hF : Fine P) {S : Sums} (h : OkS P S) {f i : Nat} {C : Codec} {q : RSpec C} (hq : HoldsR P f i C q) : OkS P (S.addSp f (rowSpec i C q)) := by
  refine ⟨h.pure, ⟨fun g sp hg => ?_, h.spec.2⟩, fun g sp hg => ?_⟩
  · by_cases e : g = f
    · subst e
      simp only [Sums.addSp, if_true] at hg
      cases hg
      obtain ⟨fn, hf, hfb, hp⟩ := hq
      refine ⟨⟨fn, hf, hfb⟩, fun args hh K hsp w0 Sx pl w vals hR hargs => ?_⟩
      -- the call, from the row alone
      have core : ∀ (a : AV) (ad : Option Addr) (m c : Nat) (us : List Value) (xs : List C.τ) (p : Prop) (v : AV) (hs : Heap), get? args i = some a → (∀ u, a.R pl u → u = .slice ad m c) → RL pl (flatC C xs) us → xs.length = m → (ad = none → m = 0 ∧ c = 0) →
          (∀ b, ad = some b → b.spot = none ∧ b.block < w.heap.size ∧ Seen w b.block b.off us) → noPtrs (del args i) = true → q (del args i) xs = some (p, v, hs) → p → rowK hh True v hs K →
          Calls P g vals.toArray w (fun e w' => ∃ v av h' pl', e = .returned v ∧ av.R pl' v ∧ PExt pl pl' ∧ HRel w0 Sx pl' h' w' ∧ K av h') := by
        intro a ad m c us xs p v hs hga hsl hrl hlen hnil hat hno hqq hpp hK
        obtain ⟨u, hu1, hu2⟩ := args_del hargs hga hno
        obtain rfl := hsl u hu1
        obtain ⟨p1, M, hM, hR1, hval⟩ := row_R (w := w) (pl := pl) hR.tabw hrl (fun hn => List.eq_nil_of_length_eq_zero (by rw [hlen]; exact (hnil hn).1)) hat
        obtain ⟨n, A, S0, hA, hS0, hc⟩ := hp _ xs p v hs hqq hpp hno c
        have hargs1 := hu2 [p1] (.v (.one (.rs 0 C.esz xs.length c))) (.inr (by rw [hlen]; exact hval m c hnil))
        refine (call_sound hF hS0.pure hS0.spec hS0.mono hf hc.out (.inl (by simpa using hA)) hR1 hargs1).mono ?_
        rintro e w' ⟨v', av, h', pl0, rfl, hv0, hpe0, hR0, hmt⟩
        rw [MatchTo_eq] at hmt
        have hlen1 : 1 ≤ pl0.length := by
          have := hpe0 0 p1 rfl
          have := (List.getElem?_eq_some_iff.1 this).1
          omega
        obtain ⟨pl', hR', hE', _⟩ := MatchBy_sound hmt hR0 (tmps := #[v']) ⟨rfl, fun t => by
          cases t with
          | zero => simpa [getD, Array.getD] using hv0
          | succ t => exact any_R pl0 _⟩ hlen1
        have hv' : (v.sh 1).R pl' v' := by simpa [getD, Array.getD] using hE'.2 0
        have hfr : Fr w (fun _ => False) w' := ⟨hR'.fr.os, hR'.fr.tape, hR'.fr.output, hR'.fr.size, fun k hk _ => hR'.fr.block k hk (hM k)⟩
        unfold rowK at hK
        split at hK
        · split at hK
          · rename_i hlow
            refine ⟨v', v, hh, pl, rfl, ?_, PExt.refl pl, hR.later hfr hR'.drw, hK.2⟩
            rw [AV.sh_low hlow] at hv'
            have := AV.R_take (n := 0) hlow hv'
            simp at this
            exact this.ext (fun b p hb => by simp at hb)
          · exact hK.elim
        · rename_i b l
          split at hK
          case isFalse => exact hK.elim
          rename_i hnr
          have hR2 := hR'.forget 0
          have e1 : AM.set (.ro 0 C xs :: shH 1 (b :: l)) 0 .gone = .gone :: shH 1 (b :: l) := rfl
          rw [e1] at hR2
          obtain ⟨j1, j2, j3⟩ := hR.join hR2 hM (fun k q y hk hy => by
            cases k with
            | zero => simp at hy; subst hy; rfl
            | succ k =>
              simp only [List.getElem?_cons_succ] at hy
              obtain ⟨z, hz, rfl⟩ := shH_get hy
              rw [Blk.sh_rd]
              exact noRo_get hnr hz)
          rw [app_eq, len'_eq, ← hR.len] at hK
          refine ⟨v', _, _, _, rfl, AV.sh_R j3 hv', j2, j1, ?_⟩
          rw [AV.sh_add]
          have e2 : shH pl.length (.gone :: shH 1 (b :: l)) = .gone :: shH (pl.length + 1) (b :: l) := by
            show Blk.sh _ .gone :: _ = _
            rw [shH_add]
            rfl
          rw [e2]
          exact hK.2
      unfold rowSpec at hsp
      split at hsp
      · rename_i a hga
        split at hsp
        · rename_i C2 b2 m pr ys hsrc
          split at hsp
          · rename_i hc
            simp only [Bool.and_eq_true, decide_eq_true_eq] at hc
            obtain ⟨hce, hno⟩ := hc
            obtain ⟨zs, hsr, hsp⟩ := hsp
            split at hsp
            · rename_i p v hs hqq
              have hpre : (pr ∧ p) ∧ rowK hh True v hs K := by
                unfold rowK at hsp ⊢
                split at hsp
                · split at hsp
                  · rename_i hl; rw [if_pos hl]; exact ⟨hsp.1, trivial, hsp.2⟩
                  · exact hsp.elim
                · split at hsp
                  · rename_i hl; rw [if_pos hl]; exact ⟨hsp.1, trivial, hsp.2⟩
                  · exact hsp.elim
              obtain ⟨⟨hpr, hpp⟩, hK⟩ := hpre
              obtain ⟨u, hu1, _⟩ := args_del hargs hga hno
              obtain ⟨ad, c, us, k1, k2, k3, k4, k5, k6⟩ := srcV_R hR hu1 hsrc hpr
              refine core a ad m c us _ p v hs hga (fun u' hu' => ?_) (same_R hsr k2) (by rw [hsr.hl', k3]) k5 k6 hno hqq hpp hK
              rw [← k1]
              cases a with
              | v pa =>
                cases pa with
                | one sa =>
                  have hkn : (PV.one sa).known = true := by
                    cases sa <;> first | rfl | (simp [srcV] at hsrc)
                  exact PV.known_eq hkn hu' hu1
                | agg l => simp [srcV] at hsrc
              | tup l => simp [srcV] at hsrc
            · exact hsp.elim
          · exact hsp.elim
        · split at hsp
          · split at hsp
            · rename_i hno
              split at hsp
              · rename_i p v hs hqq
                have hpre : p ∧ rowK hh True v hs K := by
                  unfold rowK at hsp ⊢
                  split at hsp
                  · split at hsp
                    · rename_i hl; rw [if_pos hl]; exact ⟨hsp.1, trivial, hsp.2⟩
                    · exact hsp.elim
                  · split at hsp
                    · rename_i hl; rw [if_pos hl]; exact ⟨hsp.1, trivial, hsp.2⟩
                    · exact hsp.elim
                obtain ⟨hpp, hK⟩ := hpre
                exact core _ none 0 0 [] [] p v hs hga (fun u hu => nils_R hu) trivial rfl (fun _ => ⟨rfl, rfl⟩) (fun b hb => by cases hb) hno hqq hpp hK
              · exact hsp.elim
            · exact hsp.elim
          · exact hsp.elim
      · exact hsp.elim
    · simp only [Sums.addSp, if_neg e] at hg
      exact h.spec.1 g sp hg
  · by_cases e : g = f
    · subst e
      simp only [Sums.addSp, if_true] at hg
      cases hg
      intro args hh K K' hK hx
      exact rowSpec_mono hK hx
    · simp only [Sums.addSp, if_neg e] at hg
      exact h.mono g sp hg
end
end Go.AM

import Derived.Test.YtbehdodaaobcdaaGreatDoorA07
import Derived.OrdersIn
import Derived.TacticsIn
import Derived.RangeFuncCalls
import Derived.Test.YtbehdodaaobcdaaGreatDoorA11
import Derived.RangeFuncRecord
set_option maxHeartbeats 4000000
namespace Go.AM
open Go
section
variable {P : Program}
def FR (r : Option Nat) : Fence := { Fence.wide with round := r }
theorem roomR {r : Option Nat} (n : Nat) : (FR r).room n := fun _ h => by simp [FR, Fence.wide] at h
theorem callsR {r : Option Nat} {f : FuncId} {args : Array Value} {w : World} {R : Ending → World → Prop} (h : Calls P f args w R) : CallsIn (FR r) 0 P f args w R :=
  (callsIn_wide (n := 0)).2 h
theorem rowsR {r : Option Nat} {row : String} {args : Array Value} {w : World} {R : Value → World → Prop} (h : Rows P row args w R) : RowsIn (FR r) 0 P row args w R :=
  fun c cs _ => let ⟨v, w', h1, h2⟩ := h c cs; ⟨v, w', h1, stepsIn_wide.2 h2⟩
theorem opR {r : Option Nat} {o : Oper} {a : Act} {w : World} {K : Act → World → Prop} {Q : Exit → Act → World → Prop} (hd : ∀ c, o.op ≠ .defer c) (h : o.wp P a w K Q) : o.wpIn (FR r) 0 P a w K Q := by
  refine ⟨fun _ _ => trivial, ?_⟩
  rw [Oper.semAt_eq _ a.eval o hd]
  unfold Oper.wp at h
  generalize (execOp a.eval o).run P w = x at *
  cases x with
  | ok y w' =>
    cases y <;> simp only [Oper.upon] at h <;> simp only [Oper.uponIn] <;>
      first
        | exact h
        | exact h.elim
        | exact ⟨fun h => by simp [FR, Fence.wide] at h, (callsR h).mono fun e w'' he => by cases e <;> exact he⟩
        | exact ⟨fun h => by simp [FR, Fence.wide] at h, rowsR h⟩
  | halt y w' => cases y <;> simp only [Oper.upon] at h <;> simp only [Oper.uponIn] <;> first | exact h | exact h.elim
theorem plain_of_wp {o : Oper} {a : Act} {w : World} (h : o.wp P a w (fun a' _ => a'.defers = a.defers) (fun _ _ _ => False)) : ∀ c, o.op ≠ .defer c := by
  intro c hc
  unfold Oper.wp execOp at h
  simp only [hc, Sem.run_bind] at h
  generalize Sem.run P _ w = x at h
  cases x with
  | ok d w' =>
    simp only [Result.andThen, Sem.run_pure, Oper.upon, put_defers] at h
    have := congrArg List.length h
    simp at this
  | halt e w' => cases e <;> simp [Result.andThen, Oper.upon] at h
variable {C : World → Prop} {ops : Array Oper} {md : Region.Mode}
theorem quiet_plain {o : Oper} {a : Act} {w : World} {v : Value} (h : o.quietAt P a C w v) : ∀ c, o.op ≠ .defer c := by
  intro c hc
  unfold Oper.quietAt execOp at h
  simp only [hc, Sem.run_bind] at h
  generalize Sem.run P _ w = x at h
  cases x <;> simp [Oper.quietUpon, Result.andThen] at h
theorem opR_of_qOp {r : Option Nat} {i : Nat} {a : Act} {K : Act → Prop} {K' : Act → World → Prop} {Q' : Exit → Act → World → Prop} {w : World} (hC : C w) (h : ∀ a w', C w' → K a → K' a w') (hh : qOp P ops C i K a) : wpOpIn (FR r) 0 P ops Q' i K' a w := by
  unfold qOp at hh
  unfold wpOpIn
  split
  · rename_i ho; simp only [ho] at hh; exact h _ _ hC hh
  · rename_i o ho
    simp only [ho] at hh
    split
    · rename_i hw
      simp only [hw, if_true] at hh
      exact opR (quiet_plain (hh.choose_spec.1 w hC)) (Oper.wp_of_quiet hC h hh)
    · rename_i hw
      simp only [hw] at hh
      exact ⟨fun _ _ => trivial, h _ _ hC hh⟩
theorem anyR_of_quiet {r : Option Nat} {Q : Act → Prop} {Q' : Exit → Act → World → Prop} (hQ : ∀ a w, C w → Q a → Q' .normal a w) : ∀ (fuel : Nat) (listed : Array Bool) (a : Act) (w : World), C w →
    wpAnyQ P md ops C Q fuel listed a → wpAnyIn (FR r) 0 P md ops Q' fuel listed a w
  | 0, _, _, _, hw, h => ⟨h.1, hQ _ _ hw h.2⟩
  | fuel + 1, _, _, _, hw, h => ⟨fun h0 => hQ _ _ hw (h.1 h0), fun i hi => opR_of_qOp hw (fun a' w' hw' => anyR_of_quiet hQ fuel _ a' w' hw') (h.2 i hi)⟩
theorem regionR_quiet {r : Option Nat} {id : Nat} {Q : Exit → Act → World → Prop} {a : Act} {w : World} (hm : P.follows .mixedOrders = true) (hB : Region.lexB .any ops = true) (hC : C { w with drawn := w.drawn + 1 })
    (h : wpQuiet P ops C (fun a' => ∀ w', C w' → Q .normal a' w') ops.toList a) : (Code.region id ops true).wpIn (FR r) 0 P Q a w := by
  simp only [Region.lexB, Bool.and_eq_true] at hB
  refine wpIn_region_any hm (anyR_of_quiet (Q := fun a' => ∀ w', C w' → Q .normal a' w') (fun _ w' hw' h => h w' hw') _ _ _ _ hC ?_)
  have := wpAnyQ_lex (C := C) (md := .any) hB.1 ops.toList 0 (Array.replicate ops.size false) a (by simp) (by simpa using hB.2) h
  simpa using this
theorem anyR_of_seq {r : Option Nat} {Q' : Exit → Act → World → Prop} : ∀ (l : List Oper) (k : Nat) (listed : Array Bool) (a : Act) (w : World), (∀ j, l[j]? = ops[k + j]?) →
    Region.seqB md ops l.length k listed = true → wpListIn (FR r) 0 P ops Q' l a w → wpAnyIn (FR r) 0 P md ops Q' l.length listed a w
  | [], _, _, _, _, _, hB, h => ⟨by simpa [Region.seqB] using hB, h⟩
  | o :: l, k, listed, a, w, hl, hB, h => by
    have h0 : ops[k]? = some o := by simpa using (hl 0).symm
    simp only [List.length_cons, Region.seqB, Bool.and_eq_true, decide_eq_true_eq] at hB
    refine ⟨fun h1 => (by rw [hB.1] at h1; cases h1), fun i hi => ?_⟩
    rw [hB.1] at hi
    have hik : i = k := by simpa using hi
    subst hik
    have hw : wpOpIn (FR r) 0 P ops Q' i (wpListIn (FR r) 0 P ops Q' l) a w := by unfold wpOpIn; simp only [h0]; exact h
    exact wpOpIn_mono (fun a' w' h' => anyR_of_seq l (i + 1) _ a' w' (fun j => by have := hl (j + 1); simpa [Nat.add_assoc, Nat.add_comm 1 j] using this) hB.2 h') hw
theorem anyR_of_headQ {r : Option Nat} {n g : Nat} {L : Array Bool → Act → Prop} {Q' : Exit → Act → World → Prop} (hL : ∀ listed a w, C w → L listed a → wpAnyIn (FR r) 0 P md ops Q' g listed a w) :
    ∀ (f : Nat) (listed : Array Bool) (a : Act) (w : World), C w → wpAnyLQ P md ops C n L f listed a → wpAnyIn (FR r) 0 P md ops Q' (f + g) listed a w
  | 0, listed, a, w, hC, h => by rw [Nat.zero_add]; exact hL _ _ _ hC h
  | f + 1, listed, a, w, hC, h => by
    rw [show f + 1 + g = (f + g) + 1 by omega]
    exact ⟨fun h0 => absurd h0 h.1, fun i hi => opR_of_qOp hC (fun a' w' hC' h' => anyR_of_headQ hL f _ a' w' hC' h') (h.2 i hi).2⟩
theorem regionR_quiet_tail {r : Option Nat} {id : Nat} {Q : Exit → Act → World → Prop} {a : Act} {w : World} (n : Nat) (hm : P.follows .mixedOrders = true) (hB : Region.lexTailB .any ops n = true) (hC : C { w with drawn := w.drawn + 1 })
    (h : wpQuiet P ops C (fun a' => ∀ w', C w' → wpListIn (FR r) 0 P ops Q (ops.toList.drop n) a' w') (ops.toList.take n) a) : (Code.region id ops true).wpIn (FR r) 0 P Q a w := by
  simp only [Region.lexTailB, Bool.and_eq_true, decide_eq_true_eq] at hB
  obtain ⟨⟨⟨⟨hsel, hn⟩, hs⟩, hc⟩, hlex⟩ := hB
  have htl : (ops.toList.take n).length = n := by simp; omega
  have hdl : (ops.toList.drop n).length = ops.size - n := by simp
  have inv0 : HeadInv .any ops n (Array.replicate ops.size false) :=
    ⟨by simp, fun j oj _ hl => (by rw [getD_replicate_false] at hl; cases hl), fun t _ ht => getD_in (by simpa using ht) (getD_replicate_false _ _)⟩
  have H := wpAnyLQ_lex (P := P) (C := C) (md := .any) (g := ops.size - n) hsel hs hc hn (ops.toList.take n) 0 _ a (fun j hj => by
    have hj' : j < n := by rw [htl] at hj; exact hj
    simp [hj']) (by simpa using htl) inv0 (by rw [htl]; exact hlex) h
  refine wpIn_region_any hm ?_
  have := anyR_of_headQ (r := r) (P := P) (C := C) (Q' := Q) (g := ops.size - n) (fun listed a' w' hC' hL => by
    have := anyR_of_seq (r := r) (P := P) (md := .any) (Q' := Q) (ops.toList.drop n) n listed a' w' (fun j => by simp [List.getElem?_drop]) (by rw [hdl]; exact hL.1) (hL.2 w' hC')
    rwa [hdl] at this) _ _ _ _ hC H
  rw [htl, show n + (ops.size - n) = ops.size by omega] at this
  exact this
def LoopR (r : Option Nat) (P : Program) (c : Code) (Q : Exit → Act → World → Prop) (a : Act) (w : World) : Prop :=
  ∀ b k cs, b.roundOf = r → ∃ e a' w', Q e a' w' ∧ ArrivesIn (Machine.fenced P (FR r)) P (lone (b.atR a (.code c :: .inLoop c :: k)) cs w) b k cs e a' w'
theorem LoopR.wp {r : Option Nat} {c : Code} {Q : Exit → Act → World → Prop} {a : Act} {w : World} (h : LoopR r P c Q a w) : (Code.loop c).wpIn (FR r) 0 P Q a w := by
  intro b k cs hro hb hr
  obtain ⟨e, a', w', hq, harr⟩ := h b k cs hro
  exact ⟨e, a', w', hq, .of_steps (.one (fenced_calm hb hr rfl) stepR_loop) harr⟩
theorem LoopR.step {r : Option Nat} {c : Code} {Q : Exit → Act → World → Prop} {a : Act} {w : World} (h : c.wpIn (FR r) 0 P (Exit.then (LoopR r P c Q) Q) a w) : LoopR r P c Q a w := by
  intro b k cs hro
  have hb : (FR r).fn b.fn := trivial
  have hr : (FR r).room (cs.length + 1 + 0) := roomR _
  obtain ⟨e, a₁, w₁, hq, harr⟩ := h b (.inLoop c :: k) cs hro hb hr
  cases e with
  | normal =>
    obtain ⟨e₂, a₂, w₂, hq₂, harr₂⟩ := hq b k cs hro
    exact ⟨e₂, a₂, w₂, hq₂, .of_steps (StepsIn.trans harr (.one (fenced_calm hb hr rfl) stepR_inLoop)) harr₂⟩
  | exit id => exact ⟨_, a₁, w₁, hq, .pass (x := .inLoop c) rfl (fun _ _ => .inl (by simp)) harr⟩
  | goto l => exact ⟨_, a₁, w₁, hq, .pass (x := .inLoop c) rfl (fun _ _ => .inl (by simp)) harr⟩
  | ret => exact ⟨_, a₁, w₁, hq, .pass (x := .inLoop c) rfl (fun _ _ => .inl (by simp)) harr⟩
  | panic ch => exact ⟨_, a₁, w₁, hq, .pass (x := .inLoop c) rfl (fun _ _ => .inl (by simp)) harr⟩
  | outgrown => exact ⟨_, a₁, w₁, hq, .pass (x := .inLoop c) rfl (fun _ _ => .inl (by simp)) harr⟩
theorem LoopR.ghost {r : Option Nat} {c : Code} {Q : Exit → Act → World → Prop} (I : Nat → Act → World → Prop)
    (round : ∀ n a w, I n a w → c.wpIn (FR r) 0 P (Exit.then (fun a' w' => ∃ n', n' < n ∧ I n' a' w') Q) a w) : ∀ n a w, I n a w → LoopR r P c Q a w := by
  intro n
  induction n using Nat.strongRecOn with
  | ind n ih =>
    intro a w hI
    refine LoopR.step (wpIn_mono (round n a w hI) ?_)
    intro e a' w' hq
    cases e with
    | normal => obtain ⟨n', hlt, hI'⟩ := hq; exact ih n' hlt a' w' hI'
    | _ => exact hq
end
end Go.AM
namespace Go.AM
open Go
def aliveAt (pl : List Pl) (h : Heap) (c : Nat) : Prop := ∃ (b : Nat) (p : Pl) (x : Blk), pl[b]? = some p ∧ h[b]? = some x ∧ x.alive p = true ∧ p.blk = c
section
variable {P : Program} {w0 w w' w2 : World} {Sx : Marks} {pl pl2 : List Pl} {h h2 : Heap}
theorem HRel.base [Glob] (hR : HRel w0 Sx pl h w) : HRel w ⟨aliveAt pl h, Sx.R⟩ pl h w :=
  ⟨hR.len, ⟨rfl, rfl, rfl, Nat.le_refl _, fun _ _ _ => rfl⟩, hR.hb, hR.lt, fun b p x h1 h2 h3 => .inr ⟨b, p, x, h1, h2, h3, rfl⟩, hR.inj, hR.ro, ⟨fun k hk => ⟨Nat.lt_of_lt_of_le (hR.rok.1 k hk).1 hR.fr.size, fun ⟨c, q, y, k1, k2, k3, k4⟩ => by
    have h5 := hR.rok.1 k hk
    rcases hR.own c q y k1 k2 k3 with h6 | h6
    · omega
    · rw [k4] at h6; exact h5.2 h6⟩, hR.tabw, fun k hk ⟨c, q, y, k1, k2, k3, k4⟩ => by
    have h5 := Glob.lt w0 k hR.rok.2.1 hk
    rcases hR.own c q y k1 k2 k3 with h6 | h6
    · omega
    · rw [k4] at h6; exact hR.rok.2.2 k hk h6⟩, fun _ => Nat.le_refl _⟩
theorem HRel.unbase [Glob] (hR1 : HRel w0 Sx pl h w) (hR2 : HRel w ⟨aliveAt pl h, Sx.R⟩ pl2 h2 w2) : HRel w0 Sx pl2 h2 w2 := by
  have hkeep : ∀ k, k < w.heap.size → ¬ aliveAt pl h k → w2.heap[k]? = w.heap[k]? := hR2.fr.block
  refine ⟨hR2.len, ⟨hR2.fr.os.trans hR1.fr.os, hR2.fr.tape.trans hR1.fr.tape, hR2.fr.output.trans hR1.fr.output, Nat.le_trans hR1.fr.size hR2.fr.size, fun k hk hS => ?_⟩, hR2.hb, hR2.lt, fun b p x h1 h2 h3 => ?_, hR2.inj, hR2.ro, hR1.rok, fun d => Nat.le_trans (hR1.drw d) (hR2.drw d)⟩
  · rw [hkeep k (Nat.lt_of_lt_of_le hk hR1.fr.size) (fun ⟨b, p, x, h1, h2, h3, h4⟩ => by
        rcases hR1.own b p x h1 h2 h3 with h5 | h5
        · omega
        · rw [h4] at h5; exact hS h5)]
    exact hR1.fr.block k hk hS
  · rcases hR2.own b p x h1 h2 h3 with h5 | ⟨b', p', x', k1, k2, k3, k4⟩
    · exact .inl (Nat.le_trans hR1.fr.size h5)
    · rw [← k4]; exact hR1.own b' p' x' k1 k2 k3
theorem unlaid [Glob] (hR2 : HRel w ⟨aliveAt pl h, Sx.R⟩ pl2 h2 w2) {k : Nat} (hk : k < w.heap.size) (hn : ¬ aliveAt pl h k) : ¬ aliveAt pl2 h2 k := by
  rintro ⟨b, p, x, h1, h2, h3, h4⟩
  rcases hR2.own b p x h1 h2 h3 with h5 | h5
  · omega
  · rw [h4] at h5; exact hn h5
theorem HRel.foreign [Glob] (hR : HRel w0 Sx pl h w) {X : Nat → Prop} (h1 : w'.os = w.os) (h2 : w'.tape = w.tape) (h3 : w'.output = w.output) (h4 : w.heap.size ≤ w'.heap.size) (h5 : ∀ k, k < w.heap.size → ¬ X k → w'.heap[k]? = w.heap[k]?)
    (hX : ∀ k, X k → (w0.heap.size ≤ k ∨ Sx k) ∧ ¬ aliveAt pl h k) (hd : Glob.dr → w.drawn ≤ w'.drawn) : HRel w0 Sx pl h w' := by
  refine ⟨hR.len, ⟨h1.trans hR.fr.os, h2.trans hR.fr.tape, h3.trans hR.fr.output, Nat.le_trans hR.fr.size h4, fun k hk hS => ?_⟩, fun b x p hx hp => ?_, fun b p x hp hx ha => Nat.lt_of_lt_of_le (hR.lt b p x hp hx ha) h4, hR.own, hR.inj, hR.ro, hR.rok, fun d => Nat.le_trans (hR.drw d) (hd d)⟩
  · have hk' := Nat.lt_of_lt_of_le hk hR.fr.size
    rw [h5 k hk' (fun hx => by rcases (hX k hx).1 with h6 | h6; omega; exact hS h6)]
    exact hR.fr.block k hk hS
  · refine (hR.hb b x p hx hp).mono (PExt.refl pl) (fun ha => h5 _ (hR.lt b p x hp hx ha) (fun hk => (hX _ hk).2 ⟨b, p, x, hp, hx, ha, rfl⟩)) (fun hdx => h5 _ (Nat.lt_of_lt_of_le (hR.rok.1 _ (hR.ro b p x hp hx hdx)).1 hR.fr.size) (fun hk => ?_))
    have h7 := hR.rok.1 _ (hR.ro b p x hp hx hdx)
    rcases (hX _ hk).1 with h6 | h6
    · omega
    · exact h7.2 h6
theorem HRel.putObj [Glob] (hR : HRel w0 Sx pl h w) {l : Nat} (o : Obj) (hl : w0.heap.size ≤ l ∨ Sx l) (hn : ¬ aliveAt pl h l) : HRel w0 Sx pl h (w.putObj l o) :=
  hR.foreign (X := fun k => k = l) rfl rfl rfl (by simp) (fun k _ hk => World.putObj_heap_other hk) (fun k hk => by subst hk; exact ⟨hl, hn⟩) (fun _ => Nat.le_refl _)
theorem HRel.revive [Glob] (hR : HRel w0 Sx pl h w) {b : Nat} {p : Pl} {x : Blk} (hg : h[b]? = some .gone) (hp : pl[b]? = some p) (hn : ¬ aliveAt pl h p.blk) (ho : w0.heap.size ≤ p.blk ∨ Sx p.blk) (hl : p.blk < w.heap.size) (hx : BlkR pl w x p)
    (hrd : x.rd p = false := by rfl) : HRel w0 Sx pl (AM.set h b x) w := by
  have cs : ∀ (c : Nat) q y, pl[c]? = some q → (AM.set h b x)[c]? = some y → (c = b ∧ q = p ∧ y = x) ∨ (c ≠ b ∧ h[c]? = some y) := fun c q y hq hy => by
    by_cases e : b = c
    · subst e
      rw [get_set_same hg] at hy
      rw [hp] at hq
      exact .inl ⟨rfl, (Option.some.inj hq).symm, (Option.some.inj hy).symm⟩
    · rw [get_set_other e] at hy; exact .inr ⟨fun h => e h.symm, hy⟩
  refine ⟨by simp [set_eq, hR.len], hR.fr, fun c y q hy hq => ?_, fun c q y hq hy ha => ?_, fun c q y hq hy ha => ?_, fun c d q r y z hq hr hy hz ha hb e => ?_, fun c q y hq hy hd => ?_, hR.rok, hR.drw⟩
  · rcases cs c q y hq hy with ⟨rfl, rfl, rfl⟩ | ⟨_, h1⟩
    · exact hx
    · exact hR.hb c y q h1 hq
  · rcases cs c q y hq hy with ⟨rfl, rfl, rfl⟩ | ⟨_, h1⟩
    · exact hl
    · exact hR.lt c q y hq h1 ha
  · rcases cs c q y hq hy with ⟨rfl, rfl, rfl⟩ | ⟨_, h1⟩
    · exact ho
    · exact hR.own c q y hq h1 ha
  · rcases cs c q y hq hy with ⟨rfl, rfl, rfl⟩ | ⟨_, h1⟩ <;> rcases cs d r z hr hz with ⟨e2, e3, e4⟩ | ⟨_, h2⟩
    · exact e2.symm
    · exact absurd ⟨d, r, z, hr, h2, hb, e.symm⟩ hn
    · rw [e3] at e; exact absurd ⟨c, q, y, hq, h1, ha, e⟩ hn
    · exact hR.inj c d q r y z hq hr h1 h2 ha hb e
  · rcases cs c q y hq hy with ⟨rfl, rfl, rfl⟩ | ⟨_, h1⟩
    · rw [hrd] at hd; cases hd
    · exact hR.ro c q y hq h1 hd
theorem HRel.forget_free [Glob] (hR : HRel w0 Sx pl h w) {b : Nat} {p : Pl} {x : Blk} (hp : pl[b]? = some p) (hx : h[b]? = some x) (ha : x.alive p = true) : ¬ aliveAt pl (AM.set h b .gone) p.blk := by
  rintro ⟨c, q, y, h1, h2, h3, h4⟩
  by_cases e : b = c
  · subst e
    rw [get_set_same hx] at h2
    cases h2
    cases h3
  · rw [get_set_other e] at h2
    exact e (hR.inj b c p q x y hp h1 hx h2 ha h3 h4.symm)

theorem not_deferred {x : Blk} {p : Pl} (hb : BlkR pl w x p) (ha : x.alive p = true) {ds : Option (List Deferred)} : w.heap[p.blk]? ≠ some (.deferred ds) := by
  have own : ∀ {T z m n : Nat} {vs : List Value}, (!p.nil) = true → w.ownsRowZ 0 T z (p.sv m) n vs → w.heap[p.blk]? ≠ some (.deferred ds) := by
    intro T z m n vs hn h e
    have hn : p.nil = false := by simpa using hn
    rcases h.2 with ⟨h1, _⟩ | ⟨g, cap, cur, hv, _, ⟨fz, h2, _⟩, _⟩
    · simp [Pl.sv, hn] at h1
    · simp only [Pl.sv, hn, Bool.false_eq_true, if_false, Value.slice.injEq, Option.some.injEq, Addr.mk.injEq] at hv
      rw [← hv.1.1, e] at h2
      cases h2
  intro e
  cases x with
  | gone => cases ha
  | ro T C xs => cases ha
  | row T cs => obtain ⟨vs, _, h2⟩ := hb; rw [e] at h2; cases h2
  | own T C xs => obtain ⟨vs, _, h2⟩ := hb; exact own ha h2 e
  | ownL T z n cs => obtain ⟨vs, _, h2⟩ := hb; exact own ha h2 e
  | mp es => obtain ⟨ms, clock, _, h2⟩ := hb; rw [e] at h2; cases h2
  | omp C es => obtain ⟨ms, clock, _, h2⟩ := hb; rw [e] at h2; cases h2
  | sit c s n => have h2 : w.heap[p.blk]? = _ := hb; rw [e] at h2; cases h2
  | lp e' ps asg body j => obtain ⟨fn, tmps, D, _, h2⟩ := hb; rw [e] at h2; cases h2

def mrk (D : Nat) : Deferred := { target := .collected D, args := #[] }
def Mk (r : Option Nat) (w0 : World) (a : Act) (w : World) : Prop := (r ≠ none → a.defers = []) ∧ ∃ Ds : List Nat, a.defers = Ds.map mrk ∧ Ds.Nodup ∧ ∀ D ∈ Ds, w0.heap.size ≤ D ∧ w.heap[D]? = some (.deferred (some []))
theorem Mk.nil {r : Option Nat} {a : Act} (h : a.defers = []) : Mk r w0 a w := ⟨fun _ => h, [], by simpa using h, List.nodup_nil, fun D hD => by cases hD⟩
theorem Mk.step {r : Option Nat} {a a' : Act} (hm : Mk r w0 a w) (hd : a'.defers = a.defers) (hk : ∀ D : Nat, w.heap[D]? = some (.deferred (some [])) → w'.heap[D]? = some (.deferred (some []))) : Mk r w0 a' w' := by
  obtain ⟨h0, Ds, h1, h2, h3⟩ := hm
  exact ⟨fun h => hd.trans (h0 h), Ds, hd.trans h1, h2, fun D hD => ⟨(h3 D hD).1, hk D (h3 D hD).2⟩⟩
theorem keep_deferred [Glob] (hR : HRel w0 Sx pl h w) (hR2 : HRel w ⟨aliveAt pl h, Sx.R⟩ pl2 h2 w2) {D : Nat} {ds : Option (List Deferred)} (hD : w.heap[D]? = some (.deferred ds)) : w2.heap[D]? = some (.deferred ds) := by
  rw [← hD]
  refine hR2.fr.block D (Array.getElem?_eq_some_iff.1 hD).1 ?_
  rintro ⟨b, p, x, h1, h2, h3, rfl⟩
  exact not_deferred (hR.hb b x p h2 h1) h3 hD
theorem Mk.over [Glob] {r : Option Nat} {a a' : Act} (hm : Mk r w0 a w) (hR : HRel w0 Sx pl h w) (hR2 : HRel w ⟨aliveAt pl h, Sx.R⟩ pl2 h2 w2) (hd : a'.defers = a.defers) : Mk r w0 a' w2 :=
  hm.step hd (fun _ hD => keep_deferred hR hR2 hD)
theorem Mk.drew {r : Option Nat} {a : Act} (hm : Mk r w0 a w) : Mk r w0 a { w with drawn := w.drawn + 1 } := hm.step rfl (fun _ h => h)
end
end Go.AM
namespace Go.AM
open Go
section
variable {P : Program} {S : Sums} {N : Nat} {ops : Array Oper} {D : Env → Heap → Prop}

def stepJ (P : Program) (S : Sums) (N : Nat) (ops : Array Oper) (L : Array Bool) (j : Nat) (env : Env) (h : Heap) (K : Env → Heap → Prop) : Prop :=
  match get? ops.toList j with
  | none => False
  | some o => match allocOf P ops.toList j with
    | some (d, _, _) => d < env.length ∧ K (set env d AV.any) h
    | none => o.guard = none ∧ ∃ m, m ≤ N ∧ exec1 P S m o.op (adoptL P ops.toList L (needs P ops.toList j) env h).1 (adoptL P ops.toList L (needs P ops.toList j) env h).2
        (fun v h2 => K (putD (adoptL P ops.toList L (needs P ops.toList j) env h).1 o.dst v) h2)
def AA (P : Program) (S : Sums) (N : Nat) (ops : Array Oper) (D : Env → Heap → Prop) : Nat → Array Bool → Env → Heap → Prop
  | 0, L, env, h => Region.ready .any ops L = [] ∧ D env h
  | f + 1, L, env, h => (Region.ready .any ops L = [] → D env h) ∧ ∀ j ∈ Region.ready .any ops L, stepJ P S N ops L j env h (fun env' h' => AA P S N ops D f (L.setIfInBounds j true) env' h')

theorem allocOf_spec {i d t : Nat} {z : List SV} (h : allocOf P ops.toList i = some (d, t, z)) :
    ∃ o v ti, ops[i]? = some o ∧ o.op = .alloc t ∧ o.dst = some d ∧ o.guard = none ∧ P.info? t = some ti ∧ ti.zero = some v ∧ ∀ pl, RL pl z v.cells.toList := by
  unfold allocOf at h
  cases hg : get? ops.toList i with
  | none => simp [hg] at h
  | some o =>
    simp only [hg] at h
    split at h
    · rename_i t' d' ho hd hgd
      cases hz : zeroOf P t' with
      | none => simp [hz] at h
      | some z' =>
        simp [hz] at h
        obtain ⟨rfl, rfl, rfl⟩ := h
        obtain ⟨ti, v, h1, h2, rfl⟩ := zeroOf_spec hz
        rw [get?_eq] at hg
        exact ⟨o, v, ti, by simpa using hg, ho, hd, hgd, h1, h2, fun pl => ofValue_cells v⟩
    · cases h

structure Fact (P : Program) (ops : Array Oper) (w0 w : World) (tmps : Array Value) (pl : List Pl) (h : Heap) (i k : Nat) : Prop where
  slot : ∀ d t z, allocOf P ops.toList i = some (d, t, z) → tmps.getD d Go.undef = .pointer (some ⟨k, 0, none⟩)
  cells : ∀ d t z, allocOf P ops.toList i = some (d, t, z) → ∃ vs : List Value, (∀ pl, RL pl z vs) ∧ w.heap[k]? = some (.cells vs.toArray t (0, 0))
  new : w0.heap.size ≤ k
  lt : k < w.heap.size
  free : ¬ aliveAt pl h k

theorem HRel.adopt [Glob] {w0 : World} {Sx : Marks} {pl : List Pl} {h : Heap} {w : World} (hR : HRel w0 Sx pl h w) {T k : Nat} {cs : List SV} {vs : List Value} (hv : RL pl cs vs) (hk : w.heap[k]? = some (.cells vs.toArray T (0, 0)))
    (h1 : w0.heap.size ≤ k) (h2 : k < w.heap.size) (h3 : ¬ aliveAt pl h k) : HRel w0 Sx (pl ++ [⟨k, false, 0⟩]) (h ++ [.row T cs]) w ∧ PExt pl (pl ++ [⟨k, false, 0⟩]) :=
  hR.fresh hR.fr (Nat.le_refl _) (fun _ _ _ _ _ _ => rfl) ⟨vs, hv.ext (PExt.push pl _), hk⟩ (fun _ => ⟨h2, .inl h1, fun b p x hb hx ha e => h3 ⟨b, p, x, hb, hx, ha, e⟩⟩)

theorem aliveAt_push {pl : List Pl} {h : Heap} (hl : pl.length = h.length) {k c T : Nat} {cs : List SV} (ha : aliveAt (pl ++ [⟨k, false, 0⟩]) (h ++ [.row T cs]) c) : aliveAt pl h c ∨ c = k := by
  obtain ⟨b, p, x, h1, h2, h3, rfl⟩ := ha
  by_cases hlt : b < pl.length
  · rw [List.getElem?_append_left hlt] at h1
    rw [List.getElem?_append_left (by omega)] at h2
    exact .inl ⟨b, p, x, h1, h2, h3, rfl⟩
  · rw [List.getElem?_append_right (by omega)] at h1
    have : b - pl.length = 0 := by
      rcases Nat.eq_zero_or_pos (b - pl.length) with h0 | h0
      · exact h0
      · rw [List.getElem?_eq_none (by simp; omega)] at h1; cases h1
    rw [this] at h1
    simp at h1
    exact .inr (by rw [← h1])

theorem adopt_sound [Glob] {w0 : World} {Sx : Marks} {w : World} {tmps : Array Value} {L : Array Bool} {κ : Nat → Nat} : ∀ (l : List Nat) (X : Nat → Prop) (pl : List Pl) (env : Env) (h : Heap), l.Nodup → (∀ i ∈ l, X i) → EnvR pl env tmps → HRel w0 Sx pl h w →
    (∀ i, X i → pendOf P ops.toList L i = true → Fact P ops w0 w tmps pl h i (κ i)) → (∀ i i', X i → X i' → pendOf P ops.toList L i = true → pendOf P ops.toList L i' = true → κ i = κ i' → i = i') →
    ∃ pl', EnvR pl' (adoptL P ops.toList L l env h).1 tmps ∧ HRel w0 Sx pl' (adoptL P ops.toList L l env h).2 w ∧ PExt pl pl' ∧
      ∀ i, X i → i ∉ l → pendOf P ops.toList L i = true → Fact P ops w0 w tmps pl' (adoptL P ops.toList L l env h).2 i (κ i)
  | [], X, pl, env, h, _, _, hE, hR, hF, _ => ⟨pl, hE, hR, PExt.refl pl, fun i hx _ hp => hF i hx hp⟩
  | a :: l, X, pl, env, h, hnd, hX, hE, hR, hF, hinj => by
    have hnd' := (List.nodup_cons.1 hnd)
    unfold adoptL
    split
    · rename_i hpa
      cases ha : allocOf P ops.toList a with
      | none => simp [pendOf, isAlloc, ha] at hpa
      | some dtz =>
        obtain ⟨d, t, z⟩ := dtz
        simp only
        have hfa := hF a (hX a (by simp)) hpa
        obtain ⟨vs, hvs, hcell⟩ := hfa.cells d t z ha
        have ⟨hR', hp⟩ := hR.adopt (hvs pl) hcell hfa.new hfa.lt hfa.free
        have hE' : EnvR (pl ++ [⟨κ a, false, 0⟩]) (AM.set env d (.v (.one (.ptr (len' h) 0)))) tmps := (hE.ext hp).same d (by
          rw [hfa.slot d t z ha]
          exact .inr (by simp [SV.val, addrOf, len'_eq, ← hR.len]))
        obtain ⟨pl', g1, g2, g3, g4⟩ := adopt_sound l (fun i => X i ∧ i ≠ a) (pl ++ [⟨κ a, false, 0⟩]) _ _ hnd'.2
          (fun i hi => ⟨hX i (by simp [hi]), fun e => hnd'.1 (e ▸ hi)⟩) hE' hR'
          (fun i hi hpi => by
            have hf := hF i hi.1 hpi
            refine ⟨hf.slot, hf.cells, hf.new, hf.lt, fun hal => ?_⟩
            rcases aliveAt_push hR.len hal with hal | hal
            · exact hf.free hal
            · exact hi.2 (hinj i a hi.1 (hX a (by simp)) hpi hpa hal))
          (fun i i' hi hi' hpi hpi' e => hinj i i' hi.1 hi'.1 hpi hpi' e)
        exact ⟨pl', g1, g2, hp.trans g3, fun i hi hn hpi => g4 i ⟨hi, fun e => hn (by simp [e])⟩ (fun hm => hn (by simp [hm])) hpi⟩
    · obtain ⟨pl', g1, g2, g3, g4⟩ := adopt_sound l X pl env h hnd'.2 (fun i hi => hX i (by simp [hi])) hE hR hF hinj
      exact ⟨pl', g1, g2, g3, fun i hi hn hpi => g4 i hi (fun hm => hn (by simp [hm])) hpi⟩

theorem needs_nodup (j : Nat) : (needs P ops.toList j).Nodup := by
  unfold needs
  split
  · exact List.Pairwise.filter _ List.nodup_range
  · exact List.nodup_nil
theorem pendOf_set {L : Array Bool} {i j : Nat} (hp : pendOf P ops.toList (L.setIfInBounds j true) i = true) (hj : j < L.size) (hjn : j < ops.size) :
    isAlloc P ops.toList i = true ∧ (i = j ∨ pendOf P ops.toList L i = true) ∧ i ∉ needs P ops.toList j := by
  unfold pendOf at hp ⊢
  simp only [Bool.and_eq_true, Bool.not_eq_true', List.any_eq_false, List.mem_range, len'_eq, Array.length_toList, not_and, Bool.not_eq_true] at hp ⊢
  obtain ⟨⟨h1, h2⟩, h3⟩ := hp
  refine ⟨h1, ?_, ?_⟩
  · by_cases e : i = j
    · exact .inl e
    · right
      refine ⟨⟨h1, by rwa [getD_set_ne false (Ne.symm e)] at h2⟩, fun k hk => ?_⟩
      have := h3 k hk
      cases hl : L.getD k false with
      | false => intro hh; cases hh
      | true => intro _; rw [getD_set_true hl] at this; exact this rfl
  · have := h3 j hjn
    have hl : (L.setIfInBounds j true).getD j false = true := by simp [hj]
    rw [hl] at this
    simpa using this

structure RelA [Glob] (r : Option Nat) (P : Program) (ops : Array Oper) (A : Annos) (w0 : World) (Sx : Marks) (pl0 : List Pl) (L : Array Bool) (env : Env) (h : Heap) (a : Act) (w : World) : Prop where
  rel : ∃ (pl : List Pl) (κ : Nat → Nat), EnvR pl env a.tmps ∧ HRel w0 Sx pl h w ∧ PE A pl0 pl ∧ (∀ i, pendOf P ops.toList L i = true → Fact P ops w0 w a.tmps pl h i (κ i)) ∧
    (∀ i i', pendOf P ops.toList L i = true → pendOf P ops.toList L i' = true → κ i = κ i' → i = i')
  defers : Mk r w0 a w
  size : L.size = ops.size

theorem put_other {a : Act} {d : Option Nat} {v : Value} {e : Nat} (h : d ≠ some e) : (a.put d v).tmps.getD e Go.undef = a.tmps.getD e Go.undef := by
  cases d with
  | none => rfl
  | some d =>
    have hne : d ≠ e := fun x => h (by rw [x])
    simp [Act.put, Array.getD_eq_getD_getElem?, Array.getElem?_setIfInBounds_ne hne]

theorem allocsApart_spec (h : allocsApart P ops.toList = true) {i d t : Nat} {z : List SV} (hi : allocOf P ops.toList i = some (d, t, z)) {j : Nat} {oj : Oper} (hj : ops[j]? = some oj) (hne : j ≠ i) : oj.dst ≠ some d := by
  unfold allocsApart at h
  rw [List.all_eq_true] at h
  obtain ⟨o, _, _, ho, _⟩ := allocOf_spec hi
  have hil : i < ops.size := (Array.getElem?_eq_some_iff.1 ho).1
  have h1 := h i (by simp [len'_eq, hil])
  simp only [hi, List.all_eq_true] at h1
  have hjl : j < ops.size := (Array.getElem?_eq_some_iff.1 hj).1
  have h2 := h1 j (by simp [len'_eq, hjl])
  have h3 : get? ops.toList j = some oj := by rw [get?_eq]; simpa using hj
  simpa [hne, h3] using h2

def OpsSound [Glob] (P : Program) (S : Sums) (N : Nat) : Prop := ∀ m, m ≤ N → ∀ (o : Oper) env h K pl w0 Sx a w next Q, exec1 P S m o.op env h K → EnvR pl env a.tmps → HRel w0 Sx pl h w →
  (∀ v av h' pl' w', K av h' → av.R pl' v → PExt pl pl' → HRel w0 Sx pl' h' w' → next (a.put o.dst v) w') → ∀ r, o.wpIn (FR r) 0 P a w next Q

theorem AA_sound [Glob] {r : Option Nat} (hO : OpsSound P S N) (hap : allocsApart P ops.toList = true) {A : Annos} {w0 : World} {Sx : Marks} {pl0 : List Pl} (hq0 : A.q ≤ pl0.length) {Q : Exit → Act → World → Prop}
    (hD : ∀ env h pl a w, D env h → EnvR pl env a.tmps → Mk r w0 a w → PE A pl0 pl → HRel w0 Sx pl h w → Q .normal a w) :
    ∀ (f : Nat) (L : Array Bool) (env : Env) (h : Heap) (a : Act) (w : World), AA P S N ops D f L env h → RelA r P ops A w0 Sx pl0 L env h a w → wpAnyIn (FR r) 0 P .any ops Q f L a w
  | 0, L, env, h, a, w, hA, hr => by
    obtain ⟨pl, κ, hE, hR, hp, _⟩ := hr.rel
    exact ⟨hA.1, hD env h pl a w hA.2 hE hr.defers hp hR⟩
  | f + 1, L, env, h, a, w, hA, hr => by
    obtain ⟨pl, κ, hE, hR, hpe, hfact, hinj⟩ := hr.rel
    refine ⟨fun h0 => hD env h pl a w (hA.1 h0) hE hr.defers hpe hR, fun j hj => ?_⟩
    have hstep := hA.2 j hj
    obtain ⟨hun, o, ho, hdeps⟩ := mem_ready.1 hj
    have hjn : j < ops.size := (Array.getElem?_eq_some_iff.1 ho).1
    have hjL : j < L.size := by rw [hr.size]; exact hjn
    have hgo : get? ops.toList j = some o := by rw [get?_eq]; simpa using ho
    unfold stepJ at hstep
    simp only [hgo] at hstep
    unfold wpOpIn
    simp only [ho]
    cases hal : allocOf P ops.toList j with
    | some dtz =>
      obtain ⟨d, t, z⟩ := dtz
      simp only [hal] at hstep
      obtain ⟨o', v, ti, ho', hop, hdst, hgd, hti, hz, hzv⟩ := allocOf_spec hal
      rw [ho] at ho'
      cases ho'
      rw [if_pos (by simp [Region.wanted, hgd])]
      refine opR (fun c hc => by rw [hop] at hc; cases hc) ?_
      refine wp_of_run (v := .pointer (some ⟨w.heap.size, 0, none⟩)) (w' := w.alloc (.cells v.cells.toList.toArray t)) ?_ ?_
      · unfold execOp
        simp [hop, Instr.alloc, zeroValue, typeInfo, hti, hz, newVar, newRow]
      · have hsz : (w.alloc (.cells v.cells.toList.toArray t)).heap.size = w.heap.size + 1 := by show (w.heap.push _).size = _; simp
        have hold : ∀ k, k < w.heap.size → (w.alloc (.cells v.cells.toList.toArray t)).heap[k]? = w.heap[k]? := fun k hk => by
          show (w.heap.push _)[k]? = _
          rw [Array.getElem?_push, if_neg (by omega)]
        have hR' : HRel w0 Sx pl h (w.alloc (.cells v.cells.toList.toArray t)) := by
          refine ⟨hR.len, ⟨hR.fr.os, hR.fr.tape, hR.fr.output, by have := hR.fr.size; omega, fun k hk hS => ?_⟩, ?_, fun b p x hb hx ha => by have := hR.lt b p x hb hx ha; omega, hR.own, hR.inj, hR.ro, hR.rok, hR.drw⟩
          · rw [hold k (by have := hR.fr.size; omega)]; exact hR.fr.block k hk hS
          · intro b x p hx hb
            exact (hR.hb b _ p hx hb).mono (PExt.refl pl) (fun ha => hold _ (hR.lt b p _ hb hx ha)) (fun hd => hold _ (Nat.lt_of_lt_of_le (hR.rok.1 _ (hR.ro b p _ hb hx hd)).1 hR.fr.size))
        refine AA_sound hO hap hq0 hD f _ _ h _ _ hstep.2 ⟨⟨pl, fun i => if i = j then w.heap.size else κ i, ?_, hR', hpe, ?_, ?_⟩, hr.defers.step (put_defers _ _ _) (fun D hD => by rw [hold D (Array.getElem?_eq_some_iff.1 hD).1]; exact hD), by simp [hr.size]⟩
        · rw [hdst]; exact hE.put (some d) (any_R pl _)
        · intro i hpi
          obtain ⟨_, hc, _⟩ := pendOf_set hpi hjL hjn
          by_cases e : i = j
          · subst e
            simp only [if_true]
            refine ⟨fun d' t' z' h' => ?_, fun d' t' z' h' => ?_, hR.fr.size, by omega, fun ⟨b, p, x, h1, h2, h3, h4⟩ => by have := hR.lt b p x h1 h2 h3; omega⟩
            · rw [hal] at h'; cases h'
              rw [hdst]
              have hlt : d < a.tmps.size := by rw [← hE.1]; exact hstep.1
              simp [Act.put, hlt]
            · rw [hal] at h'; cases h'
              refine ⟨v.cells.toList, hzv, ?_⟩
              show (w.heap.push _)[w.heap.size]? = _
              simp
          · have hpi' := hc.resolve_left e
            have hf := hfact i hpi'
            simp only [if_neg e]
            refine ⟨fun d' t' z' h' => ?_, fun d' t' z' h' => ?_, hf.new, by have := hf.lt; omega, hf.free⟩
            · rw [put_other (allocsApart_spec hap h' ho (Ne.symm e))]; exact hf.slot d' t' z' h'
            · obtain ⟨vs, k1, k2⟩ := hf.cells d' t' z' h'
              exact ⟨vs, k1, by rw [hold _ hf.lt]; exact k2⟩
        · intro i i' hpi hpi' e
          have hc := (pendOf_set hpi hjL hjn).2.1
          have hc' := (pendOf_set hpi' hjL hjn).2.1
          by_cases e1 : i = j <;> by_cases e2 : i' = j
          · rw [e1, e2]
          · simp only [e1, e2, if_true, if_false] at e; have := (hfact i' (hc'.resolve_left e2)).lt; omega
          · simp only [e1, e2, if_true, if_false] at e; have := (hfact i (hc.resolve_left e1)).lt; omega
          · simp only [e1, e2, if_false] at e; exact hinj i i' (hc.resolve_left e1) (hc'.resolve_left e2) e
    | none =>
      simp only [hal] at hstep
      obtain ⟨hgd, m, hm, hx⟩ := hstep
      rw [if_pos (by simp [Region.wanted, hgd])]
      obtain ⟨pl1, hE1, hR1, hp1, hfact1⟩ := adopt_sound (P := P) (ops := ops) (L := L) (κ := κ) (needs P ops.toList j) (fun _ => True) pl env h (needs_nodup j) (fun _ _ => trivial) hE hR (fun i _ hp => hfact i hp) (fun i i' _ _ h1 h2 e => hinj i i' h1 h2 e)
      generalize hst : adoptL P ops.toList L (needs P ops.toList j) env h = st at hx hE1 hR1 hfact1
      -- the same, told of the world at hand
      have hRw := hR1.base
      refine hO m hm o st.1 st.2 _ pl1 w ⟨aliveAt pl1 st.2, Sx.R⟩ a w _ Q hx hE1 hRw ?_ r
      intro v av h2 pl2 w2 hk hv hp2 hR2
      have hkeep : ∀ k, k < w.heap.size → ¬ aliveAt pl1 st.2 k → w2.heap[k]? = w.heap[k]? := hR2.fr.block
      have hR2' : HRel w0 Sx pl2 h2 w2 := hR1.unbase hR2
      have hpe1 : PE A pl pl1 := PE.of_ext (hpe.len hq0) hp1
      have hpe2 : PE A pl1 pl2 := PE.of_ext (hpe1.len (hpe.len hq0)) hp2
      refine AA_sound hO hap hq0 hD f _ _ h2 _ _ hk ⟨⟨pl2, κ, (hE1.ext hp2).put o.dst hv, hR2', (hpe.trans hpe1).trans hpe2, ?_, ?_⟩, hr.defers.over hR1 hR2 (put_defers _ _ _), by simp [hr.size]⟩
      · intro i hpi
        obtain ⟨hia, hc, hnn⟩ := pendOf_set hpi hjL hjn
        have hij : i ≠ j := fun e => by subst e; simp [isAlloc, hal] at hia
        have hpi' := hc.resolve_left hij
        have hf := hfact1 i trivial hnn hpi'
        refine ⟨fun d t z h' => ?_, fun d t z h' => ?_, hf.new, Nat.lt_of_lt_of_le hf.lt hR2.fr.size, fun ⟨b, p, x, h1, h2, h3, h4⟩ => ?_⟩
        · rw [put_other (allocsApart_spec hap h' ho (Ne.symm hij))]; exact hf.slot d t z h'
        · obtain ⟨vs, k1, k2⟩ := hf.cells d t z h'
          exact ⟨vs, k1, by rw [hkeep _ hf.lt hf.free]; exact k2⟩
        · rcases hR2.own b p x h1 h2 h3 with h5 | h5
          · have := hf.lt; omega
          · rw [h4] at h5; exact hf.free h5
      · intro i i' hpi hpi' e
        obtain ⟨hia, hc, _⟩ := pendOf_set hpi hjL hjn
        obtain ⟨hia', hc', _⟩ := pendOf_set hpi' hjL hjn
        have hij : i ≠ j := fun e => by subst e; simp [isAlloc, hal] at hia
        have hij' : i' ≠ j := fun e => by subst e; simp [isAlloc, hal] at hia'
        exact hinj i i' (hc.resolve_left hij) (hc'.resolve_left hij') e
end
end Go.AM

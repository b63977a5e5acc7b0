import Derived.Test.YtcinopdklobldaaGreatDoorAMRow
/- Arguments made of numbers alone, structs and arrays in one another. -/
namespace Go.AM
open Go Go.ChangeShapes Go.WideShapes
def kindAt (P : Program) : Nat → TypeId → Nat → Option IntKind
  | 0, _, _ => none
  | g + 1, t, i => match P.underlying t with
    | some (.int k) => if i = 0 then some k else none
    | some (.array n e) => if i < n * P.cellsOf e then kindAt P g e (i % P.cellsOf e) else none
    | some (.struct fs) => match fs.toList.find? (fun f => decide (f.offset ≤ i) && decide (i < f.offset + P.cellsOf f.type)) with
      | some f => kindAt P g f.type (i - f.offset)
      | none => none
    | _ => none
def flatB (P : Program) : Nat → TypeId → Bool
  | 0, _ => false
  | g + 1, t => match P.underlying t with
    | some (.int _) => decide (P.cellsOf t = 1)
    | some (.array n e) => flatB P g e && (decide (P.cellsOf t = n * P.cellsOf e) && decide (0 < P.cellsOf e))
    | some (.struct fs) => fs.toList.all fun f => flatB P g f.type
    | _ => false
section
variable {H : Type} {enc : TypeId × Value → H} {P : Program} {w : World} {base : Nat} {spare : Nat → Bool} {held : Bool}
theorem chunk_at {cs : List Value} {o n j : Nat} {x : Value} (h : ((cs.drop o).take n)[j]? = some x) : cs[o + j]? = some x := by
  rw [List.getElem?_take] at h
  split at h
  · simpa using h
  · cases h
theorem flat_nil {α : Type} {l : List (α × List MemPlace)} (h : ∀ b ∈ l, b.2 = []) : l.flatMap (·.2) = [] := List.flatMap_eq_nil_iff.2 h
theorem trod_flat : ∀ (g : Nat) (t : TypeId), flatB P g t = true → ∀ (fuel : Nat) (cs : List Value) (d : DataW H) (ps : List MemPlace), DataW.trod enc P w base spare held fuel t cs = some (d, ps) →
    ps = [] ∧ cs.length = P.cellsOf t ∧ (∀ i k, i < P.cellsOf t → kindAt P g t i = some k → ∃ z, cs[i]? = some (.int k z) ∧ (Lit.int k z).wf = true) ∧
    ∀ (w' : World) (base' : Nat) (spare' : Nat → Bool) (held' : Bool), DataW.trod enc P w' base' spare' held' fuel t cs = some (d, [])
  | 0, t, h => by simp [flatB] at h
  | g + 1, t, h => by
    intro fuel cs d ps hd
    unfold flatB at h
    split at h
    · rename_i k hu
      obtain ⟨z, rfl, he, hw⟩ := DataW.trod_int hu hd
      cases he
      refine ⟨rfl, (of_decide_eq_true h).symm, fun i k' hi hk => ?_, fun w' b' s' h' => by rw [← trod_int_any hu (w := w) (base := base) (spare := spare) (held := held)]; exact hd⟩
      rw [of_decide_eq_true h] at hi
      obtain rfl : i = 0 := by omega
      simp [kindAt, hu] at hk
      subst hk
      exact ⟨z, rfl, hw⟩
    · rename_i n e hu
      simp only [Bool.and_eq_true, decide_eq_true_eq] at h
      obtain ⟨hfe, hct, hce⟩ := h
      cases fuel with
      | zero => simp [DataW.trod] at hd
      | succ f =>
        unfold DataW.trod at hd
        simp only [hu] at hd
        split at hd
        · rename_i hlen
          obtain ⟨l, hm, hx⟩ := Option.map_eq_some_iff.1 hd
          obtain ⟨hl, hg⟩ := mapM_in hm
          have hc : ∀ i, i < n → ∃ b, l[i]? = some b ∧ b.2 = [] ∧ (∀ j k, j < P.cellsOf e → kindAt P g e j = some k → ∃ z, cs[i * P.cellsOf e + j]? = some (.int k z) ∧ (Lit.int k z).wf = true) ∧
              ∀ (w' : World) (base' : Nat) (spare' : Nat → Bool) (held' : Bool), DataW.trod enc P w' base' spare' held' f e ((cs.drop (i * P.cellsOf e)).take (P.cellsOf e)) = some b := fun i hi => by
            obtain ⟨b, h1, h2⟩ := hg i i (by simp [hi])
            obtain ⟨h3, -, h4, h5⟩ := trod_flat g _ hfe _ _ _ _ h2
            refine ⟨b, h1, h3, fun j k hj hk => ?_, fun w' b' s' h' => ?_⟩
            · obtain ⟨z, h6, h7⟩ := h4 j k hj hk
              exact ⟨z, chunk_at h6, h7⟩
            · rw [h5 w' b' s' h', ← h3]
          have hnil : l.flatMap (·.2) = [] := flat_nil fun b hb => by
            obtain ⟨i, hi, rfl⟩ := List.mem_iff_getElem.1 hb
            obtain ⟨b, h1, h2, -⟩ := hc i (by simpa [hl] using hi)
            rw [List.getElem?_eq_getElem hi] at h1
            rw [Option.some.inj h1]
            exact h2
          have h6 : l.flatMap (·.2) = ps := congrArg Prod.snd hx
          refine ⟨h6.symm.trans hnil, hlen, fun i k hi hk => ?_, fun w' b' s' h' => ?_⟩
          · rw [hct] at hi
            simp only [kindAt, hu, if_pos hi] at hk
            have hq : i / P.cellsOf e < n := (Nat.div_lt_iff_lt_mul hce).2 hi
            obtain ⟨b, -, -, h3, -⟩ := hc _ hq
            obtain ⟨z, h4, h5⟩ := h3 _ k (Nat.mod_lt _ hce) hk
            rw [show i / P.cellsOf e * P.cellsOf e + i % P.cellsOf e = i by rw [Nat.mul_comm]; exact Nat.div_add_mod _ _] at h4
            exact ⟨z, h4, h5⟩
          · unfold DataW.trod
            simp only [hu]
            rw [if_pos hlen]
            have hm' : ((List.range n).mapM fun i => DataW.trod enc P w' b' s' h' f e ((cs.drop (i * P.cellsOf e)).take (P.cellsOf e))) = some l := by
              rw [← hm]
              apply mapM_ext
              intro i hi
              obtain ⟨b, h1, -, -, h5⟩ := hc i (by simpa using hi)
              rw [h5 w' b' s' h', h5 w base spare held]
            rw [hm', Option.map_some, hnil, show d = DataW.agg (l.map (·.1)) from (congrArg Prod.fst hx).symm]
        · cases hd
    · rename_i fs hu
      cases fuel with
      | zero => simp [DataW.trod] at hd
      | succ f =>
        unfold DataW.trod at hd
        simp only [hu] at hd
        split at hd
        · rename_i hlen
          obtain ⟨l, hm, hx⟩ := Option.map_eq_some_iff.1 hd
          obtain ⟨hl, hg⟩ := mapM_in hm
          have hc : ∀ (i : Nat) (q : Field), fs.toList[i]? = some q → ∃ b, l[i]? = some b ∧ b.2 = [] ∧ (∀ j k, j < P.cellsOf q.type → kindAt P g q.type j = some k → ∃ z, cs[q.offset + j]? = some (.int k z) ∧ (Lit.int k z).wf = true) ∧
              ∀ (w' : World) (base' : Nat) (spare' : Nat → Bool) (held' : Bool), DataW.trod enc P w' base' spare' held' f q.type ((cs.drop q.offset).take (P.cellsOf q.type)) = some b := fun i q hi => by
            obtain ⟨b, h1, h2⟩ := hg i q hi
            have hfq : flatB P g q.type = true := List.all_eq_true.1 h q (List.mem_of_getElem? hi)
            obtain ⟨h3, -, h4, h5⟩ := trod_flat g _ hfq _ _ _ _ h2
            refine ⟨b, h1, h3, fun j k hj hk => ?_, fun w' b' s' h' => ?_⟩
            · obtain ⟨z, h6, h7⟩ := h4 j k hj hk
              exact ⟨z, chunk_at h6, h7⟩
            · rw [h5 w' b' s' h', ← h3]
          have hnil : l.flatMap (·.2) = [] := flat_nil fun b hb => by
            obtain ⟨i, hi, rfl⟩ := List.mem_iff_getElem.1 hb
            have hi' : i < fs.toList.length := by rw [hl] at hi; exact hi
            obtain ⟨b, h1, h2, -⟩ := hc i _ (List.getElem?_eq_getElem hi')
            rw [List.getElem?_eq_getElem hi] at h1
            rw [Option.some.inj h1]
            exact h2
          have h6 : l.flatMap (·.2) = ps := congrArg Prod.snd hx
          refine ⟨h6.symm.trans hnil, hlen, fun i k hi hk => ?_, fun w' b' s' h' => ?_⟩
          · simp only [kindAt, hu] at hk
            split at hk
            · rename_i q hq
              have hm1 := List.mem_of_find?_eq_some hq
              have hp := List.find?_some hq
              simp only [Bool.and_eq_true, decide_eq_true_eq] at hp
              obtain ⟨j, hj⟩ := List.getElem?_of_mem hm1
              obtain ⟨b, -, -, h3, -⟩ := hc _ _ hj
              obtain ⟨z, h4, h5⟩ := h3 _ k (by omega) hk
              rw [show q.offset + (i - q.offset) = i by omega] at h4
              exact ⟨z, h4, h5⟩
            · cases hk
          · unfold DataW.trod
            simp only [hu]
            rw [if_pos hlen]
            have hm' : (fs.toList.mapM fun f1 => DataW.trod enc P w' b' s' h' f f1.type ((cs.drop f1.offset).take (P.cellsOf f1.type))) = some l := by
              rw [← hm]
              apply mapM_ext
              intro f1 hf1
              obtain ⟨i, hi⟩ := List.getElem?_of_mem hf1
              obtain ⟨b, h1, -, -, h5⟩ := hc i f1 hi
              rw [h5 w' b' s' h', h5 w base spare held]
            rw [hm', Option.map_some, hnil, show d = DataW.agg (l.map (·.1)) from (congrArg Prod.fst hx).symm]
        · cases hd
    · cases h
def aggB (P : Program) (t : TypeId) : Bool := match P.underlying t with
  | some (.struct _) => true
  | some (.array _ _) => true
  | _ => false
def ints (ks : List IntKind) (xs : List Int) : List Value := List.zipWith Value.int ks xs
def intsWf : List IntKind → List Int → Prop
  | k :: ks, x :: xs => (Lit.int k x).wf = true ∧ intsWf ks xs
  | _, _ => True
theorem ints_of : ∀ (ks : List IntKind) (cs : List Value), cs.length = ks.length → (∀ (i : Nat) (k : IntKind), ks[i]? = some k → ∃ z, cs[i]? = some (Value.int k z) ∧ (Lit.int k z).wf = true) → ∃ xs : List Int, xs.length = ks.length ∧ cs = ints ks xs ∧ intsWf ks xs
  | [], [], _, _ => ⟨[], rfl, rfl, trivial⟩
  | k :: ks, c :: cs, hl, h => by
    obtain ⟨z, hz, hw⟩ := h 0 k rfl
    cases hz
    obtain ⟨xs, h1, h2, h3⟩ := ints_of ks cs (by simpa using hl) fun i k hi => by simpa using h (i + 1) k (by simpa using hi)
    exact ⟨z :: xs, by simp [h1], by rw [h2]; rfl, hw, h3⟩
  | [], _ :: _, hl, _ => by simp at hl
  | _ :: _, [], hl, _ => by simp at hl
theorem open_flat (g : Nat) {r : Reach} {b0 : Nat} {t : TypeId} (ks : List IntKind) {v : Value} {d : DataW H} {ps : List MemPlace} (hfl : flatB P g t = true) (hag : aggB P t = true) (hks : (List.range (P.cellsOf t)).map (kindAt P g t) = ks.map some)
    (hval : Value.okWide P w r b0 t v) (hd : DataW.Trod enc P w base spare held t v d ps) :
    ∃ xs : List Int, xs.length = ks.length ∧ v = .agg (ints ks xs).toArray ∧ ps = [] ∧ intsWf ks xs ∧ ∀ (w' : World) (base' : Nat) (spare' : Nat → Bool) (held' : Bool), DataW.Trod enc P w' base' spare' held' t v d [] := by
  have hcs : ∃ cs, v = .agg cs := by
    unfold aggB at hag
    split at hag
    · rename_i hu
      simp only [Value.okWide, hu] at hval
      obtain ⟨cs, h, -⟩ := hval
      exact ⟨cs, h⟩
    · rename_i hu
      simp only [Value.okWide, hu] at hval
      obtain ⟨cs, h, -⟩ := hval
      exact ⟨cs, h⟩
    · cases hag
  obtain ⟨cs, rfl⟩ := hcs
  obtain ⟨fuel, hf⟩ := hd
  obtain ⟨h1, h2, h3, h4⟩ := trod_flat g _ hfl _ _ _ _ hf
  have hn : ks.length = P.cellsOf t := by
    have := congrArg List.length hks
    simpa using this.symm
  simp only [Value.cells] at h2 h3
  obtain ⟨xs, h5, h6, h7⟩ := ints_of ks cs.toList (by omega) fun i k hi => by
    have hi' : i < P.cellsOf t := by
      have := (List.getElem?_eq_some_iff.1 hi).1
      omega
    refine h3 i k hi' ?_
    have := congrArg (fun l => l[i]?) hks
    simp [hi, hi'] at this
    exact this
  refine ⟨xs, h5, ?_, h1, h7, fun w' b' s' h' => ⟨fuel, h4 w' b' s' h'⟩⟩
  rw [← h6]
end
end Go.AM

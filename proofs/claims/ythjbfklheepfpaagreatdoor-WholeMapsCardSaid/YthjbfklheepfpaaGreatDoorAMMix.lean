import Derived.Test.YthjbfklheepfpaaGreatDoorP3
set_option linter.unusedVariables false
set_option linter.unusedSimpArgs false
set_option maxHeartbeats 4000000
namespace Go.AM
open Go Go.ChangeShapes Go.WideShapes
inductive SK where
  | i (k : IntKind)
  | b
def scOk : SK → Value → Prop
  | .i k, v => ∃ z, v = .int k z ∧ (Lit.int k z).wf = true
  | .b, v => ∃ z, v = .bool z
def MixL : List SK → List Value → Prop
  | [], [] => True
  | k :: ks, v :: vs => scOk k v ∧ MixL ks vs
  | _, _ => False
def kindM (P : Program) : Nat → TypeId → Nat → Option SK
  | 0, _, _ => none
  | g + 1, t, i => match P.underlying t with
    | some (.int k) => if i = 0 then some (.i k) else none
    | some .bool => if i = 0 then some .b else none
    | some (.array n e) => if i < n * P.cellsOf e then kindM P g e (i % P.cellsOf e) else none
    | some (.struct fs) => match fs.toList.find? (fun f => decide (f.offset ≤ i) && decide (i < f.offset + P.cellsOf f.type)) with
      | some f => kindM P g f.type (i - f.offset)
      | none => none
    | _ => none
def flatM (P : Program) : Nat → TypeId → Bool
  | 0, _ => false
  | g + 1, t => match P.underlying t with
    | some (.int _) => decide (P.cellsOf t = 1)
    | some .bool => decide (P.cellsOf t = 1)
    | some (.array n e) => flatM P g e && (decide (P.cellsOf t = n * P.cellsOf e) && decide (0 < P.cellsOf e))
    | some (.struct fs) => fs.toList.all fun f => flatM P g f.type
    | _ => false
theorem mix_cons {k : SK} {ks : List SK} : ∀ {l : List Value}, MixL (k :: ks) l → ∃ v r, l = v :: r ∧ scOk k v ∧ MixL ks r
  | [], h => h.elim
  | v :: r, h => ⟨v, r, rfl, h.1, h.2⟩
theorem mix_nil : ∀ {l : List Value}, MixL [] l → l = []
  | [], _ => rfl
  | _ :: _, h => h.elim
section
variable {H : Type} {enc : TypeId × Value → H} {P : Program} {w : World} {base : Nat} {spare : Nat → Bool} {held : Bool}
theorem trod_bool_any {e : TypeId} (he : P.underlying e = some .bool) {w' : World} {base' : Nat} {spare' : Nat → Bool} {held' : Bool} (fuel : Nat) (cs : List Value) :
    DataW.trod enc P w base spare held fuel e cs = DataW.trod enc P w' base' spare' held' fuel e cs := by
  cases fuel with
  | zero => rfl
  | succ n => unfold DataW.trod; rw [he]; split <;> first | rfl | (rename_i hh; cases hh; done) | (rename_i hh _; cases hh; done)
theorem trod_mix [Glob] : ∀ (g : Nat) (t : TypeId), flatM P g t = true → ∀ (fuel : Nat) (cs : List Value) (d : DataW H) (ps : List MemPlace), DataW.trod enc P w base spare held fuel t cs = some (d, ps) →
    ps = [] ∧ cs.length = P.cellsOf t ∧ (∀ i k, i < P.cellsOf t → kindM P g t i = some k → ∃ z, cs[i]? = some z ∧ scOk k z) ∧
    ∀ (w' : World) (base' : Nat) (spare' : Nat → Bool) (held' : Bool), DataW.trod enc P w' base' spare' held' fuel t cs = some (d, [])
  | 0, t, h => by simp [flatM] at h
  | g + 1, t, h => by
    intro fuel cs d ps hd
    unfold flatM at h
    split at h
    · rename_i k hu
      obtain ⟨z, rfl, he, hw⟩ := DataW.trod_int hu hd
      cases he
      refine ⟨rfl, (of_decide_eq_true h).symm, fun i k' hi hk => ?_, fun w' b' s' h' => by rw [← trod_int_any hu (w := w) (base := base) (spare := spare) (held := held)]; exact hd⟩
      rw [of_decide_eq_true h] at hi
      obtain rfl : i = 0 := by omega
      simp [kindM, hu] at hk
      subst hk
      exact ⟨_, rfl, z, rfl, hw⟩
    · rename_i hu
      obtain ⟨z, rfl, he⟩ := DataW.trod_bool hu hd
      cases he
      refine ⟨rfl, (of_decide_eq_true h).symm, fun i k' hi hk => ?_, fun w' b' s' h' => by rw [← trod_bool_any hu (w := w) (base := base) (spare := spare) (held := held)]; exact hd⟩
      rw [of_decide_eq_true h] at hi
      obtain rfl : i = 0 := by omega
      simp [kindM, hu] at hk
      subst hk
      exact ⟨_, rfl, z, rfl⟩
    · rename_i n e hu
      simp only [Bool.and_eq_true, decide_eq_true_eq] at h
      obtain ⟨hfe, hct, hce⟩ := h
      cases fuel with
      | zero => simp [DataW.trod] at hd
      | succ f =>
        unfold DataW.trod at hd
        simp only [hu] at hd
        split at hd
        · rename_i hlen
          obtain ⟨l, hm, hx⟩ := Option.map_eq_some_iff.1 hd
          obtain ⟨hl, hg⟩ := mapM_in hm
          have hc : ∀ i, i < n → ∃ b, l[i]? = some b ∧ b.2 = [] ∧ (∀ j k, j < P.cellsOf e → kindM P g e j = some k → ∃ z, cs[i * P.cellsOf e + j]? = some z ∧ scOk k z) ∧
              ∀ (w' : World) (base' : Nat) (spare' : Nat → Bool) (held' : Bool), DataW.trod enc P w' base' spare' held' f e ((cs.drop (i * P.cellsOf e)).take (P.cellsOf e)) = some b := fun i hi => by
            obtain ⟨b, h1, h2⟩ := hg i i (by simp [hi])
            obtain ⟨h3, -, h4, h5⟩ := trod_mix g _ hfe _ _ _ _ h2
            refine ⟨b, h1, h3, fun j k hj hk => ?_, fun w' b' s' h' => ?_⟩
            · obtain ⟨z, h6, h7⟩ := h4 j k hj hk
              exact ⟨z, chunk_at h6, h7⟩
            · rw [h5 w' b' s' h', ← h3]
          have hnil : l.flatMap (·.2) = [] := flat_nil fun b hb => by
            obtain ⟨i, hi, rfl⟩ := List.mem_iff_getElem.1 hb
            obtain ⟨b, h1, h2, -⟩ := hc i (by simpa [hl] using hi)
            rw [List.getElem?_eq_getElem hi] at h1
            rw [Option.some.inj h1]
            exact h2
          have h6 : l.flatMap (·.2) = ps := congrArg Prod.snd hx
          refine ⟨h6.symm.trans hnil, hlen, fun i k hi hk => ?_, fun w' b' s' h' => ?_⟩
          · rw [hct] at hi
            simp only [kindM, hu, if_pos hi] at hk
            have hq : i / P.cellsOf e < n := (Nat.div_lt_iff_lt_mul hce).2 hi
            obtain ⟨b, -, -, h3, -⟩ := hc _ hq
            obtain ⟨z, h4, h5⟩ := h3 _ k (Nat.mod_lt _ hce) hk
            rw [show i / P.cellsOf e * P.cellsOf e + i % P.cellsOf e = i by rw [Nat.mul_comm]; exact Nat.div_add_mod _ _] at h4
            exact ⟨z, h4, h5⟩
          · unfold DataW.trod
            simp only [hu]
            rw [if_pos hlen]
            have hm' : ((List.range n).mapM fun i => DataW.trod enc P w' b' s' h' f e ((cs.drop (i * P.cellsOf e)).take (P.cellsOf e))) = some l := by
              rw [← hm]
              apply mapM_ext
              intro i hi
              obtain ⟨b, h1, -, -, h5⟩ := hc i (by simpa using hi)
              rw [h5 w' b' s' h', h5 w base spare held]
            rw [hm', Option.map_some, hnil, show d = DataW.agg (l.map (·.1)) from (congrArg Prod.fst hx).symm]
        · cases hd
    · rename_i fs hu
      cases fuel with
      | zero => simp [DataW.trod] at hd
      | succ f =>
        unfold DataW.trod at hd
        simp only [hu] at hd
        split at hd
        · rename_i hlen
          obtain ⟨l, hm, hx⟩ := Option.map_eq_some_iff.1 hd
          obtain ⟨hl, hg⟩ := mapM_in hm
          have hc : ∀ (i : Nat) (q : Field), fs.toList[i]? = some q → ∃ b, l[i]? = some b ∧ b.2 = [] ∧ (∀ j k, j < P.cellsOf q.type → kindM P g q.type j = some k → ∃ z, cs[q.offset + j]? = some z ∧ scOk k z) ∧
              ∀ (w' : World) (base' : Nat) (spare' : Nat → Bool) (held' : Bool), DataW.trod enc P w' base' spare' held' f q.type ((cs.drop q.offset).take (P.cellsOf q.type)) = some b := fun i q hi => by
            obtain ⟨b, h1, h2⟩ := hg i q hi
            have hfq : flatM P g q.type = true := List.all_eq_true.1 h q (List.mem_of_getElem? hi)
            obtain ⟨h3, -, h4, h5⟩ := trod_mix g _ hfq _ _ _ _ h2
            refine ⟨b, h1, h3, fun j k hj hk => ?_, fun w' b' s' h' => ?_⟩
            · obtain ⟨z, h6, h7⟩ := h4 j k hj hk
              exact ⟨z, chunk_at h6, h7⟩
            · rw [h5 w' b' s' h', ← h3]
          have hnil : l.flatMap (·.2) = [] := flat_nil fun b hb => by
            obtain ⟨i, hi, rfl⟩ := List.mem_iff_getElem.1 hb
            have hi' : i < fs.toList.length := by rw [hl] at hi; exact hi
            obtain ⟨b, h1, h2, -⟩ := hc i _ (List.getElem?_eq_getElem hi')
            rw [List.getElem?_eq_getElem hi] at h1
            rw [Option.some.inj h1]
            exact h2
          have h6 : l.flatMap (·.2) = ps := congrArg Prod.snd hx
          refine ⟨h6.symm.trans hnil, hlen, fun i k hi hk => ?_, fun w' b' s' h' => ?_⟩
          · simp only [kindM, hu] at hk
            split at hk
            · rename_i q hq
              have hm1 := List.mem_of_find?_eq_some hq
              have hp := List.find?_some hq
              simp only [Bool.and_eq_true, decide_eq_true_eq] at hp
              obtain ⟨j, hj⟩ := List.getElem?_of_mem hm1
              obtain ⟨b, -, -, h3, -⟩ := hc _ _ hj
              obtain ⟨z, h4, h5⟩ := h3 _ k (by omega) hk
              rw [show q.offset + (i - q.offset) = i by omega] at h4
              exact ⟨z, h4, h5⟩
            · cases hk
          · unfold DataW.trod
            simp only [hu]
            rw [if_pos hlen]
            have hm' : (fs.toList.mapM fun f1 => DataW.trod enc P w' b' s' h' f f1.type ((cs.drop f1.offset).take (P.cellsOf f1.type))) = some l := by
              rw [← hm]
              apply mapM_ext
              intro f1 hf1
              obtain ⟨i, hi⟩ := List.getElem?_of_mem hf1
              obtain ⟨b, h1, -, -, h5⟩ := hc i f1 hi
              rw [h5 w' b' s' h', h5 w base spare held]
            rw [hm', Option.map_some, hnil, show d = DataW.agg (l.map (·.1)) from (congrArg Prod.fst hx).symm]
        · cases hd
    · cases h
theorem mix_of : ∀ (ks : List SK) (cs : List Value), cs.length = ks.length → (∀ (i : Nat) (k : SK), ks[i]? = some k → ∃ z, cs[i]? = some z ∧ scOk k z) → MixL ks cs
  | [], [], _, _ => trivial
  | k :: ks, c :: cs, hl, h => by
    obtain ⟨z, hz, hw⟩ := h 0 k rfl
    cases hz
    exact ⟨hw, mix_of ks cs (by simpa using hl) fun i k hi => by simpa using h (i + 1) k (by simpa using hi)⟩
  | [], _ :: _, hl, _ => by simp at hl
  | _ :: _, [], hl, _ => by simp at hl
theorem open_mix [Glob] (g : Nat) {r : Reach} {b0 : Nat} {t : TypeId} (ks : List SK) {v : Value} {d : DataW H} {ps : List MemPlace} (hfl : flatM P g t = true) (hag : aggB P t = true) (hks : (List.range (P.cellsOf t)).map (kindM P g t) = ks.map some)
    (hval : Value.okWide P w r b0 t v) (hd : DataW.Trod enc P w base spare held t v d ps) :
    ∃ xs : List Value, MixL ks xs ∧ v = .agg xs.toArray ∧ ps = [] ∧ ∀ (w' : World) (base' : Nat) (spare' : Nat → Bool) (held' : Bool), DataW.Trod enc P w' base' spare' held' t v d [] := by
  have hcs : ∃ cs, v = .agg cs := by
    unfold aggB at hag
    split at hag
    · rename_i hu
      simp only [Value.okWide, hu] at hval
      obtain ⟨cs, h, -⟩ := hval
      exact ⟨cs, h⟩
    · rename_i hu
      simp only [Value.okWide, hu] at hval
      obtain ⟨cs, h, -⟩ := hval
      exact ⟨cs, h⟩
    · cases hag
  obtain ⟨cs, rfl⟩ := hcs
  obtain ⟨fuel, hf⟩ := hd
  obtain ⟨h1, h2, h3, h4⟩ := trod_mix g _ hfl _ _ _ _ hf
  have hn : ks.length = P.cellsOf t := by
    have := congrArg List.length hks
    simpa using this.symm
  simp only [Value.cells] at h2 h3
  refine ⟨cs.toList, mix_of ks cs.toList (by omega) fun i k hi => ?_, by simp, h1, fun w' b' s' h' => ⟨fuel, h4 w' b' s' h'⟩⟩
  have hi' : i < P.cellsOf t := by
    have := (List.getElem?_eq_some_iff.1 hi).1
    omega
  refine h3 i k hi' ?_
  have := congrArg (fun l => l[i]?) hks
  simp [hi, hi'] at this
  exact this
end
end Go.AM

import Derived.Test.YtbehdodaaobcdaaGreatDoorA02
import Derived.Lib.Strings
import Derived.Laws.AppendOwn
set_option maxHeartbeats 4000000
namespace Go.AM
open Go

def Pl.sv (p : Pl) (n : Nat) : Value := if p.nil then .slice none 0 0 else .slice (some ⟨p.blk, 0, none⟩) n p.cap
def EntR (pl : List Pl) : List (PV × PV) → List MapEntry → Prop
  | [], [] => True
  | (k, v) :: l, e :: es => k.R pl e.key ∧ v.R pl e.val ∧ EntR pl l es
  | _, _ => False
def Seen (w : World) (c base : Nat) (vs : List Value) : Prop := ∀ (j : Nat) v, vs[j]? = some v → w.cell? ⟨c, base + j, none⟩ = some v
def Jmp.st : Jmp → LoopState
  | .none => .ready
  | _ => .done
def Jmp.pend : Jmp → Option Code
  | .none => Option.none
  | .ret => some .ret
  | .exit id => some (.exit id)
def BlkR (pl : List Pl) (w : World) (x : Blk) (p : Pl) : Prop :=
  match x with
  | .gone => True
  | .row T cs => ∃ vs, RL pl cs vs ∧ w.heap[p.blk]? = some (.cells vs.toArray T (0, 0))
  | .own T C xs => ∃ vs, RL pl (flatC C xs) vs ∧ w.ownsRowZ 0 T C.esz (p.sv xs.length) xs.length vs
  | .ownL T z n cs => ∃ vs, RL pl cs vs ∧ w.ownsRowZ 0 T z (p.sv n) n vs
  | .ro _ C xs => ∃ vs, RL pl (flatC C xs) vs ∧ (p.nil = true → xs = []) ∧ Seen w p.blk p.cap vs
  | .mp es => ∃ (ms : Array MapEntry) (clock : Nat), EntR pl es ms.toList ∧ w.heap[p.blk]? = some (.map ms clock)
  | .omp C es => ∃ (ms : Array MapEntry) (clock : Nat), EntR pl (omE C es) ms.toList ∧ w.heap[p.blk]? = some (.map ms clock)
  | .sit _ s n => w.heap[p.blk]? = some (.stringIter ⟨s.toArray⟩ n)
  | .lp e ps asg body j => ∃ (fn : FuncId) (tmps : Array Value) (D : Nat), EnvR pl e tmps ∧ w.heap[p.blk]? = some (.loop { state := j.st, pending := j.pend, fn, tmps, params := ps, assign := asg, body, defers := D })
def HB (pl : List Pl) (h : Heap) (w : World) : Prop := ∀ (b : Nat) x p, h[b]? = some x → pl[b]? = some p → BlkR pl w x p

def OR.gives (r : OR) (av : AV) : Prop := r = .ok av ∨ ∃ p : Prop, r = .iff p av ∧ p
theorem gives_fail {av : AV} (h : OR.fail.gives av) : False := by rcases h with h | ⟨p, h, _⟩ <;> cases h
theorem gives_ok {av x : AV} (h : (OR.ok x).gives av) : av = x := by rcases h with h | ⟨p, h, _⟩ <;> cases h; rfl
theorem gives_ofOpt {r : Option PV} {av : AV} (h : (ofOpt r).gives av) : ∃ p, r = some p ∧ av = .v p := by
  cases r with
  | none => exact (gives_fail h).elim
  | some p => exact ⟨p, rfl, gives_ok h⟩

section
variable {P : Program}
theorem run_size {t n : Nat} (h : size? P t = some n) (w : World) : (sizeOf t).run P w = .ok n w := by
  unfold size? at h
  cases hi : P.info? t with
  | none => simp [hi] at h
  | some i => simp [hi] at h; subst h; simp [sizeOf, typeInfo, hi]
theorem info_size {t n : Nat} (h : size? P t = some n) : (P.info? t).map (·.size) = some n := by
  unfold size? at h
  cases hi : P.info? t with
  | none => simp [hi] at h
  | some i => simp [hi] at h; subst h; rfl
theorem run_isAgg {t : Nat} {b : Bool} (h : isAggT P t = some b) (w : World) : (isAgg t).run P w = .ok b w := by
  unfold isAggT at h
  cases hu : P.underlying t with
  | none => simp [hu] at h
  | some d =>
    unfold isAgg
    rw [Sem.run_bind, run_underlying hu w]
    cases d <;> simp [hu] at h <;> subst h <;> simp
theorem isAgg_row {t : Nat} (h : isAggT P t = some true) : ∃ d, P.underlying t = some d ∧ d.isRow = true := by
  unfold isAggT at h
  cases hu : P.underlying t with
  | none => simp [hu] at h
  | some d => cases d <;> simp [hu] at h <;> exact ⟨_, rfl, rfl⟩

theorem part_run {pl : List Pl} {t off : Nat} {cs : List SV} {vs : List Value} {p : PV} (hv : RL pl cs vs) (h : partOf P t cs off = some p) :
    ∃ v, p.R pl v ∧ ∀ w, (part t vs.toArray off).run P w = .ok v w := by
  unfold partOf at h
  cases ha : isAggT P t with
  | none => simp [ha] at h
  | some b =>
    cases b with
    | false =>
      simp only [ha] at h
      cases hg : get? cs off with
      | none => simp [hg] at h
      | some s =>
        simp [hg] at h
        subst h
        rw [get?_eq] at hg
        obtain ⟨v, h1, h2⟩ := hv.get hg
        refine ⟨v, h2, fun w => ?_⟩
        simp [part, Sem.run_bind, run_isAgg ha, h1]
    | true =>
      cases hs : size? P t with
      | none => simp [ha, hs] at h
      | some n =>
        simp only [ha, hs] at h
        cases ht : takeE n (dropN off cs) with
        | none => simp [ht] at h
        | some l =>
          simp [ht] at h
          subst h
          have ⟨h1, h2⟩ := RL.takeE (hv.drop off) ht
          refine ⟨.agg ((vs.drop off).take n).toArray, ⟨_, rfl, h1⟩, fun w => ?_⟩
          have e : vs.toArray.extract off (off + n) = ((vs.drop off).take n).toArray := by
            apply Array.ext'
            simp [List.take_drop, Nat.add_comm]
          simp [part, Sem.run_bind, run_isAgg ha, run_size hs, e]

theorem Seen.of_row {w : World} {c T : Nat} {vs : List Value} {fr : Nat × Nat} (h : w.heap[c]? = some (.cells vs.toArray T fr)) : Seen w c 0 vs := fun j v hj => by
  simp [World.cell?, h, hj]
theorem Seen.of_own {w : World} {T z n : Nat} {p : Pl} {m : Nat} {vs : List Value} (h : w.ownsRowZ 0 T z (p.sv m) n vs) : Seen w p.blk 0 vs := fun j v hj => by
  cases hn : p.nil with
  | true =>
    rcases h.2 with ⟨_, h0⟩ | ⟨g, cap, cur, hv, _⟩
    · have := h.1
      rw [h0] at this
      have e : vs = [] := List.eq_nil_of_length_eq_zero (by simpa using this)
      rw [e] at hj; simp at hj
    · simp [Pl.sv, hn] at hv
  | false =>
    have := h.cells (g := p.blk) (by simp [Pl.sv, hn, Value.ownBlock]) j v hj
    rw [Addr.add_lit] at this
    simpa using this
theorem Seen.part {w : World} {c base : Nat} {vs : List Value} (h : Seen w c base vs) (off n : Nat) : Seen w c (base + off) ((vs.drop off).take n) := fun j v hj => by
  have hj' : vs[off + j]? = some v := by
    rw [List.getElem?_take] at hj
    split at hj
    · simpa [List.getElem?_drop] using hj
    · cases hj
  rw [Nat.add_assoc]
  exact h _ _ hj'
theorem RL.split {pl : List Pl} : ∀ {a b : List SV} {vs : List Value}, RL pl (a ++ b) vs → RL pl a (vs.take a.length) ∧ RL pl b (vs.drop a.length)
  | [], _, _, h => ⟨by simp [RL], by simpa using h⟩
  | _ :: _, _, [], h => h.elim
  | s :: a, b, v :: vs, h => by
    obtain ⟨h1, h2⟩ := RL.split h.2
    exact ⟨by simpa [RL] using ⟨h.1, h1⟩, by simpa using h2⟩
theorem RL.append {pl : List Pl} : ∀ {a b : List SV} {vs us : List Value}, RL pl a vs → RL pl b us → RL pl (a ++ b) (vs ++ us)
  | [], _, [], _, _, h => h
  | [], _, _ :: _, _, h, _ => h.elim
  | _ :: _, _, [], _, h, _ => h.elim
  | _ :: _, _, _ :: _, _, h, k => ⟨h.1, RL.append h.2 k⟩
theorem flat_get {pl : List Pl} {C : Codec} : ∀ {xs : List C.τ} {vs : List Value} {idx : Nat}, RL pl (flatC C xs) vs → idx < xs.length → RL pl (C.enc (xs.getD idx C.d)) ((vs.drop (idx * C.esz)).take C.esz)
  | [], _, _, _, hi => by simp at hi
  | t :: xs, vs, 0, h, _ => by
    have := (RL.split h).1
    rw [C.len_ok] at this
    simpa using this
  | t :: xs, vs, idx + 1, h, hi => by
    have h2 := (RL.split h).2
    rw [C.len_ok] at h2
    have := flat_get (idx := idx) h2 (by simpa using hi)
    rw [List.drop_drop] at this
    have e : C.esz + idx * C.esz = (idx + 1) * C.esz := by rw [Nat.add_mul, Nat.one_mul, Nat.add_comm]
    rw [e] at this
    simpa using this
theorem flat_len {C : Codec} : ∀ (xs : List C.τ), (flatC C xs).length = xs.length * C.esz
  | [] => by simp [flatC]
  | t :: xs => by simp [flatC, flat_len xs, C.len_ok, Nat.add_mul, Nat.add_comm]
theorem flat_known {C : Codec} : ∀ (xs : List C.τ), knownAll (flatC C xs) = true
  | [] => rfl
  | t :: xs => by
    have : ∀ (a b : List SV), knownAll a = true → knownAll b = true → knownAll (a ++ b) = true := fun a b ha hb => by
      induction a with
      | nil => exact hb
      | cons s a ih => simp only [knownAll, List.cons_append, Bool.and_eq_true] at ha ⊢; exact ⟨ha.1, ih ha.2⟩
    exact this _ _ (C.known_ok t) (flat_known xs)

theorem load_cells {pl : List Pl} {t off : Nat} {cs : List SV} {vs : List Value} {p : PV} (hv : RL pl cs vs) (hq : partOf P t cs off = some p) {w : World} {c base : Nat} (hs : Seen w c base vs) :
    ∃ v, p.R pl v ∧ (loadVar t ⟨c, base + off, none⟩).run P w = .ok v w := by
  unfold partOf at hq
  cases hA : isAggT P t with
  | none => simp [hA] at hq
  | some bb =>
    cases bb with
    | false =>
      simp only [hA] at hq
      cases hg2 : get? cs off with
      | none => simp [hg2] at hq
      | some s =>
        simp [hg2] at hq
        subst hq
        rw [get?_eq] at hg2
        obtain ⟨v, h1, h2⟩ := hv.get hg2
        refine ⟨v, h2, ?_⟩
        simp [loadVar, Sem.run_bind, run_isAgg hA, run_load, hs _ _ h1]
    | true =>
      cases hs2 : size? P t with
      | none => simp [hA, hs2] at hq
      | some n =>
        simp only [hA, hs2] at hq
        cases ht : takeE n (dropN off cs) with
        | none => simp [ht] at hq
        | some l =>
          simp [ht] at hq
          subst hq
          have ⟨h1, h2⟩ := RL.takeE (hv.drop off) ht
          obtain ⟨d, hd, hd2⟩ := isAgg_row hA
          have hlen : ((vs.drop off).take n).length = n := by
            simp at h2 ⊢; omega
          exact ⟨_, ⟨_, rfl, h1⟩, run_loadVar_mid w c (base + off) t _ d (hs.part off n) hd hd2 (by rw [hlen]; exact info_size hs2)⟩
theorem load_run {pl : List Pl} {h : Heap} {t b off : Nat} {p : PV} (hl : loadV P t h b off = some p) {a : Addr} (ha : addrOf pl b off = some a) {w : World} (hB : HB pl h w) :
    ∃ v, p.R pl v ∧ (loadVar t a).run P w = .ok v w := by
  unfold loadV at hl
  unfold addrOf at ha
  cases hp : pl[b]? with
  | none => simp [hp] at ha
  | some q =>
    simp [hp] at ha
    subst ha
    cases hg : get? h b with
    | none => simp [hg] at hl
    | some x =>
      rw [get?_eq] at hg
      have hx := hB b x q hg hp
      cases x with
      | gone => simp [get?_eq, hg] at hl
      | own T C xs => simp [get?_eq, hg] at hl
      | ro T C xs => simp [get?_eq, hg] at hl
      | omp C es => simp [get?_eq, hg] at hl
      | sit c s n => simp [get?_eq, hg] at hl
      | lp _ _ _ _ _ => simp [get?_eq, hg] at hl
      | mp es => simp [get?_eq, hg] at hl
      | row T cs =>
        simp only [get?_eq, hg] at hl
        obtain ⟨vs, hv, hw⟩ := hx
        cases hq : partOf P t cs off with
        | none => simp [hq] at hl
        | some p' =>
          simp only [hq] at hl
          split at hl
          · have e : p' = p := by simpa using hl
            subst e
            have := load_cells hv hq (Seen.of_row hw)
            simpa using this
          · cases hl
      | ownL T z n cs =>
        simp only [get?_eq, hg] at hl
        obtain ⟨vs, hv, hw⟩ := hx
        cases hq : partOf P t cs off with
        | none => simp [hq] at hl
        | some p' =>
          simp only [hq] at hl
          split at hl
          · have e : p' = p := by simpa using hl
            subst e
            have := load_cells hv hq (Seen.of_own hw)
            simpa using this
          · cases hl
theorem loadE_run {pl : List Pl} {h : Heap} {t b z idx sub : Nat} {av : AV} (hl : (loadE P t h b z idx sub).gives av) {a : Addr} (ha : addrOf pl b (idx * z + sub) = some a) :
    ∃ p : PV, av = .v p ∧ p.known = true ∧ ∀ w, HB pl h w → ∃ v, p.R pl v ∧ (loadVar t a).run P w = .ok v w := by
  unfold loadE at hl
  unfold addrOf at ha
  split at hl
  · rename_i T C xs hg
    rw [get?_eq] at hg
    split at hl
    · rename_i hz
      split at hl
      · rename_i p hq
        split at hl
        · rename_i hk
          rcases hl with hl | ⟨q, hl, hi⟩
          · cases hl
          · injection hl with h1 h2
            rw [← h1] at hi
            refine ⟨p, h2.symm, hk, fun w hB => ?_⟩
            cases hp : pl[b]? with
            | none => simp [hp] at ha
            | some q =>
              simp [hp] at ha
              subst ha
              obtain ⟨vs, hv, hw⟩ := hB b _ q hg hp
              have h3 := flat_get hv hi
              have h4 := (Seen.of_own hw).part (idx * C.esz) C.esz
              rw [hz] at h3 h4
              have := load_cells h3 hq h4
              simpa using this
        · exact (gives_fail hl).elim
      · exact (gives_fail hl).elim
    · exact (gives_fail hl).elim
  · exact (gives_fail hl).elim
theorem loadR_run {pl : List Pl} {h : Heap} {t b z idx sub : Nat} {av : AV} (hl : (loadR P t h b z idx sub).gives av) {v0 : Value} (ha : rpVal pl b (idx * z + sub) = some v0) :
    ∃ (p : PV) (a : Addr), av = .v p ∧ p.known = true ∧ v0 = .pointer (some a) ∧ ∀ w, HB pl h w → ∃ v, p.R pl v ∧ (loadVar t a).run P w = .ok v w := by
  unfold loadR at hl
  unfold rpVal at ha
  split at hl
  · rename_i T C xs hg
    rw [get?_eq] at hg
    split at hl
    · rename_i hz
      split at hl
      · rename_i p hq
        split at hl
        · rename_i hk
          rcases hl with hl | ⟨q, hl, hi⟩
          · cases hl
          · injection hl with h1 h2
            rw [← h1] at hi
            cases hp : pl[b]? with
            | none => simp [hp] at ha
            | some q =>
              simp [hp] at ha
              refine ⟨p, _, h2.symm, hk, ha.symm, fun w hB => ?_⟩
              obtain ⟨vs, hv, _, hw⟩ := hB b _ q hg hp
              have h3 := flat_get hv hi
              have h4 := hw.part (idx * C.esz) C.esz
              rw [hz] at h3 h4
              have := load_cells h3 hq h4
              simpa [Nat.add_assoc] using this
        · exact (gives_fail hl).elim
      · exact (gives_fail hl).elim
    · exact (gives_fail hl).elim
  · exact (gives_fail hl).elim
theorem loadV_known {h : Heap} {t b off : Nat} {p : PV} (hl : loadV P t h b off = some p) : p.known = true := by
  unfold loadV at hl
  split at hl
  · split at hl
    · split at hl
      · rename_i hk; have e := Option.some.inj hl; subst e; exact hk
      · cases hl
    · cases hl
  · split at hl
    · split at hl
      · rename_i hk; have e := Option.some.inj hl; subst e; exact hk
      · cases hl
    · cases hl
  · cases hl

def QS (P : Program) (pl : List Pl) (h : Heap) (o : Oper) (a : Act) (av : AV) : Prop :=
  ∃ v, ∀ w, HB pl h w → av.R pl v ∧ (execOp a.eval o).run P w = .ok (.value v) w
theorem mkI_R (pl : List Pl) (c : Bool) (k : IntKind) (n : Int) : (mkI c k n).R pl (.int k n) := by cases c <;> exact Or.inr rfl
theorem mkB_R (pl : List Pl) (c : Bool) (b : Bool) : (mkB c b).R pl (.bool b) := by cases c <;> exact Or.inr rfl

theorem aInt_sound (pl : List Pl) {op : BinOp} {k : IntKind} {x y : Int} {xc yc : Bool} {av : AV} (h : (aInt op k x y xc yc).gives av) (t : Nat) :
    ∃ v, av.R pl v ∧ ∀ w, (binOp op t (.int k x) (.int k y)).run P w = .ok v w := by
  unfold aInt at h
  cases op <;> simp only [arith, divI, cmpI] at h
  case add => rw [gives_ok h]; exact ⟨_, mkI_R .., fun w => by simp [binOp_add, Op.intArith]⟩
  case sub => rw [gives_ok h]; exact ⟨_, mkI_R .., fun w => by simp [binOp_sub, Op.intArith]⟩
  case mul => rw [gives_ok h]; exact ⟨_, mkI_R .., fun w => by simp [binOp_mul, Op.intArith]⟩
  case quo =>
    cases yc with
    | true =>
      by_cases hy : y = 0
      · simp [hy] at h; exact (gives_fail h).elim
      · simp [hy] at h; rw [gives_ok h]; exact ⟨_, mkI_R .., fun w => by simp [binOp_quo, Op.intDiv, hy]⟩
    | false =>
      rcases h with h | ⟨p, h, hp⟩
      · cases h
      · have hy : y ≠ 0 := by injection h with h1 h2; rw [h1]; exact hp
        injection h with h1 h2; subst h2; exact ⟨_, mkI_R .., fun w => by simp [binOp_quo, Op.intDiv, hy]⟩
  case rem =>
    cases yc with
    | true =>
      by_cases hy : y = 0
      · simp [hy] at h; exact (gives_fail h).elim
      · simp [hy] at h; rw [gives_ok h]; exact ⟨_, mkI_R .., fun w => by simp [binOp_rem, Op.intDiv, hy]⟩
    | false =>
      rcases h with h | ⟨p, h, hp⟩
      · cases h
      · have hy : y ≠ 0 := by injection h with h1 h2; rw [h1]; exact hp
        injection h with h1 h2; subst h2; exact ⟨_, mkI_R .., fun w => by simp [binOp_rem, Op.intDiv, hy]⟩
  case eql => rw [gives_ok h]; exact ⟨_, mkB_R .., fun w => by simp [binOp_eql]; rfl⟩
  case neq => rw [gives_ok h]; exact ⟨_, mkB_R .., fun w => by simp [binOp_neq]; rfl⟩
  case lss => rw [gives_ok h]; exact ⟨_, mkB_R .., fun w => by simp [binOp_lss]⟩
  case leq => rw [gives_ok h]; exact ⟨_, mkB_R .., fun w => by simp [binOp_leq]⟩
  case gtr => rw [gives_ok h]; exact ⟨_, mkB_R .., fun w => by simp [binOp_gtr]⟩
  case geq => rw [gives_ok h]; exact ⟨_, mkB_R .., fun w => by simp [binOp_geq]⟩
  case and => simp only [bitI] at h; rw [gives_ok h]; exact ⟨_, mkI_R .., fun w => by simp [binOp, Op.intBits]⟩
  case or => simp only [bitI] at h; rw [gives_ok h]; exact ⟨_, mkI_R .., fun w => by simp [binOp, Op.intBits]⟩
  case xor => simp only [bitI] at h; rw [gives_ok h]; exact ⟨_, mkI_R .., fun w => by simp [binOp, Op.intBits]⟩
  case andNot => simp only [bitI] at h; rw [gives_ok h]; exact ⟨_, mkI_R .., fun w => by simp [binOp, Op.intBits]⟩
  all_goals (simp only [bitI] at h; exact (gives_fail h).elim)

theorem aSh_sound (pl : List Pl) {op : BinOp} (ho : isSh op = true) {x y : SV} {av : AV} (h : (aSh op x y).gives av) (t : Nat) {u v : Value} (hu : x.R pl u) (hv : y.R pl v) :
    ∃ r, av.R pl r ∧ (∀ w, (binOp op t u v).run P w = .ok r w) ∧ (∀ X Y, eqGuard op t X Y u v = pure ()) := by
  have key : ∀ (k k' : IntKind) (a b : Int), 0 ≤ b → ∀ w, (binOp op t (.int k a) (.int k' b)).run P w = .ok (.int k (shI op k a b)) w := fun k k' a b hb w => by
    have hb' : ¬ b < 0 := by omega
    cases op <;> first | (cases ho; done) | simp [binOp, Op.shift, hb', shI]
  have kg : ∀ (u v : Value) X Y, eqGuard op t X Y u v = pure () := fun u v X Y => by cases op <;> first | (cases ho; done) | simp [eqGuard]
  unfold aSh at h
  split at h
  all_goals first
    | exact (gives_fail h).elim
    | (rcases hu with hu | hu <;> first | (cases hu; done) | skip
       rcases hv with hv | hv <;> first | (cases hv; done) | skip
       simp only [SV.val, Option.some.injEq] at hu hv
       subst hu hv
       first
       | (split at h
          · rename_i hb
            rw [gives_ok h]
            exact ⟨_, mkI_R .., key _ _ _ _ hb, kg _ _⟩
          · exact (gives_fail h).elim)
       | (rcases h with h | ⟨p, h, hp⟩
          · cases h
          · injection h with h1 h2
            rw [← h1] at hp
            subst h2
            exact ⟨_, mkI_R .., key _ _ _ _ hp, kg _ _⟩))

theorem beqL (x y : List UInt8) : (x == y) = decide (x = y) := by rw [Bool.eq_iff_iff]; simp
theorem strB_sound (pl : List Pl) {op : BinOp} {c : Bool} {x y : List UInt8} {av : AV} (h : (strB op c x y).gives av) (t : Nat) :
    ∃ v, av.R pl v ∧ ∀ w, (binOp op t (.string ⟨x.toArray⟩) (.string ⟨y.toArray⟩)).run P w = .ok v w := by
  have hx : (⟨x.toArray⟩ : ByteArray).toList = x := by rw [Lib.toList_data]
  have hy : (⟨y.toArray⟩ : ByteArray).toList = y := by rw [Lib.toList_data]
  unfold strB at h
  cases op <;> simp only at h
  case add =>
    rcases h with h | ⟨p, h, hp⟩
    · cases h
    · injection h with h1 h2
      rw [← h1] at hp
      subst h2
      have e : (⟨x.toArray⟩ : ByteArray) ++ ⟨y.toArray⟩ = ⟨(x ++ y).toArray⟩ := by apply ByteArray.ext; simp [ByteArray.data_append]
      refine ⟨.string ⟨(x ++ y).toArray⟩, by cases c <;> exact Or.inr rfl, fun w => ?_⟩
      have hs : ¬ (((⟨x.toArray⟩ : ByteArray).size + (⟨y.toArray⟩ : ByteArray).size : Nat) : Int) > IntKind.i64.max := by
        simp only [ByteArray.size, List.size_toArray]
        omega
      simp only [binOp, Op.stringOp]
      rw [if_neg hs, e]
      rfl
  case eql => rw [gives_ok h]; exact ⟨_, mkB_R .., fun w => by simp [binOp, Op.stringOp, hx, hy]; exact beqL x y⟩
  case neq => rw [gives_ok h]; exact ⟨_, mkB_R .., fun w => by simp [binOp, Op.stringOp, hx, hy]; exact beqL x y⟩
  all_goals exact (gives_fail h).elim

theorem aBin_sound (pl : List Pl) {op : BinOp} {x y : SV} {av : AV} (h : (aBin op x y).gives av) (t : Nat) {u v : Value} (hu : x.R pl u) (hv : y.R pl v) :
    ∃ r, av.R pl r ∧ (∀ w, (binOp op t u v).run P w = .ok r w) ∧ (∀ X Y, eqGuard op t X Y u v = pure ()) := by
  unfold aBin at h
  split at h
  all_goals first
    | exact (gives_fail h).elim
    | (rcases hu with hu | hu <;> first | (cases hu; done) | skip
       rcases hv with hv | hv <;> first | (cases hv; done) | skip
       simp only [SV.val, Option.some.injEq] at hu hv
       subst hu hv
       first
       | (split at h
          · rename_i hk; subst hk
            obtain ⟨r, h1, h2⟩ := aInt_sound (P := P) pl h t
            exact ⟨r, h1, h2, fun X Y => by simp [eqGuard_at_int]⟩
          · exact (gives_fail h).elim)
       | (obtain ⟨r, h1, h2⟩ := strB_sound (P := P) pl h t
          exact ⟨r, h1, h2, fun X Y => by simp [eqGuard_at_string]⟩))

theorem aUn_sound (pl : List Pl) {op : UnOp} {x : SV} {av : AV} (h : (aUn op x).gives av) {u : Value} (hu : x.R pl u) :
    ∃ r, av.R pl r ∧ ∀ w, (Op.unary op u).run P w = .ok r w := by
  unfold aUn at h
  split at h
  all_goals first
    | exact (gives_fail h).elim
    | (rcases hu with hu | hu <;> first | (cases hu; done) | skip
       simp only [SV.val, Option.some.injEq] at hu
       subst hu
       rw [gives_ok h]
       first
       | exact ⟨_, mkI_R .., fun w => by simp [Op.unary, Op.intArith]⟩
       | exact ⟨_, mkB_R .., fun w => by simp [Op.unary]⟩)

theorem fold_over (off : Nat) : ∀ (us : List Value) (k : Nat) (cs : Array Value), off + k + us.length ≤ cs.size →
    ((us.zipIdx k).foldl (fun (cs : Array Value) (x : Value × Nat) => cs.setIfInBounds (off + x.2) x.1) cs) = (cs.toList.take (off + k) ++ us ++ cs.toList.drop (off + k + us.length)).toArray
  | [], k, cs, _ => by simp
  | u :: us, k, cs, h => by
    have ih := fold_over off us (k + 1) (cs.setIfInBounds (off + k) u) (by simp at h ⊢; omega)
    simp only [List.zipIdx_cons, List.foldl_cons]
    rw [ih]
    have e := list_seg_step cs.toList (off + k) u us (by simp at h ⊢; omega)
    congr 1
    simpa [Array.toList_setIfInBounds, Nat.add_assoc] using e
theorem fold_overA (off : Nat) (vs : Array Value) (cs : Array Value) (h : off + vs.size ≤ cs.size) :
    (vs.zipIdx.foldl (fun (cs : Array Value) (x : Value × Nat) => cs.setIfInBounds (off + x.2) x.1) cs) = (cs.toList.take off ++ vs.toList ++ cs.toList.drop (off + vs.size)).toArray := by
  rw [← Array.foldl_toList, Array.toList_zipIdx]
  have := fold_over off vs.toList 0 cs (by simpa using h)
  simpa using this
end
end Go.AM

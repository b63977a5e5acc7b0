import Derived.Test.YtcinopdklobldaaGreatDoorAMCalls
import Derived.Laws.Strings2
/- More quiet operations: addresses compared, slices of slices, capacities. -/
namespace Go.AM
open Go
section
variable {P : Program} {pl : List Pl} {h : Heap}
def InjB (pl : List Pl) (h : Heap) : Prop := ∀ (b c : Nat) p q x y, pl[b]? = some p → pl[c]? = some q → h[b]? = some x → h[c]? = some y → x.alive p = true → y.alive q = true → p.blk = q.blk → b = c
theorem isRow_spec {o : Option Blk} (h : isRow o = true) : ∃ T cs, o = some (.row T cs) := by
  unfold isRow at h
  split at h
  · exact ⟨_, _, rfl⟩
  · cases h
theorem shape_row {w : World} {b : Nat} {xs : Array Value} {T : Nat} (hb : w.heap[b]? = some (.cells xs T (0, 0))) : w.shape? b = some (T, xs.size) := by
  simp [World.shape?, hb]
theorem frozen_row {w : World} {b o : Nat} {v : Option TypeId} {xs : Array Value} {T : Nat} (hb : w.heap[b]? = some (.cells xs T (0, 0))) : w.frozen? ⟨b, o, v⟩ = false := by
  simp [World.frozen?, hb]
theorem run_sameAddr_rows {w : World} {a b : Addr} {xs ys : Array Value} {T U : Nat} (hne : a.block ≠ b.block) (ha : w.heap[a.block]? = some (.cells xs T (0, 0))) (hb : w.heap[b.block]? = some (.cells ys U (0, 0))) :
    (sameAddr a b).run P w = .ok false w := by
  obtain ⟨ab, ao, av⟩ := a
  obtain ⟨bb, bo, bv⟩ := b
  have h3 := shape_row ha
  have h4 := shape_row hb
  simp only at hne ha hb h3 h4
  simp [sameAddr, hne, frozen_row ha, frozen_row hb, noView, viewAt, h3, h4, mayBeOne, stringish]
theorem run_sameAddr_same {w : World} {a b : Addr} (he : a.block = b.block) : (sameAddr a b).run P w = .ok (a == b) w := by
  simp [sameAddr, he]
theorem sl_R {b off len cap : Nat} {v : Value} (h : (SV.sl b off len cap).R pl v) : ∃ ad, addrOf pl b off = some ad ∧ v = .slice (some ad) len cap := by
  rcases h with h | h
  · cases h
  · simp only [SV.val] at h
    cases ha : addrOf pl b off with
    | none => simp [ha] at h
    | some ad => simp [ha] at h; exact ⟨ad, rfl, h.symm⟩
theorem nilp_R {v : Value} (h : SV.nilp.R pl v) : v = .pointer none := by
  rcases h with h | h
  · cases h
  · simpa [SV.val] using h.symm
/-- what a comparison of two values that are no numbers gives -/
def EqRun (P : Program) (t : Nat) (vx vy : Value) (r : Bool) (w : World) : Prop :=
  ∀ (op : BinOp) (x y : Operand), (op = .eql → (eqGuard op t x y vx vy).run P w = .ok () w ∧ (binOp op t vx vy).run P w = .ok (.bool r) w) ∧ (op = .neq → (eqGuard op t x y vx vy).run P w = .ok () w ∧ (binOp op t vx vy).run P w = .ok (.bool (!r)) w)
theorem eqRun_ptr {t : Nat} {o o' : Option Addr} {r : Bool} {w : World} (h : (Op.equal t (.pointer o) (.pointer o')).run P w = .ok r w) : EqRun P t (.pointer o) (.pointer o') r w := by
  intro op x y
  constructor
  · rintro rfl
    exact ⟨by simp [eqGuard], by simp [binOp, h]⟩
  · rintro rfl
    exact ⟨by simp [eqGuard], by simp [binOp, h]⟩
theorem eqRun_slice {t : Nat} {a a' : Option Addr} {n m n' m' : Nat} {r : Bool} {w : World} (h : (Op.equal t (.slice a n m) (.slice a' n' m')).run P w = .ok r w) : EqRun P t (.slice a n m) (.slice a' n' m') r w := by
  intro op x y
  constructor
  · rintro rfl
    exact ⟨by simp [eqGuard], by simp [binOp, h]⟩
  · rintro rfl
    exact ⟨by simp [eqGuard], by simp [binOp, h]⟩
theorem equalIn_nil1 {t e : Nat} (hu : P.underlying t = some (.pointer e)) (d : Nat) (b : Option Addr) (w : World) : (Op.equalIn (d + 1) t (.pointer none) (.pointer b)).run P w = .ok b.isNone w := by
  unfold Op.equalIn
  simp [run_underlying hu]
theorem equalIn_nil2 {t e : Nat} (hu : P.underlying t = some (.pointer e)) (d : Nat) (a : Addr) (w : World) : (Op.equalIn (d + 1) t (.pointer (some a)) (.pointer none)).run P w = .ok false w := by
  unfold Op.equalIn
  simp [run_underlying hu]
theorem equalIn_two {t e z : Nat} (hu : P.underlying t = some (.pointer e)) (hz : size? P e = some (z + 1)) (d : Nat) (a b : Addr) (w : World) : (Op.equalIn (d + 1) t (.pointer (some a)) (.pointer (some b))).run P w = (sameAddr a b).run P w := by
  unfold Op.equalIn
  simp [run_underlying hu, run_size hz]
theorem equalIn_sl1 {t e : Nat} (hu : P.underlying t = some (.slice e)) (d : Nat) (b : Option Addr) (n m n' m' : Nat) (w : World) : (Op.equalIn (d + 1) t (.slice none n m) (.slice b n' m')).run P w = .ok b.isNone w := by
  unfold Op.equalIn
  simp [run_underlying hu]
theorem equalIn_sl2 {t e : Nat} (hu : P.underlying t = some (.slice e)) (d : Nat) (a : Addr) (n m n' m' : Nat) (w : World) : (Op.equalIn (d + 1) t (.slice (some a) n m) (.slice none n' m')).run P w = .ok false w := by
  unfold Op.equalIn
  simp [run_underlying hu]
theorem equal_succ (t : Nat) (x y : Value) : Op.equal t x y = Op.equalIn (9999 + 1) t x y := rfl
theorem pEq_sound {t : Nat} {x y : SV} {r : Bool} (hp : pEq P t x y = some r) {vx vy : Value} (hx : x.R pl vx) (hy : y.R pl vy) (w : World) : EqRun P t vx vy r w := by
  unfold pEq at hp
  split at hp
  · rename_i e hu
    split at hp
    · cases hp
      rw [nilp_R hx, nilp_R hy]
      exact eqRun_ptr (by rw [equal_succ, equalIn_nil1 hu]; rfl)
    · cases hp
      obtain ⟨ad, had, hv⟩ := ptr_R hy
      rw [nilp_R hx, hv]
      exact eqRun_ptr (by rw [equal_succ, equalIn_nil1 hu]; rfl)
    · cases hp
      obtain ⟨ad, had, hv⟩ := ptr_R hx
      rw [nilp_R hy, hv]
      exact eqRun_ptr (by rw [equal_succ, equalIn_nil2 hu])
    · rename_i b o b' o'
      obtain ⟨ad, had, hv⟩ := ptr_R hx
      obtain ⟨ad', had', hv'⟩ := ptr_R hy
      rw [hv, hv']
      split at hp
      · rename_i z hz
        have key : (Op.equal t (.pointer (some ad)) (.pointer (some ad'))).run P w = (sameAddr ad ad').run P w := by
          rw [equal_succ, equalIn_two hu hz]
        unfold addrOf at had had'
        cases hb : pl[b]? with
        | none => simp [hb] at had
        | some p =>
          cases hb' : pl[b']? with
          | none => simp [hb'] at had'
          | some p' =>
            simp [hb] at had
            simp [hb'] at had'
            split at hp
            · rename_i hbb
              cases hp
              subst hbb
              rw [hb] at hb'
              cases hb'
              apply eqRun_ptr
              rw [key, run_sameAddr_same (by rw [← had, ← had'])]
              rw [← had, ← had']
              congr 1
              simp [BEq.beq]
            · cases hp
      · cases hp
    · cases hp
  · rename_i e hu
    split at hp
    · cases hp
      rw [nils_R hx, nils_R hy]
      exact eqRun_slice (by rw [equal_succ, equalIn_sl1 hu]; rfl)
    · cases hp
      obtain ⟨ad, had, hv⟩ := sl_R hy
      rw [nils_R hx, hv]
      exact eqRun_slice (by rw [equal_succ, equalIn_sl1 hu]; rfl)
    · cases hp
      obtain ⟨ad, had, hv⟩ := sl_R hx
      rw [nils_R hy, hv]
      exact eqRun_slice (by rw [equal_succ, equalIn_sl2 hu])
    · cases hp
  · cases hp
theorem ptrNe_sound (hI : InjB pl h) {t : Nat} {x y : SV} (hp : ptrNe P t h x y = true) {vx vy : Value} (hx : x.R pl vx) (hy : y.R pl vy) {w : World} (hw : HB pl h w) : EqRun P t vx vy false w := by
  unfold ptrNe at hp
  split at hp
  · rename_i e b o b' o' hu
    obtain ⟨ad, had, hv⟩ := ptr_R hx
    obtain ⟨ad', had', hv'⟩ := ptr_R hy
    rw [hv, hv']
    split at hp
    · rename_i z hz
      simp only [Bool.and_eq_true, decide_eq_true_eq] at hp
      have key : (Op.equal t (.pointer (some ad)) (.pointer (some ad'))).run P w = (sameAddr ad ad').run P w := by
        rw [equal_succ, equalIn_two hu hz]
      unfold addrOf at had had'
      cases hb : pl[b]? with
      | none => simp [hb] at had
      | some p =>
        cases hb' : pl[b']? with
        | none => simp [hb'] at had'
        | some p' =>
          simp [hb] at had
          simp [hb'] at had'
          obtain ⟨T, cs, h1⟩ := isRow_spec hp.1.2
          obtain ⟨T', cs', h2⟩ := isRow_spec hp.2
          rw [get?_eq] at h1 h2
          obtain ⟨vs, k1, k2⟩ := hw b _ p h1 hb
          obtain ⟨vs', k1', k2'⟩ := hw b' _ p' h2 hb'
          apply eqRun_ptr
          rw [key, run_sameAddr_rows (xs := vs.toArray) (ys := vs'.toArray) (T := T) (U := T')]
          · rw [← had, ← had']
            exact fun e => hp.1.1 (hI b b' p p' _ _ hb hb' h1 h2 rfl rfl e)
          · rw [← had]; exact k2
          · rw [← had']; exact k2'
    · cases hp
  · cases hp
theorem litB_R {x : AV} {n : Nat} (h : litB x = some n) {v : Value} (hv : x.R pl v) : ∃ k, v = .int k (n : Int) := by
  unfold litB at h
  split at h
  · rename_i k m
    split at h
    · rename_i hm
      cases h
      rw [con_R hv]
      exact ⟨k, by rw [Int.toNat_of_nonneg hm]⟩
    · cases h
  · cases h
theorem run_sliceBound {w : World} {k : IntKind} {i y : Nat} (h : i ≤ y) (code : BoundsCode) : (Instr.sliceBound (.int k (i : Int)) y code).run P w = .ok i w := by
  simp [Instr.sliceBound, asIntOf, h]
theorem bounds2_run {w : World} {ρ : Operand → Value} {lo hi : Option Operand} {len cap i j : Nat} {l : List AV} (isS : Bool) (hb : bounds2 lo.isSome hi.isSome len l = some (i, j)) (hij : i ≤ j) (hj : j ≤ cap) (hl : ArgsR pl l ((lo.toArray ++ hi.toArray).toList.map ρ)) :
    (Instr.sliceBounds isS len cap (lo.map ρ) (hi.map ρ) none).run P w = .ok (i, j, cap) w := by
  cases lo with
  | none =>
    cases hi with
    | none =>
      cases l with
      | nil => simp [bounds2] at hb; obtain ⟨rfl, rfl⟩ := hb; simp [Instr.sliceBounds]
      | cons a l => simp [bounds2] at hb
    | some y =>
      match l, hb, hl with
      | [b], hb, hl =>
        simp only [bounds2, Option.isSome] at hb
        split at hb
        · rename_i n hn
          cases hb
          obtain ⟨k, hv⟩ := litB_R hn hl.1
          have hv : ρ y = _ := hv
          simp [Instr.sliceBounds, hv, run_sliceBound hj]
        · cases hb
  | some x =>
    cases hi with
    | none =>
      match l, hb, hl with
      | [b], hb, hl =>
        simp only [bounds2, Option.isSome] at hb
        split at hb
        · rename_i n hn
          cases hb
          obtain ⟨k, hv⟩ := litB_R hn hl.1
          have hv : ρ x = _ := hv
          simp [Instr.sliceBounds, hv, run_sliceBound hij]
        · cases hb
    | some y =>
      match l, hb, hl with
      | [b, c], hb, hl =>
        simp only [bounds2, Option.isSome] at hb
        split at hb
        · rename_i n m hn hm
          cases hb
          obtain ⟨k, hv⟩ := litB_R hn hl.1
          obtain ⟨k', hv'⟩ := litB_R hm hl.2.1
          have hv : ρ x = _ := hv
          have hv' : ρ y = _ := hv'
          simp [Instr.sliceBounds, hv, hv', run_sliceBound hij, run_sliceBound hj]
        · cases hb
theorem sliceX_sound {t : Nat} {sx : SV} {lo hi : Option Operand} {l : List AV} {av : AV} (hq : (sliceX P t sx lo.isSome hi.isSome l).gives av) {vx : Value} (hx : sx.R pl vx) {ρ : Operand → Value} (hl : ArgsR pl l ((lo.toArray ++ hi.toArray).toList.map ρ)) :
    ∃ v, av.R pl v ∧ ∀ w, (Instr.sliceAt t vx (lo.map ρ) (hi.map ρ) none).run P w = .ok v w := by
  unfold sliceX at hq
  split at hq
  · rename_i e b off len cap hu
    split at hq
    · rename_i z i j hz hb
      split at hq
      · rename_i hij
        rw [gives_ok hq]
        obtain ⟨ad, had, rfl⟩ := sl_R hx
        have hbd := fun w => bounds2_run (P := P) (w := w) (ρ := ρ) (cap := cap) true hb hij.1 hij.2 hl
        refine ⟨.slice (some (if cap = i then ad else ad.add (i * z))) (j - i) (cap - i), ?_, fun w => ?_⟩
        · refine .inr ?_
          by_cases hc : cap = i
          · simp [SV.val, hc, had]
          · simp [SV.val, hc, addrOf_add had]
        · simp only [Instr.sliceAt, run_underlying hu, Instr.slice, hbd, run_size hz, Sem.run_bind, Result.andThen_ok, Sem.run_pure]
          split <;> rfl
      · exact (gives_fail hq).elim
    · exact (gives_fail hq).elim
  · rename_i e hu
    split at hq
    · rename_i z hz hb
      rw [gives_ok hq]
      have hbd := fun w => bounds2_run (P := P) (w := w) (ρ := ρ) (cap := 0) true hb (Nat.le_refl 0) (Nat.le_refl 0) hl
      rw [nils_R hx]
      refine ⟨.slice none 0 0, .inr rfl, fun w => ?_⟩
      simp [Instr.sliceAt, run_underlying hu, Instr.slice, hbd, run_size hz]
    · exact (gives_fail hq).elim
  · rename_i n e b off hu
    split at hq
    · rename_i z i j hz hb
      split at hq
      · rename_i hij
        rw [gives_ok hq]
        obtain ⟨ad, had, rfl⟩ := ptr_R hx
        have hbd := fun w => bounds2_run (P := P) (w := w) (ρ := ρ) (cap := n) false hb hij.1 hij.2 hl
        refine ⟨.slice (some (if n = i then ad else ad.add (i * z))) (j - i) (n - i), ?_, fun w => ?_⟩
        · refine .inr ?_
          by_cases hc : n = i
          · simp [SV.val, hc, had]
          · simp [SV.val, hc, addrOf_add had]
        · simp only [Instr.sliceAt, run_underlying hu, Instr.sureAddr, hbd, run_size hz, Sem.run_bind, Result.andThen_ok, Sem.run_pure]
      · exact (gives_fail hq).elim
    · exact (gives_fail hq).elim
  · rename_i s hu
    split at hq
    · rename_i i j hb
      split at hq
      · rename_i hij
        rw [gives_ok hq]
        rw [cstr_R hx]
        rw [len'_eq] at hij hb
        have hbd := fun w => bounds2_run (P := P) (w := w) (ρ := ρ) (cap := s.length) false hb hij.1 hij.2 hl
        refine ⟨.string ⟨((s.drop i).take (j - i)).toArray⟩, .inr (by simp [SV.val, takeN_eq, dropN_eq]), fun w => ?_⟩
        have hsz : (ByteArray.mk s.toArray).size = s.length := by simp [ByteArray.size]
        simp [Instr.sliceAt, run_underlying hu, Instr.slice, hsz, hbd, ByteArray.extract_mk]
      · exact (gives_fail hq).elim
    · exact (gives_fail hq).elim
  · exact (gives_fail hq).elim
theorem min2X_sound {mx : Bool} {x y : AV} {av : AV} (hq : (min2X mx x y).gives av) {vx vy : Value} (hx : x.R pl vx) (hy : y.R pl vy) :
    ∃ v, av.R pl v ∧ ∀ w, (if mx then Builtin.max2 vx vy else Builtin.min2 vx vy).run P w = .ok v w := by
  unfold min2X at hq
  split at hq
  all_goals first
    | exact (gives_fail hq).elim
    | (split at hq
       · rw [gives_ok hq]
         refine ⟨_, mkI_R pl _ _ _, fun w => ?_⟩
         first
         | rw [con_R hx, con_R hy]
         | rw [con_R hx, sym_R hy]
         | rw [sym_R hx, con_R hy]
         | rw [sym_R hx, sym_R hy]
         cases mx <;> simp [Builtin.max2, Builtin.min2]
       · exact (gives_fail hq).elim)
theorem bltX_sound {f : Builtin} {args : List Operand} {ts : List Nat} {l : List AV} {av : AV} {ρ : Operand → Value} (hl : ArgsR pl l (args.map ρ)) (hq : (bltX P f ts l).gives av) :
    ∃ v, av.R pl v ∧ ∀ (w : World) (ty : Nat) (cs : Array Bool), (builtin f ts.toArray ty cs (args.map ρ).toArray).run P w = .ok (.value v) w := by
  unfold bltX at hq
  split at hq
  · rename_i t x
    match args, hl with
    | [o], hl =>
      have hx := hl.1
      split at hq
      · rename_i b off len cap hu he
        rw [gives_ok hq]
        obtain ⟨ad, had, hv⟩ := sl_R hx
        exact ⟨_, mkI_R pl true .i64 _, fun w ty cs => by simp [builtin, Builtin.cap_, run_underlying hu, hv, goInt]⟩
      · rename_i hu he
        rw [gives_ok hq]
        have hv := nils_R hx
        exact ⟨_, mkI_R pl true .i64 _, fun w ty cs => by simp [builtin, Builtin.cap_, run_underlying hu, hv, goInt]⟩
      · exact (gives_fail hq).elim
  · rename_i t x
    match args, hl with
    | [o], hl =>
      have hx := hl.1
      split at hq
      · rename_i b off len cap hu he
        rw [gives_ok hq]
        obtain ⟨ad, had, hv⟩ := sl_R hx
        exact ⟨_, mkI_R pl true .i64 _, fun w ty cs => by simp [builtin, Builtin.len_, run_underlying hu, hv, goInt]⟩
      · exact (gives_fail hq).elim
  · rename_i t t' x y
    match args, hl with
    | [o, o'], hl =>
      obtain ⟨v, g1, g2⟩ := min2X_sound (P := P) hq hl.1 hl.2.1
      refine ⟨v, g1, fun w ty cs => ?_⟩
      have := g2 w
      simp at this
      simp [builtin, Builtin.min_, this]
  · rename_i t t' x y
    match args, hl with
    | [o, o'], hl =>
      obtain ⟨v, g1, g2⟩ := min2X_sound (P := P) hq hl.1 hl.2.1
      refine ⟨v, g1, fun w ty cs => ?_⟩
      have := g2 w
      simp at this
      simp [builtin, Builtin.max_, this]
  · exact (gives_fail hq).elim
theorem qop1_sound {env : Env} {a : Act} (hE : EnvR pl env a.tmps) (o : Oper) {av : AV} (hq : (qop1 P o.op (evs env o.op.operands.toList)).gives av) : QS P pl h o a av := by
  have hev := evs_R hE o.op.operands.toList
  unfold QS
  unfold qop1 at hq
  split at hq
  · rename_i op t x y t' sa sb ho hl
    rw [hl, ho] at hev
    have hx : sa.R pl (a.eval x) := hev.1
    have hy : sb.R pl (a.eval y) := hev.2.1
    split at hq
    · split at hq
      · rename_i r hr
        rw [gives_ok hq]
        refine ⟨.bool r, fun w hw => ⟨mkB_R pl true r, ?_⟩⟩
        have := (pEq_sound (P := P) hr hx hy w .eql x y).1 rfl
        unfold execOp
        simp [ho, this.1, this.2]
      · exact (gives_fail hq).elim
    · split at hq
      · rename_i r hr
        rw [gives_ok hq]
        refine ⟨.bool (!r), fun w hw => ⟨mkB_R pl true (!r), ?_⟩⟩
        have := (pEq_sound (P := P) hr hx hy w .neq x y).2 rfl
        unfold execOp
        simp [ho, this.1, this.2]
      · exact (gives_fail hq).elim
    · exact (gives_fail hq).elim
  · rename_i t x lo hi sx l ho hl
    rw [hl, ho] at hev
    have e : (Op.slice t x lo hi none).operands.toList = x :: (lo.toArray ++ hi.toArray).toList := by simp [Op.operands]
    rw [e] at hev
    obtain ⟨v, g1, g2⟩ := sliceX_sound hq hev.1 hev.2
    refine ⟨v, fun w _ => ⟨g1, ?_⟩⟩
    unfold execOp
    simp [ho, g2]
  · rename_i t x i b off len cap k j ho hl
    rw [hl, ho] at hev
    obtain ⟨ad, had, hv⟩ := sl_R (show (SV.sl b off len cap).R pl (a.eval x) from hev.1)
    have hj := con_R (show (AV.v (.one (.con k j))).R pl (a.eval i) from hev.2.1)
    split at hq
    · rename_i e hu
      split at hq
      · rename_i z hz
        split at hq
        · rename_i hb
          rw [gives_ok hq]
          refine ⟨.pointer (some (ad.add (j.toNat * z))), fun w _ => ⟨.inr (by simp [SV.val, addrOf_add had]), ?_⟩⟩
          unfold execOp
          simp [ho, hv, hj, Instr.indexAt, asIntOf, run_underlying hu, hb, run_size hz]
        · exact (gives_fail hq).elim
      · exact (gives_fail hq).elim
    · exact (gives_fail hq).elim
  · rename_i f args ts ho
    rw [ho] at hev
    have e : (Op.call { callee := .builtin f, args := args, argTypes := ts }).operands.toList = args.toList := by simp [Op.operands, Call.operands]
    rw [e] at hev
    rw [ho, e] at hq
    obtain ⟨v, g1, g2⟩ := bltX_sound hev hq
    refine ⟨v, fun w _ => ⟨g1, ?_⟩⟩
    unfold execOp
    have := g2 w o.type (args.map fun | .const _ => true | _ => false)
    rw [show (List.map a.eval args.toList).toArray = args.map a.eval from by apply Array.ext'; simp, Array.toArray_toList] at this
    simp [ho, resolve, invoke]
    exact this
  · exact (gives_fail hq).elim
theorem orElse_gives {r s : OR} {av : AV} (h : (orElse r s).gives av) : r.gives av ∨ s.gives av := by
  cases r with
  | fail => exact .inr h
  | ok v => exact .inl h
  | iff p v => exact .inl h
theorem kOR_E {env : Env} {o : Op} {K : AV → Prop} (hk : kOR (qop P env h o) K) : kOR (qopE P env h o) K := by
  unfold qopE
  cases hr : qop P env h o with
  | fail => rw [hr] at hk; exact hk.elim
  | ok v => rw [hr] at hk; exact hk
  | iff p v => rw [hr] at hk; exact hk
theorem qop_sound {env : Env} {a : Act} (hE : EnvR pl env a.tmps) (o : Oper) {av : AV} (hq : (qop P env h o.op).gives av) : QS P pl h o a av := by
  rcases orElse_gives hq with hq | hq
  · exact qop0_sound hE o hq
  · exact qop1_sound hE o hq
theorem qopE_sound (hI : InjB pl h) {env : Env} {a : Act} (hE : EnvR pl env a.tmps) (o : Oper) {av : AV} (hq : (qopE P env h o.op).gives av) : QS P pl h o a av := by
  rcases orElse_gives hq with hq | hq
  · exact qop_sound hE o hq
  · have hev := evs_R hE o.op.operands.toList
    unfold QS
    unfold qop2 at hq
    split at hq
    · rename_i op t x y t' sa sb ho hl
      rw [hl, ho] at hev
      have hx : sa.R pl (a.eval x) := hev.1
      have hy : sb.R pl (a.eval y) := hev.2.1
      split at hq
      · split at hq
        · rename_i hr
          rw [gives_ok hq]
          refine ⟨.bool false, fun w hw => ⟨mkB_R pl true false, ?_⟩⟩
          have := (ptrNe_sound hI hr hx hy hw .eql x y).1 rfl
          unfold execOp
          simp [ho, this.1, this.2]
        · exact (gives_fail hq).elim
      · split at hq
        · rename_i hr
          rw [gives_ok hq]
          refine ⟨.bool true, fun w hw => ⟨mkB_R pl true true, ?_⟩⟩
          have := (ptrNe_sound hI hr hx hy hw .neq x y).2 rfl
          unfold execOp
          simp [ho, this.1, this.2]
        · exact (gives_fail hq).elim
      · exact (gives_fail hq).elim
    · exact (gives_fail hq).elim
end
end Go.AM

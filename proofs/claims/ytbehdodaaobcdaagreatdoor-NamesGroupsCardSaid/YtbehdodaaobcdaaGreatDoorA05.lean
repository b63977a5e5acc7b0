import Derived.Test.YtbehdodaaobcdaaGreatDoorA04
set_option maxHeartbeats 4000000
namespace Go.AM
open Go
section
variable {P : Program} {pl : List Pl}

def PartsR (pl : List Pl) : List (Nat × PV) → List (Nat × Value) → Prop
  | [], [] => True
  | (i, p) :: l, (j, v) :: r => i = j ∧ p.R pl v ∧ PartsR pl l r
  | _, _ => False

theorem fill_sound {place place' : Nat → Option (Nat × Nat)} (hpl : ∀ i, place' i = place i) : ∀ {ps : List (Nat × PV)} {qs : List (Nat × Value)} {cells r : List SV} {vs : List Value},
    PartsR pl ps qs → RL pl cells vs → fillP place cells ps = some r → ∃ us, RL pl r us ∧ Instr.fill place' vs.toArray qs = some us.toArray
  | [], [], cells, r, vs, _, hv, h => by simp [fillP] at h; subst h; exact ⟨vs, hv, rfl⟩
  | [], _ :: _, _, _, _, hp, _, _ => hp.elim
  | (_, _) :: _, [], _, _, _, hp, _, _ => hp.elim
  | (i, p) :: ps, (j, v) :: qs, cells, r, vs, hp, hv, h => by
    obtain ⟨rfl, h1, h2⟩ := hp
    simp only [fillP] at h
    cases hq : place i with
    | none => simp [hq] at h
    | some os =>
      obtain ⟨off, size⟩ := os
      simp only [hq] at h
      split at h
      · rename_i hk
        simp only [Bool.and_eq_true, decide_eq_true_eq, len'_eq] at hk
        obtain ⟨hk, hsz⟩ := hk
        have ⟨hc, _⟩ := PV.cells_R hk h1
        cases ho : over cells off p.cells with
        | none => simp [ho] at h
        | some cs =>
          simp only [ho] at h
          have ⟨ho1, ho2⟩ := over_spec hv hc ho
          have hl := hc.length
          obtain ⟨us, g1, g2⟩ := fill_sound hpl h2 ho1 h
          refine ⟨us, g1, ?_⟩
          simp only [Instr.fill, hpl, hq]
          have hsz' : v.cells.size = size := by rw [← hsz, hl]; simp
          have hle : off + v.cells.size ≤ vs.toArray.size := by simpa using ho2
          rw [if_neg (by simp only [hsz', List.size_toArray, not_or, ne_eq, not_true, not_false_eq_true, true_and]; rw [hsz'] at hle; simpa using hle)]
          rw [fold_overA off v.cells vs.toArray hle]
          simpa using g2
      · cases h

theorem fieldPlaces_eq : ∀ {fs : List Field} {l : List (Nat × Nat)}, fieldPlaces P fs = some l → fs.mapM (fun f => (P.info? f.type).map fun i => (f.offset, i.size)) = some l
  | [], l, h => by simp [fieldPlaces] at h; subst h; rfl
  | f :: fs, l, h => by
    simp only [fieldPlaces] at h
    cases hs : size? P f.type with
    | none => simp [hs] at h
    | some n =>
      cases hr : fieldPlaces P fs with
      | none => simp [hs, hr] at h
      | some r =>
        simp [hs, hr] at h
        subst h
        have hi := info_size hs
        cases hi' : P.info? f.type with
        | none => simp [hi'] at hi
        | some i =>
          simp [hi'] at hi
          simp [List.mapM_cons, hi', fieldPlaces_eq hr, hi]

theorem zeroOf_spec {t : Nat} {z : PV} (h : zeroOf P t = some z) : ∃ i v, P.info? t = some i ∧ i.zero = some v ∧ z = ofValue v := by
  unfold zeroOf at h
  cases hi : P.info? t with
  | none => simp [hi] at h
  | some i =>
    cases hz : i.zero with
    | none => simp [hi, hz] at h
    | some v => simp [hi, hz] at h; exact ⟨i, v, rfl, hz, h.symm⟩
theorem ofValue_cells (v : Value) : RL pl (ofValue v).cells v.cells.toList := by
  unfold ofValue
  split
  · rename_i cs; exact ofVals_R pl _
  · rename_i h
    have : v.cells = #[v] := by cases v <;> first | rfl | exact absurd rfl (h _)
    rw [this]
    exact ⟨ofVal_R pl v, trivial⟩

theorem build_sound {t : Nat} {ps : List (Nat × PV)} {qs : List (Nat × Value)} {cs : List SV} (hp : PartsR pl ps qs) (h : buildV P t ps = some cs) :
    ∃ us, RL pl cs us ∧ P.built t qs = some us.toArray := by
  unfold buildV at h
  cases hz : zeroOf P t with
  | none => simp [hz] at h
  | some z =>
    obtain ⟨i, v, hi, hv, rfl⟩ := zeroOf_spec hz
    simp only [hz] at h
    cases hu : P.underlying t with
    | none => simp [hu] at h
    | some d =>
      cases d <;> try (simp [hu] at h; done)
      case array n e =>
        simp only [hu, arrPlace] at h
        cases hs : size? P e with
        | none => simp [hs] at h
        | some m =>
          simp only [hs] at h
          have hm := info_size hs
          cases hie : P.info? e with
          | none => simp [hie] at hm
          | some ie =>
            simp [hie] at hm
            obtain ⟨us, h1, h2⟩ := fill_sound (place' := fun i => some (i * ie.size, ie.size)) (fun i => by rw [hm]) hp (ofValue_cells v) h
            exact ⟨us, h1, by simpa [Program.built, hi, hu, hv, hie] using h2⟩
      case struct fs =>
        simp only [hu] at h
        cases hf : fieldPlaces P fs.toList with
        | none => simp [hf] at h
        | some l =>
          simp only [hf] at h
          obtain ⟨us, h1, h2⟩ := fill_sound (place' := (l.toArray[·]?)) (fun i => by simp [get?_eq]) hp (ofValue_cells v) h
          exact ⟨us, h1, by simpa [Program.built, hi, hu, hv, fieldPlaces_eq hf] using h2⟩

theorem evParts_R {env : Env} {a : Act} (hE : EnvR pl env a.tmps) : ∀ {l : List (Nat × Operand)} {ps : List (Nat × PV)}, evParts env l = some ps → PartsR pl ps (l.map fun (i, x) => (i, a.eval x))
  | [], ps, h => by simp [evParts] at h; subst h; trivial
  | (i, o) :: r, ps, h => by
    simp only [evParts] at h
    have ho := hE.ev (a := a) o
    cases he : ev env o with
    | tup l => simp [he] at h
    | v p =>
      cases hr : evParts env r with
      | none => simp [he, hr] at h
      | some l =>
        simp [he, hr] at h
        subst h
        rw [he] at ho
        exact ⟨rfl, ho, evParts_R hE hr⟩
theorem caps_R {env : Env} {a : Act} (hE : EnvR pl env a.tmps) : ∀ {l : List Operand} {r : List (Nat × Nat)}, caps env l = some r → capVals pl r = some (l.map a.eval)
  | [], r, h => by simp [caps] at h; subst h; rfl
  | x :: l, r, h => by
    simp only [caps] at h
    have hx := hE.ev (a := a) x
    split at h
    · rename_i b off r' he hr
      simp at h
      subst h
      rw [he] at hx
      rcases hx with hx | hx
      · cases hx
      · simp only [SV.val] at hx
        cases ha : addrOf pl b off with
        | none => simp [ha] at hx
        | some ad => simp [ha] at hx; simp [capVals, ha, caps_R hE hr, hx]
    · cases h

theorem ptr_R {b off : Nat} {v : Value} (h : (AV.v (.one (.ptr b off))).R pl v) : ∃ a, addrOf pl b off = some a ∧ v = .pointer (some a) := by
  rcases h with h | h
  · cases h
  · simp only [SV.val] at h
    cases ha : addrOf pl b off with
    | none => simp [ha] at h
    | some a => simp [ha] at h; exact ⟨a, rfl, h.symm⟩
theorem pe_R {b z idx sub : Nat} {v : Value} (h : (AV.v (.one (.pe b z idx sub))).R pl v) : ∃ a, addrOf pl b (idx * z + sub) = some a ∧ v = .pointer (some a) := by
  rcases h with h | h
  · cases h
  · simp only [SV.val] at h
    cases ha : addrOf pl b (idx * z + sub) with
    | none => simp [ha] at h
    | some a => simp [ha] at h; exact ⟨a, rfl, h.symm⟩
theorem rp_R {b z idx sub : Nat} {v : Value} (h : (AV.v (.one (.rp b z idx sub))).R pl v) : ∃ a, rpVal pl b (idx * z + sub) = some (.pointer (some a)) ∧ v = .pointer (some a) := by
  rcases h with h | h
  · cases h
  · simp only [SV.val] at h
    unfold rpVal at h ⊢
    cases hp : pl[b]? with
    | none => simp [hp] at h
    | some p => simp [hp] at h; exact ⟨_, rfl, h.symm⟩
theorem rpVal_add {b n m : Nat} {a : Addr} (h : rpVal pl b n = some (.pointer (some a))) : rpVal pl b (n + m) = some (.pointer (some (a.add m))) := by
  unfold rpVal at *
  cases hp : pl[b]? with
  | none => simp [hp] at h
  | some p =>
    simp [hp] at h
    subst h
    simp only [Addr.add]
    split
    · rename_i h0; subst h0; rfl
    · simp [Nat.add_assoc]
theorem rs_R {b z len cap : Nat} {v : Value} (h : (AV.v (.one (.rs b z len cap))).R pl v) : ∃ p, pl[b]? = some p ∧
    ((p.nil = true ∧ len = 0 ∧ cap = 0 ∧ v = .slice none 0 0) ∨ (p.nil = false ∧ v = .slice (some ⟨p.blk, p.cap, none⟩) len cap)) := by
  rcases h with h | h
  · cases h
  · simp only [SV.val, rsVal] at h
    cases hp : pl[b]? with
    | none => simp [hp] at h
    | some p =>
      refine ⟨p, rfl, ?_⟩
      simp only [hp] at h
      cases hn : p.nil with
      | true =>
        simp only [hn, if_true] at h
        split at h
        · rename_i hc; exact .inl ⟨rfl, hc.1, hc.2, (Option.some.inj h).symm⟩
        · cases h
      | false =>
        simp only [hn, Bool.false_eq_true, if_false, Option.some.injEq] at h
        exact .inr ⟨rfl, h.symm⟩
theorem rs_indexAt {t e b z len cap : Nat} {v : Value} (h : (AV.v (.one (.rs b z len cap))).R pl v) (hu : P.underlying t = some (.slice e)) (hz : size? P e = some z) {k : IntKind} {j : Int} (hj : 0 ≤ j ∧ j < (len : Int)) :
    ∃ a, rpVal pl b (j.toNat * z + 0) = some (.pointer (some a)) ∧ ∀ w, (Instr.indexAt t v (.int k j)).run P w = .ok (.pointer (some a)) w := by
  obtain ⟨p, hp, hc⟩ := rs_R h
  rcases hc with ⟨_, h0, _, _⟩ | ⟨_, rfl⟩
  · omega
  · refine ⟨⟨p.blk, p.cap + j.toNat * z, none⟩, by simp [rpVal, hp], fun w => ?_⟩
    have e1 : (⟨p.blk, p.cap, none⟩ : Addr).add (j.toNat * z) = ⟨p.blk, p.cap + j.toNat * z, none⟩ := by rw [Addr.add_lit]
    simp [Instr.indexAt, asIntOf, run_underlying hu, hj, run_size hz, e1]
theorem ow_R' {b z st len : Nat} {lit : Bool} {v : Value} (h : (AV.v (.one (.ow b z st len lit))).R pl v) : ∃ p, pl[b]? = some p ∧
    ((p.nil = true ∧ st = 0 ∧ len = 0 ∧ v = .slice none 0 0) ∨ (p.nil = false ∧ v = .slice (some ⟨p.blk, (if len = 0 ∧ p.cap = st then 0 else st * z), none⟩) len (p.cap - st))) := by
  rcases h with h | h
  · cases h
  · simp only [SV.val, owVal] at h
    cases hp : pl[b]? with
    | none => simp [hp] at h
    | some p =>
      refine ⟨p, rfl, ?_⟩
      simp only [hp] at h
      cases hn : p.nil with
      | true =>
        simp only [hn, if_true] at h
        split at h
        · rename_i hc; exact .inl ⟨rfl, hc.1, hc.2, (Option.some.inj h).symm⟩
        · cases h
      | false =>
        simp only [hn, Bool.false_eq_true, if_false, Option.some.injEq] at h
        exact .inr ⟨rfl, h.symm⟩
theorem ow_R {b z st len : Nat} {lit : Bool} {v : Value} (h : (AV.v (.one (.ow b z st len lit))).R pl v) (hl : 0 < len ∨ st = 0) : ∃ p, pl[b]? = some p ∧
    ((p.nil = true ∧ st = 0 ∧ len = 0 ∧ v = .slice none 0 0) ∨ (p.nil = false ∧ v = .slice (some ⟨p.blk, st * z, none⟩) len (p.cap - st))) := by
  obtain ⟨p, hp, h1⟩ := ow_R' h
  refine ⟨p, hp, h1.imp id fun h2 => ⟨h2.1, ?_⟩⟩
  rw [h2.2]
  rcases hl with hl | rfl
  · rw [if_neg (by omega)]
  · rw [Nat.zero_mul, ite_self]
theorem nils_R {v : Value} (h : (AV.v (.one .nils)).R pl v) : v = .slice none 0 0 := by
  rcases h with h | h
  · cases h
  · simp only [SV.val, Option.some.injEq] at h; exact h.symm
theorem cstr_R {s : List UInt8} {v : Value} (h : (AV.v (.one (.cstr s))).R pl v) : v = .string ⟨s.toArray⟩ := by
  rcases h with h | h
  · cases h
  · simp only [SV.val, Option.some.injEq] at h; exact h.symm
theorem str_R {s : List UInt8} {v : Value} (h : (AV.v (.one (.str s))).R pl v) : v = .string ⟨s.toArray⟩ := by
  rcases h with h | h
  · cases h
  · simp only [SV.val, Option.some.injEq] at h; exact h.symm
theorem ow_indexAt {t e b z st len : Nat} {lit : Bool} {v : Value} (h : (AV.v (.one (.ow b z st len lit))).R pl v) (hu : P.underlying t = some (.slice e)) (hz : size? P e = some z) {k : IntKind} {j : Int} (hj : 0 ≤ j ∧ j < (len : Int)) :
    ∃ a, addrOf pl b ((st + j.toNat) * z) = some a ∧ ∀ w, (Instr.indexAt t v (.int k j)).run P w = .ok (.pointer (some a)) w := by
  obtain ⟨p, hp, hc⟩ := ow_R h (by omega)
  rcases hc with ⟨_, _, h0, _⟩ | ⟨_, rfl⟩
  · omega
  · refine ⟨⟨p.blk, (st + j.toNat) * z, none⟩, by simp [addrOf, hp], fun w => ?_⟩
    have e1 : (⟨p.blk, st * z, none⟩ : Addr).add (j.toNat * z) = ⟨p.blk, (st + j.toNat) * z, none⟩ := by rw [Addr.add_lit, Nat.add_mul]
    simp [Instr.indexAt, asIntOf, run_underlying hu, hj, run_size hz, e1]
theorem con_R {k : IntKind} {n : Int} {v : Value} (h : (AV.v (.one (.con k n))).R pl v) : v = .int k n := by
  rcases h with h | h
  · cases h
  · simp only [SV.val, Option.some.injEq] at h; exact h.symm
theorem sym_R {k : IntKind} {n : Int} {v : Value} (h : (AV.v (.one (.sym k n))).R pl v) : v = .int k n := by
  rcases h with h | h
  · cases h
  · simp only [SV.val, Option.some.injEq] at h; exact h.symm
theorem cb_R {b : Bool} {v : Value} (h : (AV.v (.one (.cb b))).R pl v) : v = .bool b := by
  rcases h with h | h
  · cases h
  · simp only [SV.val, Option.some.injEq] at h; exact h.symm
theorem sb_R {b : Bool} {v : Value} (h : (AV.v (.one (.sb b))).R pl v) : v = .bool b := by
  rcases h with h | h
  · cases h
  · simp only [SV.val, Option.some.injEq] at h; exact h.symm
theorem addrOf_add {b off n : Nat} {a : Addr} (h : addrOf pl b off = some a) : addrOf pl b (off + n) = some (a.add n) := by
  unfold addrOf at *
  cases hp : pl[b]? with
  | none => simp [hp] at h
  | some p =>
    simp [hp] at h
    subst h
    simp only [Addr.add]
    split
    · rename_i h0; subst h0; rfl
    · rfl

theorem bsize (s : List UInt8) : (⟨s.toArray⟩ : ByteArray).size = s.length := by
  show s.toArray.size = s.length
  simp
theorem bget (s : List UInt8) (i : Nat) : (⟨s.toArray⟩ : ByteArray)[i]? = s[i]? := by
  show (if h : i < (⟨s.toArray⟩ : ByteArray).size then some ((⟨s.toArray⟩ : ByteArray)[i]) else none) = _
  by_cases h : i < s.length
  · rw [dif_pos (by rw [bsize]; exact h), List.getElem?_eq_getElem h]
    rfl
  · rw [dif_neg (by rw [bsize]; exact h), List.getElem?_eq_none (by omega)]
theorem lenV_sound {env : Env} {a : Act} (hE : EnvR pl env a.tmps) {args : Array Operand} {ts : Array Nat} {av : AV} (hq : (lenV P env args.toList ts.toList).gives av) :
    ∃ v, av.R pl v ∧ ∀ w ty, (Builtin.len_ ts ty (args.map a.eval)).run P w = .ok v w := by
  unfold lenV at hq
  split at hq
  · rename_i x t hargs hts
    have hargs' : args = #[x] := by rw [← Array.toArray_toList (xs := args), hargs]
    have hts' : ts = #[t] := by rw [← Array.toArray_toList (xs := ts), hts]
    subst hargs' hts'
    have hx := hE.ev (a := a) x
    split at hq
    · rename_i b z st len lit e hu he
      rw [he] at hx
      rw [gives_ok hq]
      obtain ⟨p, _, hc⟩ := ow_R' hx
      rcases hc with ⟨_, _, h0, hv⟩ | ⟨_, hv⟩
      · subst h0
        exact ⟨_, mkI_R pl _ _ _, fun w ty => by simp [Builtin.len_, run_underlying hu, hv, goInt]⟩
      · exact ⟨_, mkI_R pl _ _ _, fun w ty => by simp [Builtin.len_, run_underlying hu, hv, goInt]⟩
    · rename_i b z len cap e hu he
      rw [he] at hx
      rw [gives_ok hq]
      obtain ⟨p, _, hc⟩ := rs_R hx
      rcases hc with ⟨_, h0, _, hv⟩ | ⟨_, hv⟩
      · subst h0
        exact ⟨_, mkI_R pl _ _ _, fun w ty => by simp [Builtin.len_, run_underlying hu, hv, goInt]⟩
      · exact ⟨_, mkI_R pl _ _ _, fun w ty => by simp [Builtin.len_, run_underlying hu, hv, goInt]⟩
    · rename_i e hu he
      rw [he] at hx
      rw [gives_ok hq]
      exact ⟨_, mkI_R pl _ _ _, fun w ty => by simp [Builtin.len_, run_underlying hu, nils_R hx, goInt]⟩
    · rename_i s hu he
      rw [he] at hx
      rw [gives_ok hq]
      exact ⟨_, mkI_R pl _ _ _, fun w ty => by simp [Builtin.len_, run_underlying hu, cstr_R hx, goInt, len'_eq, bsize]⟩
    · rename_i s hu he
      rw [he] at hx
      rw [gives_ok hq]
      exact ⟨_, mkI_R pl _ _ _, fun w ty => by simp [Builtin.len_, run_underlying hu, str_R hx, goInt, bsize]⟩
    · exact (gives_fail hq).elim
  · exact (gives_fail hq).elim
theorem qop0_sound {env : Env} {h : Heap} {a : Act} (hE : EnvR pl env a.tmps) (o : Oper) {av : AV} (hq : (qop0 P env h o.op).gives av) : QS P pl h o a av := by
  unfold qop0 at hq
  unfold QS execOp
  split at hq
  · -- move
    rename_i x ho
    rw [gives_ok hq]
    exact ⟨_, fun w _ => ⟨hE.ev x, by simp [ho]⟩⟩
  · rename_i x ho
    rw [gives_ok hq]
    exact ⟨_, fun w _ => ⟨hE.ev x, by simp [ho]⟩⟩
  · -- build
    rename_i t parts ho
    cases hp : evParts env parts.toList with
    | none => simp only [hp] at hq; exact (gives_fail hq).elim
    | some ps =>
      simp only [hp] at hq
      cases hb : buildV P t ps with
      | none => simp only [hb] at hq; exact (gives_fail hq).elim
      | some cs =>
        simp only [hb] at hq
        rw [gives_ok hq]
        obtain ⟨us, h1, h2⟩ := build_sound (evParts_R hE hp) hb
        refine ⟨_, fun w _ => ⟨⟨us, rfl, h1⟩, ?_⟩⟩
        have := run_build (P := P) w t (parts.map fun (i, x) => (i, a.eval x)) _ (by simpa using h2)
        simp [ho, this]
  · -- load
    rename_i t x ho
    split at hq
    · rename_i b off he
      obtain ⟨p, hp, rfl⟩ := gives_ofOpt hq
      have hx := hE.ev (a := a) x
      rw [he] at hx
      obtain ⟨ad, had, hv⟩ := ptr_R hx
      by_cases hex : ∃ w, HB pl h w
      · obtain ⟨w1, hw1⟩ := hex
        obtain ⟨v, g1, _⟩ := load_run hp had hw1
        refine ⟨v, fun w hw => ?_⟩
        obtain ⟨v', g1', g2'⟩ := load_run hp had hw
        have e := PV.known_eq (loadV_known hp) g1 g1'
        subst e
        exact ⟨g1, by simp [ho, hv, Instr.loadAt, Instr.sureAddr, g2']⟩
      · exact ⟨Go.undef, fun w hw => absurd ⟨w, hw⟩ hex⟩
    · rename_i b z idx sub he
      have hx := hE.ev (a := a) x
      rw [he] at hx
      obtain ⟨ad, had, hv⟩ := pe_R hx
      obtain ⟨p, rfl, hk, hrun⟩ := loadE_run hq had
      by_cases hex : ∃ w, HB pl h w
      · obtain ⟨w1, hw1⟩ := hex
        obtain ⟨v, g1, _⟩ := hrun w1 hw1
        refine ⟨v, fun w hw => ?_⟩
        obtain ⟨v', g1', g2'⟩ := hrun w hw
        have e := PV.known_eq hk g1 g1'
        subst e
        exact ⟨g1, by simp [ho, hv, Instr.loadAt, Instr.sureAddr, g2']⟩
      · exact ⟨Go.undef, fun w hw => absurd ⟨w, hw⟩ hex⟩
    · rename_i b z idx sub he
      have hx := hE.ev (a := a) x
      rw [he] at hx
      obtain ⟨ad0, had, hv⟩ := rp_R hx
      obtain ⟨p, ad, rfl, hk, hv0, hrun⟩ := loadR_run hq had
      cases hv0
      by_cases hex : ∃ w, HB pl h w
      · obtain ⟨w1, hw1⟩ := hex
        obtain ⟨v, g1, _⟩ := hrun w1 hw1
        refine ⟨v, fun w hw => ?_⟩
        obtain ⟨v', g1', g2'⟩ := hrun w hw
        have e := PV.known_eq hk g1 g1'
        subst e
        exact ⟨g1, by simp [ho, hv, Instr.loadAt, Instr.sureAddr, g2']⟩
      · exact ⟨Go.undef, fun w hw => absurd ⟨w, hw⟩ hex⟩
    · exact (gives_fail hq).elim
  · -- nilCheck
    rename_i x ho
    have hx := hE.ev (a := a) x
    split at hq
    · rename_i b off he
      rw [gives_ok hq]
      rw [he] at hx
      obtain ⟨ad, had, hv⟩ := ptr_R hx
      exact ⟨a.eval x, fun w _ => ⟨hx, by simp [ho, hv]⟩⟩
    · rename_i f c he
      rw [gives_ok hq]
      rw [he] at hx
      refine ⟨a.eval x, fun w _ => ⟨hx, ?_⟩⟩
      rcases hx with hx | hx
      · cases hx
      · simp only [SV.val] at hx
        cases hc : capVals pl c with
        | none => simp [hc] at hx
        | some vs => simp [hc] at hx; simp [ho, ← hx]
    · rename_i b z idx sub he
      rw [gives_ok hq]
      rw [he] at hx
      obtain ⟨ad, had, hv⟩ := pe_R hx
      exact ⟨a.eval x, fun w _ => ⟨hx, by simp [ho, hv]⟩⟩
    · rename_i b z idx sub he
      rw [gives_ok hq]
      rw [he] at hx
      obtain ⟨ad, had, hv⟩ := rp_R hx
      exact ⟨a.eval x, fun w _ => ⟨hx, by simp [ho, hv]⟩⟩
    · exact (gives_fail hq).elim
  · -- binOp
    rename_i op t x y t' ho
    have hx := hE.ev (a := a) x
    have hy := hE.ev (a := a) y
    split at hq
    · rename_i u v he1 he2
      rw [he1] at hx
      rw [he2] at hy
      split at hq
      · rename_i hB
        simp only [Bool.and_eq_true] at hB
        obtain ⟨b1, hb1⟩ := isB_R hB.1 hx
        obtain ⟨b2, hb2⟩ := isB_R hB.2 hy
        obtain ⟨r, g1, g2⟩ := cmpV_sound hq hx hy (.inl ⟨b1, b2, hb1, hb2⟩)
        refine ⟨r, fun w _ => ⟨g1, ?_⟩⟩
        rw [hb1, hb2] at g2
        cases op <;> simp [ho, hb1, hb2, g2, eqGuard]
      · split at hq
        · rename_i hsh
          obtain ⟨r, g1, g2, g3⟩ := aSh_sound (P := P) pl hsh hq t hx hy
          exact ⟨r, fun w _ => ⟨g1, by simp [ho, g2, g3]⟩⟩
        · obtain ⟨r, g1, g2, g3⟩ := aBin_sound (P := P) pl hq t hx hy
          exact ⟨r, fun w _ => ⟨g1, by simp [ho, g2, g3]⟩⟩
    · rename_i u v he1 he2
      rw [he1] at hx
      rw [he2] at hy
      split at hq
      · exact (gives_fail hq).elim
      · rename_i hg
        obtain ⟨vs, hvs, _⟩ := id hx
        obtain ⟨us, hus, _⟩ := id hy
        obtain ⟨r, g1, g2⟩ := cmpV_sound hq hx hy (.inr ⟨_, _, hvs, hus⟩)
        refine ⟨r, fun w _ => ⟨g1, ?_⟩⟩
        rw [hvs, hus] at g2
        have g3 := run_eqGuard_agg (P := P) w op t x y vs.toArray us.toArray (by simpa using hg)
        simp [ho, hvs, hus, g2, g3]
    · exact (gives_fail hq).elim
  · -- unOp
    rename_i op t x ho
    have hx := hE.ev (a := a) x
    split at hq
    · rename_i u he1
      rw [he1] at hx
      obtain ⟨r, g1, g2⟩ := aUn_sound (P := P) pl hq hx
      exact ⟨r, fun w _ => ⟨g1, by simp [ho, g2]⟩⟩
    · exact (gives_fail hq).elim
  · -- fieldAddr
    rename_i s x f ho
    have hx := hE.ev (a := a) x
    split at hq
    · rename_i b off fs he hu
      rw [he] at hx
      obtain ⟨ad, had, hv⟩ := ptr_R hx
      split at hq
      · rename_i fd hf
        split at hq
        · rename_i n hs
          rw [gives_ok hq]
          rw [get?_eq] at hf
          have hf' : fs[f]? = some fd := by simpa using hf
          refine ⟨.pointer (some (ad.add fd.offset)), fun w _ => ⟨.inr (by simp [SV.val, addrOf_add had]), ?_⟩⟩
          simp [ho, hv, Instr.fieldAt, run_underlying hu, hf', Instr.sureAddr, fieldPlace, run_size hs]
        · exact (gives_fail hq).elim
      · exact (gives_fail hq).elim
    · rename_i b z idx sub fs he hu
      rw [he] at hx
      obtain ⟨ad, had, hv⟩ := pe_R hx
      split at hq
      · rename_i fd hf
        split at hq
        · rename_i n hs
          rw [gives_ok hq]
          rw [get?_eq] at hf
          have hf' : fs[f]? = some fd := by simpa using hf
          have hadd := addrOf_add (n := fd.offset) had
          rw [Nat.add_assoc] at hadd
          refine ⟨.pointer (some (ad.add fd.offset)), fun w _ => ⟨.inr (by simp [SV.val, hadd]), ?_⟩⟩
          simp [ho, hv, Instr.fieldAt, run_underlying hu, hf', Instr.sureAddr, fieldPlace, run_size hs]
        · exact (gives_fail hq).elim
      · exact (gives_fail hq).elim
    · rename_i b z idx sub fs he hu
      rw [he] at hx
      obtain ⟨ad, had, hv⟩ := rp_R hx
      split at hq
      · rename_i fd hf
        split at hq
        · rename_i n hs
          rw [gives_ok hq]
          rw [get?_eq] at hf
          have hf' : fs[f]? = some fd := by simpa using hf
          have hadd := rpVal_add (m := fd.offset) had
          rw [Nat.add_assoc] at hadd
          refine ⟨.pointer (some (ad.add fd.offset)), fun w _ => ⟨.inr (by simp [SV.val, hadd]), ?_⟩⟩
          simp [ho, hv, Instr.fieldAt, run_underlying hu, hf', Instr.sureAddr, fieldPlace, run_size hs]
        · exact (gives_fail hq).elim
      · exact (gives_fail hq).elim
    · exact (gives_fail hq).elim
  · -- field
    rename_i s x f ho
    have hx := hE.ev (a := a) x
    split at hq
    · rename_i cs fs he hu
      rw [he] at hx
      obtain ⟨vs, hv, hr⟩ := hx
      split at hq
      · rename_i fd hf
        obtain ⟨p, hp, rfl⟩ := gives_ofOpt hq
        rw [get?_eq] at hf
        have hf' : fs[f]? = some fd := by simpa using hf
        obtain ⟨v, g1, g2⟩ := part_run hr hp
        exact ⟨v, fun w _ => ⟨g1, by simp [ho, hv, Instr.field, run_underlying hu, hf', asAgg, g2]⟩⟩
      · exact (gives_fail hq).elim
    · exact (gives_fail hq).elim
  · -- indexAddr
    rename_i t x i ho
    have hx := hE.ev (a := a) x
    have hi := hE.ev (a := a) i
    split at hq
    · rename_i n e b off k j hu he1 he2
      rw [he1] at hx
      rw [he2] at hi
      obtain ⟨ad, had, hv⟩ := ptr_R hx
      have hj := con_R hi
      split at hq
      · rename_i z hz
        split at hq
        · rename_i hb
          rw [gives_ok hq]
          refine ⟨.pointer (some (ad.add (j.toNat * z))), fun w _ => ⟨.inr (by simp [SV.val, addrOf_add had]), ?_⟩⟩
          simp [ho, hv, hj, Instr.indexAt, asIntOf, run_underlying hu, Instr.sureAddr, hb, run_size hz]
        · exact (gives_fail hq).elim
      · exact (gives_fail hq).elim
    · rename_i n e b z0 idx sub k j hu he1 he2
      rw [he1] at hx
      rw [he2] at hi
      obtain ⟨ad, had, hv⟩ := pe_R hx
      have hj := con_R hi
      split at hq
      · rename_i z hz
        split at hq
        · rename_i hb
          rw [gives_ok hq]
          have hadd := addrOf_add (n := j.toNat * z) had
          rw [Nat.add_assoc] at hadd
          refine ⟨.pointer (some (ad.add (j.toNat * z))), fun w _ => ⟨.inr (by simp [SV.val, hadd]), ?_⟩⟩
          simp [ho, hv, hj, Instr.indexAt, asIntOf, run_underlying hu, Instr.sureAddr, hb, run_size hz]
        · exact (gives_fail hq).elim
      · exact (gives_fail hq).elim
    · rename_i n e b z0 idx sub k j hu he1 he2
      rw [he1] at hx
      rw [he2] at hi
      obtain ⟨ad, had, hv⟩ := rp_R hx
      have hj := con_R hi
      split at hq
      · rename_i z hz
        split at hq
        · rename_i hb
          rw [gives_ok hq]
          have hadd := rpVal_add (m := j.toNat * z) had
          rw [Nat.add_assoc] at hadd
          refine ⟨.pointer (some (ad.add (j.toNat * z))), fun w _ => ⟨.inr (by simp [SV.val, hadd]), ?_⟩⟩
          simp [ho, hv, hj, Instr.indexAt, asIntOf, run_underlying hu, Instr.sureAddr, hb, run_size hz]
        · exact (gives_fail hq).elim
      · exact (gives_fail hq).elim
    · rename_i e b z st len lit k j hu he1 he2
      rw [he1] at hx
      rw [he2] at hi
      have hj := con_R hi
      split at hq
      · rename_i hz
        split at hq
        · split at hq
          · rename_i hb
            rw [gives_ok hq]
            obtain ⟨ad, h1, h2⟩ := ow_indexAt hx hu hz (k := k) hb
            exact ⟨.pointer (some ad), fun w _ => ⟨.inr (by simp [SV.val, h1]), by simp [ho, hj, h2]⟩⟩
          · exact (gives_fail hq).elim
        · rcases hq with hq | ⟨q, hq, hb⟩
          · cases hq
          · injection hq with e1 e2
            rw [← e1] at hb
            subst e2
            obtain ⟨ad, h1, h2⟩ := ow_indexAt hx hu hz (k := k) hb
            exact ⟨.pointer (some ad), fun w _ => ⟨.inr (by simp [SV.val, h1]), by simp [ho, hj, h2]⟩⟩
      · exact (gives_fail hq).elim
    · rename_i e b z st len lit k j hu he1 he2
      rw [he1] at hx
      rw [he2] at hi
      have hj := sym_R hi
      split at hq
      · rename_i hz
        split at hq
        · exact (gives_fail hq).elim
        · rcases hq with hq | ⟨q, hq, hb⟩
          · cases hq
          · injection hq with e1 e2
            rw [← e1] at hb
            subst e2
            obtain ⟨ad, h1, h2⟩ := ow_indexAt hx hu hz (k := k) hb
            exact ⟨.pointer (some ad), fun w _ => ⟨.inr (by simp [SV.val, h1]), by simp [ho, hj, h2]⟩⟩
      · exact (gives_fail hq).elim
    · rename_i e b z len cap k j hu he1 he2
      rw [he1] at hx
      rw [he2] at hi
      have hj := con_R hi
      split at hq
      · rename_i hz
        rcases hq with hq | ⟨q, hq, hb⟩
        · cases hq
        · injection hq with e1 e2
          rw [← e1] at hb
          subst e2
          obtain ⟨ad, h1, h2⟩ := rs_indexAt hx hu hz (k := k) hb
          exact ⟨.pointer (some ad), fun w _ => ⟨.inr (by simpa [SV.val] using h1), by simp [ho, hj, h2]⟩⟩
      · exact (gives_fail hq).elim
    · rename_i e b z len cap k j hu he1 he2
      rw [he1] at hx
      rw [he2] at hi
      have hj := sym_R hi
      split at hq
      · rename_i hz
        rcases hq with hq | ⟨q, hq, hb⟩
        · cases hq
        · injection hq with e1 e2
          rw [← e1] at hb
          subst e2
          obtain ⟨ad, h1, h2⟩ := rs_indexAt hx hu hz (k := k) hb
          exact ⟨.pointer (some ad), fun w _ => ⟨.inr (by simpa [SV.val] using h1), by simp [ho, hj, h2]⟩⟩
      · exact (gives_fail hq).elim
    · exact (gives_fail hq).elim
  · -- index
    rename_i t x i ho
    have hx := hE.ev (a := a) x
    have hi := hE.ev (a := a) i
    split at hq
    · rename_i n e cs k j hu he1 he2
      rw [he1] at hx
      rw [he2] at hi
      obtain ⟨vs, hv, hr⟩ := hx
      have hj := con_R hi
      split at hq
      · rename_i z hz
        split at hq
        · rename_i hb
          obtain ⟨p, hp, rfl⟩ := gives_ofOpt hq
          obtain ⟨v, g1, g2⟩ := part_run hr hp
          exact ⟨v, fun w _ => ⟨g1, by simp [ho, hv, hj, Instr.index, asIntOf, run_underlying hu, hb, run_size hz, g2]⟩⟩
        · exact (gives_fail hq).elim
      · exact (gives_fail hq).elim
    · rename_i s k j hu he1 he2
      rw [he1] at hx
      rw [he2] at hi
      have hs := cstr_R hx
      have hj := con_R hi
      split at hq
      · rename_i hb
        split at hq
        · rename_i c hc
          rw [gives_ok hq]
          rw [get?_eq] at hc
          exact ⟨_, fun w _ => ⟨mkI_R pl true .u8 _, by simp [ho, hs, hj, Instr.index, asIntOf, run_underlying hu, hb, bget, hc]⟩⟩
        · exact (gives_fail hq).elim
      · exact (gives_fail hq).elim
    all_goals first
      | exact (gives_fail hq).elim
      | (rename_i s k j hu he1 he2
         rw [he1] at hx
         rw [he2] at hi
         rcases hq with hq | ⟨p, hq, hp⟩
         · cases hq
         · injection hq with e1 e2
           rw [← e1] at hp
           subst e2
           have hlt : j.toNat < s.length := by omega
           obtain ⟨c, hc, hcd⟩ : ∃ c, s[j.toNat]? = some c ∧ s.getD j.toNat 0 = c := by
             refine ⟨s[j.toNat], List.getElem?_eq_getElem hlt, ?_⟩
             rw [List.getD_eq_getElem?_getD, List.getElem?_eq_getElem hlt]; rfl
           rw [hcd]
           first
           | (have hs := cstr_R hx
              have hj := sym_R hi
              exact ⟨_, fun w _ => ⟨mkI_R pl false .u8 _, by simp [ho, hs, hj, Instr.index, asIntOf, run_underlying hu, hp.1, bget, hc]⟩⟩)
           | (have hs := str_R hx
              have hj := con_R hi
              exact ⟨_, fun w _ => ⟨mkI_R pl false .u8 _, by simp [ho, hs, hj, Instr.index, asIntOf, run_underlying hu, hp.1, bget, hc]⟩⟩)
           | (have hs := str_R hx
              have hj := sym_R hi
              exact ⟨_, fun w _ => ⟨mkI_R pl false .u8 _, by simp [ho, hs, hj, Instr.index, asIntOf, run_underlying hu, hp.1, bget, hc]⟩⟩))
  · -- makeFunc
    rename_i f first cap ho
    split at hq
    · rename_i l hfirst hcap
      rw [gives_ok hq]
      have hc := caps_R hE hcap
      have hfirst' : first = #[] := by simpa using hfirst
      refine ⟨.func (.func f) #[] (cap.map a.eval), fun w _ => ⟨.inr (by simp only [SV.val, hc]; rw [← Array.toList_map, Array.toArray_toList]), ?_⟩⟩
      simp [ho, Instr.makeFunc, hfirst']
    · exact (gives_fail hq).elim
  · -- extract
    rename_i t i ho
    have hx := hE.ev (a := a) t
    split at hq
    · rename_i l he
      rw [he] at hx
      obtain ⟨vs, hv, hr⟩ := hx
      obtain ⟨p, hp, rfl⟩ := gives_ofOpt hq
      rw [get?_eq] at hp
      obtain ⟨v, g1, g2⟩ := hr.get hp
      exact ⟨v, fun w _ => ⟨g2, by simp [ho, hv, Instr.extract, g1]⟩⟩
    · exact (gives_fail hq).elim
  · -- pick
    rename_i c x y ho
    have hc := hE.ev (a := a) c
    split at hq
    · rename_i he
      rw [he] at hc
      rw [gives_ok hq]
      exact ⟨_, fun w _ => ⟨hE.ev x, by simp [ho, cb_R hc, asBool]⟩⟩
    · rename_i he
      rw [he] at hc
      rw [gives_ok hq]
      exact ⟨_, fun w _ => ⟨hE.ev y, by simp [ho, cb_R hc, asBool]⟩⟩
    · exact (gives_fail hq).elim
  · -- convert
    rename_i s d x ho
    have hx := hE.ev (a := a) x
    split at hq
    · rename_i k0 k k1 n hs hd he
      rw [he] at hx
      rw [gives_ok hq]
      exact ⟨_, fun w _ => ⟨mkI_R pl true k _, by simp [ho, con_R hx, convert, run_underlying hs, run_underlying hd, Conv.intToInt]⟩⟩
    · rename_i k0 k k1 n hs hd he
      rw [he] at hx
      rw [gives_ok hq]
      exact ⟨_, fun w _ => ⟨mkI_R pl false k _, by simp [ho, sym_R hx, convert, run_underlying hs, run_underlying hd, Conv.intToInt]⟩⟩
    · exact (gives_fail hq).elim
  · -- lookup
    rename_i t m k ok ho
    have hm := hE.ev (a := a) m
    have hk := hE.ev (a := a) k
    have hl := lookV_sound hq hm hk
    by_cases hex : ∃ w, HB pl h w
    · obtain ⟨w1, hw1⟩ := hex
      obtain ⟨v, g1, _⟩ := hl.2 w1 hw1
      refine ⟨v, fun w hw => ?_⟩
      obtain ⟨v', g1', g2'⟩ := hl.2 w hw
      have e := hl.1 v v' g1 g1'
      subst e
      exact ⟨g1, by simp [ho, g2']⟩
    · exact ⟨Go.undef, fun w hw => absurd ⟨w, hw⟩ hex⟩
  · -- len
    rename_i args ts ho
    obtain ⟨v, h1, h2⟩ := lenV_sound hE hq
    exact ⟨v, fun w _ => ⟨h1, by simp [ho, resolve, invoke, builtin, h2]⟩⟩
  · exact (gives_fail hq).elim
end
end Go.AM

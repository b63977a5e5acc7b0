import Derived.Test.YtbehdodaaobcdaaGreatDoorA08
import Derived.Lib.AppendStr
import Derived.Lib.UnsafeStr
import Derived.Lib.Builder
import Derived.Laws.BytesString
set_option maxHeartbeats 4000000
namespace Go.AM
open Go
section
variable {P : Program} {w0 : World} {Sx : Marks} {pl : List Pl} {h : Heap} {w : World}
theorem byteT_spec {e : Nat} (h : byteT P e = true) : ∃ i, P.info? e = some i ∧ i.zero = some (.int .u8 0) ∧ i.size = 1 ∧ i.bytes = 1 := by
  unfold byteT at h
  split at h
  · rename_i i hi
    split at h
    · rename_i n hz
      simp only [Bool.and_eq_true, decide_eq_true_eq] at h
      obtain ⟨⟨rfl, h2⟩, h3⟩ := h
      exact ⟨i, hi, hz, h2, h3⟩
    · cases h
  · cases h
theorem litStr_R {x : AV} {lit : Bool} {ys : List UInt8} (h : litStr x = some (lit, ys)) {v : Value} (hv : x.R pl v) : v = .string ⟨ys.toArray⟩ := by
  unfold litStr at h
  split at h
  · cases h; exact cstr_R hv
  · cases h; exact str_R hv
  · cases h
def byteV (ys : List UInt8) : List Value := ys.map fun b => Value.int .u8 ((b.toNat : Nat) : Int)
theorem strCells_mk (ys : List UInt8) : Lib.strCells ⟨ys.toArray⟩ = byteV ys := by simp [Lib.strCells, byteV]
theorem bytesL_R : ∀ ys : List UInt8, RL pl (bytesL ys) (byteV ys)
  | [] => trivial
  | _ :: l => ⟨.inr rfl, bytesL_R l⟩
theorem byC_R : ∀ ys : List UInt8, RL pl (flatC byC ys) (byteV ys)
  | [] => trivial
  | _ :: l => ⟨.inr rfl, byC_R l⟩
theorem sym1 {k : IntKind} {n : Int} {v : Value} (h : (SV.sym k n).R pl v) : v = .int k n := sym_R (pl := pl) (k := k) (n := n) h
theorem con1 {k : IntKind} {n : Int} {v : Value} (h : (SV.con k n).R pl v) : v = .int k n := con_R (pl := pl) (k := k) (n := n) h
theorem byC_vals : ∀ {ys : List UInt8} {vs : List Value}, RL pl (flatC byC ys) vs → vs = byteV ys
  | [], [], _ => rfl
  | [], _ :: _, h => h.elim
  | _ :: _, [], h => h.elim
  | y :: ys, v :: vs, h => by
    have h1 := sym1 h.1
    have h2 := byC_vals (ys := ys) (vs := vs) h.2
    rw [h1, h2]; rfl
theorem biC_vals : ∀ {ns : List Int} {vs : List Value}, RL pl (flatC biC ns) vs → vs = ns.map (Value.int .u8)
  | [], [], _ => rfl
  | [], _ :: _, h => h.elim
  | _ :: _, [], h => h.elim
  | y :: ys, v :: vs, h => by
    have h1 := sym1 h.1
    have h2 := biC_vals (ns := ys) (vs := vs) h.2
    rw [h1, h2]; rfl
theorem numBytes_R : ∀ {l : List SV} {s : List UInt8} {vs : List Value}, numBytes l = some s → RL pl l vs → ∃ ns : List Int, vs = ns.map (Value.int .u8) ∧ s = ns.map byteI
  | [], s, [], h, _ => by simp [numBytes] at h; exact ⟨[], rfl, h⟩
  | [], _, _ :: _, _, h => h.elim
  | _ :: _, _, [], _, h => h.elim
  | x :: l, s, v :: vs, h, hr => by
    unfold numBytes at h
    split at h
    · cases ‹x :: l = []›
    · rename_i n l' he
      cases he
      split at h
      · rename_i r hr'
        cases h
        obtain ⟨ns, h1, h2⟩ := numBytes_R hr' hr.2
        exact ⟨n :: ns, by rw [con1 hr.1, h1]; rfl, by rw [h2]; rfl⟩
      · cases h
    · rename_i n l' he
      cases he
      split at h
      · rename_i r hr'
        cases h
        obtain ⟨ns, h1, h2⟩ := numBytes_R hr' hr.2
        exact ⟨n :: ns, by rw [sym1 hr.1, h1]; rfl, by rw [h2]; rfl⟩
      · cases h
    · cases h
theorem litBytes_num : ∀ {l : List SV} {s : List UInt8}, litBytes l = some s → numBytes l = some s
  | [], s, h => by simpa [litBytes, numBytes] using h
  | x :: l, s, h => by
    unfold litBytes at h
    split at h
    · cases ‹x :: l = []›
    · rename_i n l' he
      cases he
      split at h
      · rename_i r hr
        cases h
        simp only [numBytes, litBytes_num hr]
      · cases h
    · cases h
def bcat (us : List byC.τ) (ys : List UInt8) : List byC.τ := @HAppend.hAppend (List byC.τ) (List byC.τ) (List byC.τ) _ us ys
theorem byC_app (us : List byC.τ) (ys : List UInt8) : flatC byC (bcat us ys) = flatC byC us ++ flatC byC ys := flat_append (C := byC) us ys
theorem byC_len (us : List byC.τ) (ys : List UInt8) : (bcat us ys).length = us.length + ys.length := List.length_append
theorem app_str {t u e : Nat} {i : TypeInfo} (ht : P.underlying t = some (.slice e)) (hu : P.underlying u = some .string) (hi : P.info? e = some i) (hz : i.zero = some (.int .u8 0)) (hsize : i.size = 1) (hby : i.bytes = 1)
    {p : Pl} {n : Nat} {xs : List Value} (hown : w.ownsRowZ 0 e 1 (p.sv n) n xs) (s : ByteArray) (hb : n + s.size ≤ 140737488355328) :
    ∃ (p' : Pl) (w' : World), (∀ ty, (Builtin.append_ #[t, u] ty #[p.sv n, .string s]).run P w = .ok (p'.sv (n + s.size)) w') ∧ w'.ownsRowZ 0 e 1 (p'.sv (n + s.size)) (n + s.size) (xs ++ Lib.strCells s) ∧
      w.grownBy w' (p.sv n).ownBlock ∧ (p'.nil = true → n + s.size = 0) ∧ (p'.nil = false → ((p.nil = false ∧ p'.blk = p.blk) ∨ w.heap.size ≤ p'.blk) ∧ p'.blk < w'.heap.size) := by
  have h63 : n + s.size ≤ maxLen := by simp only [maxLen]; omega
  have fin : ∀ (base : Nat), base ≤ w.heap.size → w.ownsRowZ base e 1 (p.sv n) n xs → ∃ (p' : Pl) (w' : World), (∀ ty, (Builtin.append_ #[t, u] ty #[p.sv n, .string s]).run P w = .ok (p'.sv (n + s.size)) w') ∧ w'.ownsRowZ 0 e 1 (p'.sv (n + s.size)) (n + s.size) (xs ++ Lib.strCells s) ∧
      w.grownBy w' (p.sv n).ownBlock ∧ (p'.nil = true → n + s.size = 0) ∧ (p'.nil = false → base ≤ p'.blk ∧ p'.blk < w'.heap.size) := by
    intro base hbs ho
    obtain ⟨v', w', g1, g2, g3, _⟩ := Lib.run_append_own_stringZ (P := P) w base t u 0 e i ht hu hi hz hsize hby (p.sv n) n xs ho s h63 hb hbs
    have hty : ∀ ty, (Builtin.append_ #[t, u] ty #[p.sv n, .string s]) = (Builtin.append_ #[t, u] 0 #[p.sv n, .string s]) := fun ty => rfl
    rcases g2.2 with ⟨hv, h0⟩ | ⟨g, cap, cur, hv, k1, k2, k3⟩
    · refine ⟨⟨0, true, 0⟩, w', fun ty => ?_, ⟨g2.1, .inl ⟨rfl, h0⟩⟩, g3, fun _ => h0, fun h => by cases h⟩
      rw [hty, g1, hv]
      rfl
    · refine ⟨⟨g, false, cap⟩, w', fun ty => ?_, ?_, g3, fun h => (by cases h), fun _ => ⟨k1, (Array.getElem?_eq_some_iff.1 k2.choose_spec.1).1⟩⟩
      · rw [hty, g1, hv]
        simp [Pl.sv]
      · exact ⟨g2.1, .inr ⟨g, cap, cur, by simp [Pl.sv], Nat.zero_le _, k2, k3⟩⟩
  cases hn : p.nil with
  | true =>
    have ho : w.ownsRowZ w.heap.size e 1 (p.sv n) n xs := by
      refine ⟨hown.1, ?_⟩
      rcases hown.2 with h | ⟨g, cap, cur, hv, _⟩
      · exact .inl h
      · simp [Pl.sv, hn] at hv
    obtain ⟨p', w', g1, g2, g3, g4, g5⟩ := fin w.heap.size (Nat.le_refl _) ho
    exact ⟨p', w', g1, g2, g3, g4, fun h => ⟨.inr (g5 h).1, (g5 h).2⟩⟩
  | false =>
    obtain ⟨p', w', g1, g2, g3, g4, g5⟩ := fin 0 (Nat.zero_le _) hown
    refine ⟨p', w', g1, g2, g3, g4, fun h => ⟨?_, (g5 h).2⟩⟩
    rcases hown.2 with ⟨h, _⟩ | ⟨g, cap, cur, hv, _, ⟨fz, k2, kz⟩, k3, k4, k5, k6⟩
    · simp [Pl.sv, hn] at h
    · simp only [Pl.sv, hn, Bool.false_eq_true, if_false, Value.slice.injEq, Option.some.injEq, Addr.mk.injEq] at hv
      obtain ⟨⟨rfl, _⟩, _, rfl⟩ := hv
      have hr0 := g1 0
      have e1 : p.sv n = .slice (some ⟨p.blk, 0, none⟩) n p.cap := by simp [Pl.sv, hn]
      rw [e1] at hr0
      have inj : ∀ {v1 v2 : Value} {w1 w2 : World}, (Result.ok v1 w1 : Result Value) = .ok v2 w2 → v1 = v2 := fun h => by injection h
      by_cases hroom : n + s.size ≤ p.cap
      · have hr := Lib.run_append_room_stringZ (P := P) w t u 0 e i ht hu hi hsize p.blk n p.cap cur fz k2 kz s hroom (by omega)
        have := inj (hr0.symm.trans hr)
        simp [Pl.sv, h] at this
        exact .inl ⟨rfl, this.1⟩
      · have holds : ∀ (j : Nat) u, xs[j]? = some u → w.cell? ((⟨p.blk, 0, none⟩ : Addr).add j) = some u := hown.cells (g := p.blk) (by simp [Pl.sv, hn, Value.ownBlock])
        have hr := Lib.run_append_grow_string (P := P) w t u 0 e i (.int .u8 0) ht hu hi hz ⟨p.blk, 0, none⟩ n p.cap xs (by rw [hsize]; exact hown.1) holds s (by omega) (by omega) (by rw [hby]; exact growslice_fits (by omega) (by omega))
        have := inj (hr0.symm.trans hr)
        simp [Pl.sv, h] at this
        exact .inr (by omega)
theorem app_str_row [Glob] (hR : HRel w0 Sx pl h w) {t u e : Nat} {i : TypeInfo} (ht : P.underlying t = some (.slice e)) (hu : P.underlying u = some .string) (hi : P.info? e = some i) (hz : i.zero = some (.int .u8 0)) (hsize : i.size = 1) (hby : i.bytes = 1)
    {p : Pl} {n m : Nat} {xs : List Value} {hh : Heap} (hown : w.ownsRowZ 0 e 1 (p.sv n) n xs) (hRh : HRel w0 Sx pl hh w)
    (hfree : p.nil = false → (w0.heap.size ≤ p.blk ∨ Sx p.blk) ∧ p.blk < w.heap.size ∧ ∀ (c : Nat) q y, pl[c]? = some q → hh[c]? = some y → y.alive q = true → q.blk ≠ p.blk)
    (s : List UInt8) (hb : n + s.length ≤ 140737488355328) (hm : m = n + s.length) {x' : Blk} {lit : Bool} (hal : ∀ q, x'.alive q = !q.nil) (hrd : ∀ q, x'.rd q = false)
    (hx' : ∀ (q : Pl) (w' : World), w'.ownsRowZ 0 e 1 (q.sv m) m (xs ++ byteV s) → BlkR (pl ++ [q]) w' x' q) :
    ∃ v' w' pl', (∀ ty, (Builtin.append_ #[t, u] ty #[p.sv n, .string ⟨s.toArray⟩]).run P w = .ok v' w') ∧ (AV.v (.one (.ow pl.length 1 0 m lit))).R pl' v' ∧ PExt pl pl' ∧ HRel w0 Sx pl' (hh ++ [x']) w' := by
  have hsz : (ByteArray.mk s.toArray).size = s.length := by simp [ByteArray.size]
  obtain ⟨p', w', g1, g3, g4, g5, g6⟩ := app_str (P := P) ht hu hi hz hsize hby hown ⟨s.toArray⟩ (by rw [hsz]; exact hb)
  rw [hsz, ← hm, strCells_mk] at g3
  rw [hsz, ← hm] at g1 g5
  have hrow' : ∀ k, (p.sv n).ownBlock = some k → p.nil = false ∧ k = p.blk := fun k hk => by
    unfold Pl.sv at hk
    cases hn : p.nil with
    | true => simp [hn, Value.ownBlock] at hk
    | false => simp [hn, Value.ownBlock] at hk; exact ⟨rfl, hk.symm⟩
  have hF := hRh.fresh (hdr := fun _ => run_drawn _ _ _ _ (g1 0)) (x' := x') (p' := p') (hRh.fr.grown g4 (fun k hk => by have := hrow' k hk; rw [this.2]; exact (hfree this.1).1)) g4.size
    (fun c q y hq hy ha => g4.block _ (hRh.lt c q y hq hy ha) (fun e => by have := hrow' _ e.symm; exact (hfree this.1).2.2 c q y hq hy ha this.2))
    (hx' p' w' g3)
    (fun ha => by
      have hn : p'.nil = false := by rw [hal] at ha; simpa using ha
      have g7 := g6 hn
      refine ⟨g7.2, ?_, fun c q y hq hy ha => ?_⟩
      · rcases g7.1 with ⟨h1, h2⟩ | h1
        · rw [h2]; exact (hfree h1).1
        · exact .inl (Nat.le_trans hRh.fr.size h1)
      · rcases g7.1 with ⟨h1, h2⟩ | h1
        · rw [h2]; exact (hfree h1).2.2 c q y hq hy ha
        · have := hRh.lt c q y hq hy ha; omega)
    (fun h => by rw [hrd] at h; cases h)
  refine ⟨p'.sv m, w', _, g1, .inr ?_, hF.2, hF.1⟩
  cases hn : p'.nil with
  | true => simp [SV.val, owVal, hn, Pl.sv, g5 hn]
  | false => simp [SV.val, owVal, hn, Pl.sv]
theorem appS_sound [Glob] (hR : HRel w0 Sx pl h w) {t u : Nat} {s x : AV} {vs vx : Value} (hs : s.R pl vs) (hx : x.R pl vx) {K : KV} (hk : appS P t u s x h K) :
    ∃ v av h' pl' w', (∀ ty, (Builtin.append_ #[t, u] ty #[vs, vx]).run P w = .ok v w') ∧ K av h' ∧ av.R pl' v ∧ PExt pl pl' ∧ HRel w0 Sx pl' h' w' := by
  unfold appS at hk
  split at hk
  · rename_i e lit ys ht hu hl
    have hvx := litStr_R hl hx
    subst hvx
    split at hk
    · rename_i hbt
      obtain ⟨i, hi, hz, hsize, hby⟩ := byteT_spec hbt
      have fin : ∀ {p : Pl} {n m : Nat} {xs : List Value} {hh : Heap} {x' : Blk} {lit : Bool}, vs = p.sv n → w.ownsRowZ 0 e 1 (p.sv n) n xs → HRel w0 Sx pl hh w →
          (p.nil = false → (w0.heap.size ≤ p.blk ∨ Sx p.blk) ∧ p.blk < w.heap.size ∧ ∀ (c : Nat) q y, pl[c]? = some q → hh[c]? = some y → y.alive q = true → q.blk ≠ p.blk) →
          n + ys.length ≤ 140737488355328 → m = n + ys.length → (∀ q, x'.alive q = !q.nil) → (∀ q, x'.rd q = false) → (∀ (q : Pl) (w' : World), w'.ownsRowZ 0 e 1 (q.sv m) m (xs ++ byteV ys) → BlkR (pl ++ [q]) w' x' q) →
          K (.v (.one (.ow (len' h) 1 0 m lit))) (hh ++ [x']) → ∃ v av h' pl' w', (∀ ty, (Builtin.append_ #[t, u] ty #[vs, .string ⟨ys.toArray⟩]).run P w = .ok v w') ∧ K av h' ∧ av.R pl' v ∧ PExt pl pl' ∧ HRel w0 Sx pl' h' w' := by
        intro p n m xs hh x' lit h1 h2 h3 h4 h5 h6 h7 h8 h9 hK
        obtain ⟨v', w', pl', g1, g2, g3, g4⟩ := app_str_row (P := P) hR ht hu hi hz hsize hby h2 h3 h4 ys h5 h6 h7 h8 h9 (lit := lit)
        rw [len'_eq, ← hR.len] at hK
        exact ⟨v', _, _, pl', w', by rw [h1]; exact g1, hK, g2, g3, g4⟩
      split at hk
      · have hv := nils_R hs
        have nl : ∀ {x' : Blk} {lit : Bool} {m : Nat}, m = ys.length → ys.length ≤ 140737488355328 → (∀ q, x'.alive q = !q.nil) → (∀ q, x'.rd q = false) → (∀ (q : Pl) (w' : World), w'.ownsRowZ 0 e 1 (q.sv m) m (byteV ys) → BlkR (pl ++ [q]) w' x' q) → K (.v (.one (.ow (len' h) 1 0 m lit))) (h ++ [x']) →
            ∃ v av h' pl' w', (∀ ty, (Builtin.append_ #[t, u] ty #[vs, .string ⟨ys.toArray⟩]).run P w = .ok v w') ∧ K av h' ∧ av.R pl' v ∧ PExt pl pl' ∧ HRel w0 Sx pl' h' w' := fun h1 h2 h3 h4 h5 h6 =>
          fin (p := ⟨0, true, 0⟩) (n := 0) (xs := []) (by rw [hv]; rfl) (World.ownsRowZ_nil w 0 e 1) hR (fun h => by cases h) (by omega) (by omega) h3 h4 (fun q w' ho => h5 q w' (by simpa using ho)) h6
        split at hk
        · split at hk
          · rename_i hlen
            have hlen := of_decide_eq_true hlen
            rw [len'_eq ys] at hlen hk
            exact nl (x' := .ownL e 1 ys.length (bytesL ys)) (lit := true) rfl (by omega) (fun q => rfl) (fun q => rfl) (fun q w' ho => ⟨byteV ys, (bytesL_R ys), ho⟩) hk
          · exact hk.elim
        · exact nl (x' := .own e byC ys) (lit := false) rfl hk.1 (fun q => rfl) (fun q => rfl) (fun q w' ho => ⟨byteV ys, byC_R ys, ho⟩) hk.2
      · rename_i b z n lit0
        split at hk
        · rename_i hz1
          have hz1 := of_decide_eq_true hz1
          subst hz1
          obtain ⟨p, hp, hpc⟩ := ow_R hs (.inr rfl)
          have hsv : vs = p.sv n := by
            rcases hpc with ⟨h1, _, h2, h3⟩ | ⟨h1, h3⟩
            · rw [h3, Pl.sv, if_pos h1]
            · rw [h3]; simp [Pl.sv, h1]
          have hfree : ∀ x0, h[b]? = some x0 → (p.nil = false → x0.alive p = true) → p.nil = false → (w0.heap.size ≤ p.blk ∨ Sx p.blk) ∧ p.blk < w.heap.size ∧ ∀ (c : Nat) q y, pl[c]? = some q → (AM.set h b .gone)[c]? = some y → y.alive q = true → q.blk ≠ p.blk := fun x0 hx0 ha0 hn => by
            refine ⟨hR.own b p x0 hp hx0 (ha0 hn), hR.lt b p x0 hp hx0 (ha0 hn), fun c q y hq hy ha e => ?_⟩
            by_cases ebc : b = c
            · subst ebc
              rw [get_set_same hx0] at hy
              cases hy
              cases ha
            · rw [get_set_other ebc] at hy
              exact ebc (hR.inj b c p q x0 y hp hq hx0 hy (ha0 hn) ha e.symm)
          split at hk
          · rename_i T z3 n3 cs hg
            rw [get?_eq] at hg
            split at hk
            · rename_i hc
              simp only [Bool.and_eq_true, decide_eq_true_eq] at hc
              obtain ⟨⟨rfl, rfl⟩, rfl⟩ := hc
              obtain ⟨xs, hr, ho⟩ := hR.hb b _ p hg hp
              split at hk
              · split at hk
                · rename_i hlen
                  have hlen := of_decide_eq_true hlen
                  rw [len'_eq ys] at hlen hk
                  rw [app_eq] at hk
                  refine fin (p := p) (n := n3) (xs := xs) (hh := AM.set h b .gone) (x' := .ownL T 1 (n3 + ys.length) (cs ++ bytesL ys)) (lit := true) hsv ho (hR.forget b) (hfree _ hg (fun h => by simp [Blk.alive, h])) (by omega) rfl (fun q => rfl) (fun q => rfl) (fun q w' ho' => ⟨xs ++ byteV ys, ?_, ho'⟩) hk
                  exact (RL.append hr (bytesL_R ys)).ext (PExt.push pl _)
                · exact hk.elim
              · split at hk
                · rename_i us hd
                  have hxl : xs.length = n3 * byC.esz := by rw [ho.1]; rfl
                  obtain ⟨k1, k2⟩ := decAll_R hd hr hxl
                  refine fin (p := p) (n := n3) (xs := xs) (hh := AM.set h b .gone) (x' := .own T byC (@HAppend.hAppend (List byC.τ) (List byC.τ) (List byC.τ) _ us ys)) (lit := false) hsv ho (hR.forget b) (hfree _ hg (fun h => by simp [Blk.alive, h])) hk.1 rfl (fun q => rfl) (fun q => rfl) (fun q w' ho' => ⟨xs ++ byteV ys, ?_, ?_⟩) hk.2
                  · show RL (pl ++ [q]) (flatC byC (bcat us ys)) _
                    rw [byC_app]
                    exact (RL.append k1 (byC_R ys)).ext (PExt.push pl q)
                  · show w'.ownsRowZ 0 _ 1 (q.sv (bcat us ys).length) (bcat us ys).length _
                    rw [byC_len, k2]
                    exact ho'
                · exact hk.elim
            · exact hk.elim
          · rename_i T C xs0 hg
            rw [get?_eq] at hg
            split at hk
            · rename_i hc
              simp only [Bool.and_eq_true, decide_eq_true_eq] at hc
              obtain ⟨hce, rfl⟩ := hc
              obtain ⟨⟨rfl, hb⟩, zs, hsr, hk⟩ := hk
              obtain ⟨xs, hr, ho⟩ := hR.hb b _ p hg hp
              rw [hce] at ho
              have hcr := same_R hsr (byC_R (pl := pl) ys)
              refine fin (p := p) (xs := xs) (hh := AM.set h b .gone) (x' := .own T C (xs0 ++ zs)) (lit := false) hsv ho (hR.forget b) (hfree _ hg (fun h => by simp [Blk.alive, h])) hb rfl (fun q => rfl) (fun q => rfl) (fun q w' ho' => ⟨xs ++ byteV ys, ?_, ?_⟩) hk
              · rw [flat_append]
                exact (RL.append hr hcr).ext (PExt.push pl _)
              · rw [hce]
                have e1 : (xs0 ++ zs).length = xs0.length + ys.length := by rw [List.length_append]; exact congrArg (xs0.length + ·) hsr.hl'
                rw [e1]
                exact ho'
            · exact hk.elim
          · exact hk.elim
        · exact hk.elim
      · exact hk.elim
    · exact hk.elim
  · exact hk.elim
theorem fold_push [Glob] : ∀ (ns : List Int) (acc : Array UInt8), ns.foldl (fun (r : ByteArray) n => r.push (UInt8.ofNat n.toNat)) ⟨acc⟩ = ⟨acc ++ (ns.map byteI).toArray⟩
  | [], acc => by simp
  | n :: ns, acc => by
    rw [List.foldl_cons]
    show List.foldl _ (ByteArray.mk (acc.push (UInt8.ofNat n.toNat))) ns = _
    rw [fold_push ns]
    simp [byteI]
theorem bytes_run [Glob] {src dst e : TypeId} (hs : P.underlying src = some (.slice e)) (he : P.underlying e = some (.int .u8)) (hd : P.underlying dst = some .string) (a : Addr) (c : Nat) {ns : List Int} (hc : ∀ (j : Nat) v, (ns.map (Value.int .u8))[j]? = some v → w.cell? (a.add j) = some v) :
    (convert src dst (.slice (some a) ns.length c)).run P w = .ok (.string ⟨(ns.map byteI).toArray⟩) w := by
  rw [run_convert_bytes_string w src dst e _ _ _ hs he hd]
  have hl := run_loadCells_list (P := P) w a (ns.map (Value.int .u8)) hc
  rw [List.length_map] at hl
  rw [run_bytesToString w a ns.length c ns hl]
  have := fold_push ns #[]
  rw [show (ByteArray.mk #[]) = ByteArray.empty from rfl] at this
  rw [this]
  simp
theorem toStr_sound [Glob] (hR : HRel w0 Sx pl h w) {src dst e : TypeId} (hs : P.underlying src = some (.slice e)) (he : P.underlying e = some (.int .u8)) (hd : P.underlying dst = some .string) {x : AV} {v : Value} (hx : x.R pl v) {K : AV → Prop} (hk : toStr h x K) :
    ∃ u av, (convert src dst v).run P w = .ok u w ∧ K av ∧ av.R pl u := by
  have nil0 : ∀ c, (convert src dst (.slice none 0 c)).run P w = .ok (.string ⟨#[]⟩) w := fun c => by
    rw [run_convert_bytes_string w src dst e _ _ _ hs he hd]
    rfl
  have out : ∀ {l : List SV} {us : List Value} {b : Nat} {ao : Nat} {c : Nat}, RL pl l us → (∀ (j : Nat) v, us[j]? = some v → w.cell? ⟨b, ao + j, none⟩ = some v) →
      (match litBytes l with | some s => K (.v (.one (.cstr s))) | none => (match numBytes l with | some s => K (.v (.one (.str s))) | none => False)) →
      ∃ u av, (convert src dst (.slice (some ⟨b, ao, none⟩) us.length c)).run P w = .ok u w ∧ K av ∧ av.R pl u := by
    intro l us b ao c hr hc hk
    have go : ∀ {s : List UInt8}, numBytes l = some s → (convert src dst (.slice (some ⟨b, ao, none⟩) us.length c)).run P w = .ok (.string ⟨s.toArray⟩) w := fun {s} hn => by
      obtain ⟨ns, rfl, rfl⟩ := numBytes_R hn hr
      have := bytes_run (w := w) hs he hd ⟨b, ao, none⟩ c (ns := ns) (fun j v hj => by rw [Addr.add_lit]; exact hc j v hj)
      rw [List.length_map]
      exact this
    split at hk
    · rename_i s hl
      exact ⟨_, _, go (litBytes_num hl), hk, .inr rfl⟩
    · split at hk
      · rename_i s hl
        exact ⟨_, _, go hl, hk, .inr rfl⟩
      · exact hk.elim
  unfold toStr at hk
  split at hk
  · rw [nils_R hx]
    exact ⟨_, _, nil0 0, hk, .inr rfl⟩
  · rename_i b z st n lit
    split at hk
    · rename_i hz
      have hz := of_decide_eq_true hz
      subst hz
      obtain ⟨p, hp, hpc⟩ := ow_R' hx
      split at hk
      · rename_i T z3 n3 cs hg
        rw [get?_eq] at hg
        split at hk
        · rename_i hc
          simp only [Bool.and_eq_true, decide_eq_true_eq] at hc
          obtain ⟨rfl, hle⟩ := hc
          obtain ⟨vs, h1, h2⟩ := hR.hb b _ p hg hp
          split at hk
          · rename_i l hl
            rw [dropN_eq] at hl
            have h1' : RL pl (cs.drop st) (vs.drop st) := by have := h1.drop st; rwa [dropN_eq] at this
            have ⟨h3, h4⟩ := h1'.takeE hl
            have hul : ((vs.drop st).take n).length = n := by rw [List.length_take]; omega
            rcases hpc with ⟨hn, rfl, rfl, h5⟩ | ⟨hn, h5⟩
            · subst h5
              have : l = [] := by
                have := h3.length
                rw [hul] at this
                exact List.eq_nil_of_length_eq_zero this
              subst this
              simp only [litBytes] at hk
              exact ⟨_, _, nil0 0, hk, .inr rfl⟩
            · subst h5
              have := out (c := p.cap - st) (b := p.blk) (ao := if n = 0 ∧ p.cap = st then 0 else st * 1) h3 (fun j v hj => by
                have hjn : j < n := by have := (List.getElem?_eq_some_iff.1 hj).1; omega
                rw [if_neg (by omega), Nat.mul_one]
                rw [List.getElem?_take_of_lt hjn, List.getElem?_drop] at hj
                have := Seen.of_own h2 (st + j) v hj
                simpa using this) hk
              rw [hul] at this
              exact this
          · exact hk.elim
        · exact hk.elim
      · rename_i T C xs hg
        rw [get?_eq] at hg
        split at hk
        · rename_i hce
          have hce := of_decide_eq_true hce
          obtain ⟨ns, hsr, hle, hk⟩ := hk
          obtain ⟨vs, h1, h2⟩ := hR.hb b _ p hg hp
          have hvs := biC_vals (same_R hsr h1)
          subst hvs
          refine ⟨_, _, ?_, hk, .inr rfl⟩
          rcases hpc with ⟨hn, rfl, rfl, h5⟩ | ⟨hn, h5⟩
          · subst h5
            simpa using nil0 0
          · subst h5
            have hnl : ((ns.drop st).take n).length = n := by
              have h9 : ns.length = xs.length := hsr.hl'
              rw [List.length_take, List.length_drop, h9]
              omega
            have := bytes_run (w := w) hs he hd ⟨p.blk, (if n = 0 ∧ p.cap = st then 0 else st * 1), none⟩ (p.cap - st) (ns := (ns.drop st).take n) (fun j v hj => by
              have hjn : j < n := by have := (List.getElem?_eq_some_iff.1 hj).1; rw [List.length_map] at this; omega
              rw [Addr.add_lit, if_neg (by omega), Nat.mul_one]
              rw [List.map_take, List.map_drop, List.getElem?_take_of_lt hjn, List.getElem?_drop] at hj
              have := Seen.of_own h2 (st + j) v hj
              simpa using this)
            rw [hnl] at this
            exact this
        · exact hk.elim
      · exact hk.elim
    · exact hk.elim
  · rename_i b off n c
    obtain ⟨ad, had, rfl⟩ := sl_R hx
    split at hk
    · rename_i T cs hg
      rw [get?_eq] at hg
      split at hk
      · rename_i l hl
        rw [dropN_eq] at hl
        unfold addrOf at had
        cases hp : pl[b]? with
        | none => simp [hp] at had
        | some p =>
          simp [hp] at had
          subst had
          obtain ⟨vs, h1, h2⟩ := hR.hb b _ p hg hp
          have h1' : RL pl (cs.drop off) (vs.drop off) := by have := h1.drop off; rwa [dropN_eq] at this
          have ⟨h3, h4⟩ := h1'.takeE hl
          have hul : ((vs.drop off).take n).length = n := by rw [List.length_take]; omega
          have := out (c := c) (b := p.blk) (ao := off) h3 (fun j v hj => by
            have hjn : j < n := by have := (List.getElem?_eq_some_iff.1 hj).1; omega
            rw [List.getElem?_take_of_lt hjn, List.getElem?_drop] at hj
            have := Seen.of_row h2 (off + j) v hj
            simpa using this) hk
          rw [hul] at this
          exact this
      · exact hk.elim
    · exact hk.elim
  · exact hk.elim
theorem convX_sound [Glob] (hR : HRel w0 Sx pl h w) {src dst : TypeId} {x : AV} {v : Value} (hx : x.R pl v) {K : KV} (hk : convX P src dst x h K) :
    ∃ u av, (convert src dst v).run P w = .ok u w ∧ K av h ∧ av.R pl u := by
  unfold convX at hk
  split at hk
  · rename_i e hs hd
    split at hk
    · rename_i hc
      simp only [Bool.and_eq_true] at hc
      have he : P.underlying e = some (.int .u8) := by
        have := hc.2
        unfold u8T at this
        split at this
        · assumption
        · cases this
      exact toStr_sound hR hs he hd hx hk
    · exact hk.elim
  · rename_i t hs hd
    split at hk
    · rename_i b off
      obtain ⟨ad, had, rfl⟩ := ptr_R hx
      split at hk
      · rename_i T cs sz hg hsz
        rw [get?_eq] at hg
        split at hk
        · rename_i hlt
          have hlt := of_decide_eq_true hlt
          rw [len'_eq] at hlt
          unfold addrOf at had
          cases hp : pl[b]? with
          | none => simp [hp] at had
          | some p =>
            simp [hp] at had
            subst had
            obtain ⟨vs, h1, h2⟩ := hR.hb b _ p hg hp
            unfold size? at hsz
            cases hi : P.info? t with
            | none => simp [hi] at hsz
            | some i =>
              simp [hi] at hsz
              refine ⟨_, _, Lib.run_to_unsafe (P := P) w ⟨p.blk, off, none⟩ hs hd hi (by omega) (e := T) (cells := vs.length) (by simp [World.shape?, h2]) (by rw [← h1.length]; exact hlt), hk, hx⟩
        · exact hk.elim
      · exact hk.elim
    · exact hk.elim
  · rename_i u hs hd
    split at hk
    · rename_i b off
      obtain ⟨ad, had, rfl⟩ := ptr_R hx
      split at hk
      · rename_i T cs sz hg hsz
        rw [get?_eq] at hg
        split at hk
        · rename_i hlies
          rw [len'_eq] at hlies
          unfold addrOf at had
          cases hp : pl[b]? with
          | none => simp [hp] at had
          | some p =>
            simp [hp] at had
            subst had
            obtain ⟨vs, h1, h2⟩ := hR.hb b _ p hg hp
            unfold size? at hsz
            cases hi : P.info? u with
            | none => simp [hi] at hsz
            | some i =>
              refine ⟨_, _, Lib.run_from_unsafe (P := P) w ⟨p.blk, off, none⟩ hs hd hi (e := T) (cells := vs.length) (by simp [World.shape?, h2]) (by rw [← h1.length]; exact hlies), hk, hx⟩
        · exact hk.elim
      · exact hk.elim
    · exact hk.elim
  · exact hk.elim
theorem sliceDataX_sound [Glob] (hR : HRel w0 Sx pl h w) {ts : Array TypeId} {ty : TypeId} {x : AV} {v : Value} (hx : x.R pl v) {K : KV} (hk : sliceDataX h x K) :
    ∃ u av, (Builtin.unsafeSliceData_ ts ty #[v]).run P w = .ok u w ∧ K av h ∧ av.R pl u := by
  unfold sliceDataX at hk
  split at hk
  · rw [nils_R hx]
    exact ⟨_, _, Lib.run_unsafeSliceData_nil w ts ty 0 0, hk, .inr rfl⟩
  · rename_i b z n lit
    split at hk
    · obtain ⟨p, hp, hpc⟩ := ow_R hx (.inr rfl)
      have go : ∀ {m : Nat} {vs : List Value} {T z' : Nat}, 0 < n → n ≤ m → w.ownsRowZ 0 T z' (p.sv m) m vs → K (.v (.one (.ptr b 0))) h → ∃ u av, (Builtin.unsafeSliceData_ ts ty #[v]).run P w = .ok u w ∧ K av h ∧ av.R pl u := by
        intro m vs T z' h0 hle ho hK
        rcases hpc with ⟨_, _, h2, _⟩ | ⟨hn, h5⟩
        · omega
        · subst h5
          have hcap : m ≤ p.cap := by
            rcases ho.2 with ⟨h1, _⟩ | ⟨g, cap, cur, h1, _, _, h3, _⟩
            · simp [Pl.sv, hn] at h1
            · simp only [Pl.sv, hn, Bool.false_eq_true, if_false, Value.slice.injEq] at h1
              omega
          refine ⟨_, _, Lib.run_unsafeSliceData_row w ts ty _ n (p.cap - 0) (by omega), hK, .inr ?_⟩
          simp [SV.val, addrOf, hp]
      split at hk
      · rename_i T z3 n3 cs hg
        rw [get?_eq] at hg
        split at hk
        · rename_i hc
          simp only [Bool.and_eq_true, decide_eq_true_eq] at hc
          obtain ⟨vs, h1, h2⟩ := hR.hb b _ p hg hp
          exact go hc.1 hc.2 h2 hk
        · exact hk.elim
      · rename_i T C xs hg
        rw [get?_eq] at hg
        split at hk
        · exact hk.elim
        · obtain ⟨vs, h1, h2⟩ := hR.hb b _ p hg hp
          exact go hk.1.1 hk.1.2 h2 hk.2
      · exact hk.elim
    · exact hk.elim
  · exact hk.elim
theorem grown_freeze (w : World) (a : Addr) (n : Nat) : w.grownBy (w.freeze a n) (some a.block) := by
  unfold World.freeze
  split
  · exact ⟨rfl, rfl, rfl, Nat.le_refl _, fun _ _ _ => rfl⟩
  · refine ⟨rfl, rfl, rfl, by simp, fun k _ hk => ?_⟩
    simp only [Array.getElem?_modify]
    rw [if_neg (fun e => hk (by rw [e]))]
theorem strDataX_sound [Glob] (hR : HRel w0 Sx pl h w) {ts : List Nat} {ty : TypeId} {l : List AV} {vs : List Value} (hl : ArgsR pl l vs) {K : KV} (hk : strDataX P ts l h K) :
    ∃ u w' av h', (Builtin.unsafeString_ ts.toArray ty vs.toArray).run P w = .ok u w' ∧ K av h' ∧ av.R pl u ∧ HRel w0 Sx pl h' w' := by
  unfold strDataX at hk
  split at hk
  · rename_i t1 t2 n
    match vs, hl with
    | [v1, v2], hl =>
      split at hk
      · rename_i hn
        have hn := of_decide_eq_true hn
        subst hn
        have e1 := nilp_R hl.1
        have e2 := con1 hl.2.1
        subst e1 e2
        exact ⟨_, _, _, _, Lib.run_unsafeString_none w t1 t2 ty none, hk, .inr rfl, hR⟩
      · exact hk.elim
    | [], hl => exact hl.elim
    | [_], hl => exact hl.2.elim
    | _ :: _ :: _ :: _, hl => exact hl.2.2.elim
  · rename_i t1 t2 b y
    match vs, hl with
    | [v1, v2], hl =>
      obtain ⟨ad, had, rfl⟩ := ptr_R hl.1
      have go : ∀ {e : Nat} {s : List UInt8} {x0 : Blk} {p : Pl} {m : Nat}, P.underlying t1 = some (.pointer e) → P.cellsOf e = 1 → pl[b]? = some p → h[b]? = some x0 → (p.nil = false → x0.alive p = true) → w.ownsRowZ 0 e 1 (p.sv m) m (byteV s) → v2 = .int .i64 (s.length : Int) → 0 < s.length → s.length ≤ 9223372036854775807 →
          (Builtin.unsafeString_ #[t1, t2] ty #[.pointer (some ad), v2]).run P w = .ok (.string ⟨s.toArray⟩) (w.freeze ⟨p.blk, 0, none⟩ s.length) ∧ HRel w0 Sx pl (AM.set h b .gone) (w.freeze ⟨p.blk, 0, none⟩ s.length) := by
        intro e s x0 p m hu hce hp hg hal ho hv h0 h63
        have hbl : (byteV s).length = s.length := by simp [byteV]
        have hn := own_nonnil ho (by rw [hbl]; exact h0)
        have had' : ad = ⟨p.blk, 0, none⟩ := by simpa [addrOf, hp] using had.symm
        subst had' hv
        rcases ho.2 with ⟨h1, _⟩ | ⟨g, cap, cur, h1, _, ⟨fz, h2, _⟩, h3, h4, h5, h6⟩
        · simp [Pl.sv, hn] at h1
        · simp only [Pl.sv, hn, Bool.false_eq_true, if_false, Value.slice.injEq, Option.some.injEq, Addr.mk.injEq] at h1
          obtain ⟨⟨rfl, _⟩, _, rfl⟩ := h1
          refine ⟨Lib.run_unsafeString_row w t1 t2 ty e hu hce p.blk cur.size (by simp [World.shape?, h2]) s (fun e => by rw [e] at h0; simp at h0) (by have := ho.1; rw [hbl] at this; omega) h63 (fun j x hj => ?_), ?_⟩
          · have := ho.cells (g := p.blk) (by simp [Pl.sv, hn, Value.ownBlock]) j (.int .u8 x.toNat) (by simp [byteV, hj])
            exact this
          · exact hR.updG hp hg (hal hn) (grown_freeze w ⟨p.blk, 0, none⟩ s.length) trivial (hdr := fun _ => Nat.le_of_eq (freeze_drawn _ _ _).symm)
      have hbp : ∀ {x0 : Blk}, h[b]? = some x0 → ∃ p, pl[b]? = some p := fun hg => by
        have hlt : b < pl.length := by rw [hR.len]; exact (List.getElem?_eq_some_iff.1 hg).1
        exact ⟨_, List.getElem?_eq_getElem hlt⟩
      split at hk
      · rename_i e T z n cs m hu hg hm
        rw [get?_eq] at hg
        split at hk
        · rename_i hc
          simp only [Bool.and_eq_true, decide_eq_true_eq] at hc
          obtain ⟨⟨⟨⟨⟨rfl, rfl⟩, hce⟩, h0⟩, rfl⟩, hle⟩ := hc
          split at hk
          · rename_i s hd
            obtain ⟨p, hp⟩ := hbp hg
            obtain ⟨us, h1, h2⟩ := hR.hb b _ p hg hp
            obtain ⟨k1, k2⟩ := decAll_R hd h1 (by rw [h2.1]; rfl)
            have := byC_vals k1
            subst this
            have hv := i64_R hm (v := v2) hl.2.1
            obtain ⟨g1, g2⟩ := go hu hce hp hg (fun hn => by simp [Blk.alive, hn]) h2 (by rw [hv]; exact congrArg (fun z : Nat => Value.int .i64 (z : Int)) k2.symm) (by have h9 : @List.length UInt8 s = n := k2; rw [h9]; exact h0) (by have h9 : @List.length UInt8 s = n := k2; rw [h9]; omega)
            exact ⟨_, _, _, _, g1, hk, .inr rfl, g2⟩
          · exact hk.elim
        · exact hk.elim
      · rename_i e T C xs m hu hg hm
        rw [get?_eq] at hg
        split at hk
        · rename_i hc
          simp only [Bool.and_eq_true, decide_eq_true_eq] at hc
          obtain ⟨⟨rfl, hCe⟩, hce⟩ := hc
          obtain ⟨s, hsr, ⟨rfl, h0, h63⟩, hk⟩ := hk
          obtain ⟨p, hp⟩ := hbp hg
          obtain ⟨us, h1, h2⟩ := hR.hb b _ p hg hp
          have := byC_vals (same_R hsr h1)
          subst this
          rw [hCe] at h2
          obtain ⟨g1, g2⟩ := go hu hce hp hg (fun hn => by simp [Blk.alive, hn]) h2 (i64_R hm (v := v2) hl.2.1) h0 h63
          exact ⟨_, _, _, _, g1, hk, .inr rfl, g2⟩
        · exact hk.elim
      · exact hk.elim
    | [], hl => exact hl.elim
    | [_], hl => exact hl.2.elim
    | _ :: _ :: _ :: _, hl => exact hl.2.2.elim
  · exact hk.elim
theorem freeze_cells {w : World} {g : Nat} {cur : Array Value} {e : TypeId} {fz : Nat × Nat} (hg : w.heap[g]? = some (.cells cur e fz)) (hz : offEnd fz cur.size) : ∃ fz', (w.freeze ⟨g, cur.size, none⟩ 1).heap[g]? = some (.cells cur e fz') ∧ offEnd fz' cur.size := by
  obtain ⟨lo, hi⟩ := fz
  refine ⟨if lo == hi then (cur.size, cur.size + 1) else (min lo cur.size, max hi (cur.size + 1)), ?_, ?_⟩
  · simp [World.freeze, Array.getElem?_modify, hg]
  · split
    · exact .inr (Nat.le_refl _)
    · rename_i hne
      rcases hz with h | h
      · exact absurd (by simpa using h) hne
      · right
        simp only at h ⊢
        omega
theorem run_convert_mark {src e : TypeId} (hs : P.underlying src = some (.slice e)) (he : P.underlying e = some (.int .u8)) (a : Addr) (n c cs : Nat) {T : TypeId} (hsh : w.shape? a.block = some (T, cs)) :
    (convert src src (.slice (some a) n c)).run P w = .ok (.slice (some a) n c) (w.freeze ⟨a.block, cs, none⟩ 1) := by
  simp [convert, run_underlying hs, run_underlying he, markStringish, hsh]
theorem convB_sound [Glob] (hR : HRel w0 Sx pl h w) {s d : TypeId} {x : AV} {v : Value} (hx : x.R pl v) {K : KV} (hk : convB P s d x h K) :
    ∃ u av h' pl' w', (convert s d v).run P w = .ok u w' ∧ K av h' ∧ av.R pl' u ∧ PExt pl pl' ∧ HRel w0 Sx pl' h' w' := by
  unfold convB at hk
  split at hk
  · rename_i e hs hd
    split at hk
    · rename_i hc
      simp only [Bool.and_eq_true] at hc
      have he : P.underlying e = some (.int .u8) := by
        have := hc.2
        unfold u8T at this
        split at this
        · assumption
        · cases this
      split at hk
      · rename_i lit ys hl
        have hv := litStr_R hl hx
        subst hv
        have hsz : (ByteArray.mk ys.toArray).size = ys.length := by simp [ByteArray.size]
        have hrun := Lib.run_convert_string_bytes (P := P) w s d e ⟨ys.toArray⟩ hs hd he
        have hgr : w.grownBy (Lib.bytesWorld w e ⟨ys.toArray⟩) none := ⟨rfl, rfl, rfl, by rw [Lib.bytesWorld_size]; omega, fun k hk _ => Lib.bytesWorld_at_old w _ _ k hk⟩
        have fin : ∀ {x' : Blk} {lit : Bool}, ys.length ≤ 140737488355328 → (∀ q, x'.alive q = !q.nil) → (∀ q, x'.rd q = false) → (∀ (q : Pl) (w' : World), w'.ownsRowZ 0 e 1 (q.sv ys.length) ys.length (byteV ys) → BlkR (pl ++ [q]) w' x' q) →
            K (.v (.one (.ow (len' h) 1 0 ys.length lit))) (h ++ [x']) → ∃ u av h' pl' w', (convert s d (.string ⟨ys.toArray⟩)).run P w = .ok u w' ∧ K av h' ∧ av.R pl' u ∧ PExt pl pl' ∧ HRel w0 Sx pl' h' w' := by
          intro x' lit hlen hal hrd hx' hK
          have hge := grownCap_ge w ys.length 0 e
          have hle := grownCap_le_maxLen w ys.length 0 e (by simp only [maxLen]; omega)
          have hcs : (Lib.bytesCells w e ⟨ys.toArray⟩).size = grownCap w ys.length 0 e := by
            simp only [Lib.bytesCells, hsz, Array.size_append, Array.size_map, Array.size_replicate, List.size_toArray]
            omega
          have hF := hR.fresh (hdr := fun _ => run_drawn _ _ _ _ hrun) (x' := x') (p' := ⟨w.heap.size, false, grownCap w ys.length 0 e⟩) (hR.fr.grown hgr (by simp)) hgr.size (fun b p x hp hx ha => hgr.block _ (hR.lt b p x hp hx ha) (by simp))
            (hx' _ _ ⟨by simp [byteV], .inr ⟨w.heap.size, grownCap w ys.length 0 e, _, by simp [Pl.sv], Nat.zero_le _, ⟨_, Lib.bytesWorld_at_new w e _, .inr (Nat.le_refl _)⟩, hge, hle, by rw [hcs, Nat.mul_one], by
              rw [Nat.mul_one]
              have e1 : ((Array.map (fun b => Value.int .u8 (UInt8.toNat b : Nat)) ys.toArray).toList) = byteV ys := by simp [byteV]
              have e2 : (byteV ys).length = ys.length := by simp [byteV]
              simp only [Lib.bytesCells, Array.toList_append, e1]
              rw [← e2, List.take_left]⟩⟩)
            (fun _ => ⟨by rw [Lib.bytesWorld_size]; exact Nat.lt_succ_self _, .inl hR.fr.size, fun b p x hp hx ha => by have := hR.lt b p x hp hx ha; simp only; omega⟩)
            (fun h => by rw [hrd] at h; cases h)
          rw [len'_eq, ← hR.len] at hK
          refine ⟨_, _, _, _, _, hrun, hK, .inr ?_, hF.2, hF.1⟩
          simp [SV.val, owVal, hsz]
        split at hk
        · split at hk
          · rename_i hlen
            have hlen := of_decide_eq_true hlen
            rw [len'_eq ys] at hlen hk
            exact fin (x' := .ownL e 1 ys.length (bytesL ys)) (lit := true) (by omega) (fun q => rfl) (fun q => rfl) (fun q w' ho => ⟨byteV ys, bytesL_R ys, ho⟩) hk
          · exact hk.elim
        · exact fin (x' := .own e byC ys) (lit := false) hk.1 (fun q => rfl) (fun q => rfl) (fun q w' ho => ⟨byteV ys, byC_R ys, ho⟩) hk.2
      · exact hk.elim
    · exact hk.elim
  · rename_i e0 e hs hd
    split at hk
    · rename_i hc
      simp only [Bool.and_eq_true, decide_eq_true_eq] at hc
      obtain ⟨rfl, hu⟩ := hc
      have he : P.underlying e = some (.int .u8) := by
        unfold u8T at hu
        split at hu
        · assumption
        · cases hu
      split at hk
      · rename_i b n l
        split at hk
        · rename_i T m cs hg
          rw [get?_eq] at hg
          split at hk
          · rename_i hc2
            simp only [Bool.and_eq_true, decide_eq_true_eq] at hc2
            obtain ⟨hn0, hm0⟩ := hc2
            obtain ⟨p, hp, hpc⟩ := ow_R hx (.inr rfl)
            obtain ⟨vs, hvs, ho⟩ := hR.hb b _ p hg hp
            have hn := own_nonnil ho (by rw [ho.1]; omega)
            rcases hpc with ⟨h1, _⟩ | ⟨_, h3⟩
            · rw [hn] at h1; cases h1
            · rcases ho.2 with ⟨h1, _⟩ | ⟨g, cap, cur, h1, _, ⟨fz, h2, hz⟩, hrest⟩
              · simp [Pl.sv, hn] at h1
              · have hbk : g = p.blk ∧ cap = p.cap := by
                  simp only [Pl.sv, hn, Bool.false_eq_true, if_false, Value.slice.injEq, Option.some.injEq, Addr.mk.injEq] at h1
                  exact ⟨h1.1.1.symm, h1.2.2.symm⟩
                obtain ⟨rfl, rfl⟩ := hbk
                obtain ⟨fz', k1, k2⟩ := freeze_cells h2 hz
                have hsh : w.shape? p.blk = some (T, cur.size) := by simp [World.shape?, h2]
                subst h3
                refine ⟨_, _, _, pl, _, run_convert_mark (P := P) hd he _ _ _ cur.size hsh, hk, hx, PExt.refl pl, hR.updG hp hg (by simp [Blk.alive, hn]) (grown_freeze w ⟨p.blk, cur.size, none⟩ 1) ⟨vs, hvs, ho.1, .inr ⟨p.blk, p.cap, cur, h1, Nat.zero_le _, ⟨fz', k1, k2⟩, hrest⟩⟩⟩
          · exact hk.elim
        · exact hk.elim
      · exact hk.elim
    · exact hk.elim
  · exact hk.elim
theorem aop2_sound [Glob] (hR : HRel w0 Sx pl h w) {a : Act} (o : Oper) {op : Op} (ho : o.op = op) {l : List AV} (hl : ArgsR pl l (op.operands.toList.map a.eval)) {K : KV} (hk : aop2 P h op l K) :
    ∃ v w' av h', (execOp a.eval o).run P w = .ok (.value v) w' ∧ K av h' ∧ av.R pl v ∧ HRel w0 Sx pl h' w' := by
  unfold aop2 at hk
  split at hk
  · rename_i s d y x
    obtain ⟨u, av, g1, g2, g3⟩ := convX_sound (P := P) hR (v := a.eval y) hl.1 hk
    refine ⟨u, w, av, h, ?_, g2, g3, hR⟩
    unfold execOp
    simp [ho, g1]
  · rename_i args ts x
    have e : (Op.call { callee := .builtin .unsafeSliceData, args := args, argTypes := ts }).operands.toList = args.toList := by simp [Op.operands, Call.operands]
    rw [e] at hl
    match hA : args.toList, hl with
    | [y], hl =>
      have hargs' : args = #[y] := by rw [← Array.toArray_toList (xs := args), hA]
      obtain ⟨u, av, g1, g2, g3⟩ := sliceDataX_sound (P := P) hR (ts := ts) (ty := o.type) (v := a.eval y) hl.1 hk
      refine ⟨u, w, av, h, ?_, g2, g3, hR⟩
      unfold execOp
      simp [ho, resolve, invoke, builtin, hargs', g1]
    | [], hl => exact hl.elim
    | _ :: _ :: _, hl => exact hl.2.elim
  · rename_i args ts
    have e : (Op.call { callee := .builtin .unsafeString, args := args, argTypes := ts }).operands.toList = args.toList := by simp [Op.operands, Call.operands]
    rw [e] at hl
    obtain ⟨u, w', av, h', g1, g2, g3, g4⟩ := strDataX_sound (P := P) hR (ty := o.type) hl hk
    refine ⟨u, w', av, h', ?_, g2, g3, g4⟩
    rw [show (List.map a.eval args.toList).toArray = args.map a.eval from by apply Array.ext'; simp, Array.toArray_toList] at g1
    unfold execOp
    simp [ho, resolve, invoke, builtin, g1]
  · exact hk.elim
end
end Go.AM

import Derived.Test.YtbehdodaaobcdaaGreatDoorA07
import Derived.Lib.OthersKept
import Derived.Laws.RangeString
import Derived.Laws.CopyRow
import Derived.Great.BuildSlice
import Derived.Laws.MakeOwn
set_option maxHeartbeats 4000000
namespace Go.AM
open Go
section
variable {P : Program} {w0 : World} {Sx : Marks} {pl : List Pl} {h : Heap} {w : World}

theorem EntR.ext {pl pl' : List Pl} (hp : PExt pl pl') : ∀ {es : List (PV × PV)} {ms : List MapEntry}, EntR pl es ms → EntR pl' es ms
  | [], [], _ => trivial
  | [], _ :: _, h => h.elim
  | _ :: _, [], h => h.elim
  | _ :: _, _ :: _, h => ⟨h.1.ext hp, h.2.1.ext hp, EntR.ext hp h.2.2⟩
theorem BlkR.mono {pl pl' : List Pl} {w w' : World} {x : Blk} {p : Pl} (hp : PExt pl pl') (hc : x.alive p = true → w'.heap[p.blk]? = w.heap[p.blk]?) (hd : x.rd p = true → w'.heap[p.blk]? = w.heap[p.blk]?) (hb : BlkR pl w x p) : BlkR pl' w' x p := by
  have own : ∀ {T z m n : Nat} {vs : List Value}, ((!p.nil) = true → w'.heap[p.blk]? = w.heap[p.blk]?) → w.ownsRowZ 0 T z (p.sv m) n vs → w'.ownsRowZ 0 T z (p.sv m) n vs := by
    intro T z m n vs hc h
    refine ⟨h.1, ?_⟩
    rcases h.2 with hn | ⟨g, cap, cur, hv, h1, h2, h3⟩
    · exact .inl hn
    · refine .inr ⟨g, cap, cur, hv, h1, ?_, h3⟩
      unfold Pl.sv at hv
      split at hv
      · cases hv
      · rename_i hn
        simp only [Value.slice.injEq, Option.some.injEq, Addr.mk.injEq] at hv
        rw [← hv.1.1, hc (by simpa using hn), hv.1.1]
        exact h2
  cases x with
  | gone => trivial
  | row T cs =>
    obtain ⟨vs, h1, h2⟩ := hb
    exact ⟨vs, h1.ext hp, by rw [hc rfl]; exact h2⟩
  | own T C xs =>
    obtain ⟨vs, h1, h2⟩ := hb
    exact ⟨vs, h1.ext hp, own hc h2⟩
  | ownL T z n cs =>
    obtain ⟨vs, h1, h2⟩ := hb
    exact ⟨vs, h1.ext hp, own hc h2⟩
  | mp es =>
    obtain ⟨ms, clock, h1, h2⟩ := hb
    exact ⟨ms, clock, h1.ext hp, by rw [hc rfl]; exact h2⟩
  | omp C es =>
    obtain ⟨ms, clock, h1, h2⟩ := hb
    exact ⟨ms, clock, h1.ext hp, by rw [hc rfl]; exact h2⟩
  | sit c s n =>
    have h1 : w.heap[p.blk]? = _ := hb
    exact (hc rfl).trans h1
  | lp e ps asg body j =>
    obtain ⟨fn, tmps, D, h1, h2⟩ := hb
    exact ⟨fn, tmps, D, h1.ext hp, by rw [hc rfl]; exact h2⟩
  | ro T C xs =>
    obtain ⟨vs, h1, h2, h3⟩ := hb
    refine ⟨vs, h1.ext hp, h2, fun j v hj => ?_⟩
    cases hn : p.nil with
    | true =>
      rw [h2 hn] at h1
      cases vs with
      | nil => simp at hj
      | cons _ _ => exact h1.elim
    | false =>
      have := h3 j v hj
      simp only [World.cell?] at this ⊢
      rw [hd (by simp [Blk.rd, hn])]
      exact this

theorem HRel.rdk [Glob] (hR : HRel w0 Sx pl h w) {w' : World} (hfr : Fr w0 Sx.S w') {b : Nat} {p : Pl} {x : Blk} (hp : pl[b]? = some p) (hx : h[b]? = some x) (hd : x.rd p = true) : w'.heap[p.blk]? = w.heap[p.blk]? := by
  obtain ⟨h1, h2⟩ := hR.rok.1 _ (hR.ro b p x hp hx hd)
  rw [hfr.block _ h1 h2, hR.fr.block _ h1 h2]
theorem Fr.grown {w' : World} {row : Option Nat} (h : Fr w0 Sx.S w) (hg : w.grownBy w' row) (hrow : ∀ k, row = some k → w0.heap.size ≤ k ∨ Sx k) : Fr w0 Sx.S w' :=
  ⟨hg.os.trans h.os, hg.tape.trans h.tape, hg.output.trans h.output, Nat.le_trans h.size hg.size, fun k hk hS => by
    rw [hg.block k (Nat.lt_of_lt_of_le hk h.size) (fun e => by rcases hrow k e.symm with h1 | h1; omega; exact hS h1)]
    exact h.block k hk hS⟩
theorem get_set_same {α : Type _} {l : List α} {b : Nat} {x y : α} (h : l[b]? = some x) : (AM.set l b y)[b]? = some y := by
  rw [set_eq, List.getElem?_set]
  simp [(List.getElem?_eq_some_iff.1 h).1]
theorem get_set_other {α : Type _} {l : List α} {b c : Nat} {y : α} (h : b ≠ c) : (AM.set l b y)[c]? = l[c]? := by
  rw [set_eq, List.getElem?_set]
  simp [h]
theorem HRel.forget [Glob] (hR : HRel w0 Sx pl h w) (b : Nat) : HRel w0 Sx pl (AM.set h b .gone) w := by
  have key : ∀ (c : Nat) x p, (AM.set h b .gone)[c]? = some x → x.alive p = true → h[c]? = some x ∧ b ≠ c := fun c x p hx ha => by
    by_cases e : b = c
    · subst e
      rw [set_eq, List.getElem?_set] at hx
      simp only [if_true] at hx
      split at hx
      · cases hx; cases ha
      · cases hx
    · rw [get_set_other e] at hx; exact ⟨hx, e⟩
  refine ⟨by simp [set_eq, hR.len], hR.fr, fun c x p hx hp => ?_, fun c p x hp hx ha => hR.lt c p x hp (key c x p hx ha).1 ha, fun c p x hp hx ha => hR.own c p x hp (key c x p hx ha).1 ha,
    fun c d p q x y hp hq hx hy ha hya e => hR.inj c d p q x y hp hq (key c x p hx ha).1 (key d y q hy hya).1 ha hya e, fun c p x hp hx hd => ?_, hR.rok, hR.drw⟩
  rotate_left
  · by_cases e : b = c
    · subst e
      rw [set_eq, List.getElem?_set] at hx
      simp only [if_true] at hx
      split at hx
      · cases hx; cases hd
      · cases hx
    · rw [get_set_other e] at hx; exact hR.ro c p x hp hx hd
  by_cases e : b = c
  · subst e
    rw [set_eq, List.getElem?_set] at hx
    simp only [if_true] at hx
    split at hx
    · cases hx; trivial
    · cases hx
  · rw [get_set_other e] at hx; exact hR.hb c x p hx hp
theorem HRel.fresh [Glob] (hR : HRel w0 Sx pl h w) {w' : World} (hfr : Fr w0 Sx.S w') (hsz : w.heap.size ≤ w'.heap.size)
    (hkeep : ∀ (b : Nat) p x, pl[b]? = some p → h[b]? = some x → x.alive p = true → w'.heap[p.blk]? = w.heap[p.blk]?) {x' : Blk} {p' : Pl} (hx' : BlkR (pl ++ [p']) w' x' p')
    (hlive : x'.alive p' = true → p'.blk < w'.heap.size ∧ (w0.heap.size ≤ p'.blk ∨ Sx p'.blk) ∧ ∀ (b : Nat) p x, pl[b]? = some p → h[b]? = some x → x.alive p = true → p.blk ≠ p'.blk) (hrd : x'.rd p' = true → Sx.R p'.blk := by exact fun h => nomatch h) (hdr : Glob.dr → w.drawn ≤ w'.drawn := by exact fun _ => Nat.le_refl _) :
    HRel w0 Sx (pl ++ [p']) (h ++ [x']) w' ∧ PExt pl (pl ++ [p']) := by
  have hp : PExt pl (pl ++ [p']) := PExt.push pl _
  have hlen := hR.len
  have cases_ : ∀ (b : Nat) p x, (pl ++ [p'])[b]? = some p → (h ++ [x'])[b]? = some x → (pl[b]? = some p ∧ h[b]? = some x) ∨ (b = pl.length ∧ p = p' ∧ x = x') := fun b p x hb hx => by
    by_cases hlt : b < pl.length
    · rw [List.getElem?_append_left hlt] at hb
      rw [List.getElem?_append_left (by omega)] at hx
      exact .inl ⟨hb, hx⟩
    · rw [List.getElem?_append_right (by omega)] at hb
      rw [List.getElem?_append_right (by omega)] at hx
      have : b - pl.length = 0 := by
        rcases Nat.eq_zero_or_pos (b - pl.length) with h0 | h0
        · exact h0
        · rw [List.getElem?_eq_none (by simp; omega)] at hb; cases hb
      rw [this] at hb
      rw [← hlen, this] at hx
      simp at hb hx
      exact .inr ⟨by omega, hb.symm, hx.symm⟩
  refine ⟨⟨by simp [hlen], hfr, ?_, ?_, ?_, ?_, ?_, hR.rok, fun d => Nat.le_trans (hR.drw d) (hdr d)⟩, hp⟩
  rotate_right
  · intro b p x hb hx hd
    rcases cases_ b p x hb hx with ⟨h1, h2⟩ | ⟨_, rfl, rfl⟩
    · exact hR.ro b p x h1 h2 hd
    · exact hrd hd
  · intro b x p hx hb
    rcases cases_ b p x hb hx with ⟨h1, h2⟩ | ⟨_, rfl, rfl⟩
    · exact (hR.hb b x p h2 h1).mono hp (hkeep b p x h1 h2) (hR.rdk hfr h1 h2)
    · exact hx'
  · intro b p x hb hx ha
    rcases cases_ b p x hb hx with ⟨h1, h2⟩ | ⟨_, rfl, rfl⟩
    · exact Nat.lt_of_lt_of_le (hR.lt b p x h1 h2 ha) hsz
    · exact (hlive ha).1
  · intro b p x hb hx ha
    rcases cases_ b p x hb hx with ⟨h1, h2⟩ | ⟨_, rfl, rfl⟩
    · exact hR.own b p x h1 h2 ha
    · exact (hlive ha).2.1
  · intro b c p q x y hb hc hx hy ha hya e
    rcases cases_ b p x hb hx with ⟨h1, h2⟩ | ⟨e1, rfl, rfl⟩ <;> rcases cases_ c q y hc hy with ⟨k1, k2⟩ | ⟨e2, rfl, rfl⟩
    · exact hR.inj b c p q x y h1 k1 h2 k2 ha hya e
    · exact absurd e ((hlive hya).2.2 b p x h1 h2 ha)
    · exact absurd e.symm ((hlive ha).2.2 c q y k1 k2 hya)
    · rw [e1, e2]
theorem HRel.push [Glob] (hR : HRel w0 Sx pl h w) {T : Nat} {cs : List SV} {vs : List Value} (hv : RL pl cs vs) :
    HRel w0 Sx (pl ++ [⟨w.heap.size, false, 0⟩]) (h ++ [.row T cs]) (w.alloc (.cells vs.toArray T)) ∧ PExt pl (pl ++ [⟨w.heap.size, false, 0⟩]) := by
  have hg := World.grownBy_alloc w (.cells vs.toArray T) none
  refine hR.fresh (hR.fr.grown hg (by simp)) hg.size (fun b p x hp hx ha => hg.block _ (hR.lt b p x hp hx ha) (by simp)) ?_ (fun _ => ⟨?_, .inl hR.fr.size, fun b p x hp hx ha => ?_⟩)
  · refine ⟨vs, hv.ext (PExt.push pl _), ?_⟩
    exact heap_alloc_new w _
  · show w.heap.size < (w.heap.push _).size
    simp
  · have := hR.lt b p x hp hx ha
    simp only; omega

theorem HRel.updG [Glob] (hR : HRel w0 Sx pl h w) {b : Nat} {p : Pl} {x x' : Blk} (hq : pl[b]? = some p) (hg : h[b]? = some x) (ha0 : x.alive p = true) {w' : World} (hgr : w.grownBy w' (some p.blk)) (hx' : BlkR pl w' x' p) (hrd : x'.rd p = false := by rfl) (hdr : Glob.dr → w.drawn ≤ w'.drawn := by exact fun _ => Nat.le_refl _) :
    HRel w0 Sx pl (AM.set h b x') w' := by
  have hlt : b < h.length := (List.getElem?_eq_some_iff.1 hg).1
  have hfr' := hR.fr.grown hgr (fun k hk => by cases hk; exact hR.own b p _ hq hg ha0)
  refine ⟨by simp [set_eq, hR.len], hfr', ?_, ?_, ?_, ?_, ?_, hR.rok, fun d => Nat.le_trans (hR.drw d) (hdr d)⟩
  rotate_right
  · intro c pc y hpc hx hd
    by_cases e : b = c
    · subst e
      rw [get_set_same hg] at hx
      cases hx
      rw [hq] at hpc
      cases hpc
      rw [hrd] at hd
      cases hd
    · rw [get_set_other e] at hx
      exact hR.ro c pc y hpc hx hd
  · intro c y pc hx hpc
    by_cases e : b = c
    · subst e
      rw [get_set_same hg] at hx
      cases hx
      rw [hq] at hpc
      cases hpc
      exact hx'
    · rw [get_set_other e] at hx
      exact (hR.hb c _ pc hx hpc).mono (PExt.refl pl) (fun ha => hgr.block _ (hR.lt c pc _ hpc hx ha) (fun e2 => e (hR.inj b c p pc _ _ hq hpc hg hx ha0 ha (Option.some.inj e2).symm))) (hR.rdk hfr' hpc hx)
  · intro c pc y hpc hx ha
    refine Nat.lt_of_lt_of_le ?_ hgr.size
    by_cases e : b = c
    · subst e; rw [hq] at hpc; cases hpc; exact hR.lt b p _ hq hg ha0
    · rw [get_set_other e] at hx; exact hR.lt c pc y hpc hx ha
  · intro c pc y hpc hx ha
    by_cases e : b = c
    · subst e; rw [hq] at hpc; cases hpc; exact hR.own b p _ hq hg ha0
    · rw [get_set_other e] at hx; exact hR.own c pc y hpc hx ha
  · intro c d pc pd y z hpc hpd hx hy ha hya e
    have key : ∀ (c : Nat) y pc, pl[c]? = some pc → (AM.set h b x')[c]? = some y → y.alive pc = true → ∃ z, h[c]? = some z ∧ z.alive pc = true := fun c y pc hpc hx ha => by
      by_cases e : b = c
      · subst e; rw [hq] at hpc; cases hpc; exact ⟨_, hg, ha0⟩
      · rw [get_set_other e] at hx; exact ⟨y, hx, ha⟩
    obtain ⟨y', hy', hay⟩ := key c y pc hpc hx ha
    obtain ⟨z', hz', haz⟩ := key d z pd hpd hy hya
    exact hR.inj c d pc pd y' z' hpc hpd hy' hz' hay haz e

theorem HRel.upd [Glob] (hR : HRel w0 Sx pl h w) {b : Nat} {p : Pl} {x x' : Blk} (hq : pl[b]? = some p) (hg : h[b]? = some x) (ha0 : x.alive p = true) {cur : Array Value} (hx' : BlkR pl (w.setRow p.blk cur) x' p) (hrd : x'.rd p = false := by rfl) :
    HRel w0 Sx pl (AM.set h b x') (w.setRow p.blk cur) :=
  hR.updG hq hg ha0 (hrd := hrd) ⟨rfl, rfl, rfl, by simp, fun k _ hk => setRow_other w p.blk k _ (fun e => hk (by rw [e]))⟩ hx'

theorem take_over {α : Type _} {l us : List α} {off n : Nat} (h : off + us.length ≤ n) (hn : n ≤ l.length) :
    (l.take off ++ us ++ l.drop (off + us.length)).take n = (l.take n).take off ++ us ++ (l.take n).drop (off + us.length) := by
  have e1 : (l.take off ++ us).length = off + us.length := by simp; omega
  rw [List.take_append, List.take_of_length_le (l := l.take off ++ us) (by omega), e1, List.take_take, Nat.min_eq_left (by omega), List.drop_take]
theorem own_nonnil {T z m n : Nat} {p : Pl} {vs : List Value} (h : w.ownsRowZ 0 T z (p.sv m) n vs) (hv : 0 < vs.length) : p.nil = false := by
  cases hn : p.nil with
  | false => rfl
  | true =>
    rcases h.2 with ⟨_, h0⟩ | ⟨g, cap, cur, hv, _⟩
    · have := h.1; rw [h0] at this; omega
    · simp [Pl.sv, hn] at hv
theorem own_store {T z m n : Nat} {p : Pl} {vs us : List Value} {off : Nat} (h : w.ownsRowZ 0 T z (p.sv m) n vs) (hle : off + us.length ≤ vs.length) (hpos : 0 < us.length) (hone : ∀ u ∈ us, u.oneCell' = true) :
    ∃ cur', (storeCells ⟨p.blk, off, none⟩ us).run P w = .ok () (w.setRow p.blk cur') ∧ (w.setRow p.blk cur').ownsRowZ 0 T z (p.sv m) n (vs.take off ++ us ++ vs.drop (off + us.length)) := by
  have hn := own_nonnil h (by omega)
  have hlen := h.1
  rcases h.2 with ⟨h1, _⟩ | ⟨g, cap, cur, hv, h1, ⟨fz, h2, hfz⟩, h3, h4, h5, h6⟩
  · simp [Pl.sv, hn] at h1
  · simp only [Pl.sv, hn, Bool.false_eq_true, if_false, Value.slice.injEq, Option.some.injEq, Addr.mk.injEq] at hv
    obtain ⟨⟨rfl, _⟩, hmn, rfl⟩ := hv
    have hcur : n * z ≤ cur.size := by rw [h5]; exact Nat.mul_le_mul_right _ h3
    have hst := run_storeCells_atZ P p.blk off T fz us 0 cur w h2 hfz (by omega) hone
    simp only [Nat.add_zero] at hst
    have hsz2 : ((cur.toList.take off ++ us ++ cur.toList.drop (off + us.length)).toArray).size = cur.size := by simp; omega
    refine ⟨_, hst, ⟨by simp; omega, .inr ⟨p.blk, p.cap, _, by simp [Pl.sv, hn, hmn], h1, ⟨fz, setRow_heap w p.blk cur _ T fz h2, by rw [hsz2]; exact hfz⟩, h3, h4, by rw [hsz2]; exact h5, ?_⟩⟩⟩
    have := take_over (l := cur.toList) (us := us) (off := off) (n := n * z) (by omega) (by simpa using hcur)
    simp only [List.append_assoc] at this ⊢
    rw [this, h6]
theorem flat_set {pl : List Pl} {C : Codec} {y : C.τ} : ∀ {xs : List C.τ} {vs us : List Value} {idx : Nat}, RL pl (flatC C xs) vs → idx < xs.length → RL pl (C.enc y) us →
    RL pl (flatC C (xs.set idx y)) (vs.take (idx * C.esz) ++ us ++ vs.drop (idx * C.esz + C.esz))
  | [], _, _, _, _, hi, _ => by simp at hi
  | t :: xs, vs, us, 0, h, _, hu => by
    have h2 := (RL.split h).2
    rw [C.len_ok] at h2
    simpa [flatC] using RL.append hu h2
  | t :: xs, vs, us, idx + 1, h, hi, hu => by
    have h1 := (RL.split h).1
    have h2 := (RL.split h).2
    rw [C.len_ok] at h1 h2
    have ih := RL.append h1 (flat_set (idx := idx) h2 (by simpa using hi) hu)
    have e : (idx + 1) * C.esz = C.esz + idx * C.esz := by rw [Nat.add_mul, Nat.one_mul, Nat.add_comm]
    rw [List.drop_drop, ← Nat.add_assoc, ← e] at ih
    have e2 : vs.take ((idx + 1) * C.esz) = vs.take C.esz ++ (vs.drop C.esz).take (idx * C.esz) := by rw [e, List.take_add]
    rw [e2]
    simpa [flatC, List.append_assoc] using ih
theorem splice {α : Type _} {vs us : List α} {o z sub : Nat} (h : sub + us.length ≤ z) (hz : o + z ≤ vs.length) :
    vs.take o ++ (((vs.drop o).take z).take sub ++ us ++ ((vs.drop o).take z).drop (sub + us.length)) ++ vs.drop (o + z) = vs.take (o + sub) ++ us ++ vs.drop (o + sub + us.length) := by
  have e1 : vs.take (o + sub) = vs.take o ++ ((vs.drop o).take z).take sub := by rw [List.take_take, Nat.min_eq_left (by omega), List.take_add]
  have e2 : vs.drop (o + sub + us.length) = ((vs.drop o).take z).drop (sub + us.length) ++ vs.drop (o + z) := by
    have e3 : vs.drop (o + z) = (vs.drop o).drop z := by rw [List.drop_drop]
    have e4 : vs.drop (o + sub + us.length) = (vs.drop o).drop (sub + us.length) := by rw [List.drop_drop, Nat.add_assoc]
    rw [e3, e4]
    generalize vs.drop o = l at *
    have : l.drop (sub + us.length) = (l.take z ++ l.drop z).drop (sub + us.length) := by rw [List.take_append_drop]
    rw [this, List.drop_append]
    have e5 : sub + us.length - (List.take z l).length = 0 ∨ l.length < z := by simp; omega
    rcases e5 with e5 | e5
    · rw [e5]; rfl
    · rw [List.drop_of_length_le (i := z) (by omega)]; simp
  rw [e1, e2]
  simp [List.append_assoc]

theorem HRel.store [Glob] (hR : HRel w0 Sx pl h w) {t b off : Nat} {p : PV} {h' : Heap} (hs : storeV P t h b off p = some h') {v : Value} (hv : p.R pl v) {ad : Addr} (had : addrOf pl b off = some ad) :
    ∃ w', (storeVar t ad v).run P w = .ok () w' ∧ HRel w0 Sx pl h' w' := by
  unfold storeV at hs
  cases hg : get? h b with
  | none => simp [hg] at hs
  | some x =>
    unfold addrOf at had
    cases hq : pl[b]? with
    | none => simp [hq] at had
    | some q =>
      simp [hq] at had
      subst had
      cases x with
      | gone => simp [hg] at hs
      | own T C xs => simp [hg] at hs
      | ro T C xs => simp [hg] at hs
      | omp C es => simp [hg] at hs
      | sit c s n => simp [hg] at hs
      | lp _ _ _ _ _ => simp [hg] at hs
      | mp es => simp [hg] at hs
      | row T cs =>
        simp only [hg] at hs
        split at hs
        · rename_i hk
          simp only [Bool.and_eq_true, decide_eq_true_eq] at hk
          obtain ⟨hk, hsize⟩ := hk
          cases ho : over cs off p.cells with
          | none => simp [ho] at hs
          | some cs' =>
            simp [ho] at hs
            subst hs
            rw [get?_eq] at hg
            obtain ⟨vs, h1, h2⟩ := hR.hb b _ q hg hq
            have ⟨hc, hone⟩ := PV.cells_R hk hv
            have ⟨ho1, ho2⟩ := over_spec h1 hc ho
            have hst := run_storeCells_at P q.blk off T v.cells.toList 0 vs.toArray w h2 (by simpa using ho2) hone
            simp only [Nat.add_zero, List.toList_toArray] at hst
            have hl := hc.length
            refine ⟨w.setRow q.blk (List.take off vs ++ v.cells.toList ++ List.drop (off + v.cells.toList.length) vs).toArray, ?_, ?_⟩
            · have hsz : v.cells.size = len' p.cells := by rw [len'_eq, hl]; simp
              unfold storeVar
              simp only [Sem.run_bind, run_size hsize, Result.andThen_ok]
              rw [if_neg (by simpa using hsz)]
              exact hst
            · exact hR.upd hq hg rfl ⟨_, ho1, setRow_heap w q.blk _ _ T (0, 0) h2⟩
        · cases hs
      | ownL T z n cs =>
        simp only [hg] at hs
        split at hs
        · rename_i hk
          simp only [Bool.and_eq_true, decide_eq_true_eq] at hk
          obtain ⟨⟨hk, hsize⟩, hpos⟩ := hk
          cases ho : over cs off p.cells with
          | none => simp [ho] at hs
          | some cs' =>
            simp [ho] at hs
            subst hs
            rw [get?_eq] at hg
            obtain ⟨vs, h1, h2⟩ := hR.hb b _ q hg hq
            have ⟨hc, hone⟩ := PV.cells_R hk hv
            have ⟨ho1, ho2⟩ := over_spec h1 hc ho
            have hl := hc.length
            have hsz : v.cells.size = len' p.cells := by rw [len'_eq, hl]; simp
            have hpos' : 0 < v.cells.toList.length := by rw [← hl, ← len'_eq]; exact hpos
            have hnn := own_nonnil h2 (by omega)
            obtain ⟨cur', g1, g2⟩ := own_store (P := P) h2 ho2 hpos' hone
            refine ⟨w.setRow q.blk cur', ?_, hR.upd hq hg (by simp [Blk.alive, hnn]) ⟨_, ho1, g2⟩⟩
            unfold storeVar
            simp only [Sem.run_bind, run_size hsize, Result.andThen_ok]
            rw [if_neg (by simpa using hsz)]
            exact g1
        · cases hs
theorem HRel.storeE [Glob] (hR : HRel w0 Sx pl h w) {t b z idx sub : Nat} {p : PV} {K : Heap → Prop} (hs : storeE P t h b z idx sub p K) {v : Value} (hv : p.R pl v) {ad : Addr} (had : addrOf pl b (idx * z + sub) = some ad) :
    ∃ w' h', (storeVar t ad v).run P w = .ok () w' ∧ HRel w0 Sx pl h' w' ∧ K h' := by
  unfold AM.storeE at hs
  unfold addrOf at had
  cases hq : pl[b]? with
  | none => simp [hq] at had
  | some q =>
    simp [hq] at had
    subst had
    split at hs
    · rename_i T C xs hg
      rw [get?_eq] at hg
      split at hs
      · rename_i hk
        simp only [Bool.and_eq_true, decide_eq_true_eq] at hk
        obtain ⟨⟨⟨hk, hz⟩, hsize⟩, hpos⟩ := hk
        subst hz
        split at hs
        · rename_i cs' ho
          split at hs
          · rename_i y hy
            obtain ⟨hi, hK⟩ := hs
            obtain ⟨vs, h1, h2⟩ := hR.hb b _ q hg hq
            have ⟨hc, hone⟩ := PV.cells_R hk hv
            have hseg := flat_get h1 hi
            have ⟨ho1, ho2⟩ := over_spec hseg hc ho
            have hl := hc.length
            have hsz : v.cells.size = len' p.cells := by rw [len'_eq, hl]; simp
            have hpos' : 0 < v.cells.toList.length := by rw [← hl, ← len'_eq]; exact hpos
            have hset := flat_set h1 hi (C.dec_ok _ _ _ _ hy ho1)
            have hvl : vs.length = xs.length * C.esz := by rw [← h1.length, flat_len]
            have hoz : idx * C.esz + C.esz ≤ vs.length := by
              rw [hvl, ← Nat.succ_mul]; exact Nat.mul_le_mul_right _ hi
            have hsub : sub + v.cells.toList.length ≤ C.esz := by simp at ho2 ⊢; omega
            rw [splice hsub hoz] at hset
            have hnn := own_nonnil h2 (by omega)
            obtain ⟨cur', g1, g2⟩ := own_store (P := P) h2 (off := idx * C.esz + sub) (us := v.cells.toList) (by omega) hpos' hone
            refine ⟨w.setRow q.blk cur', _, ?_, hR.upd hq hg (by simp [Blk.alive, hnn]) (x' := .own T C (xs.set idx y)) ⟨_, hset, by simpa using g2⟩, hK⟩
            unfold storeVar
            simp only [Sem.run_bind, run_size hsize, Result.andThen_ok]
            rw [if_neg (by simpa using hsz)]
            exact g1
          · exact hs.elim
        · exact hs.elim
      · exact hs.elim
    · exact hs.elim

theorem splitIx_pick {i : Int} {K : Nat → Prop} : ∀ {n : Nat}, splitIx i K n → 0 ≤ i → i < (n : Int) → K i.toNat
  | 0, _, h0, h1 => by omega
  | n + 1, hs, h0, h1 => by
    by_cases e : i = (n : Int)
    · have := hs.2 e
      rwa [show i.toNat = n by omega]
    · exact splitIx_pick hs.1 h0 (by omega)

theorem wp_of_run {o : Oper} {a : Act} {next : Act → World → Prop} {Q : Exit → Act → World → Prop} {v : Value} {w' : World} (hr : (execOp a.eval o).run P w = .ok (.value v) w') (hn : next (a.put o.dst v) w') : o.wp P a w next Q := by
  unfold Oper.wp
  rw [hr]
  exact hn

theorem repC_R {z : List SV} {zs : List Value} (hz : RL pl z zs) : ∀ n, RL pl (repC z n) (List.flatten (List.replicate n zs))
  | 0 => by simp [repC, RL]
  | n + 1 => by
    simp only [repC, app_eq, List.replicate_succ, List.flatten_cons]
    exact hz.append (repC_R hz n)
theorem repC_len {z : List SV} : ∀ n, (repC z n).length = n * z.length
  | 0 => by simp [repC]
  | n + 1 => by simp [repC, app_eq, repC_len n, Nat.add_mul, Nat.add_comm]
theorem over_len {α : Type _} : ∀ {n : Nat} {l ys r : List α}, over l n ys = some r → r.length = l.length
  | 0, l, [], r, h => by cases l <;> simp [over] at h <;> subst h <;> rfl
  | 0, [], y :: ys, _, h => by simp [over] at h
  | n + 1, [], _, _, h => by simp [over] at h
  | 0, s :: l, y :: ys, r, h => by
    simp only [over] at h
    cases ho : over l 0 ys with
    | none => simp [ho] at h
    | some r' => simp [ho] at h; subst h; simp [over_len ho]
  | n + 1, s :: l, ys, r, h => by
    simp only [over] at h
    cases ho : over l n ys with
    | none => simp [ho] at h
    | some r' => simp [ho] at h; subst h; simp [over_len ho]
theorem fillP_len {place : Nat → Option (Nat × Nat)} : ∀ {ps : List (Nat × PV)} {cells r : List SV}, fillP place cells ps = some r → r.length = cells.length
  | [], _, _, h => by simp [fillP] at h; subst h; rfl
  | (i, p) :: ps, cells, r, h => by
    simp only [fillP] at h
    cases hq : place i with
    | none => simp [hq] at h
    | some os =>
      simp only [hq] at h
      split at h
      · cases ho : over cells os.1 p.cells with
        | none => simp [ho] at h
        | some cs => simp only [ho] at h; rw [fillP_len h, over_len ho]
      · cases h
theorem zeros_eq (z : Array Value) : ∀ n, ((Array.range (n * z.size)).map (fun i => z[i % z.size]!)).toList = List.flatten (List.replicate n z.toList)
  | 0 => by simp
  | n + 1 => by
    have ih := zeros_eq z n
    rw [List.replicate_succ', List.flatten_append, ← ih]
    simp only [Array.toList_map, Array.toList_range, Nat.add_mul, Nat.one_mul, List.range_add, List.map_append, List.map_map, List.flatten_cons, List.flatten_nil, List.append_nil]
    congr 1
    apply List.ext_getElem
    · simp
    · intro j h1 h2
      simp only [List.getElem_map, List.getElem_range, Function.comp]
      simp at h1
      rw [Nat.mul_add_mod_self_right, Nat.mod_eq_of_lt h1]
      simp [h1]
theorem sliceV_sound [Glob] (hR : HRel w0 Sx pl h w) {t n : Nat} {parts : List (Nat × Operand)} {env : Env} {K : KV} {f : Nat × Operand → Nat × Value} (hE : ∀ ps, evParts env parts = some ps → PartsR pl ps (parts.map f))
    (hk : sliceV P t n (evParts env parts) h K) : ∃ w', (Instr.buildSlice t n (parts.map f).toArray).run P w = .ok (.slice (some ⟨w.heap.size, 0, none⟩) n n) w' ∧ ∃ av h' pl', K av h' ∧ av.R pl' (.slice (some ⟨w.heap.size, 0, none⟩) n n) ∧ PExt pl pl' ∧ HRel w0 Sx pl' h' w' := by
  unfold sliceV at hk
  split at hk
  · rename_i e ps hu hps
    split at hk
    · rename_i z sz hz hs
      split at hk
      · rename_i hlz
        split at hk
        · rename_i cs hf
          split at hk
          · rename_i hc
            simp only [Bool.and_eq_true, decide_eq_true_eq] at hc
            obtain ⟨hkn, hsmall⟩ := hc
            obtain ⟨i, v, hi, hv, rfl⟩ := zeroOf_spec hz
            have hsz := info_size hs
            rw [hi] at hsz
            simp at hsz
            have hzr := ofValue_cells (pl := pl) v
            have hzl : v.cells.size = sz + 1 := by rw [← hlz, len'_eq, hzr.length]; simp
            have hrep := repC_R hzr n
            obtain ⟨us, h1, h2⟩ := fill_sound (place' := fun i => some (i * (sz + 1), sz + 1)) (fun _ => rfl) (hE ps hps) hrep hf
            have hus : us.length = n * (sz + 1) := by rw [← h1.length, fillP_len hf, repC_len, hzr.length]; simp [hzl]
            have e0 : (Array.range (n * (sz + 1))).map (fun i => v.cells[i % v.cells.size]!) = (List.flatten (List.replicate n v.cells.toList)).toArray := by
              apply Array.ext'
              have := zeros_eq v.cells n
              rw [hzl] at this ⊢
              simpa using this
            have hrun : (Instr.buildSlice t n (parts.map f).toArray).run P w = .ok (.slice (some ⟨w.heap.size, 0, none⟩) n n) (w.alloc (.cells us.toArray e)) := by
              by_cases h0 : n = 0
              · subst h0
                simp at h2
                have e00 : Array.range 0 = #[] := rfl
                simp [Instr.buildSlice, run_underlying hu, run_size hs, h2, newRow, e00]
              · have hpos : ¬ n * i.size = 0 := by rw [hsz]; intro h; rcases Nat.mul_eq_zero.1 h with h | h <;> omega
                have := Go.run_buildSlice (P := P) w t e n (parts.map f).toArray us.toArray i v hu hi hv (by rw [hsz]; omega) hpos (by rw [hsz, e0]; simpa using h2)
                exact this
            have hg := World.grownBy_alloc w (.cells us.toArray e) none
            have hnew : (w.alloc (.cells us.toArray e)).heap[w.heap.size]? = some (.cells us.toArray e (0, 0)) := heap_alloc_new w _
            have hF := hR.fresh (p' := ⟨w.heap.size, false, n⟩) (x' := .ownL e (sz + 1) n cs) (hR.fr.grown hg (by simp)) hg.size (fun b p x hp hx ha => hg.block _ (hR.lt b p x hp hx ha) (by simp))
              ⟨us, h1.ext (PExt.push pl _), hus, .inr ⟨w.heap.size, n, us.toArray, by simp [Pl.sv], Nat.zero_le _, ⟨(0, 0), hnew, offEnd0 _⟩, Nat.le_refl _, ?_, by simpa using hus, by simp [List.take_of_length_le, hus]⟩⟩
              (fun _ => ⟨by show w.heap.size < (w.heap.push _).size; simp, .inl hR.fr.size, fun b p x hp hx ha => by have := hR.lt b p x hp hx ha; simp only; omega⟩)
            · refine ⟨_, hrun, _, _, _, hk, ?_, hF.2, hF.1⟩
              refine .inr ?_
              simp [SV.val, owVal, len'_eq, ← hR.len]
            · have : n ≤ n * (sz + 1) := Nat.le_mul_of_pos_right _ (Nat.succ_pos _)
              simp only [maxLen]; omega
          · exact hk.elim
        · exact hk.elim
      · exact hk.elim
    · exact hk.elim
  · exact hk.elim
theorem app_own {t e : Nat} {i : TypeInfo} {z : Value} {size bytes : Nat} (ht : P.underlying t = some (.slice e)) (hi : P.info? e = some i) (hz : i.zero = some z)
    (hsize : i.size = size) (hby : i.bytes = bytes) (hzs : z.cells.size = size) (hsz : 0 < size) {p : Pl} {n : Nat} {xs : List Value} (hown : w.ownsRowZ 0 e size (p.sv n) n xs)
    {ad : Addr} {m c : Nat} {news : List Value} (hl : news.length = m * size) (hnews : ∀ (j : Nat) u, news[j]? = some u → w.cell? (ad.add j) = some u) (h1 : ∀ u ∈ news, u.oneCell' = true) (hm : 0 < m)
    (h63 : n + m ≤ maxLen) (hbytes : (n + m) * bytes ≤ 140737488355328) :
    ∃ (p' : Pl) (w' : World), (∀ ty, (Builtin.append_ #[t, t] ty #[p.sv n, .slice (some ad) m c]).run P w = .ok (p'.sv (n + m)) w') ∧ p'.nil = false ∧ w'.ownsRowZ 0 e size (p'.sv (n + m)) (n + m) (xs ++ news) ∧
      w.grownBy w' (p.sv n).ownBlock ∧ ((p.nil = false ∧ p'.blk = p.blk) ∨ w.heap.size ≤ p'.blk) ∧ p'.blk < w'.heap.size := by
  have fin : ∀ (base : Nat), base ≤ w.heap.size → w.ownsRowZ base e size (p.sv n) n xs → ∃ (p' : Pl) (w' : World), (∀ ty, (Builtin.append_ #[t, t] ty #[p.sv n, .slice (some ad) m c]).run P w = .ok (p'.sv (n + m)) w') ∧ p'.nil = false ∧
      w'.ownsRowZ 0 e size (p'.sv (n + m)) (n + m) (xs ++ news) ∧ w.grownBy w' (p.sv n).ownBlock ∧ base ≤ p'.blk ∧ p'.blk < w'.heap.size := by
    intro base hb ho
    obtain ⟨v', w', g1, g2, g3, g4⟩ := run_append_ownZ (P := P) w base t 0 e i z size bytes ht hi hz hsize hby hzs hsz (p.sv n) n xs ho ad m c news hl hnews h1 h63 hbytes hb
    rcases g2.2 with ⟨hv, h0⟩ | ⟨g, cap, cur, hv, k1, k2, k3⟩
    · omega
    · refine ⟨⟨g, false, cap⟩, w', fun ty => ?_, rfl, ?_, g3, k1, (Array.getElem?_eq_some_iff.1 k2.choose_spec.1).1⟩
      · have : (Builtin.append_ #[t, t] ty #[p.sv n, .slice (some ad) m c]) = (Builtin.append_ #[t, t] 0 #[p.sv n, .slice (some ad) m c]) := rfl
        rw [this, g1, hv]
        simp [Pl.sv]
      · exact ⟨g2.1, .inr ⟨g, cap, cur, by simp [Pl.sv], Nat.zero_le _, k2, k3⟩⟩
  cases hn : p.nil with
  | true =>
    have ho : w.ownsRowZ w.heap.size e size (p.sv n) n xs := by
      refine ⟨hown.1, ?_⟩
      rcases hown.2 with h | ⟨g, cap, cur, hv, _⟩
      · exact .inl h
      · simp [Pl.sv, hn] at hv
    obtain ⟨p', w', g1, g2, g3, g4, g5, g6⟩ := fin w.heap.size (Nat.le_refl _) ho
    exact ⟨p', w', g1, g2, g3, g4, .inr g5, g6⟩
  | false =>
    obtain ⟨p', w', g1, g2, g3, g4, g5, g6⟩ := fin 0 (Nat.zero_le _) hown
    refine ⟨p', w', g1, g2, g3, g4, ?_, g6⟩
    rcases hown.2 with ⟨h, _⟩ | ⟨g, cap, cur, hv, _, ⟨fz, k2, kz⟩, k3, k4, k5, k6⟩
    · simp [Pl.sv, hn] at h
    · simp only [Pl.sv, hn, Bool.false_eq_true, if_false, Value.slice.injEq, Option.some.injEq, Addr.mk.injEq] at hv
      obtain ⟨⟨rfl, _⟩, _, rfl⟩ := hv
      have hr0 := g1 0
      have e1 : p.sv n = .slice (some ⟨p.blk, 0, none⟩) n p.cap := by simp [Pl.sv, hn]
      rw [e1] at hr0
      subst hsize hby
      have inj : ∀ {v1 v2 : Value} {w1 w2 : World}, (Result.ok v1 w1 : Result Value) = .ok v2 w2 → v1 = v2 := fun h => by injection h
      by_cases hroom : n + m ≤ p.cap
      · have hfit : n * i.size + news.length ≤ cur.size := by rw [hl, k5, ← Nat.add_mul]; exact Nat.mul_le_mul_right _ hroom
        have hr := run_append_roomZ (P := P) w t 0 e i ht hi p.blk n p.cap cur fz k2 kz ad m c news hl hnews h1 hroom hfit
        have := inj (hr0.symm.trans hr)
        simp [Pl.sv, g2] at this
        exact .inl ⟨rfl, this.1⟩
      · have holds : ∀ (j : Nat) u, xs[j]? = some u → w.cell? ((⟨p.blk, 0, none⟩ : Addr).add j) = some u := hown.cells (g := p.blk) (by simp [Pl.sv, hn, Value.ownBlock])
        have hr := run_append_grow (P := P) w t 0 e i z ht hi hz ⟨p.blk, 0, none⟩ n p.cap xs hown.1 holds ad m c news hl hnews (by omega) (by simp only [maxLen] at h63; omega) (growslice_fits (by omega) hbytes)
        have := inj (hr0.symm.trans hr)
        simp [Pl.sv, g2] at this
        exact .inr (by omega)
theorem decAll_R {C : Codec} : ∀ {m : Nat} {cs : List SV} {ys : List C.τ} {vs : List Value}, decAll C m cs = some ys → RL pl cs vs → vs.length = m * C.esz → RL pl (flatC C ys) vs ∧ ys.length = m
  | 0, cs, ys, vs, h, hv, hl => by
    simp [decAll] at h
    subst h
    have : vs = [] := List.eq_nil_of_length_eq_zero (by simpa using hl)
    subst this
    exact ⟨trivial, rfl⟩
  | m + 1, cs, ys, vs, h, hv, hl => by
    simp only [decAll] at h
    cases ht : takeE C.esz cs with
    | none => simp [ht] at h
    | some l =>
      cases hd : C.dec l with
      | none => simp [ht, hd] at h
      | some y =>
        cases hr : decAll C m (dropN C.esz cs) with
        | none => simp [ht, hd, hr] at h
        | some r =>
          simp [ht, hd, hr] at h
          subst h
          have ⟨h1, h2⟩ := RL.takeE hv ht
          have h3 := hv.drop C.esz
          have ih := decAll_R hr h3 (by rw [List.length_drop, hl, Nat.add_mul, Nat.one_mul]; omega)
          refine ⟨?_, by simp [ih.2]⟩
          have := RL.append (C.dec_ok _ _ _ _ hd h1) ih.1
          rwa [List.take_append_drop] at this
theorem flat_append {C : Codec} : ∀ (xs ys : List C.τ), flatC C (xs ++ ys) = flatC C xs ++ flatC C ys
  | [], _ => rfl
  | x :: xs, ys => by simp [flatC, flat_append xs ys]
theorem numEq_R : ∀ {l' l : List SV} {vs : List Value}, numEq l' l → RL pl l vs → RL pl l' vs
  | [], [], [], _, _ => trivial
  | [], [], _ :: _, _, h => h.elim
  | .sym k' n' :: l', .sym k n :: l, v :: vs, he, h => by
    obtain ⟨h1, h2⟩ := he
    split at h1
    · rename_i hk
      subst hk h1
      exact ⟨h.1, numEq_R h2 h.2⟩
    · exact h1.elim
  | .sym k' n' :: l', .con k n :: l, v :: vs, he, h => by
    obtain ⟨h1, h2⟩ := he
    split at h1
    · rename_i hk
      subst hk h1
      exact ⟨h.1.imp (fun h => by cases h) id, numEq_R h2 h.2⟩
    · exact h1.elim
  | .sym _ _ :: _, .sym _ _ :: _, [], _, h => h.elim
  | .sym _ _ :: _, .con _ _ :: _, [], _, h => h.elim
theorem num_R {C : Codec} {m : Nat} {cs : List SV} {ys : List C.τ} {vs : List Value} (h : SameNum C ys m cs) (hv : RL pl cs vs) : RL pl (flatC C ys) vs ∧ ys.length = m := by
  obtain ⟨hl, hf⟩ := h
  exact ⟨numEq_R hf hv, hl⟩
theorem appV_sound [Glob] {env : Env} {a : Act} {K : KV} (hE : EnvR pl env a.tmps) (hR : HRel w0 Sx pl h w) {args : Array Operand} {ts : Array Nat} (hk : appV P env args.toList ts.toList h K) :
    ∃ v av h' pl' w', (∀ ty, (Builtin.append_ ts ty (args.map a.eval)).run P w = .ok v w') ∧ K av h' ∧ av.R pl' v ∧ PExt pl pl' ∧ HRel w0 Sx pl' h' w' := by
  unfold appV at hk
  split at hk
  · rename_i s x t t' hargs hts
    have hargs' : args = #[s, x] := by rw [← Array.toArray_toList (xs := args), hargs]
    have hts' : ts = #[t, t'] := by rw [← Array.toArray_toList (xs := ts), hts]
    subst hargs' hts'
    have hs := hE.ev (a := a) s
    have hx := hE.ev (a := a) x
    split at hk
    · rename_i e b2 esz st m2 htt hu he
      have htt' : t = t' := by simpa using htt
      subst htt'
      rw [he] at hx
      split at hk
      · rename_i hm0
        have hm0 : m2 = 0 := by simpa using hm0
        subst hm0
        obtain ⟨ax, cx, hvx⟩ : ∃ ax cx, a.eval x = .slice ax 0 cx := by
          obtain ⟨p, hp, hc⟩ := ow_R' hx
          rcases hc with ⟨_, _, _, h2⟩ | ⟨_, h2⟩
          · exact ⟨_, _, h2⟩
          · exact ⟨_, _, h2⟩
        have hfirst : ∀ k, (Builtin.firstCells k 0 (.slice ax 0 cx)).run P w = .ok #[] w := fun k => by
          cases ax with
          | none => simp [Builtin.firstCells]
          | some a1 => simp [Builtin.firstCells, loadCells, loadCellsFrom]
        split at hk
        · rename_i z hz hes
          rw [hes] at hs
          refine ⟨.slice none 0 0, _, h, pl, w, fun ty => ?_, hk, .inr rfl, PExt.refl _, hR⟩
          have h1 := nils_R hs
          simp only [List.map_toArray, List.map_cons, List.map_nil]
          rw [h1, hvx]
          simp [Builtin.append_, run_underlying hu, run_size hz, Builtin.lenOf, hfirst]
        · rename_i z b esz' n hz hes
          rw [hes] at hs
          split at hk
          · rename_i T3 z3 n3 cs hg
            rw [get?_eq] at hg
            split at hk
            · rename_i hn3
              have hn3 : n3 = n := by simpa using hn3
              subst hn3
              refine ⟨a.eval s, _, h, pl, w, fun ty => ?_, hk, hs, PExt.refl _, hR⟩
              obtain ⟨p, hp, hc⟩ := ow_R hs (.inr rfl)
              simp only [List.map_toArray, List.map_cons, List.map_nil]
              rcases hc with ⟨_, _, h0, h2⟩ | ⟨hpn, h2⟩
              · rw [h2, hvx]
                simp [Builtin.append_, run_underlying hu, run_size hz, Builtin.lenOf, hfirst]
              · obtain ⟨vs, _, ho⟩ := hR.hb b _ p hg hp
                have hcap : n3 ≤ p.cap := by
                  rcases ho.2 with ⟨h1, _⟩ | ⟨g, cap, cur, h1, _, _, h3, _⟩
                  · simp [Pl.sv, hpn] at h1
                  · simp only [Pl.sv, hpn, Bool.false_eq_true, if_false, Value.slice.injEq] at h1
                    omega
                rw [h2, hvx]
                simp [Builtin.append_, run_underlying hu, run_size hz, Builtin.lenOf, hfirst, hcap, storeCells]
            · exact hk.elim
          · exact hk.elim
        · exact hk.elim
      split at hk
      · rename_i sz by_ z T2 esz2 n2 ms0 hsz hby hz hg2
        split at hk
        rotate_left
        · exact hk.elim
        rename_i ms htk
        split at hk
        · rename_i hc
          simp only [Bool.and_eq_true, decide_eq_true_eq] at hc
          obtain ⟨⟨⟨⟨⟨rfl, rfl⟩, rfl⟩, hlz⟩, hm⟩, hkn⟩ := hc
          obtain ⟨i, v, hi, hv, rfl⟩ := zeroOf_spec hz
          have hsize := info_size hsz
          rw [hi] at hsize
          simp at hsize
          have hbytes : i.bytes = by_ := by simpa [bytes?, hi] using hby
          have hzl : v.cells.size = sz + 1 := by rw [← hlz, len'_eq, (ofValue_cells (pl := pl) v).length]; simp
          obtain ⟨p2, hp2, hc2⟩ := ow_R hx (.inl hm)
          rw [get?_eq] at hg2
          obtain ⟨us0, hr0, ho2⟩ := hR.hb b2 _ p2 hg2 hp2
          obtain ⟨hr2, hle2⟩ := (hr0.drop (st * (sz + 1))).takeE htk
          generalize hus : (us0.drop (st * (sz + 1))).take (m2 * (sz + 1)) = us at hr2
          have hl2 : us.length = m2 * (sz + 1) := by rw [← hus, List.length_take]; omega
          have hpos : 0 < us.length := by rw [hl2]; exact Nat.mul_pos hm (Nat.succ_pos _)
          have hn2 := own_nonnil ho2 (by rw [List.length_drop] at hle2; omega)
          rcases hc2 with ⟨h0, _⟩ | ⟨_, hx'⟩
          · rw [h0] at hn2; cases hn2
          have hone := knownAll_oneCell hkn hr2
          have hnews : ∀ (j : Nat) u, us[j]? = some u → w.cell? ((⟨p2.blk, st * (sz + 1), none⟩ : Addr).add j) = some u := fun j u hu => by
            have hj : j < m2 * (sz + 1) := by rw [← hl2]; exact (List.getElem?_eq_some_iff.1 hu).1
            rw [← hus, List.getElem?_take_of_lt hj, List.getElem?_drop] at hu
            have := Seen.of_own ho2 _ u hu
            rw [Addr.add_lit]
            simpa using this
          -- the new row
          have fin : ∀ (p : Pl) (n : Nat) (xs : List Value) (hh : Heap) (x' : Blk) (len : Nat) (lit : Bool), a.eval s = p.sv n → w.ownsRowZ 0 T2 (sz + 1) (p.sv n) n xs → n + m2 ≤ maxLen → (n + m2) * by_ ≤ 140737488355328 → len = n + m2 →
              HRel w0 Sx pl hh w → hh.length = h.length → (p.nil = false → (w0.heap.size ≤ p.blk ∨ Sx p.blk) ∧ ∀ (c : Nat) q y, pl[c]? = some q → hh[c]? = some y → y.alive q = true → q.blk ≠ p.blk) →
              (∀ pl' w' p', PExt pl pl' → w'.ownsRowZ 0 T2 (sz + 1) (p'.sv (n + m2)) (n + m2) (xs ++ us) → p'.nil = false → BlkR pl' w' x' p') → (∀ p' : Pl, p'.nil = false → x'.alive p' = true ∧ x'.rd p' = false) → K (.v (.one (.ow (len' h) (sz + 1) 0 len lit))) (hh ++ [x']) →
              ∃ v av h' pl' w', (∀ ty, (Builtin.append_ #[t, t] ty (#[s, x].map a.eval)).run P w = .ok v w') ∧ K av h' ∧ av.R pl' v ∧ PExt pl pl' ∧ HRel w0 Sx pl' h' w' := by
            intro p n xs hh x' len lit hsv hown h63 hb hlen hRh hhl hfree hblk hal hK
            obtain ⟨p', w', g1, g2, g3, g4, g5, g6⟩ := app_own (P := P) hu hi hv hsize hbytes hzl (Nat.succ_pos _) hown hl2 hnews hone hm h63 hb (c := p2.cap - st)
            have hrow : ∀ k, (p.sv n).ownBlock = some k → p.nil = false ∧ k = p.blk := fun k hk => by
              unfold Pl.sv at hk
              cases hn : p.nil with
              | true => simp [hn, Value.ownBlock] at hk
              | false => simp [hn, Value.ownBlock] at hk; exact ⟨rfl, hk.symm⟩
            have hF := hRh.fresh (hdr := fun _ => run_drawn _ _ _ _ (g1 0)) (x' := x') (p' := p') (hRh.fr.grown g4 (fun k hk => by have := hrow k hk; rw [this.2]; exact (hfree this.1).1)) g4.size
              (fun c q y hq hy ha => g4.block _ (hRh.lt c q y hq hy ha) (fun e => by have := hrow _ e.symm; exact (hfree this.1).2 c q y hq hy ha this.2))
              (hblk _ _ _ (PExt.push pl _) g3 g2)
              (fun _ => ⟨g6, by
                rcases g5 with ⟨h1, h2⟩ | h1
                · rw [h2]; exact (hfree h1).1
                · exact .inl (Nat.le_trans hRh.fr.size h1), fun c q y hq hy ha => by
                rcases g5 with ⟨h1, h2⟩ | h1
                · rw [h2]; exact (hfree h1).2 c q y hq hy ha
                · have := hRh.lt c q y hq hy ha; omega⟩) (hrd := fun h => by rw [(hal p' g2).2] at h; cases h)
            refine ⟨p'.sv (n + m2), _, _, _, w', fun ty => ?_, hK, ?_, hF.2, hF.1⟩
            · have := g1 ty
              simp only [List.map_toArray, List.map_cons, List.map_nil]
              rw [hsv, hx']
              exact this
            · refine .inr ?_
              have e0 : len' h = pl.length := by rw [len'_eq, hR.len]
              simp [SV.val, owVal, e0, g2, Pl.sv, hlen]
          split at hk
          · -- to the nil slice
            rename_i hes
            rw [hes] at hs
            split at hk
            · rename_i hc
              simp only [Bool.and_eq_true, decide_eq_true_eq] at hc
              have hnil : a.eval s = (⟨0, true, 0⟩ : Pl).sv 0 := by rw [nils_R hs]; rfl
              refine fin ⟨0, true, 0⟩ 0 [] h (.ownL T2 (sz + 1) m2 ms) m2 true hnil (World.ownsRowZ_nil w 0 T2 (sz + 1)) (by simp only [maxLen]; omega) (by simpa using hc.1) (by omega) hR rfl (fun h => by cases h) ?_ (fun p' h => ⟨by simp [Blk.alive, h], rfl⟩) hk
              intro pl' w' p' hp ho hn
              rw [Nat.zero_add, List.nil_append] at ho
              exact ⟨us, hr2.ext hp, ho⟩
            · exact hk.elim
          · -- to a row
            rename_i b esz' n lit hes
            rw [hes] at hs
            split at hk
            · rename_i hc0
              simp only [Bool.and_eq_true, decide_eq_true_eq] at hc0
              obtain ⟨rfl, hbb⟩ := hc0
              obtain ⟨p, hp, hpc⟩ := ow_R hs (.inr rfl)
              have hsv : a.eval s = p.sv n := by
                rcases hpc with ⟨h1, _, h2, h3⟩ | ⟨h1, h3⟩
                · rw [h3, Pl.sv, if_pos h1]
                · rw [h3]; simp [Pl.sv, h1]
              have hfree : ∀ x0, h[b]? = some x0 → (p.nil = false → x0.alive p = true) → p.nil = false → (w0.heap.size ≤ p.blk ∨ Sx p.blk) ∧ ∀ (c : Nat) q y, pl[c]? = some q → (AM.set h b .gone)[c]? = some y → y.alive q = true → q.blk ≠ p.blk := fun x0 hx0 ha0 hn => by
                refine ⟨hR.own b p x0 hp hx0 (ha0 hn), fun c q y hq hy ha e => ?_⟩
                by_cases ebc : b = c
                · subst ebc
                  rw [get_set_same hx0] at hy
                  cases hy
                  cases ha
                · rw [get_set_other ebc] at hy
                  exact ebc (hR.inj b c p q x0 y hp hq hx0 hy (ha0 hn) ha e.symm)
              split at hk
              · rename_i T esz3 n3 cs hg
                rw [get?_eq] at hg
                split at hk
                · rename_i hc
                  simp only [Bool.and_eq_true, decide_eq_true_eq] at hc
                  obtain ⟨⟨⟨⟨rfl, rfl⟩, rfl⟩, hb⟩, hsm⟩ := hc
                  obtain ⟨xs, hr, ho⟩ := hR.hb b _ p hg hp
                  refine fin p n3 xs (AM.set h b .gone) (.ownL T (sz + 1) (n3 + m2) (app cs ms)) (n3 + m2) true hsv ho (by simp only [maxLen]; omega) hb rfl (hR.forget b) (by simp [set_eq]) (hfree _ hg (fun h => by simp [Blk.alive, h])) ?_ (fun p' h => ⟨by simp [Blk.alive, h], rfl⟩) hk
                  intro pl' w' p' hpx ho' hn
                  exact ⟨xs ++ us, by rw [app_eq]; exact (hr.append hr2).ext hpx, ho'⟩
                · exact hk.elim
              · rename_i T C xs0 hg
                rw [get?_eq] at hg
                split at hk
                · rename_i hc
                  simp only [Bool.and_eq_true, decide_eq_true_eq] at hc
                  obtain ⟨⟨hce, rfl⟩, _⟩ := hc
                  split at hk
                  · rename_i ys hys
                    obtain ⟨⟨hnx, hb, hsm⟩, hk⟩ := hk
                    subst hnx
                    obtain ⟨xs, hr, ho⟩ := hR.hb b _ p hg hp
                    rw [hce] at ho
                    have hd := decAll_R hys hr2 (by rw [hl2, hce])
                    refine fin p xs0.length xs (AM.set h b .gone) (.own T C (xs0 ++ ys)) (xs0.length + m2) false hsv ho (by simp only [maxLen]; omega) hb rfl (hR.forget b) (by simp [set_eq]) (hfree _ hg (fun h => by simp [Blk.alive, h])) ?_ (fun p' h => ⟨by simp [Blk.alive, h], rfl⟩) hk
                    intro pl' w' p' hpx ho' hn
                    refine ⟨xs ++ us, by rw [flat_append]; exact (hr.append hd.1).ext hpx, ?_⟩
                    rw [hce, List.length_append, hd.2]
                    exact ho'
                  · obtain ⟨ys, hys, ⟨hnx, hb, hsm⟩, hk⟩ := hk
                    subst hnx
                    obtain ⟨xs, hr, ho⟩ := hR.hb b _ p hg hp
                    rw [hce] at ho
                    have hd := num_R hys hr2
                    refine fin p xs0.length xs (AM.set h b .gone) (.own T C (xs0 ++ ys)) (xs0.length + m2) false hsv ho (by simp only [maxLen]; omega) hb rfl (hR.forget b) (by simp [set_eq]) (hfree _ hg (fun h => by simp [Blk.alive, h])) ?_ (fun p' h => ⟨by simp [Blk.alive, h], rfl⟩) hk
                    intro pl' w' p' hpx ho' hn
                    refine ⟨xs ++ us, by rw [flat_append]; exact (hr.append hd.1).ext hpx, ?_⟩
                    rw [hce, List.length_append, hd.2]
                    exact ho'
                · exact hk.elim
              · exact hk.elim
            · exact hk.elim
          · exact hk.elim
        · exact hk.elim
      · exact hk.elim
    · exact hk.elim
  · exact hk.elim
theorem flat_sub {C : Codec} {xs : List C.τ} {vs : List Value} {st m : Nat} (h : RL pl (flatC C xs) vs) (hle : st + m ≤ xs.length) :
    RL pl (flatC C ((xs.drop st).take m)) ((vs.drop (st * C.esz)).take (m * C.esz)) := by
  have h1 : RL pl (flatC C (xs.drop st)) (vs.drop (st * C.esz)) := by
    rw [← List.take_append_drop st xs, flat_append] at h
    have := (RL.split h).2
    rwa [flat_len, List.length_take, Nat.min_eq_left (by omega)] at this
  rw [← List.take_append_drop m (xs.drop st), flat_append] at h1
  have := (RL.split h1).1
  rwa [flat_len, List.length_take, List.length_drop, Nat.min_eq_left (by omega)] at this
theorem srcV_R [Glob] (hR : HRel w0 Sx pl h w) {x : AV} {v : Value} (hx : x.R pl v) {C : Codec} {b2 m : Nat} {pr : Prop} {ys : List C.τ} (hs : srcV h x = some ⟨C, (b2, m, pr, ys)⟩) (hpr : pr) :
    ∃ (ad : Option Addr) (c : Nat) (us : List Value), v = .slice ad m c ∧ RL pl (flatC C ys) us ∧ ys.length = m ∧ us.length = m * C.esz ∧ (ad = none → m = 0 ∧ c = 0) ∧
      ∀ a, ad = some a → a.spot = none ∧ a.block < w.heap.size ∧ Seen w a.block a.off us := by
  unfold srcV at hs
  split at hs
  · rename_i b esz m' cap
    split at hs
    · rename_i T C' xs hg
      rw [get?_eq] at hg
      split at hs
      · rename_i hce
        simp only [Option.some.injEq, Sigma.mk.injEq] at hs
        obtain ⟨rfl, hs⟩ := hs
        have hs := eq_of_heq hs
        simp only [Prod.mk.injEq] at hs
        obtain ⟨rfl, rfl, rfl, rfl⟩ := hs
        have hpr : m' = xs.length := hpr
        obtain ⟨p, hp, hc⟩ := rs_R hx
        obtain ⟨vs, g1, g2, g3⟩ := hR.hb _ _ p hg hp
        have hlen : vs.length = m' * C'.esz := by rw [← g1.length, flat_len, hpr]
        rcases hc with ⟨_, h0, hcap, hv⟩ | ⟨hn, hv⟩
        · exact ⟨none, cap, vs, by rw [hv, h0, hcap], g1, hpr.symm, hlen, fun _ => ⟨h0, hcap⟩, fun a ha => by cases ha⟩
        · refine ⟨_, cap, vs, hv, g1, hpr.symm, hlen, fun h => (by cases h), fun a ha => ?_⟩
          cases ha
          exact ⟨rfl, Nat.lt_of_lt_of_le (hR.rok.1 _ (hR.ro _ p _ hp hg (by simp [Blk.rd, hn]))).1 hR.fr.size, g3⟩
      · cases hs
    · cases hs
  · rename_i b esz st m'
    split at hs
    · rename_i T C' xs hg
      rw [get?_eq] at hg
      split at hs
      · rename_i hce
        simp only [Option.some.injEq, Sigma.mk.injEq] at hs
        obtain ⟨rfl, hs⟩ := hs
        have hs := eq_of_heq hs
        simp only [Prod.mk.injEq] at hs
        obtain ⟨rfl, rfl, rfl, rfl⟩ := hs
        have hpr : st + m' ≤ xs.length := hpr
        obtain ⟨p, hp, hc⟩ := ow_R' hx
        obtain ⟨vs, g1, g2⟩ := hR.hb _ _ p hg hp
        have hvl : vs.length = xs.length * C'.esz := by rw [← g1.length, flat_len]
        have g4 := flat_sub g1 hpr
        have hlen : ((xs.drop st).take m').length = m' := by rw [List.length_take, List.length_drop]; omega
        have hlen2 : ((vs.drop (st * C'.esz)).take (m' * C'.esz)).length = m' * C'.esz := by rw [← g4.length, flat_len, hlen]
        rcases hc with ⟨_, _, h0, hv⟩ | ⟨hn, hv⟩
        · exact ⟨none, 0, _, by rw [hv, h0], g4, hlen, hlen2, fun _ => ⟨h0, rfl⟩, fun a ha => by cases ha⟩
        · refine ⟨_, _, _, hv, g4, hlen, hlen2, fun h => (by cases h), fun a ha => ?_⟩
          cases ha
          refine ⟨rfl, hR.lt _ p _ hp hg (by simp [Blk.alive, hn]), fun j u hj => ?_⟩
          have hj' : j < m' * C'.esz := by rw [← hlen2]; exact (List.getElem?_eq_some_iff.1 hj).1
          have hm0 : m' ≠ 0 := fun h => by rw [h] at hj'; simp at hj'
          rw [List.getElem?_take_of_lt hj', List.getElem?_drop] at hj
          have := Seen.of_own g2 _ u hj
          simp only [if_neg (show ¬(m' = 0 ∧ p.cap = st) from fun h => hm0 h.1)]
          rw [Nat.zero_add] at this
          rw [← hce]
          exact this
      · cases hs
    · cases hs
  · cases hs
theorem same_R {C1 C2 : Codec} {zs : List C1.τ} {ys : List C2.τ} {us : List Value} (hs : SameRows C1 zs C2 ys) (h : RL pl (flatC C2 ys) us) : RL pl (flatC C1 zs) us := by
  rw [hs.hf']
  exact h
theorem app_own_row [Glob] (hR : HRel w0 Sx pl h w) {t e size bytes : Nat} {i : TypeInfo} {z : Value} (hu : P.underlying t = some (.slice e)) (hi : P.info? e = some i) (hz : i.zero = some z) (hsz : size? P e = some size) (hsize : i.size = size) (hby : i.bytes = bytes) (hzs : z.cells.size = size) (hpos : 0 < size)
    {p : Pl} {n : Nat} {xs us : List Value} {hh : Heap} {C : Codec} {zs : List C.τ} (hCe : C.esz = size) (hown : w.ownsRowZ 0 e size (p.sv n) n xs) (hRh : HRel w0 Sx pl hh w) (hhl : hh.length = h.length)
    (hfree : p.nil = false → (w0.heap.size ≤ p.blk ∨ Sx p.blk) ∧ p.blk < w.heap.size ∧ ∀ (c : Nat) q y, pl[c]? = some q → hh[c]? = some y → y.alive q = true → q.blk ≠ p.blk)
    {ad : Option Addr} {m c : Nat} (hl : us.length = m * size) (hnews : 0 < m → ∃ a, ad = some a ∧ ∀ (j : Nat) u, us[j]? = some u → w.cell? (a.add j) = some u) (hone : ∀ u ∈ us, u.oneCell' = true)
    (h63 : n + m ≤ maxLen) (hb : (n + m) * bytes ≤ 140737488355328) (hrow : RL pl (flatC C zs) (xs ++ us)) (hzl : zs.length = n + m) :
    ∃ v' w' pl', (∀ ty, (Builtin.append_ #[t, t] ty #[p.sv n, .slice ad m c]).run P w = .ok v' w') ∧ (AV.v (.one (.ow pl.length size 0 (n + m) false))).R pl' v' ∧ PExt pl pl' ∧ HRel w0 Sx pl' (hh ++ [.own e C zs]) w' := by
  by_cases hm : 0 < m
  · obtain ⟨a, rfl, hn⟩ := hnews hm
    obtain ⟨p', w', g1, g2, g3, g4, g5, g6⟩ := app_own (P := P) hu hi hz hsize hby hzs hpos hown hl hn hone hm h63 hb (c := c)
    have hrow' : ∀ k, (p.sv n).ownBlock = some k → p.nil = false ∧ k = p.blk := fun k hk => by
      unfold Pl.sv at hk
      cases hn : p.nil with
      | true => simp [hn, Value.ownBlock] at hk
      | false => simp [hn, Value.ownBlock] at hk; exact ⟨rfl, hk.symm⟩
    have hF := hRh.fresh (hdr := fun _ => run_drawn _ _ _ _ (g1 0)) (x' := .own e C zs) (p' := p') (hRh.fr.grown g4 (fun k hk => by have := hrow' k hk; rw [this.2]; exact (hfree this.1).1)) g4.size
      (fun c q y hq hy ha => g4.block _ (hRh.lt c q y hq hy ha) (fun e => by have := hrow' _ e.symm; exact (hfree this.1).2.2 c q y hq hy ha this.2))
      ⟨xs ++ us, hrow.ext (PExt.push pl _), by rw [hCe, hzl]; exact g3⟩
      (fun _ => ⟨g6, by
        rcases g5 with ⟨h1, h2⟩ | h1
        · rw [h2]; exact (hfree h1).1
        · exact .inl (Nat.le_trans hRh.fr.size h1), fun c q y hq hy ha => by
        rcases g5 with ⟨h1, h2⟩ | h1
        · rw [h2]; exact (hfree h1).2.2 c q y hq hy ha
        · have := hRh.lt c q y hq hy ha; omega⟩)
    exact ⟨p'.sv (n + m), w', _, g1, .inr (by simp [SV.val, owVal, g2, Pl.sv]), hF.2, hF.1⟩
  · obtain rfl : m = 0 := by omega
    have hus : us = [] := List.eq_nil_of_length_eq_zero (by simpa using hl)
    subst hus
    rw [List.append_nil] at hrow
    have hfirst : ∀ k, (Builtin.firstCells k 0 (.slice ad 0 c)).run P w = .ok #[] w := fun k => by
      cases ad with
      | none => simp [Builtin.firstCells]
      | some a1 => simp [Builtin.firstCells, loadCells, loadCellsFrom]
    have hF := hRh.fresh (x' := .own e C zs) (p' := p) hRh.fr (Nat.le_refl _) (fun _ _ _ _ _ _ => rfl) ⟨xs, hrow.ext (PExt.push pl _), by rw [hCe, hzl]; exact hown⟩
      (fun ha => by
        have hn : p.nil = false := by simpa [Blk.alive] using ha
        have := hfree hn
        exact ⟨this.2.1, this.1, this.2.2⟩)
    refine ⟨p.sv n, w, _, fun ty => ?_, .inr ?_, hF.2, hF.1⟩
    · cases hn : p.nil with
      | true =>
        simp [Builtin.append_, run_underlying hu, run_size hsz, Builtin.lenOf, hfirst, Pl.sv, hn]
      | false =>
        have hcap : n ≤ p.cap := by
          rcases hown.2 with ⟨h1, _⟩ | ⟨g, cap, cur, h1, _, _, h3, _⟩
          · simp [Pl.sv, hn] at h1
          · simp only [Pl.sv, hn, Bool.false_eq_true, if_false, Value.slice.injEq] at h1
            omega
        simp [Builtin.append_, run_underlying hu, run_size hsz, Builtin.lenOf, hfirst, Pl.sv, hn, hcap, storeCells]
    · cases hn : p.nil with
      | true =>
        have h0 : n = 0 := by
          rcases hown.2 with ⟨h1, h2⟩ | ⟨g, cap, cur, h1, _⟩
          · exact h2
          · simp [Pl.sv, hn] at h1
        simp [SV.val, owVal, hn, Pl.sv, h0]
      | false => simp [SV.val, owVal, hn, Pl.sv]
theorem appR_sound [Glob] (hR : HRel w0 Sx pl h w) {t : Nat} {s x : AV} {vs vx : Value} (hs : s.R pl vs) (hx : x.R pl vx) {src : (C : Codec) × (Nat × Nat × Prop × List C.τ)} (hsrc : srcV h x = some src) {K : KV} (hk : appR P h t s src K) :
    ∃ v av h' pl' w', (∀ ty, (Builtin.append_ #[t, t] ty #[vs, vx]).run P w = .ok v w') ∧ K av h' ∧ av.R pl' v ∧ PExt pl pl' ∧ HRel w0 Sx pl' h' w' := by
  obtain ⟨C, b2, m, pr, ys⟩ := src
  unfold appR at hk
  simp only at hk
  split at hk
  · rename_i e hu
    split at hk
    · rename_i sz by_ z hsz hby hz
      split at hk
      · rename_i hc
        simp only [Bool.and_eq_true, decide_eq_true_eq] at hc
        obtain ⟨hlz, hCe⟩ := hc
        obtain ⟨i, v, hi, hv, rfl⟩ := zeroOf_spec hz
        have hsize := info_size hsz
        rw [hi] at hsize
        simp at hsize
        have hbytes : i.bytes = by_ := by simpa [bytes?, hi] using hby
        have hzl : v.cells.size = sz + 1 := by rw [← hlz, len'_eq, (ofValue_cells (pl := pl) v).length]; simp
        have src : pr → ∃ (ad : Option Addr) (c : Nat) (us : List Value), vx = .slice ad m c ∧ RL pl (flatC C ys) us ∧ ys.length = m ∧ us.length = m * (sz + 1) ∧ (∀ u ∈ us, u.oneCell' = true) ∧ (0 < m → ∃ a, ad = some a ∧ ∀ (j : Nat) u, us[j]? = some u → w.cell? (a.add j) = some u) := fun hpr => by
          obtain ⟨ad, c, us, k1, k2, k3, k4, k5, k6⟩ := srcV_R hR hx hsrc hpr
          refine ⟨ad, c, us, k1, k2, k3, by rw [k4, hCe], knownAll_oneCell (flat_known ys) k2, fun hm => ?_⟩
          cases ad with
          | none => have := (k5 rfl).1; omega
          | some a =>
            obtain ⟨q1, _, q3⟩ := k6 a rfl
            refine ⟨a, rfl, fun j u hj => ?_⟩
            have := q3 j u hj
            obtain ⟨ab, ao, asp⟩ := a
            simp only at q1
            subst q1
            rw [Addr.add_lit]
            exact this
        have fin : ∀ {p : Pl} {n : Nat} {xs us : List Value} {hh : Heap} {C1 : Codec} {zs : List C1.τ} {ad : Option Addr} {c : Nat}, vs = p.sv n → vx = .slice ad m c → C1.esz = sz + 1 → w.ownsRowZ 0 e (sz + 1) (p.sv n) n xs → HRel w0 Sx pl hh w → hh.length = h.length →
            (p.nil = false → (w0.heap.size ≤ p.blk ∨ Sx p.blk) ∧ p.blk < w.heap.size ∧ ∀ (c : Nat) q y, pl[c]? = some q → hh[c]? = some y → y.alive q = true → q.blk ≠ p.blk) →
            us.length = m * (sz + 1) → (0 < m → ∃ a, ad = some a ∧ ∀ (j : Nat) u, us[j]? = some u → w.cell? (a.add j) = some u) → (∀ u ∈ us, u.oneCell' = true) → n + m ≤ maxLen → (n + m) * by_ ≤ 140737488355328 → RL pl (flatC C1 zs) (xs ++ us) → zs.length = n + m →
            K (.v (.one (.ow (len' h) (sz + 1) 0 (n + m) false))) (hh ++ [.own e C1 zs]) → ∃ v av h' pl' w', (∀ ty, (Builtin.append_ #[t, t] ty #[vs, vx]).run P w = .ok v w') ∧ K av h' ∧ av.R pl' v ∧ PExt pl pl' ∧ HRel w0 Sx pl' h' w' := by
          intro p n xs us hh C1 zs ad c h1 h2 h3 h4 h5 h6 h7 h8 h9 h10 h11 h12 h13 h14 hK
          obtain ⟨v', w', pl', g1, g2, g3, g4⟩ := app_own_row (P := P) hR hu hi hv hsz hsize hbytes hzl (Nat.succ_pos _) h3 h4 h5 h6 h7 h8 h9 h10 h11 h12 h13 h14 (c := c)
          rw [len'_eq, ← hR.len] at hK
          exact ⟨v', _, _, pl', w', by rw [h1, h2]; exact g1, hK, g2, g3, g4⟩
        split at hk
        · obtain ⟨⟨hpr, hb, h63⟩, hk⟩ := hk
          obtain ⟨ad, c, us, k1, k2, k3, k4, k5, k6⟩ := src hpr
          refine fin (p := ⟨0, true, 0⟩) (n := 0) (xs := []) (hh := h) (C1 := C) (zs := ys) (by rw [nils_R hs]; rfl) k1 hCe (World.ownsRowZ_nil w 0 e (sz + 1)) hR rfl (fun h => by cases h) k4 k6 k5 (by simp only [maxLen]; omega) (by simpa using hb) (by simpa using k2) (by omega) ?_
          simpa using hk
        · rename_i b esz' n lit
          split at hk
          · rename_i hc
            simp only [Bool.and_eq_true, decide_eq_true_eq] at hc
            obtain ⟨rfl, hbb⟩ := hc
            obtain ⟨p, hp, hpc⟩ := ow_R hs (.inr rfl)
            have hsv : vs = p.sv n := by
              rcases hpc with ⟨h1, _, h2, h3⟩ | ⟨h1, h3⟩
              · rw [h3, Pl.sv, if_pos h1]
              · rw [h3]; simp [Pl.sv, h1]
            have hfree : ∀ x0, h[b]? = some x0 → (p.nil = false → x0.alive p = true) → p.nil = false → (w0.heap.size ≤ p.blk ∨ Sx p.blk) ∧ p.blk < w.heap.size ∧ ∀ (c : Nat) q y, pl[c]? = some q → (AM.set h b .gone)[c]? = some y → y.alive q = true → q.blk ≠ p.blk := fun x0 hx0 ha0 hn => by
              refine ⟨hR.own b p x0 hp hx0 (ha0 hn), hR.lt b p x0 hp hx0 (ha0 hn), fun c q y hq hy ha e => ?_⟩
              by_cases ebc : b = c
              · subst ebc
                rw [get_set_same hx0] at hy
                cases hy
                cases ha
              · rw [get_set_other ebc] at hy
                exact ebc (hR.inj b c p q x0 y hp hq hx0 hy (ha0 hn) ha e.symm)
            split at hk
            · rename_i T esz3 n3 cs hg
              rw [get?_eq] at hg
              split at hk
              · rename_i hc
                simp only [Bool.and_eq_true, decide_eq_true_eq] at hc
                obtain ⟨⟨⟨rfl, rfl⟩, rfl⟩, rfl⟩ := hc
                obtain ⟨⟨hpr, hb, h63⟩, hk⟩ := hk
                obtain ⟨ad, c, us, k1, k2, k3, k4, k5, k6⟩ := src hpr
                obtain ⟨xs, hr, ho⟩ := hR.hb b _ p hg hp
                have hxs : xs = [] := List.eq_nil_of_length_eq_zero (by have := ho.1; simpa using this)
                subst hxs
                refine fin (p := p) (n := 0) (xs := []) (hh := AM.set h b .gone) (C1 := C) (zs := ys) hsv k1 hCe ho (hR.forget b) (by simp [set_eq]) (hfree _ hg (fun h => by simp [Blk.alive, h])) k4 k6 k5 (by simp only [maxLen]; omega) (by simpa using hb) (by simpa using k2) (by omega) ?_
                simpa using hk
              · exact hk.elim
            · rename_i T C1 xs0 hg
              rw [get?_eq] at hg
              split at hk
              · rename_i hc
                simp only [Bool.and_eq_true, decide_eq_true_eq] at hc
                obtain ⟨⟨hce, rfl⟩, _⟩ := hc
                obtain ⟨⟨hpr, rfl, hb, h63⟩, zs, hsr, hk⟩ := hk
                obtain ⟨ad, c, us, k1, k2, k3, k4, k5, k6⟩ := src hpr
                obtain ⟨xs, hr, ho⟩ := hR.hb b _ p hg hp
                rw [hce] at ho
                have hcr := same_R hsr k2
                refine fin (p := p) (xs := xs) (hh := AM.set h b .gone) (C1 := C1) (zs := xs0 ++ zs) hsv k1 hce ho (hR.forget b) (by simp [set_eq]) (hfree _ hg (fun h => by simp [Blk.alive, h])) k4 k6 k5 (by simp only [maxLen]; omega) hb ?_ (by simp [hsr.hl', k3]) hk
                rw [flat_append]
                exact hr.append hcr
              · exact hk.elim
            · exact hk.elim
          · exact hk.elim
        · exact hk.elim
      · exact hk.elim
    · exact hk.elim
  · exact hk.elim
theorem rangeX_sound {t : Nat} {x : AV} {v : Value} {K : KV} (hx : x.R pl v) (hk : rangeX P t x h K) : ∃ s lit, v = .string ⟨s.toArray⟩ ∧ P.underlying t = some .string ∧ K (.v (.one (.ptr (len' h) 0))) (h ++ [.sit lit s 0]) := by
  unfold rangeX at hk
  split at hk
  · rename_i s hu; exact ⟨s, _, cstr_R hx, hu, hk⟩
  · rename_i s hu; exact ⟨s, _, str_R hx, hu, hk⟩
  · exact hk.elim
theorem nextX_sound [Glob] (hR : HRel w0 Sx pl h w) {x : AV} {v : Value} {K : KV} (hx : x.R pl v) (hk : nextX x h K) (ty : TypeId) : ∃ u w' av h', (Instr.next v true ty).run P w = .ok u w' ∧ K av h' ∧ av.R pl u ∧ HRel w0 Sx pl h' w' := by
  unfold nextX at hk
  split at hk
  · rename_i b
    obtain ⟨ad, had, rfl⟩ := ptr_R hx
    have adr : ∀ (c : Bool) (s : List UInt8) (n : Nat), get? h b = some (.sit c s n) → ∃ p : Pl, pl[b]? = some p ∧ ad = ⟨p.blk, 0, none⟩ ∧ w.heap[p.blk]? = some (.stringIter ⟨s.toArray⟩ n) ∧ ∀ n', HRel w0 Sx pl (AM.set h b (.sit c s n')) (w.iterAt p.blk ⟨s.toArray⟩ n') := fun c s n hg => by
      rw [get?_eq] at hg
      have hlt : b < pl.length := by rw [hR.len]; exact (List.getElem?_eq_some_iff.1 hg).1
      have hp := List.getElem?_eq_getElem hlt
      refine ⟨pl[b], hp, ?_, hR.hb b _ _ hg hp, fun n' => hR.updG hp hg rfl ⟨rfl, rfl, rfl, by rw [Lib.iterAt_size]; exact Nat.le_refl _, fun k _ hk => Lib.iterAt_other w _ k _ _ (fun e => hk (by rw [e]))⟩ ?_⟩
      · simpa [addrOf, hp] using had.symm
      · exact Lib.iterAt_heap w _ _ n _ (hR.hb b _ _ hg hp)
    split at hk
    · rename_i s n hg
      obtain ⟨p, hp, rfl, hb, hup⟩ := adr _ _ _ hg
      have hsz : (ByteArray.mk s.toArray).size = s.length := by simp [ByteArray.size]
      rw [len'_eq] at hk
      split at hk
      · rename_i hlt
        exact ⟨_, _, _, _, Lib.run_next_any_at w p.blk _ n ty hb (by rw [hsz]; exact hlt), hk, ⟨_, rfl, .inr rfl, .inr rfl, .inr rfl, trivial⟩, hup _⟩
      · rename_i hlt
        exact ⟨_, _, _, _, Lib.run_next_end_at w p.blk _ n ty hb (by rw [hsz]; exact hlt), hk, ⟨_, rfl, .inr rfl, trivial⟩, hR⟩
    · rename_i s n hg
      obtain ⟨p, hp, rfl, hb, hup⟩ := adr _ _ _ hg
      have hsz : (ByteArray.mk s.toArray).size = s.length := by simp [ByteArray.size]
      by_cases hlt : n < s.length
      · exact ⟨_, _, _, _, Lib.run_next_any_at w p.blk _ n ty hb (by rw [hsz]; exact hlt), hk.1 hlt, ⟨_, rfl, .inr rfl, .inr rfl, .inr rfl, trivial⟩, hup _⟩
      · exact ⟨_, _, _, _, Lib.run_next_end_at w p.blk _ n ty hb (by rw [hsz]; exact hlt), hk.2 (by omega), ⟨_, rfl, .inr rfl, trivial⟩, hR⟩
    · exact hk.elim
  · exact hk.elim
theorem mapV_inv {t : Nat} {r : Option Operand} {K : KV} (hk : mapV P t r h K) : K (.v (.one (.mp (len' h)))) (h ++ [.mp []]) ∧ (r = none ∨ ∃ k n, r = some (.const (.int k n))) ∧ ∃ kt e, P.underlying t = some (.map kt e) := by
  unfold mapV at hk
  split at hk
  · rename_i hu; exact ⟨hk, .inl rfl, _, _, hu⟩
  · rename_i hu; exact ⟨hk, .inr ⟨_, _, rfl⟩, _, _, hu⟩
  · exact hk.elim
theorem omE_append {C : Codec} : ∀ (es fs : List (C.τ × Int)), omE C (es ++ fs) = omE C es ++ omE C fs
  | [], _ => rfl
  | (x, n) :: l, fs => by simp [omE, omE_append l fs]
theorem EntR_append : ∀ {es fs : List (PV × PV)} {ms ns : List MapEntry}, EntR pl es ms → EntR pl fs ns → EntR pl (es ++ fs) (ms ++ ns)
  | [], _, [], _, _, h => h
  | [], _, _ :: _, _, h, _ => h.elim
  | _ :: _, _, [], _, h, _ => h.elim
  | _ :: _, _, _ :: _, _, h, k => ⟨h.1, h.2.1, EntR_append h.2.2 k⟩
theorem mix_get {α : Type} {d : DecidableEq α} {x : α} : ∀ {es : List (α × Int)} {i j : Nat} {n : Int}, mix d x es i = some (j, n) → ∃ k, j = i + k ∧ es[k]? = some (x, n)
  | [], _, _, _, h => by simp [mix] at h
  | (y, m) :: l, i, j, n, h => by
    simp only [mix] at h
    split at h
    · rename_i hxy _
      cases h
      exact ⟨0, rfl, by simp [hxy]⟩
    · obtain ⟨k, h1, h2⟩ := mix_get h
      exact ⟨k + 1, by omega, by simpa using h2⟩
theorem EntR_get {C : Codec} : ∀ {es : List (C.τ × Int)} {ms : List MapEntry} {k : Nat} {x : C.τ} {n : Int}, EntR pl (omE C es) ms → es[k]? = some (x, n) → ∃ e, ms[k]? = some e ∧ (PV.agg (C.enc x)).R pl e.key
  | [], _, _, _, _, _, h => by simp at h
  | _ :: _, [], _, _, _, h, _ => h.elim
  | (y, m) :: l, e :: ms, 0, x, n, h, hk => by
    simp at hk
    obtain ⟨rfl, rfl⟩ := hk
    exact ⟨e, rfl, h.1⟩
  | (y, m) :: l, e :: ms, k + 1, x, n, h, hk => by
    obtain ⟨e', h1, h2⟩ := EntR_get h.2.2 (show l[k]? = some (x, n) by simpa using hk)
    exact ⟨e', by simpa using h1, h2⟩
theorem EntR_set {C : Codec} {x : C.τ} {n : Int} {kv vv : Value} (hk : (PV.agg (C.enc x)).R pl kv) (hv : (PV.one (.sym .i64 n)).R pl vv) : ∀ {es : List (C.τ × Int)} {ms : List MapEntry} (j : Nat), EntR pl (omE C es) ms →
    EntR pl (omE C (es.set j (x, n))) (ms.modify j fun e => { e with key := kv, val := vv })
  | [], [], _, h => by simpa using h
  | [], _ :: _, _, h => h.elim
  | _ :: _, [], _, h => h.elim
  | (y, m) :: l, e :: ms, 0, h => by
    simp only [List.set_cons_zero, List.modify_zero_cons, omE]
    exact ⟨hk, hv, h.2.2⟩
  | (y, m) :: l, e :: ms, j + 1, h => by
    simp only [List.set_cons_succ, List.modify_succ_cons, omE]
    exact ⟨h.1, h.2.1, EntR_set hk hv j h.2.2⟩
theorem sameBits_nums {l : List SV} (hl : ∀ s ∈ l, numS s = true) {vs : List Value} (hv : RL pl l vs) (n : Nat) : (vs.zip vs).all (fun (x, y) => Instr.sameBits n x y) = true := by
  induction l generalizing vs with
  | nil =>
    cases vs with
    | nil => rfl
    | cons _ _ => exact hv.elim
  | cons s l ih =>
    cases vs with
    | nil => exact hv.elim
    | cons v vs =>
      simp only [List.zip_cons_cons, List.all_cons, Bool.and_eq_true]
      refine ⟨?_, ih (fun t ht => hl t (by simp [ht])) hv.2⟩
      have hs := hl s (by simp)
      cases s <;> first | (cases hs; done) | skip
      rcases hv.1 with h | h
      · cases h
      · simp only [SV.val, Option.some.injEq] at h
        subst h
        cases n <;> simp [Instr.sameBits]
theorem i64_R {s : SV} {n : Int} (h : i64? s = some n) {v : Value} (hv : (PV.one s).R pl v) : v = .int .i64 n := by
  unfold i64? at h
  split at h
  · cases h; exact con_R hv
  · cases h; exact sym_R hv
  · cases h
theorem putV_sound [Glob] (hR : HRel w0 Sx pl h w) {t : Nat} {m k v : AV} {K : KV} {mv kv vv : Value} (hm : m.R pl mv) (hkv : k.R pl kv) (hv : v.R pl vv) (hk : putV P t m k v h K) :
    ∃ w' h', (Instr.mapUpdate t mv kv vv).run P w = .ok () w' ∧ K AV.undef h' ∧ HRel w0 Sx pl h' w' := by
  unfold putV at hk
  split at hk
  · rename_i kt e b k v hu
    have hmv : ∃ p, pl[b]? = some p ∧ mv = .map (some p.blk) := by
      rcases hm with hm | hm
      · cases hm
      · simp only [SV.val] at hm
        cases hp : pl[b]? with
        | none => simp [hp] at hm
        | some p => simp [hp] at hm; exact ⟨p, rfl, hm.symm⟩
    obtain ⟨p, hp, rfl⟩ := hmv
    split at hk
    · rename_i es hg
      rw [get?_eq] at hg
      obtain ⟨ms, clock, h1, h2⟩ := hR.hb b _ p hg hp
      have hgo : (getObj p.blk).run P w = .ok (.map ms clock) w := by simp [getObj, Sem.run, h2]
      split at hk
      · rename_i hok
        have hck : ∀ em, (Instr.checkKey em 10000 kt kv).run P w = .ok () w := by
          unfold keyOk at hok
          cases he : aEq P 20 kt k k with
          | none => simp [he] at hok
          | some cb => exact (aEq_sound 20 kt k k cb.1 cb.2 kv kv 10000 w he hkv hkv (by decide)).2
        split at hk
        · rename_i es' hput
          have hset : ∀ o, (setObj p.blk o).run P w = .ok () { w with heap := w.heap.setIfInBounds p.blk o } := fun o => by simp [setObj, Sem.run, h2]
          have hgr : ∀ o, w.grownBy { w with heap := w.heap.setIfInBounds p.blk o } (some p.blk) := fun o => ⟨rfl, rfl, rfl, by simp, fun i hi hne => by
            show (w.heap.setIfInBounds p.blk o)[i]? = _
            rw [Array.getElem?_setIfInBounds, if_neg (fun e => hne (by rw [e]))]⟩
          have hat : ∀ o, ({ w with heap := w.heap.setIfInBounds p.blk o } : World).heap[p.blk]? = some o := fun o => by
            show (w.heap.setIfInBounds p.blk o)[p.blk]? = _
            rw [Array.getElem?_setIfInBounds, if_pos rfl, if_pos (Array.getElem?_eq_some_iff.1 h2).1]
          rcases aPut_sound hkv hv 0 hput h1 with ⟨j, en, old, g1, g2, g3, g4, g5, g6⟩ | ⟨g1, g2⟩
          · have hfk : ∃ x, (Instr.findKey kt kv ms.toList).run P w = .ok (some (j, x)) w := by
              cases hd : P.underlying kt with
              | none =>
                unfold keyOk aEq at hok
                simp [hd] at hok
              | some d =>
                obtain ⟨x1, hx1⟩ := g4 w
                rw [Nat.zero_add] at hx1
                cases k with
                | one a1 =>
                  obtain ⟨x2, hx2⟩ := g5 d a1 rfl hd
                  rw [Nat.zero_add] at hx2
                  exact ⟨x2, by simp [Instr.findKey, run_underlying hd, hx2]⟩
                | agg l =>
                  obtain ⟨vs, rfl, _⟩ := hkv
                  refine ⟨x1, ?_⟩
                  cases hml : ms.toList with
                  | nil => rw [hml] at g2; simp at g2
                  | cons e0 ml =>
                    have : Instr.findNow d (.agg vs.toArray) (e0 :: ml) 0 = none := by
                      unfold Instr.findNow
                      have : Instr.sameNow d (.agg vs.toArray) e0.key = none := by cases d <;> rfl
                      rw [this]
                    rw [hml] at hx1
                    simp [Instr.findKey, run_underlying hd, this, hx1]
            obtain ⟨x, hx⟩ := hfk
            have hj : ms[j]? = some en := by simpa using g2
            refine ⟨_, _, ?_, hk, hR.updG hp hg rfl (hgr (.map (ms.modify j fun e => { e with key := kv, val := vv }) clock)) (x' := .mp es') ⟨_, clock, ?_, hat _⟩⟩
            · simp [Instr.mapUpdate, run_underlying hu, hgo, hck, hx, hj, Instr.keyThatStays, g3, hset]
            · simpa [Array.toList_modify] using g6
          · obtain ⟨r', k1, k2⟩ := findKey_sound hkv hok g1 h1 w
            cases r' with
            | some ix => exact k2.elim
            | none =>
              refine ⟨_, _, ?_, hk, hR.updG hp hg rfl (hgr (.map (ms.push { key := kv, val := vv, born := clock }) (clock + 1))) (x' := .mp es') ⟨_, clock + 1, ?_, hat _⟩⟩
              · simp [Instr.mapUpdate, run_underlying hu, hgo, hck, k1, hset]
              · simpa using g2 clock
        · exact hk.elim
      · exact hk.elim
    · rename_i C es hg
      rw [get?_eq] at hg
      obtain ⟨ms, clock, h1, h2⟩ := hR.hb b _ p hg hp
      have hgo : (getObj p.blk).run P w = .ok (.map ms clock) w := by simp [getObj, Sem.run, h2]
      have hset : ∀ o, (setObj p.blk o).run P w = .ok () { w with heap := w.heap.setIfInBounds p.blk o } := fun o => by simp [setObj, Sem.run, h2]
      have hgr : ∀ o, w.grownBy { w with heap := w.heap.setIfInBounds p.blk o } (some p.blk) := fun o => ⟨rfl, rfl, rfl, by simp, fun i hi hne => by
        show (w.heap.setIfInBounds p.blk o)[i]? = _
        rw [Array.getElem?_setIfInBounds, if_neg (fun e => hne (by rw [e]))]⟩
      have hat : ∀ o, ({ w with heap := w.heap.setIfInBounds p.blk o } : World).heap[p.blk]? = some o := fun o => by
        show (w.heap.setIfInBounds p.blk o)[p.blk]? = _
        rw [Array.getElem?_setIfInBounds, if_pos rfl, if_pos (Array.getElem?_eq_some_iff.1 h2).1]
      split at hk
      · rename_i l s
        split at hk
        · rename_i x n hx hn
          obtain ⟨hK, hk⟩ := hk
          have hk' : (PV.agg (C.enc x)).R pl kv := by
            obtain ⟨vs, rfl, hv⟩ := hkv
            exact ⟨vs, rfl, C.dec_ok _ _ _ _ hx hv⟩
          have hvv : vv = .int .i64 n := i64_R hn hv
          have hv' : (PV.one (.sym .i64 n)).R pl vv := .inr (by rw [hvv]; rfl)
          have hck := fun em => keyLaw_check (P := P) hK hk' w em
          have hfk := findKeyO_sound (P := P) hK hk' h1 w
          cases hmx : mix C.deq x es 0 with
          | none =>
            have e : mput C es x n = es ++ [(x, n)] := by unfold mput; rw [hmx]
            rw [e] at hk
            simp only [hmx, Option.map_none] at hfk
            refine ⟨_, _, ?_, hk, hR.updG hp hg rfl (hgr (.map (ms.push { key := kv, val := vv, born := clock }) (clock + 1))) (x' := .omp C (es ++ [(x, n)])) ⟨_, clock + 1, ?_, hat _⟩⟩
            · simp [Instr.mapUpdate, run_underlying hu, hgo, hck, hfk, hset]
            · rw [omE_append]
              simpa using EntR_append h1 (show EntR pl (omE C [(x, n)]) [{ key := kv, val := vv, born := clock }] from ⟨hk', hv', trivial⟩)
          | some z =>
            obtain ⟨j, n0⟩ := z
            have e : mput C es x n = es.set j (x, n) := by unfold mput; rw [hmx]
            rw [e] at hk
            simp only [hmx, Option.map_some] at hfk
            obtain ⟨k0, rfl, hk0⟩ := mix_get hmx
            rw [Nat.zero_add] at *
            obtain ⟨en, hen, hkey⟩ := EntR_get h1 hk0
            have hj : ms[k0]? = some en := by simpa using hen
            have hsb : Instr.sameBits 10000 en.key kv = true := by
              have := PV.known_eq (p := .agg (C.enc x)) (C.known_ok x) hkey hk'
              rw [this]
              obtain ⟨vs, rfl, hvs⟩ := hk'
              simp only [Instr.sameBits, BEq.rfl, Bool.true_and]
              simpa using sameBits_nums (hK.2 x) hvs 9999
            refine ⟨_, _, ?_, hk, hR.updG hp hg rfl (hgr (.map (ms.modify k0 fun e => { e with key := kv, val := vv }) clock)) (x' := .omp C (es.set k0 (x, n))) ⟨_, clock, ?_, hat _⟩⟩
            · simp [Instr.mapUpdate, run_underlying hu, hgo, hck, hfk, hj, Instr.keyThatStays, hsb, hset]
            · simpa [Array.toList_modify] using EntR_set hk' hv' k0 h1
        · exact hk.elim
      · exact hk.elim
    · exact hk.elim
  · exact hk.elim
theorem makeX_sound [Glob] (hR : HRel w0 Sx pl h w) {t : Nat} {l c : AV} {K : KV} {vl vc : Value} (hl : l.R pl vl) (hc : c.R pl vc) (hk : makeX P t l c h K) :
    ∃ w' v av h' pl', (Instr.makeSlice t vl vc).run P w = .ok v w' ∧ K av h' ∧ av.R pl' v ∧ PExt pl pl' ∧ HRel w0 Sx pl' h' w' := by
  unfold makeX at hk
  split at hk
  · rename_i e n m hu hn hm
    obtain ⟨k1, rfl⟩ := litB_R hn hl
    obtain ⟨k2, rfl⟩ := litB_R hm hc
    split at hk
    · rename_i z sz by_ hz hs hb
      split at hk
      · rename_i hcond
        obtain ⟨h1, h2, h3, h4, h5⟩ := hcond
        obtain ⟨i, v, hi, hv, rfl⟩ := zeroOf_spec hz
        have hsz := info_size hs
        rw [hi] at hsz
        simp at hsz
        have hby : i.bytes = by_ := by simpa [bytes?, hi] using hb
        have hzl : v.cells.size = sz + 1 := by rw [← h5, len'_eq, (ofValue_cells (pl := pl) v).length]; simp
        have hbm : (i.bytes : Int) * (m : Int) ≤ 281474976710656 := by
          have : i.bytes * m ≤ 65536 * 65536 := Nat.mul_le_mul (by omega) (by omega)
          have h7 : ((i.bytes * m : Nat) : Int) ≤ 281474976710656 := by omega
          rwa [Int.natCast_mul] at h7
        have hrun := run_makeSlice (P := P) w t e i v hu hi hv k1 k2 (n : Int) (m : Int) (by omega) (by omega) (by rw [hsz, Int.toNat_natCast]; omega) hbm (by omega)
        rw [Int.toNat_natCast, Int.toNat_natCast] at hrun
        have hcells : madeCells v.cells (m * i.size) = (List.flatten (List.replicate m v.cells.toList)).toArray := by
          apply Array.ext'
          rw [hsz, ← hzl]
          simpa [madeCells] using zeros_eq v.cells m
        rw [hcells] at hrun
        have ⟨hR', hp⟩ := hR.push (T := e) (repC_R (ofValue_cells (pl := pl) v) m)
        refine ⟨_, _, _, _, _, hrun, hk, .inr ?_, hp, hR'⟩
        simp [SV.val, addrOf, len'_eq, ← hR.len]
      · exact hk.elim
    · exact hk.elim
  · exact hk.elim
theorem lenX_R {x : AV} {n : Nat} (h : lenX x = some n) {v : Value} (hv : x.R pl v) : ∃ a c, v = .slice a n c := by
  unfold lenX at h
  split at h
  · cases h
    obtain ⟨ad, _, rfl⟩ := sl_R hv
    exact ⟨_, _, rfl⟩
  · cases h
    obtain ⟨p, hp, hc⟩ := ow_R' hv
    rcases hc with ⟨_, _, h1, h2⟩ | ⟨_, h2⟩
    · rw [h2, h1]; exact ⟨_, _, rfl⟩
    · exact ⟨_, _, h2⟩
  · cases h
    rw [nils_R hv]
    exact ⟨_, _, rfl⟩
  · cases h
theorem cellsX_run [Glob] (hR : HRel w0 Sx pl h w) {x : AV} {n : Nat} {cs : List SV} (hc : cellsX h x n = some cs) {a : Option Addr} {m c : Nat} (hv : x.R pl (.slice a m c)) :
    ∃ us, RL pl cs us ∧ us.length = n ∧ ∀ z k, k * z = n → (Builtin.firstCells z k (.slice a m c)).run P w = .ok us.toArray w := by
  unfold cellsX at hc
  split at hc
  · rename_i b off len cap
    obtain ⟨ad, had, hv⟩ := sl_R hv
    cases hv
    split at hc
    · rename_i T ds hg
      rw [get?_eq] at hg
      unfold addrOf at had
      cases hp : pl[b]? with
      | none => simp [hp] at had
      | some p =>
        simp [hp] at had
        obtain ⟨vs, h1, h2⟩ := hR.hb b _ p hg hp
        have ⟨h3, h4⟩ := (h1.drop off).takeE hc
        refine ⟨_, h3, by rw [List.length_take]; omega, fun z k hk => ?_⟩
        have hl := run_loadCells_list (P := P) w ad ((vs.drop off).take n) (fun j v hj => by
          rw [← had, Addr.add_lit]
          have hj' : vs[off + j]? = some v := by
            have h5 : j < n := by
              have := (List.getElem?_eq_some_iff.1 hj).1
              rw [List.length_take] at this
              omega
            rw [List.getElem?_take_of_lt h5, List.getElem?_drop] at hj
            exact hj
          have := Seen.of_row h2 (off + j) v hj'
          rwa [Nat.zero_add] at this)
        have e : ((vs.drop off).take n).length = n := by rw [List.length_take]; omega
        rw [e] at hl
        simp [Builtin.firstCells, hk, hl]
    · cases hc
  · rename_i b z0 len
    obtain ⟨p, hp, hpc⟩ := ow_R hv (.inr rfl)
    split at hc
    · rename_i T z1 n1 ds hg
      rw [get?_eq] at hg
      obtain ⟨vs, h1, h2⟩ := hR.hb b _ p hg hp
      have ⟨h3, h4⟩ := h1.takeE hc
      refine ⟨_, h3, by rw [List.length_take]; omega, fun z k hk => ?_⟩
      rcases hpc with ⟨hn, _, _, h5⟩ | ⟨hn, h5⟩
      · cases h5
        have h6 : vs.length = 0 := by
          rcases Nat.eq_zero_or_pos vs.length with h0 | h0
          · exact h0
          · have := own_nonnil h2 h0
            rw [hn] at this
            cases this
        have : n = 0 := by omega
        subst this
        simp [Builtin.firstCells]
      · cases h5
        have hl := run_loadCells_list (P := P) w ⟨p.blk, 0 * z0, none⟩ (vs.take n) (fun j v hj => by
          have h6 : j < n := by
            have := (List.getElem?_eq_some_iff.1 hj).1
            rw [List.length_take] at this
            omega
          rw [List.getElem?_take_of_lt h6] at hj
          have := Seen.of_own h2 j v hj
          rw [Addr.add_lit]
          simpa using this)
        have e : (vs.take n).length = n := by rw [List.length_take]; omega
        rw [e] at hl
        simp [Builtin.firstCells, hk] at hl ⊢
        simp [hl]
    · cases hc
  · split at hc
    · rename_i h0
      cases hc
      have := nils_R hv
      cases this
      exact ⟨[], trivial, h0.symm, fun z k hk => by simp [Builtin.firstCells]⟩
    · cases hc
  · cases hc
theorem clearX_sound [Glob] (hR : HRel w0 Sx pl h w) {ts : List Nat} {l : List AV} {K : KV} {vs : List Value} (hl : ArgsR pl l vs) (hk : clearX P ts l h K) :
    ∃ w' h', (∀ ty, (Builtin.clear_ ts.toArray ty vs.toArray).run P w = .ok (.tuple #[]) w') ∧ K AV.undef h' ∧ HRel w0 Sx pl h' w' := by
  unfold clearX at hk
  split at hk
  · rename_i t
    match vs, hl with
    | [vx], hl =>
      split at hk
      · rename_i e hu
        refine ⟨w, h, fun ty => ?_, hk, hR⟩
        have := nils_R (show (AV.v (.one .nils)).R pl vx from hl.1)
        subst this
        simp [Builtin.clear_, run_underlying hu]
      · exact hk.elim
  · rename_i t b esz st len
    match vs, hl with
    | [vx], hl =>
      have hx : (AV.v (.one (.ow b esz st len true))).R pl vx := hl.1
      split at hk
      · rename_i e hu
        split at hk
        · rename_i h0
          have h0 : len = 0 := by simpa using h0
          subst h0
          refine ⟨w, h, fun ty => ?_, hk, hR⟩
          obtain ⟨p, _, hc⟩ := ow_R' hx
          rcases hc with ⟨_, _, _, h2⟩ | ⟨_, h2⟩
          · simp [Builtin.clear_, run_underlying hu, h2]
          · simp [Builtin.clear_, run_underlying hu, h2]
        · rename_i h0
          have h0 : 0 < len := by have : ¬ len = 0 := by simpa using h0
                                  omega
          split at hk
          · rename_i z sz T z1 n cs hz hsz hg
            rw [get?_eq] at hg
            split at hk
            · rename_i hc
              simp only [Bool.and_eq_true, decide_eq_true_eq] at hc
              obtain ⟨⟨rfl, hlz⟩, hkn⟩ := hc
              split at hk
              · rename_i cs' ho
                obtain ⟨i, v, hi, hv, rfl⟩ := zeroOf_spec hz
                obtain ⟨p, hp, hc⟩ := ow_R hx (.inl h0)
                rcases hc with ⟨_, _, h1, _⟩ | ⟨hpn, h2⟩
                · omega
                obtain ⟨us0, hr, hown⟩ := hR.hb b _ p hg hp
                have hzr := repC_R (ofValue_cells (pl := pl) v) len
                have ⟨ho1, ho2⟩ := over_spec hr hzr ho
                have hzl : v.cells.size = sz + 1 := by rw [← hlz, len'_eq, (ofValue_cells (pl := pl) v).length]; simp
                have hpos : 0 < (List.flatten (List.replicate len v.cells.toList)).length := by
                  rw [← zeros_eq]
                  simp only [Array.length_toList, Array.size_map, Array.size_range, hzl]
                  exact Nat.mul_pos h0 (Nat.succ_pos _)
                obtain ⟨cur', g1, g2⟩ := own_store (P := P) hown ho2 hpos (knownAll_oneCell hkn hzr)
                refine ⟨w.setRow p.blk cur', _, fun ty => ?_, hk, hR.upd hp hg (by simp [Blk.alive, hpn]) (x' := .ownL T z1 n cs') ⟨_, ho1, g2⟩⟩
                subst h2
                rw [← zeros_eq] at g1
                have hzv : (zeroValue e).run P w = .ok v w := by simp [zeroValue, typeInfo, hi, hv]
                have hzc : (Builtin.zeroCells v.cells len).toList = ((Array.range (len * v.cells.size)).map (fun i => v.cells[i % v.cells.size]!)).toList := rfl
                obtain ⟨k, rfl⟩ : ∃ k, len = k + 1 := ⟨len - 1, by omega⟩
                simp only [Builtin.clear_]
                have hst : (storeCells ⟨p.blk, st * (sz + 1), none⟩ (Builtin.zeroCells v.cells (k + 1)).toList).run P w = .ok () (w.setRow p.blk cur') := by rw [hzc]; exact g1
                simp [run_underlying hu, hzv, hst]
              · exact hk.elim
            · exact hk.elim
          · exact hk.elim
      · exact hk.elim
  · exact hk.elim
theorem copyX_sound [Glob] (hR : HRel w0 Sx pl h w) {ts : List Nat} {l : List AV} {K : KV} {vs : List Value} (hl : ArgsR pl l vs) (hk : copyX P ts l h K) :
    ∃ w' v av h', (∀ ty, (Builtin.copy_ ts.toArray ty vs.toArray).run P w = .ok v w') ∧ K av h' ∧ av.R pl v ∧ HRel w0 Sx pl h' w' := by
  unfold copyX at hk
  split at hk
  · rename_i t t' x y
    match vs, hl with
    | [vx, vy], hl =>
      split at hk
      · rename_i e n m hu htt hn hm
        obtain ⟨ax, cx, hvx⟩ := lenX_R hn hl.1
        obtain ⟨ay, cy, hvy⟩ := lenX_R hm hl.2.1
        have hx := hl.1
        have hy := hl.2.1
        rw [hvx] at hx
        rw [hvy] at hy
        split at hk
        · rename_i sz hz
          split at hk
          · rename_i cs hcs
            split at hk
            · rename_i hkn
              obtain ⟨us, h1, h2, h3⟩ := cellsX_run (P := P) hR hcs hy
              have hone := knownAll_oneCell hkn h1
              have hfc := h3 (sz + 1) (Nat.min m n) rfl
              split at hk
              · rename_i b off len cap _
                obtain ⟨ad, had, hv⟩ := sl_R hx
                cases hv
                split at hk
                · rename_i T ds hg
                  rw [get?_eq] at hg
                  unfold addrOf at had
                  cases hq : pl[b]? with
                  | none => simp [hq] at had
                  | some q =>
                    simp [hq] at had
                    subst had
                    split at hk
                    · rename_i ds' ho
                      obtain ⟨ws, k1, k2⟩ := hR.hb b _ q hg hq
                      have ⟨ho1, ho2⟩ := over_spec k1 h1 ho
                      have hst := run_storeCells_at P q.blk off T us 0 ws.toArray w k2 (by simpa using ho2) hone
                      simp only [Nat.add_zero, List.toList_toArray] at hst
                      refine ⟨w.setRow q.blk (List.take off ws ++ us ++ List.drop (off + us.length) ws).toArray, _, _, _, fun ty => ?_, hk, mkI_R pl true .i64 _, hR.upd hq hg rfl ⟨_, ho1, setRow_heap w q.blk _ _ T (0, 0) k2⟩⟩
                      rw [hvx, hvy]
                      simp [Builtin.copy_, run_underlying hu, Builtin.lenOf, run_size hz, hfc, hst, goInt]
                    · exact hk.elim
                · exact hk.elim
              · have := nils_R hx
                cases this
                refine ⟨w, _, _, _, fun ty => ?_, hk, mkI_R pl true .i64 _, hR⟩
                rw [hvx, hvy]
                have hn0 : Nat.min m 0 = 0 := by simp
                simp only [hn0] at hfc
                simp [Builtin.copy_, run_underlying hu, Builtin.lenOf, run_size hz, hfc, goInt, hn0]
              · exact hk.elim
            · exact hk.elim
          · exact hk.elim
        · exact hk.elim
      · exact hk.elim
  · exact hk.elim
end
end Go.AM

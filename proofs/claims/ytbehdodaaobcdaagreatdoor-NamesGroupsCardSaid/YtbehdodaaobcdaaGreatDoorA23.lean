import Derived.Test.YtbehdodaaobcdaaGreatDoorA17
import Derived.Test.YtbehdodaaobcdaaGreatDoorA20
set_option maxHeartbeats 4000000
namespace Go.AM
open Go Go.RowKit
def owOf : List SV → Option Nat
  | [] => none
  | .ow c _ _ _ _ :: _ => some c
  | _ :: l => owOf l
def eraS : SV → SV
  | .con k n => .sym k n
  | .cb b => .sb b
  | .cstr s => .str s
  | s => s
theorem eraS_R {pl : List Pl} {s : SV} {v : Value} (h : s.R pl v) : (eraS s).R pl v := by
  unfold eraS
  split
  · exact h.imp (fun h => by cases h) id
  · exact h.imp (fun h => by cases h) id
  · exact h.imp (fun h => by cases h) id
  · exact h
def ren1 (a b : Nat) : List SV → Option (List SV)
  | [] => some []
  | .ow c z st n q :: l => if c = a then (match ren1 a b l with | some r => some (.ow b z st n q :: r) | none => none) else none
  | s :: l => if s.below 0 then (match ren1 a b l with | some r => some (eraS s :: r) | none => none) else none
theorem low1 {pl pl' : List Pl} {s : SV} {v : Value} (hb : s.below 0 = true) (h : s.R pl v) : s.R pl' v := by
  have := AV.R_take (n := 0) (s := .v (.one s)) hb h
  simp at this
  exact SV.R.ext (pl := []) (fun b p hb => by simp at hb) this
theorem ren1_R {a b : Nat} {pl pl' : List Pl} {p : Pl} (ha : pl[a]? = some p) (hb : pl'[b]? = some p) : ∀ {l r : List SV} {vs : List Value}, ren1 a b l = some r → RL pl l vs → RL pl' r vs
  | [], r, [], h, _ => by simp [ren1] at h; subst h; trivial
  | [], _, _ :: _, _, h => h.elim
  | _ :: _, _, [], _, h => h.elim
  | s :: l, r, v :: vs, h, hr => by
    unfold ren1 at h
    split at h
    · cases ‹s :: l = []›
    · rename_i c z st n q l' he
      cases he
      split at h
      · rename_i hc
        subst hc
        split at h
        · rename_i r' hr'
          cases h
          refine ⟨?_, ren1_R ha hb hr' hr.2⟩
          rcases hr.1 with h | h
          · cases h
          · refine .inr ?_
            simp only [SV.val, owVal, ha, hb] at h ⊢
            exact h
        · cases h
      · cases h
    · rename_i s' l' _ he
      cases he
      split at h
      · rename_i hlow
        split at h
        · rename_i r' hr'
          cases h
          exact ⟨eraS_R (low1 hlow hr.1), ren1_R ha hb hr' hr.2⟩
        · cases h
      · cases h
abbrev MSpec (C : Codec) := List AV → List SV → List C.τ → Option (Prop × AV × List SV)
def stSpec (T Tt : Nat) (C : Codec) (q : MSpec C) : ASpec := fun args h K => match args with
  | .v (.one (.ptr rb 0)) :: os => if noPtrs os then (match get? h rb with
    | some (.row T' cs) => (match owOf cs with
      | some lb => (match ren1 lb 1 cs, get? h lb with
        | some cs1, some (.own Tt' C' xs) => if decide (T' = T) && decide (Tt' = Tt) && decide (C'.esz = C.esz) then ∃ ys : List C.τ, SameRows C ys C' xs ∧ (match q os cs1 ys with
          | some (p, v, cs2) => (match ren1 1 lb cs2 with
            | some cs3 => if v.below 0 then p ∧ K v (set h rb (.row T cs3)) else False
            | none => False)
          | none => False) else False
        | _, _ => False)
      | none => False)
    | _ => False) else False
  | _ => False
theorem stSpec_mono {T Tt : Nat} {C : Codec} {q : MSpec C} {args : List AV} {h : Heap} {K K' : KV} (hK : ∀ v h, K v h → K' v h) (hk : stSpec T Tt C q args h K) : stSpec T Tt C q args h K' := by
  unfold stSpec at hk ⊢
  split at hk
  · split at hk
    · rename_i h1
      rw [if_pos h1]
      split at hk
      · split at hk
        · split at hk
          · split at hk
            · rename_i h2
              rw [if_pos h2]
              obtain ⟨ys, h3, h4⟩ := hk
              refine ⟨ys, h3, ?_⟩
              split at h4
              · split at h4
                · split at h4
                  · rename_i h5
                    rw [if_pos h5]
                    exact ⟨h4.1, hK _ _ h4.2⟩
                  · exact h4.elim
                · exact h4.elim
              · exact h4.elim
            · exact hk.elim
          · exact hk.elim
        · exact hk.elim
      · exact hk.elim
    · exact hk.elim
  · exact hk.elim
section
variable {P : Program}
def HoldsS [Glob] (P : Program) (f T Tt : Nat) (C : Codec) (q : MSpec C) : Prop :=
  ∃ fn, P.funcs[f]? = some fn ∧ fn.body.isSome = true ∧ ∀ os cs ys p v cs2, q os cs ys = some (p, v, cs2) → p → noPtrs os = true →
    ∃ n A S os', A.q = 2 ∧ OkS P S ∧ noPtrs os' = true ∧ (∀ pl vs, ArgsR pl os vs → ArgsR pl os' vs) ∧ CallR P S A n fn (.v (.one (.ptr 0 0)) :: os') [.row T cs, .own Tt C ys] (fun v' h' => MatchTo 2 [v'] h' ([v], [.row T cs2, .own Tt C ys]))
theorem OkS.addSt [Glob] (hF : Fine P) {S : Sums} (h : OkS P S) {f T Tt : Nat} {C : Codec} {q : MSpec C} (hq : HoldsS P f T Tt C q) : OkS P (S.addSp f (stSpec T Tt C q)) := by
  refine ⟨h.pure, ⟨fun g sp hg => ?_, h.spec.2⟩, fun g sp hg => ?_⟩
  · by_cases e : g = f
    · subst e
      simp only [Sums.addSp, if_true] at hg
      cases hg
      obtain ⟨fn, hf, hfb, hrun⟩ := hq
      refine ⟨⟨fn, hf, hfb⟩, fun args hh K hsp w0 Sx pl w vals hR hargs => ?_⟩
      unfold stSpec at hsp
      split at hsp
      · rename_i rb os
        split at hsp
        · rename_i hno
          split at hsp
          · rename_i T' cs hg
            rw [get?_eq] at hg
            split at hsp
            · rename_i lb hlb
              split at hsp
              · rename_i cs1 Tt' C' xs hren hl
                rw [get?_eq] at hl
                split at hsp
                · rename_i hc
                  simp only [Bool.and_eq_true, decide_eq_true_eq] at hc
                  obtain ⟨⟨rfl, rfl⟩, hce⟩ := hc
                  obtain ⟨ys, hsr, hsp⟩ := hsp
                  split at hsp
                  · rename_i pr v cs2 hqq
                    split at hsp
                    · rename_i cs3 hren2
                      split at hsp
                      · rename_i hlow
                        obtain ⟨hpr, hK⟩ := hsp
                        match vals, hargs with
                        | [], hargs => exact hargs.elim
                        | v0 :: vals, hargs =>
                        obtain ⟨ad, had, rfl⟩ := ptr_R hargs.1
                        have hlr : rb < pl.length := by rw [hR.len]; exact (List.getElem?_eq_some_iff.1 hg).1
                        have hll : lb < pl.length := by rw [hR.len]; exact (List.getElem?_eq_some_iff.1 hl).1
                        obtain ⟨p, hp⟩ : ∃ p, pl[rb]? = some p := ⟨_, List.getElem?_eq_getElem hlr⟩
                        obtain ⟨pq, hpq⟩ : ∃ p, pl[lb]? = some p := ⟨_, List.getElem?_eq_getElem hll⟩
                        have had' : ad = ⟨p.blk, 0, none⟩ := by simpa [addrOf, hp] using had.symm
                        subst had'
                        have hne : rb ≠ lb := fun e => by subst e; rw [hg] at hl; cases hl
                        have hal : Blk.alive (.row T' cs) p = true := rfl
                        obtain ⟨vs, hvs, hw⟩ := hR.hb rb _ p hg hp
                        obtain ⟨us, hus, how⟩ := hR.hb lb _ pq hl hpq
                        have hrow := hR.own rb p _ hp hg hal
                        have hown : pq.nil = false → (w0.heap.size ≤ pq.blk ∨ Sx pq.blk) ∧ pq.blk < w.heap.size ∧ pq.blk ≠ p.blk := fun hn => by
                          have ha : Blk.alive (.own Tt' C' xs) pq = true := by simp [Blk.alive, hn]
                          exact ⟨hR.own lb pq _ hpq hl ha, hR.lt lb pq _ hpq hl ha, fun e => hne (hR.inj lb rb pq p _ _ hpq hp hl hg ha hal e).symm⟩
                        have hglob : ∀ k, Glob.blk k → k < w0.heap.size ∧ ¬ Sx k := fun k hk => ⟨Glob.lt w0 k hR.rok.2.1 hk, hR.rok.2.2 k hk⟩
                        -- the two alone
                        have hR1 : HRel w ⟨fun k => k = p.blk ∨ (pq.nil = false ∧ k = pq.blk), fun _ => False⟩ [p, pq] [.row T' cs1, .own Tt' C ys] w := by
                          refine ⟨rfl, ⟨rfl, rfl, rfl, Nat.le_refl _, fun _ _ _ => rfl⟩, ?_, ?_, ?_, ?_, ?_, ⟨fun k hk => hk.elim, hR.tabw, fun k hk hs => ?_⟩, fun _ => Nat.le_refl _⟩
                          · intro b x q hx hq
                            match b, hx, hq with
                            | 0, hx, hq =>
                              simp at hx hq
                              subst hx hq
                              exact ⟨vs, ren1_R hpq rfl hren hvs, hw⟩
                            | 1, hx, hq =>
                              simp at hx hq
                              subst hx hq
                              refine ⟨us, RL_of_low (flat_low ys) (same_R hsr hus), ?_⟩
                              rw [hsr.hl', ← hce]
                              exact how
                            | _ + 2, hx, _ => simp at hx
                          · intro b q x hq hx ha
                            match b, hx, hq with
                            | 0, hx, hq => simp at hx hq; subst hx hq; exact hR.lt rb p _ hp hg hal
                            | 1, hx, hq => simp at hx hq; subst hx hq; exact (hown (by simpa [Blk.alive] using ha)).2.1
                            | _ + 2, hx, _ => simp at hx
                          · intro b q x hq hx ha
                            match b, hx, hq with
                            | 0, hx, hq => simp at hx hq; subst hx hq; exact .inr (.inl rfl)
                            | 1, hx, hq => simp at hx hq; subst hx hq; exact .inr (.inr ⟨by simpa [Blk.alive] using ha, rfl⟩)
                            | _ + 2, hx, _ => simp at hx
                          · intro b c q1 q2 x y hb hc hx hy hax hay e
                            match b, c, hb, hc, hx, hy with
                            | 0, 0, _, _, _, _ => rfl
                            | 1, 1, _, _, _, _ => rfl
                            | 0, 1, hb, hc, hx, hy =>
                              simp at hb hc hx hy
                              subst hb hc hx hy
                              exact absurd e.symm (hown (by simpa [Blk.alive] using hay)).2.2
                            | 1, 0, hb, hc, hx, hy =>
                              simp at hb hc hx hy
                              subst hb hc hx hy
                              exact absurd e (hown (by simpa [Blk.alive] using hax)).2.2
                            | _ + 2, _, _, _, hx, _ => simp at hx
                            | _, _ + 2, _, _, _, hy => simp at hy
                          · intro b q x hq hx hd
                            match b, hx, hq with
                            | 0, hx, hq => simp at hx; subst hx; cases hd
                            | 1, hx, hq => simp at hx; subst hx; cases hd
                            | _ + 2, hx, _ => simp at hx
                          · have hk2 := hglob k hk
                            rcases hs with rfl | ⟨hn, rfl⟩
                            · rcases hrow with h1 | h1
                              · omega
                              · exact hk2.2 h1
                            · rcases (hown hn).1 with h1 | h1
                              · omega
                              · exact hk2.2 h1
                        obtain ⟨n, A, S0, os', hA, hS0, hno', hos, hcall⟩ := hrun os cs1 ys pr v cs2 hqq hpr hno
                        have hargs1 : ArgsR [p, pq] (.v (.one (.ptr 0 0)) :: os') (.pointer (some ⟨p.blk, 0, none⟩) :: vals) :=
                          ⟨.inr (by simp [SV.val, addrOf]), (noPtrs_R hno' (hos _ _ hargs.2)).ext (fun b q hb => by simp at hb)⟩
                        refine (call_sound hF hS0.pure hS0.spec hS0.mono hf hcall.out (.inl (by simpa using hA)) hR1 hargs1).mono ?_
                        rintro e w' ⟨v', av, h', pl0, rfl, hv0, hpe0, hR0, hmt⟩
                        rw [MatchTo_eq] at hmt
                        have hlen2 : 2 ≤ pl0.length := by
                          have := hpe0 1 pq rfl
                          have := (List.getElem?_eq_some_iff.1 this).1
                          omega
                        obtain ⟨pl', hR', hE', hkeep⟩ := MatchBy_sound hmt hR0 (tmps := #[v']) ⟨rfl, fun t => by
                          cases t with
                          | zero => simpa [getD, Array.getD] using hv0
                          | succ t => exact any_R pl0 _⟩ hlen2
                        have hv' : v.R pl' v' := by simpa [getD, Array.getD] using hE'.2 0
                        have hp0 : pl'[0]? = some p := (hkeep 0 (by omega)).trans (hpe0 0 p rfl)
                        have hp1 : pl'[1]? = some pq := (hkeep 1 (by omega)).trans (hpe0 1 pq rfl)
                        obtain ⟨vs', hvs', hw'⟩ := hR'.hb 0 _ p rfl hp0
                        obtain ⟨us', hus', how'⟩ := hR'.hb 1 _ pq rfl hp1
                        have hkp : ∀ k, k < w.heap.size → k ≠ p.blk → (pq.nil = false → k ≠ pq.blk) → w'.heap[k]? = w.heap[k]? := fun k hk h1 h2 => hR'.fr.block k hk (fun h => by
                          rcases h with h | ⟨h3, h⟩
                          · exact h1 h
                          · exact h2 h3 h)
                        have hfr : Fr w0 Sx.S w' := ⟨hR'.fr.os.trans hR.fr.os, hR'.fr.tape.trans hR.fr.tape, hR'.fr.output.trans hR.fr.output, Nat.le_trans hR.fr.size hR'.fr.size, fun k hk hs => by
                          rw [hkp k (Nat.lt_of_lt_of_le hk hR.fr.size) (fun e => by subst e; rcases hrow with h1 | h1; omega; exact hs h1) (fun hn e => by subst e; rcases (hown hn).1 with h1 | h1; omega; exact hs h1)]
                          exact hR.fr.block k hk hs⟩
                        have hset : ∀ (b : Nat) x, (AM.set hh rb (.row T' cs3))[b]? = some x → (b = rb ∧ x = .row T' cs3) ∨ (b ≠ rb ∧ hh[b]? = some x) := fun b x hx => by
                          by_cases e : rb = b
                          · subst e
                            rw [get_set_same hg] at hx
                            exact .inl ⟨rfl, (Option.some.inj hx).symm⟩
                          · rw [get_set_other e] at hx
                            exact .inr ⟨fun h => e h.symm, hx⟩
                        refine ⟨v', v, _, pl, rfl, ?_, PExt.refl pl, ⟨by simp [set_eq, hR.len], hfr, ?_, ?_, ?_, ?_, ?_, hR.rok, fun d => Nat.le_trans (hR.drw d) (hR'.drw d)⟩, hK⟩
                        · have := AV.R_take (n := 0) hlow hv'
                          simp at this
                          exact this.ext (fun b p hb => by simp at hb)
                        · intro b x q hx hq
                          rcases hset b x hx with ⟨rfl, rfl⟩ | ⟨hbr, hx⟩
                          · rw [hp] at hq
                            cases hq
                            exact ⟨vs', ren1_R hp1 hpq hren2 hvs', hw'⟩
                          · by_cases hbl : b = lb
                            · subst hbl
                              rw [hl] at hx
                              cases hx
                              rw [hpq] at hq
                              cases hq
                              refine ⟨us', ?_, ?_⟩
                              · have hu2 : RL [] (flatC C ys) us' := by
                                  have := RL_of_low (pl' := []) (flat_low ys) hus'
                                  exact this
                                have hu3 : RL [] (flatC C' xs) us' := by rw [← hsr.hf']; exact hu2
                                exact RL_of_low (flat_low xs) hu3
                              · rw [hce, ← hsr.hl']
                                exact how'
                            · refine (hR.hb b x q hx hq).mono (PExt.refl pl) (fun ha => ?_) (fun hd => ?_)
                              · refine hkp _ (hR.lt b q x hq hx ha) (fun e => hbr (hR.inj b rb q p _ _ hq hp hx hg ha hal e)) (fun hn e => hbl (hR.inj b lb q pq _ _ hq hpq hx hl ha (by simp [Blk.alive, hn]) e))
                              · have h1 := hR.rok.1 _ (hR.ro b q x hq hx hd)
                                refine hkp _ (Nat.lt_of_lt_of_le h1.1 hR.fr.size) (fun e => ?_) (fun hn e => ?_)
                                · rw [e] at h1; rcases hrow with h2 | h2; omega; exact h1.2 h2
                                · rw [e] at h1; rcases (hown hn).1 with h2 | h2; omega; exact h1.2 h2
                        · intro b q x hq hx ha
                          refine Nat.lt_of_lt_of_le ?_ hR'.fr.size
                          rcases hset b x hx with ⟨rfl, rfl⟩ | ⟨_, hx⟩
                          · rw [hp] at hq; cases hq; exact hR.lt b p _ hp hg hal
                          · exact hR.lt b q x hq hx ha
                        · intro b q x hq hx ha
                          rcases hset b x hx with ⟨rfl, rfl⟩ | ⟨_, hx⟩
                          · rw [hp] at hq; cases hq; exact hrow
                          · exact hR.own b q x hq hx ha
                        · intro b c q1 q2 x y hb hc hx hy hax hay e
                          have key : ∀ (b : Nat) q x, pl[b]? = some q → (AM.set hh rb (.row T' cs3))[b]? = some x → x.alive q = true → ∃ z, hh[b]? = some z ∧ z.alive q = true := fun b q x hq hx ha => by
                            rcases hset b x hx with ⟨rfl, rfl⟩ | ⟨_, hx⟩
                            · exact ⟨_, hg, rfl⟩
                            · exact ⟨x, hx, ha⟩
                          obtain ⟨z1, k1, k2⟩ := key b q1 x hb hx hax
                          obtain ⟨z2, k3, k4⟩ := key c q2 y hc hy hay
                          exact hR.inj b c q1 q2 z1 z2 hb hc k1 k3 k2 k4 e
                        · intro b q x hq hx hd
                          rcases hset b x hx with ⟨rfl, rfl⟩ | ⟨_, hx⟩
                          · cases hd
                          · exact hR.ro b q x hq hx hd
                      · exact hsp.elim
                    · exact hsp.elim
                  · exact hsp.elim
                · exact hsp.elim
              · exact hsp.elim
            · exact hsp.elim
          · exact hsp.elim
        · exact hsp.elim
      · exact hsp.elim
    · simp only [Sums.addSp, if_neg e] at hg
      exact h.spec.1 g sp hg
  · by_cases e : g = f
    · subst e
      simp only [Sums.addSp, if_true] at hg
      cases hg
      intro args hh K K' hK hx
      exact stSpec_mono hK hx
    · simp only [Sums.addSp, if_neg e] at hg
      exact h.mono g sp hg
end
end Go.AM
open Go Go.AM Go.Proofs
namespace Go.AM
def Y0 (o : OnB) : Sums := { O6 with on := o }
theorem pY0 (o : OnB) : OkS P (Y0 o) := ⟨pO6.pure, pO6.spec, pO6.mono⟩
end Go.AM
open Go Go.AM Go.Proofs
namespace Go.AM
def u8? : SV → Option Int
  | .con .u8 n => some n
  | .sym .u8 n => some n
  | _ => none
def str? : SV → Option (List UInt8)
  | .cstr s => some s
  | .str s => some s
  | _ => none
theorem u8_R {s : SV} {n : Int} (h : u8? s = some n) {pl : List Pl} {v : Value} (hv : s.R pl v) : (SV.sym .u8 n).R pl v := by
  unfold u8? at h
  split at h
  · cases h; exact hv.imp (fun h => by cases h) id
  · cases h; exact hv
  · cases h
theorem str_R' {s : SV} {n : List UInt8} (h : str? s = some n) {pl : List Pl} {v : Value} (hv : s.R pl v) : (SV.str n).R pl v := by
  unfold str? at h
  split at h
  · cases h; exact hv.imp (fun h => by cases h) id
  · cases h; exact hv
  · cases h
theorem i64_R' {s : SV} {n : Int} (h : i64? s = some n) {pl : List Pl} {v : Value} (hv : s.R pl v) : (SV.sym .i64 n).R pl v := by
  unfold i64? at h
  split at h
  · cases h; exact hv.imp (fun h => by cases h) id
  · cases h; exact hv
  · cases h
structure Tok where
  kind : Int
  text : List UInt8
  pos : Int
instance : DecidableEq Tok := fun a b => decidable_of_iff (a.kind = b.kind ∧ a.text = b.text ∧ a.pos = b.pos) (by cases a; cases b; simp)
def tokC : Codec where
  τ := Tok
  esz := 3
  enc t := [.sym .u8 t.kind, .str t.text, .sym .i64 t.pos]
  dec l := match l with
    | [k, s, n] => (match u8? k, str? s, i64? n with
      | some k, some s, some n => some ⟨k, s, n⟩
      | _, _, _ => none)
    | _ => none
  d := ⟨0, [], 0⟩
  len_ok _ := rfl
  known_ok _ := rfl
  dec_ok l t pl vs h hr := by
    split at h
    · rename_i k s n
      split at h
      · rename_i k' s' n' h1 h2 h3
        cases h
        match vs, hr with
        | [a, b, c], hr => exact ⟨u8_R h1 hr.1, str_R' h2 hr.2.1, i64_R' h3 hr.2.2.1, trivial⟩
        | [], hr => exact hr.elim
        | [_], hr => exact hr.2.elim
        | [_, _], hr => exact hr.2.2.elim
        | _ :: _ :: _ :: _ :: _, hr => exact hr.2.2.2.elim
      · cases h
    · cases h
  low_ok _ _ := rfl
  deq := inferInstanceAs (DecidableEq Tok)
structure DTok where
  kind : Int
  pos : Int
  next : Int
instance : DecidableEq DTok := fun a b => decidable_of_iff (a.kind = b.kind ∧ a.pos = b.pos ∧ a.next = b.next) (by cases a; cases b; simp)
def dtkC : Codec where
  τ := DTok
  esz := 3
  enc t := [.sym .u8 t.kind, .sym .i64 t.pos, .sym .i64 t.next]
  dec l := match l with
    | [k, s, n] => (match u8? k, i64? s, i64? n with
      | some k, some s, some n => some ⟨k, s, n⟩
      | _, _, _ => none)
    | _ => none
  d := ⟨0, 0, 0⟩
  len_ok _ := rfl
  known_ok _ := rfl
  dec_ok l t pl vs h hr := by
    split at h
    · rename_i k s n
      split at h
      · rename_i k' s' n' h1 h2 h3
        cases h
        match vs, hr with
        | [a, b, c], hr => exact ⟨u8_R h1 hr.1, i64_R' h2 hr.2.1, i64_R' h3 hr.2.2.1, trivial⟩
        | [], hr => exact hr.elim
        | [_], hr => exact hr.2.elim
        | [_, _], hr => exact hr.2.2.elim
        | _ :: _ :: _ :: _ :: _, hr => exact hr.2.2.2.elim
      · cases h
    · cases h
  low_ok _ _ := rfl
  deq := inferInstanceAs (DecidableEq DTok)
theorem holdsA {S : Sums} {f : Nat} {fn : Func} {q : PSpec} (A : Annos) (n : Nat) (hA : A.q = 0) (hf : P.funcs[f]? = some fn) (hb : fn.body.isSome = true)
    (h : ∀ args av, (q args).gives av → noPtrs args = true ∧ ∃ v, av.valOf = some v ∧ call P S A n fn args [] (fun v' h => v'.valOf = some v ∧ h = [])) : Holds P S f q :=
  ⟨fn, hf, hb, fun args av hg => by
    obtain ⟨h1, v, h2, h3⟩ := h args av hg
    exact ⟨h1, v, n, A, hA, h2, h3⟩⟩
def tk (ys : List Tok) (i : Nat) : Tok := ys.getD i ⟨0, [], 0⟩
def nx (ys : List Tok) (st : Nat) : Nat := if st + 1 < ys.length then st + 1 else st
def rdH (ys : List Tok) (st len : Nat) : Heap := [.row 76 [.ow 1 3 st len false], .own 80 tokC ys]
def ann2 : Annos := ⟨2, fun _ _ _ => none, fun _ _ _ => []⟩
def rdK (ys : List Tok) (v : AV) (st : Nat) : KV := fun v' h' => MatchTo 2 [v'] h' ([v], rdH ys st (ys.length - st))
end Go.AM
open Go Go.AM Go.Proofs
namespace Go.AM
def digB (b : UInt8) : Prop := 48 ≤ b.toNat ∧ b.toNat ≤ 57
def digs (s : List UInt8) : Prop := s ≠ [] ∧ ∀ b ∈ s, digB b
def numV (s : List UInt8) (most : Int) : Int := if 4 < s.length then -1 else if 1 < s.length ∧ s.getD 0 0 = 48 then -1 else if most < (Lib.atoi s).getD 0 then -1 else (Lib.atoi s).getD 0
theorem decFrom_some : ∀ {s : List UInt8} {a : Nat}, (∀ b ∈ s, digB b) → (Lib.decFrom a s).isSome = true
  | [], _, _ => rfl
  | b :: s, a, h => by
    have hb := h b (by simp)
    unfold digB at hb
    unfold Lib.decFrom Lib.digitVal
    rw [if_pos hb]
    exact decFrom_some (fun c hc => h c (by simp [hc]))
theorem atoi_some {s : List UInt8} (h : digs s) : (Lib.atoi s).isSome = true := by
  obtain ⟨h1, h2⟩ := h
  cases s with
  | nil => exact absurd rfl h1
  | cons b r =>
    have hb := h2 b (by simp)
    unfold digB at hb
    unfold Lib.atoi
    have e1 : ¬ (b == 45) = true := fun e => by
      have := congrArg UInt8.toNat (eq_of_beq e)
      simp at this
      omega
    have e2 : ¬ (b == 43) = true := fun e => by
      have := congrArg UInt8.toNat (eq_of_beq e)
      simp at this
      omega
    simp only [e1, e2]
    have := decFrom_some (a := 0) h2
    unfold Lib.decNat
    simp only [List.isEmpty_cons]
    cases hd : Lib.decFrom 0 (b :: r) with
    | none => rw [hd] at this; cases this
    | some n => simp
def qNumber : PSpec
  | [.v (.one (.str s)), .v (.one (.sym .i64 most))] => .iff (digs s) (.v (.one (.sym .i64 (numV s most))))
  | _ => .fail
theorem nfnum (s : List UInt8) (m : Int) (K : KV) : call P (Y0 stdOn) noAnn 1000 Tryz.f57 [.v (.one (.str s)), .v (.one (.sym .i64 m))] [] K = ((decide ((4:Int)<(↑s.length:Int))=true->K (.v (.one (.con .i64 (-1:Int)))) [])/\(decide ((4:Int)<(↑s.length:Int))=false->(decide ((1:Int)<(↑s.length:Int))=true->((0:Int)<=0/\(0:Int)<(↑s.length:Int))/\(decide ((↑(s.getD (Int.toNat 0) (0:UInt8)).toNat:Int)=48)=true->K (.v (.one (.con .i64 (-1:Int)))) [])/\(decide ((↑(s.getD (Int.toNat 0) (0:UInt8)).toNat:Int)=48)=false->(s.length.le 18/\(Lib.atoi s).isSome=true)/\(decide (m<(Lib.atoi s).getD 0)=true->K (.v (.one (.con .i64 (-1:Int)))) [])/\(decide (m<(Lib.atoi s).getD 0)=false->K (.v (.one (.sym .i64 ((Lib.atoi s).getD 0)))) [])))/\(decide ((1:Int)<(↑s.length:Int))=false->(s.length.le 18/\(Lib.atoi s).isSome=true)/\(decide (m<(Lib.atoi s).getD 0)=true->K (.v (.one (.con .i64 (-1:Int)))) [])/\(decide (m<(Lib.atoi s).getD 0)=false->K (.v (.one (.sym .i64 ((Lib.atoi s).getD 0)))) [])))) := by kernel_rfl
theorem leafQ {k : IntKind} {n m : Int} (h : n = m) : (AV.v (.one (.sym k n))).valOf = some (.int k m) ∧ ([] : Heap) = [] := by subst h; exact ⟨rfl, rfl⟩
theorem leafC {k : IntKind} {n m : Int} (h : n = m) : (AV.v (.one (.con k n))).valOf = some (.int k m) ∧ ([] : Heap) = [] := by subst h; exact ⟨rfl, rfl⟩
theorem givesIff {p : Prop} {v av : AV} (h : (OR.iff p v).gives av) : p ∧ av = v := by
  rcases h with h | ⟨q, h, hq⟩
  · cases h
  · injection h with h1 h2
    exact ⟨by rw [h1]; exact hq, h2.symm⟩
theorem hNumber : Holds P (Y0 stdOn) 57 qNumber := by
  refine holdsA (fn := Tryz.f57) noAnn 1000 rfl (by kernel_rfl) (by kernel_rfl) fun args av hg => ?_
  unfold qNumber at hg
  split at hg
  · rename_i s m
    obtain ⟨hd, rfl⟩ := givesIff hg
    refine ⟨rfl, .int .i64 (numV s m), rfl, ?_⟩
    rw [nfnum]
    have h0 : 0 < s.length := by cases s with
      | nil => exact absurd rfl hd.1
      | cons b r => simp
    have tail : (¬ (1 < s.length ∧ s.getD 0 0 = 48)) → s.length ≤ 4 → ((s.length.le 18 ∧ (Lib.atoi s).isSome = true) ∧ (decide (m < (Lib.atoi s).getD 0) = true → (AV.v (.one (.con .i64 (-1)))).valOf = some (.int .i64 (numV s m)) ∧ ([] : Heap) = []) ∧ (decide (m < (Lib.atoi s).getD 0) = false → (AV.v (.one (.sym .i64 ((Lib.atoi s).getD 0)))).valOf = some (.int .i64 (numV s m)) ∧ ([] : Heap) = [])) := by
      intro h1 h2
      refine ⟨⟨show s.length ≤ 18 by omega, atoi_some hd⟩, fun h3 => leafC ?_, fun h3 => leafQ ?_⟩
      · rw [numV, if_neg (by omega), if_neg h1, if_pos (by simpa using h3)]
      · rw [numV, if_neg (by omega), if_neg h1, if_neg (by simpa using h3)]
    have z48 : ((s.getD 0 0).toNat : Int) = 48 ↔ s.getD 0 0 = 48 := by
      constructor
      · intro h
        have h9 : (s.getD 0 0).toNat = 48 := by omega
        exact UInt8.toNat_inj.1 h9
      · intro h; rw [h]; rfl
    refine ⟨fun h => leafC ?_, fun h => ⟨fun h1 => ⟨⟨by omega, by omega⟩, fun h2 => leafC ?_, fun h2 => tail (fun hh => ?_) ?_⟩, fun h1 => tail (fun hh => ?_) ?_⟩⟩
    · rw [numV, if_pos (by have := of_decide_eq_true h; omega)]
    · have h := of_decide_eq_false h
      have h1 := of_decide_eq_true h1
      rw [numV, if_neg (by omega), if_pos ⟨by omega, z48.1 (of_decide_eq_true h2)⟩]
    · exact of_decide_eq_false h2 (z48.2 hh.2)
    · have h := of_decide_eq_false h; omega
    · have h1 := of_decide_eq_false h1; omega
    · have h := of_decide_eq_false h; omega
  · exact (gives_fail hg).elim
def Y1 (o : OnB) : Sums := (Y0 o).add 57 qNumber
theorem pY1 (o : OnB) : OkS P (Y1 o) := (pY0 o).add1 fine (pY0 stdOn) hNumber
end Go.AM

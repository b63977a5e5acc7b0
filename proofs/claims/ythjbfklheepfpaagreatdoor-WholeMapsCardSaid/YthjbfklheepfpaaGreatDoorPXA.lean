import Derived.Test.YthjbfklheepfpaaGreatDoorP3
import Derived.Lib.Join
import Derived.Lib.LaidTab
import Derived.Below
set_option linter.unusedVariables false
set_option linter.unusedSimpArgs false
set_option maxHeartbeats 4000000
namespace Go.AM
open Go Go.RowKit
section
variable {P : Program}
def HoldsC [Glob] (P : Program) (f : Nat) (q : PSpec) : Prop :=
  ∃ fn, P.funcs[f]? = some fn ∧ fn.body.isSome = true ∧ ∀ args av, (q args).gives av → noPtrs args = true ∧ ∃ v, av.valOf = some v ∧ ∀ (w : World) (vals : List Value), Glob.tab w → ArgsR [] args vals → Calls P f vals.toArray w (fun e w' => e = .returned v ∧ Fr w (fun _ => False) w')
theorem PureOk.addC [Glob] {S : Sums} (hP : PureOk P S) {f : Nat} {q : PSpec} (hq : HoldsC P f q) {m : List Bool} : PureOk P (S.add f q m) := by
  obtain ⟨fn, hf, hfb, hp⟩ := hq
  have core : ∀ args av, (q args).gives av → ∀ w0 Sx pl h vals, ArgsR pl args vals → ∃ v, ∀ w, HRel w0 Sx pl h w → av.R pl v ∧ Calls P f vals.toArray w (fun e w' => e = .returned v ∧ HRel w0 Sx pl h w') := by
    intro args av hg w0 Sx pl h vals hargs
    obtain ⟨h1, v, h2, h3⟩ := hp args av hg
    refine ⟨v, fun w hw => ⟨(AV.valOf_spec h2).1.ext (fun b p hp => by simp at hp), (h3 w vals hw.tabw (noPtrs_R h1 hargs)).mono ?_⟩⟩
    rintro e w' ⟨rfl, hfr⟩
    exact ⟨rfl, hw.later hfr⟩
  intro g p hg
  by_cases e : g = f
  · subst e
    simp only [Sums.add, if_true] at hg
    cases hg
    refine ⟨⟨fn, hf, hfb⟩, fun args av hgv w0 Sx pl h vals hargs => ?_⟩
    have hargs' := ArgsR_era (m := m) hargs
    unfold liftQ at hgv
    split at hgv
    · obtain ⟨av', h1, rfl⟩ := gives_map hgv
      obtain ⟨v, hv⟩ := core _ _ h1 w0 Sx pl h vals hargs'
      exact ⟨v, fun w hw => ⟨(AV.R_map lit_ok.1 lit_ok.2).2 (hv w hw).1, (hv w hw).2⟩⟩
    · exact core _ _ hgv w0 Sx pl h vals hargs'
  · simp only [Sums.add, if_neg e] at hg
    exact hP g p hg
theorem OkS.addC [Glob] {S : Sums} (h : OkS P S) {f : Nat} {q : PSpec} (hq : HoldsC P f q) {m : List Bool} : OkS P (S.add f q m) := ⟨h.pure.addC hq, h.spec, h.mono⟩
theorem Fr.of_below {w w' : World} (h : Below w.heap.size w w') : Fr w (fun _ => False) w' := ⟨h.os, h.tape, h.output, h.size, fun k hk _ => h.block k hk⟩
def strsOf : List SV → Option (Bool × List (List UInt8))
  | [] => some (true, [])
  | .cstr s :: l => (match strsOf l with | some (c, r) => some (c, s :: r) | none => none)
  | .str s :: l => (match strsOf l with | some (_, r) => some (false, s :: r) | none => none)
  | _ :: _ => none
theorem strsOf_R {pl : List Pl} : ∀ {l : List SV} {c : Bool} {r : List (List UInt8)} {vs : List Value}, strsOf l = some (c, r) → RL pl l vs → vs = r.map (fun s => Value.string ⟨s.toArray⟩)
  | [], c, r, [], h, _ => by simp [strsOf] at h; rw [h.2]; rfl
  | [], _, _, _ :: _, _, h => h.elim
  | _ :: _, _, _, [], _, h => h.elim
  | x :: l, c, r, v :: vs, h, hr => by
    unfold strsOf at h
    split at h
    · cases ‹x :: l = []›
    · rename_i s l' he
      cases he
      split at h
      · rename_i c' r' h'
        cases h
        have h1 := cstr_R (pl := pl) (s := s) (v := v) hr.1
        rw [h1, strsOf_R h' hr.2]
        rfl
      · cases h
    · rename_i s l' he
      cases he
      split at h
      · rename_i c' r' h'
        cases h
        have h1 := str_R (pl := pl) (s := s) (v := v) hr.1
        rw [h1, strsOf_R h' hr.2]
        rfl
      · cases h
    · cases h
def joinSpec : ASpec := fun args h K => match args with
  | [.v (.one (.ow b z 0 n true)), sp] => (match get? h b, litStr sp with
    | some (.ownL _ z3 n3 cs), some (c2, sep) => (match strsOf cs with
      | some (c1, l) => if decide (z = 1) && decide (z3 = 1) && decide (n3 = n) && decide (0 < n) && decide (n ≤ 65536) then
          ((Lib.join l sep).length ≤ 140737488355328) ∧ K (.v (.one (if c1 && c2 then .cstr (Lib.join l sep) else .str (Lib.join l sep)))) h else False
      | none => False)
    | _, _ => False)
  | _ => False
theorem OkS.addJoin [Glob] {S : Sums} (h : OkS P S) {f : Nat} (hb : ∃ fn, P.funcs[f]? = some fn ∧ fn.body.isSome = true)
    (hj : ∀ (bk o c : Nat) (xs : List ByteArray) (sep : ByteArray) (w : World), (∀ (j : Nat) x, xs[j]? = some x → w.cell? ⟨bk, o + j, none⟩ = some (.string x)) → bk < w.heap.size → xs.length ≤ 140737488355328 → xs.length ≤ c → (Lib.join (xs.map (·.data.toList)) sep.data.toList).length ≤ 140737488355328 →
      Calls P f #[.slice (some ⟨bk, o, none⟩) xs.length c, .string sep] w fun e w' => e = .returned (.string ⟨(Lib.join (xs.map (·.data.toList)) sep.data.toList).toArray⟩) ∧ Below w.heap.size w w') :
    OkS P (S.addSp f joinSpec) := by
  refine ⟨h.pure, ⟨fun g sp hg => ?_, h.spec.2⟩, fun g sp hg => ?_⟩
  · by_cases e : g = f
    · subst e
      simp only [Sums.addSp, if_true] at hg
      cases hg
      refine ⟨hb, fun args hh K hsp w0 Sx pl w vals hR hargs => ?_⟩
      unfold joinSpec at hsp
      split at hsp
      · rename_i b z n sp
        split at hsp
        · rename_i T z3 n3 cs c2 sep hg hl
          rw [get?_eq] at hg
          split at hsp
          · rename_i c1 l hs
            split at hsp
            · rename_i hc
              simp only [Bool.and_eq_true, decide_eq_true_eq] at hc
              obtain ⟨⟨⟨⟨rfl, rfl⟩, rfl⟩, h0⟩, hle⟩ := hc
              match vals, hargs with
              | [v1, v2], hargs =>
                have hsep := litStr_R hl hargs.2.1
                subst hsep
                obtain ⟨p, hp, hpc⟩ := ow_R hargs.1 (.inr rfl)
                obtain ⟨vs, h1, h2⟩ := hR.hb b _ p hg hp
                have hvs := strsOf_R hs h1
                subst hvs
                have hll : l.length = n3 := by have := h2.1; simpa using this
                rcases hpc with ⟨_, _, h3, _⟩ | ⟨hn, h5⟩
                · omega
                · subst h5
                  have hcap : n3 ≤ p.cap := by
                    rcases h2.2 with ⟨h1, _⟩ | ⟨g, cap, cur, h1, _, _, h3, _⟩
                    · simp [Pl.sv, hn] at h1
                    · simp only [Pl.sv, hn, Bool.false_eq_true, if_false, Value.slice.injEq] at h1
                      omega
                  have hmap : (l.map fun s => ByteArray.mk s.toArray).map (·.data.toList) = l := by
                    rw [List.map_map]
                    exact (List.map_congr_left (fun a _ => by simp)).trans (List.map_id _)
                  have hlen : (l.map fun s => ByteArray.mk s.toArray).length = n3 := by simp [hll]
                  have := hj p.blk 0 p.cap (l.map fun s => ⟨s.toArray⟩) ⟨sep.toArray⟩ w (fun j x hx => by
                    have hv : (l.map fun s => Value.string ⟨s.toArray⟩)[j]? = some (.string x) := by
                      rw [List.getElem?_map] at hx ⊢
                      cases hlj : l[j]? with
                      | none => rw [hlj] at hx; cases hx
                      | some y => rw [hlj] at hx; simp at hx; subst hx; rfl
                    have := Seen.of_own h2 j _ hv
                    exact this) (hR.lt b p _ hp hg (by simp [Blk.alive, hn])) (by rw [hlen]; omega) (by rw [hlen]; exact hcap) (by rw [hmap]; exact hsp.1)
                  rw [hmap, hlen] at this
                  simp only [Nat.zero_mul, Nat.sub_zero]
                  refine this.mono ?_
                  rintro e w' ⟨rfl, hbl⟩
                  refine ⟨_, _, hh, pl, rfl, ?_, PExt.refl pl, hR.later (Fr.of_below hbl), hsp.2⟩
                  cases c1 && c2 <;> exact .inr rfl
              | [], hargs => exact hargs.elim
              | [_], hargs => exact hargs.2.elim
              | _ :: _ :: _ :: _, hargs => exact hargs.2.2.elim
            · exact hsp.elim
          · exact hsp.elim
        · exact hsp.elim
      · exact hsp.elim
    · simp only [Sums.addSp, if_neg e] at hg
      exact h.spec.1 g sp hg
  · by_cases e : g = f
    · subst e
      simp only [Sums.addSp, if_true] at hg
      cases hg
      intro args hh K K' hK hx
      unfold joinSpec at hx ⊢
      split at hx
      · split at hx
        · split at hx
          · split at hx
            · rename_i hc
              rw [if_pos hc]
              exact ⟨hx.1, hK _ _ hx.2⟩
            · exact hx.elim
          · exact hx.elim
        · exact hx.elim
      · exact hx.elim
    · simp only [Sums.addSp, if_neg e] at hg
      exact h.mono g sp hg
def itoaQ (J : Int → List UInt8) : PSpec
  | [.v (.one (.sym .i64 n))] => .iff (-9223372036854775808 ≤ n ∧ n ≤ 9223372036854775807) (.v (.one (.str (J n))))
  | _ => .fail
def atoiQ (J : List UInt8 → Option Int) : PSpec
  | [.v (.one (.str s))] => .iff (s.length ≤ 18 ∧ (J s).isSome = true) (.tup [.one (.sym .i64 ((J s).getD 0)), .one .nili])
  | _ => .fail
theorem itoa_ok [Glob] {f : Nat} {J : Int → List UInt8} (hb : ∃ fn, P.funcs[f]? = some fn ∧ fn.body.isSome = true)
    (hj : ∀ (n : Int) (w : World), -9223372036854775808 ≤ n → n ≤ 9223372036854775807 → Glob.tab w → Calls P f #[.int .i64 n] w fun e w' => e = .returned (.string ⟨(J n).toArray⟩) ∧ Fr w (fun _ => False) w') : HoldsC P f (itoaQ J) := by
  obtain ⟨fn, h1, h2⟩ := hb
  refine ⟨fn, h1, h2, fun args av hg => ?_⟩
  unfold itoaQ at hg
  split at hg
  · rename_i n
    rcases hg with hg | ⟨q, hg, hc⟩
    · cases hg
    · injection hg with e1 e2
      rw [← e1] at hc
      subst e2
      refine ⟨rfl, _, rfl, fun w vals ht hargs => ?_⟩
      match vals, hargs with
      | [x], hargs =>
        have hx := sym_R hargs.1
        subst hx
        exact hj n w hc.1 hc.2 ht
      | [], hargs => exact hargs.elim
      | _ :: _ :: _, hargs => exact hargs.2.elim
  · exact (gives_fail hg).elim
theorem atoi_ok [Glob] {f : Nat} {J : List UInt8 → Option Int} (hb : ∃ fn, P.funcs[f]? = some fn ∧ fn.body.isSome = true)
    (hj : ∀ (s : List UInt8) (n : Int) (w : World), s.length ≤ 18 → J s = some n → Calls P f #[.string ⟨s.toArray⟩] w fun e w' => e = .returned (.tuple #[.int .i64 n, .nilIface]) ∧ Fr w (fun _ => False) w') : HoldsC P f (atoiQ J) := by
  obtain ⟨fn, h1, h2⟩ := hb
  refine ⟨fn, h1, h2, fun args av hg => ?_⟩
  unfold atoiQ at hg
  split at hg
  · rename_i s
    rcases hg with hg | ⟨q, hg, hc⟩
    · cases hg
    · injection hg with e1 e2
      rw [← e1] at hc
      subst e2
      refine ⟨rfl, _, rfl, fun w vals ht hargs => ?_⟩
      match vals, hargs with
      | [x], hargs =>
        have hx := str_R hargs.1
        subst hx
        obtain ⟨n, hn⟩ := Option.isSome_iff_exists.1 hc.2
        have := hj s n w hc.1 hn
        rw [hn]
        exact this
      | [], hargs => exact hargs.elim
      | _ :: _ :: _, hargs => exact hargs.2.elim
  · exact (gives_fail hg).elim
end
end Go.AM
namespace Go.AM
open Go Go.RowKit
def owOf : List SV → Option Nat
  | [] => none
  | .ow c _ _ _ _ :: _ => some c
  | _ :: l => owOf l
def eraS : SV → SV
  | .con k n => .sym k n
  | .cb b => .sb b
  | .cstr s => .str s
  | s => s
theorem eraS_R {pl : List Pl} {s : SV} {v : Value} (h : s.R pl v) : (eraS s).R pl v := by
  unfold eraS
  split
  · exact h.imp (fun h => by cases h) id
  · exact h.imp (fun h => by cases h) id
  · exact h.imp (fun h => by cases h) id
  · exact h
def ren1 (a b : Nat) : List SV → Option (List SV)
  | [] => some []
  | .ow c z st n q :: l => if c = a then (match ren1 a b l with | some r => some (.ow b z st n q :: r) | none => none) else none
  | s :: l => if s.below 0 then (match ren1 a b l with | some r => some (eraS s :: r) | none => none) else none
theorem low1 {pl pl' : List Pl} {s : SV} {v : Value} (hb : s.below 0 = true) (h : s.R pl v) : s.R pl' v := by
  have := AV.R_take (n := 0) (s := .v (.one s)) hb h
  simp at this
  exact SV.R.ext (pl := []) (fun b p hb => by simp at hb) this
theorem ren1_R {a b : Nat} {pl pl' : List Pl} {p : Pl} (ha : pl[a]? = some p) (hb : pl'[b]? = some p) : ∀ {l r : List SV} {vs : List Value}, ren1 a b l = some r → RL pl l vs → RL pl' r vs
  | [], r, [], h, _ => by simp [ren1] at h; subst h; trivial
  | [], _, _ :: _, _, h => h.elim
  | _ :: _, _, [], _, h => h.elim
  | s :: l, r, v :: vs, h, hr => by
    unfold ren1 at h
    split at h
    · cases ‹s :: l = []›
    · rename_i c z st n q l' he
      cases he
      split at h
      · rename_i hc
        subst hc
        split at h
        · rename_i r' hr'
          cases h
          refine ⟨?_, ren1_R ha hb hr' hr.2⟩
          rcases hr.1 with h | h
          · cases h
          · refine .inr ?_
            simp only [SV.val, owVal, ha, hb] at h ⊢
            exact h
        · cases h
      · cases h
    · rename_i s' l' _ he
      cases he
      split at h
      · rename_i hlow
        split at h
        · rename_i r' hr'
          cases h
          exact ⟨eraS_R (low1 hlow hr.1), ren1_R ha hb hr' hr.2⟩
        · cases h
      · cases h
abbrev MSpec (C : Codec) := List AV → List SV → List C.τ → Option (Prop × AV × List SV)
def stSpec (T Tt : Nat) (C : Codec) (q : MSpec C) : ASpec := fun args h K => match args with
  | .v (.one (.ptr rb 0)) :: os => if noPtrs os then (match get? h rb with
    | some (.row T' cs) => (match owOf cs with
      | some lb => (match ren1 lb 1 cs, get? h lb with
        | some cs1, some (.own Tt' C' xs) => if decide (T' = T) && decide (Tt' = Tt) && decide (C'.esz = C.esz) then ∃ ys : List C.τ, SameRows C ys C' xs ∧ (match q os cs1 ys with
          | some (p, v, cs2) => (match ren1 1 lb cs2 with
            | some cs3 => if v.below 0 then p ∧ K v (set h rb (.row T cs3)) else False
            | none => False)
          | none => False) else False
        | _, _ => False)
      | none => False)
    | _ => False) else False
  | _ => False
theorem stSpec_mono {T Tt : Nat} {C : Codec} {q : MSpec C} {args : List AV} {h : Heap} {K K' : KV} (hK : ∀ v h, K v h → K' v h) (hk : stSpec T Tt C q args h K) : stSpec T Tt C q args h K' := by
  unfold stSpec at hk ⊢
  split at hk
  · split at hk
    · rename_i h1
      rw [if_pos h1]
      split at hk
      · split at hk
        · split at hk
          · split at hk
            · rename_i h2
              rw [if_pos h2]
              obtain ⟨ys, h3, h4⟩ := hk
              refine ⟨ys, h3, ?_⟩
              split at h4
              · split at h4
                · split at h4
                  · rename_i h5
                    rw [if_pos h5]
                    exact ⟨h4.1, hK _ _ h4.2⟩
                  · exact h4.elim
                · exact h4.elim
              · exact h4.elim
            · exact hk.elim
          · exact hk.elim
        · exact hk.elim
      · exact hk.elim
    · exact hk.elim
  · exact hk.elim
section
variable {P : Program}
def HoldsS [Glob] (P : Program) (f T Tt : Nat) (C : Codec) (q : MSpec C) : Prop :=
  ∃ fn, P.funcs[f]? = some fn ∧ fn.body.isSome = true ∧ ∀ os cs ys p v cs2, q os cs ys = some (p, v, cs2) → p → noPtrs os = true →
    ∃ n A S os', A.q = 2 ∧ OkS P S ∧ noPtrs os' = true ∧ (∀ pl vs, ArgsR pl os vs → ArgsR pl os' vs) ∧ CallR P S A n fn (.v (.one (.ptr 0 0)) :: os') [.row T cs, .own Tt C ys] (fun v' h' => MatchTo 2 [v'] h' ([v], [.row T cs2, .own Tt C ys]))
theorem OkS.addSt [Glob] (hF : Fine P) {S : Sums} (h : OkS P S) {f T Tt : Nat} {C : Codec} {q : MSpec C} (hq : HoldsS P f T Tt C q) : OkS P (S.addSp f (stSpec T Tt C q)) := by
  refine ⟨h.pure, ⟨fun g sp hg => ?_, h.spec.2⟩, fun g sp hg => ?_⟩
  · by_cases e : g = f
    · subst e
      simp only [Sums.addSp, if_true] at hg
      cases hg
      obtain ⟨fn, hf, hfb, hrun⟩ := hq
      refine ⟨⟨fn, hf, hfb⟩, fun args hh K hsp w0 Sx pl w vals hR hargs => ?_⟩
      unfold stSpec at hsp
      split at hsp
      · rename_i rb os
        split at hsp
        · rename_i hno
          split at hsp
          · rename_i T' cs hg
            rw [get?_eq] at hg
            split at hsp
            · rename_i lb hlb
              split at hsp
              · rename_i cs1 Tt' C' xs hren hl
                rw [get?_eq] at hl
                split at hsp
                · rename_i hc
                  simp only [Bool.and_eq_true, decide_eq_true_eq] at hc
                  obtain ⟨⟨rfl, rfl⟩, hce⟩ := hc
                  obtain ⟨ys, hsr, hsp⟩ := hsp
                  split at hsp
                  · rename_i pr v cs2 hqq
                    split at hsp
                    · rename_i cs3 hren2
                      split at hsp
                      · rename_i hlow
                        obtain ⟨hpr, hK⟩ := hsp
                        match vals, hargs with
                        | [], hargs => exact hargs.elim
                        | v0 :: vals, hargs =>
                        obtain ⟨ad, had, rfl⟩ := ptr_R hargs.1
                        have hlr : rb < pl.length := by rw [hR.len]; exact (List.getElem?_eq_some_iff.1 hg).1
                        have hll : lb < pl.length := by rw [hR.len]; exact (List.getElem?_eq_some_iff.1 hl).1
                        obtain ⟨p, hp⟩ : ∃ p, pl[rb]? = some p := ⟨_, List.getElem?_eq_getElem hlr⟩
                        obtain ⟨pq, hpq⟩ : ∃ p, pl[lb]? = some p := ⟨_, List.getElem?_eq_getElem hll⟩
                        have had' : ad = ⟨p.blk, 0, none⟩ := by simpa [addrOf, hp] using had.symm
                        subst had'
                        have hne : rb ≠ lb := fun e => by subst e; rw [hg] at hl; cases hl
                        have hal : Blk.alive (.row T' cs) p = true := rfl
                        obtain ⟨vs, hvs, hw⟩ := hR.hb rb _ p hg hp
                        obtain ⟨us, hus, how⟩ := hR.hb lb _ pq hl hpq
                        have hrow := hR.own rb p _ hp hg hal
                        have hown : pq.nil = false → (w0.heap.size ≤ pq.blk ∨ Sx pq.blk) ∧ pq.blk < w.heap.size ∧ pq.blk ≠ p.blk := fun hn => by
                          have ha : Blk.alive (.own Tt' C' xs) pq = true := by simp [Blk.alive, hn]
                          exact ⟨hR.own lb pq _ hpq hl ha, hR.lt lb pq _ hpq hl ha, fun e => hne (hR.inj lb rb pq p _ _ hpq hp hl hg ha hal e).symm⟩
                        have hglob : ∀ k, Glob.blk k → k < w0.heap.size ∧ ¬ Sx k := fun k hk => ⟨Glob.lt w0 k hR.rok.2.1 hk, hR.rok.2.2 k hk⟩
                        -- the two alone
                        have hR1 : HRel w ⟨fun k => k = p.blk ∨ (pq.nil = false ∧ k = pq.blk), fun _ => False⟩ [p, pq] [.row T' cs1, .own Tt' C ys] w := by
                          refine ⟨rfl, ⟨rfl, rfl, rfl, Nat.le_refl _, fun _ _ _ => rfl⟩, ?_, ?_, ?_, ?_, ?_, ⟨fun k hk => hk.elim, hR.tabw, fun k hk hs => ?_⟩⟩
                          · intro b x q hx hq
                            match b, hx, hq with
                            | 0, hx, hq =>
                              simp at hx hq
                              subst hx hq
                              exact ⟨vs, ren1_R hpq rfl hren hvs, hw⟩
                            | 1, hx, hq =>
                              simp at hx hq
                              subst hx hq
                              refine ⟨us, RL_of_low (flat_low ys) (same_R hsr hus), ?_⟩
                              rw [hsr.hl', ← hce]
                              exact how
                            | _ + 2, hx, _ => simp at hx
                          · intro b q x hq hx ha
                            match b, hx, hq with
                            | 0, hx, hq => simp at hx hq; subst hx hq; exact hR.lt rb p _ hp hg hal
                            | 1, hx, hq => simp at hx hq; subst hx hq; exact (hown (by simpa [Blk.alive] using ha)).2.1
                            | _ + 2, hx, _ => simp at hx
                          · intro b q x hq hx ha
                            match b, hx, hq with
                            | 0, hx, hq => simp at hx hq; subst hx hq; exact .inr (.inl rfl)
                            | 1, hx, hq => simp at hx hq; subst hx hq; exact .inr (.inr ⟨by simpa [Blk.alive] using ha, rfl⟩)
                            | _ + 2, hx, _ => simp at hx
                          · intro b c q1 q2 x y hb hc hx hy hax hay e
                            match b, c, hb, hc, hx, hy with
                            | 0, 0, _, _, _, _ => rfl
                            | 1, 1, _, _, _, _ => rfl
                            | 0, 1, hb, hc, hx, hy =>
                              simp at hb hc hx hy
                              subst hb hc hx hy
                              exact absurd e.symm (hown (by simpa [Blk.alive] using hay)).2.2
                            | 1, 0, hb, hc, hx, hy =>
                              simp at hb hc hx hy
                              subst hb hc hx hy
                              exact absurd e (hown (by simpa [Blk.alive] using hax)).2.2
                            | _ + 2, _, _, _, hx, _ => simp at hx
                            | _, _ + 2, _, _, _, hy => simp at hy
                          · intro b q x hq hx hd
                            match b, hx, hq with
                            | 0, hx, hq => simp at hx; subst hx; cases hd
                            | 1, hx, hq => simp at hx; subst hx; cases hd
                            | _ + 2, hx, _ => simp at hx
                          · have hk2 := hglob k hk
                            rcases hs with rfl | ⟨hn, rfl⟩
                            · rcases hrow with h1 | h1
                              · omega
                              · exact hk2.2 h1
                            · rcases (hown hn).1 with h1 | h1
                              · omega
                              · exact hk2.2 h1
                        obtain ⟨n, A, S0, os', hA, hS0, hno', hos, hcall⟩ := hrun os cs1 ys pr v cs2 hqq hpr hno
                        have hargs1 : ArgsR [p, pq] (.v (.one (.ptr 0 0)) :: os') (.pointer (some ⟨p.blk, 0, none⟩) :: vals) :=
                          ⟨.inr (by simp [SV.val, addrOf]), (noPtrs_R hno' (hos _ _ hargs.2)).ext (fun b q hb => by simp at hb)⟩
                        refine (call_sound hF hS0.pure hS0.spec hS0.mono hf hcall.out (.inl (by simpa using hA)) hR1 hargs1).mono ?_
                        rintro e w' ⟨v', av, h', pl0, rfl, hv0, hpe0, hR0, hmt⟩
                        rw [MatchTo_eq] at hmt
                        have hlen2 : 2 ≤ pl0.length := by
                          have := hpe0 1 pq rfl
                          have := (List.getElem?_eq_some_iff.1 this).1
                          omega
                        obtain ⟨pl', hR', hE', hkeep⟩ := MatchBy_sound hmt hR0 (tmps := #[v']) ⟨rfl, fun t => by
                          cases t with
                          | zero => simpa [getD, Array.getD] using hv0
                          | succ t => exact any_R pl0 _⟩ hlen2
                        have hv' : v.R pl' v' := by simpa [getD, Array.getD] using hE'.2 0
                        have hp0 : pl'[0]? = some p := (hkeep 0 (by omega)).trans (hpe0 0 p rfl)
                        have hp1 : pl'[1]? = some pq := (hkeep 1 (by omega)).trans (hpe0 1 pq rfl)
                        obtain ⟨vs', hvs', hw'⟩ := hR'.hb 0 _ p rfl hp0
                        obtain ⟨us', hus', how'⟩ := hR'.hb 1 _ pq rfl hp1
                        have hkp : ∀ k, k < w.heap.size → k ≠ p.blk → (pq.nil = false → k ≠ pq.blk) → w'.heap[k]? = w.heap[k]? := fun k hk h1 h2 => hR'.fr.block k hk (fun h => by
                          rcases h with h | ⟨h3, h⟩
                          · exact h1 h
                          · exact h2 h3 h)
                        have hfr : Fr w0 Sx.S w' := ⟨hR'.fr.os.trans hR.fr.os, hR'.fr.tape.trans hR.fr.tape, hR'.fr.output.trans hR.fr.output, Nat.le_trans hR.fr.size hR'.fr.size, fun k hk hs => by
                          rw [hkp k (Nat.lt_of_lt_of_le hk hR.fr.size) (fun e => by subst e; rcases hrow with h1 | h1; omega; exact hs h1) (fun hn e => by subst e; rcases (hown hn).1 with h1 | h1; omega; exact hs h1)]
                          exact hR.fr.block k hk hs⟩
                        have hset : ∀ (b : Nat) x, (AM.set hh rb (.row T' cs3))[b]? = some x → (b = rb ∧ x = .row T' cs3) ∨ (b ≠ rb ∧ hh[b]? = some x) := fun b x hx => by
                          by_cases e : rb = b
                          · subst e
                            rw [get_set_same hg] at hx
                            exact .inl ⟨rfl, (Option.some.inj hx).symm⟩
                          · rw [get_set_other e] at hx
                            exact .inr ⟨fun h => e h.symm, hx⟩
                        refine ⟨v', v, _, pl, rfl, ?_, PExt.refl pl, ⟨by simp [set_eq, hR.len], hfr, ?_, ?_, ?_, ?_, ?_, hR.rok⟩, hK⟩
                        · have := AV.R_take (n := 0) hlow hv'
                          simp at this
                          exact this.ext (fun b p hb => by simp at hb)
                        · intro b x q hx hq
                          rcases hset b x hx with ⟨rfl, rfl⟩ | ⟨hbr, hx⟩
                          · rw [hp] at hq
                            cases hq
                            exact ⟨vs', ren1_R hp1 hpq hren2 hvs', hw'⟩
                          · by_cases hbl : b = lb
                            · subst hbl
                              rw [hl] at hx
                              cases hx
                              rw [hpq] at hq
                              cases hq
                              refine ⟨us', ?_, ?_⟩
                              · have hu2 : RL [] (flatC C ys) us' := by
                                  have := RL_of_low (pl' := []) (flat_low ys) hus'
                                  exact this
                                have hu3 : RL [] (flatC C' xs) us' := by rw [← hsr.hf']; exact hu2
                                exact RL_of_low (flat_low xs) hu3
                              · rw [hce, ← hsr.hl']
                                exact how'
                            · refine (hR.hb b x q hx hq).mono (PExt.refl pl) (fun ha => ?_) (fun hd => ?_)
                              · refine hkp _ (hR.lt b q x hq hx ha) (fun e => hbr (hR.inj b rb q p _ _ hq hp hx hg ha hal e)) (fun hn e => hbl (hR.inj b lb q pq _ _ hq hpq hx hl ha (by simp [Blk.alive, hn]) e))
                              · have h1 := hR.rok.1 _ (hR.ro b q x hq hx hd)
                                refine hkp _ (Nat.lt_of_lt_of_le h1.1 hR.fr.size) (fun e => ?_) (fun hn e => ?_)
                                · rw [e] at h1; rcases hrow with h2 | h2; omega; exact h1.2 h2
                                · rw [e] at h1; rcases (hown hn).1 with h2 | h2; omega; exact h1.2 h2
                        · intro b q x hq hx ha
                          refine Nat.lt_of_lt_of_le ?_ hR'.fr.size
                          rcases hset b x hx with ⟨rfl, rfl⟩ | ⟨_, hx⟩
                          · rw [hp] at hq; cases hq; exact hR.lt b p _ hp hg hal
                          · exact hR.lt b q x hq hx ha
                        · intro b q x hq hx ha
                          rcases hset b x hx with ⟨rfl, rfl⟩ | ⟨_, hx⟩
                          · rw [hp] at hq; cases hq; exact hrow
                          · exact hR.own b q x hq hx ha
                        · intro b c q1 q2 x y hb hc hx hy hax hay e
                          have key : ∀ (b : Nat) q x, pl[b]? = some q → (AM.set hh rb (.row T' cs3))[b]? = some x → x.alive q = true → ∃ z, hh[b]? = some z ∧ z.alive q = true := fun b q x hq hx ha => by
                            rcases hset b x hx with ⟨rfl, rfl⟩ | ⟨_, hx⟩
                            · exact ⟨_, hg, rfl⟩
                            · exact ⟨x, hx, ha⟩
                          obtain ⟨z1, k1, k2⟩ := key b q1 x hb hx hax
                          obtain ⟨z2, k3, k4⟩ := key c q2 y hc hy hay
                          exact hR.inj b c q1 q2 z1 z2 hb hc k1 k3 k2 k4 e
                        · intro b q x hq hx hd
                          rcases hset b x hx with ⟨rfl, rfl⟩ | ⟨_, hx⟩
                          · cases hd
                          · exact hR.ro b q x hq hx hd
                      · exact hsp.elim
                    · exact hsp.elim
                  · exact hsp.elim
                · exact hsp.elim
              · exact hsp.elim
            · exact hsp.elim
          · exact hsp.elim
        · exact hsp.elim
      · exact hsp.elim
    · simp only [Sums.addSp, if_neg e] at hg
      exact h.spec.1 g sp hg
  · by_cases e : g = f
    · subst e
      simp only [Sums.addSp, if_true] at hg
      cases hg
      intro args hh K K' hK hx
      exact stSpec_mono hK hx
    · simp only [Sums.addSp, if_neg e] at hg
      exact h.mono g sp hg
end
end Go.AM

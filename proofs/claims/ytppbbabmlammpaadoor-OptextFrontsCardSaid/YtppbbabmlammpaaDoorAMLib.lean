import Derived.Test.YtppbbabmlammpaaDoorP3
import Derived.Lib.Join
import Derived.Lib.LaidTab
import Derived.Below
set_option linter.unusedVariables false
set_option linter.unusedSimpArgs false
namespace Go.AM
open Go Go.RowKit
section
variable {P : Program}
def HoldsC [Glob] (P : Program) (f : Nat) (q : PSpec) : Prop :=
  ∃ fn, P.funcs[f]? = some fn ∧ fn.body.isSome = true ∧ ∀ args av, (q args).gives av → noPtrs args = true ∧ ∃ v, av.valOf = some v ∧ ∀ (w : World) (vals : List Value), Glob.tab w → ArgsR [] args vals → Calls P f vals.toArray w (fun e w' => e = .returned v ∧ Fr w (fun _ => False) w')
theorem PureOk.addC [Glob] {S : Sums} (hP : PureOk P S) {f : Nat} {q : PSpec} (hq : HoldsC P f q) {m : List Bool} : PureOk P (S.add f q m) := by
  obtain ⟨fn, hf, hfb, hp⟩ := hq
  have core : ∀ args av, (q args).gives av → ∀ w0 Sx pl h vals, ArgsR pl args vals → ∃ v, ∀ w, HRel w0 Sx pl h w → av.R pl v ∧ Calls P f vals.toArray w (fun e w' => e = .returned v ∧ HRel w0 Sx pl h w') := by
    intro args av hg w0 Sx pl h vals hargs
    obtain ⟨h1, v, h2, h3⟩ := hp args av hg
    refine ⟨v, fun w hw => ⟨(AV.valOf_spec h2).1.ext (fun b p hp => by simp at hp), (h3 w vals hw.tabw (noPtrs_R h1 hargs)).mono ?_⟩⟩
    rintro e w' ⟨rfl, hfr⟩
    exact ⟨rfl, hw.later hfr⟩
  intro g p hg
  by_cases e : g = f
  · subst e
    simp only [Sums.add, if_true] at hg
    cases hg
    refine ⟨⟨fn, hf, hfb⟩, fun args av hgv w0 Sx pl h vals hargs => ?_⟩
    have hargs' := ArgsR_era (m := m) hargs
    unfold liftQ at hgv
    split at hgv
    · obtain ⟨av', h1, rfl⟩ := gives_map hgv
      obtain ⟨v, hv⟩ := core _ _ h1 w0 Sx pl h vals hargs'
      exact ⟨v, fun w hw => ⟨(AV.R_map lit_ok.1 lit_ok.2).2 (hv w hw).1, (hv w hw).2⟩⟩
    · exact core _ _ hgv w0 Sx pl h vals hargs'
  · simp only [Sums.add, if_neg e] at hg
    exact hP g p hg
theorem OkS.addC [Glob] {S : Sums} (h : OkS P S) {f : Nat} {q : PSpec} (hq : HoldsC P f q) {m : List Bool} : OkS P (S.add f q m) := ⟨h.pure.addC hq, h.spec, h.mono⟩
theorem Fr.of_below {w w' : World} (h : Below w.heap.size w w') : Fr w (fun _ => False) w' := ⟨h.os, h.tape, h.output, h.size, fun k hk _ => h.block k hk⟩
def strsOf : List SV → Option (Bool × List (List UInt8))
  | [] => some (true, [])
  | .cstr s :: l => (match strsOf l with | some (c, r) => some (c, s :: r) | none => none)
  | .str s :: l => (match strsOf l with | some (_, r) => some (false, s :: r) | none => none)
  | _ :: _ => none
theorem strsOf_R {pl : List Pl} : ∀ {l : List SV} {c : Bool} {r : List (List UInt8)} {vs : List Value}, strsOf l = some (c, r) → RL pl l vs → vs = r.map (fun s => Value.string ⟨s.toArray⟩)
  | [], c, r, [], h, _ => by simp [strsOf] at h; rw [h.2]; rfl
  | [], _, _, _ :: _, _, h => h.elim
  | _ :: _, _, _, [], _, h => h.elim
  | x :: l, c, r, v :: vs, h, hr => by
    unfold strsOf at h
    split at h
    · cases ‹x :: l = []›
    · rename_i s l' he
      cases he
      split at h
      · rename_i c' r' h'
        cases h
        have h1 := cstr_R (pl := pl) (s := s) (v := v) hr.1
        rw [h1, strsOf_R h' hr.2]
        rfl
      · cases h
    · rename_i s l' he
      cases he
      split at h
      · rename_i c' r' h'
        cases h
        have h1 := str_R (pl := pl) (s := s) (v := v) hr.1
        rw [h1, strsOf_R h' hr.2]
        rfl
      · cases h
    · cases h
def joinSpec : ASpec := fun args h K => match args with
  | [.v (.one (.ow b z 0 n true)), sp] => (match get? h b, litStr sp with
    | some (.ownL _ z3 n3 cs), some (c2, sep) => (match strsOf cs with
      | some (c1, l) => if decide (z = 1) && decide (z3 = 1) && decide (n3 = n) && decide (0 < n) && decide (n ≤ 65536) then
          ((Lib.join l sep).length ≤ 140737488355328) ∧ K (.v (.one (if c1 && c2 then .cstr (Lib.join l sep) else .str (Lib.join l sep)))) h else False
      | none => False)
    | _, _ => False)
  | _ => False
theorem OkS.addJoin [Glob] {S : Sums} (h : OkS P S) {f : Nat} (hb : ∃ fn, P.funcs[f]? = some fn ∧ fn.body.isSome = true)
    (hj : ∀ (bk o c : Nat) (xs : List ByteArray) (sep : ByteArray) (w : World), (∀ (j : Nat) x, xs[j]? = some x → w.cell? ⟨bk, o + j, none⟩ = some (.string x)) → bk < w.heap.size → xs.length ≤ 140737488355328 → xs.length ≤ c → (Lib.join (xs.map (·.data.toList)) sep.data.toList).length ≤ 140737488355328 →
      Calls P f #[.slice (some ⟨bk, o, none⟩) xs.length c, .string sep] w fun e w' => e = .returned (.string ⟨(Lib.join (xs.map (·.data.toList)) sep.data.toList).toArray⟩) ∧ Below w.heap.size w w') :
    OkS P (S.addSp f joinSpec) := by
  refine ⟨h.pure, ⟨fun g sp hg => ?_, h.spec.2⟩, fun g sp hg => ?_⟩
  · by_cases e : g = f
    · subst e
      simp only [Sums.addSp, if_true] at hg
      cases hg
      refine ⟨hb, fun args hh K hsp w0 Sx pl w vals hR hargs => ?_⟩
      unfold joinSpec at hsp
      split at hsp
      · rename_i b z n sp
        split at hsp
        · rename_i T z3 n3 cs c2 sep hg hl
          rw [get?_eq] at hg
          split at hsp
          · rename_i c1 l hs
            split at hsp
            · rename_i hc
              simp only [Bool.and_eq_true, decide_eq_true_eq] at hc
              obtain ⟨⟨⟨⟨rfl, rfl⟩, rfl⟩, h0⟩, hle⟩ := hc
              match vals, hargs with
              | [v1, v2], hargs =>
                have hsep := litStr_R hl hargs.2.1
                subst hsep
                obtain ⟨p, hp, hpc⟩ := ow_R hargs.1 (.inr rfl)
                obtain ⟨vs, h1, h2⟩ := hR.hb b _ p hg hp
                have hvs := strsOf_R hs h1
                subst hvs
                have hll : l.length = n3 := by have := h2.1; simpa using this
                rcases hpc with ⟨_, _, h3, _⟩ | ⟨hn, h5⟩
                · omega
                · subst h5
                  have hcap : n3 ≤ p.cap := by
                    rcases h2.2 with ⟨h1, _⟩ | ⟨g, cap, cur, h1, _, _, h3, _⟩
                    · simp [Pl.sv, hn] at h1
                    · simp only [Pl.sv, hn, Bool.false_eq_true, if_false, Value.slice.injEq] at h1
                      omega
                  have hmap : (l.map fun s => ByteArray.mk s.toArray).map (·.data.toList) = l := by
                    rw [List.map_map]
                    exact (List.map_congr_left (fun a _ => by simp)).trans (List.map_id _)
                  have hlen : (l.map fun s => ByteArray.mk s.toArray).length = n3 := by simp [hll]
                  have := hj p.blk 0 p.cap (l.map fun s => ⟨s.toArray⟩) ⟨sep.toArray⟩ w (fun j x hx => by
                    have hv : (l.map fun s => Value.string ⟨s.toArray⟩)[j]? = some (.string x) := by
                      rw [List.getElem?_map] at hx ⊢
                      cases hlj : l[j]? with
                      | none => rw [hlj] at hx; cases hx
                      | some y => rw [hlj] at hx; simp at hx; subst hx; rfl
                    have := Seen.of_own h2 j _ hv
                    exact this) (hR.lt b p _ hp hg (by simp [Blk.alive, hn])) (by rw [hlen]; omega) (by rw [hlen]; exact hcap) (by rw [hmap]; exact hsp.1)
                  rw [hmap, hlen] at this
                  simp only [Nat.zero_mul, Nat.sub_zero]
                  refine this.mono ?_
                  rintro e w' ⟨rfl, hbl⟩
                  refine ⟨_, _, hh, pl, rfl, ?_, PExt.refl pl, hR.later (Fr.of_below hbl), hsp.2⟩
                  cases c1 && c2 <;> exact .inr rfl
              | [], hargs => exact hargs.elim
              | [_], hargs => exact hargs.2.elim
              | _ :: _ :: _ :: _, hargs => exact hargs.2.2.elim
            · exact hsp.elim
          · exact hsp.elim
        · exact hsp.elim
      · exact hsp.elim
    · simp only [Sums.addSp, if_neg e] at hg
      exact h.spec.1 g sp hg
  · by_cases e : g = f
    · subst e
      simp only [Sums.addSp, if_true] at hg
      cases hg
      intro args hh K K' hK hx
      unfold joinSpec at hx ⊢
      split at hx
      · split at hx
        · split at hx
          · split at hx
            · rename_i hc
              rw [if_pos hc]
              exact ⟨hx.1, hK _ _ hx.2⟩
            · exact hx.elim
          · exact hx.elim
        · exact hx.elim
      · exact hx.elim
    · simp only [Sums.addSp, if_neg e] at hg
      exact h.mono g sp hg
def itoaQ (J : Int → List UInt8) : PSpec
  | [.v (.one (.sym .i64 n))] => .iff (-9223372036854775808 ≤ n ∧ n ≤ 9223372036854775807) (.v (.one (.str (J n))))
  | _ => .fail
def atoiQ (J : List UInt8 → Option Int) : PSpec
  | [.v (.one (.str s))] => .iff (s.length ≤ 18 ∧ (J s).isSome = true) (.tup [.one (.sym .i64 ((J s).getD 0)), .one .nili])
  | _ => .fail
theorem itoa_ok [Glob] {f : Nat} {J : Int → List UInt8} (hb : ∃ fn, P.funcs[f]? = some fn ∧ fn.body.isSome = true)
    (hj : ∀ (n : Int) (w : World), -9223372036854775808 ≤ n → n ≤ 9223372036854775807 → Glob.tab w → Calls P f #[.int .i64 n] w fun e w' => e = .returned (.string ⟨(J n).toArray⟩) ∧ Fr w (fun _ => False) w') : HoldsC P f (itoaQ J) := by
  obtain ⟨fn, h1, h2⟩ := hb
  refine ⟨fn, h1, h2, fun args av hg => ?_⟩
  unfold itoaQ at hg
  split at hg
  · rename_i n
    rcases hg with hg | ⟨q, hg, hc⟩
    · cases hg
    · injection hg with e1 e2
      rw [← e1] at hc
      subst e2
      refine ⟨rfl, _, rfl, fun w vals ht hargs => ?_⟩
      match vals, hargs with
      | [x], hargs =>
        have hx := sym_R hargs.1
        subst hx
        exact hj n w hc.1 hc.2 ht
      | [], hargs => exact hargs.elim
      | _ :: _ :: _, hargs => exact hargs.2.elim
  · exact (gives_fail hg).elim
theorem atoi_ok [Glob] {f : Nat} {J : List UInt8 → Option Int} (hb : ∃ fn, P.funcs[f]? = some fn ∧ fn.body.isSome = true)
    (hj : ∀ (s : List UInt8) (n : Int) (w : World), s.length ≤ 18 → J s = some n → Calls P f #[.string ⟨s.toArray⟩] w fun e w' => e = .returned (.tuple #[.int .i64 n, .nilIface]) ∧ Fr w (fun _ => False) w') : HoldsC P f (atoiQ J) := by
  obtain ⟨fn, h1, h2⟩ := hb
  refine ⟨fn, h1, h2, fun args av hg => ?_⟩
  unfold atoiQ at hg
  split at hg
  · rename_i s
    rcases hg with hg | ⟨q, hg, hc⟩
    · cases hg
    · injection hg with e1 e2
      rw [← e1] at hc
      subst e2
      refine ⟨rfl, _, rfl, fun w vals ht hargs => ?_⟩
      match vals, hargs with
      | [x], hargs =>
        have hx := str_R hargs.1
        subst hx
        obtain ⟨n, hn⟩ := Option.isSome_iff_exists.1 hc.2
        have := hj s n w hc.1 hn
        rw [hn]
        exact this
      | [], hargs => exact hargs.elim
      | _ :: _ :: _, hargs => exact hargs.2.elim
  · exact (gives_fail hg).elim
end
end Go.AM

import Derived.Test.YtppbbabmlammpaaDoorTG7
set_option linter.unusedVariables false
set_option linter.unusedSimpArgs false
open Go Go.AM Go.Proofs
namespace Go.AM
open Dist
def md24d (x : Int) : Int := (IntKind.i64.wrap (x.tmod 24 + 24)).tmod 24
def qRowD : MSpec dtkC := fun os cs ys => match os, cs with
  | [], [.str s, .ow 1 3 0 len false, .sym .i64 i, .sym .i64 p] => some ((len = @List.length DTok ys ∧ 0 ≤ i ∧ i < (@List.length DTok ys : Int)) ∧ p = -1 ∧ DOk s ys ∧ ((dk ys ((@List.length DTok ys : Int) - 1)).kind = 0 ∨ (dk ys ((@List.length DTok ys : Int) - 1)).kind = 101), .tup [.agg [.sym .i64 (dRowF s ys i).e0, .sym .i64 (dRowF s ys i).e1, .sym .i64 (dRowF s ys i).e2], .one (.sym .i64 (md24d (dRowF s ys i).part))], dC ys s (dRowF s ys i).i (dRowF s ys i).p)
  | _, _ => none
def Z5 (o : OnB) : Sums := (Z4 o).addF 39 qDToks
theorem pZ5 (o : OnB) : OkS P (Z5 o) := (pZ4 o).addFm fine hDToks
theorem dFr_ok {s : List UInt8} {ys : List DTok} {i a b : Int} {g : Bool} (h : 0 ≤ i ∧ i < (@List.length DTok ys : Int)) (ok : DOk s ys) (hd : DigAt s a b) : (-240000 ≤ (dFr s ys i a b g).1 ∧ (dFr s ys i a b g).1 ≤ 240000) ∧ (i ≤ (dFr s ys i a b g).2.1 ∧ (dFr s ys i a b g).2.1 < (@List.length DTok ys : Int)) ∧ ((dFr s ys i a b g).2.2 = -1 ∨ 0 ≤ (dFr s ys i a b g).2.2) := by
  have nb := dNum_bd (m := 3) (by omega) hd
  have ha := hd.1
  have j1 := dSkip_lt h
  have j2 := dSkip_lt j1
  have g1 : i ≤ dSkip ys i := by unfold dSkip; split <;> omega
  have g2 : dSkip ys i ≤ dSkip ys (dSkip ys i) := by rw [dSkip.eq_1 ys (dSkip ys i)]; split <;> omega
  have hp := (ok.2.2 (dSkip ys i)).1
  unfold dFr
  by_cases c1 : dNum s a b 3 < 0 ∨ g = true
  · rw [if_pos c1]
    exact ⟨⟨by simp, by simp⟩, ⟨Int.le_refl _, h.2⟩, .inr ha⟩
  · rw [if_neg c1]
    by_cases c2 : ¬ (dk ys i).kind = 47
    · rw [if_pos c2]
      exact ⟨⟨by simp only; omega, by simp only; omega⟩, ⟨Int.le_refl _, h.2⟩, .inl rfl⟩
    · rw [if_neg c2]
      by_cases c3 : ¬ (dk ys (dSkip ys i)).kind = 48
      · rw [if_pos c3]
        exact ⟨⟨by simp, by simp⟩, ⟨g1, j1.2⟩, .inr hp⟩
      · rw [if_neg c3]
        by_cases c4 : dNum s (dk ys (dSkip ys i)).pos (dk ys (dSkip ys i)).next 3 < 1 ∨ ¬ (24 * dNum s a b 3).tmod (dNum s (dk ys (dSkip ys i)).pos (dk ys (dSkip ys i)).next 3) = 0
        · rw [if_pos c4]
          exact ⟨⟨by simp, by simp⟩, ⟨Int.le_trans g1 g2, j2.2⟩, .inr ha⟩
        · rw [if_neg c4]
          have c5 : 1 ≤ dNum s (dk ys (dSkip ys i)).pos (dk ys (dSkip ys i)).next 3 := by
            by_cases hh : dNum s (dk ys (dSkip ys i)).pos (dk ys (dSkip ys i)).next 3 < 1
            · exact absurd (.inl hh) c4
            · omega
          have c6 : 0 ≤ dNum s a b 3 := by
            by_cases hh : dNum s a b 3 < 0
            · exact absurd (.inl hh) c1
            · omega
          refine ⟨?_, ⟨Int.le_trans g1 g2, j2.2⟩, .inl rfl⟩
          simp only
          rw [Int.tdiv_eq_ediv_of_nonneg (by omega)]
          have b1 : 0 ≤ 24 * dNum s a b 3 / dNum s (dk ys (dSkip ys i)).pos (dk ys (dSkip ys i)).next 3 := Int.ediv_nonneg (by omega) (by omega)
          have b2 : 24 * dNum s a b 3 / dNum s (dk ys (dSkip ys i)).pos (dk ys (dSkip ys i)).next 3 ≤ 24 * dNum s a b 3 := Int.ediv_le_self _ (by omega)
          omega
structure DTok' (ys : List DTok) (i : Int) (D : DR) : Prop where
  p : D.p < 0 → D.p = -1
  lo : i ≤ D.i
  hi : D.i < (@List.length DTok ys : Int)
theorem dLetP_ok {ys : List DTok} {x : DR} {sk i j : Int} (h : 0 ≤ j ∧ j < (@List.length DTok ys : Int)) (hij : i ≤ j) (hp : 0 ≤ (dk ys j).pos) : DTok' ys i (dLetP ys x sk j) := by
  have j1 := dSkip_lt h
  have g1 : j ≤ dSkip ys j := by unfold dSkip; split <;> omega
  have e : DTok' ys i (x.err j (dk ys j).pos) := ⟨fun h => by have h : (dk ys j).pos < 0 := h; omega, hij, h.2⟩
  have f : ∀ D : DR, D.p = -1 → D.i = dSkip ys j → DTok' ys i D := fun D h1 h2 => ⟨fun _ => h1, by omega, by omega⟩
  unfold dLetP
  split
  · split
    · exact e
    · exact f _ rfl rfl
  · split
    · split
      · exact e
      · exact f _ rfl rfl
    · split
      · split
        · exact e
        · exact f _ rfl rfl
      · exact e
theorem dTerm_ok {s : List UInt8} {ys : List DTok} {x : DR} {sg i : Int} (h : 0 ≤ i ∧ i < (@List.length DTok ys : Int)) (ok : DOk s ys) : DTok' ys i (dTerm s ys x sg i) := by
  have j1 := dSkip_lt h
  have g1 : i ≤ dSkip ys i := by unfold dSkip; split <;> omega
  unfold dTerm
  split
  · rename_i hk
    have hd := (ok.2.2 i).2 hk
    split
    · split
      · exact ⟨fun h => by have h : (dk ys i).pos < 0 := h; have := (ok.2.2 i).1; omega, g1, j1.2⟩
      · exact dLetP_ok j1 g1 (ok.2.2 _).1
    · obtain ⟨_, f1, f2⟩ := dFr_ok (g := x.s3) j1 ok hd
      exact ⟨fun h => f2.elim id (fun f => by have h : (dFr s ys (dSkip ys i) (dk ys i).pos (dk ys i).next x.s3).2.2 < 0 := h; omega), Int.le_trans g1 f1.1, f1.2⟩
  · exact dLetP_ok h (Int.le_refl _) (ok.2.2 _).1
theorem dSi_ok {ys : List DTok} {i : Int} (h : 0 ≤ i ∧ i < (@List.length DTok ys : Int)) : i ≤ dSi ys i ∧ 0 ≤ dSi ys i ∧ dSi ys i < (@List.length DTok ys : Int) := by
  have j1 := dSkip_lt h
  have g1 : i ≤ dSkip ys i := by unfold dSkip; split <;> omega
  unfold dSi
  split
  · omega
  · split <;> omega
def Z6 (o : OnB) : Sums := (Z5 o).addSp 41 (stSpec 89 100 dtkC qRowD)
end Go.AM

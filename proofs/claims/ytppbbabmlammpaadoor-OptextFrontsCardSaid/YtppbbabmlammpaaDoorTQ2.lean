import Derived.Test.YtppbbabmlammpaaDoorTQ1
set_option linter.unusedVariables false
set_option linter.unusedSimpArgs false
open Go Go.AM Go.Proofs
namespace Go.AM
open Dist
set_option maxRecDepth 100000
def Front (s : List UInt8) : Prop := ∃ q : Nat, readF s = rdZ q 12 ∧ (q = s.length ∨ (q < s.length ∧ ∀ b ∈ s.drop q, sdB b))
theorem front0 {l0 : List Trm} {a b c x : Int} {g0 : Bool} (i0 : Inv l0 a b c x g0) {j : Nat} (hj : j ≤ (txt l0).length) (hl : (txt l0).length ≤ 600) : Front ((txt l0).take j) := by
  obtain ⟨l, p, h1, h2, h3, h4⟩ := cutRow l0 (rs0 0) (i0 0).1 j hj
  have hw : ∀ w ∈ wordsL l ++ p.w, wordOk w := fun w hw => (List.mem_append.1 hw).elim (wordOk_words h1 w) (wordOk_pg h2 w)
  have ha : alt false (wordsL l ++ p.w) := alt_rowp h1 h2 (by simp)
  have ht := toks_words hw ha
  rw [← h4] at ht
  obtain ⟨q, g1, g2⟩ := cut_row (A := []) (l := l) (p := p) h1 h2 (rowT (toks ((txt l0).take j)) (row1 (toks ((txt l0).take j))) 44 (rowT (toks ((txt l0).take j)) (row2 (toks ((txt l0).take j))) 46 (madeR (row0 (toks ((txt l0).take j))).e0 (row0 (toks ((txt l0).take j))).e1 (row0 (toks ((txt l0).take j))).e2 (row1 (toks ((txt l0).take j))).e0 (row1 (toks ((txt l0).take j))).e1 (row1 (toks ((txt l0).take j))).e2 (row2 (toks ((txt l0).take j))).e0 (row2 (toks ((txt l0).take j))).e1 (row2 (toks ((txt l0).take j))).e2 (row0 (toks ((txt l0).take j))).parts (row1 (toks ((txt l0).take j))).parts (row2 (toks ((txt l0).take j))).parts)))
  simp only [List.nil_append] at g1 g2
  rw [← h4] at g2
  refine ⟨q, ?_, g2⟩
  rw [readF, if_neg (by rw [List.length_take]; omega)]
  rw [← ht] at g1
  exact g1
theorem front1 {l0 l1 : List Trm} {a b c d e f x y : Int} {g0 g1 : Bool} (i0 : Inv l0 a b c x g0) (n0 : l0 ≠ []) (i1 : Inv l1 d e f y g1) {j : Nat} (hj : j ≤ (txt l1).length) (hl : (txt l0).length ≤ 600 ∧ (txt l1).length ≤ 600) : Front (txt l0 ++ (44 :: (txt l1).take j)) := by
  have m0 := (i0 0).1
  obtain ⟨l, p, h1, h2, h3, h4⟩ := cutRow l1 (rs0 (wordsL l0 ++ [[44]]).length) (i1 _).1 j hj
  have c44 : symB 44 := by simp [symB]
  have hw : ∀ w ∈ (wordsL l0 ++ [[44]]) ++ (wordsL l ++ p.w), wordOk w := fun w hw => by
    rcases List.mem_append.1 hw with hw | hw
    · rcases List.mem_append.1 hw with hw | hw
      · exact wordOk_words m0 w hw
      · exact .inr ⟨44, c44, List.mem_singleton.1 hw⟩
    · exact (List.mem_append.1 hw).elim (wordOk_words h1 w) (wordOk_pg h2 w)
  have ha : alt false ((wordsL l0 ++ [[44]]) ++ (wordsL l ++ p.w)) := by
    rw [List.append_assoc]
    exact alt_words m0 (by simp) (alt_sym c44 (alt_rowp h1 h2 (by simp)))
  have ht := toks_words hw ha
  have e4 : ((wordsL l0 ++ [[44]]) ++ (wordsL l ++ p.w)).flatten = txt l0 ++ (44 :: (txt l1).take j) := by
    rw [List.flatten_append, List.flatten_append, ← h4]
    simp [txt]
  rw [e4] at ht
  generalize hs : txt l0 ++ (44 :: (txt l1).take j) = s at *
  have hsl : s.length ≤ 65536 := by
    rw [← hs, List.length_append, List.length_cons, List.length_take]
    omega
  obtain ⟨q, g1, g2⟩ := cut_row (A := wordsL l0 ++ [[44]]) (l := l) (p := p) h1 h2 (rowT (toks s) (row2 (toks s)) 46 (madeR (row0 (toks s)).e0 (row0 (toks s)).e1 (row0 (toks s)).e2 (row1 (toks s)).e0 (row1 (toks s)).e1 (row1 (toks s)).e2 (row2 (toks s)).e0 (row2 (toks s)).e1 (row2 (toks s)).e2 (row0 (toks s)).parts (row1 (toks s)).parts (row2 (toks s)).parts))
  rw [e4] at g2
  refine ⟨q, ?_, g2⟩
  have hsay := toksW_says ((wordsL l0 ++ [[44]]) ++ (wordsL l ++ p.w))
  have hlen := toksW_len ((wordsL l0 ++ [[44]]) ++ (wordsL l ++ p.w))
  rw [← ht] at hsay hlen g1
  rw [readF, if_neg (by omega)]
  generalize toks s = ys at *
  rw [List.append_assoc] at hsay
  obtain ⟨s0, hsay⟩ := saysAt_app hsay
  obtain ⟨q1, _, q3, _⟩ := hsay
  have q1 : (tk ys (0 + (wordsL l0).length)).kind = 44 := q1
  have e0 : row0 ys = ⟨a, b, c, x, -1, 0 + (wordsL l0).length⟩ := inv_row i0 n0 s0 (by omega) (.inl q1)
  have e1 : row1 ys = rowF ys (wordsL l0 ++ [[44]]).length := by
    unfold row1
    rw [e0, nx_at q3]
    congr 1
    simp
  unfold readT
  rw [← e1] at g1
  rw [show ∀ N, rowT ys (row0 ys) 44 N = N from fun N => by unfold rowT; rw [e0, if_neg (show ¬ (0 : Int) ≤ -1 by decide), if_neg (by simpa using q1)]]
  exact g1
theorem rows_len {l : List Trm} {a b c x : Int} {g : Bool} (i : Inv l a b c x g) (h : l.length ≤ 4) : (txt l).length ≤ 176 := by
  have := (len_words (i 0).1).1
  unfold txt
  omega
def cmF (s : List UInt8) (i : Nat) : Nat := (s.take i).countP (fun b => decide ((b.toNat : Int) = 44))
theorem cmF_two {u v w : List UInt8} {i : Nat} (h : u.length + 1 + v.length ≤ i) : 2 ≤ cmF (u ++ ([44] ++ (v ++ ([44] ++ w)))) (i + 1) := by
  have e : u ++ ([44] ++ (v ++ ([44] ++ w))) = (u ++ ([44] ++ (v ++ [44]))) ++ w := by simp
  unfold cmF
  rw [e, List.take_append, List.take_of_length_le (by simp only [List.length_append, List.length_cons, List.length_nil]; omega)]
  simp only [List.countP_append, List.countP_cons, List.countP_nil]
  simp
  omega
theorem front_map {a b c d e f g h i x y z : Int} (ho : opE a b c d e f g h i x y z = 0) {j : Nat} (hj : j < (mapT a b c d e f g h i x y z).length) (hc : cmF (mapT a b c d e f g h i x y z) (j + 1) < 2) : Front ((mapT a b c d e f g h i x y z).take j) := by
  obtain ⟨o1, o2, o3⟩ := opE_zero.1 ho
  obtain ⟨hx, hy, hz⟩ := tbad_false.1 o1
  obtain ⟨ha, hb, hc0, hd, he, hf, hg, hh, hi⟩ := over9_false.1 o2
  obtain ⟨d0, d1, d2⟩ := det_rows o3
  obtain ⟨_, i0⟩ := rowTs_inv ha hb hc0 hx.1 hx.2
  obtain ⟨_, i1⟩ := rowTs_inv hd he hf hy.1 hy.2
  have n0 := rowTs_ne (t := x) d0
  have n1 := rowTs_ne (t := y) d1
  have t0 : txt (rowTs a b c x) = rowW a b c x := rowTs_txt hx.1 hx.2
  have t1 : txt (rowTs d e f y) = rowW d e f y := rowTs_txt hy.1 hy.2
  have k0 := rows_len i0 n0.2
  have k1 := rows_len i1 n1.2
  have lt : j < (rowW a b c x).length + 1 + (rowW d e f y).length := by
    rcases Nat.lt_or_ge j ((rowW a b c x).length + 1 + (rowW d e f y).length) with k | k
    · exact k
    · have := cmF_two (u := rowW a b c x) (v := rowW d e f y) (w := rowW g h i z) k
      unfold mapT at hc
      omega
  unfold mapT
  rcases Nat.lt_or_ge (rowW a b c x).length j with k | k
  · rw [List.take_append, List.take_of_length_le (by omega)]
    rw [show j - (rowW a b c x).length = (j - (rowW a b c x).length - 1) + 1 by omega, List.singleton_append, List.take_succ_cons, List.take_append_of_le_length (by omega), ← t0, ← t1]
    exact front1 i0 n0.1 i1 (by rw [t0, t1]; omega) ⟨by omega, by omega⟩
  · rw [List.take_append_of_le_length k, ← t0]
    exact front0 i0 (by rw [t0]; omega) (by omega)
theorem lex_part {s : List UInt8} : ∀ (u v : List UInt8) (n pos : Nat) (l : List Tok) (op : Bool), s.drop pos = u ++ v → asc u → ∃ op', toksP s (n + u.length) pos l op = toksP s n (pos + u.length) (lexP u pos l op) op'
  | [], v, n, pos, l, op, _, _ => ⟨op, rfl⟩
  | b :: u, v, n, pos, l, op, hu, ha => by
    have hp : pos < s.length := by
      rcases Nat.lt_or_ge pos s.length with h | h
      · exact h
      · rw [List.drop_eq_nil_of_le h] at hu; cases hu
    rw [List.drop_eq_getElem_cons hp] at hu
    injection hu with hb hu
    have eb : s.getD pos 0 = b := by rw [List.getD_eq_getElem?_getD, List.getElem?_eq_getElem hp, ← hb]; rfl
    obtain ⟨op', h⟩ := lex_part u v n (pos + 1) (stepT l op pos b.toNat).1 (stepT l op pos b.toNat).2 hu (fun c hc => ha c (by simp [hc]))
    refine ⟨op', ?_⟩
    have hbt : bt s pos < 128 := by
      have := ha b (by simp)
      unfold bt
      rw [eb]
      omega
    show toksP s (n + u.length + 1) pos l op = _
    rw [toksP, if_pos hp, rune_low hp hbt, eb]
    refine h.trans ?_
    rw [show pos + 1 + u.length = pos + (b :: u).length by simp; omega]
    rfl
theorem says_at2 {E : List Tok} (hE : E ≠ []) : ∀ {ts : List Tok} {ws : List (List UInt8)} {pre : List Tok}, says ts ws → saysAt (pre ++ (ts ++ E)) pre.length ws
  | [], [], _, _ => trivial
  | t :: ts, w :: ws, pre, h => by
    obtain ⟨h1, h2, h3⟩ := h
    have et : tk (pre ++ (t :: ts ++ E)) pre.length = t := by unfold tk; simp [List.getD_eq_getElem?_getD]
    have hp : 0 < E.length := List.length_pos_iff.2 hE
    refine ⟨by rw [et]; exact h1, by rw [et]; exact h2, by simp; omega, ?_⟩
    have := says_at2 hE (pre := pre ++ [t]) h3
    simp only [List.append_assoc, List.length_append, List.length_cons, List.length_nil] at this
    simpa using this
  | [], _ :: _, _, h => h.elim
  | _ :: _, [], _, h => h.elim
theorem inv_rowB {ys : List Tok} {l : List Trm} {st : Nat} {a b c p : Int} {g : Bool} (hi : Inv l a b c p g) (hne : l ≠ []) (hs : saysAt ys st (wordsL l)) (hl : st + (wordsL l).length < ys.length) (he : (tk ys (st + (wordsL l).length)).kind = 63) :
    rowF ys st = ⟨a, b, c, p, -1, st + (wordsL l).length⟩ := by
  obtain ⟨h1, st', h2⟩ := hi st
  have hlw := words_len l
  have hst : (appL (rs0 st) l).st = st + (wordsL l).length := appL_st l (rs0 st)
  have hgo := row_go l (rs0 st) (ys.length + 1) (by omega) hs h1 (fun _ => by show ¬ (tk ys (st + _)).kind = 47 ∧ ¬ (tk ys (st + _)).kind = 120; rw [he]; decide)
  obtain ⟨n, hn⟩ : ∃ n, ys.length + 1 - l.length = n + 1 := ⟨ys.length + 1 - l.length - 1, by omega⟩
  have hF : rowF ys st = rowR ys (n + 1) (appL (rs0 st) l) := by rw [← hn]; exact hgo
  rw [hF, row_stop (appL_first l (rs0 st) (.inr hne)) (by rw [hst, he]; decide), hst, h2]
theorem behind {a b c d e f g h i x y z : Int} (ho : opE a b c d e f g h i x y z = 0) {n : UInt8} (h32 : (n.toNat : Int) ≠ 32) (hd : digR n.toNat = false) (hs : symR n.toNat = false) : readF (mapT a b c d e f g h i x y z ++ [n]) = rdZ (mapT a b c d e f g h i x y z).length 12 := by
  obtain ⟨o1, o2, o3⟩ := opE_zero.1 ho
  obtain ⟨hx, hy, hz⟩ := tbad_false.1 o1
  obtain ⟨ha, hb, hc, hdd, he, hf, hg, hh, hi⟩ := over9_false.1 o2
  obtain ⟨d0, d1, d2⟩ := det_rows o3
  obtain ⟨_, i0⟩ := rowTs_inv ha hb hc hx.1 hx.2
  obtain ⟨_, i1⟩ := rowTs_inv hdd he hf hy.1 hy.2
  obtain ⟨_, i2⟩ := rowTs_inv hg hh hi hz.1 hz.2
  have n0 := rowTs_ne (t := x) d0
  have n1 := rowTs_ne (t := y) d1
  have n2 := rowTs_ne (t := z) d2
  have k0 := rows_len i0 n0.2
  have k1 := rows_len i1 n1.2
  have k2 := rows_len i2 n2.2
  rw [mapT_words ho, flat0]
  generalize rowTs a b c x = l0 at *
  generalize rowTs d e f y = l1 at *
  generalize rowTs g h i z = l2 at *
  have m0 := (i0 0).1
  have m1 := (i1 0).1
  have m2 := (i2 0).1
  have c44 : symB 44 := by simp [symB]
  have hw : ∀ w ∈ words3 l0 l1 l2, wordOk w := fun w hw => by
    rcases List.mem_append.1 hw with hw | hw
    · exact wordOk_words m0 w hw
    · rcases List.mem_cons.1 hw with hw | hw
      · exact .inr ⟨44, c44, hw⟩
      · rcases List.mem_append.1 hw with hw | hw
        · exact wordOk_words m1 w hw
        · rcases List.mem_cons.1 hw with hw | hw
          · exact .inr ⟨44, c44, hw⟩
          · exact wordOk_words m2 w hw
  have hal : alt false (words3 l0 l1 l2) := by
    refine alt_words m0 (fun e => by cases e) (alt_sym c44 (alt_words m1 (fun e => by cases e) (alt_sym c44 ?_)))
    have := alt_words (op := false) (r := []) m2 (fun e => by cases e) trivial
    rwa [List.append_nil] at this
  have hL : (words3 l0 l1 l2).length = (wordsL l0).length + 1 + (wordsL l1).length + 1 + (wordsL l2).length := by
    unfold words3
    simp only [List.length_append, List.length_cons]
    omega
  have hU : (words3 l0 l1 l2).flatten.length ≤ 600 := by
    have e : (words3 l0 l1 l2).flatten = txt l0 ++ ([44] ++ (txt l1 ++ ([44] ++ txt l2))) := by simp [words3, txt]
    rw [e]
    simp only [List.length_append, List.length_cons, List.length_nil]
    omega
  have hT : ∃ t R, toks ((words3 l0 l1 l2).flatten ++ [n]) = tokW 0 (words3 l0 l1 l2) ++ (⟨63, t, (words3 l0 l1 l2).flatten.length⟩ :: (R ++ [⟨46, [], ((words3 l0 l1 l2).flatten ++ [n]).length⟩])) := by
    obtain ⟨op1, e1⟩ := lex_part (s := (words3 l0 l1 l2).flatten ++ [n]) (words3 l0 l1 l2).flatten [n] 2 0 [] false rfl (words_asc hw)
    obtain ⟨op2, e2⟩ := lexW (words3 l0 l1 l2) [] 0 [] false hw hal
    rw [List.append_nil] at e2
    rw [e2] at e1
    have e1 : toksP ((words3 l0 l1 l2).flatten ++ [n]) (2 + (words3 l0 l1 l2).flatten.length) 0 [] false = toksP ((words3 l0 l1 l2).flatten ++ [n]) 2 (0 + (words3 l0 l1 l2).flatten.length) (tokW 0 (words3 l0 l1 l2)) op1 := e1
    rw [Nat.zero_add] at e1
    have hlt : (words3 l0 l1 l2).flatten.length < ((words3 l0 l1 l2).flatten ++ [n]).length := by simp
    have hgd : ((words3 l0 l1 l2).flatten ++ [n]).getD (words3 l0 l1 l2).flatten.length 0 = n := by simp [List.getD_eq_getElem?_getD]
    have hr : ((runeL ((words3 l0 l1 l2).flatten ++ [n]) (words3 l0 l1 l2).flatten.length).1 : Int) ≠ 32 ∧ digR (runeL ((words3 l0 l1 l2).flatten ++ [n]) (words3 l0 l1 l2).flatten.length).1 = false ∧ symR (runeL ((words3 l0 l1 l2).flatten ++ [n]) (words3 l0 l1 l2).flatten.length).1 = false := by
      rcases Int.lt_or_le (bt ((words3 l0 l1 l2).flatten ++ [n]) (words3 l0 l1 l2).flatten.length) 128 with hb | hb
      · rw [rune_low hlt hb, hgd]
        exact ⟨h32, hd, hs⟩
      · have := rune_high hlt hb
        refine ⟨by omega, ?_, ?_⟩
        · cases h9 : digR (runeL ((words3 l0 l1 l2).flatten ++ [n]) (words3 l0 l1 l2).flatten.length).1 with
          | false => rfl
          | true => have := digR_iff.1 h9; omega
        · unfold symR
          simp only [Bool.or_eq_false_iff, decide_eq_false_iff_not]
          omega
    obtain ⟨t, R, h2⟩ := toks_bad (m := 1) (l := tokW 0 (words3 l0 l1 l2)) (op := op1) hlt hr.1 hr.2.1 hr.2.2
    refine ⟨t, R, ?_⟩
    unfold toks
    rw [show ((words3 l0 l1 l2).flatten ++ [n]).length + 1 = 2 + (words3 l0 l1 l2).flatten.length by simp; omega, e1, h2]
    simp
  obtain ⟨t, R, hT⟩ := hT
  rw [readF, if_neg (by rw [List.length_append, List.length_singleton]; omega), hT]
  have hsay := says_at2 (E := ⟨63, t, (words3 l0 l1 l2).flatten.length⟩ :: (R ++ [⟨46, [], ((words3 l0 l1 l2).flatten ++ [n]).length⟩])) (by simp) (pre := []) (says_tokW (words3 l0 l1 l2) 0)
  have hlast : tk (tokW 0 (words3 l0 l1 l2) ++ (⟨63, t, (words3 l0 l1 l2).flatten.length⟩ :: (R ++ [⟨46, [], ((words3 l0 l1 l2).flatten ++ [n]).length⟩]))) (words3 l0 l1 l2).length = ⟨63, t, (words3 l0 l1 l2).flatten.length⟩ := by
    unfold tk
    rw [← tokW_len (words3 l0 l1 l2) 0]
    simp [List.getD_eq_getElem?_getD]
  have hy : (words3 l0 l1 l2).length < (tokW 0 (words3 l0 l1 l2) ++ ((⟨63, t, (words3 l0 l1 l2).flatten.length⟩ : Tok) :: (R ++ [(⟨46, [], ((words3 l0 l1 l2).flatten ++ [n]).length⟩ : Tok)]))).length := by
    simp [tokW_len]
  rw [List.nil_append] at hsay
  have hsay : saysAt (tokW 0 (words3 l0 l1 l2) ++ (⟨63, t, (words3 l0 l1 l2).flatten.length⟩ :: (R ++ [⟨46, [], ((words3 l0 l1 l2).flatten ++ [n]).length⟩]))) 0 (words3 l0 l1 l2) := hsay
  generalize tokW 0 (words3 l0 l1 l2) ++ (⟨63, t, (words3 l0 l1 l2).flatten.length⟩ :: (R ++ [⟨46, [], ((words3 l0 l1 l2).flatten ++ [n]).length⟩])) = ys at *
  rw [hL] at hlast hy
  obtain ⟨s0, hsay⟩ := saysAt_app hsay
  obtain ⟨q1, _, q3, hsay⟩ := hsay
  obtain ⟨s1, hsay⟩ := saysAt_app hsay
  obtain ⟨r1, _, r3, s2⟩ := hsay
  have q1 : (tk ys (0 + (wordsL l0).length)).kind = 44 := q1
  have r1 : (tk ys (0 + (wordsL l0).length + 1 + (wordsL l1).length)).kind = 44 := r1
  have e0 : row0 ys = ⟨a, b, c, x, -1, 0 + (wordsL l0).length⟩ := inv_row i0 n0.1 s0 (by omega) (.inl q1)
  have e1 : row1 ys = ⟨d, e, f, y, -1, 0 + (wordsL l0).length + 1 + (wordsL l1).length⟩ := by
    unfold row1
    rw [e0, nx_at q3]
    exact inv_row i1 n1.1 s1 (by omega) (.inl r1)
  have e2 : row2 ys = ⟨g, h, i, z, -1, 0 + (wordsL l0).length + 1 + (wordsL l1).length + 1 + (wordsL l2).length⟩ := by
    unfold row2
    rw [e1, nx_at r3]
    exact inv_rowB i2 n2.1 s2 (by omega) (by rw [Nat.zero_add, hlast])
  unfold readT rowT
  rw [e0, e1, e2]
  simp only [q1, r1, Nat.zero_add, hlast, not_true_eq_false, if_false]
  rw [if_neg (by decide), if_neg (by simpa using q1), if_neg (by decide), if_neg (by simpa using r1), if_neg (by decide)]
  rfl
end Go.AM

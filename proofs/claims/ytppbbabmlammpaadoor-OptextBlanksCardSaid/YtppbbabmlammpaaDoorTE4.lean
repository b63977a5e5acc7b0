import Derived.Test.YtppbbabmlammpaaDoorTE2
/- Blanks between the words of a text: what spread makes of it. -/
open Go Go.AM Go.Proofs
namespace Go.AM
open Dist
set_option maxRecDepth 100000
def sprL (m : Nat) : Bool → List UInt8 → List UInt8
  | _, [] => bl m
  | d, b :: u => (if (d && digR b.toNat) = true then [] else bl m) ++ (b :: sprL m (digR b.toNat) u)
theorem sprP_L {m : Nat} {s : List UInt8} : ∀ (u : List UInt8) (i : Nat), s.drop i = u → sprP m s u.length i = sprL m (decide (0 < i) && digR (s.getD (i - 1) 0).toNat) u
  | [], _, _ => rfl
  | b :: u, i, h => by
    have hp : i < s.length := by
      rcases Nat.lt_or_ge i s.length with h1 | h1
      · exact h1
      · rw [List.drop_eq_nil_of_le h1] at h; cases h
    rw [List.drop_eq_getElem_cons hp] at h
    injection h with hb hu
    have eb : s.getD i 0 = b := by rw [List.getD_eq_getElem?_getD, List.getElem?_eq_getElem hp, ← hb]; rfl
    have ih := sprP_L (m := m) u (i + 1) hu
    show (if dgt s i = true then [] else bl m) ++ (s.getD i 0 :: sprP m s u.length (i + 1)) = (if ((decide (0 < i) && digR (s.getD (i - 1) 0).toNat) && digR b.toNat) = true then [] else bl m) ++ (b :: sprL m (digR b.toNat) u)
    rw [ih, Nat.add_sub_cancel, eb, decide_eq_true (Nat.succ_pos i), Bool.true_and]
    unfold dgt
    rw [eb]
    congr 2
    cases decide (0 < i) <;> cases digR (b.toNat : Int) <;> cases digR ((s.getD (i - 1) 0).toNat : Int) <;> rfl
theorem sprF_L (m : Nat) (s : List UInt8) : sprF m s = sprL m false s := sprP_L s 0 rfl
theorem sprL_digs {m : Nat} : ∀ (ds u : List UInt8), (∀ b ∈ ds, digB b) → sprL m true (ds ++ u) = ds ++ sprL m true u
  | [], _, _ => rfl
  | b :: ds, u, h => by
    have hb := digR_b (h b (by simp))
    show (if (true && digR b.toNat) = true then [] else bl m) ++ (b :: sprL m (digR b.toNat) (ds ++ u)) = _
    rw [hb, sprL_digs ds u (fun c hc => h c (by simp [hc]))]
    rfl
theorem sprL_word {m : Nat} {w : List UInt8} (h : wordOk w) (u : List UInt8) {op : Bool} (ho : op = true → isDig w = false) : sprL m op (w ++ u) = bl m ++ (w ++ sprL m (isDig w) u) := by
  rcases h with h | ⟨b, hb, rfl⟩
  · obtain ⟨h1, h2⟩ := h
    cases w with
    | nil => exact absurd rfl h1
    | cons b ds =>
      have hb := digR_b (h2 b (by simp))
      have hi : isDig (b :: ds) = true := hb
      have hop : op = false := by
        cases op with
        | true => rw [ho rfl] at hi; cases hi
        | false => rfl
      subst hop
      show (if (false && digR b.toNat) = true then [] else bl m) ++ (b :: sprL m (digR b.toNat) (ds ++ u)) = _
      rw [hb, sprL_digs ds u (fun c hc => h2 c (by simp [hc])), hi]
      rfl
  · have hd : digR b.toNat = false := by rcases hb with e | e | e | e | e | e | e <;> subst e <;> rfl
    show (if (op && digR b.toNat) = true then [] else bl m) ++ (b :: sprL m (digR b.toNat) u) = bl m ++ ([b] ++ sprL m (digR b.toNat) u)
    rw [hd, Bool.and_false]
    rfl
theorem sprL_flat {m : Nat} : ∀ {ws : List (List UInt8)} {op : Bool}, (∀ w ∈ ws, wordOk w) → alt op ws → sprL m op (flat 0 ws) = flat m ws
  | [], _, _, _ => rfl
  | w :: ws, op, hw, ha => by
    show sprL m op (w ++ flat 0 ws) = bl m ++ (w ++ flat m ws)
    rw [sprL_word (hw w (by simp)) _ ha.1, sprL_flat (fun v hv => hw v (by simp [hv])) ha.2]
theorem words3_ok {l0 l1 l2 : List Trm} {x0 x1 x2 : RS} (m0 : okM x0 l0) (m1 : okM x1 l1) (m2 : okM x2 l2) : (∀ w ∈ words3 l0 l1 l2, wordOk w) ∧ alt false (words3 l0 l1 l2) := by
  have c44 : symB 44 := by simp [symB]
  refine ⟨fun w hw => ?_, ?_⟩
  · rcases List.mem_append.1 hw with hw | hw
    · exact wordOk_words m0 w hw
    · rcases List.mem_cons.1 hw with hw | hw
      · exact .inr ⟨44, c44, hw⟩
      · rcases List.mem_append.1 hw with hw | hw
        · exact wordOk_words m1 w hw
        · rcases List.mem_cons.1 hw with hw | hw
          · exact .inr ⟨44, c44, hw⟩
          · exact wordOk_words m2 w hw
  · refine alt_words m0 (fun e => by cases e) (alt_sym c44 (alt_words m1 (fun e => by cases e) (alt_sym c44 ?_)))
    have := alt_words (op := false) (r := []) m2 (fun e => by cases e) trivial
    rwa [List.append_nil] at this
theorem map_words {a b c d e f g h i x y z : Int} (ho : opE a b c d e f g h i x y z = 0) : (∀ w ∈ words3 (rowTs a b c x) (rowTs d e f y) (rowTs g h i z), wordOk w) ∧ alt false (words3 (rowTs a b c x) (rowTs d e f y) (rowTs g h i z)) := by
  obtain ⟨o1, o2, o3⟩ := opE_zero.1 ho
  obtain ⟨hx, hy, hz⟩ := tbad_false.1 o1
  obtain ⟨ha, hb, hc, hd, he, hf, hg, hh, hi⟩ := over9_false.1 o2
  obtain ⟨_, i0⟩ := rowTs_inv ha hb hc hx.1 hx.2
  obtain ⟨_, i1⟩ := rowTs_inv hd he hf hy.1 hy.2
  obtain ⟨_, i2⟩ := rowTs_inv hg hh hi hz.1 hz.2
  exact words3_ok (i0 0).1 (i1 0).1 (i2 0).1
/-- a map's text with blanks is read as the map -/
theorem read_spread {m : Nat} {a b c d e f g h i x y z : Int} (ho : opE a b c d e f g h i x y z = 0) (hm : m ≤ 1000) : readF (sprF m (mapT a b c d e f g h i x y z)) = ⟨a, b, c, d, e, f, g, h, i, x, y, z, 0, 0⟩ := by
  obtain ⟨w1, w2⟩ := map_words ho
  rw [sprF_L, mapT_words ho, sprL_flat w1 w2]
  exact read_map ho hm
theorem mapT_len {a b c d e f g h i x y z : Int} (ho : opE a b c d e f g h i x y z = 0) : (mapT a b c d e f g h i x y z).length ≤ 400 := by
  obtain ⟨o1, o2, o3⟩ := opE_zero.1 ho
  obtain ⟨ha, hb, hc, hd, he, hf, hg, hh, hi⟩ := over9_false.1 o2
  have h1 := rowWL (t := x) ha hb hc
  have h2 := rowWL (t := y) hd he hf
  have h3 := rowWL (t := z) hg hh hi
  unfold mapT
  simp only [List.length_append, List.length_cons, List.length_nil]
  omega
end Go.AM

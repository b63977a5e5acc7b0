import Derived.Test.YtppbbabmlammpaaDoorTD2
set_option linter.unusedVariables false
set_option linter.unusedSimpArgs false
open Go Go.AM Go.Proofs
namespace Go.AM
open Dist
set_option maxRecDepth 100000
theorem mulE_one2 (p q r s t u v w k l m n : Int) : mulE p q r s t u v w k l m n 1 0 0 0 1 0 0 0 1 0 0 0 = opE p q r s t u v w k l m n := by
  have e1 : matE 1 0 0 0 1 0 0 0 1 = 0 := by decide
  have e2 : tbad 0 0 0 = false := by decide
  unfold mulE opE
  rw [e1, e2]
  rcases matE_cases p q r s t u v w k with ⟨h2, _⟩ | ⟨h2, _⟩ | ⟨h2, h3, _⟩
  · simp [h2]
  · simp [h2]
  · obtain ⟨hp, hq, hr, hs, ht, hu, hv, hw, hk⟩ := over9_false.1 h3
    have b1 : B1 1 := by unfold B1; omega
    have b0 : B1 0 := by unfold B1; omega
    have : mulO p q r s t u v w k l m n 1 0 0 0 1 0 0 0 1 0 0 0 = false := by
      unfold mulO
      rw [pr_id hp hq hr b1 b0 b0, pr_id hp hq hr b0 b1 b0, pr_id hp hq hr b0 b0 b1, pr_id hs ht hu b1 b0 b0, pr_id hs ht hu b0 b1 b0, pr_id hs ht hu b0 b0 b1, pr_id hv hw hk b1 b0 b0, pr_id hv hw hk b0 b1 b0, pr_id hv hw hk b0 b0 b1]
      refine over9_false.2 ?_
      simp only [Int.mul_one, Int.mul_zero, Int.add_zero, Int.zero_add]
      exact ⟨hp, hq, hr, hs, ht, hu, hv, hw, hk⟩
    simp [h2, this]
theorem flat0 : ∀ ws : List (List UInt8), flat 0 ws = ws.flatten
  | [] => rfl
  | w :: ws => by
    show bl 0 ++ (w ++ flat 0 ws) = _
    rw [flat0 ws]
    rfl
def txt (ts : List Trm) : List UInt8 := (wordsL ts).flatten
theorem txt_app (a : List Trm) (t : Trm) : txt (a ++ [t]) = txt a ++ t.w.flatten := by
  unfold txt
  rw [wordsL_app, List.flatten_append]
  show _ ++ (t.w ++ []).flatten = _
  rw [List.append_nil]
theorem itoa_ne (n : Int) : Lib.itoa n ≠ [] := by
  unfold Lib.itoa
  split
  · simp
  · exact (dec_facts _).1.1
theorem trm_ne (t : Trm) : t.w.flatten ≠ [] := by
  intro h
  cases t with
  | lt s k l => simp [Trm.w] at h
  | fr s n d => simp [Trm.w, itoa_ne] at h
theorem txt_nil : ∀ {a : List Trm}, txt a = [] ↔ a = []
  | [] => ⟨fun _ => rfl, fun _ => rfl⟩
  | t :: a => ⟨fun h => by
      have : t.w.flatten ++ txt a = [] := by rw [← h]; unfold txt; rw [show wordsL (t :: a) = t.w ++ wordsL a from rfl, List.flatten_append]
      exact absurd (List.append_eq_nil_iff.1 this).1 (trm_ne t), fun h => by cases h⟩
def entT (ts : List Trm) (x : Int) (l : UInt8) : List Trm :=
  if x = 0 then ts else if x < 0 then ts ++ [.lt .minus (if x = -1 then none else some (-x)) l] else ts ++ [.lt (if ts.isEmpty = true then .no else .plus) (if x = 1 then none else some x) l]
theorem ent_txt (ts : List Trm) (x : Int) (l : UInt8) : txt (entT ts x l) = ent (txt ts) x l := by
  unfold entT ent
  by_cases h0 : x = 0
  · rw [if_pos h0, if_pos h0]
  · rw [if_neg h0, if_neg h0]
    by_cases h1 : x < 0
    · rw [if_pos h1, if_pos h1, txt_app]
      by_cases h2 : x = -1
      · rw [if_pos h2, if_pos h2]; rfl
      · rw [if_neg h2, if_neg h2]; simp [Trm.w, Sg.w, numW]
    · rw [if_neg h1, if_neg h1, txt_app]
      cases ts with
      | nil =>
        rw [if_pos (show txt [] = [] from rfl)]
        by_cases h2 : x = 1
        · rw [if_pos h2, if_pos h2]; rfl
        · rw [if_neg h2, if_neg h2]; simp [Trm.w, Sg.w, numW, txt, wordsL]
      | cons t ts =>
        rw [if_neg (show ¬ txt (t :: ts) = [] from fun h => by cases txt_nil.1 h)]
        by_cases h2 : x = 1
        · rw [if_pos h2, if_pos h2]; rfl
        · rw [if_neg h2, if_neg h2]; simp [Trm.w, Sg.w, numW]
theorem ent_k {x : Int} {s : Sg} (h0 : x ≠ 0) (h1 : -1000 ≤ x) (h2 : x ≤ 1000) :
    (x < 0 → (∀ n, (if x = -1 then none else some (-x)) = some n → 1 ≤ n ∧ n ≤ 1000) ∧ Sg.minus.v * (if x = -1 then none else some (-x)).getD 1 = x) ∧
    (¬ x < 0 → s ≠ .minus → (∀ n, (if x = 1 then none else some x) = some n → 1 ≤ n ∧ n ≤ 1000) ∧ s.v * (if x = 1 then none else some x).getD 1 = x) := by
  refine ⟨fun h => ?_, fun h hs => ?_⟩
  · split
    · rename_i e
      subst e
      exact ⟨fun n h => by (cases h), rfl⟩
    · refine ⟨fun n h => by injection h; omega, ?_⟩
      show -1 * (-x) = x
      omega
  · have : s.v = 1 := by cases s with
      | no => rfl
      | plus => rfl
      | minus => exact absurd rfl hs
    rw [this]
    split
    · rename_i e
      subst e
      exact ⟨fun n h => by (cases h), rfl⟩
    · refine ⟨fun n h => by injection h; omega, ?_⟩
      show 1 * x = x
      omega
theorem ent_s (ts : List Trm) : (ts = [] ∨ (if ts.isEmpty = true then Sg.no else Sg.plus) ≠ .no) ∧ (if ts.isEmpty = true then Sg.no else Sg.plus) ≠ .minus := by
  cases ts with
  | nil => exact ⟨.inl rfl, fun h => by cases h⟩
  | cons t ts => exact ⟨.inr (fun h => by cases h), fun h => by cases h⟩
theorem ent_x {ts : List Trm} {b c p x : Int} {g : Bool} (h : Inv ts 0 b c p g) (h1 : -1000 ≤ x) (h2 : x ≤ 1000) : Inv (entT ts x 120) x b c p g := by
  unfold entT
  by_cases h0 : x = 0
  · rw [if_pos h0, h0]; exact h
  · rw [if_neg h0]
    by_cases hn : x < 0
    · rw [if_pos hn]
      obtain ⟨k1, k2⟩ := (ent_k (s := .no) h0 h1 h2).1 hn
      have := inv_x (s := .minus) h (.inr (fun h => nomatch h)) k1
      rwa [k2] at this
    · rw [if_neg hn]
      obtain ⟨k1, k2⟩ := (ent_k h0 h1 h2).2 hn (ent_s ts).2
      have := inv_x h (ent_s ts).1 k1
      rwa [k2] at this
theorem ent_y {ts : List Trm} {a c p x : Int} {g : Bool} (h : Inv ts a 0 c p g) (h1 : -1000 ≤ x) (h2 : x ≤ 1000) : Inv (entT ts x 121) a x c p g := by
  unfold entT
  by_cases h0 : x = 0
  · rw [if_pos h0, h0]; exact h
  · rw [if_neg h0]
    by_cases hn : x < 0
    · rw [if_pos hn]
      obtain ⟨k1, k2⟩ := (ent_k (s := .no) h0 h1 h2).1 hn
      have := inv_y (s := .minus) h (.inr (fun h => nomatch h)) k1
      rwa [k2] at this
    · rw [if_neg hn]
      obtain ⟨k1, k2⟩ := (ent_k h0 h1 h2).2 hn (ent_s ts).2
      have := inv_y h (ent_s ts).1 k1
      rwa [k2] at this
theorem ent_z {ts : List Trm} {a b p x : Int} {g : Bool} (h : Inv ts a b 0 p g) (h1 : -1000 ≤ x) (h2 : x ≤ 1000) : Inv (entT ts x 122) a b x p g := by
  unfold entT
  by_cases h0 : x = 0
  · rw [if_pos h0, h0]; exact h
  · rw [if_neg h0]
    by_cases hn : x < 0
    · rw [if_pos hn]
      obtain ⟨k1, k2⟩ := (ent_k (s := .no) h0 h1 h2).1 hn
      have := inv_z (s := .minus) h (.inr (fun h => nomatch h)) k1
      rwa [k2] at this
    · rw [if_neg hn]
      obtain ⟨k1, k2⟩ := (ent_k h0 h1 h2).2 hn (ent_s ts).2
      have := inv_z h (ent_s ts).1 k1
      rwa [k2] at this
def frN (t : Int) : Int := t.tdiv ((Int.gcd t 24 : Nat) : Int)
def frD (t : Int) : Int := Int.tdiv 24 ((Int.gcd t 24 : Nat) : Int)
theorem fr_ok {t : Int} (h0 : 0 < t) (h1 : t < 24) : 0 ≤ frN t ∧ frN t ≤ 999 ∧ 1 ≤ frD t ∧ frD t ≤ 999 ∧ (24 * frN t).tmod (frD t) = 0 ∧ (24 * frN t).tdiv (frD t) = t := by
  rcases fr_cases (Int.le_of_lt h0) h1 with h | h | h | h | h | h | h | h | h | h | h | h | h | h | h | h | h | h | h | h | h | h | h | h <;> first
    | (exfalso; omega)
    | (rw [h]; decide)
def frTrm (s : Sg) (t : Int) : Trm := if t = 0 then .fr s 0 none else .fr s (frN t) (some (frD t))
theorem fr_txt (s : Sg) (t : Int) : (frTrm s t).w.flatten = s.w.flatten ++ frT t := by
  unfold frTrm frT
  by_cases h : t = 0
  · rw [if_pos h, if_pos h]
    have : Lib.itoa 0 = [48] := by unfold Lib.itoa; rw [if_neg (by decide)]; show Lib.decDigits 0 = _; rw [Lib.decDigits, dif_pos (by decide)]; rfl
    simp [Trm.w, denW, this]
  · rw [if_neg h, if_neg h]
    simp [Trm.w, denW, frN, frD]
theorem inv_frT {ts : List Trm} {a b c p t : Int} {s : Sg} (h : Inv ts a b c p false) (hs : ts = [] ∨ s ≠ .no) (h0 : 0 ≤ t) (h1 : t < 24) : Inv (ts ++ [frTrm s t]) a b c (s.v * t) true := by
  unfold frTrm
  by_cases h2 : t = 0
  · rw [if_pos h2, h2]
    have := inv_f (n := 0) (d := none) h hs (by decide) (by decide) (fun m h => by cases h)
    rwa [show s.v * (24 * 0 : Int).tdiv ((none : Option Int).getD 1) = s.v * 0 from rfl] at this
  · rw [if_neg h2]
    obtain ⟨f1, f2, f3, f4, f5, f6⟩ := fr_ok (by omega : 0 < t) h1
    have := inv_f (n := frN t) (d := some (frD t)) h hs f1 f2 (fun m h => by injection h with h; subst h; exact ⟨f3, f4, f5⟩)
    rwa [show s.v * (24 * frN t).tdiv ((some (frD t)).getD 1) = s.v * t by rw [Option.getD_some, f6]] at this
def rowTs (a b c t : Int) : List Trm := if t = 0 then entT (entT (entT [] a 120) b 121) c 122 else entT (entT (entT [] a 120) b 121) c 122 ++ [frTrm .plus t]
theorem rowTs_txt {a b c t : Int} (h0 : 0 ≤ t) (h1 : t < 24) : txt (rowTs a b c t) = rowW a b c t := by
  have e : txt (entT (entT (entT [] a 120) b 121) c 122) = rowP a b c 3 := by rw [ent_txt, ent_txt, ent_txt]; rfl
  unfold rowTs rowW
  by_cases h : t = 0
  · rw [if_pos h, if_pos h, e]
  · have em : mdR t = t := by have := (mdR_bd t).2.2; omega
    rw [if_neg h, if_neg h, txt_app, e, fr_txt, em]
    rfl
theorem entT_len (ts : List Trm) (x : Int) (l : UInt8) : (entT ts x l).length ≤ ts.length + 1 ∧ (ts ≠ [] → entT ts x l ≠ []) ∧ (x ≠ 0 → entT ts x l ≠ []) := by
  unfold entT
  split
  · rename_i h; exact ⟨by omega, id, fun h2 => absurd h h2⟩
  · split <;> simp
theorem rowTs_inv {a b c t : Int} (ha : -1000 ≤ a ∧ a ≤ 1000) (hb : -1000 ≤ b ∧ b ≤ 1000) (hc : -1000 ≤ c ∧ c ≤ 1000) (h0 : 0 ≤ t) (h1 : t < 24) : ∃ g, Inv (rowTs a b c t) a b c t g := by
  have e : Inv (entT (entT (entT [] a 120) b 121) c 122) a b c 0 false := ent_z (ent_y (ent_x inv_nil ha.1 ha.2) hb.1 hb.2) hc.1 hc.2
  unfold rowTs
  by_cases h : t = 0
  · rw [if_pos h, h]; exact ⟨_, e⟩
  · rw [if_neg h]
    have := inv_frT (s := .plus) (t := t) e (.inr (fun h => by cases h)) h0 h1
    rw [show Sg.plus.v * t = t from Int.one_mul t] at this
    exact ⟨_, this⟩
theorem rowTs_ne {a b c t : Int} (h : ¬ (a = 0 ∧ b = 0 ∧ c = 0)) : rowTs a b c t ≠ [] ∧ (rowTs a b c t).length ≤ 4 := by
  have e1 := entT_len [] a 120
  have e2 := entT_len (entT [] a 120) b 121
  have e3 := entT_len (entT (entT [] a 120) b 121) c 122
  simp only [List.length_nil] at e1
  have hne : entT (entT (entT [] a 120) b 121) c 122 ≠ [] := by
    by_cases hc : c = 0
    · by_cases hb : b = 0
      · exact e3.2.1 (e2.2.1 (e1.2.2 (fun ha => h ⟨ha, hb, hc⟩)))
      · exact e3.2.1 (e2.2.2 hb)
    · exact e3.2.2 hc
  unfold rowTs
  split
  · exact ⟨hne, by omega⟩
  · refine ⟨by simp, ?_⟩
    simp only [List.length_append, List.length_cons, List.length_nil]
    omega
theorem itoa_len {n : Int} (h0 : 0 ≤ n) (h1 : n ≤ 1000) : (Lib.itoa n).length ≤ 21 := Lib.itoa_length_le n (by omega) (by omega)
theorem len_trm {t : Trm} {x : RS} (ok : t.ok x) : t.w.flatten.length ≤ 44 ∧ t.w.length ≤ 4 := by
  have hsg : ∀ s : Sg, s.w.flatten.length ≤ 1 ∧ s.w.length ≤ 1 := fun s => by cases s <;> simp [Sg.w]
  cases t with
  | lt s k l =>
    obtain ⟨o1, o2, o3⟩ := ok
    have := hsg s
    have hk : (numW k).flatten.length ≤ 21 ∧ (numW k).length ≤ 1 := by
      cases k with
      | none => simp [numW]
      | some n =>
        have := itoa_len (n := n) (by have := o2 n rfl; omega) (o2 n rfl).2
        simp [numW]
        omega
    simp only [Trm.w, List.flatten_append, List.length_append, List.flatten_cons, List.flatten_nil, List.length_cons, List.length_nil]
    omega
  | fr s n d =>
    obtain ⟨o1, o2, o3, o4, o5⟩ := ok
    have := hsg s
    have hn := itoa_len o2 (by omega : n ≤ 1000)
    have hd : (denW d).flatten.length ≤ 22 ∧ (denW d).length ≤ 2 := by
      cases d with
      | none => simp [denW]
      | some m =>
        have := itoa_len (n := m) (by have := o5 m rfl; omega) (by have := o5 m rfl; omega)
        simp [denW]
        omega
    simp only [Trm.w, List.flatten_append, List.length_append, List.flatten_cons, List.length_cons]
    omega
theorem len_words : ∀ {l : List Trm} {x : RS}, okM x l → (wordsL l).flatten.length ≤ 44 * l.length ∧ (wordsL l).length ≤ 4 * l.length
  | [], _, _ => by simp [wordsL]
  | t :: l, x, ok => by
    have h1 := len_trm ok.1
    have h2 := len_words ok.2
    simp only [wordsL, List.flatten_append, List.length_append, List.length_cons]
    omega
def mapT (a b c d e f g h i x y z : Int) : List UInt8 := rowW a b c x ++ ([44] ++ (rowW d e f y ++ ([44] ++ rowW g h i z)))
theorem det_rows {a b c d e f g h i : Int} (hd : detI a b c d e f g h i = 1 ∨ detI a b c d e f g h i = -1) : ¬ (a = 0 ∧ b = 0 ∧ c = 0) ∧ ¬ (d = 0 ∧ e = 0 ∧ f = 0) ∧ ¬ (g = 0 ∧ h = 0 ∧ i = 0) := by
  unfold detI at hd
  refine ⟨?_, ?_, ?_⟩ <;> rintro ⟨rfl, rfl, rfl⟩ <;> simp at hd
theorem mapT_words {a b c d e f g h i x y z : Int} (ho : opE a b c d e f g h i x y z = 0) : mapT a b c d e f g h i x y z = flat 0 (words3 (rowTs a b c x) (rowTs d e f y) (rowTs g h i z)) := by
  obtain ⟨o1, _, _⟩ := opE_zero.1 ho
  obtain ⟨hx, hy, hz⟩ := tbad_false.1 o1
  rw [flat0]
  unfold words3 mapT
  rw [List.flatten_append, List.flatten_cons, List.flatten_append, List.flatten_cons]
  rw [show (wordsL (rowTs a b c x)).flatten = rowW a b c x from rowTs_txt hx.1 hx.2, show (wordsL (rowTs d e f y)).flatten = rowW d e f y from rowTs_txt hy.1 hy.2, show (wordsL (rowTs g h i z)).flatten = rowW g h i z from rowTs_txt hz.1 hz.2]
end Go.AM

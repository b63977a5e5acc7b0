import Derived.Test.YtppbbabmlammpaaDoorTD2
set_option linter.unusedVariables false
set_option linter.unusedSimpArgs false
open Go Go.AM Go.Proofs
namespace Go.AM
open Dist
set_option maxRecDepth 100000
theorem mulE_one2 (p q r s t u v w k l m n : Int) : mulE p q r s t u v w k l m n 1 0 0 0 1 0 0 0 1 0 0 0 = opE p q r s t u v w k l m n := by
  have e1 : matE 1 0 0 0 1 0 0 0 1 = 0 := by decide
  have e2 : tbad 0 0 0 = false := by decide
  unfold mulE opE
  rw [e1, e2]
  rcases matE_cases p q r s t u v w k with ⟨h2, _⟩ | ⟨h2, _⟩ | ⟨h2, h3, _⟩
  · simp [h2]
  · simp [h2]
  · obtain ⟨hp, hq, hr, hs, ht, hu, hv, hw, hk⟩ := over9_false.1 h3
    have b1 : B1 1 := by unfold B1; omega
    have b0 : B1 0 := by unfold B1; omega
    have : mulO p q r s t u v w k l m n 1 0 0 0 1 0 0 0 1 0 0 0 = false := by
      unfold mulO
      rw [pr_id hp hq hr b1 b0 b0, pr_id hp hq hr b0 b1 b0, pr_id hp hq hr b0 b0 b1, pr_id hs ht hu b1 b0 b0, pr_id hs ht hu b0 b1 b0, pr_id hs ht hu b0 b0 b1, pr_id hv hw hk b1 b0 b0, pr_id hv hw hk b0 b1 b0, pr_id hv hw hk b0 b0 b1]
      refine over9_false.2 ?_
      simp only [Int.mul_one, Int.mul_zero, Int.add_zero, Int.zero_add]
      exact ⟨hp, hq, hr, hs, ht, hu, hv, hw, hk⟩
    simp [h2, this]
theorem flat0 : ∀ ws : List (List UInt8), flat 0 ws = ws.flatten
  | [] => rfl
  | w :: ws => by
    show bl 0 ++ (w ++ flat 0 ws) = _
    rw [flat0 ws]
    rfl
def txt (ts : List Trm) : List UInt8 := (wordsL ts).flatten
def frN (t : Int) : Int := t.tdiv ((Int.gcd t 24 : Nat) : Int)
def frD (t : Int) : Int := Int.tdiv 24 ((Int.gcd t 24 : Nat) : Int)
theorem fr_ok {t : Int} (h0 : 0 < t) (h1 : t < 24) : 0 ≤ frN t ∧ frN t ≤ 999 ∧ 1 ≤ frD t ∧ frD t ≤ 999 ∧ (24 * frN t).tmod (frD t) = 0 ∧ (24 * frN t).tdiv (frD t) = t := by
  rcases fr_cases (Int.le_of_lt h0) h1 with h | h | h | h | h | h | h | h | h | h | h | h | h | h | h | h | h | h | h | h | h | h | h | h <;> first
    | (exfalso; omega)
    | (rw [h]; decide)
def frTrm (s : Sg) (t : Int) : Trm := if t = 0 then .fr s 0 none else .fr s (frN t) (some (frD t))
theorem fr_txt (s : Sg) (t : Int) : (frTrm s t).w.flatten = s.w.flatten ++ frT t := by
  unfold frTrm frT
  by_cases h : t = 0
  · rw [if_pos h, if_pos h]
    have : Lib.itoa 0 = [48] := by unfold Lib.itoa; rw [if_neg (by decide)]; show Lib.decDigits 0 = _; rw [Lib.decDigits, dif_pos (by decide)]; rfl
    simp [Trm.w, denW, this]
  · rw [if_neg h, if_neg h]
    simp [Trm.w, denW, frN, frD]
theorem inv_frT {ts : List Trm} {a b c p t : Int} {s : Sg} (h : Inv ts a b c p false) (hs : ts = [] ∨ s ≠ .no) (h0 : 0 ≤ t) (h1 : t < 24) : Inv (ts ++ [frTrm s t]) a b c (s.v * t) true := by
  unfold frTrm
  by_cases h2 : t = 0
  · rw [if_pos h2, h2]
    have := inv_f (n := 0) (d := none) h hs (by decide) (by decide) (fun m h => by cases h)
    rwa [show s.v * (24 * 0 : Int).tdiv ((none : Option Int).getD 1) = s.v * 0 from rfl] at this
  · rw [if_neg h2]
    obtain ⟨f1, f2, f3, f4, f5, f6⟩ := fr_ok (by omega : 0 < t) h1
    have := inv_f (n := frN t) (d := some (frD t)) h hs f1 f2 (fun m h => by injection h with h; subst h; exact ⟨f3, f4, f5⟩)
    rwa [show s.v * (24 * frN t).tdiv ((some (frD t)).getD 1) = s.v * t by rw [Option.getD_some, f6]] at this
theorem itoa_len {n : Int} (h0 : 0 ≤ n) (h1 : n ≤ 1000) : (Lib.itoa n).length ≤ 21 := Lib.itoa_length_le n (by omega) (by omega)
theorem len_trm {t : Trm} {x : RS} (ok : t.ok x) : t.w.flatten.length ≤ 44 ∧ t.w.length ≤ 4 := by
  have hsg : ∀ s : Sg, s.w.flatten.length ≤ 1 ∧ s.w.length ≤ 1 := fun s => by cases s <;> simp [Sg.w]
  cases t with
  | lt s k l =>
    obtain ⟨o1, o2, o3⟩ := ok
    have := hsg s
    have hk : (numW k).flatten.length ≤ 21 ∧ (numW k).length ≤ 1 := by
      cases k with
      | none => simp [numW]
      | some n =>
        have := itoa_len (n := n) (by have := o2 n rfl; omega) (o2 n rfl).2
        simp [numW]
        omega
    simp only [Trm.w, List.flatten_append, List.length_append, List.flatten_cons, List.flatten_nil, List.length_cons, List.length_nil]
    omega
  | fr s n d =>
    obtain ⟨o1, o2, o3, o4, o5⟩ := ok
    have := hsg s
    have hn := itoa_len o2 (by omega : n ≤ 1000)
    have hd : (denW d).flatten.length ≤ 22 ∧ (denW d).length ≤ 2 := by
      cases d with
      | none => simp [denW]
      | some m =>
        have := itoa_len (n := m) (by have := o5 m rfl; omega) (by have := o5 m rfl; omega)
        simp [denW]
        omega
    simp only [Trm.w, List.flatten_append, List.length_append, List.flatten_cons, List.length_cons]
    omega
theorem len_words : ∀ {l : List Trm} {x : RS}, okM x l → (wordsL l).flatten.length ≤ 44 * l.length ∧ (wordsL l).length ≤ 4 * l.length
  | [], _, _ => by simp [wordsL]
  | t :: l, x, ok => by
    have h1 := len_trm ok.1
    have h2 := len_words ok.2
    simp only [wordsL, List.flatten_append, List.length_append, List.length_cons]
    omega
theorem len_flat (n : Nat) : ∀ ws : List (List UInt8), (flat n ws).length = (ws.length + 1) * n + ws.flatten.length
  | [] => by simp [flat, bl]
  | w :: ws => by
    simp only [flat, bl, List.length_append, List.length_replicate, len_flat n ws, List.flatten_cons, List.length_cons]
    rw [Nat.add_mul (ws.length + 1) 1 n, Nat.one_mul]
    omega
theorem read_rows4 {n : Nat} {l0 l1 l2 : List Trm} {a b c d e f g h i x y z : Int} {g0 g1 g2 : Bool} (i0 : Inv l0 a b c x g0) (i1 : Inv l1 d e f y g1) (i2 : Inv l2 g h i z g2) (n0 : l0 ≠ [] ∧ l0.length ≤ 4) (n1 : l1 ≠ [] ∧ l1.length ≤ 4) (n2 : l2 ≠ [] ∧ l2.length ≤ 4) (hn : n ≤ 1000) :
    readF (flat n (words3 l0 l1 l2)) = madeR a b c d e f g h i x y z := by
  refine read_rows i0 i1 i2 n0.1 n1.1 n2.1 ?_
  have m0 := len_words (i0 0).1
  have m1 := len_words (i1 0).1
  have m2 := len_words (i2 0).1
  rw [len_flat]
  have e1 : (words3 l0 l1 l2).length ≤ 50 := by
    simp only [words3, List.length_append, List.length_cons]
    omega
  have e2 : (words3 l0 l1 l2).flatten.length ≤ 530 := by
    simp only [words3, List.flatten_append, List.length_append, List.flatten_cons, List.length_cons, List.length_nil]
    omega
  have e3 : ((words3 l0 l1 l2).length + 1) * n ≤ 51 * 1000 := Nat.mul_le_mul (by omega) hn
  omega
def mapT (a b c d e f g h i x y z : Int) : List UInt8 := rowW a b c x ++ ([44] ++ (rowW d e f y ++ ([44] ++ rowW g h i z)))
end Go.AM

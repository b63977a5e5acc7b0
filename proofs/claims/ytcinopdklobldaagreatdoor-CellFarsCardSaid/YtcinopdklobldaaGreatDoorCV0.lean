import Derived.Test.YtcinopdklobldaaGreatDoorC0
import Derived.Test.YtcinopdklobldaaGreatDoorW2
/- Plain law of places' distances: neighbours found by going through all whole numbers. -/
namespace Go.Dist
open Go
/-- what of -m, 1 - m, .. (so many) is w modulo m -/
def cl (w m : Int) : Nat → List Int
  | 0 => []
  | k + 1 => cl w m k ++ (if modF ((k : Int) - m) m = w then [(k : Int) - m] else [])
def cf (w m : Int) (k : Nat) : List Int := (if w - m < (k : Int) - m then [w - m] else []) ++ ((if w < (k : Int) - m then [w] else []) ++ (if w = 0 ∧ m < (k : Int) - m then [m] else []))
theorem modF_at {w m n : Int} (hm : 24 ≤ m ∧ m ≤ 192) (hw : 0 ≤ w ∧ w < m) (hn : -m ≤ n ∧ n ≤ m) : modF n m = w ↔ n = w - m ∨ n = w ∨ (w = 0 ∧ n = m) := by
  by_cases h1 : n = m
  · subst h1
    have e : modF n n = 0 := by
      unfold modF
      rw [Int.tmod_self, wr_id (by omega) (by omega)]
      simp
    rw [e]; omega
  · by_cases h2 : n = -m
    · subst h2
      have e : modF (-m) m = 0 := by
        unfold modF
        rw [Int.neg_tmod, Int.tmod_self, wr_id (by omega) (by omega)]
        simp
      rw [e]; omega
    · rw [modF_low hm (by omega)]
      split <;> omega
theorem cl_eq {w m : Int} (hm : 24 ≤ m ∧ m ≤ 192) (hw : 0 ≤ w ∧ w < m) : ∀ k : Nat, (k : Int) ≤ 2 * m + 1 → cl w m k = cf w m k
  | 0, _ => by
    unfold cl cf
    rw [if_neg (by omega), if_neg (by omega), if_neg (by omega)]
    rfl
  | k + 1, hk => by
    have ih := cl_eq hm hw k (by omega)
    have hn := modF_at (n := (k : Int) - m) hm hw (by omega)
    unfold cl
    rw [ih]
    unfold cf
    by_cases h : modF ((k : Int) - m) m = w
    · rw [if_pos h]
      rcases hn.1 h with h1 | h1 | ⟨h0, h1⟩
      · rw [if_neg (by omega), if_neg (by omega), if_neg (by omega), if_pos (by omega), if_neg (by omega), if_neg (by omega)]
        simp; omega
      · rw [if_pos (by omega), if_neg (by omega), if_neg (by omega), if_pos (by omega), if_pos (by omega), if_neg (by omega)]
        simp; omega
      · rw [if_pos (by omega), if_pos (by omega), if_neg (by omega), if_pos (by omega), if_pos (by omega), if_pos (by omega)]
        simp; omega
    · rw [if_neg h]
      have h' := fun k => h (hn.2 k)
      have e1 : (w - m < (k : Int) - m) ↔ (w - m < ((k + 1 : Nat) : Int) - m) := by
        constructor
        · intro h; omega
        · intro h; have : (k : Int) - m ≠ w - m := fun e => h' (.inl e); omega
      have e2 : (w < (k : Int) - m) ↔ (w < ((k + 1 : Nat) : Int) - m) := by
        constructor
        · intro h; omega
        · intro h; have : (k : Int) - m ≠ w := fun e => h' (.inr (.inl e)); omega
      have e3 : (w = 0 ∧ m < (k : Int) - m) ↔ (w = 0 ∧ m < ((k + 1 : Nat) : Int) - m) := by
        constructor
        · intro h; omega
        · intro h; have : (k : Int) - m ≠ m := fun e => h' (.inr (.inr ⟨h.1, e⟩)); omega
      simp only [e1, e2, e3]
      simp
theorem cl_full {w m : Int} (hm : 24 ≤ m ∧ m ≤ 192) (hw : 0 ≤ w ∧ w < m) {k : Nat} (hk : (k : Int) = 2 * m + 1) : cl w m k = nb w m := by
  rw [cl_eq hm hw k (by omega)]
  unfold cf nb ents
  rw [if_pos (by omega), if_pos (by omega)]
  by_cases h : w = 0
  · rw [if_pos ⟨h, by omega⟩, if_pos h]
    simp [List.range_succ]
    omega
  · rw [if_neg (by omega), if_neg h]
    simp [List.range_succ]
/-- the remainder as the document takes it -/
def modD (n m : Int) : Int := if n.tmod m < 0 then IntKind.i64.wrap (n.tmod m + m) else n.tmod m
theorem modD_eq {n m : Int} (hm : 24 ≤ m ∧ m ≤ 192) : modD n m = modF n m := by
  have h1 := Int.tmod_lt_of_pos n (b := m) (by omega)
  have h2 : -m < n.tmod m := by
    have := Int.neg_tmod n m
    have := Int.tmod_lt_of_pos (-n) (b := m) (by omega)
    omega
  unfold modD modF
  split
  · rw [wr_id (n := n.tmod m + m) (by omega) (by omega), Int.tmod_eq_emod_of_nonneg (a := n.tmod m + m) (by omega), Int.emod_eq_of_lt (by omega) (by omega)]
  · rw [wr_id (n := n.tmod m + m) (by omega) (by omega), Int.tmod_eq_emod_of_nonneg (a := n.tmod m + m) (by omega), Int.add_emod_right, Int.emod_eq_of_lt (by omega) (by omega)]
theorem modF_id {n m : Int} (hm : 24 ≤ m ∧ m ≤ 192) (hn : 0 ≤ n ∧ n < m) : modF n m = n := by
  rw [modF_low hm (by omega), if_neg (by omega)]
theorem modF_form {n m : Int} (hm : 24 ≤ m ∧ m ≤ 192) : n = modF n m ↔ 0 ≤ n ∧ n < m := by
  constructor
  · intro h; have := modF_in (n := n) hm; omega
  · intro h; exact (modF_id hm h).symm
/-- a difference by way of the opposite -/
theorem sub_eq {a d m : Int} (hm : 24 ≤ m ∧ m ≤ 192) (ha : 0 ≤ a ∧ a < m) (hd : 0 ≤ d ∧ d < m) :
    modF (IntKind.i64.wrap (modF a m + modF (modF (IntKind.i64.wrap (0 - modF d m)) m) m)) m = modF (IntKind.i64.wrap (a - d)) m := by
  rw [modF_id hm ha, modF_id hm hd, wr_id (n := 0 - d) (by omega) (by omega), modF_id (n := modF (0 - d) m) hm (modF_in hm), modF_low (n := 0 - d) hm (by omega), wr_id (n := a - d) (by omega) (by omega), modF_low (n := a - d) hm (by omega)]
  by_cases h0 : 0 - d < 0
  · rw [if_pos h0, wr_id (by omega) (by omega)]
    by_cases h1 : a - d < 0
    · rw [if_pos h1, modF_low hm (by omega), if_neg (by omega)]; omega
    · rw [if_neg h1]
      have e : a + (0 - d + m) = (a - d) + m := by omega
      rw [e]
      by_cases h2 : a - d = 0
      · rw [h2, Int.zero_add]
        have := (modF_at (n := m) (w := 0) hm (by omega) (by omega)).2 (.inr (.inr ⟨rfl, rfl⟩))
        rw [this]
      · have e2 : (a - d + m).tmod m = a - d := by rw [Int.tmod_eq_emod_of_nonneg (by omega), Int.add_emod_right, Int.emod_eq_of_lt (by omega) (by omega)]
        unfold modF
        rw [e2, wr_id (by omega) (by omega), e2]
  · rw [if_neg h0, wr_id (by omega) (by omega)]
    have : d = 0 := by omega
    subst this
    rw [if_neg (by omega), modF_low hm (by omega), if_neg (by omega)]; omega
/-- of two errors the least that is one -/
def leastI (a b : Int) : Int := if a = 0 ∨ b ≠ 0 ∧ b < a then b else a
theorem leastI_zero {a b : Int} : leastI a b = 0 ↔ a = 0 ∧ b = 0 := by unfold leastI; split <;> omega
theorem best5_app (len : Int → Int → Int → Int) (x y : Int) (l l' : List Int) (a : Int) : best5 len x y (l ++ l') a = best5 len x y l' (best5 len x y l a) := by unfold best5; rw [List.foldl_append]
theorem best4_app (len : Int → Int → Int → Int) (x : Int) (l l' l2 : List Int) (a : Int) : best4 len x (l ++ l') l2 a = best4 len x l' l2 (best4 len x l l2 a) := by unfold best4; rw [List.foldl_append]
theorem best3_app (len : Int → Int → Int → Int) (l l' l1 l2 : List Int) (a : Int) : best3 len (l ++ l') l1 l2 a = best3 len l' l1 l2 (best3 len l l1 l2 a) := by unfold best3; rw [List.foldl_append]
end Go.Dist

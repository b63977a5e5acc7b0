import Derived.Test.YtppbbabmlammpaaDoorTC3
import Derived.Test.YtppbbabmlammpaaDoorOH
set_option linter.unusedVariables false
set_option linter.unusedSimpArgs false
open Go Go.AM Go.Proofs
namespace Go.AM
open Dist
set_option maxRecDepth 100000
theorem wneg {v : Int} (r : -1000 ≤ v ∧ v ≤ 1000) : IntKind.i64.wrap (0 - v) = -v := by rw [wr_id (by omega) (by omega)]; omega
theorem cP0 {s : List UInt8} {v : Int} {l : UInt8} (hs : s = []) (hz : decide (v = 0) = true) : ent s v l = [] := by rw [ent, if_pos (of_decide_eq_true hz)]; exact hs
theorem cU0 {s t : List UInt8} {v : Int} {l : UInt8} (hs : t = s ∧ t ≠ []) (hz : decide (v = 0) = true) : t = ent s v l ∧ t ≠ [] := by rw [ent, if_pos (of_decide_eq_true hz)]; exact hs
theorem cNeg {s t : List UInt8} {v : Int} {l : UInt8} (r : -1000 ≤ v ∧ v ≤ 1000) (hs : t = s) (hn : decide (v < 0) = true) (hm : (!decide (IntKind.i64.wrap (0 - v) = 1)) = true) :
    t ++ [45] ++ Lib.itoa (IntKind.i64.wrap (0 - v)) ++ [l] = ent s v l ∧ t ++ [45] ++ Lib.itoa (IntKind.i64.wrap (0 - v)) ++ [l] ≠ [] := by
  rw [wneg r] at hm ⊢
  have hn := of_decide_eq_true hn
  have hm : ¬ -v = 1 := by simpa using hm
  refine ⟨?_, by simp⟩
  rw [ent, if_neg (by omega), if_pos hn, if_neg (by omega), hs]
theorem cNeg1 {s t : List UInt8} {v : Int} {l : UInt8} (r : -1000 ≤ v ∧ v ≤ 1000) (hs : t = s) (hn : decide (v < 0) = true) (hm : (!decide (IntKind.i64.wrap (0 - v) = 1)) = false) :
    t ++ [45] ++ [l] = ent s v l ∧ t ++ [45] ++ [l] ≠ [] := by
  rw [wneg r] at hm
  have hn := of_decide_eq_true hn
  have hm : -v = 1 := by simpa using hm
  refine ⟨?_, by simp⟩
  rw [ent, if_neg (by omega), if_pos hn, if_pos (by omega), hs]
  simp
theorem cPosF {s : List UInt8} {v : Int} {l : UInt8} (hs : s = []) (hz : decide (v = 0) = false) (hn : decide (v < 0) = false) (ho : (!decide (v = 1)) = true) :
    Lib.itoa v ++ [l] = ent s v l ∧ Lib.itoa v ++ [l] ≠ [] := by
  have ho : ¬ v = 1 := by simpa using ho
  refine ⟨?_, by simp⟩
  rw [ent, if_neg (of_decide_eq_false hz), if_neg (of_decide_eq_false hn), if_pos hs, if_neg ho]
theorem cPosF1 {s : List UInt8} {v : Int} {l : UInt8} (hs : s = []) (hz : decide (v = 0) = false) (hn : decide (v < 0) = false) (ho : (!decide (v = 1)) = false) :
    [l] = ent s v l ∧ [l] ≠ [] := by
  have ho : v = 1 := by simpa using ho
  refine ⟨?_, by simp⟩
  rw [ent, if_neg (of_decide_eq_false hz), if_neg (of_decide_eq_false hn), if_pos hs, if_pos ho]
theorem cPosU {s t : List UInt8} {v : Int} {l : UInt8} (hs : t = s ∧ t ≠ []) (hz : decide (v = 0) = false) (hn : decide (v < 0) = false) (ho : (!decide (v = 1)) = true) :
    t ++ [43] ++ Lib.itoa v ++ [l] = ent s v l ∧ t ++ [43] ++ Lib.itoa v ++ [l] ≠ [] := by
  have ho : ¬ v = 1 := by simpa using ho
  refine ⟨?_, by simp⟩
  rw [ent, if_neg (of_decide_eq_false hz), if_neg (of_decide_eq_false hn), ← hs.1, if_neg hs.2, if_neg ho]
theorem cPosU1 {s t : List UInt8} {v : Int} {l : UInt8} (hs : t = s ∧ t ≠ []) (hz : decide (v = 0) = false) (hn : decide (v < 0) = false) (ho : (!decide (v = 1)) = false) :
    t ++ [43] ++ [l] = ent s v l ∧ t ++ [43] ++ [l] ≠ [] := by
  have ho : v = 1 := by simpa using ho
  refine ⟨?_, by simp⟩
  rw [ent, if_neg (of_decide_eq_false hz), if_neg (of_decide_eq_false hn), ← hs.1, if_neg hs.2, if_pos ho]
  simp
theorem usedL {t : List UInt8} (hs : t ≠ []) (h : decide ((0 : Int) < (t.length : Int)) = false) : False := by
  have h := of_decide_eq_false h
  exact hs (List.length_eq_zero_iff.1 (by omega))
theorem rowT0 {a b c t : Int} {s : List UInt8} (hs : s = rowP a b c 3) (ht : (!decide (t = 0)) = false) : s = rowW a b c t := by
  have ht : t = 0 := by simpa using ht
  rw [rowW, if_pos ht, hs]
theorem rowTT {a b c t : Int} {s : List UInt8} (hs : s = rowP a b c 3) (ht : (!decide (t = 0)) = true) : s ++ ([43] ++ frT (mdR t)) = rowW a b c t := by
  have ht : ¬ t = 0 := by simpa using ht
  rw [rowW, if_neg ht, hs]
theorem sameE {xs ys : List UInt8} (h : xs = ys) : SameRows byC xs byC ys := by subst h; exact ⟨rfl, rfl⟩
theorem lenA (xs : List UInt8) (b : UInt8) : (xs ++ [b]).length = xs.length + 1 := by simp
theorem maxI {n : Nat} (h : n ≤ 1000000) : (n : Int) ≤ IntKind.i64.max := by show (n : Int) ≤ 9223372036854775807; omega
theorem itoaL {v : Int} (r : -1000 ≤ v ∧ v ≤ 1000) : (Lib.itoa v).length ≤ 21 := Lib.itoa_length_le v (by omega) (by omega)
theorem itoaN {v : Int} (r : -1000 ≤ v ∧ v ≤ 1000) : (Lib.itoa (IntKind.i64.wrap (0 - v))).length ≤ 21 := by rw [wneg r]; exact Lib.itoa_length_le _ (by omega) (by omega)
theorem itoaM {v : Int} (r : -1000 ≤ v ∧ v ≤ 1000) : (Lib.itoa (IntKind.i64.wrap (-v))).length ≤ 21 := by have := itoaN r; rwa [Int.zero_sub] at this
theorem entL {s : List UInt8} {v : Int} {l : UInt8} (r : -1000 ≤ v ∧ v ≤ 1000) : (ent s v l).length ≤ s.length + 23 := by
  have h1 := itoaL r
  have h2 : (Lib.itoa (-v)).length ≤ 21 := Lib.itoa_length_le _ (by omega) (by omega)
  unfold ent
  split
  · omega
  · split
    · split <;> simp <;> omega
    · split
      · split <;> simp <;> omega
      · split <;> simp <;> omega
theorem rowL {a b c : Int} (ra : -1000 ≤ a ∧ a ≤ 1000) (rb : -1000 ≤ b ∧ b ≤ 1000) (rc : -1000 ≤ c ∧ c ≤ 1000) : ∀ n, (rowP a b c n).length ≤ 69
  | 0 => by simp [rowP]
  | 1 => by
    have h1 := entL (s := []) (l := 120) ra
    simp only [List.length_nil] at h1
    simp only [rowP]
    omega
  | 2 => by
    have h1 := entL (s := []) (l := 120) ra
    have h2 := entL (s := ent [] a 120) (l := 121) rb
    simp only [List.length_nil] at h1
    simp only [rowP]
    omega
  | n + 3 => by
    have h1 := entL (s := []) (l := 120) ra
    have h2 := entL (s := ent [] a 120) (l := 121) rb
    have h3 := entL (s := ent (ent [] a 120) b 121) (l := 122) rc
    simp only [List.length_nil] at h1
    simp only [rowP]
    omega
theorem frTL (t : Int) : (frT (mdR t)).length ≤ 43 := by
  obtain ⟨b0, b1, _⟩ := mdR_bd t
  generalize mdR t = r at *
  unfold frT
  split
  · simp
  · have hg1 : 1 ≤ Int.gcd r 24 := Nat.pos_of_ne_zero (fun h => by
      have := (Int.gcd_eq_zero_iff.1 h).2
      cases this)
    have q1 : 0 ≤ r.tdiv ((Int.gcd r 24 : Nat) : Int) ∧ r.tdiv ((Int.gcd r 24 : Nat) : Int) ≤ 24 := by
      rw [Int.tdiv_eq_ediv_of_nonneg b0]
      have := Int.ediv_le_self (a := r) ((Int.gcd r 24 : Nat) : Int) b0
      exact ⟨Int.ediv_nonneg b0 (by omega), by omega⟩
    have q2 : 0 ≤ Int.tdiv 24 ((Int.gcd r 24 : Nat) : Int) ∧ Int.tdiv 24 ((Int.gcd r 24 : Nat) : Int) ≤ 24 := by
      rw [Int.tdiv_eq_ediv_of_nonneg (by omega)]
      have := Int.ediv_le_self (a := 24) ((Int.gcd r 24 : Nat) : Int) (by omega)
      exact ⟨Int.ediv_nonneg (by omega) (by omega), by omega⟩
    have l1 := Lib.itoa_length_le (r.tdiv ((Int.gcd r 24 : Nat) : Int)) (by omega) (by omega)
    have l2 := Lib.itoa_length_le (Int.tdiv 24 ((Int.gcd r 24 : Nat) : Int)) (by omega) (by omega)
    simp only [List.length_append, List.length_cons, List.length_nil]
    omega
theorem rowWL {a b c t : Int} (ra : -1000 ≤ a ∧ a ≤ 1000) (rb : -1000 ≤ b ∧ b ≤ 1000) (rc : -1000 ≤ c ∧ c ≤ 1000) : (rowW a b c t).length ≤ 113 := by
  have h1 := rowL ra rb rc 3
  have h2 := frTL t
  unfold rowW
  split
  · omega
  · simp only [List.length_append, List.length_cons, List.length_nil]
    omega
end Go.AM

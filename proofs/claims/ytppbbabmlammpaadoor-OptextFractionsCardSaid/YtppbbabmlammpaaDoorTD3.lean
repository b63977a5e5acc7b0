import Derived.Test.YtppbbabmlammpaaDoorTD2
set_option linter.unusedVariables false
set_option linter.unusedSimpArgs false
open Go Go.AM Go.Proofs
namespace Go.AM
open Dist
set_option maxRecDepth 100000
theorem flat0 : ∀ ws : List (List UInt8), flat 0 ws = ws.flatten
  | [] => rfl
  | w :: ws => by
    show bl 0 ++ (w ++ flat 0 ws) = _
    rw [flat0 ws]
    rfl
def frN (t : Int) : Int := t.tdiv ((Int.gcd t 24 : Nat) : Int)
def frD (t : Int) : Int := Int.tdiv 24 ((Int.gcd t 24 : Nat) : Int)
theorem fr_ok {t : Int} (h0 : 0 < t) (h1 : t < 24) : 0 ≤ frN t ∧ frN t ≤ 999 ∧ 1 ≤ frD t ∧ frD t ≤ 999 ∧ (24 * frN t).tmod (frD t) = 0 ∧ (24 * frN t).tdiv (frD t) = t := by
  rcases fr_cases (Int.le_of_lt h0) h1 with h | h | h | h | h | h | h | h | h | h | h | h | h | h | h | h | h | h | h | h | h | h | h | h <;> first
    | (exfalso; omega)
    | (rw [h]; decide)
def frTrm (s : Sg) (t : Int) : Trm := if t = 0 then .fr s 0 none else .fr s (frN t) (some (frD t))
theorem fr_txt (s : Sg) (t : Int) : (frTrm s t).w.flatten = s.w.flatten ++ frT t := by
  unfold frTrm frT
  by_cases h : t = 0
  · rw [if_pos h, if_pos h]
    have : Lib.itoa 0 = [48] := by unfold Lib.itoa; rw [if_neg (by decide)]; show Lib.decDigits 0 = _; rw [Lib.decDigits, dif_pos (by decide)]; rfl
    simp [Trm.w, denW, this]
  · rw [if_neg h, if_neg h]
    simp [Trm.w, denW, frN, frD]
theorem itoa_len {n : Int} (h0 : 0 ≤ n) (h1 : n ≤ 1000) : (Lib.itoa n).length ≤ 21 := Lib.itoa_length_le n (by omega) (by omega)
theorem len_trm {t : Trm} {x : RS} (ok : t.ok x) : t.w.flatten.length ≤ 44 ∧ t.w.length ≤ 4 := by
  have hsg : ∀ s : Sg, s.w.flatten.length ≤ 1 ∧ s.w.length ≤ 1 := fun s => by cases s <;> simp [Sg.w]
  cases t with
  | lt s k l =>
    obtain ⟨o1, o2, o3⟩ := ok
    have := hsg s
    have hk : (numW k).flatten.length ≤ 21 ∧ (numW k).length ≤ 1 := by
      cases k with
      | none => simp [numW]
      | some n =>
        have := itoa_len (n := n) (by have := o2 n rfl; omega) (o2 n rfl).2
        simp [numW]
        omega
    simp only [Trm.w, List.flatten_append, List.length_append, List.flatten_cons, List.flatten_nil, List.length_cons, List.length_nil]
    omega
  | fr s n d =>
    obtain ⟨o1, o2, o3, o4, o5⟩ := ok
    have := hsg s
    have hn := itoa_len o2 (by omega : n ≤ 1000)
    have hd : (denW d).flatten.length ≤ 22 ∧ (denW d).length ≤ 2 := by
      cases d with
      | none => simp [denW]
      | some m =>
        have := itoa_len (n := m) (by have := o5 m rfl; omega) (by have := o5 m rfl; omega)
        simp [denW]
        omega
    simp only [Trm.w, List.flatten_append, List.length_append, List.flatten_cons, List.length_cons]
    omega
end Go.AM

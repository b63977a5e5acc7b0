import Derived.Test.YtagcmdpmmmbedaaGreatDoorW0
/- The least of a list, the neighbours of a part, remainders. -/
namespace Go.Dist
open Go
def stepv (a n : Int) : Int := if decide (a < 0) || decide (n < a) then n else a
theorem fold_nn : ∀ (l : List Int) (a : Int), 0 ≤ a → (∀ n ∈ l, 0 ≤ n) → (l.foldl stepv a = a ∨ l.foldl stepv a ∈ l) ∧ l.foldl stepv a ≤ a ∧ ∀ n ∈ l, l.foldl stepv a ≤ n
  | [], a, _, _ => ⟨.inl rfl, Int.le_refl _, fun n h => by cases h⟩
  | n :: l, a, ha, hl => by
    have hn : 0 ≤ n := hl n (by simp)
    have hl' : ∀ k ∈ l, 0 ≤ k := fun k hk => hl k (by simp [hk])
    simp only [List.foldl_cons]
    by_cases h : n < a
    · rw [show stepv a n = n by simp [stepv, h]]
      obtain ⟨h1, h2, h3⟩ := fold_nn l n hn hl'
      refine ⟨.inr ?_, by omega, ?_⟩
      · rcases h1 with h1 | h1
        · simp [h1]
        · simp [h1]
      · intro k hk
        rcases List.mem_cons.1 hk with rfl | hk
        · exact h2
        · exact h3 k hk
    · rw [show stepv a n = a by simp [stepv, h]; omega]
      obtain ⟨h1, h2, h3⟩ := fold_nn l a ha hl'
      refine ⟨?_, h2, ?_⟩
      · rcases h1 with h1 | h1
        · exact .inl h1
        · exact .inr (by simp [h1])
      · intro k hk
        rcases List.mem_cons.1 hk with rfl | hk
        · omega
        · exact h3 k hk
/-- r is the least number of S -/
def Least (S : Int → Prop) (r : Int) : Prop := S r ∧ ∀ n, S n → r ≤ n
theorem Least.eq {S T : Int → Prop} {r s : Int} (h : Least S r) (k : Least T s) (e : ∀ n, S n ↔ T n) : r = s := by
  have h1 := h.2 s ((e s).2 k.1)
  have h2 := k.2 r ((e r).1 h.1)
  omega
theorem fold_neg {l : List Int} {a : Int} (ha : a < 0) (hl : ∀ n ∈ l, 0 ≤ n) (hne : l ≠ []) : Least (· ∈ l) (l.foldl stepv a) := by
  match l, hne with
  | n :: l, _ =>
    simp only [List.foldl_cons]
    rw [show stepv a n = n by simp [stepv, ha]]
    obtain ⟨h1, h2, h3⟩ := fold_nn l n (hl n (by simp)) (fun k hk => hl k (by simp [hk]))
    refine ⟨?_, fun k hk => ?_⟩
    · rcases h1 with h1 | h1
      · simp [h1]
      · simp [h1]
    · rcases List.mem_cons.1 hk with rfl | hk
      · exact h2
      · exact h3 k hk
section
variable (len : Int → Int → Int → Int)
def step5 (x y : Int) (least z : Int) : Int := if decide (least < 0) || decide (len x y z < least) then len x y z else least
def best5 (x y : Int) (l2 : List Int) (least : Int) : Int := l2.foldl (step5 len x y) least
def best4 (x : Int) (l1 l2 : List Int) (least : Int) : Int := l1.foldl (fun a y => best5 len x y l2 a) least
def best3 (l0 l1 l2 : List Int) (least : Int) : Int := l0.foldl (fun a x => best4 len x l1 l2 a) least
def all3 (l0 l1 l2 : List Int) : List Int := l0.flatMap fun x => l1.flatMap fun y => l2.map fun z => len x y z
theorem best3_eq (l0 l1 l2 : List Int) (a : Int) : best3 len l0 l1 l2 a = (all3 len l0 l1 l2).foldl stepv a := by
  unfold best3 all3 best4 best5
  rw [List.foldl_flatMap]
  congr 1
  funext a x
  rw [List.foldl_flatMap]
  congr 1
  funext a y
  rw [List.foldl_map]
  rfl
theorem mem_all3 {l0 l1 l2 : List Int} {n : Int} : n ∈ all3 len l0 l1 l2 ↔ ∃ x, x ∈ l0 ∧ ∃ y, y ∈ l1 ∧ ∃ z, z ∈ l2 ∧ len x y z = n := by
  simp only [all3, List.mem_flatMap, List.mem_map]
end
def ents (x M : Int) (k : Nat) : List Int := (List.range k).map fun (j : Nat) => x - M + (j : Int) * M
def nb (w m : Int) : List Int := ents w m (if w = 0 then 3 else 2)
theorem mem_nb {w m z : Int} : z ∈ nb w m ↔ z = w - m ∨ z = w ∨ (w = 0 ∧ z = m) := by
  unfold nb ents
  by_cases h : w = 0
  · subst h
    simp [List.range, List.range.loop]
    constructor
    · rintro (h | h | h) <;> omega
    · rintro (h | h | h) <;> omega
  · simp [h, List.range, List.range.loop]
def right (m : Int) : Bool := decide (m = 24) || (decide (m = 48) || (decide (m = 96) || decide (m = 192)))
theorem right_bd {m : Int} (h : right m = true) : 24 ≤ m ∧ m ≤ 192 := by
  simp [right] at h
  omega
def modF (n m : Int) : Int := (IntKind.i64.wrap (n.tmod m + m)).tmod m
theorem modF_in {n m : Int} (hm : 24 ≤ m ∧ m ≤ 192) : 0 ≤ modF n m ∧ modF n m < m := by
  have h1 : n.tmod m < m := Int.tmod_lt_of_pos n (by omega)
  have h2 : -m < n.tmod m := Int.lt_tmod_of_pos n (by omega)
  unfold modF
  rw [wr_id (by omega) (by omega), Int.tmod_eq_emod_of_nonneg (by omega)]
  exact ⟨Int.emod_nonneg _ (by omega), Int.emod_lt_of_pos _ (by omega)⟩
theorem modF_low {n m : Int} (hm : 24 ≤ m ∧ m ≤ 192) (hn : -m < n ∧ n < m) : modF n m = if n < 0 then n + m else n := by
  unfold modF
  have h1 : n.tmod m = n := by
    rcases Int.le_total 0 n with h | h
    · exact Int.tmod_eq_of_lt h hn.2
    · have h3 := Int.tmod_eq_of_lt (a := -n) (b := m) (by omega) (by omega)
      rw [Int.neg_tmod] at h3
      omega
  rw [h1, wr_id (by omega) (by omega), Int.tmod_eq_emod_of_nonneg (by omega)]
  split
  · rw [Int.emod_eq_of_lt (by omega) (by omega)]
  · have : (n + m) % m = n % m := by simp
    rw [this, Int.emod_eq_of_lt (by omega) (by omega)]
end Go.Dist

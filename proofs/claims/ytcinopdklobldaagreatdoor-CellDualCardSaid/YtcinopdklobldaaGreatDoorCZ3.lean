import Derived.Test.YtcinopdklobldaaGreatDoorCZ1
import Derived.Test.YtcinopdklobldaaGreatDoorCP0
import Derived.Test.YtcinopdklobldaaGreatDoorCW8
open Go Go.AM Go.Proofs
namespace Go.AM
open Dist
set_option maxRecDepth 100000
theorem gcd_pos {A D : Int} (hD : 0 < D) : 0 < (Int.gcd A D : Int) := by
  have : Int.gcd A D ≠ 0 := fun h => by have := (Int.gcd_eq_zero_iff.1 h).2; omega
  omega
theorem div_g (A D : Int) : A = (Int.gcd A D : Int) * (A / (Int.gcd A D : Int)) ∧ D = (Int.gcd A D : Int) * (D / (Int.gcd A D : Int)) :=
  ⟨(Int.mul_ediv_cancel' (Int.gcd_dvd_left A D)).symm, (Int.mul_ediv_cancel' (Int.gcd_dvd_right A D)).symm⟩
theorem co_g {A D : Int} (hD : 0 < D) : Int.gcd (A / (Int.gcd A D : Int)) (D / (Int.gcd A D : Int)) = 1 := Int.gcd_ediv_gcd_ediv_gcd_of_ne_zero_right (by omega)
theorem quo_bd {A g B : Int} (hA : 0 ≤ A ∧ A ≤ B) (hg : 0 < g) : 0 ≤ A / g ∧ A / g ≤ B := by
  refine ⟨Int.ediv_nonneg hA.1 (by omega), ?_⟩
  have := Int.ediv_le_self (b := g) hA.1
  · omega
theorem low_wrap {A D : Int} (hA : 0 ≤ A ∧ A ≤ 100000000000000000) (hD : 0 < D ∧ D ≤ 100000000000000000) :
    IntKind.i64.wrap (A.tdiv (euc A D)) = A / (Int.gcd A D : Int) ∧ IntKind.i64.wrap (D.tdiv (euc A D)) = D / (Int.gcd A D : Int) ∧ (0 ≤ A / (Int.gcd A D : Int) ∧ A / (Int.gcd A D : Int) ≤ 100000000000000000) ∧ (1 ≤ D / (Int.gcd A D : Int) ∧ D / (Int.gcd A D : Int) ≤ 100000000000000000) := by
  rw [euc_gcd hA.1 (by omega)]
  have hg := gcd_pos (A := A) hD.1
  have b1 := quo_bd hA hg
  have b2 := quo_bd (A := D) (B := 100000000000000000) ⟨by omega, hD.2⟩ hg
  have b3 : D / (Int.gcd A D : Int) ≠ 0 := fun h => by
    have := (div_g A D).2
    rw [h, Int.mul_zero] at this
    omega
  rw [Int.tdiv_eq_ediv_of_nonneg hA.1, Int.tdiv_eq_ediv_of_nonneg (by omega), wr_id (by omega) (by omega), wr_id (by omega) (by omega)]
  exact ⟨rfl, rfl, b1, by omega, b2.2⟩
/-- a column's parts within 40 -/
theorem within40 {x y z : Int} (h : within 40 x y z = true) : (-40 ≤ x ∧ x ≤ 40) ∧ (-40 ≤ y ∧ y ≤ 40) ∧ (-40 ≤ z ∧ z ≤ 40) := by
  unfold within at h
  simp only [Bool.not_eq_true', Bool.or_eq_false_iff, decide_eq_false_iff_not] at h
  omega
theorem over512_no {x y z : Int} (hx : P5 x) (hy : P5 y) (hz : P5 z) : over512 x y z = false := by
  have hw : IntKind.i64.wrap (0 - 512) = -512 := by decide
  unfold P5 at *
  unfold over512 beyond
  simp only [hw, Bool.or_eq_false_iff, decide_eq_false_iff_not]
  omega
theorem over3_no {x y z : Int} (hx : P3 x) (hy : P3 y) (hz : P3 z) : over3 x y z = false := by
  have hw : IntKind.i64.wrap (0 - 1000) = -1000 := by decide
  unfold P3 at *
  unfold over3 beyond
  simp only [hw, Bool.or_eq_false_iff, decide_eq_false_iff_not]
  omega
/-- a spacing's parts, of an index within the bound -/
theorem sp_low {a b c d e f x y z : Int} (h : checkC a b c d e f = 0) (hx : P5 x) (hy : P5 y) (hz : P5 z) :
    spE a b c d e f x y z = 0 ∧ spN a b c d e f x y z = adjF a b c d e f x y z / (Int.gcd (adjF a b c d e f x y z) (detM a b c d e f) : Int) ∧ spD a b c d e f x y z = detM a b c d e f / (Int.gcd (adjF a b c d e f x y z) (detM a b c d e f) : Int) ∧
      (0 ≤ spN a b c d e f x y z ∧ spN a b c d e f x y z ≤ 100000000000000000) ∧ (1 ≤ spD a b c d e f x y z ∧ spD a b c d e f x y z ≤ 100000000000000000) := by
  have e0 : spE a b c d e f x y z = 0 := by unfold spE; rw [over512_no hx hy hz]; exact h
  obtain ⟨ha, hb, hc, hd, he, hf, h2, h3⟩ := check_spec h
  obtain ⟨k1, k2⟩ := detG_big ha.2 hb.2 hc.2 hd he hf
  obtain ⟨j1, j2, j3⟩ := spA_big h hx hy hz
  have hw := low_wrap (A := adjF a b c d e f x y z) (D := detM a b c d e f) ⟨j2, by omega⟩ ⟨h3, by omega⟩
  unfold spN spD
  rw [e0, if_pos rfl, if_pos rfl, j1, k1, hw.1, hw.2.1]
  exact ⟨rfl, rfl, rfl, hw.2.2.1, hw.2.2.2⟩
theorem adjF_neg (a b c d e f x y z : Int) : adjF a b c d e f (-x) (-y) (-z) = adjF a b c d e f x y z := by unfold adjF bil; grind
theorem adjF_two (a b c d e f x y z : Int) : adjF a b c d e f (2 * x) (2 * y) (2 * z) = 4 * adjF a b c d e f x y z := by unfold adjF bil; grind
/-- four times a ratio in lowest terms -/
theorem four_low {A D N M : Int} (hD : 0 < D) (hA : 0 ≤ A) (hN : N = A / (Int.gcd A D : Int)) (hM : M = D / (Int.gcd A D : Int)) :
    ∃ k : Int, (k = 1 ∨ k = 2 ∨ k = 4) ∧ 4 * N = k * (4 * A / (Int.gcd (4 * A) D : Int)) ∧ M = k * (D / (Int.gcd (4 * A) D : Int)) ∧ (M % 4 = 0 ∧ k = 4 ∨ M % 4 = 2 ∧ k = 2 ∨ M % 2 = 1 ∧ k = 1) := by
  have hg := gcd_pos (A := A) hD
  obtain ⟨dA, dD⟩ := div_g A D
  have co := co_g (A := A) hD
  rw [← hN, ← hM] at co
  rw [← hN] at dA
  rw [← hM] at dD
  generalize (Int.gcd A D : Int) = g at *
  have hM0 : 0 < M := by
    rcases Int.lt_trichotomy M 0 with h | h | h
    · have := Int.mul_neg_of_pos_of_neg hg h; omega
    · rw [h, Int.mul_zero] at dD; omega
    · exact h
  have hN0 : 0 ≤ N := by
    rcases Int.lt_trichotomy N 0 with h | h | h
    · have := Int.mul_neg_of_pos_of_neg hg h; omega
    · omega
    · omega
  -- the greatest divisor of 4 A and D
  have e1 : (Int.gcd (4 * A) D : Int) = g * (Int.gcd 4 M : Int) := by
    have e2 : 4 * A = g * (4 * N) := by rw [dA]; grind
    rw [e2, dD]
    have e3 : Int.gcd (g * (4 * N)) (g * M) = g.natAbs * Int.gcd (4 * N) M := Int.gcd_mul_left g (4 * N) M
    have e4 : Int.gcd (4 * N) M = Int.gcd 4 M := by
      show Nat.gcd (4 * N).natAbs M.natAbs = Nat.gcd (4 : Int).natAbs M.natAbs
      rw [Int.natAbs_mul]
      exact Nat.Coprime.gcd_mul_right_cancel _ co
    rw [e3, e4, Int.natCast_mul, Int.natAbs_of_nonneg (by omega)]
  have key : ∀ k : Int, 0 < k → (Int.gcd 4 M : Int) = k → k ∣ 4 → k ∣ M → 4 * N = k * (4 * A / (Int.gcd (4 * A) D : Int)) ∧ M = k * (D / (Int.gcd (4 * A) D : Int)) := by
    intro k hk hkg ⟨p, hp⟩ ⟨q, hq⟩
    rw [e1, hkg]
    have f1 : 4 * A = g * k * (p * N) := by rw [dA, hp]; grind
    have f2 : D = g * k * q := by rw [dD, hq]; grind
    have hgk : g * k ≠ 0 := Int.ne_of_gt (Int.mul_pos hg hk)
    rw [f1, f2, Int.mul_ediv_cancel_left _ hgk, Int.mul_ediv_cancel_left _ hgk]
    refine ⟨by rw [hp]; grind, hq⟩
  have m4 : (Int.gcd 4 M : Int) = (Nat.gcd (M.natAbs % 4) 4 : Int) := by
    show ((Nat.gcd 4 M.natAbs : Nat) : Int) = _
    rw [Nat.gcd_rec]
  have hm : M % 4 = 0 ∨ M % 4 = 1 ∨ M % 4 = 2 ∨ M % 4 = 3 := by omega
  rcases hm with hm | hm | hm | hm
  · have e : M.natAbs % 4 = 0 := by omega
    rw [e] at m4
    obtain ⟨k1, k2⟩ := key 4 (by omega) m4 ⟨1, by omega⟩ ⟨M / 4, by omega⟩
    exact ⟨4, by omega, k1, k2, by omega⟩
  · have e : M.natAbs % 4 = 1 := by omega
    rw [e] at m4
    obtain ⟨k1, k2⟩ := key 1 (by omega) m4 ⟨4, by omega⟩ ⟨M, by omega⟩
    exact ⟨1, by omega, k1, k2, by omega⟩
  · have e : M.natAbs % 4 = 2 := by omega
    rw [e] at m4
    obtain ⟨k1, k2⟩ := key 2 (by omega) m4 ⟨2, by omega⟩ ⟨M / 2, by omega⟩
    exact ⟨2, by omega, k1, k2, by omega⟩
  · have e : M.natAbs % 4 = 3 := by omega
    rw [e] at m4
    obtain ⟨k1, k2⟩ := key 1 (by omega) m4 ⟨4, by omega⟩ ⟨M, by omega⟩
    exact ⟨1, by omega, k1, k2, by omega⟩
end Go.AM

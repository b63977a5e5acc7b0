import Derived.Test.YthjbfklheepfpaaGreatDoorOF
import Derived.Test.YthjbfklheepfpaaGreatDoorW0
set_option linter.unusedVariables false
set_option linter.unusedSimpArgs false
set_option maxHeartbeats 4000000
open Go Go.AM Go.Proofs
namespace Go.AM
open Dist
def B1 (x : Int) : Prop := -1000 ≤ x ∧ x ≤ 1000
theorem beyond1 {x : Int} : beyond x 1000 = false ↔ B1 x := by
  have e : IntKind.i64.wrap (0 - 1000) = -1000 := by decide
  unfold beyond B1
  rw [e]
  simp only [Bool.or_eq_false_iff, decide_eq_false_iff_not]
  omega
theorem over9_false {a b c d e f g h i : Int} : over9 a b c d e f g h i = false ↔ B1 a ∧ B1 b ∧ B1 c ∧ B1 d ∧ B1 e ∧ B1 f ∧ B1 g ∧ B1 h ∧ B1 i := by
  unfold over9
  simp only [Bool.or_eq_false_iff, beyond1]
def detI (a b c d e f g h i : Int) : Int := a * (e * i - f * h) + b * (f * g - d * i) + c * (d * h - e * g)
theorem cof_id {a b c d : Int} (ha : B1 a) (hb : B1 b) (hc : B1 c) (hd : B1 d) : cof a b c d = a * d - b * c ∧ -2000000 ≤ a * d - b * c ∧ a * d - b * c ≤ 2000000 := by
  have h1 := mul_bd ha hd
  have h2 := mul_bd hb hc
  unfold cof
  rw [wr_id (n := a * d) (by omega) (by omega), wr_id (n := b * c) (by omega) (by omega), wr_id (by omega) (by omega)]
  exact ⟨rfl, by omega, by omega⟩
theorem det9_id {a b c d e f g h i : Int} (ho : over9 a b c d e f g h i = false) : det9 a b c d e f g h i = detI a b c d e f g h i := by
  obtain ⟨ha, hb, hc, hd, he, hf, hg, hh, hi⟩ := over9_false.1 ho
  obtain ⟨e1, k1⟩ := cof_id he hf hh hi
  obtain ⟨e2, k2⟩ := cof_id hf hd hi hg
  obtain ⟨e3, k3⟩ := cof_id hd he hg hh
  have m1 := mul_bd ha k1
  have m2 := mul_bd hb k2
  have m3 := mul_bd hc k3
  unfold det9 detI
  rw [e1, e2, e3, wr_id (n := a * (e * i - f * h)) (by omega) (by omega), wr_id (n := b * (f * g - d * i)) (by omega) (by omega), wr_id (n := c * (d * h - e * g)) (by omega) (by omega),
    wr_id (n := a * (e * i - f * h) + b * (f * g - d * i)) (by omega) (by omega), wr_id (by omega) (by omega)]
theorem pr_id {a b c p s v : Int} (ha : B1 a) (hb : B1 b) (hc : B1 c) (hp : B1 p) (hs : B1 s) (hv : B1 v) : pr a b c p s v = a * p + b * s + c * v := by
  have m1 := mul_bd ha hp
  have m2 := mul_bd hb hs
  have m3 := mul_bd hc hv
  unfold pr
  rw [wr_id (n := a * p) (by omega) (by omega), wr_id (n := b * s) (by omega) (by omega), wr_id (n := c * v) (by omega) (by omega), wr_id (n := a * p + b * s) (by omega) (by omega), wr_id (by omega) (by omega)]
theorem modF24 {n : Int} (h1 : -1000000000000 ≤ n) (h2 : n ≤ 1000000000000) : modF n 24 = n % 24 := by
  unfold modF
  have h3 := Int.tmod_eq_emod (a := n) (b := 24)
  have h4 : -24 < n.tmod 24 ∧ n.tmod 24 < 24 ∧ (n.tmod 24 - n) % 24 = 0 := by
    split at h3
    · omega
    · simp only [Int.natAbs] at h3
      omega
  rw [wr_id (by omega) (by omega)]
  have h5 := Int.tmod_eq_emod (a := n.tmod 24 + 24) (b := 24)
  rw [if_pos (.inl (by omega))] at h5
  omega
theorem tr_id {a b c l m n x : Int} (ha : B1 a) (hb : B1 b) (hc : B1 c) (hl : 0 ≤ l ∧ l < 24) (hm : 0 ≤ m ∧ m < 24) (hn : 0 ≤ n ∧ n < 24) (hx : 0 ≤ x ∧ x < 24) : tr a b c l m n x = (a * l + b * m + c * n + x) % 24 := by
  unfold B1 at ha hb hc
  have k1 := mul_bd (A := 23) (B := 23) (a := a % 24) (b := l) (by omega) (by omega)
  have k2 := mul_bd (A := 23) (B := 23) (a := b % 24) (b := m) (by omega) (by omega)
  have k3 := mul_bd (A := 23) (B := 23) (a := c % 24) (b := n) (by omega) (by omega)
  unfold tr
  rw [modF24 (n := a) (by omega) (by omega), modF24 (n := b) (by omega) (by omega), modF24 (n := c) (by omega) (by omega)]
  rw [wr_id (n := a % 24 * l) (by omega) (by omega), wr_id (n := 0 + a % 24 * l) (by omega) (by omega), modF24 (n := 0 + a % 24 * l) (by omega) (by omega)]
  rw [wr_id (n := b % 24 * m) (by omega) (by omega), wr_id (n := (0 + a % 24 * l) % 24 + b % 24 * m) (by omega) (by omega), modF24 (n := (0 + a % 24 * l) % 24 + b % 24 * m) (by omega) (by omega)]
  rw [wr_id (n := c % 24 * n) (by omega) (by omega), wr_id (n := ((0 + a % 24 * l) % 24 + b % 24 * m) % 24 + c % 24 * n) (by omega) (by omega), modF24 (n := ((0 + a % 24 * l) % 24 + b % 24 * m) % 24 + c % 24 * n) (by omega) (by omega)]
  have e1 : a * l % 24 = a % 24 * l % 24 := by simp [Int.mul_emod]
  have e2 : b * m % 24 = b % 24 * m % 24 := by simp [Int.mul_emod]
  have e3 : c * n % 24 = c % 24 * n % 24 := by simp [Int.mul_emod]
  generalize a % 24 * l = t1 at *
  generalize b % 24 * m = t2 at *
  generalize c % 24 * n = t3 at *
  have f1 := Int.tmod_eq_emod (a := (((0 + t1) % 24 + t2) % 24 + t3) % 24) (b := 24)
  have f2 := Int.tmod_eq_emod (a := x) (b := 24)
  rw [if_pos (.inl (by omega))] at f1 f2
  rw [f1, f2, wr_id (by omega) (by omega), modF24 (by omega) (by omega)]
  omega
end Go.AM

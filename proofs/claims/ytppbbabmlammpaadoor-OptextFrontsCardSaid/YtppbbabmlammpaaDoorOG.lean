import Derived.Test.YtppbbabmlammpaaDoorOF
import Derived.Test.YtppbbabmlammpaaDoorW0
set_option linter.unusedVariables false
set_option linter.unusedSimpArgs false
open Go Go.AM Go.Proofs
namespace Go.AM
open Dist
def B1 (x : Int) : Prop := -1000 ≤ x ∧ x ≤ 1000
theorem beyond1 {x : Int} : beyond x 1000 = false ↔ B1 x := by
  have e : IntKind.i64.wrap (0 - 1000) = -1000 := by decide
  unfold beyond B1
  rw [e]
  simp only [Bool.or_eq_false_iff, decide_eq_false_iff_not]
  omega
theorem over9_false {a b c d e f g h i : Int} : over9 a b c d e f g h i = false ↔ B1 a ∧ B1 b ∧ B1 c ∧ B1 d ∧ B1 e ∧ B1 f ∧ B1 g ∧ B1 h ∧ B1 i := by
  unfold over9
  simp only [Bool.or_eq_false_iff, beyond1]
def detI (a b c d e f g h i : Int) : Int := a * (e * i - f * h) + b * (f * g - d * i) + c * (d * h - e * g)
theorem cof_id {a b c d : Int} (ha : B1 a) (hb : B1 b) (hc : B1 c) (hd : B1 d) : cof a b c d = a * d - b * c ∧ -2000000 ≤ a * d - b * c ∧ a * d - b * c ≤ 2000000 := by
  have h1 := mul_bd ha hd
  have h2 := mul_bd hb hc
  unfold cof
  rw [wr_id (n := a * d) (by omega) (by omega), wr_id (n := b * c) (by omega) (by omega), wr_id (by omega) (by omega)]
  exact ⟨rfl, by omega, by omega⟩
theorem det9_id {a b c d e f g h i : Int} (ho : over9 a b c d e f g h i = false) : det9 a b c d e f g h i = detI a b c d e f g h i := by
  obtain ⟨ha, hb, hc, hd, he, hf, hg, hh, hi⟩ := over9_false.1 ho
  obtain ⟨e1, k1⟩ := cof_id he hf hh hi
  obtain ⟨e2, k2⟩ := cof_id hf hd hi hg
  obtain ⟨e3, k3⟩ := cof_id hd he hg hh
  have m1 := mul_bd ha k1
  have m2 := mul_bd hb k2
  have m3 := mul_bd hc k3
  unfold det9 detI
  rw [e1, e2, e3, wr_id (n := a * (e * i - f * h)) (by omega) (by omega), wr_id (n := b * (f * g - d * i)) (by omega) (by omega), wr_id (n := c * (d * h - e * g)) (by omega) (by omega),
    wr_id (n := a * (e * i - f * h) + b * (f * g - d * i)) (by omega) (by omega), wr_id (by omega) (by omega)]
theorem pr_id {a b c p s v : Int} (ha : B1 a) (hb : B1 b) (hc : B1 c) (hp : B1 p) (hs : B1 s) (hv : B1 v) : pr a b c p s v = a * p + b * s + c * v := by
  have m1 := mul_bd ha hp
  have m2 := mul_bd hb hs
  have m3 := mul_bd hc hv
  unfold pr
  rw [wr_id (n := a * p) (by omega) (by omega), wr_id (n := b * s) (by omega) (by omega), wr_id (n := c * v) (by omega) (by omega), wr_id (n := a * p + b * s) (by omega) (by omega), wr_id (by omega) (by omega)]
end Go.AM

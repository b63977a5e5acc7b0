import Derived.Test.YtcinopdklobldaaGreatDoorC0
/- Plain law of spacings: the Euclidean loop, the adjugate. -/
namespace Go.Dist
open Go
/-- what the loop 'for b > 0 { a, b = b, a % b }' leaves in a -/
def euc (a b : Int) : Int := if h : 0 < b then euc b (a.tmod b) else a
termination_by b.toNat
decreasing_by have := Int.tmod_lt_of_pos a h; omega
theorem euc_step {a b : Int} (h : 0 < b) : euc b (a.tmod b) = euc a b := by rw [euc.eq_1 a b, dif_pos h]
theorem euc_done {a b : Int} (h : ¬ 0 < b) : euc a b = a := by rw [euc.eq_1 a b, dif_neg h]
theorem euc_less {a b : Int} (h : 0 < b) : (a.tmod b).toNat < b.toNat := by have := Int.tmod_lt_of_pos a h; omega
theorem euc_pos {a b : Int} (h : 0 < b) : 0 < euc a b := by
  generalize hn : b.toNat = n
  induction n using Nat.strongRecOn generalizing a b with
  | _ n ih =>
    rw [← euc_step h]
    by_cases h2 : 0 < a.tmod b
    · exact ih _ (by have := euc_less (a := a) h; omega) h2 rfl
    · rw [euc_done h2]; exact h
theorem euc_gcd {a b : Int} (ha : 0 ≤ a) (hb : 0 ≤ b) : euc a b = (Int.gcd a b : Int) := by
  generalize hn : b.toNat = n
  induction n using Nat.strongRecOn generalizing a b with
  | _ n ih =>
    by_cases h : 0 < b
    · rw [← euc_step h, ih _ (by have := euc_less (a := a) h; omega) hb (Int.tmod_nonneg b ha) rfl]
      rw [Int.tmod_eq_emod_of_nonneg ha]
      have e := Int.gcd_add_mul_left_right b (a % b) (a / b)
      rw [Int.emod_add_mul_ediv] at e
      rw [← e, Int.gcd_comm]
    · obtain rfl : b = 0 := by omega
      rw [euc_done h]
      simp; omega
section
variable (a b c d e f : Int)
def adjW1 (x y z : Int) : Int := (b * c - d * d) * x + (e * d - c * f) * y + (f * d - b * e) * z
def adjW2 (x y z : Int) : Int := (e * d - c * f) * x + (a * c - e * e) * y + (f * e - a * d) * z
def adjW3 (x y z : Int) : Int := (f * d - b * e) * x + (f * e - a * d) * y + (a * b - f * f) * z
def adjF (x y z : Int) : Int := bil (b * c - d * d) (a * c - e * e) (a * b - f * f) (f * e - a * d) (f * d - b * e) (e * d - c * f) x y z x y z
theorem adj1 (x y z : Int) : a * adjW1 b c d e f x y z + f * adjW2 a c d e f x y z + e * adjW3 a b d e f x y z = detM a b c d e f * x := by unfold adjW1 adjW2 adjW3 detM; grind
theorem adj2 (x y z : Int) : f * adjW1 b c d e f x y z + b * adjW2 a c d e f x y z + d * adjW3 a b d e f x y z = detM a b c d e f * y := by unfold adjW1 adjW2 adjW3 detM; grind
theorem adj3 (x y z : Int) : e * adjW1 b c d e f x y z + d * adjW2 a c d e f x y z + c * adjW3 a b d e f x y z = detM a b c d e f * z := by unfold adjW1 adjW2 adjW3 detM; grind
theorem adjF_w (x y z : Int) : adjF a b c d e f x y z = x * adjW1 b c d e f x y z + y * adjW2 a c d e f x y z + z * adjW3 a b d e f x y z := by unfold adjF bil adjW1 adjW2 adjW3; grind
theorem bil_row (x y z u v w : Int) : bil a b c d e f x y z u v w = (a * x + f * y + e * z) * u + (f * x + b * y + d * z) * v + (e * x + d * y + c * z) * w := by unfold bil; grind
theorem bil_adj (x y z u v w : Int) : bil a b c d e f (adjW1 b c d e f x y z) (adjW2 a c d e f x y z) (adjW3 a b d e f x y z) u v w = detM a b c d e f * (x * u + y * v + z * w) := by
  rw [bil_row, adj1, adj2, adj3]; grind
theorem bil_adj2 (x y z : Int) : bil a b c d e f (adjW1 b c d e f x y z) (adjW2 a c d e f x y z) (adjW3 a b d e f x y z) (adjW1 b c d e f x y z) (adjW2 a c d e f x y z) (adjW3 a b d e f x y z) = detM a b c d e f * adjF a b c d e f x y z := by
  rw [bil_adj, adjF_w]
variable {a b c d e f} (ha : 0 < a) (h2 : 0 < a * b - f * f) (h3 : 0 < detM a b c d e f)
include ha h2 h3
theorem adjF_nn (x y z : Int) : 0 ≤ adjF a b c d e f x y z := by
  have h := bil_nn (a := a) (b := b) (c := c) (d := d) (e := e) (f := f) ha h2 h3 (adjW1 b c d e f x y z) (adjW2 a c d e f x y z) (adjW3 a b d e f x y z)
  rw [bil_adj2] at h
  exact Int.nonneg_of_mul_nonneg_right h (by omega) |> fun h => h
/-- an edge's index against the edges -/
theorem dual (x y z u v w : Int) : detM a b c d e f * ((x * u + y * v + z * w) * (x * u + y * v + z * w)) ≤ adjF a b c d e f x y z * bil a b c d e f u v w u v w := by
  have h := cauchy (a := a) (b := b) (c := c) (d := d) (e := e) (f := f) ha h2 h3 (adjW1 b c d e f x y z) (adjW2 a c d e f x y z) (adjW3 a b d e f x y z) u v w
  rw [bil_adj, bil_adj2] at h
  refine Int.le_of_mul_le_mul_left (a := detM a b c d e f) ?_ h3
  have e1 : detM a b c d e f * (detM a b c d e f * ((x * u + y * v + z * w) * (x * u + y * v + z * w))) = detM a b c d e f * (x * u + y * v + z * w) * (detM a b c d e f * (x * u + y * v + z * w)) := by grind
  have e2 : detM a b c d e f * (adjF a b c d e f x y z * bil a b c d e f u v w u v w) = detM a b c d e f * adjF a b c d e f x y z * bil a b c d e f u v w u v w := by grind
  rw [e1, e2]
  exact h
end
end Go.Dist

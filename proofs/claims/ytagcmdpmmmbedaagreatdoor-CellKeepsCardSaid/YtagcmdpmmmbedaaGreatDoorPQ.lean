import Derived.Test.YtagcmdpmmmbedaaGreatDoorOF
import Derived.Test.YtagcmdpmmmbedaaGreatDoorW0
open Go Go.AM Go.Proofs
namespace Go.AM
open Dist
/-- plain facts of maps: what op.Mul makes is in form again -/
def B1 (x : Int) : Prop := -1000 ≤ x ∧ x ≤ 1000
theorem beyond1 {x : Int} : beyond x 1000 = false ↔ B1 x := by
  have e : IntKind.i64.wrap (0 - 1000) = -1000 := by decide
  unfold beyond B1
  rw [e]
  simp only [Bool.or_eq_false_iff, decide_eq_false_iff_not]
  omega
theorem over9_false {a b c d e f g h i : Int} : over9 a b c d e f g h i = false ↔ B1 a ∧ B1 b ∧ B1 c ∧ B1 d ∧ B1 e ∧ B1 f ∧ B1 g ∧ B1 h ∧ B1 i := by
  unfold over9
  simp only [Bool.or_eq_false_iff, beyond1]
def detI (a b c d e f g h i : Int) : Int := a * (e * i - f * h) + b * (f * g - d * i) + c * (d * h - e * g)
theorem cof_id {a b c d : Int} (ha : B1 a) (hb : B1 b) (hc : B1 c) (hd : B1 d) : cof a b c d = a * d - b * c ∧ -2000000 ≤ a * d - b * c ∧ a * d - b * c ≤ 2000000 := by
  have h1 := mul_bd ha hd
  have h2 := mul_bd hb hc
  unfold cof
  rw [wr_id (n := a * d) (by omega) (by omega), wr_id (n := b * c) (by omega) (by omega), wr_id (by omega) (by omega)]
  exact ⟨rfl, by omega, by omega⟩
theorem det9_id {a b c d e f g h i : Int} (ho : over9 a b c d e f g h i = false) : det9 a b c d e f g h i = detI a b c d e f g h i := by
  obtain ⟨ha, hb, hc, hd, he, hf, hg, hh, hi⟩ := over9_false.1 ho
  obtain ⟨e1, k1⟩ := cof_id he hf hh hi
  obtain ⟨e2, k2⟩ := cof_id hf hd hi hg
  obtain ⟨e3, k3⟩ := cof_id hd he hg hh
  have m1 := mul_bd ha k1
  have m2 := mul_bd hb k2
  have m3 := mul_bd hc k3
  unfold det9 detI
  rw [e1, e2, e3, wr_id (n := a * (e * i - f * h)) (by omega) (by omega), wr_id (n := b * (f * g - d * i)) (by omega) (by omega), wr_id (n := c * (d * h - e * g)) (by omega) (by omega),
    wr_id (n := a * (e * i - f * h) + b * (f * g - d * i)) (by omega) (by omega), wr_id (by omega) (by omega)]
theorem pr_id {a b c p s v : Int} (ha : B1 a) (hb : B1 b) (hc : B1 c) (hp : B1 p) (hs : B1 s) (hv : B1 v) : pr a b c p s v = a * p + b * s + c * v := by
  have m1 := mul_bd ha hp
  have m2 := mul_bd hb hs
  have m3 := mul_bd hc hv
  unfold pr
  rw [wr_id (n := a * p) (by omega) (by omega), wr_id (n := b * s) (by omega) (by omega), wr_id (n := c * v) (by omega) (by omega), wr_id (n := a * p + b * s) (by omega) (by omega), wr_id (by omega) (by omega)]
theorem detI_mul (a b c d e f g h i p q r s t u v w k : Int) :
    detI (a * p + b * s + c * v) (a * q + b * t + c * w) (a * r + b * u + c * k) (d * p + e * s + f * v) (d * q + e * t + f * w) (d * r + e * u + f * k) (g * p + h * s + i * v) (g * q + h * t + i * w) (g * r + h * u + i * k) =
    detI a b c d e f g h i * detI p q r s t u v w k := by
  unfold detI
  grind
theorem modF24 {n : Int} (h1 : -1000000000000 ≤ n) (h2 : n ≤ 1000000000000) : modF n 24 = n % 24 := by
  unfold modF
  have h3 := Int.tmod_eq_emod (a := n) (b := 24)
  have h4 : -24 < n.tmod 24 ∧ n.tmod 24 < 24 ∧ (n.tmod 24 - n) % 24 = 0 := by
    split at h3
    · omega
    · simp only [Int.natAbs] at h3
      omega
  rw [wr_id (by omega) (by omega)]
  have h5 := Int.tmod_eq_emod (a := n.tmod 24 + 24) (b := 24)
  rw [if_pos (.inl (by omega))] at h5
  omega
theorem mod24_bd (n : Int) : 0 ≤ n % 24 ∧ n % 24 ≤ 23 := by omega
theorem tr_id {a b c l m n x : Int} (ha : B1 a) (hb : B1 b) (hc : B1 c) (hl : 0 ≤ l ∧ l < 24) (hm : 0 ≤ m ∧ m < 24) (hn : 0 ≤ n ∧ n < 24) (hx : 0 ≤ x ∧ x < 24) : tr a b c l m n x = (a * l + b * m + c * n + x) % 24 := by
  unfold B1 at ha hb hc
  have k1 := mul_bd (A := 23) (B := 23) (a := a % 24) (b := l) (by omega) (by omega)
  have k2 := mul_bd (A := 23) (B := 23) (a := b % 24) (b := m) (by omega) (by omega)
  have k3 := mul_bd (A := 23) (B := 23) (a := c % 24) (b := n) (by omega) (by omega)
  unfold tr
  rw [modF24 (n := a) (by omega) (by omega), modF24 (n := b) (by omega) (by omega), modF24 (n := c) (by omega) (by omega)]
  rw [wr_id (n := a % 24 * l) (by omega) (by omega), wr_id (n := 0 + a % 24 * l) (by omega) (by omega), modF24 (n := 0 + a % 24 * l) (by omega) (by omega)]
  rw [wr_id (n := b % 24 * m) (by omega) (by omega), wr_id (n := (0 + a % 24 * l) % 24 + b % 24 * m) (by omega) (by omega), modF24 (n := (0 + a % 24 * l) % 24 + b % 24 * m) (by omega) (by omega)]
  rw [wr_id (n := c % 24 * n) (by omega) (by omega), wr_id (n := ((0 + a % 24 * l) % 24 + b % 24 * m) % 24 + c % 24 * n) (by omega) (by omega), modF24 (n := ((0 + a % 24 * l) % 24 + b % 24 * m) % 24 + c % 24 * n) (by omega) (by omega)]
  have e1 : a * l % 24 = a % 24 * l % 24 := by simp [Int.mul_emod]
  have e2 : b * m % 24 = b % 24 * m % 24 := by simp [Int.mul_emod]
  have e3 : c * n % 24 = c % 24 * n % 24 := by simp [Int.mul_emod]
  generalize a % 24 * l = t1 at *
  generalize b % 24 * m = t2 at *
  generalize c % 24 * n = t3 at *
  have f1 := Int.tmod_eq_emod (a := (((0 + t1) % 24 + t2) % 24 + t3) % 24) (b := 24)
  have f2 := Int.tmod_eq_emod (a := x) (b := 24)
  rw [if_pos (.inl (by omega))] at f1 f2
  rw [f1, f2, wr_id (by omega) (by omega), modF24 (by omega) (by omega)]
  omega
end Go.AM
open Go Go.AM Go.Proofs
namespace Go.AM
open Dist
/-- a map's own error -/
def opE (a b c d e f g h i x y z : Int) : Int := if tbad x y z then 3 else if matE a b c d e f g h i = 3 then 3 else if matE a b c d e f g h i = 4 then 4 else 0
theorem matE_cases (a b c d e f g h i : Int) : (matE a b c d e f g h i = 4 ∧ over9 a b c d e f g h i = true) ∨ (matE a b c d e f g h i = 3 ∧ over9 a b c d e f g h i = false) ∨
    (matE a b c d e f g h i = 0 ∧ over9 a b c d e f g h i = false ∧ (detI a b c d e f g h i = 1 ∨ detI a b c d e f g h i = -1)) := by
  unfold matE
  cases ho : over9 a b c d e f g h i with
  | true => exact .inl ⟨by simp, rfl⟩
  | false =>
    rw [det9_id ho]
    right
    by_cases h1 : detI a b c d e f g h i = 1
    · exact .inr ⟨by simp [h1], rfl, .inl h1⟩
    · by_cases h2 : detI a b c d e f g h i = -1
      · exact .inr ⟨by simp [h2], rfl, .inr h2⟩
      · exact .inl ⟨by simp [h1, h2], rfl⟩
theorem matE_of {a b c d e f g h i : Int} (ho : over9 a b c d e f g h i = false) (hd : detI a b c d e f g h i = 1 ∨ detI a b c d e f g h i = -1) : matE a b c d e f g h i = 0 := by
  unfold matE
  rw [ho, det9_id ho]
  rcases hd with hd | hd <;> simp [hd]
theorem tbad_false {x y z : Int} : tbad x y z = false ↔ (0 ≤ x ∧ x < 24) ∧ (0 ≤ y ∧ y < 24) ∧ (0 ≤ z ∧ z < 24) := by
  unfold tbad
  simp only [Bool.or_eq_false_iff, decide_eq_false_iff_not]
  omega
theorem opE_zero {a b c d e f g h i x y z : Int} : opE a b c d e f g h i x y z = 0 ↔ tbad x y z = false ∧ over9 a b c d e f g h i = false ∧ (detI a b c d e f g h i = 1 ∨ detI a b c d e f g h i = -1) := by
  unfold opE
  cases ht : tbad x y z with
  | true => simp
  | false =>
    rcases matE_cases a b c d e f g h i with ⟨h1, h2⟩ | ⟨h1, h2⟩ | ⟨h1, h2, h3⟩
    · simp [h1, h2]
    · refine ⟨fun h => by simp [h1] at h, fun h => ?_⟩
      have := matE_of h.2.1 h.2.2
      rw [h1] at this
      cases this
    · simp [h1, h2, h3]
theorem mulE_zero {a b c d e f g h i x y z p q r s t u v w k l m n : Int} : mulE a b c d e f g h i x y z p q r s t u v w k l m n = 0 ↔
    opE a b c d e f g h i x y z = 0 ∧ opE p q r s t u v w k l m n = 0 ∧ mulO a b c d e f g h i x y z p q r s t u v w k l m n = false := by
  unfold mulE opE
  cases tbad x y z <;> cases tbad l m n <;> rcases matE_cases a b c d e f g h i with ⟨h1, _⟩ | ⟨h1, _⟩ | ⟨h1, _⟩ <;> rcases matE_cases p q r s t u v w k with ⟨h2, _⟩ | ⟨h2, _⟩ | ⟨h2, _⟩ <;>
    cases mulO a b c d e f g h i x y z p q r s t u v w k l m n <;> simp [h1, h2]
/-- a product that is within its bounds is in form -/
theorem mul_form {a b c d e f g h i x y z p q r s t u v w k l m n : Int} (hm : mulE a b c d e f g h i x y z p q r s t u v w k l m n = 0) :
    opE (pr a b c p s v) (pr a b c q t w) (pr a b c r u k) (pr d e f p s v) (pr d e f q t w) (pr d e f r u k) (pr g h i p s v) (pr g h i q t w) (pr g h i r u k) (tr a b c l m n x) (tr d e f l m n y) (tr g h i l m n z) = 0 := by
  obtain ⟨h1, h2, h3⟩ := mulE_zero.1 hm
  obtain ⟨a1, a2, a3⟩ := opE_zero.1 h1
  obtain ⟨b1, b2, b3⟩ := opE_zero.1 h2
  obtain ⟨ha, hb, hc, hd, he, hf, hg, hh, hi⟩ := over9_false.1 a2
  obtain ⟨hp, hq, hr, hs, ht, hu, hv, hw, hk⟩ := over9_false.1 b2
  obtain ⟨hx, hy, hz⟩ := tbad_false.1 a1
  obtain ⟨hl, hm', hn⟩ := tbad_false.1 b1
  refine opE_zero.2 ⟨tbad_false.2 ?_, h3, ?_⟩
  · rw [tr_id ha hb hc hl hm' hn hx, tr_id hd he hf hl hm' hn hy, tr_id hg hh hi hl hm' hn hz]
    omega
  · rw [pr_id ha hb hc hp hs hv, pr_id ha hb hc hq ht hw, pr_id ha hb hc hr hu hk, pr_id hd he hf hp hs hv, pr_id hd he hf hq ht hw, pr_id hd he hf hr hu hk, pr_id hg hh hi hp hs hv, pr_id hg hh hi hq ht hw, pr_id hg hh hi hr hu hk, detI_mul]
    rcases a3 with a3 | a3 <;> rcases b3 with b3 | b3 <;> rw [a3, b3] <;> decide
theorem pr_one (p : Int) {s v : Int} (hp : B1 p) (hs : B1 s) (hv : B1 v) : pr 1 0 0 p s v = p ∧ pr 0 1 0 s p v = p ∧ pr 0 0 1 s v p = p := by
  have h1 : B1 1 := by unfold B1; omega
  have h0 : B1 0 := by unfold B1; omega
  rw [pr_id h1 h0 h0 hp hs hv, pr_id h0 h1 h0 hs hp hv, pr_id h0 h0 h1 hs hv hp]
  omega
/-- behind the identity a map has its own error -/
theorem mulE_one (p q r s t u v w k l m n : Int) : mulE 1 0 0 0 1 0 0 0 1 0 0 0 p q r s t u v w k l m n = opE p q r s t u v w k l m n := by
  have e1 : matE 1 0 0 0 1 0 0 0 1 = 0 := by decide
  have e2 : tbad 0 0 0 = false := by decide
  unfold mulE opE
  rw [e1, e2]
  rcases matE_cases p q r s t u v w k with ⟨h2, _⟩ | ⟨h2, _⟩ | ⟨h2, h3, _⟩
  · simp [h2]
  · simp [h2]
  · obtain ⟨hp, hq, hr, hs, ht, hu, hv, hw, hk⟩ := over9_false.1 h3
    have : mulO 1 0 0 0 1 0 0 0 1 0 0 0 p q r s t u v w k l m n = false := by
      unfold mulO
      rw [(pr_one p hp hs hv).1, (pr_one q hq ht hw).1, (pr_one r hr hu hk).1, (pr_one s hs hp hv).2.1, (pr_one t ht hq hw).2.1, (pr_one u hu hr hk).2.1, (pr_one v hv hp hs).2.2, (pr_one w hw hq ht).2.2, (pr_one k hk hr hu).2.2]
      exact h3
    simp [h2, this]
end Go.AM
open Go Go.AM Go.Proofs
namespace Go.AM
/-- comparisons part by part -/
def icmp (a b : Int) : Int := if a < b then -1 else if b < a then 1 else 0
def thenC (c d : Int) : Int := if c = 0 then d else c
theorem leafCon {ee n : Int} (h : ee = n) : (AV.v (.one (.con .i64 n))).valOf = some (.int .i64 ee) := by subst h; rfl
def qCmp : PSpec
  | [.v (.one (.sym .i64 a)), .v (.one (.sym .i64 b))] => .ok (I (icmp a b))
  | _ => .fail
theorem nfcmp (a b : Int) (K : KV) : call P O6 noAnn 100000 Tryz.f68 [I a, I b] [] K = (((!decide (a = a)) = true → ((!decide (b = b)) = true → K (AV.v (PV.one (SV.con IntKind.i64 (0 : Int)))) []) ∧ ((!decide (b = b)) = false → K (AV.v (PV.one (SV.con IntKind.i64 (-1 : Int)))) [])) ∧ ((!decide (a = a)) = false → ((!decide (b = b)) = true → K (AV.v (PV.one (SV.con IntKind.i64 (1 : Int)))) []) ∧ ((!decide (b = b)) = false → (decide (a < b) = true → K (AV.v (PV.one (SV.con IntKind.i64 (-1 : Int)))) []) ∧ (decide (a < b) = false → (decide (b < a) = true → K (AV.v (PV.one (SV.con IntKind.i64 (1 : Int)))) []) ∧ (decide (b < a) = false → K (AV.v (PV.one (SV.con IntKind.i64 (0 : Int)))) []))))) := by kernel_rfl
theorem ohCmp : Holds P O6 68 qCmp := by
  refine holds_ok (fn := Tryz.f68) (by kernel_rfl) (by kernel_rfl) fun args av hg => ?_
  unfold qCmp at hg
  split at hg
  · rename_i a b
    rw [gives_ok hg]
    refine ⟨rfl, .int .i64 (icmp a b), rfl, ?_⟩
    rw [nfcmp]
    clear hg
    repeat' (first | apply And.intro | intro _)
    all_goals first
      | rfl
      | refine leafCon ?_
    all_goals simp only [decide_eq_true_eq, decide_eq_false_iff_not, Bool.not_eq_true', not_true_eq_false] at *
    all_goals (unfold icmp; simp only [*, if_true, if_false])
  · exact (gives_fail hg).elim
def cmp9 (a b c d e f g h i p q r s t u v w k : Int) : Int := thenC (icmp a p) (thenC (icmp b q) (thenC (icmp c r) (thenC (icmp d s) (thenC (icmp e t) (thenC (icmp f u) (thenC (icmp g v) (thenC (icmp h w) (icmp i k))))))))
def qVcmp : PSpec
  | [.v (.agg [.sym .i64 a, .sym .i64 b, .sym .i64 c, .sym .i64 d, .sym .i64 e, .sym .i64 f, .sym .i64 g, .sym .i64 h, .sym .i64 i]), .v (.agg [.sym .i64 p, .sym .i64 q, .sym .i64 r, .sym .i64 s, .sym .i64 t, .sym .i64 u, .sym .i64 v, .sym .i64 w, .sym .i64 k])] => .ok (I (cmp9 a b c d e f g h i p q r s t u v w k))
  | _ => .fail
theorem nfvcmp (a b c d e f g h i p q r s t u v w k : Int) (K : KV) : call P O6 noAnn 100000 Tryz.f67 [.v (.agg [.sym .i64 a, .sym .i64 b, .sym .i64 c, .sym .i64 d, .sym .i64 e, .sym .i64 f, .sym .i64 g, .sym .i64 h, .sym .i64 i]), .v (.agg [.sym .i64 p, .sym .i64 q, .sym .i64 r, .sym .i64 s, .sym .i64 t, .sym .i64 u, .sym .i64 v, .sym .i64 w, .sym .i64 k])] [] K = ((decide (a < p) = true → K (AV.v (PV.one (SV.con IntKind.i64 (-1 : Int)))) []) ∧ (decide (a < p) = false → (decide (p < a) = true → K (AV.v (PV.one (SV.con IntKind.i64 (1 : Int)))) []) ∧ (decide (p < a) = false → (decide (b < q) = true → K (AV.v (PV.one (SV.con IntKind.i64 (-1 : Int)))) []) ∧ (decide (b < q) = false → (decide (q < b) = true → K (AV.v (PV.one (SV.con IntKind.i64 (1 : Int)))) []) ∧ (decide (q < b) = false → (decide (c < r) = true → K (AV.v (PV.one (SV.con IntKind.i64 (-1 : Int)))) []) ∧ (decide (c < r) = false → (decide (r < c) = true → K (AV.v (PV.one (SV.con IntKind.i64 (1 : Int)))) []) ∧ (decide (r < c) = false → (decide (d < s) = true → K (AV.v (PV.one (SV.con IntKind.i64 (-1 : Int)))) []) ∧ (decide (d < s) = false → (decide (s < d) = true → K (AV.v (PV.one (SV.con IntKind.i64 (1 : Int)))) []) ∧ (decide (s < d) = false → (decide (e < t) = true → K (AV.v (PV.one (SV.con IntKind.i64 (-1 : Int)))) []) ∧ (decide (e < t) = false → (decide (t < e) = true → K (AV.v (PV.one (SV.con IntKind.i64 (1 : Int)))) []) ∧ (decide (t < e) = false → (decide (f < u) = true → K (AV.v (PV.one (SV.con IntKind.i64 (-1 : Int)))) []) ∧ (decide (f < u) = false → (decide (u < f) = true → K (AV.v (PV.one (SV.con IntKind.i64 (1 : Int)))) []) ∧ (decide (u < f) = false → (decide (g < v) = true → K (AV.v (PV.one (SV.con IntKind.i64 (-1 : Int)))) []) ∧ (decide (g < v) = false → (decide (v < g) = true → K (AV.v (PV.one (SV.con IntKind.i64 (1 : Int)))) []) ∧ (decide (v < g) = false → (decide (h < w) = true → K (AV.v (PV.one (SV.con IntKind.i64 (-1 : Int)))) []) ∧ (decide (h < w) = false → (decide (w < h) = true → K (AV.v (PV.one (SV.con IntKind.i64 (1 : Int)))) []) ∧ (decide (w < h) = false → (decide (i < k) = true → K (AV.v (PV.one (SV.con IntKind.i64 (-1 : Int)))) []) ∧ (decide (i < k) = false → (decide (k < i) = true → K (AV.v (PV.one (SV.con IntKind.i64 (1 : Int)))) []) ∧ (decide (k < i) = false → K (AV.v (PV.one (SV.con IntKind.i64 (0 : Int)))) []))))))))))))))))))) := by kernel_rfl
theorem ohVcmp : Holds P O6 67 qVcmp := by
  refine holds_ok (fn := Tryz.f67) (by kernel_rfl) (by kernel_rfl) fun args av hg => ?_
  unfold qVcmp at hg
  split at hg
  · rename_i a b c d e f g h i p q r s t u v w k
    rw [gives_ok hg]
    refine ⟨rfl, .int .i64 (cmp9 a b c d e f g h i p q r s t u v w k), rfl, ?_⟩
    rw [nfvcmp]
    clear hg
    repeat' (first | apply And.intro | intro _)
    all_goals first
      | rfl
      | refine leafCon ?_
    all_goals simp only [decide_eq_true_eq, decide_eq_false_iff_not] at *
    all_goals (unfold cmp9 thenC icmp; simp only [*, if_true, if_false]; try rfl)
  · exact (gives_fail hg).elim
def O7 : Sums := (O6.add 68 qCmp).add 67 qVcmp
end Go.AM
open Go Go.AM Go.Proofs
namespace Go.AM
theorem leafSym {ee n : Int} (h : ee = n) : (AV.v (.one (.sym .i64 n))).valOf = some (.int .i64 ee) := by subst h; rfl
def cmp12 (a b c d e f g h i x y z p q r s t u v w k l m n : Int) : Int := thenC (cmp9 a b c d e f g h i p q r s t u v w k) (thenC (icmp x l) (thenC (icmp y m) (icmp z n)))
def qOcmp : PSpec
  | [.v (.agg [.sym .i64 a, .sym .i64 b, .sym .i64 c, .sym .i64 d, .sym .i64 e, .sym .i64 f, .sym .i64 g, .sym .i64 h, .sym .i64 i, .sym .i64 x, .sym .i64 y, .sym .i64 z]), .v (.agg [.sym .i64 p, .sym .i64 q, .sym .i64 r, .sym .i64 s, .sym .i64 t, .sym .i64 u, .sym .i64 v, .sym .i64 w, .sym .i64 k, .sym .i64 l, .sym .i64 m, .sym .i64 n])] => .ok (I (cmp12 a b c d e f g h i x y z p q r s t u v w k l m n))
  | _ => .fail
theorem nfocmp (a b c d e f g h i x y z p q r s t u v w k l m n : Int) (K : KV) : call P O7 noAnn 100000 Tryz.f41 [.v (.agg [.sym .i64 a, .sym .i64 b, .sym .i64 c, .sym .i64 d, .sym .i64 e, .sym .i64 f, .sym .i64 g, .sym .i64 h, .sym .i64 i, .sym .i64 x, .sym .i64 y, .sym .i64 z]), .v (.agg [.sym .i64 p, .sym .i64 q, .sym .i64 r, .sym .i64 s, .sym .i64 t, .sym .i64 u, .sym .i64 v, .sym .i64 w, .sym .i64 k, .sym .i64 l, .sym .i64 m, .sym .i64 n])] [] K = (((!decide (cmp9 a b c d e f g h i p q r s t u v w k = (0 : Int))) = true → K (AV.v (PV.one (SV.sym IntKind.i64 (cmp9 a b c d e f g h i p q r s t u v w k)))) []) ∧ ((!decide (cmp9 a b c d e f g h i p q r s t u v w k = (0 : Int))) = false → ((!decide (icmp x l = (0 : Int))) = true → K (AV.v (PV.one (SV.sym IntKind.i64 (icmp x l)))) []) ∧ ((!decide (icmp x l = (0 : Int))) = false → ((!decide (icmp y m = (0 : Int))) = true → K (AV.v (PV.one (SV.sym IntKind.i64 (icmp y m)))) []) ∧ ((!decide (icmp y m = (0 : Int))) = false → ((!decide (icmp z n = (0 : Int))) = true → K (AV.v (PV.one (SV.sym IntKind.i64 (icmp z n)))) []) ∧ ((!decide (icmp z n = (0 : Int))) = false → K (AV.v (PV.one (SV.con IntKind.i64 (0 : Int)))) []))))) := by kernel_rfl
theorem ohOcmp : Holds P O7 41 qOcmp := by
  refine holds_ok (fn := Tryz.f41) (by kernel_rfl) (by kernel_rfl) fun args av hg => ?_
  unfold qOcmp at hg
  split at hg
  · rename_i a b c d e f g h i x y z p q r s t u v w k l m n
    rw [gives_ok hg]
    refine ⟨rfl, .int .i64 (cmp12 a b c d e f g h i x y z p q r s t u v w k l m n), rfl, ?_⟩
    rw [nfocmp]
    clear hg
    unfold cmp12
    generalize cmp9 a b c d e f g h i p q r s t u v w k = c0
    generalize icmp x l = c1
    generalize icmp y m = c2
    generalize icmp z n = c3
    repeat' (first | apply And.intro | intro _)
    all_goals first
      | rfl
      | refine leafCon ?_
      | refine leafSym ?_
    all_goals simp only [decide_eq_true_eq, decide_eq_false_iff_not, Bool.not_eq_true', Bool.not_eq_false', Bool.not_eq_true, Bool.not_eq_false] at *
    all_goals (unfold thenC; simp only [*, if_true, if_false])
  · exact (gives_fail hg).elim
def O8 : Sums := O7.add 41 qOcmp
/-- the order of numbers, part by part -/
theorem icmp_refl (a : Int) : icmp a a = 0 := by unfold icmp; simp
theorem icmp_cases (a b : Int) : (a < b ∧ icmp a b = -1) ∨ (a = b ∧ icmp a b = 0) ∨ (b < a ∧ icmp a b = 1) := by
  unfold icmp
  by_cases h1 : a < b
  · exact .inl ⟨h1, if_pos h1⟩
  · by_cases h2 : b < a
    · exact .inr (.inr ⟨h2, by rw [if_neg h1, if_pos h2]⟩)
    · exact .inr (.inl ⟨by omega, by rw [if_neg h1, if_neg h2]⟩)
theorem icmp_zero {a b : Int} : icmp a b = 0 ↔ a = b := by
  rcases icmp_cases a b with ⟨h1, h2⟩ | ⟨h1, h2⟩ | ⟨h1, h2⟩ <;> rw [h2] <;> omega
theorem icmp_neg (a b : Int) : icmp b a = - icmp a b := by
  rcases icmp_cases a b with ⟨h1, h2⟩ | ⟨h1, h2⟩ | ⟨h1, h2⟩ <;> rcases icmp_cases b a with ⟨h3, h4⟩ | ⟨h3, h4⟩ | ⟨h3, h4⟩ <;> omega
theorem thenC_zero {c d : Int} : thenC c d = 0 ↔ c = 0 ∧ d = 0 := by
  unfold thenC
  by_cases h : c = 0
  · simp [h]
  · simp [h]
theorem thenC_neg (c d : Int) : thenC (-c) (-d) = - thenC c d := by
  unfold thenC
  by_cases h : c = 0
  · simp [h]
  · rw [if_neg h, if_neg (by omega)]
end Go.AM
open Go Go.AM Go.Proofs
namespace Go.AM
open Dist
/-- indices turned from the right, and their phases: plain facts (for Hkl) -/
def B5 (x : Int) : Prop := -512 ≤ x ∧ x ≤ 512
def tn (u v w x y z : Int) : Int := IntKind.i64.wrap (IntKind.i64.wrap (IntKind.i64.wrap (0 + IntKind.i64.wrap (u * x)) + IntKind.i64.wrap (v * y)) + IntKind.i64.wrap (w * z))
def ph (u v w x y z : Int) : Int := modF (IntKind.i64.wrap (IntKind.i64.wrap (IntKind.i64.wrap (u * x) + IntKind.i64.wrap (v * y)) + IntKind.i64.wrap (w * z))) 24
theorem tn_id {u v w x y z : Int} (hu : B5 u) (hv : B5 v) (hw : B5 w) (hx : B1 x) (hy : B1 y) (hz : B1 z) : tn u v w x y z = u * x + v * y + w * z := by
  have m1 := mul_bd hu hx
  have m2 := mul_bd hv hy
  have m3 := mul_bd hw hz
  unfold tn
  rw [wr_id (n := u * x) (by omega) (by omega), wr_id (n := v * y) (by omega) (by omega), wr_id (n := w * z) (by omega) (by omega), wr_id (n := 0 + u * x) (by omega) (by omega), wr_id (n := 0 + u * x + v * y) (by omega) (by omega), wr_id (by omega) (by omega)]
  omega
theorem ph_id {u v w x y z : Int} (hu : B5 u) (hv : B5 v) (hw : B5 w) (hx : 0 ≤ x ∧ x < 24) (hy : 0 ≤ y ∧ y < 24) (hz : 0 ≤ z ∧ z < 24) : ph u v w x y z = (u * x + v * y + w * z) % 24 := by
  have m1 := mul_bd (B := 24) hu (show -24 ≤ x ∧ x ≤ 24 by omega)
  have m2 := mul_bd (B := 24) hv (show -24 ≤ y ∧ y ≤ 24 by omega)
  have m3 := mul_bd (B := 24) hw (show -24 ≤ z ∧ z ≤ 24 by omega)
  unfold ph
  rw [wr_id (n := u * x) (by omega) (by omega), wr_id (n := v * y) (by omega) (by omega), wr_id (n := w * z) (by omega) (by omega), wr_id (n := u * x + v * y) (by omega) (by omega), wr_id (by omega) (by omega), modF24 (by omega) (by omega)]
theorem turn_turn {u0 u1 u2 a b c d e f g h i p s v : Int} (h0 : B5 u0) (h1 : B5 u1) (h2 : B5 u2) (ha : B1 a) (hb : B1 b) (hc : B1 c) (hd : B1 d) (he : B1 e) (hf : B1 f) (hg : B1 g) (hh : B1 h) (hi : B1 i) (hp : B1 p) (hs : B1 s) (hv : B1 v)
    (k0 : B5 (tn u0 u1 u2 a d g)) (k1 : B5 (tn u0 u1 u2 b e h)) (k2 : B5 (tn u0 u1 u2 c f i)) (j0 : B1 (pr a b c p s v)) (j1 : B1 (pr d e f p s v)) (j2 : B1 (pr g h i p s v)) :
    tn (tn u0 u1 u2 a d g) (tn u0 u1 u2 b e h) (tn u0 u1 u2 c f i) p s v = tn u0 u1 u2 (pr a b c p s v) (pr d e f p s v) (pr g h i p s v) := by
  rw [tn_id k0 k1 k2 hp hs hv, tn_id h0 h1 h2 j0 j1 j2, tn_id h0 h1 h2 ha hd hg, tn_id h0 h1 h2 hb he hh, tn_id h0 h1 h2 hc hf hi, pr_id ha hb hc hp hs hv, pr_id hd he hf hp hs hv, pr_id hg hh hi hp hs hv]
  grind
theorem sum_mod (u v w r s t : Int) : (u * (r % 24) + v * (s % 24) + w * (t % 24)) % 24 = (u * r + v * s + w * t) % 24 := by
  have e1 : u * (r % 24) = u * r - 24 * (u * (r / 24)) := by
    have : r % 24 = r - 24 * (r / 24) := by omega
    rw [this]
    grind
  have e2 : v * (s % 24) = v * s - 24 * (v * (s / 24)) := by
    have : s % 24 = s - 24 * (s / 24) := by omega
    rw [this]
    grind
  have e3 : w * (t % 24) = w * t - 24 * (w * (t / 24)) := by
    have : t % 24 = t - 24 * (t / 24) := by omega
    rw [this]
    grind
  rw [e1, e2, e3]
  omega
theorem turn_phase {u0 u1 u2 a b c d e f g h i l m n x y z : Int} (h0 : B5 u0) (h1 : B5 u1) (h2 : B5 u2) (ha : B1 a) (hb : B1 b) (hc : B1 c) (hd : B1 d) (he : B1 e) (hf : B1 f) (hg : B1 g) (hh : B1 h) (hi : B1 i)
    (hl : 0 ≤ l ∧ l < 24) (hm : 0 ≤ m ∧ m < 24) (hn : 0 ≤ n ∧ n < 24) (hx : 0 ≤ x ∧ x < 24) (hy : 0 ≤ y ∧ y < 24) (hz : 0 ≤ z ∧ z < 24)
    (k0 : B5 (tn u0 u1 u2 a d g)) (k1 : B5 (tn u0 u1 u2 b e h)) (k2 : B5 (tn u0 u1 u2 c f i)) :
    ph u0 u1 u2 (tr a b c l m n x) (tr d e f l m n y) (tr g h i l m n z) = (ph u0 u1 u2 x y z + ph (tn u0 u1 u2 a d g) (tn u0 u1 u2 b e h) (tn u0 u1 u2 c f i) l m n) % 24 := by
  rw [tr_id ha hb hc hl hm hn hx, tr_id hd he hf hl hm hn hy, tr_id hg hh hi hl hm hn hz, ph_id h0 h1 h2 hx hy hz, ph_id k0 k1 k2 hl hm hn, ph_id h0 h1 h2 (by omega) (by omega) (by omega), tn_id h0 h1 h2 ha hd hg, tn_id h0 h1 h2 hb he hh, tn_id h0 h1 h2 hc hf hi, sum_mod]
  have e : u0 * (a * l + b * m + c * n + x) + u1 * (d * l + e * m + f * n + y) + u2 * (g * l + h * m + i * n + z) = (u0 * x + u1 * y + u2 * z) + ((u0 * a + u1 * d + u2 * g) * l + (u0 * b + u1 * e + u2 * h) * m + (u0 * c + u1 * f + u2 * i) * n) := by grind
  rw [e]
  omega
end Go.AM
open Go Go.AM Go.Proofs
namespace Go.AM
/-- the document's Mod, Within, Det -/
def modR (a b : Int) : Int := if a.tmod b < 0 then IntKind.i64.wrap (a.tmod b + b) else a.tmod b
def rdet9 (a b c d e f g h i : Int) : Int := IntKind.i64.wrap (IntKind.i64.wrap (IntKind.i64.wrap (0 + IntKind.i64.wrap (a * cof e f h i)) + IntKind.i64.wrap (b * cof f d i g)) + IntKind.i64.wrap (c * cof d e g h))
def qRmod : PSpec
  | [.v (.one (.sym .i64 a)), .v (.one (.sym .i64 b))] => .iff (b ≠ 0) (I (modR a b))
  | _ => .fail
def qWithin : PSpec
  | [.v (.agg [.sym .i64 a, .sym .i64 b, .sym .i64 c, .sym .i64 d, .sym .i64 e, .sym .i64 f, .sym .i64 g, .sym .i64 h, .sym .i64 i])] => .ok (B (!over9 a b c d e f g h i))
  | _ => .fail
def qRdet : PSpec
  | [.v (.agg [.sym .i64 a, .sym .i64 b, .sym .i64 c, .sym .i64 d, .sym .i64 e, .sym .i64 f, .sym .i64 g, .sym .i64 h, .sym .i64 i])] => .ok (I (rdet9 a b c d e f g h i))
  | _ => .fail
theorem nffmod (a b : Int) (K : KV) : call P O8 noAnn 100000 Tryz.f79 [I a, I b] [] K = ((b = (0 : Int) → False) ∧ (decide (a.tmod b < (0 : Int)) = true → K (AV.v (PV.one (SV.sym IntKind.i64 (IntKind.i64.wrap (a.tmod b + b))))) []) ∧ (decide (a.tmod b < (0 : Int)) = false → K (AV.v (PV.one (SV.sym IntKind.i64 (a.tmod b)))) [])) := by kernel_rfl
theorem nfwin (a b c d e f g h i : Int) (K : KV) : call P O8 noAnn 100000 Tryz.f74 [.v (.agg [.sym .i64 a, .sym .i64 b, .sym .i64 c, .sym .i64 d, .sym .i64 e, .sym .i64 f, .sym .i64 g, .sym .i64 h, .sym .i64 i])] [] K = ((decide (a < (-1000 : Int)) = true → K (AV.v (PV.one (SV.cb false))) []) ∧ (decide (a < (-1000 : Int)) = false → (decide ((1000 : Int) < a) = true → K (AV.v (PV.one (SV.cb false))) []) ∧ (decide ((1000 : Int) < a) = false → (decide (b < (-1000 : Int)) = true → K (AV.v (PV.one (SV.cb false))) []) ∧ (decide (b < (-1000 : Int)) = false → (decide ((1000 : Int) < b) = true → K (AV.v (PV.one (SV.cb false))) []) ∧ (decide ((1000 : Int) < b) = false → (decide (c < (-1000 : Int)) = true → K (AV.v (PV.one (SV.cb false))) []) ∧ (decide (c < (-1000 : Int)) = false → (decide ((1000 : Int) < c) = true → K (AV.v (PV.one (SV.cb false))) []) ∧ (decide ((1000 : Int) < c) = false → (decide (d < (-1000 : Int)) = true → K (AV.v (PV.one (SV.cb false))) []) ∧ (decide (d < (-1000 : Int)) = false → (decide ((1000 : Int) < d) = true → K (AV.v (PV.one (SV.cb false))) []) ∧ (decide ((1000 : Int) < d) = false → (decide (e < (-1000 : Int)) = true → K (AV.v (PV.one (SV.cb false))) []) ∧ (decide (e < (-1000 : Int)) = false → (decide ((1000 : Int) < e) = true → K (AV.v (PV.one (SV.cb false))) []) ∧ (decide ((1000 : Int) < e) = false → (decide (f < (-1000 : Int)) = true → K (AV.v (PV.one (SV.cb false))) []) ∧ (decide (f < (-1000 : Int)) = false → (decide ((1000 : Int) < f) = true → K (AV.v (PV.one (SV.cb false))) []) ∧ (decide ((1000 : Int) < f) = false → (decide (g < (-1000 : Int)) = true → K (AV.v (PV.one (SV.cb false))) []) ∧ (decide (g < (-1000 : Int)) = false → (decide ((1000 : Int) < g) = true → K (AV.v (PV.one (SV.cb false))) []) ∧ (decide ((1000 : Int) < g) = false → (decide (h < (-1000 : Int)) = true → K (AV.v (PV.one (SV.cb false))) []) ∧ (decide (h < (-1000 : Int)) = false → (decide ((1000 : Int) < h) = true → K (AV.v (PV.one (SV.cb false))) []) ∧ (decide ((1000 : Int) < h) = false → (decide (i < (-1000 : Int)) = true → K (AV.v (PV.one (SV.cb false))) []) ∧ (decide (i < (-1000 : Int)) = false → (decide ((1000 : Int) < i) = true → K (AV.v (PV.one (SV.cb false))) []) ∧ (decide ((1000 : Int) < i) = false → K (AV.v (PV.one (SV.cb true))) []))))))))))))))))))) := by kernel_rfl
theorem nfrdet (a b c d e f g h i : Int) (K : KV) : call P O8 noAnn 100000 Tryz.f75 [.v (.agg [.sym .i64 a, .sym .i64 b, .sym .i64 c, .sym .i64 d, .sym .i64 e, .sym .i64 f, .sym .i64 g, .sym .i64 h, .sym .i64 i])] [] K = (K (AV.v (PV.one (SV.sym IntKind.i64 (IntKind.i64.wrap (IntKind.i64.wrap (IntKind.i64.wrap ((0 : Int) + IntKind.i64.wrap (a * IntKind.i64.wrap (IntKind.i64.wrap (e * i) - IntKind.i64.wrap (f * h)))) + IntKind.i64.wrap (b * IntKind.i64.wrap (IntKind.i64.wrap (f * g) - IntKind.i64.wrap (d * i)))) + IntKind.i64.wrap (c * IntKind.i64.wrap (IntKind.i64.wrap (d * h) - IntKind.i64.wrap (e * g)))))))) []) := by kernel_rfl
theorem ohRmod : Holds P O8 79 qRmod := by
  refine holds_ok (fn := Tryz.f79) (by kernel_rfl) (by kernel_rfl) fun args av h => ?_
  unfold qRmod at h
  split at h
  · rename_i a b
    rcases h with h | ⟨p, h, hp⟩
    · cases h
    · injection h with h1 h2
      subst h2
      rw [← h1] at hp
      refine ⟨rfl, .int .i64 (modR a b), rfl, (nffmod a b _).mpr ⟨hp, fun h => ⟨?_, rfl⟩, fun h => ⟨?_, rfl⟩⟩⟩
      · have h : a.tmod b < 0 := by simpa using h
        exact leafSym (by unfold modR; rw [if_pos h])
      · have h : ¬ a.tmod b < 0 := by simpa using h
        exact leafSym (by unfold modR; rw [if_neg h])
  · exact (gives_fail h).elim
theorem ohWithin : Holds P O8 74 qWithin := by
  refine holds_ok (fn := Tryz.f74) (by kernel_rfl) (by kernel_rfl) fun args av hg => ?_
  unfold qWithin at hg
  split at hg
  · rename_i a b c d e f g h i
    rw [gives_ok hg]
    refine ⟨rfl, .bool (!over9 a b c d e f g h i), rfl, ?_⟩
    rw [nfwin]
    clear hg
    have e : IntKind.i64.wrap (0 - 1000) = -1000 := by decide
    unfold over9 beyond
    rw [e]
    repeat' (first | apply leafB | apply leafS | apply And.intro | intro _)
    all_goals simp only [*, Bool.or_true, Bool.true_or, Bool.or_false, Bool.not_true, Bool.not_false]
  · exact (gives_fail hg).elim
theorem ohRdet : Holds P O8 75 qRdet := by
  refine holds_ok (fn := Tryz.f75) (by kernel_rfl) (by kernel_rfl) fun args av h => ?_
  unfold qRdet at h
  split at h
  · rw [gives_ok h]
    refine ⟨rfl, _, rfl, ?_⟩
    rw [nfrdet]
    exact ⟨rfl, rfl⟩
  · exact (gives_fail h).elim
def O9 : Sums := ((O8.add 79 qRmod).add 74 qWithin).add 75 qRdet
end Go.AM
open Go Go.AM Go.Proofs
namespace Go.AM
open Dist
/-- the document's error of one map is the program's -/
theorem modR24 (n : Int) : modR n 24 = n % 24 := by
  have h3 := Int.tmod_eq_emod (a := n) (b := 24)
  have h4 : -24 < n.tmod 24 ∧ n.tmod 24 < 24 ∧ (n.tmod 24 - n) % 24 = 0 := by
    split at h3
    · omega
    · simp only [Int.natAbs] at h3
      omega
  unfold modR
  split
  · rw [wr_id (by omega) (by omega)]
    omega
  · omega
theorem rdet9_id {a b c d e f g h i : Int} (ho : over9 a b c d e f g h i = false) : rdet9 a b c d e f g h i = detI a b c d e f g h i := by
  have : rdet9 a b c d e f g h i = det9 a b c d e f g h i := by
    unfold rdet9 det9
    obtain ⟨ha, hb, hc, hd, he, hf, hg, hh, hi⟩ := over9_false.1 ho
    obtain ⟨e1, k1⟩ := cof_id he hf hh hi
    have m1 := mul_bd ha k1
    rw [e1, wr_id (n := a * (e * i - f * h)) (by omega) (by omega), wr_id (n := 0 + a * (e * i - f * h)) (by omega) (by omega), Int.zero_add]
  rw [this, det9_id ho]
theorem tbad_mod {x y z : Int} : tbad x y z = true ↔ ¬ (modR x 24 = x ∧ modR y 24 = y ∧ modR z 24 = z) := by
  rw [modR24, modR24, modR24]
  cases h : tbad x y z with
  | false =>
    have := tbad_false.1 h
    simp only [Bool.false_eq_true, false_iff, Classical.not_not]
    omega
  | true =>
    simp only [true_iff]
    intro hh
    have : tbad x y z = false := tbad_false.2 (by omega)
    rw [h] at this
    cases this
theorem opE_doc (a b c d e f g h i x y z : Int) : opE a b c d e f g h i x y z =
    if ¬ (modR x 24 = x ∧ modR y 24 = y ∧ modR z 24 = z) ∨ (over9 a b c d e f g h i = false ∧ rdet9 a b c d e f g h i ≠ 1 ∧ rdet9 a b c d e f g h i ≠ -1) then 3 else if over9 a b c d e f g h i = true then 4 else 0 := by
  unfold opE
  cases ht : tbad x y z with
  | true => rw [if_pos rfl, if_pos (.inl (tbad_mod.1 ht))]
  | false =>
    have hm : modR x 24 = x ∧ modR y 24 = y ∧ modR z 24 = z := by
      have h1 := tbad_false.1 ht
      rw [modR24, modR24, modR24]
      omega
    rcases matE_cases a b c d e f g h i with ⟨h1, h2⟩ | ⟨h1, h2⟩ | ⟨h1, h2, h3⟩
    · simp [h1, h2, hm]
    · have hd : detI a b c d e f g h i ≠ 1 ∧ detI a b c d e f g h i ≠ -1 := by
        refine ⟨fun h => ?_, fun h => ?_⟩
        · have := matE_of h2 (.inl h)
          rw [h1] at this
          cases this
        · have := matE_of h2 (.inr h)
          rw [h1] at this
          cases this
      rw [rdet9_id h2]
      simp [h1, h2, hd]
    · rw [rdet9_id h2]
      rcases h3 with h3 | h3 <;> simp [h1, h2, hm, h3]
end Go.AM
open Go Go.AM Go.Proofs
namespace Go.AM
open Dist
/-- the document's comparisons and product of maps -/
def cmp3 (a b c p q r : Int) : Int := thenC (icmp a p) (thenC (icmp b q) (icmp c r))
def qCmp3 : PSpec
  | [.v (.agg [.sym .i64 a, .sym .i64 b, .sym .i64 c]), .v (.agg [.sym .i64 p, .sym .i64 q, .sym .i64 r])] => .ok (I (cmp3 a b c p q r))
  | _ => .fail
theorem nfrcmp3 (a b c p q r : Int) (K : KV) : call P O9 noAnn 100000 Tryz.f78 [V a b c, V p q r] [] K = ((decide (a < p) = true → K (AV.v (PV.one (SV.con IntKind.i64 (-1 : Int)))) []) ∧ (decide (a < p) = false → (decide (p < a) = true → K (AV.v (PV.one (SV.con IntKind.i64 (1 : Int)))) []) ∧ (decide (p < a) = false → (decide (b < q) = true → K (AV.v (PV.one (SV.con IntKind.i64 (-1 : Int)))) []) ∧ (decide (b < q) = false → (decide (q < b) = true → K (AV.v (PV.one (SV.con IntKind.i64 (1 : Int)))) []) ∧ (decide (q < b) = false → (decide (c < r) = true → K (AV.v (PV.one (SV.con IntKind.i64 (-1 : Int)))) []) ∧ (decide (c < r) = false → (decide (r < c) = true → K (AV.v (PV.one (SV.con IntKind.i64 (1 : Int)))) []) ∧ (decide (r < c) = false → K (AV.v (PV.one (SV.con IntKind.i64 (0 : Int)))) []))))))) := by kernel_rfl
theorem oh_rcmp3 : Holds P O9 78 qCmp3 := by
  refine holds_ok (fn := Tryz.f78) (by kernel_rfl) (by kernel_rfl) fun args av hg => ?_
  unfold qCmp3 at hg
  split at hg
  · rename_i a b c p q r
    rw [gives_ok hg]
    refine ⟨rfl, .int .i64 (cmp3 a b c p q r), rfl, ?_⟩
    rw [nfrcmp3]
    clear hg
    repeat' (first | apply And.intro | intro _)
    all_goals first
      | rfl
      | refine leafCon ?_
    all_goals simp only [decide_eq_true_eq, decide_eq_false_iff_not] at *
    all_goals (unfold cmp3 thenC icmp; simp only [*, if_true, if_false]; try rfl)
  · exact (gives_fail hg).elim
theorem nfrcmp9 (a b c d e f g h i p q r s t u v w k : Int) (K : KV) : call P O9 noAnn 100000 Tryz.f77 [.v (.agg [.sym .i64 a, .sym .i64 b, .sym .i64 c, .sym .i64 d, .sym .i64 e, .sym .i64 f, .sym .i64 g, .sym .i64 h, .sym .i64 i]), .v (.agg [.sym .i64 p, .sym .i64 q, .sym .i64 r, .sym .i64 s, .sym .i64 t, .sym .i64 u, .sym .i64 v, .sym .i64 w, .sym .i64 k])] [] K = ((decide (a < p) = true → K (AV.v (PV.one (SV.con IntKind.i64 ((-1 : Int))))) []) ∧ (decide (a < p) = false → (decide (p < a) = true → K (AV.v (PV.one (SV.con IntKind.i64 ((1 : Int))))) []) ∧ (decide (p < a) = false → (decide (b < q) = true → K (AV.v (PV.one (SV.con IntKind.i64 ((-1 : Int))))) []) ∧ (decide (b < q) = false → (decide (q < b) = true → K (AV.v (PV.one (SV.con IntKind.i64 ((1 : Int))))) []) ∧ (decide (q < b) = false → (decide (c < r) = true → K (AV.v (PV.one (SV.con IntKind.i64 ((-1 : Int))))) []) ∧ (decide (c < r) = false → (decide (r < c) = true → K (AV.v (PV.one (SV.con IntKind.i64 ((1 : Int))))) []) ∧ (decide (r < c) = false → (decide (d < s) = true → K (AV.v (PV.one (SV.con IntKind.i64 ((-1 : Int))))) []) ∧ (decide (d < s) = false → (decide (s < d) = true → K (AV.v (PV.one (SV.con IntKind.i64 ((1 : Int))))) []) ∧ (decide (s < d) = false → (decide (e < t) = true → K (AV.v (PV.one (SV.con IntKind.i64 ((-1 : Int))))) []) ∧ (decide (e < t) = false → (decide (t < e) = true → K (AV.v (PV.one (SV.con IntKind.i64 ((1 : Int))))) []) ∧ (decide (t < e) = false → (decide (f < u) = true → K (AV.v (PV.one (SV.con IntKind.i64 ((-1 : Int))))) []) ∧ (decide (f < u) = false → (decide (u < f) = true → K (AV.v (PV.one (SV.con IntKind.i64 ((1 : Int))))) []) ∧ (decide (u < f) = false → (decide (g < v) = true → K (AV.v (PV.one (SV.con IntKind.i64 ((-1 : Int))))) []) ∧ (decide (g < v) = false → (decide (v < g) = true → K (AV.v (PV.one (SV.con IntKind.i64 ((1 : Int))))) []) ∧ (decide (v < g) = false → (decide (h < w) = true → K (AV.v (PV.one (SV.con IntKind.i64 ((-1 : Int))))) []) ∧ (decide (h < w) = false → (decide (w < h) = true → K (AV.v (PV.one (SV.con IntKind.i64 ((1 : Int))))) []) ∧ (decide (w < h) = false → (decide (i < k) = true → K (AV.v (PV.one (SV.con IntKind.i64 ((-1 : Int))))) []) ∧ (decide (i < k) = false → (decide (k < i) = true → K (AV.v (PV.one (SV.con IntKind.i64 ((1 : Int))))) []) ∧ (decide (k < i) = false → K (AV.v (PV.one (SV.con IntKind.i64 (0 : Int)))) []))))))))))))))))))) := by kernel_rfl
theorem oh_rcmp9 : Holds P O9 77 qVcmp := by
  refine holds_ok (fn := Tryz.f77) (by kernel_rfl) (by kernel_rfl) fun args av hg => ?_
  unfold qVcmp at hg
  split at hg
  · rename_i a b c d e f g h i p q r s t u v w k
    rw [gives_ok hg]
    refine ⟨rfl, .int .i64 (cmp9 a b c d e f g h i p q r s t u v w k), rfl, ?_⟩
    rw [nfrcmp9]
    clear hg
    repeat' (first | apply And.intro | intro _)
    all_goals first
      | rfl
      | refine leafCon ?_
    all_goals simp only [decide_eq_true_eq, decide_eq_false_iff_not] at *
    all_goals (unfold cmp9 thenC icmp; simp only [*, if_true, if_false]; try rfl)
  · exact (gives_fail hg).elim
theorem nfrcmp12 (a b c d e f g h i x y z p q r s t u v w k l m n : Int) (K : KV) : call P O9 noAnn 100000 Tryz.f48 [.v (.agg [.sym .i64 a, .sym .i64 b, .sym .i64 c, .sym .i64 d, .sym .i64 e, .sym .i64 f, .sym .i64 g, .sym .i64 h, .sym .i64 i, .sym .i64 x, .sym .i64 y, .sym .i64 z]), .v (.agg [.sym .i64 p, .sym .i64 q, .sym .i64 r, .sym .i64 s, .sym .i64 t, .sym .i64 u, .sym .i64 v, .sym .i64 w, .sym .i64 k, .sym .i64 l, .sym .i64 m, .sym .i64 n])] [] K = ((decide (a < p) = true → K (AV.v (PV.one (SV.con IntKind.i64 ((-1 : Int))))) []) ∧ (decide (a < p) = false → (decide (p < a) = true → K (AV.v (PV.one (SV.con IntKind.i64 ((1 : Int))))) []) ∧ (decide (p < a) = false → (decide (b < q) = true → K (AV.v (PV.one (SV.con IntKind.i64 ((-1 : Int))))) []) ∧ (decide (b < q) = false → (decide (q < b) = true → K (AV.v (PV.one (SV.con IntKind.i64 ((1 : Int))))) []) ∧ (decide (q < b) = false → (decide (c < r) = true → K (AV.v (PV.one (SV.con IntKind.i64 ((-1 : Int))))) []) ∧ (decide (c < r) = false → (decide (r < c) = true → K (AV.v (PV.one (SV.con IntKind.i64 ((1 : Int))))) []) ∧ (decide (r < c) = false → (decide (d < s) = true → K (AV.v (PV.one (SV.con IntKind.i64 ((-1 : Int))))) []) ∧ (decide (d < s) = false → (decide (s < d) = true → K (AV.v (PV.one (SV.con IntKind.i64 ((1 : Int))))) []) ∧ (decide (s < d) = false → (decide (e < t) = true → K (AV.v (PV.one (SV.con IntKind.i64 ((-1 : Int))))) []) ∧ (decide (e < t) = false → (decide (t < e) = true → K (AV.v (PV.one (SV.con IntKind.i64 ((1 : Int))))) []) ∧ (decide (t < e) = false → (decide (f < u) = true → K (AV.v (PV.one (SV.con IntKind.i64 ((-1 : Int))))) []) ∧ (decide (f < u) = false → (decide (u < f) = true → K (AV.v (PV.one (SV.con IntKind.i64 ((1 : Int))))) []) ∧ (decide (u < f) = false → (decide (g < v) = true → K (AV.v (PV.one (SV.con IntKind.i64 ((-1 : Int))))) []) ∧ (decide (g < v) = false → (decide (v < g) = true → K (AV.v (PV.one (SV.con IntKind.i64 ((1 : Int))))) []) ∧ (decide (v < g) = false → (decide (h < w) = true → K (AV.v (PV.one (SV.con IntKind.i64 ((-1 : Int))))) []) ∧ (decide (h < w) = false → (decide (w < h) = true → K (AV.v (PV.one (SV.con IntKind.i64 ((1 : Int))))) []) ∧ (decide (w < h) = false → (decide (i < k) = true → K (AV.v (PV.one (SV.con IntKind.i64 ((-1 : Int))))) []) ∧ (decide (i < k) = false → (decide (k < i) = true → K (AV.v (PV.one (SV.con IntKind.i64 ((1 : Int))))) []) ∧ (decide (k < i) = false → (decide (x < l) = true → K (AV.v (PV.one (SV.con IntKind.i64 (-1 : Int)))) []) ∧ (decide (x < l) = false → (decide (l < x) = true → K (AV.v (PV.one (SV.con IntKind.i64 (1 : Int)))) []) ∧ (decide (l < x) = false → (decide (y < m) = true → K (AV.v (PV.one (SV.con IntKind.i64 (-1 : Int)))) []) ∧ (decide (y < m) = false → (decide (m < y) = true → K (AV.v (PV.one (SV.con IntKind.i64 (1 : Int)))) []) ∧ (decide (m < y) = false → (decide (z < n) = true → K (AV.v (PV.one (SV.con IntKind.i64 (-1 : Int)))) []) ∧ (decide (z < n) = false → (decide (n < z) = true → K (AV.v (PV.one (SV.con IntKind.i64 (1 : Int)))) []) ∧ (decide (n < z) = false → K (AV.v (PV.one (SV.con IntKind.i64 (0 : Int)))) []))))))))))))))))))))))))) := by kernel_rfl
theorem oh_rcmp12 : Holds P O9 48 qOcmp := by
  refine holds_ok (fn := Tryz.f48) (by kernel_rfl) (by kernel_rfl) fun args av hg => ?_
  unfold qOcmp at hg
  split at hg
  · rename_i a b c d e f g h i x y z p q r s t u v w k l m n
    rw [gives_ok hg]
    refine ⟨rfl, .int .i64 (cmp12 a b c d e f g h i x y z p q r s t u v w k l m n), rfl, ?_⟩
    rw [nfrcmp12]
    clear hg
    repeat' (first | apply And.intro | intro _)
    all_goals first
      | rfl
      | refine leafCon ?_
    all_goals simp only [decide_eq_true_eq, decide_eq_false_iff_not] at *
    all_goals (unfold cmp12 cmp9 thenC icmp; simp only [*, if_true, if_false]; try rfl)
  · exact (gives_fail hg).elim
def rt (a b c l m n x : Int) : Int := modR (IntKind.i64.wrap (IntKind.i64.wrap (IntKind.i64.wrap (x + IntKind.i64.wrap (a * l)) + IntKind.i64.wrap (b * m)) + IntKind.i64.wrap (c * n))) 24
def qRmul : PSpec
  | [.v (.agg [.sym .i64 a, .sym .i64 b, .sym .i64 c, .sym .i64 d, .sym .i64 e, .sym .i64 f, .sym .i64 g, .sym .i64 h, .sym .i64 i, .sym .i64 x, .sym .i64 y, .sym .i64 z]), .v (.agg [.sym .i64 p, .sym .i64 q, .sym .i64 r, .sym .i64 s, .sym .i64 t, .sym .i64 u, .sym .i64 v, .sym .i64 w, .sym .i64 k, .sym .i64 l, .sym .i64 m, .sym .i64 n])] => .ok (.v (.agg [.sym .i64 (tn a b c p s v), .sym .i64 (tn a b c q t w), .sym .i64 (tn a b c r u k), .sym .i64 (tn d e f p s v), .sym .i64 (tn d e f q t w), .sym .i64 (tn d e f r u k), .sym .i64 (tn g h i p s v), .sym .i64 (tn g h i q t w), .sym .i64 (tn g h i r u k), .sym .i64 (rt a b c l m n x), .sym .i64 (rt d e f l m n y), .sym .i64 (rt g h i l m n z)]))
  | _ => .fail
theorem nfrmul (a b c d e f g h i x y z p q r s t u v w k l m n : Int) (K : KV) : call P O9 noAnn 100000 Tryz.f51 [.v (.agg [.sym .i64 a, .sym .i64 b, .sym .i64 c, .sym .i64 d, .sym .i64 e, .sym .i64 f, .sym .i64 g, .sym .i64 h, .sym .i64 i, .sym .i64 x, .sym .i64 y, .sym .i64 z]), .v (.agg [.sym .i64 p, .sym .i64 q, .sym .i64 r, .sym .i64 s, .sym .i64 t, .sym .i64 u, .sym .i64 v, .sym .i64 w, .sym .i64 k, .sym .i64 l, .sym .i64 m, .sym .i64 n])] [] K = (((24 : Int) = (0 : Int) → False) ∧ ((24 : Int) = (0 : Int) → False) ∧ ((24 : Int) = (0 : Int) → False) ∧ K (AV.v (PV.agg [SV.sym IntKind.i64 (IntKind.i64.wrap (IntKind.i64.wrap (IntKind.i64.wrap ((0 : Int) + IntKind.i64.wrap (a * p)) + IntKind.i64.wrap (b * s)) + IntKind.i64.wrap (c * v))), SV.sym IntKind.i64 (IntKind.i64.wrap (IntKind.i64.wrap (IntKind.i64.wrap ((0 : Int) + IntKind.i64.wrap (a * q)) + IntKind.i64.wrap (b * t)) + IntKind.i64.wrap (c * w))), SV.sym IntKind.i64 (IntKind.i64.wrap (IntKind.i64.wrap (IntKind.i64.wrap ((0 : Int) + IntKind.i64.wrap (a * r)) + IntKind.i64.wrap (b * u)) + IntKind.i64.wrap (c * k))), SV.sym IntKind.i64 (IntKind.i64.wrap (IntKind.i64.wrap (IntKind.i64.wrap ((0 : Int) + IntKind.i64.wrap (d * p)) + IntKind.i64.wrap (e * s)) + IntKind.i64.wrap (f * v))), SV.sym IntKind.i64 (IntKind.i64.wrap (IntKind.i64.wrap (IntKind.i64.wrap ((0 : Int) + IntKind.i64.wrap (d * q)) + IntKind.i64.wrap (e * t)) + IntKind.i64.wrap (f * w))), SV.sym IntKind.i64 (IntKind.i64.wrap (IntKind.i64.wrap (IntKind.i64.wrap ((0 : Int) + IntKind.i64.wrap (d * r)) + IntKind.i64.wrap (e * u)) + IntKind.i64.wrap (f * k))), SV.sym IntKind.i64 (IntKind.i64.wrap (IntKind.i64.wrap (IntKind.i64.wrap ((0 : Int) + IntKind.i64.wrap (g * p)) + IntKind.i64.wrap (h * s)) + IntKind.i64.wrap (i * v))), SV.sym IntKind.i64 (IntKind.i64.wrap (IntKind.i64.wrap (IntKind.i64.wrap ((0 : Int) + IntKind.i64.wrap (g * q)) + IntKind.i64.wrap (h * t)) + IntKind.i64.wrap (i * w))), SV.sym IntKind.i64 (IntKind.i64.wrap (IntKind.i64.wrap (IntKind.i64.wrap ((0 : Int) + IntKind.i64.wrap (g * r)) + IntKind.i64.wrap (h * u)) + IntKind.i64.wrap (i * k))), SV.sym IntKind.i64 (modR (IntKind.i64.wrap (IntKind.i64.wrap (IntKind.i64.wrap (x + IntKind.i64.wrap (a * l)) + IntKind.i64.wrap (b * m)) + IntKind.i64.wrap (c * n))) (24 : Int)), SV.sym IntKind.i64 (modR (IntKind.i64.wrap (IntKind.i64.wrap (IntKind.i64.wrap (y + IntKind.i64.wrap (d * l)) + IntKind.i64.wrap (e * m)) + IntKind.i64.wrap (f * n))) (24 : Int)), SV.sym IntKind.i64 (modR (IntKind.i64.wrap (IntKind.i64.wrap (IntKind.i64.wrap (z + IntKind.i64.wrap (g * l)) + IntKind.i64.wrap (h * m)) + IntKind.i64.wrap (i * n))) (24 : Int))])) []) := by kernel_rfl
theorem oh_rmul : Holds P O9 51 qRmul := by
  refine holds_ok (fn := Tryz.f51) (by kernel_rfl) (by kernel_rfl) fun args av hg => ?_
  unfold qRmul at hg
  split at hg
  · rw [gives_ok hg]
    refine ⟨rfl, _, rfl, ?_⟩
    rw [nfrmul]
    exact ⟨fun h => absurd h (by decide), fun h => absurd h (by decide), fun h => absurd h (by decide), rfl, rfl⟩
  · exact (gives_fail hg).elim
def O10 : Sums := (((O9.add 78 qCmp3).add 77 qVcmp).add 48 qOcmp).add 51 qRmul
/-- in form: the document's product is the program's -/
theorem tn_pr (a b c p s v : Int) : tn a b c p s v = IntKind.i64.wrap (IntKind.i64.wrap (IntKind.i64.wrap (0 + IntKind.i64.wrap (a * p)) + IntKind.i64.wrap (b * s)) + IntKind.i64.wrap (c * v)) := rfl
theorem rmul_pr {a b c p s v : Int} (ha : B1 a) (hb : B1 b) (hc : B1 c) (hp : B1 p) (hs : B1 s) (hv : B1 v) : tn a b c p s v = pr a b c p s v := by
  have m1 := mul_bd ha hp
  unfold tn pr
  rw [wr_id (n := a * p) (by omega) (by omega), wr_id (n := 0 + a * p) (by omega) (by omega), Int.zero_add]
theorem rt_tr {a b c l m n x : Int} (ha : B1 a) (hb : B1 b) (hc : B1 c) (hl : 0 ≤ l ∧ l < 24) (hm : 0 ≤ m ∧ m < 24) (hn : 0 ≤ n ∧ n < 24) (hx : 0 ≤ x ∧ x < 24) : rt a b c l m n x = tr a b c l m n x := by
  have m1 := mul_bd (B := 24) ha (show -24 ≤ l ∧ l ≤ 24 by omega)
  have m2 := mul_bd (B := 24) hb (show -24 ≤ m ∧ m ≤ 24 by omega)
  have m3 := mul_bd (B := 24) hc (show -24 ≤ n ∧ n ≤ 24 by omega)
  rw [tr_id ha hb hc hl hm hn hx]
  unfold rt
  rw [modR24, wr_id (n := a * l) (by omega) (by omega), wr_id (n := b * m) (by omega) (by omega), wr_id (n := c * n) (by omega) (by omega), wr_id (n := x + a * l) (by omega) (by omega), wr_id (n := x + a * l + b * m) (by omega) (by omega), wr_id (by omega) (by omega)]
  omega
end Go.AM
open Go Go.AM Go.Proofs
namespace Go.AM
/-- the document's Bring -/
def qBring : PSpec
  | [.v (.agg [.sym .i64 a, .sym .i64 b, .sym .i64 c]), .v (.one (.sym .i64 m))] => .iff (m ≠ 0) (V (modR a m) (modR b m) (modR c m))
  | _ => .fail
theorem nfbring (a b c m : Int) (K : KV) : call P O10 noAnn 100000 Tryz.f76 [V a b c, I m] [] K = ((m = (0 : Int) → False) ∧ (m = (0 : Int) → False) ∧ (m = (0 : Int) → False) ∧ K (AV.v (PV.agg [SV.sym IntKind.i64 (modR a m), SV.sym IntKind.i64 (modR b m), SV.sym IntKind.i64 (modR c m)])) []) := by kernel_rfl
theorem ohBring : Holds P O10 76 qBring := by
  refine holds_ok (fn := Tryz.f76) (by kernel_rfl) (by kernel_rfl) fun args av h => ?_
  unfold qBring at h
  split at h
  · rename_i a b c m
    rcases h with h | ⟨p, h, hp⟩
    · cases h
    · injection h with h1 h2
      subst h2
      rw [← h1] at hp
      refine ⟨rfl, _, rfl, ?_⟩
      rw [nfbring]
      exact ⟨hp, hp, hp, rfl, rfl⟩
  · exact (gives_fail h).elim
def O11 : Sums := O10.add 76 qBring
end Go.AM

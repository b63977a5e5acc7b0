import Derived.Test.YtagcmdpmmmbedaaGreatDoorCD
open Go Go.AM Go.Proofs
namespace Go.AM
open Dist
def checkR (a b c d e f : Int) : Int :=
  if low a || (low b || (low c || (far d || (far e || far f)))) then 1
  else if decide (IntKind.i64.wrap (IntKind.i64.wrap (a * b) - IntKind.i64.wrap (f * f)) ≤ 0) || decide (detR a b c d e f ≤ 0) then 3 else 0
def q13 : PSpec
  | [.v (.agg [.sym .i64 a, .sym .i64 b, .sym .i64 c, .sym .i64 d, .sym .i64 e, .sym .i64 f])] => .ok (I (checkR a b c d e f))
  | _ => .fail
theorem nfc13 (a b c d e f : Int) (K : KV) : call P D1 noAnn 100000 Tryz.f25 [M6 a b c d e f] [] K = ((decide (a < (1 : Int)) = true → K (AV.v (PV.one (SV.con IntKind.i64 (1 : Int)))) []) ∧ (decide (a < (1 : Int)) = false → (decide ((100000 : Int) < a) = true → K (AV.v (PV.one (SV.con IntKind.i64 (1 : Int)))) []) ∧ (decide ((100000 : Int) < a) = false → (decide (b < (1 : Int)) = true → K (AV.v (PV.one (SV.con IntKind.i64 (1 : Int)))) []) ∧ (decide (b < (1 : Int)) = false → (decide ((100000 : Int) < b) = true → K (AV.v (PV.one (SV.con IntKind.i64 (1 : Int)))) []) ∧ (decide ((100000 : Int) < b) = false → (decide (c < (1 : Int)) = true → K (AV.v (PV.one (SV.con IntKind.i64 (1 : Int)))) []) ∧ (decide (c < (1 : Int)) = false → (decide ((100000 : Int) < c) = true → K (AV.v (PV.one (SV.con IntKind.i64 (1 : Int)))) []) ∧ (decide ((100000 : Int) < c) = false → (decide (d < (-100000 : Int)) = true → K (AV.v (PV.one (SV.con IntKind.i64 (1 : Int)))) []) ∧ (decide (d < (-100000 : Int)) = false → (decide ((100000 : Int) < d) = true → K (AV.v (PV.one (SV.con IntKind.i64 (1 : Int)))) []) ∧ (decide ((100000 : Int) < d) = false → (decide (e < (-100000 : Int)) = true → K (AV.v (PV.one (SV.con IntKind.i64 (1 : Int)))) []) ∧ (decide (e < (-100000 : Int)) = false → (decide ((100000 : Int) < e) = true → K (AV.v (PV.one (SV.con IntKind.i64 (1 : Int)))) []) ∧ (decide ((100000 : Int) < e) = false → (decide (f < (-100000 : Int)) = true → K (AV.v (PV.one (SV.con IntKind.i64 (1 : Int)))) []) ∧ (decide (f < (-100000 : Int)) = false → (decide ((100000 : Int) < f) = true → K (AV.v (PV.one (SV.con IntKind.i64 (1 : Int)))) []) ∧ (decide ((100000 : Int) < f) = false → (decide (IntKind.i64.wrap (IntKind.i64.wrap (a * b) - IntKind.i64.wrap (f * f)) ≤ (0 : Int)) = true → K (AV.v (PV.one (SV.con IntKind.i64 (3 : Int)))) []) ∧ (decide (IntKind.i64.wrap (IntKind.i64.wrap (a * b) - IntKind.i64.wrap (f * f)) ≤ (0 : Int)) = false → (decide (detR a b c d e f ≤ (0 : Int)) = true → K (AV.v (PV.one (SV.con IntKind.i64 (3 : Int)))) []) ∧ (decide (detR a b c d e f ≤ (0 : Int)) = false → K (AV.v (PV.one (SV.con IntKind.i64 (0 : Int)))) []))))))))))))))) := by kernel_rfl
theorem hc13 : Holds P D1 25 q13 := by
  refine holds_ok (fn := Tryz.f25) (by kernel_rfl) (by kernel_rfl) fun args av hg => ?_
  unfold q13 at hg
  split at hg
  · rename_i a b c d e f
    rw [gives_ok hg]
    refine ⟨rfl, (.int .i64 (checkR a b c d e f)), rfl, ?_⟩
    rw [nfc13]
    unfold checkR low far
    generalize decide (a < 1) = x1
    generalize decide (100000 < a) = x2
    generalize decide (b < 1) = x3
    generalize decide (100000 < b) = x4
    generalize decide (c < 1) = x5
    generalize decide (100000 < c) = x6
    generalize decide (d < -100000) = x7
    generalize decide (100000 < d) = x8
    generalize decide (e < -100000) = x9
    generalize decide (100000 < e) = x10
    generalize decide (f < -100000) = x11
    generalize decide (100000 < f) = x12
    generalize decide (IntKind.i64.wrap (IntKind.i64.wrap (a * b) - IntKind.i64.wrap (f * f)) ≤ 0) = x13
    generalize decide (detR a b c d e f ≤ 0) = x14
    repeat' (first | apply leafI | apply And.intro | (intro h; subst h))
    all_goals (first | rfl | simp)
  · exact (gives_fail hg).elim

def H5 (x : Int) : Prop := -100000 ≤ x ∧ x ≤ 100000
theorem h5_mul {a b : Int} (ha : H5 a) (hb : H5 b) : -10000000000 ≤ a * b ∧ a * b ≤ 10000000000 := mul_bd ha hb
theorem h5_mul3 {a b c : Int} (ha : H5 a) (hb : H5 b) (hc : H5 c) : IntKind.i64.wrap (IntKind.i64.wrap (a * b) * c) = a * b * c ∧ -1000000000000000 ≤ a * b * c ∧ a * b * c ≤ 1000000000000000 := by
  have h1 := h5_mul ha hb
  have h2 : -1000000000000000 ≤ a * b * c ∧ a * b * c ≤ 1000000000000000 := mul_bd h1 hc
  rw [wr_id (n := a * b) (by omega) (by omega), wr_id (n := a * b * c) (by omega) (by omega)]
  exact ⟨rfl, h2⟩
theorem detG_big {a b c d e f : Int} (ha : H5 a) (hb : H5 b) (hc : H5 c) (hd : H5 d) (he : H5 e) (hf : H5 f) : detG a b c d e f = detM a b c d e f ∧ -9000000000000000 ≤ detM a b c d e f ∧ detM a b c d e f ≤ 9000000000000000 := by
  obtain ⟨e1, b1⟩ := h5_mul3 ha hb hc
  obtain ⟨e3, b3⟩ := h5_mul3 ha hd hd
  obtain ⟨e4, b4⟩ := h5_mul3 hb he he
  obtain ⟨e5, b5⟩ := h5_mul3 hc hf hf
  have k1 : -200000 ≤ 2 * d ∧ 2 * d ≤ 200000 := by unfold H5 at hd; omega
  have k2 : -20000000000 ≤ 2 * d * e ∧ 2 * d * e ≤ 20000000000 := mul_bd k1 he
  have k3 : -2000000000000000 ≤ 2 * d * e * f ∧ 2 * d * e * f ≤ 2000000000000000 := mul_bd k2 hf
  have e2 : IntKind.i64.wrap (IntKind.i64.wrap (IntKind.i64.wrap (2 * d) * e) * f) = 2 * d * e * f := by
    rw [wr_id (n := 2 * d) (by omega) (by omega), wr_id (n := 2 * d * e) (by omega) (by omega), wr_id (n := 2 * d * e * f) (by omega) (by omega)]
  unfold detG detM
  rw [e1, e2, e3, e4, e5]
  generalize a * b * c = t1 at *
  generalize 2 * d * e * f = t2 at *
  generalize a * d * d = t3 at *
  generalize b * e * e = t4 at *
  generalize c * f * f = t5 at *
  rw [wr_id (n := t1 + t2) (by omega) (by omega), wr_id (n := t1 + t2 - t3) (by omega) (by omega), wr_id (n := t1 + t2 - t3 - t4) (by omega) (by omega), wr_id (n := t1 + t2 - t3 - t4 - t5) (by omega) (by omega)]
  exact ⟨rfl, by omega, by omega⟩
theorem detR_big {a b c d e f : Int} (ha : H5 a) (hb : H5 b) (hc : H5 c) (hd : H5 d) (he : H5 e) (hf : H5 f) : detR a b c d e f = detM a b c d e f := by
  have p1 := h5_mul hb hc
  have p2 := h5_mul hd hd
  have p3 := h5_mul hd he
  have p4 := h5_mul hf hc
  have p5 := h5_mul hf hd
  have p6 := h5_mul hb he
  have m1 : -(100000 * 20000000000) ≤ a * (b * c - d * d) ∧ a * (b * c - d * d) ≤ 100000 * 20000000000 := mul_bd ha (by omega)
  have m2 : -(100000 * 20000000000) ≤ f * (d * e - f * c) ∧ f * (d * e - f * c) ≤ 100000 * 20000000000 := mul_bd hf (by omega)
  have m3 : -(100000 * 20000000000) ≤ e * (f * d - b * e) ∧ e * (f * d - b * e) ≤ 100000 * 20000000000 := mul_bd he (by omega)
  unfold detR
  rw [wr_id (n := b * c) (by omega) (by omega), wr_id (n := d * d) (by omega) (by omega), wr_id (n := d * e) (by omega) (by omega), wr_id (n := f * c) (by omega) (by omega), wr_id (n := f * d) (by omega) (by omega), wr_id (n := b * e) (by omega) (by omega),
    wr_id (n := b * c - d * d) (by omega) (by omega), wr_id (n := d * e - f * c) (by omega) (by omega), wr_id (n := f * d - b * e) (by omega) (by omega),
    wr_id (n := a * (b * c - d * d)) (by omega) (by omega), wr_id (n := f * (d * e - f * c)) (by omega) (by omega), wr_id (n := e * (f * d - b * e)) (by omega) (by omega)]
  have e1 : a * (b * c - d * d) + f * (d * e - f * c) + e * (f * d - b * e) = detM a b c d e f := by unfold detM; grind
  rw [← e1]
  generalize a * (b * c - d * d) = t1 at *
  generalize f * (d * e - f * c) = t2 at *
  generalize e * (f * d - b * e) = t3 at *
  rw [wr_id (n := 0 + t1) (by omega) (by omega), wr_id (n := 0 + t1 + t2) (by omega) (by omega), wr_id (n := 0 + t1 + t2 + t3) (by omega) (by omega)]
  omega
theorem in_range {a b c d e f : Int} (h : ¬ (low a || (low b || (low c || (far d || (far e || far f))))) = true) : (1 ≤ a ∧ H5 a) ∧ (1 ≤ b ∧ H5 b) ∧ (1 ≤ c ∧ H5 c) ∧ H5 d ∧ H5 e ∧ H5 f := by
  simp only [low, far, Bool.or_eq_true, decide_eq_true_eq, not_or] at h
  unfold H5
  omega
theorem checkR_eq (a b c d e f : Int) : checkR a b c d e f = checkC a b c d e f := by
  unfold checkR checkC
  by_cases h : (low a || (low b || (low c || (far d || (far e || far f))))) = true
  · rw [if_pos h, if_pos h]
  · rw [if_neg h, if_neg h]
    obtain ⟨ha, hb, hc, hd, he, hf⟩ := in_range h
    rw [detR_big ha.2 hb.2 hc.2 hd he hf, (detG_big ha.2 hb.2 hc.2 hd he hf).1]
/-- what a metric that passes has -/
theorem check_spec {a b c d e f : Int} (h : checkC a b c d e f = 0) : (1 ≤ a ∧ H5 a) ∧ (1 ≤ b ∧ H5 b) ∧ (1 ≤ c ∧ H5 c) ∧ H5 d ∧ H5 e ∧ H5 f ∧ 0 < a * b - f * f ∧ 0 < detM a b c d e f := by
  unfold checkC at h
  by_cases hr : (low a || (low b || (low c || (far d || (far e || far f))))) = true
  · rw [if_pos hr] at h; cases h
  · rw [if_neg hr] at h
    obtain ⟨ha, hb, hc, hd, he, hf⟩ := in_range hr
    have p1 := h5_mul ha.2 hb.2
    have p2 := h5_mul hf hf
    rw [(detG_big ha.2 hb.2 hc.2 hd he hf).1, wr_id (n := a * b) (by omega) (by omega), wr_id (n := f * f) (by omega) (by omega), wr_id (n := a * b - f * f) (by omega) (by omega)] at h
    split at h
    · cases h
    · rename_i hn
      simp only [Bool.or_eq_true, decide_eq_true_eq, not_or, Int.not_le] at hn
      exact ⟨ha, hb, hc, hd, he, hf, hn.1, hn.2⟩
def D2 : Sums := D1.add 25 q13
end Go.AM

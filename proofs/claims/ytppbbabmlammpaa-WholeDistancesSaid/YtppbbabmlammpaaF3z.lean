import Derived.Test.YtppbbabmlammpaaF3n
import Derived.Test.YtppbbabmlammpaaF3y
open Go Go.AM Go.Proofs
namespace Go.AM
open Dist
set_option maxRecDepth 10000
theorem val_true {x y : Int} (h : x = y) : (AV.v (PV.one (SV.sb (decide (x = y))))).valOf = some (Value.bool true) := by
  rw [decide_eq_true h]; rfl
theorem no_of_eq {x y : Int} {p : Prop} (h : x = y) (hd : (!decide (x = y)) = true) : p := by simp [h] at hd
theorem law3 (a b c d e f g h i k x1 x2 x3 y1 y2 y3 : Int) (hk : 0 ≤ k) : call P G9 noAnn 1000 Try.f3 [.v (.agg [.sym .i8 a, .sym .i8 b, .sym .i8 c, .sym .i8 d, .sym .i8 e, .sym .i8 f, .sym .i8 g, .sym .i8 h, .sym .i8 i]), .v (.one (.sym .u8 k)), V16 x1 x2 x3, V16 y1 y2 y3] [] (fun v h => v.valOf = some (.bool true) ∧ h = []) := by
  rw [nf3]
  obtain ⟨hk0, hr⟩ := parts_eq hk
  have hm : 24 ≤ shI .shl .i64 24 (k.tmod 4) ∧ shI .shl .i64 24 (k.tmod 4) ≤ 192 := right_bd hr
  have ha := ent12 a
  have hb := ent12 b
  have hc := ent12 c
  have hd := ent12 d
  have he := ent12 e
  have hf := ent12 f
  have hg := ent12 g
  have hh := ent12 h
  have hi := ent12 i
  rw [det9_eq ha hb hc hd he hf hg hh hi]
  have X1 : 0 ≤ modF (IntKind.i64.wrap x1) (shI .shl .i64 24 (k.tmod 4)) ∧ modF (IntKind.i64.wrap x1) (shI .shl .i64 24 (k.tmod 4)) < shI .shl .i64 24 (k.tmod 4) := modF_in hm
  have X2 : 0 ≤ modF (IntKind.i64.wrap x2) (shI .shl .i64 24 (k.tmod 4)) ∧ modF (IntKind.i64.wrap x2) (shI .shl .i64 24 (k.tmod 4)) < shI .shl .i64 24 (k.tmod 4) := modF_in hm
  have X3 : 0 ≤ modF (IntKind.i64.wrap x3) (shI .shl .i64 24 (k.tmod 4)) ∧ modF (IntKind.i64.wrap x3) (shI .shl .i64 24 (k.tmod 4)) < shI .shl .i64 24 (k.tmod 4) := modF_in hm
  have Y1 : 0 ≤ modF (IntKind.i64.wrap y1) (shI .shl .i64 24 (k.tmod 4)) ∧ modF (IntKind.i64.wrap y1) (shI .shl .i64 24 (k.tmod 4)) < shI .shl .i64 24 (k.tmod 4) := modF_in hm
  have Y2 : 0 ≤ modF (IntKind.i64.wrap y2) (shI .shl .i64 24 (k.tmod 4)) ∧ modF (IntKind.i64.wrap y2) (shI .shl .i64 24 (k.tmod 4)) < shI .shl .i64 24 (k.tmod 4) := modF_in hm
  have Y3 : 0 ≤ modF (IntKind.i64.wrap y3) (shI .shl .i64 24 (k.tmod 4)) ∧ modF (IntKind.i64.wrap y3) (shI .shl .i64 24 (k.tmod 4)) < shI .shl .i64 24 (k.tmod 4) := modF_in hm
  have hAA : G363 (dot3 (e12 a) (e12 a) (e12 d) (e12 d) (e12 g) (e12 g)) := by have := dot3_eq ha ha hd hd hg hg; rw [this.1]; exact this.2
  have hAB : G363 (dot3 (e12 a) (e12 b) (e12 d) (e12 e) (e12 g) (e12 h)) := by have := dot3_eq ha hb hd he hg hh; rw [this.1]; exact this.2
  have hAC : G363 (dot3 (e12 a) (e12 c) (e12 d) (e12 f) (e12 g) (e12 i)) := by have := dot3_eq ha hc hd hf hg hi; rw [this.1]; exact this.2
  have hBB : G363 (dot3 (e12 b) (e12 b) (e12 e) (e12 e) (e12 h) (e12 h)) := by have := dot3_eq hb hb he he hh hh; rw [this.1]; exact this.2
  have hBC : G363 (dot3 (e12 b) (e12 c) (e12 e) (e12 f) (e12 h) (e12 i)) := by have := dot3_eq hb hc he hf hh hi; rw [this.1]; exact this.2
  have hCC : G363 (dot3 (e12 c) (e12 c) (e12 f) (e12 f) (e12 i) (e12 i)) := by have := dot3_eq hc hc hf hf hi hi; rw [this.1]; exact this.2
  refine ⟨fun _ => ⟨rfl, rfl⟩, fun hdet => ?_⟩
  have h0 : det0 (e12 a) (e12 b) (e12 c) (e12 d) (e12 e) (e12 f) (e12 g) (e12 h) (e12 i) ≠ 0 := by simpa using hdet
  have hchk := check_ok ha hb hc hd he hf hg hh hi h0
  have hn := gram_norm ha hb hc hd he hf hg hh hi h0
  have g1 := dist_nn (p1 := modF (IntKind.i64.wrap x1) (shI .shl .i64 24 (k.tmod 4))) (p2 := modF (IntKind.i64.wrap x2) (shI .shl .i64 24 (k.tmod 4))) (p3 := modF (IntKind.i64.wrap x3) (shI .shl .i64 24 (k.tmod 4))) (q1 := modF (IntKind.i64.wrap y1) (shI .shl .i64 24 (k.tmod 4))) (q2 := modF (IntKind.i64.wrap y2) (shI .shl .i64 24 (k.tmod 4))) (q3 := modF (IntKind.i64.wrap y3) (shI .shl .i64 24 (k.tmod 4))) hm hn
  have g2 := dist_nn (q1 := modF (IntKind.i64.wrap x1) (shI .shl .i64 24 (k.tmod 4))) (q2 := modF (IntKind.i64.wrap x2) (shI .shl .i64 24 (k.tmod 4))) (q3 := modF (IntKind.i64.wrap x3) (shI .shl .i64 24 (k.tmod 4))) (p1 := modF (IntKind.i64.wrap y1) (shI .shl .i64 24 (k.tmod 4))) (p2 := modF (IntKind.i64.wrap y2) (shI .shl .i64 24 (k.tmod 4))) (p3 := modF (IntKind.i64.wrap y3) (shI .shl .i64 24 (k.tmod 4))) hm hn
  have g3 := dist_le (p1 := modF (IntKind.i64.wrap x1) (shI .shl .i64 24 (k.tmod 4))) (p2 := modF (IntKind.i64.wrap x2) (shI .shl .i64 24 (k.tmod 4))) (p3 := modF (IntKind.i64.wrap x3) (shI .shl .i64 24 (k.tmod 4))) (q1 := modF (IntKind.i64.wrap y1) (shI .shl .i64 24 (k.tmod 4))) (q2 := modF (IntKind.i64.wrap y2) (shI .shl .i64 24 (k.tmod 4))) (q3 := modF (IntKind.i64.wrap y3) (shI .shl .i64 24 (k.tmod 4))) hm hn
  have g4 := dist_zero hm hn X1 X2 X3 Y1 Y2 Y3
  have g5 := dist_sym hm hn X1 X2 X3 Y1 Y2 Y3
  have g6 := (dist_zero hm hn X1 X2 X3 X1 X2 X3).2 ⟨rfl, rfl, rfl⟩
  simp only [zb_id]
  have hb1 := bad10_ok hr X1 X2 X3 Y1 Y2 Y3
  have hb2 := bad10_ok hr Y1 Y2 Y3 X1 X2 X3
  have hb3 := bad10_ok hr X1 X2 X3 X1 X2 X3
  have hov : over3 (modF (IntKind.i64.wrap (modF (IntKind.i64.wrap x1) (shI .shl .i64 24 (k.tmod 4)) - modF (IntKind.i64.wrap y1) (shI .shl .i64 24 (k.tmod 4)))) (shI .shl .i64 24 (k.tmod 4)))
      (modF (IntKind.i64.wrap (modF (IntKind.i64.wrap x2) (shI .shl .i64 24 (k.tmod 4)) - modF (IntKind.i64.wrap y2) (shI .shl .i64 24 (k.tmod 4)))) (shI .shl .i64 24 (k.tmod 4)))
      (modF (IntKind.i64.wrap (modF (IntKind.i64.wrap x3) (shI .shl .i64 24 (k.tmod 4)) - modF (IntKind.i64.wrap y3) (shI .shl .i64 24 (k.tmod 4)))) (shI .shl .i64 24 (k.tmod 4))) = false := over3_ok hm (modF_in hm) (modF_in hm) (modF_in hm)
  refine ⟨hk0, hr, hk0, hr, ⟨hchk, hb1⟩, ⟨hchk, hb2⟩, ⟨hchk, hb3⟩, hchk, ?_⟩
  refine ⟨fun hx => no_of_eq (unit_eq hAA hAB hAC hAB hBB hBC hAC hBC hCC p1 p0 p0 p1 p0 p0 (by simp)) hx, fun _ => ?_⟩
  refine ⟨fun hx => no_of_eq (unit_eq hAA hAB hAC hAB hBB hBC hAC hBC hCC p1 p0 p0 p0 p1 p0 (by simp)) hx, fun _ => ?_⟩
  refine ⟨fun hx => no_of_eq (unit_eq hAA hAB hAC hAB hBB hBC hAC hBC hCC p1 p0 p0 p0 p0 p1 (by simp)) hx, fun _ => ?_⟩
  refine ⟨fun hx => no_of_eq (unit_eq hAA hAB hAC hAB hBB hBC hAC hBC hCC p0 p1 p0 p1 p0 p0 (by simp)) hx, fun _ => ?_⟩
  refine ⟨fun hx => no_of_eq (unit_eq hAA hAB hAC hAB hBB hBC hAC hBC hCC p0 p1 p0 p0 p1 p0 (by simp)) hx, fun _ => ?_⟩
  refine ⟨fun hx => no_of_eq (unit_eq hAA hAB hAC hAB hBB hBC hAC hBC hCC p0 p1 p0 p0 p0 p1 (by simp)) hx, fun _ => ?_⟩
  refine ⟨fun hx => no_of_eq (unit_eq hAA hAB hAC hAB hBB hBC hAC hBC hCC p0 p0 p1 p1 p0 p0 (by simp)) hx, fun _ => ?_⟩
  refine ⟨fun hx => no_of_eq (unit_eq hAA hAB hAC hAB hBB hBC hAC hBC hCC p0 p0 p1 p0 p1 p0 (by simp)) hx, fun _ => ?_⟩
  refine ⟨fun hx => no_of_eq (unit_eq hAA hAB hAC hAB hBB hBC hAC hBC hCC p0 p0 p1 p0 p0 p1 (by simp)) hx, fun _ => ?_⟩
  refine ⟨hb1, ⟨hchk, hov, hov⟩, ?_⟩
  refine ⟨fun hx => no_of_eq g6 hx, fun _ => ?_⟩
  refine ⟨fun _ => ?_, fun hx => absurd hx (by rw [decide_eq_false_iff_not]; exact not_not_intro g1)⟩
  refine ⟨fun _ => ?_, fun hx => absurd hx (by rw [decide_eq_false_iff_not]; exact not_not_intro g2)⟩
  refine ⟨fun _ => ?_, fun hx => absurd hx (by rw [decide_eq_false_iff_not]; exact not_not_intro g3)⟩
  refine ⟨fun _ => ?_, fun hx => absurd hx ?_⟩
  · exact ⟨val_true g5, trivial⟩
  · have g7 : decide (dist (gramLen (e12 a) (e12 b) (e12 c) (e12 d) (e12 e) (e12 f) (e12 g) (e12 h) (e12 i)) (shI .shl .i64 24 (k.tmod 4)) (modF (IntKind.i64.wrap x1) (shI .shl .i64 24 (k.tmod 4))) (modF (IntKind.i64.wrap x2) (shI .shl .i64 24 (k.tmod 4))) (modF (IntKind.i64.wrap x3) (shI .shl .i64 24 (k.tmod 4))) (modF (IntKind.i64.wrap y1) (shI .shl .i64 24 (k.tmod 4))) (modF (IntKind.i64.wrap y2) (shI .shl .i64 24 (k.tmod 4))) (modF (IntKind.i64.wrap y3) (shI .shl .i64 24 (k.tmod 4))) = 0) = (decide (modF (IntKind.i64.wrap x1) (shI .shl .i64 24 (k.tmod 4)) = modF (IntKind.i64.wrap y1) (shI .shl .i64 24 (k.tmod 4))) && (decide (modF (IntKind.i64.wrap x2) (shI .shl .i64 24 (k.tmod 4)) = modF (IntKind.i64.wrap y2) (shI .shl .i64 24 (k.tmod 4))) && decide (modF (IntKind.i64.wrap x3) (shI .shl .i64 24 (k.tmod 4)) = modF (IntKind.i64.wrap y3) (shI .shl .i64 24 (k.tmod 4))))) := by
      rw [Bool.eq_iff_iff]
      simp only [Bool.and_eq_true, decide_eq_true_eq]
      exact g4
    have g8 : ∀ t u v w z : Bool, t = true → u = (v && (w && z)) → ¬ ((u == (t && (v && (w && (z && true))) && true)) = false) := by decide
    exact g8 _ _ _ _ _ (decide_eq_true trivial) g7
end Go.AM

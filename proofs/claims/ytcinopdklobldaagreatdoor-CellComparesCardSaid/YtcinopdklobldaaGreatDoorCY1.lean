import Derived.Test.YtcinopdklobldaaGreatDoorCY0
import Derived.Test.YtcinopdklobldaaGreatDoorCW8
import Derived.Test.YtcinopdklobldaaGreatDoorCP0
open Go Go.AM Go.Proofs
namespace Go.AM
open Dist
set_option maxRecDepth 100000
theorem inR_of {x : Int} (h : (Lit.int .i64 x).wf = true) : InR x := by
  have h : decide (IntKind.i64.min ≤ x) && decide (x ≤ IntKind.i64.max) := h
  simp only [Bool.and_eq_true, decide_eq_true_eq] at h
  exact ⟨by have := h.1; rw [show IntKind.i64.min = -9223372036854775808 by decide] at this; exact this, by have := h.2; rw [show IntKind.i64.max = 9223372036854775807 by decide] at this; exact this⟩
theorem inR2 {a b : Int} (h : intsWf [.i64, .i64] [a, b]) : InR a ∧ InR b := ⟨inR_of h.1, inR_of h.2.1⟩
theorem oF1 : OkS P F1 := (((⟨okD6, soD6, smD6⟩ : OkS P D6).add fine hcCompare).add1 fine oD2o hcDocCmp)
theorem okF1 : PureOk Tryz.prog F1 := oF1.pure
theorem soF1 : SpecOk Tryz.prog F1 := oF1.spec
theorem smF1 : SpecMono F1 := oF1.mono
theorem nflawcmp (a b c d : Int) (K : KV) : call P F1 noAnn 3000 Tryz.f6 [.v (.agg [.sym .i64 a, .sym .i64 b]), .v (.agg [.sym .i64 c, .sym .i64 d])] [] K = (((((-9223372036854775808 : Int) ≤ a ∧ a ≤ (9223372036854775807 : Int)) ∧ (-9223372036854775808 : Int) ≤ b ∧ b ≤ (9223372036854775807 : Int)) ∧ ((-9223372036854775808 : Int) ≤ c ∧ c ≤ (9223372036854775807 : Int)) ∧ (-9223372036854775808 : Int) ≤ d ∧ d ≤ (9223372036854775807 : Int)) ∧ ((((-9223372036854775808 : Int) ≤ a ∧ a ≤ (9223372036854775807 : Int)) ∧ (-9223372036854775808 : Int) ≤ b ∧ b ≤ (9223372036854775807 : Int)) ∧ ((-9223372036854775808 : Int) ≤ c ∧ c ≤ (9223372036854775807 : Int)) ∧ (-9223372036854775808 : Int) ≤ d ∧ d ≤ (9223372036854775807 : Int)) ∧ (decide (Dist.ratC a b c d = Dist.ratC a b c d) = true → K (AV.v (PV.one (SV.sb (decide (Dist.ratE a b c d = Dist.ratE a b c d))))) []) ∧ (decide (Dist.ratC a b c d = Dist.ratC a b c d) = false → K (AV.v (PV.one (SV.cb false))) [])) := by kernel_rfl
theorem nflawtot (a b c d e f : Int) (K : KV) : call P F1 noAnn 3000 Tryz.f9 [.v (.agg [.sym .i64 a, .sym .i64 b]), .v (.agg [.sym .i64 c, .sym .i64 d]), .v (.agg [.sym .i64 e, .sym .i64 f])] [] K = (((((-9223372036854775808 : Int) ≤ a ∧ a ≤ (9223372036854775807 : Int)) ∧ (-9223372036854775808 : Int) ≤ b ∧ b ≤ (9223372036854775807 : Int)) ∧ ((-9223372036854775808 : Int) ≤ c ∧ c ≤ (9223372036854775807 : Int)) ∧ (-9223372036854775808 : Int) ≤ d ∧ d ≤ (9223372036854775807 : Int)) ∧ ((((-9223372036854775808 : Int) ≤ c ∧ c ≤ (9223372036854775807 : Int)) ∧ (-9223372036854775808 : Int) ≤ d ∧ d ≤ (9223372036854775807 : Int)) ∧ ((-9223372036854775808 : Int) ≤ e ∧ e ≤ (9223372036854775807 : Int)) ∧ (-9223372036854775808 : Int) ≤ f ∧ f ≤ (9223372036854775807 : Int)) ∧ ((((-9223372036854775808 : Int) ≤ a ∧ a ≤ (9223372036854775807 : Int)) ∧ (-9223372036854775808 : Int) ≤ b ∧ b ≤ (9223372036854775807 : Int)) ∧ ((-9223372036854775808 : Int) ≤ e ∧ e ≤ (9223372036854775807 : Int)) ∧ (-9223372036854775808 : Int) ≤ f ∧ f ≤ (9223372036854775807 : Int)) ∧ ((((-9223372036854775808 : Int) ≤ c ∧ c ≤ (9223372036854775807 : Int)) ∧ (-9223372036854775808 : Int) ≤ d ∧ d ≤ (9223372036854775807 : Int)) ∧ ((-9223372036854775808 : Int) ≤ a ∧ a ≤ (9223372036854775807 : Int)) ∧ (-9223372036854775808 : Int) ≤ b ∧ b ≤ (9223372036854775807 : Int)) ∧ ((!decide (Dist.ratE a b c d = Dist.ratE c d a b)) = true → K (AV.v (PV.one (SV.cb false))) []) ∧ ((!decide (Dist.ratE a b c d = Dist.ratE c d a b)) = false → ((!decide (Dist.ratC a b c d = IntKind.i64.wrap ((0 : Int) - Dist.ratC c d a b))) = true → K (AV.v (PV.one (SV.cb false))) []) ∧ ((!decide (Dist.ratC a b c d = IntKind.i64.wrap ((0 : Int) - Dist.ratC c d a b))) = false → ((!decide (Dist.ratE a b c d = (0 : Int))) = true → K (AV.v (PV.one (SV.cb true))) []) ∧ ((!decide (Dist.ratE a b c d = (0 : Int))) = false → ((!decide (Dist.ratE c d e f = (0 : Int))) = true → K (AV.v (PV.one (SV.cb true))) []) ∧ ((!decide (Dist.ratE c d e f = (0 : Int))) = false → ((!decide (Dist.ratE a b e f = (0 : Int))) = true → K (AV.v (PV.one (SV.cb true))) []) ∧ ((!decide (Dist.ratE a b e f = (0 : Int))) = false → ((decide (Dist.ratC a b c d = (0 : Int)) == (decide (a = c) && (decide (b = d) && true))) = true → (decide (Dist.ratC a b c d ≤ (0 : Int)) = true → (decide (Dist.ratC c d e f ≤ (0 : Int)) = true → ((!decide ((0 : Int) < Dist.ratC a b e f)) = true → (decide (Dist.ratC a b c d < (0 : Int)) = true → (decide (Dist.ratC c d e f ≤ (0 : Int)) = true → K (AV.v (PV.one (SV.sb !decide ((0 : Int) ≤ Dist.ratC a b e f)))) []) ∧ (decide (Dist.ratC c d e f ≤ (0 : Int)) = false → K (AV.v (PV.one (SV.cb !false))) [])) ∧ (decide (Dist.ratC a b c d < (0 : Int)) = false → K (AV.v (PV.one (SV.cb !false))) [])) ∧ ((!decide ((0 : Int) < Dist.ratC a b e f)) = false → K (AV.v (PV.one (SV.cb false))) [])) ∧ (decide (Dist.ratC c d e f ≤ (0 : Int)) = false → (decide (Dist.ratC a b c d < (0 : Int)) = true → (decide (Dist.ratC c d e f ≤ (0 : Int)) = true → K (AV.v (PV.one (SV.sb !decide ((0 : Int) ≤ Dist.ratC a b e f)))) []) ∧ (decide (Dist.ratC c d e f ≤ (0 : Int)) = false → K (AV.v (PV.one (SV.cb !false))) [])) ∧ (decide (Dist.ratC a b c d < (0 : Int)) = false → K (AV.v (PV.one (SV.cb !false))) []))) ∧ (decide (Dist.ratC a b c d ≤ (0 : Int)) = false → (decide (Dist.ratC a b c d < (0 : Int)) = true → (decide (Dist.ratC c d e f ≤ (0 : Int)) = true → K (AV.v (PV.one (SV.sb !decide ((0 : Int) ≤ Dist.ratC a b e f)))) []) ∧ (decide (Dist.ratC c d e f ≤ (0 : Int)) = false → K (AV.v (PV.one (SV.cb !false))) [])) ∧ (decide (Dist.ratC a b c d < (0 : Int)) = false → K (AV.v (PV.one (SV.cb !false))) []))) ∧ ((decide (Dist.ratC a b c d = (0 : Int)) == (decide (a = c) && (decide (b = d) && true))) = false → K (AV.v (PV.one (SV.cb false))) []))))))) := by kernel_rfl
theorem lawCompares (a b c d : Int) (w0 : intsWf [.i64, .i64] [a, b]) (w1 : intsWf [.i64, .i64] [c, d]) : LawS F1 3000 Tryz.f6 [.v (.agg [.sym .i64 a, .sym .i64 b]), .v (.agg [.sym .i64 c, .sym .i64 d])] := by
  constructor
  rw [nflawcmp]
  have h0 := inR2 w0
  have h1 := inR2 w1
  exact ⟨⟨h0, h1⟩, ⟨h0, h1⟩, fun _ => ⟨by rw [decide_eq_true rfl]; rfl, rfl⟩, fun h => by simp at h⟩
theorem ratC_bd (a b c d : Int) : -1 ≤ ratC a b c d ∧ ratC a b c d ≤ 1 := by
  unfold ratC; split
  · exact sgn_bd _
  · omega
theorem lawTotal (a b c d e f : Int) (w0 : intsWf [.i64, .i64] [a, b]) (w1 : intsWf [.i64, .i64] [c, d]) (w2 : intsWf [.i64, .i64] [e, f]) : LawS F1 3000 Tryz.f9 [.v (.agg [.sym .i64 a, .sym .i64 b]), .v (.agg [.sym .i64 c, .sym .i64 d]), .v (.agg [.sym .i64 e, .sym .i64 f])] := by
  constructor
  rw [nflawtot]
  have h0 := inR2 w0
  have h1 := inR2 w1
  have h2 := inR2 w2
  have bd := ratC_bd c d a b
  have yes : ∀ {b : Bool}, b = true → (AV.v (PV.one (SV.sb b))).valOf = some (Value.bool true) ∧ ([] : Heap) = [] := fun h => by subst h; exact ⟨rfl, rfl⟩
  refine ⟨⟨h0, h1⟩, ⟨h1, h2⟩, ⟨h0, h2⟩, ⟨h1, h0⟩, fun h => no_of (ratE_comm a b c d) h, fun _ => ⟨fun h => no_of (by rw [wr_i64 (by omega) (by omega), ratC_neg]; omega) h, fun _ => ⟨fun _ => ⟨rfl, rfl⟩, fun k1 => ⟨fun _ => ⟨rfl, rfl⟩, fun k2 => ⟨fun _ => ⟨rfl, rfl⟩, fun k3 => ?_⟩⟩⟩⟩⟩
  have k1 : ratE a b c d = 0 := by simpa using k1
  have k2 : ratE c d e f = 0 := by simpa using k2
  have ez := ratC_zero k1
  have et : ratC a b c d ≤ 0 → ratC c d e f ≤ 0 → ratC a b e f ≤ 0 := ratC_trans k1 k2
  have el : ratC a b c d < 0 → ratC c d e f ≤ 0 → ratC a b e f < 0 := ratC_transl k1 k2
  have eq : (decide (ratC a b c d = 0) == (decide (a = c) && (decide (b = d) && true))) = true := by
    by_cases h : ratC a b c d = 0
    · obtain ⟨e1, e2⟩ := ez.1 h
      rw [decide_eq_true h, decide_eq_true e1, decide_eq_true e2]; rfl
    · rw [decide_eq_false h]
      by_cases e1 : a = c
      · by_cases e2 : b = d
        · exact absurd (ez.2 ⟨e1, e2⟩) h
        · rw [decide_eq_false e2, Bool.false_and, Bool.and_false]; rfl
      · rw [decide_eq_false e1, Bool.false_and]; rfl
  have fin : decide (ratC a b c d < 0) = true → decide (ratC c d e f ≤ 0) = true → (!decide (0 ≤ ratC a b e f)) = true := fun h k => by
    have := el (by simpa using h) (by simpa using k)
    rw [decide_eq_false (by omega)]; rfl
  refine ⟨fun _ => ⟨fun hp => ⟨fun hq => ⟨fun _ => ⟨fun h => ⟨fun k => yes (fin h k), fun _ => ⟨rfl, rfl⟩⟩, fun _ => ⟨rfl, rfl⟩⟩, fun h => ?_⟩, fun _ => ⟨fun h => ⟨fun k => yes (fin h k), fun _ => ⟨rfl, rfl⟩⟩, fun _ => ⟨rfl, rfl⟩⟩⟩, fun _ => ⟨fun h => ⟨fun k => yes (fin h k), fun _ => ⟨rfl, rfl⟩⟩, fun _ => ⟨rfl, rfl⟩⟩⟩, fun h => ?_⟩
  · have hr := et (by simpa using hp) (by simpa using hq)
    have h : 0 < ratC a b e f := by simpa using h
    omega
  · rw [eq] at h; cases h
end Go.AM

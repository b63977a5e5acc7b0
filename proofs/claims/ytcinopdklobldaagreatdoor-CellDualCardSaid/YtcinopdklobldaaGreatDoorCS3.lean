import Derived.Test.YtcinopdklobldaaGreatDoorCS2
open Go Go.AM Go.Proofs
namespace Go.AM
open Dist
set_option maxRecDepth 100000
theorem nfdocsp (a b c d e f x y z : Int) (K : KV) : call P D9 noAnn 3000 Tryz.f20 [M6 a b c d e f, V x y z] [] K = (((beyond x (512 : Int) || (beyond y (512 : Int) || beyond z (512 : Int))) = true → K (AV.tup [PV.agg [SV.con IntKind.i64 (0 : Int), SV.con IntKind.i64 (0 : Int)], PV.one (SV.con IntKind.i64 (Int.ofNat (nat_lit 0 + (1 : Nat))))]) []) ∧ ((beyond x (512 : Int) || (beyond y (512 : Int) || beyond z (512 : Int))) = false → ((!decide (checkR a b c d e f = (0 : Int))) = true → K (AV.tup [PV.agg [SV.con IntKind.i64 (0 : Int), SV.con IntKind.i64 (0 : Int)], PV.one (SV.sym IntKind.i64 (checkR a b c d e f))]) []) ∧ ((!decide (checkR a b c d e f = (0 : Int))) = false → (Dist.euc (prod9 (IntKind.i64.wrap (IntKind.i64.wrap (b * c) - IntKind.i64.wrap (d * d))) (IntKind.i64.wrap (IntKind.i64.wrap (d * e) - IntKind.i64.wrap (c * f))) (IntKind.i64.wrap (IntKind.i64.wrap (f * d) - IntKind.i64.wrap (e * b))) (IntKind.i64.wrap (IntKind.i64.wrap (d * e) - IntKind.i64.wrap (f * c))) (IntKind.i64.wrap (IntKind.i64.wrap (c * a) - IntKind.i64.wrap (e * e))) (IntKind.i64.wrap (IntKind.i64.wrap (e * f) - IntKind.i64.wrap (a * d))) (IntKind.i64.wrap (IntKind.i64.wrap (f * d) - IntKind.i64.wrap (b * e))) (IntKind.i64.wrap (IntKind.i64.wrap (e * f) - IntKind.i64.wrap (d * a))) (IntKind.i64.wrap (IntKind.i64.wrap (a * b) - IntKind.i64.wrap (f * f))) x y z x y z) (detR a b c d e f) = (0 : Int) → False) ∧ K (AV.tup [PV.agg [SV.sym IntKind.i64 (IntKind.i64.wrap ((prod9 (IntKind.i64.wrap (IntKind.i64.wrap (b * c) - IntKind.i64.wrap (d * d))) (IntKind.i64.wrap (IntKind.i64.wrap (d * e) - IntKind.i64.wrap (c * f))) (IntKind.i64.wrap (IntKind.i64.wrap (f * d) - IntKind.i64.wrap (e * b))) (IntKind.i64.wrap (IntKind.i64.wrap (d * e) - IntKind.i64.wrap (f * c))) (IntKind.i64.wrap (IntKind.i64.wrap (c * a) - IntKind.i64.wrap (e * e))) (IntKind.i64.wrap (IntKind.i64.wrap (e * f) - IntKind.i64.wrap (a * d))) (IntKind.i64.wrap (IntKind.i64.wrap (f * d) - IntKind.i64.wrap (b * e))) (IntKind.i64.wrap (IntKind.i64.wrap (e * f) - IntKind.i64.wrap (d * a))) (IntKind.i64.wrap (IntKind.i64.wrap (a * b) - IntKind.i64.wrap (f * f))) x y z x y z).tdiv (Dist.euc (prod9 (IntKind.i64.wrap (IntKind.i64.wrap (b * c) - IntKind.i64.wrap (d * d))) (IntKind.i64.wrap (IntKind.i64.wrap (d * e) - IntKind.i64.wrap (c * f))) (IntKind.i64.wrap (IntKind.i64.wrap (f * d) - IntKind.i64.wrap (e * b))) (IntKind.i64.wrap (IntKind.i64.wrap (d * e) - IntKind.i64.wrap (f * c))) (IntKind.i64.wrap (IntKind.i64.wrap (c * a) - IntKind.i64.wrap (e * e))) (IntKind.i64.wrap (IntKind.i64.wrap (e * f) - IntKind.i64.wrap (a * d))) (IntKind.i64.wrap (IntKind.i64.wrap (f * d) - IntKind.i64.wrap (b * e))) (IntKind.i64.wrap (IntKind.i64.wrap (e * f) - IntKind.i64.wrap (d * a))) (IntKind.i64.wrap (IntKind.i64.wrap (a * b) - IntKind.i64.wrap (f * f))) x y z x y z) (detR a b c d e f)))), SV.sym IntKind.i64 (IntKind.i64.wrap ((detR a b c d e f).tdiv (Dist.euc (prod9 (IntKind.i64.wrap (IntKind.i64.wrap (b * c) - IntKind.i64.wrap (d * d))) (IntKind.i64.wrap (IntKind.i64.wrap (d * e) - IntKind.i64.wrap (c * f))) (IntKind.i64.wrap (IntKind.i64.wrap (f * d) - IntKind.i64.wrap (e * b))) (IntKind.i64.wrap (IntKind.i64.wrap (d * e) - IntKind.i64.wrap (f * c))) (IntKind.i64.wrap (IntKind.i64.wrap (c * a) - IntKind.i64.wrap (e * e))) (IntKind.i64.wrap (IntKind.i64.wrap (e * f) - IntKind.i64.wrap (a * d))) (IntKind.i64.wrap (IntKind.i64.wrap (f * d) - IntKind.i64.wrap (b * e))) (IntKind.i64.wrap (IntKind.i64.wrap (e * f) - IntKind.i64.wrap (d * a))) (IntKind.i64.wrap (IntKind.i64.wrap (a * b) - IntKind.i64.wrap (f * f))) x y z x y z) (detR a b c d e f))))], PV.one (SV.con IntKind.i64 (0 : Int))]) []))) := by kernel_rfl
theorem hcDocSp : Holds P D9 20 qSpacing := by
  refine holds_okA (fn := Tryz.f20) noAnn 3000 rfl (by kernel_rfl) (by kernel_rfl) fun args av hg => ?_
  unfold qSpacing at hg
  split at hg
  · rename_i a b c d e f x y z
    rw [gives_ok hg]
    refine ⟨rfl, _, rfl, ?_⟩
    rw [nfdocsp, checkR_eq]
    have hB : ∀ {p : Int → Prop}, p (spA a b c d e f x y z) → p (spB a b c d e f x y z) := fun h => by rw [spB_eq]; exact h
    refine ⟨fun h => ?_, fun h => ⟨fun h1 => ?_, fun h1 => ?_⟩⟩
    · have e1 : spE a b c d e f x y z = 1 := if_pos h
      unfold spN spD
      rw [e1]
      exact ⟨rfl, rfl⟩
    · have e1 : spE a b c d e f x y z = checkC a b c d e f := if_neg (by show ¬ over512 x y z = true; intro k; exact absurd (h.symm.trans k) (by decide))
      have h1 : ¬ checkC a b c d e f = 0 := by simpa using h1
      unfold spN spD
      rw [e1, if_neg h1, if_neg h1]
      exact ⟨rfl, rfl⟩
    · have e1 : spE a b c d e f x y z = checkC a b c d e f := if_neg (by show ¬ over512 x y z = true; intro k; exact absurd (h.symm.trans k) (by decide))
      have h1 : checkC a b c d e f = 0 := by simpa using h1
      obtain ⟨ha, hb, hc, hd, he, hf, _⟩ := check_spec h1
      have e2 : detR a b c d e f = detG a b c d e f := by rw [detR_big ha.2 hb.2 hc.2 hd he hf, (detG_big ha.2 hb.2 hc.2 hd he hf).1]
      rw [e2]
      refine hB (p := fun s => (euc s (detG a b c d e f) = 0 → False) ∧ (AV.tup [PV.agg [SV.sym IntKind.i64 (IntKind.i64.wrap (s.tdiv (euc s (detG a b c d e f)))), SV.sym IntKind.i64 (IntKind.i64.wrap ((detG a b c d e f).tdiv (euc s (detG a b c d e f))))], PV.one (SV.con IntKind.i64 (0 : Int))]).valOf = _ ∧ ([] : Heap) = []) ?_
      have h2 := euc_pos (a := spA a b c d e f x y z) (detG_pos h1)
      unfold spN spD
      rw [e1, h1, if_pos rfl, if_pos rfl]
      exact ⟨fun k => by omega, rfl, rfl⟩
  · exact (gives_fail hg).elim
def D10 : Sums := D9.add 20 qSpacing
end Go.AM

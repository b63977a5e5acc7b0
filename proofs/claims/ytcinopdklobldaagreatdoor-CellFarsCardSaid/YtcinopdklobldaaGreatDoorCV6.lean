import Derived.Test.YtcinopdklobldaaGreatDoorCV5
import Derived.Test.YtcinopdklobldaaGreatDoorAMHold
open Go Go.AM Go.Proofs
namespace Go.AM
set_option maxRecDepth 100000
theorem nffar22 (a b c d e f m p1 p2 p3 n q1 q2 q3 : Int) (K : KV) : call P D6 noAnn 22 Tryz.f21 [M6 a b c d e f, Pt m p1 p2 p3, Pt n q1 q2 q3] [] K = (((!decide (bad10 m p1 p2 p3 n q1 q2 q3 = (0 : Int))) = true → (decide (checkC a b c d e f = (0 : Int)) = true → ((!decide (bad10 m p1 p2 p3 n q1 q2 q3 = (0 : Int))) = true → K (AV.tup [PV.one (SV.con IntKind.i64 (0 : Int)), PV.one (SV.sym IntKind.i64 (bad10 m p1 p2 p3 n q1 q2 q3))]) []) ∧ ((!decide (bad10 m p1 p2 p3 n q1 q2 q3 = (0 : Int))) = false → False)) ∧ (decide (checkC a b c d e f = (0 : Int)) = false → (decide (bad10 m p1 p2 p3 n q1 q2 q3 < checkC a b c d e f) = true → ((!decide (bad10 m p1 p2 p3 n q1 q2 q3 = (0 : Int))) = true → K (AV.tup [PV.one (SV.con IntKind.i64 (0 : Int)), PV.one (SV.sym IntKind.i64 (bad10 m p1 p2 p3 n q1 q2 q3))]) []) ∧ ((!decide (bad10 m p1 p2 p3 n q1 q2 q3 = (0 : Int))) = false → False)) ∧ (decide (bad10 m p1 p2 p3 n q1 q2 q3 < checkC a b c d e f) = false → ((!decide (checkC a b c d e f = (0 : Int))) = true → K (AV.tup [PV.one (SV.con IntKind.i64 (0 : Int)), PV.one (SV.sym IntKind.i64 (checkC a b c d e f))]) []) ∧ ((!decide (checkC a b c d e f = (0 : Int))) = false → False)))) ∧ ((!decide (bad10 m p1 p2 p3 n q1 q2 q3 = (0 : Int))) = false → ((!decide (checkC a b c d e f = (0 : Int))) = true → K (AV.tup [PV.one (SV.con IntKind.i64 (0 : Int)), PV.one (SV.sym IntKind.i64 (checkC a b c d e f))]) []) ∧ ((!decide (checkC a b c d e f = (0 : Int))) = false → False))) := by kernel_rfl
theorem nfdocfe18 (a b c d e f m p1 p2 p3 n q1 q2 q3 : Int) (K : KV) : call P E4 noAnn 18 Tryz.f22 [M6 a b c d e f, Pt m p1 p2 p3, Pt n q1 q2 q3] [] K = (((!decide (Dist.leastI (checkR a b c d e f) (bad10 m p1 p2 p3 n q1 q2 q3) = (0 : Int))) = true → K (AV.tup [PV.one (SV.con IntKind.i64 (0 : Int)), PV.one (SV.sym IntKind.i64 (Dist.leastI (checkR a b c d e f) (bad10 m p1 p2 p3 n q1 q2 q3)))]) []) ∧ ((!decide (Dist.leastI (checkR a b c d e f) (bad10 m p1 p2 p3 n q1 q2 q3) = (0 : Int))) = false → (decide (IntKind.i64.wrap ((0 : Int) - m) ≤ m) = true → right m = true ∧ ((!decide (modF (IntKind.i64.wrap ((0 : Int) - m)) m = if bad10 m p1 p2 p3 n q1 q2 q3 = (0 : Int) then modF (IntKind.i64.wrap (p1 - q1)) m else (0 : Int))) = true → (decide (IntKind.i64.wrap (IntKind.i64.wrap ((0 : Int) - m) + (1 : Int)) ≤ m) = true → right m = true ∧ ((!decide (modF (IntKind.i64.wrap (IntKind.i64.wrap ((0 : Int) - m) + (1 : Int))) m = if bad10 m p1 p2 p3 n q1 q2 q3 = (0 : Int) then modF (IntKind.i64.wrap (p1 - q1)) m else (0 : Int))) = true → False) ∧ ((!decide (modF (IntKind.i64.wrap (IntKind.i64.wrap ((0 : Int) - m) + (1 : Int))) m = if bad10 m p1 p2 p3 n q1 q2 q3 = (0 : Int) then modF (IntKind.i64.wrap (p1 - q1)) m else (0 : Int))) = false → False)) ∧ (decide (IntKind.i64.wrap (IntKind.i64.wrap ((0 : Int) - m) + (1 : Int)) ≤ m) = false → K (AV.tup [PV.one (SV.con IntKind.i64 (Int.negSucc (0 : Nat))), PV.one (SV.con IntKind.i64 (0 : Int))]) [])) ∧ ((!decide (modF (IntKind.i64.wrap ((0 : Int) - m)) m = if bad10 m p1 p2 p3 n q1 q2 q3 = (0 : Int) then modF (IntKind.i64.wrap (p1 - q1)) m else (0 : Int))) = false → False)) ∧ (decide (IntKind.i64.wrap ((0 : Int) - m) ≤ m) = false → K (AV.tup [PV.one (SV.con IntKind.i64 (Int.negSucc (0 : Nat))), PV.one (SV.con IntKind.i64 (0 : Int))]) []))) := by kernel_rfl
def farE (a b c d e f m p1 p2 p3 n q1 q2 q3 : Int) : Int := Dist.leastI (checkC a b c d e f) (bad10 m p1 p2 p3 n q1 q2 q3)
def farV (a b c d e f m p1 p2 p3 q1 q2 q3 : Int) : Int := Dist.best3 (Dist.len9 a f e f b d e d c) (Dist.nb (modF (IntKind.i64.wrap (p1 - q1)) m) m) (Dist.nb (modF (IntKind.i64.wrap (p2 - q2)) m) m) (Dist.nb (modF (IntKind.i64.wrap (p3 - q3)) m) m) (-1)
def qFarE : PSpec
  | [.v (.agg [.sym .i64 a, .sym .i64 b, .sym .i64 c, .sym .i64 d, .sym .i64 e, .sym .i64 f]), .v (.agg [.sym .i64 m, .sym .i64 p1, .sym .i64 p2, .sym .i64 p3]), .v (.agg [.sym .i64 n, .sym .i64 q1, .sym .i64 q2, .sym .i64 q3])] =>
    .iff (farE a b c d e f m p1 p2 p3 n q1 q2 q3 ≠ 0) (.tup [.one (.con .i64 0), .one (.sym .i64 (farE a b c d e f m p1 p2 p3 n q1 q2 q3))])
  | _ => .fail
def qFar : PSpec
  | [.v (.agg [.sym .i64 a, .sym .i64 b, .sym .i64 c, .sym .i64 d, .sym .i64 e, .sym .i64 f]), .v (.agg [.sym .i64 m, .sym .i64 p1, .sym .i64 p2, .sym .i64 p3]), .v (.agg [.sym .i64 n, .sym .i64 q1, .sym .i64 q2, .sym .i64 q3])] =>
    .ok (.tup [.one (.sym .i64 (if farE a b c d e f m p1 p2 p3 n q1 q2 q3 = 0 then farV a b c d e f m p1 p2 p3 q1 q2 q3 else 0)), .one (.sym .i64 (farE a b c d e f m p1 p2 p3 n q1 q2 q3))])
  | _ => .fail
theorem leafEr {x y : Int} (h : x = y) : (AV.tup [PV.one (SV.con .i64 0), PV.one (SV.sym .i64 x)]).valOf = (AV.tup [PV.one (SV.con .i64 0), PV.one (SV.sym .i64 y)]).valOf ∧ ([] : Heap) = [] := by subst h; exact ⟨rfl, rfl⟩
theorem hcFarE : Holds P D6 21 qFarE := by
  refine holds_okA (fn := Tryz.f21) noAnn 22 rfl (by kernel_rfl) (by kernel_rfl) fun args av hg => ?_
  unfold qFarE at hg
  split at hg
  · rename_i a b c d e f m p1 p2 p3 n q1 q2 q3
    obtain ⟨h0, rfl⟩ := gives_iff hg
    refine ⟨rfl, _, rfl, ?_⟩
    rw [nffar22]
    unfold farE Dist.leastI at *
    generalize checkC a b c d e f = x at *
    generalize bad10 m p1 p2 p3 n q1 q2 q3 = y at *
    clear hg
    refine ⟨fun h1 => ⟨fun h2 => ⟨fun h3 => leafEr ?_, fun h3 => ?_⟩, fun h2 => ⟨fun h3 => ⟨fun h4 => leafEr ?_, fun h4 => ?_⟩, fun h3 => ⟨fun h4 => leafEr ?_, fun h4 => ?_⟩⟩⟩, fun h1 => ⟨fun h2 => leafEr ?_, fun h2 => ?_⟩⟩
    all_goals simp only [decide_eq_true_eq, decide_eq_false_iff_not, Bool.not_eq_true', Bool.not_eq_false'] at *
    all_goals first | (rw [if_pos (by omega)]; done) | (rw [if_neg (by omega)]; done) | omega | (exfalso; split at h0 <;> omega)
  · exact (gives_fail hg).elim
theorem hcDocFarE : Holds P E4 22 qFarE := by
  refine holds_okA (fn := Tryz.f22) noAnn 18 rfl (by kernel_rfl) (by kernel_rfl) fun args av hg => ?_
  unfold qFarE at hg
  split at hg
  · rename_i a b c d e f m p1 p2 p3 n q1 q2 q3
    obtain ⟨h0, rfl⟩ := gives_iff hg
    refine ⟨rfl, _, rfl, ?_⟩
    rw [nfdocfe18, checkR_eq]
    refine ⟨fun _ => ⟨rfl, rfl⟩, fun h => ?_⟩
    have h : Dist.leastI (checkC a b c d e f) (bad10 m p1 p2 p3 n q1 q2 q3) = 0 := by simpa using h
    exact absurd h h0
  · exact (gives_fail hg).elim
theorem far_cases {f : Nat} (h1 : HoldsE P f q8) (h2 : HoldsE P f qFarE) : HoldsE P f qFar := h1.cases h2 fun args av hg => by
  unfold qFar at hg
  split at hg
  · rename_i a b c d e f m p1 p2 p3 n q1 q2 q3
    rw [gives_ok hg]
    by_cases h : farE a b c d e f m p1 p2 p3 n q1 q2 q3 = 0
    · left
      obtain ⟨k1, k2⟩ := Dist.leastI_zero.1 h
      refine ⟨_, .inr ⟨_, rfl, k1, k2⟩, ?_⟩
      rw [if_pos h, h]
      rfl
    · right
      refine ⟨_, .inr ⟨_, rfl, h⟩, ?_⟩
      rw [if_neg h]
      rfl
  · exact (gives_fail hg).elim
theorem oD6 : OkS P D6 := ⟨okD6, soD6, smD6⟩
theorem oG7 : OkS P G7 := ⟨okG7, soG7, smG7⟩
theorem oD1 : OkS P D1 := ⟨okD1, soD1, smD1⟩
theorem oD10 : OkS P D10 := ⟨okD10, soD10, smD10⟩
theorem oE1 : OkS P E1 := ((oD10.add1 fine oD10 hcMod2).add1 fine oD10 hcRight2).add1 fine oD10 hcLeast2
theorem oE2 : OkS P E2 := oE1.add1 fine oE1 hcBring2
theorem oE3 : OkS P E3 := (oE2.add1 fine oE2 hcForm2).add1 fine oE2 hcSub2
theorem oE4 : OkS P E4 := oE3.add1 fine oE3 hcDocMin
theorem oE5 : OkS P E5 := (oE3.add1 fine oE3 hcDocMink).add1 fine oD1 hcDocCheckk
def E6 : Sums := (D10.add 21 qFar).add 22 qFar
theorem oE6 : OkS P E6 := (oD10.add fine (far_cases (h8.toE oG7) (hcFarE.toE oD6))).add fine (far_cases (hcDocFark.toE oE5) (hcDocFarE.toE oE4))
end Go.AM

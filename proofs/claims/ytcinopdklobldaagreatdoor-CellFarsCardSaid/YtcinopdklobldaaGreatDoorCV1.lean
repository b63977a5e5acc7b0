import Derived.Test.YtcinopdklobldaaGreatDoorCS4
import Derived.Test.YtcinopdklobldaaGreatDoorCV0
open Go Go.AM Go.Proofs
namespace Go.AM
set_option maxRecDepth 100000
theorem nfmod2 (n m : Int) (K : KV) : call P D10 noAnn 3000 Tryz.f47 [I n, I m] [] K = ((m = (0 : Int) → False) ∧ (decide (n.tmod m < (0 : Int)) = true → K (AV.v (PV.one (SV.sym IntKind.i64 (IntKind.i64.wrap (n.tmod m + m))))) []) ∧ (decide (n.tmod m < (0 : Int)) = false → K (AV.v (PV.one (SV.sym IntKind.i64 (n.tmod m)))) [])) := by kernel_rfl
theorem nfright2 (m : Int) (K : KV) : call P D10 noAnn 3000 Tryz.f97 [I m] [] K = ((decide (m = (24 : Int)) = true → K (AV.v (PV.one (SV.cb true))) []) ∧ (decide (m = (24 : Int)) = false → (decide (m = (48 : Int)) = true → K (AV.v (PV.one (SV.cb true))) []) ∧ (decide (m = (48 : Int)) = false → (decide (m = (96 : Int)) = true → K (AV.v (PV.one (SV.cb true))) []) ∧ (decide (m = (96 : Int)) = false → K (AV.v (PV.one (SV.sb (decide (m = (192 : Int)))))) [])))) := by kernel_rfl
theorem nfleast2 (a b : Int) (K : KV) : call P D10 noAnn 3000 Tryz.f46 [I a, I b] [] K = ((decide (a = (0 : Int)) = true → K (AV.v (PV.one (SV.sym IntKind.i64 b))) []) ∧ (decide (a = (0 : Int)) = false → ((!decide (b = (0 : Int))) = true → (decide (b < a) = true → K (AV.v (PV.one (SV.sym IntKind.i64 b))) []) ∧ (decide (b < a) = false → K (AV.v (PV.one (SV.sym IntKind.i64 a))) [])) ∧ ((!decide (b = (0 : Int))) = false → K (AV.v (PV.one (SV.sym IntKind.i64 a))) []))) := by kernel_rfl
theorem leafMi {n : Int} {k : IntKind} {m : Int} (h : m = n) : (AV.v (PV.one (SV.sym k m))).valOf = some (Value.int k n) ∧ ([] : Heap) = [] := by subst h; exact ⟨rfl, rfl⟩
theorem right_bd' {m : Int} (h : right m = true) : 24 ≤ m ∧ m ≤ 192 := Dist.right_bd h
def qMod2 : PSpec
  | [.v (.one (.sym .i64 n)), .v (.one (.sym .i64 m))] => .iff (right m = true) (I (modF n m))
  | _ => .fail
theorem hcMod2 : Holds P D10 47 qMod2 := by
  refine holds_okA (fn := Tryz.f47) noAnn 3000 rfl (by kernel_rfl) (by kernel_rfl) fun args av hg => ?_
  unfold qMod2 at hg
  split at hg
  · rename_i n m
    obtain ⟨hm, rfl⟩ := gives_iff hg
    have hm := right_bd' hm
    refine ⟨rfl, _, rfl, ?_⟩
    rw [nfmod2]
    have e : modF n m = Dist.modD n m := (Dist.modD_eq hm).symm
    rw [e]
    unfold Dist.modD
    refine ⟨fun h => by omega, fun h => leafMi ?_, fun h => leafMi ?_⟩
    · rw [if_pos (by simpa using h)]
    · rw [if_neg (by simpa using h)]
  · exact (gives_fail hg).elim
theorem hcRight2 : Holds P D10 97 qRight := by
  refine holds_okA (fn := Tryz.f97) noAnn 3000 rfl (by kernel_rfl) (by kernel_rfl) fun args av h => ?_
  unfold qRight at h
  split at h
  · rename_i m
    rw [gives_ok h]
    refine ⟨rfl, _, rfl, ?_⟩
    rw [nfright2 m]
    repeat' (first | apply leafB | apply leafS | apply And.intro | intro _)
    all_goals
      simp only [decide_eq_true_eq, decide_eq_false_iff_not] at *
      simp only [right, Bool.or_eq_true, decide_eq_true_eq, true_iff, Bool.false_eq_true, false_iff]
      omega
  · exact (gives_fail h).elim
def qLeast2 : PSpec
  | [.v (.one (.sym .i64 a)), .v (.one (.sym .i64 b))] => .ok (I (Dist.leastI a b))
  | _ => .fail
theorem hcLeast2 : Holds P D10 46 qLeast2 := by
  refine holds_okA (fn := Tryz.f46) noAnn 3000 rfl (by kernel_rfl) (by kernel_rfl) fun args av hg => ?_
  unfold qLeast2 at hg
  split at hg
  · rename_i a b
    rw [gives_ok hg]
    refine ⟨rfl, _, rfl, ?_⟩
    rw [nfleast2]
    unfold Dist.leastI
    refine ⟨fun h => leafMi ?_, fun h => ⟨fun h1 => ⟨fun h2 => leafMi ?_, fun h2 => leafMi ?_⟩, fun h1 => leafMi ?_⟩⟩
    all_goals simp only [decide_eq_true_eq, decide_eq_false_iff_not, Bool.not_eq_true', Bool.not_eq_false'] at *
    all_goals first | rw [if_pos (by omega)] | rw [if_neg (by omega)]
  · exact (gives_fail hg).elim
def E1 : Sums := ((D10.add 47 qMod2).add 97 qRight).add 46 qLeast2
end Go.AM

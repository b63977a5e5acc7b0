import Derived.Test.YtcinopdklobldaaGreatDoorCM64
open Go Go.AM Go.Proofs
namespace Go.AM
open Dist
set_option maxRecDepth 100000
theorem nfsize (n : Int) (K : KV) : call P D2m noAnn 3000 Tryz.f79 [I n] [] K = ((decide (n < (0 : Int)) = true → K (AV.v (PV.one (SV.sym IntKind.u64 (IntKind.u64.wrap (IntKind.u64.wrap (IntKind.i64.wrap ((0 : Int) - IntKind.i64.wrap (n + (1 : Int)))) + (1 : Int)))))) []) ∧ (decide (n < (0 : Int)) = false → K (AV.v (PV.one (SV.sym IntKind.u64 (IntKind.u64.wrap n)))) [])) := by kernel_rfl
theorem nfsign (n : Int) (K : KV) : call P D2m noAnn 3000 Tryz.f80 [I n] [] K = ((decide (n < (0 : Int)) = true → K (AV.v (PV.one (SV.con IntKind.i64 (-1 : Int)))) []) ∧ (decide (n < (0 : Int)) = false → (decide ((0 : Int) < n) = true → K (AV.v (PV.one (SV.con IntKind.i64 (1 : Int)))) []) ∧ (decide ((0 : Int) < n) = false → K (AV.v (PV.one (SV.con IntKind.i64 (0 : Int)))) []))) := by kernel_rfl
theorem nfproducts (a b c d : Int) (K : KV) : call P D2m noAnn 3000 Tryz.f81 [.v (.one (.sym .u64 a)), .v (.one (.sym .u64 b)), .v (.one (.sym .u64 c)), .v (.one (.sym .u64 d))] [] K = ((((0 : Int) ≤ a ∧ a ≤ (18446744073709551615 : Int)) ∧ (0 : Int) ≤ b ∧ b ≤ (18446744073709551615 : Int)) ∧ (((0 : Int) ≤ c ∧ c ≤ (18446744073709551615 : Int)) ∧ (0 : Int) ≤ d ∧ d ≤ (18446744073709551615 : Int)) ∧ (decide (a * b / (18446744073709551616 : Int) < c * d / (18446744073709551616 : Int)) = true → K (AV.v (PV.one (SV.con IntKind.i64 (-1 : Int)))) []) ∧ (decide (a * b / (18446744073709551616 : Int) < c * d / (18446744073709551616 : Int)) = false → (decide (a * b / (18446744073709551616 : Int) = c * d / (18446744073709551616 : Int)) = true → (decide (a * b % (18446744073709551616 : Int) < c * d % (18446744073709551616 : Int)) = true → K (AV.v (PV.one (SV.con IntKind.i64 (-1 : Int)))) []) ∧ (decide (a * b % (18446744073709551616 : Int) < c * d % (18446744073709551616 : Int)) = false → (decide (c * d / (18446744073709551616 : Int) < a * b / (18446744073709551616 : Int)) = true → K (AV.v (PV.one (SV.con IntKind.i64 (1 : Int)))) []) ∧ (decide (c * d / (18446744073709551616 : Int) < a * b / (18446744073709551616 : Int)) = false → (decide (c * d % (18446744073709551616 : Int) < a * b % (18446744073709551616 : Int)) = true → K (AV.v (PV.one (SV.con IntKind.i64 (1 : Int)))) []) ∧ (decide (c * d % (18446744073709551616 : Int) < a * b % (18446744073709551616 : Int)) = false → K (AV.v (PV.one (SV.con IntKind.i64 (0 : Int)))) [])))) ∧ (decide (a * b / (18446744073709551616 : Int) = c * d / (18446744073709551616 : Int)) = false → (decide (c * d / (18446744073709551616 : Int) < a * b / (18446744073709551616 : Int)) = true → K (AV.v (PV.one (SV.con IntKind.i64 (1 : Int)))) []) ∧ (decide (c * d / (18446744073709551616 : Int) < a * b / (18446744073709551616 : Int)) = false → (decide (c * d % (18446744073709551616 : Int) < a * b % (18446744073709551616 : Int)) = true → K (AV.v (PV.one (SV.con IntKind.i64 (1 : Int)))) []) ∧ (decide (c * d % (18446744073709551616 : Int) < a * b % (18446744073709551616 : Int)) = false → K (AV.v (PV.one (SV.con IntKind.i64 (0 : Int)))) []))))) := by kernel_rfl
theorem wr_i64 {n : Int} (h1 : -9223372036854775808 ≤ n) (h2 : n ≤ 9223372036854775807) : IntKind.i64.wrap n = n := by rw [IntKind.wrap_i64]; omega
theorem leafN {n : Int} {k : IntKind} {m : Int} (h : m = n) : (AV.v (PV.one (SV.con k m))).valOf = some (Value.int k n) ∧ ([] : Heap) = [] := by subst h; exact ⟨rfl, rfl⟩
theorem leafM {n : Int} {k : IntKind} {m : Int} (h : m = n) : (AV.v (PV.one (SV.sym k m))).valOf = some (Value.int k n) ∧ ([] : Heap) = [] := by subst h; exact ⟨rfl, rfl⟩
def qSize : PSpec
  | [.v (.one (.sym .i64 n))] => .iff (InR n) (.v (.one (.sym .u64 (n.natAbs : Int))))
  | _ => .fail
theorem hcSize : Holds P D2m 79 qSize := by
  refine holds_okA (fn := Tryz.f79) noAnn 3000 rfl (by kernel_rfl) (by kernel_rfl) fun args av hg => ?_
  unfold qSize at hg
  split at hg
  · rename_i n
    obtain ⟨hn, rfl⟩ := gives_iff hg
    refine ⟨rfl, _, rfl, ?_⟩
    rw [nfsize]
    unfold InR at hn
    refine ⟨fun h => leafM ?_, fun h => leafM ?_⟩
    · have h : n < 0 := by simpa using h
      rw [wr_i64 (n := n + 1) (by omega) (by omega), wr_i64 (n := 0 - (n + 1)) (by omega) (by omega), IntKind.wrap_u64, IntKind.wrap_u64]
      omega
    · have h : ¬ n < 0 := by simpa using h
      rw [IntKind.wrap_u64]
      omega
  · exact (gives_fail hg).elim
def qSign : PSpec
  | [.v (.one (.sym .i64 n))] => .ok (I (sgn n))
  | _ => .fail
theorem hcSign : Holds P D2m 80 qSign := by
  refine holds_okA (fn := Tryz.f80) noAnn 3000 rfl (by kernel_rfl) (by kernel_rfl) fun args av hg => ?_
  unfold qSign at hg
  split at hg
  · rename_i n
    rw [gives_ok hg]
    refine ⟨rfl, _, rfl, ?_⟩
    rw [nfsign]
    unfold sgn
    refine ⟨fun h => leafN ?_, fun h => ⟨fun k => leafN ?_, fun k => leafN ?_⟩⟩
    · rw [if_pos (by simpa using h)]
    · rw [if_neg (by simpa using h), if_pos (by simpa using k)]
    · rw [if_neg (by simpa using h), if_neg (by simpa using k)]
  · exact (gives_fail hg).elim
def qProducts : PSpec
  | [.v (.one (.sym .u64 a)), .v (.one (.sym .u64 b)), .v (.one (.sym .u64 c)), .v (.one (.sym .u64 d))] => .iff ((U64 a ∧ U64 b) ∧ U64 c ∧ U64 d) (I (sgn (a * b - c * d)))
  | _ => .fail
theorem hcProducts : Holds P D2m 81 qProducts := by
  refine holds_okA (fn := Tryz.f81) noAnn 3000 rfl (by kernel_rfl) (by kernel_rfl) fun args av hg => ?_
  unfold qProducts at hg
  split at hg
  · rename_i a b c d
    obtain ⟨⟨hab, hcd⟩, rfl⟩ := gives_iff hg
    refine ⟨rfl, _, rfl, ?_⟩
    rw [nfproducts]
    refine ⟨hab, hcd, ?_⟩
    generalize a * b = x at *
    generalize c * d = y at *
    have key : ∀ {r : Int}, (r = -1 ∧ x < y ∨ r = 1 ∧ y < x ∨ r = 0 ∧ x = y) → (AV.v (PV.one (SV.con .i64 r))).valOf = some (Value.int .i64 (sgn (x - y))) ∧ ([] : Heap) = [] := fun {r} h => leafN (by
      unfold sgn
      rcases h with ⟨rfl, h⟩ | ⟨rfl, h⟩ | ⟨rfl, h⟩
      · rw [if_pos (by omega)]
      · rw [if_neg (by omega), if_pos (by omega)]
      · rw [if_neg (by omega), if_neg (by omega)])
    refine ⟨fun h => ?_, fun h => ⟨fun h1 => ⟨fun h2 => ?_, fun h2 => ⟨fun h3 => ?_, fun h3 => ⟨fun h4 => ?_, fun h4 => ?_⟩⟩⟩, fun h1 => ⟨fun h3 => ?_, fun h3 => ⟨fun h4 => ?_, fun h4 => ?_⟩⟩⟩⟩
    all_goals
      simp only [decide_eq_true_eq, decide_eq_false_iff_not] at *
      refine key ?_
      omega
  · exact (gives_fail hg).elim
def D2n : Sums := ((D2m.add 79 qSize).add 80 qSign).add 81 qProducts
def annI (env : Env) (h : Heap) : Option Ann :=
  match getD env 3 AV.any, getD env 4 AV.any with
  | .v (.one (.sym .u64 a)), .v (.one (.sym .u64 b)) => forceE (keepE [1, 2] 0 env) fun env => some ⟨{ p : Int × Int // GInv a b p }, fun p => (set (set env 3 (.v (.one (.sym .u64 p.1.1)))) 4 (.v (.one (.sym .u64 p.1.2))), h), fun p => p.1.2.toNat⟩
  | _, _ => none
def AI : Annos := ⟨0, fun id env h => if id = 4 then annI env h else none, fun _ => none⟩
end Go.AM

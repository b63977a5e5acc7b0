import Derived.Test.YtppbbabmlammpaaDoorTG2
set_option linter.unusedVariables false
set_option linter.unusedSimpArgs false
open Go Go.AM Go.Proofs
namespace Go.AM
open Dist
set_option maxRecDepth 100000
theorem nfdnow (ys : List DTok) (s : List UInt8) (i p : Int) (len : Nat) (a b c : Int) : call P (Z1 stdOn) ann2 1000 Tryd.f47 [.v (.one (.ptr 0 0))] (dH ys s i p len) (dK ys s (.v (.agg [.sym .u8 a, .sym .i64 b, .sym .i64 c])) i p) = (((0 : Int) ≤ i ∧ i < (↑len : Int)) ∧ ((0 : Nat) + i.toNat).succ.le ys.length ∧ ((a = (ys.getD ((0 : Nat) + i.toNat) dtkC.d).kind ∧ b = (ys.getD ((0 : Nat) + i.toNat) dtkC.d).pos ∧ c = (ys.getD ((0 : Nat) + i.toNat) dtkC.d).next ∧ True) ∧ True) ∧ (s = s ∧ ((0 : Nat) = (0 : Nat) ∧ ys.length = len) ∧ i = i ∧ p = p ∧ True) ∧ SameRows dtkC ys dtkC ys ∧ True) := by kernel_rfl
theorem nfdfail (ys : List DTok) (s : List UInt8) (i p at' : Int) (len : Nat) (p' : Int) : call P (Z1 stdOn) ann2 1000 Tryd.f64 [.v (.one (.ptr 0 0)), .v (.one (.sym .i64 at'))] (dH ys s i p len) (dK ys s (.tup []) i p') = ((decide (p < (0 : Int)) = true → True ∧ (s = s ∧ ((0 : Nat) = (0 : Nat) ∧ ys.length = len) ∧ i = i ∧ p' = at' ∧ True) ∧ SameRows dtkC ys dtkC ys ∧ True) ∧ (decide (p < (0 : Int)) = false → True ∧ (s = s ∧ ((0 : Nat) = (0 : Nat) ∧ ys.length = len) ∧ i = i ∧ p' = p ∧ True) ∧ SameRows dtkC ys dtkC ys ∧ True)) := by kernel_rfl
theorem nfdskip (ys : List DTok) (s : List UInt8) (i p i' : Int) (len : Nat) : call P (Z1 stdOn) ann2 1000 Tryd.f65 [.v (.one (.ptr 0 0))] (dH ys s i p len) (dK ys s (.tup []) i' p) = ((decide (i < IntKind.i64.wrap ((↑len : Int) - (1 : Int))) = true → True ∧ (s = s ∧ ((0 : Nat) = (0 : Nat) ∧ ys.length = len) ∧ i' = IntKind.i64.wrap (i + (1 : Int)) ∧ p = p ∧ True) ∧ SameRows dtkC ys dtkC ys ∧ True) ∧ (decide (i < IntKind.i64.wrap ((↑len : Int) - (1 : Int))) = false → True ∧ (s = s ∧ ((0 : Nat) = (0 : Nat) ∧ ys.length = len) ∧ i' = i ∧ p = p ∧ True) ∧ SameRows dtkC ys dtkC ys ∧ True)) := by kernel_rfl
def dC (ys : List DTok) (s : List UInt8) (i p : Int) : List SV := [.str s, .ow 1 3 0 (@List.length DTok ys) false, .sym .i64 i, .sym .i64 p]
def qFail : MSpec dtkC := fun os cs ys => match os, cs with
  | [.v (.one (.sym .i64 a))], [.str s, .ow 1 3 0 len false, .sym .i64 i, .sym .i64 p] => some (len = @List.length DTok ys, .tup [], dC ys s i (dFail p a))
  | _, _ => none
def qSkip : MSpec dtkC := fun os cs ys => match os, cs with
  | [], [.str s, .ow 1 3 0 len false, .sym .i64 i, .sym .i64 p] => some (Pd ys i len, .tup [], dC ys s (dSkip ys i) p)
  | _, _ => none
theorem hNow : HoldsS P 47 89 100 dtkC qNow := by
  refine ⟨Tryd.f47, by kernel_rfl, by kernel_rfl, fun os cs ys p v cs2 hq hp hno => ?_⟩
  unfold qNow at hq
  split at hq
  · rename_i s len i pp
    simp only [Option.some.injEq, Prod.mk.injEq] at hq
    obtain ⟨rfl, rfl, rfl⟩ := hq
    refine ⟨1000, ann2, Z1 stdOn, _, rfl, pZ1 stdOn, hno, fun _ _ h => h, ⟨?_⟩⟩
    obtain ⟨h1, h2, h3⟩ := hp
    have h1 : len = @List.length DTok ys := h1
    have h2 : 0 ≤ i ∧ i < (@List.length DTok ys : Int) := h2
    subst h1
    refine Eq.mpr (nfdnow ys s i pp _ _ _ _) ⟨h2, ?_, ⟨⟨?_, ?_, ?_, trivial⟩, trivial⟩, ⟨rfl, ⟨rfl, rfl⟩, rfl, rfl, trivial⟩, sameT (C := dtkC) ys, trivial⟩
    · show 0 + i.toNat + 1 ≤ @List.length DTok ys; omega
    · rw [Nat.zero_add]; rfl
    · rw [Nat.zero_add]; rfl
    · rw [Nat.zero_add]; rfl
  · cases hq
theorem hFail : HoldsS P 64 89 100 dtkC qFail := by
  refine ⟨Tryd.f64, by kernel_rfl, by kernel_rfl, fun os cs ys p v cs2 hq hp hno => ?_⟩
  unfold qFail at hq
  split at hq
  · rename_i a s len i pp
    simp only [Option.some.injEq, Prod.mk.injEq] at hq
    obtain ⟨rfl, rfl, rfl⟩ := hq
    refine ⟨1000, ann2, Z1 stdOn, _, rfl, pZ1 stdOn, hno, fun _ _ h => h, ⟨?_⟩⟩
    have h1 : len = @List.length DTok ys := hp
    subst h1
    refine Eq.mpr (nfdfail ys s i pp a _ (dFail pp a)) ⟨fun y => ⟨trivial, ⟨rfl, ⟨rfl, rfl⟩, rfl, if_pos (of_decide_eq_true y), trivial⟩, sameT (C := dtkC) ys, trivial⟩, fun y => ⟨trivial, ⟨rfl, ⟨rfl, rfl⟩, rfl, if_neg (of_decide_eq_false y), trivial⟩, sameT (C := dtkC) ys, trivial⟩⟩
  · cases hq
theorem hSkip : HoldsS P 65 89 100 dtkC qSkip := by
  refine ⟨Tryd.f65, by kernel_rfl, by kernel_rfl, fun os cs ys p v cs2 hq hp hno => ?_⟩
  unfold qSkip at hq
  split at hq
  · rename_i s len i pp
    simp only [Option.some.injEq, Prod.mk.injEq] at hq
    obtain ⟨rfl, rfl, rfl⟩ := hq
    refine ⟨1000, ann2, Z1 stdOn, _, rfl, pZ1 stdOn, hno, fun _ _ h => h, ⟨?_⟩⟩
    obtain ⟨h1, h2, h3⟩ := hp
    have h1 : len = @List.length DTok ys := h1
    have h2 : 0 ≤ i ∧ i < (@List.length DTok ys : Int) := h2
    have h3 : @List.length DTok ys ≤ 4611686018427387904 := h3
    subst h1
    have w1 : IntKind.i64.wrap ((@List.length DTok ys : Int) - 1) = (@List.length DTok ys : Int) - 1 := wr_id (by omega) (by omega)
    have w2 : IntKind.i64.wrap (i + 1) = i + 1 := wr_id (by omega) (by omega)
    refine Eq.mpr (nfdskip ys s i pp (dSkip ys i) _) ⟨fun y => ⟨trivial, ⟨rfl, ⟨rfl, rfl⟩, ?_, rfl, trivial⟩, sameT (C := dtkC) ys, trivial⟩, fun y => ⟨trivial, ⟨rfl, ⟨rfl, rfl⟩, ?_, rfl, trivial⟩, sameT (C := dtkC) ys, trivial⟩⟩
    · rw [w1] at y
      rw [w2]
      exact if_pos (of_decide_eq_true y)
    · rw [w1] at y
      exact if_neg (of_decide_eq_false y)
  · cases hq
def Z2 (o : OnB) : Sums := (((Z1 o).addSp 47 (stSpec 89 100 dtkC qNow)).addSp 64 (stSpec 89 100 dtkC qFail)).addSp 65 (stSpec 89 100 dtkC qSkip)
theorem pZ2 (o : OnB) : OkS P (Z2 o) := (((pZ1 o).addSt fine hNow).addSt fine hFail).addSt fine hSkip
end Go.AM

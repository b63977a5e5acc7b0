import Derived.Test.YtppbbabmlammpaaDoorTG4
set_option linter.unusedVariables false
set_option linter.unusedSimpArgs false
open Go Go.AM Go.Proofs
namespace Go.AM
open Dist
set_option maxRecDepth 100000
theorem nfdtake (ys : List DTok) (s : List UInt8) (i p k i' p' : Int) (len : Nat) : call P (Z2 stdOn) ann2 1000 Tryd.f40 [.v (.one (.ptr 0 0)), .v (.one (.sym .u8 k))] (dH ys s i p len) (dK ys s (.tup []) i' p') = (∃ (z : List dtkC.τ), SameRows dtkC z dtkC ys ∧ (len = z.length ∧ ((0 : Int) ≤ i ∧ i < (↑z.length : Int)) ∧ z.length.le (4611686018427387904 : Nat)) ∧ ((!decide ((dk z i).kind = k)) = true → ∃ (z_1 : List dtkC.τ), SameRows dtkC z_1 dtkC ys ∧ (z.length = z_1.length ∧ ((0 : Int) ≤ i ∧ i < (↑z_1.length : Int)) ∧ z_1.length.le (4611686018427387904 : Nat)) ∧ ∃ (z : List dtkC.τ), SameRows dtkC z dtkC ys ∧ z_1.length = z.length ∧ True ∧ (s = s ∧ ((0 : Nat) = (0 : Nat) ∧ ys.length = z.length) ∧ i' = i ∧ p' = dFail p (dk z_1 i).pos ∧ True) ∧ SameRows dtkC ys dtkC ys ∧ True) ∧ ((!decide ((dk z i).kind = k)) = false → ∃ (z_1 : List dtkC.τ), SameRows dtkC z_1 dtkC ys ∧ (z.length = z_1.length ∧ ((0 : Int) ≤ i ∧ i < (↑z_1.length : Int)) ∧ z_1.length.le (4611686018427387904 : Nat)) ∧ True ∧ (s = s ∧ ((0 : Nat) = (0 : Nat) ∧ ys.length = z_1.length) ∧ i' = dSkip z_1 i ∧ p' = p ∧ True) ∧ SameRows dtkC ys dtkC ys ∧ True)) := by kernel_rfl
theorem nfdsign (ys : List DTok) (s : List UInt8) (i p i' v : Int) (len : Nat) : call P (Z2 stdOn) ann2 1000 Tryd.f46 [.v (.one (.ptr 0 0))] (dH ys s i p len) (dK ys s (.v (.one (.sym .i64 v))) i' p) = (∃ (z : List dtkC.τ), SameRows dtkC z dtkC ys ∧ (len = z.length ∧ ((0 : Int) ≤ i ∧ i < (↑z.length : Int)) ∧ z.length.le (4611686018427387904 : Nat)) ∧ (decide ((dk z i).kind = (45 : Int)) = true → ∃ (z_1 : List dtkC.τ), SameRows dtkC z_1 dtkC ys ∧ (z.length = z_1.length ∧ ((0 : Int) ≤ i ∧ i < (↑z_1.length : Int)) ∧ z_1.length.le (4611686018427387904 : Nat)) ∧ (v = (-1 : Int) ∧ True) ∧ (s = s ∧ ((0 : Nat) = (0 : Nat) ∧ ys.length = z_1.length) ∧ i' = dSkip z_1 i ∧ p = p ∧ True) ∧ SameRows dtkC ys dtkC ys ∧ True) ∧ (decide ((dk z i).kind = (45 : Int)) = false → (decide ((dk z i).kind = (43 : Int)) = true → ∃ (z_1 : List dtkC.τ), SameRows dtkC z_1 dtkC ys ∧ (z.length = z_1.length ∧ ((0 : Int) ≤ i ∧ i < (↑z_1.length : Int)) ∧ z_1.length.le (4611686018427387904 : Nat)) ∧ (v = (1 : Int) ∧ True) ∧ (s = s ∧ ((0 : Nat) = (0 : Nat) ∧ ys.length = z_1.length) ∧ i' = dSkip z_1 i ∧ p = p ∧ True) ∧ SameRows dtkC ys dtkC ys ∧ True) ∧ (decide ((dk z i).kind = (43 : Int)) = false → (v = (1 : Int) ∧ True) ∧ (s = s ∧ ((0 : Nat) = (0 : Nat) ∧ ys.length = z.length) ∧ i' = i ∧ p = p ∧ True) ∧ SameRows dtkC ys dtkC ys ∧ True))) := by kernel_rfl
theorem nfdnum (ys : List DTok) (s : List UInt8) (i p k a b m v : Int) (len : Nat) : call P (Z2 stdOn) (annNum s a b) 1000 Tryd.f69 [.v (.one (.ptr 0 0)), .v (.agg [.sym .u8 k, .sym .i64 a, .sym .i64 b]), .v (.one (.sym .i64 m))] (dH ys s i p len) (dK ys s (.v (.one (.sym .i64 v))) i p) = ((decide (m < IntKind.i64.wrap (b - a)) = true → (v = (-1 : Int) ∧ True) ∧ (s = s ∧ ((0 : Nat) = (0 : Nat) ∧ ys.length = len) ∧ i = i ∧ p = p ∧ True) ∧ SameRows dtkC ys dtkC ys ∧ True) ∧ (decide (m < IntKind.i64.wrap (b - a)) = false → (decide ((1 : Int) < IntKind.i64.wrap (b - a)) = true → ((0 : Int) ≤ a ∧ a < (↑s.length : Int)) ∧ (decide ((↑(s.getD a.toNat (0 : UInt8)).toNat : Int) = (48 : Int)) = true → (v = (-1 : Int) ∧ True) ∧ (s = s ∧ ((0 : Nat) = (0 : Nat) ∧ ys.length = len) ∧ i = i ∧ p = p ∧ True) ∧ SameRows dtkC ys dtkC ys ∧ True) ∧ (decide ((↑(s.getD a.toNat (0 : UInt8)).toNat : Int) = (48 : Int)) = false → (∃ (z : { j : Nat // a.toNat ≤ j ∧ j ≤ b.toNat }), (numL (subI s a z.val) = (0 : Int) ∧ (↑z.val : Int) = a ∧ True) ∧ (s = s ∧ ((0 : Nat) = (0 : Nat) ∧ len = len) ∧ i = i ∧ p = p ∧ True) ∧ SameRows dtkC ys dtkC ys ∧ (k = k ∧ a = a ∧ b = b ∧ True) ∧ True) ∧ ∀ (x : { j : Nat // a.toNat ≤ j ∧ j ≤ b.toNat }), (decide ((↑x.val : Int) < b) = true → ((0 : Int) ≤ (↑x.val : Int) ∧ (↑x.val : Int) < (↑s.length : Int)) ∧ ∃ (z : { j : Nat // a.toNat ≤ j ∧ j ≤ b.toNat }), (b.toNat - z.val).succ.le (b.toNat - x.val) ∧ (numL (subI s a z.val) = IntKind.i64.wrap (IntKind.i64.wrap ((10 : Int) * numL (subI s a x.val)) + IntKind.i64.wrap (IntKind.u8.wrap ((↑(s.getD (↑x.val : Int).toNat (0 : UInt8)).toNat : Int) - (48 : Int)))) ∧ (↑z.val : Int) = IntKind.i64.wrap ((↑x.val : Int) + (1 : Int)) ∧ True) ∧ (s = s ∧ ((0 : Nat) = (0 : Nat) ∧ len = len) ∧ i = i ∧ p = p ∧ True) ∧ SameRows dtkC ys dtkC ys ∧ (k = k ∧ a = a ∧ b = b ∧ True) ∧ True) ∧ (decide ((↑x.val : Int) < b) = false → (v = numL (subI s a x.val) ∧ True) ∧ (s = s ∧ ((0 : Nat) = (0 : Nat) ∧ ys.length = len) ∧ i = i ∧ p = p ∧ True) ∧ SameRows dtkC ys dtkC ys ∧ True))) ∧ (decide ((1 : Int) < IntKind.i64.wrap (b - a)) = false → (∃ (z : { j : Nat // a.toNat ≤ j ∧ j ≤ b.toNat }), (numL (subI s a z.val) = (0 : Int) ∧ (↑z.val : Int) = a ∧ True) ∧ (s = s ∧ ((0 : Nat) = (0 : Nat) ∧ len = len) ∧ i = i ∧ p = p ∧ True) ∧ SameRows dtkC ys dtkC ys ∧ (k = k ∧ a = a ∧ b = b ∧ True) ∧ True) ∧ ∀ (x : { j : Nat // a.toNat ≤ j ∧ j ≤ b.toNat }), (decide ((↑x.val : Int) < b) = true → ((0 : Int) ≤ (↑x.val : Int) ∧ (↑x.val : Int) < (↑s.length : Int)) ∧ ∃ (z : { j : Nat // a.toNat ≤ j ∧ j ≤ b.toNat }), (b.toNat - z.val).succ.le (b.toNat - x.val) ∧ (numL (subI s a z.val) = IntKind.i64.wrap (IntKind.i64.wrap ((10 : Int) * numL (subI s a x.val)) + IntKind.i64.wrap (IntKind.u8.wrap ((↑(s.getD (↑x.val : Int).toNat (0 : UInt8)).toNat : Int) - (48 : Int)))) ∧ (↑z.val : Int) = IntKind.i64.wrap ((↑x.val : Int) + (1 : Int)) ∧ True) ∧ (s = s ∧ ((0 : Nat) = (0 : Nat) ∧ len = len) ∧ i = i ∧ p = p ∧ True) ∧ SameRows dtkC ys dtkC ys ∧ (k = k ∧ a = a ∧ b = b ∧ True) ∧ True) ∧ (decide ((↑x.val : Int) < b) = false → (v = numL (subI s a x.val) ∧ True) ∧ (s = s ∧ ((0 : Nat) = (0 : Nat) ∧ ys.length = len) ∧ i = i ∧ p = p ∧ True) ∧ SameRows dtkC ys dtkC ys ∧ True)))) := by kernel_rfl
def qTakeD : MSpec dtkC := fun os cs ys => match os, cs with
  | [.v (.one (.sym .u8 k))], [.str s, .ow 1 3 0 len false, .sym .i64 i, .sym .i64 p] => some (Pd ys i len, .tup [], dC ys s (dTi ys i k) (dTp ys i p k))
  | [.v (.one (.con .u8 k))], [.str s, .ow 1 3 0 len false, .sym .i64 i, .sym .i64 p] => some (Pd ys i len, .tup [], dC ys s (dTi ys i k) (dTp ys i p k))
  | _, _ => none
def qSignD : MSpec dtkC := fun os cs ys => match os, cs with
  | [], [.str s, .ow 1 3 0 len false, .sym .i64 i, .sym .i64 p] => some (Pd ys i len, .v (.one (.sym .i64 (dSv ys i))), dC ys s (dSi ys i) p)
  | _, _ => none
def DigAt (s : List UInt8) (a b : Int) : Prop := 0 ≤ a ∧ a ≤ b ∧ b ≤ (s.length : Int) ∧ ∀ j : Nat, a.toNat ≤ j → j < b.toNat → digR (bt s j) = true
def qNumD : MSpec dtkC := fun os cs ys => match os, cs with
  | [.v (.agg [.sym .u8 _, .sym .i64 a, .sym .i64 b]), .v (.one (.con .i64 m))], [.str s, .ow 1 3 0 len false, .sym .i64 i, .sym .i64 p] => some (len = @List.length DTok ys ∧ m ≤ 4 ∧ s.length ≤ 65536 ∧ DigAt s a b, .v (.one (.sym .i64 (dNum s a b m))), dC ys s i p)
  | _, _ => none
theorem take_run {ys : List DTok} {s : List UInt8} {i p k : Int} {len : Nat} (h : Pd ys i len) : call P (Z2 stdOn) ann2 1000 Tryd.f40 [.v (.one (.ptr 0 0)), .v (.one (.sym .u8 k))] (dH ys s i p len) (dK ys s (.tup []) (dTi ys i k) (dTp ys i p k)) := by
  obtain ⟨h1, h2, h3⟩ := h
  refine Eq.mpr (nfdtake ys s i p k _ _ len) ⟨ys, sameT (C := dtkC) ys, ⟨h1, h2, h3⟩, fun y => ⟨ys, sameT (C := dtkC) ys, ⟨rfl, h2, h3⟩, ys, sameT (C := dtkC) ys, rfl, trivial, ⟨rfl, ⟨rfl, rfl⟩, ?_, ?_, trivial⟩, sameT (C := dtkC) ys, trivial⟩, fun y => ⟨ys, sameT (C := dtkC) ys, ⟨rfl, h2, h3⟩, trivial, ⟨rfl, ⟨rfl, rfl⟩, ?_, ?_, trivial⟩, sameT (C := dtkC) ys, trivial⟩⟩
  · exact if_neg (by simpa using y)
  · exact if_neg (by simpa using y)
  · exact if_pos (by simpa using y)
  · exact if_pos (by simpa using y)
theorem hTakeD : HoldsS P 40 89 100 dtkC qTakeD := by
  refine ⟨Tryd.f40, by kernel_rfl, by kernel_rfl, fun os cs ys p v cs2 hq hp hno => ?_⟩
  unfold qTakeD at hq
  split at hq
  · rename_i k s len i pp
    simp only [Option.some.injEq, Prod.mk.injEq] at hq
    obtain ⟨rfl, rfl, rfl⟩ := hq
    exact ⟨1000, ann2, Z2 stdOn, _, rfl, pZ2 stdOn, hno, fun _ _ h => h, ⟨take_run hp⟩⟩
  · rename_i k s len i pp
    simp only [Option.some.injEq, Prod.mk.injEq] at hq
    obtain ⟨rfl, rfl, rfl⟩ := hq
    refine ⟨1000, ann2, Z2 stdOn, [.v (.one (.sym .u8 k))], rfl, pZ2 stdOn, rfl, fun pl vs h => ?_, ⟨take_run hp⟩⟩
    match vs, h with
    | [v], h => exact ⟨h.1.imp (fun h => by cases h) id, trivial⟩
    | [], h => exact h.elim
    | _ :: _ :: _, h => exact h.2.elim
  · cases hq
theorem hSignD : HoldsS P 46 89 100 dtkC qSignD := by
  refine ⟨Tryd.f46, by kernel_rfl, by kernel_rfl, fun os cs ys p v cs2 hq hp hno => ?_⟩
  unfold qSignD at hq
  split at hq
  · rename_i s len i pp
    simp only [Option.some.injEq, Prod.mk.injEq] at hq
    obtain ⟨rfl, rfl, rfl⟩ := hq
    refine ⟨1000, ann2, Z2 stdOn, _, rfl, pZ2 stdOn, hno, fun _ _ h => h, ⟨?_⟩⟩
    obtain ⟨h1, h2, h3⟩ := hp
    refine Eq.mpr (nfdsign ys s i pp _ _ len) ⟨ys, sameT (C := dtkC) ys, ⟨h1, h2, h3⟩, fun y => ⟨ys, sameT (C := dtkC) ys, ⟨rfl, h2, h3⟩, ⟨?_, trivial⟩, ⟨rfl, ⟨rfl, rfl⟩, ?_, rfl, trivial⟩, sameT (C := dtkC) ys, trivial⟩, fun y => ⟨fun z => ⟨ys, sameT (C := dtkC) ys, ⟨rfl, h2, h3⟩, ⟨?_, trivial⟩, ⟨rfl, ⟨rfl, rfl⟩, ?_, rfl, trivial⟩, sameT (C := dtkC) ys, trivial⟩, fun z => ⟨⟨?_, trivial⟩, ⟨rfl, ⟨rfl, rfl⟩, ?_, rfl, trivial⟩, sameT (C := dtkC) ys, trivial⟩⟩⟩
    · exact if_pos (of_decide_eq_true y)
    · exact if_pos (of_decide_eq_true y)
    · exact if_neg (of_decide_eq_false y)
    · exact (if_neg (of_decide_eq_false y)).trans (if_pos (of_decide_eq_true z))
    · exact if_neg (of_decide_eq_false y)
    · exact (if_neg (of_decide_eq_false y)).trans (if_neg (of_decide_eq_false z))
  · cases hq
theorem wr8 {n : Int} (h0 : 0 ≤ n) (h1 : n ≤ 255) : IntKind.u8.wrap n = n := by
  have : IntKind.u8.wrap n = n % 256 := by simp [IntKind.wrap, IntKind.bits, IntKind.signed]
  rw [this]
  omega
theorem numL_app (l : List UInt8) (b : UInt8) : numL (l ++ [b]) = 10 * numL l + ((b.toNat : Int) - 48) := by simp [numL]
theorem subI_succ {s : List UInt8} {a : Int} {j : Nat} (h0 : a.toNat ≤ j) (h1 : j < s.length) : subI s a (j + 1) = subI s a j ++ [s.getD j 0] := by
  unfold subI
  rw [show j + 1 - a.toNat = (j - a.toNat) + 1 by omega, List.take_add_one, List.getElem?_drop, show a.toNat + (j - a.toNat) = j by omega, List.getD_eq_getElem?_getD, List.getElem?_eq_getElem h1]
  rfl
theorem subI_nil (s : List UInt8) (a : Int) : subI s a a.toNat = [] := by simp [subI]
theorem numL_bd {s : List UInt8} {a : Int} {b : Nat} (hd : ∀ j : Nat, a.toNat ≤ j → j < b → digR (bt s j) = true) (hb : b ≤ s.length) : ∀ d : Nat, a.toNat + d ≤ b → 0 ≤ numL (subI s a (a.toNat + d)) ∧ numL (subI s a (a.toNat + d)) < ((10 ^ d : Nat) : Int)
  | 0, _ => by rw [Nat.add_zero, subI_nil]; exact ⟨Int.le_refl _, by decide⟩
  | d + 1, h => by
    obtain ⟨h1, h2⟩ := numL_bd hd hb d (by omega)
    have h3 := digR_iff.1 (hd (a.toNat + d) (by omega) (by omega))
    unfold bt at h3
    rw [← Nat.add_assoc, subI_succ (by omega) (by omega), numL_app, Nat.pow_succ]
    omega
theorem num_run {ys : List DTok} {s : List UInt8} {i p k a b m : Int} {len : Nat} (hl : len = @List.length DTok ys) (hm : m ≤ 4) (hs : s.length ≤ 65536) (hd : DigAt s a b) : call P (Z2 stdOn) (annNum s a b) 1000 Tryd.f69 [.v (.one (.ptr 0 0)), .v (.agg [.sym .u8 k, .sym .i64 a, .sym .i64 b]), .v (.one (.sym .i64 m))] (dH ys s i p len) (dK ys s (.v (.one (.sym .i64 (dNum s a b m)))) i p) := by
  obtain ⟨d1, d2, d3, d4⟩ := hd
  have w0 : IntKind.i64.wrap (b - a) = b - a := wr_id (by omega) (by omega)
  refine Eq.mpr (nfdnum ys s i p k a b m _ len) ?_
  rw [w0]
  have tail : ¬ m < b - a → ¬ (1 < b - a ∧ bt s a.toNat = 48) → _ := fun c1 c2 => (show (∃ (z : { j : Nat // a.toNat ≤ j ∧ j ≤ b.toNat }), (numL (subI s a z.val) = (0 : Int) ∧ (↑z.val : Int) = a ∧ True) ∧ (s = s ∧ ((0 : Nat) = (0 : Nat) ∧ len = len) ∧ i = i ∧ p = p ∧ True) ∧ SameRows dtkC ys dtkC ys ∧ (k = k ∧ a = a ∧ b = b ∧ True) ∧ True) ∧ ∀ (x : { j : Nat // a.toNat ≤ j ∧ j ≤ b.toNat }), (decide ((↑x.val : Int) < b) = true → ((0 : Int) ≤ (↑x.val : Int) ∧ (↑x.val : Int) < (↑s.length : Int)) ∧ ∃ (z : { j : Nat // a.toNat ≤ j ∧ j ≤ b.toNat }), (b.toNat - z.val).succ.le (b.toNat - x.val) ∧ (numL (subI s a z.val) = IntKind.i64.wrap (IntKind.i64.wrap ((10 : Int) * numL (subI s a x.val)) + IntKind.i64.wrap (IntKind.u8.wrap ((↑(s.getD (↑x.val : Int).toNat (0 : UInt8)).toNat : Int) - (48 : Int)))) ∧ (↑z.val : Int) = IntKind.i64.wrap ((↑x.val : Int) + (1 : Int)) ∧ True) ∧ (s = s ∧ ((0 : Nat) = (0 : Nat) ∧ len = len) ∧ i = i ∧ p = p ∧ True) ∧ SameRows dtkC ys dtkC ys ∧ (k = k ∧ a = a ∧ b = b ∧ True) ∧ True) ∧ (decide ((↑x.val : Int) < b) = false → (dNum s a b m = numL (subI s a x.val) ∧ True) ∧ (s = s ∧ ((0 : Nat) = (0 : Nat) ∧ ys.length = len) ∧ i = i ∧ p = p ∧ True) ∧ SameRows dtkC ys dtkC ys ∧ True) from by
    refine ⟨⟨⟨a.toNat, Nat.le_refl _, by omega⟩, ⟨by rw [subI_nil]; rfl, by simp only; omega, trivial⟩, ⟨rfl, ⟨rfl, rfl⟩, rfl, rfl, trivial⟩, sameT (C := dtkC) ys, ⟨rfl, rfl, rfl, trivial⟩, trivial⟩, fun ⟨j, j1, j2⟩ => ⟨fun y => ?_, fun y => ?_⟩⟩
    · have y : (j : Int) < b := of_decide_eq_true y
      have hjs : j < s.length := by omega
      obtain ⟨q1, q2⟩ := numL_bd (a := a) (b := b.toNat) d4 (by omega) (j - a.toNat) (by omega)
      rw [show a.toNat + (j - a.toNat) = j by omega] at q1 q2
      have q3 : ((10 ^ (j - a.toNat) : Nat) : Int) ≤ 10000 := by
        have : 10 ^ (j - a.toNat) ≤ 10 ^ 4 := Nat.pow_le_pow_right (by omega) (by omega)
        omega
      have q4 := digR_iff.1 (d4 j j1 (by omega))
      refine ⟨⟨by show (0 : Int) ≤ (j : Int); omega, by show (j : Int) < (s.length : Int); omega⟩, ⟨j + 1, by omega, by omega⟩, show b.toNat - (j + 1) + 1 ≤ b.toNat - j by omega, ⟨?_, ?_, trivial⟩, ⟨rfl, ⟨rfl, rfl⟩, rfl, rfl, trivial⟩, sameT (C := dtkC) ys, ⟨rfl, rfl, rfl, trivial⟩, trivial⟩
      · show numL (subI s a (j + 1)) = IntKind.i64.wrap (IntKind.i64.wrap (10 * numL (subI s a j)) + IntKind.i64.wrap (IntKind.u8.wrap (bt s j - 48)))
        rw [subI_succ j1 hjs, numL_app, wr8 (by omega) (by omega), wr_id (n := bt s j - 48) (by omega) (by omega), wr_id (n := 10 * numL (subI s a j)) (by omega) (by omega), wr_id (by omega) (by omega)]
        rfl
      · show ((j + 1 : Nat) : Int) = IntKind.i64.wrap ((j : Int) + 1)
        rw [wr_id (by omega) (by omega)]
        omega
    · have y : ¬ (j : Int) < b := of_decide_eq_false y
      have j2 : j ≤ b.toNat := j2
      have e : j = b.toNat := by omega
      refine ⟨⟨?_, trivial⟩, ⟨rfl, ⟨rfl, hl.symm⟩, rfl, rfl, trivial⟩, sameT (C := dtkC) ys, trivial⟩
      rw [dNum, if_neg c1, if_neg c2]
      show numL (subI s a b.toNat) = numL (subI s a j)
      rw [e])
  refine ⟨fun y => ⟨⟨?_, trivial⟩, ⟨rfl, ⟨rfl, hl.symm⟩, rfl, rfl, trivial⟩, sameT (C := dtkC) ys, trivial⟩, fun y => ⟨fun z => ⟨⟨d1, ?_⟩, fun u => ⟨⟨?_, trivial⟩, ⟨rfl, ⟨rfl, hl.symm⟩, rfl, rfl, trivial⟩, sameT (C := dtkC) ys, trivial⟩, fun u => tail (of_decide_eq_false y) (fun h => of_decide_eq_false u h.2)⟩, fun z => tail (of_decide_eq_false y) (fun h => of_decide_eq_false z h.1)⟩⟩
  · exact if_pos (of_decide_eq_true y)
  · have z := of_decide_eq_true z
    omega
  · rw [dNum, if_neg (of_decide_eq_false y), if_pos ⟨of_decide_eq_true z, of_decide_eq_true u⟩]
theorem hNumD : HoldsS P 69 89 100 dtkC qNumD := by
  refine ⟨Tryd.f69, by kernel_rfl, by kernel_rfl, fun os cs ys p v cs2 hq hp hno => ?_⟩
  unfold qNumD at hq
  split at hq
  · rename_i k a b m s len i pp
    simp only [Option.some.injEq, Prod.mk.injEq] at hq
    obtain ⟨rfl, rfl, rfl⟩ := hq
    obtain ⟨h1, h2, h3, h4⟩ := hp
    refine ⟨1000, annNum s a b, Z2 stdOn, [.v (.agg [.sym .u8 k, .sym .i64 a, .sym .i64 b]), .v (.one (.sym .i64 m))], rfl, pZ2 stdOn, rfl, fun pl vs h => ?_, ⟨num_run h1 h2 h3 h4⟩⟩
    match vs, h with
    | [u, v], h => exact ⟨h.1, h.2.1.imp (fun h => by cases h) id, trivial⟩
    | [], h => exact h.elim
    | [_], h => exact h.2.elim
    | _ :: _ :: _ :: _, h => exact h.2.2.elim
  · cases hq
def Z3 (o : OnB) : Sums := (((Z2 o).addSp 40 (stSpec 89 100 dtkC qTakeD)).addSp 46 (stSpec 89 100 dtkC qSignD)).addSp 69 (stSpec 89 100 dtkC qNumD)
theorem pZ3 (o : OnB) : OkS P (Z3 o) := (((pZ2 o).addSt fine hTakeD).addSt fine hSignD).addSt fine hNumD
end Go.AM

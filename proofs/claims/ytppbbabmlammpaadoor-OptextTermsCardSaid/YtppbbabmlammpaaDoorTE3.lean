import Derived.Test.YtppbbabmlammpaaDoorTE2
import Derived.Test.YtppbbabmlammpaaDoorTE4
set_option linter.unusedVariables false
set_option linter.unusedSimpArgs false
open Go Go.AM Go.Proofs
namespace Go.AM
open Dist
set_option maxRecDepth 100000
theorem nfspr (m : Nat) (s : List UInt8) (K : KV) : call P (YB stdOn) (annSpr m s) 10000 Tryd.f20 [.v (.one (.str s)), .v (.one (.sym .i64 m))] [] K = ((∃ (z : { x : SP // spA m s x }), (s = s ∧ (↑m : Int) = (↑m : Int) ∧ ((0 : Nat) = (0 : Nat) ∧ z.val.l.length = (0 : Nat)) ∧ (↑s.length : Int) = (↑s.length : Int) ∧ (↑z.val.i : Int) = (0 : Int) ∧ True) ∧ z.val.l.length = (0 : Nat) ∧ True) ∧ ∀ (x : { x : SP // spA m s x }), (decide ((↑x.val.i : Int) < (↑s.length : Int)) = true → ((decide ((0 : Int) < (↑x.val.i : Int)) = true → ((0 : Int) ≤ (↑x.val.i : Int) ∧ (↑x.val.i : Int) < (↑s.length : Int)) ∧ (decide ((48 : Int) ≤ (↑(s.getD (↑x.val.i : Int).toNat (0 : UInt8)).toNat : Int)) = true → ((0 : Int) ≤ (↑x.val.i : Int) ∧ (↑x.val.i : Int) < (↑s.length : Int)) ∧ (decide ((↑(s.getD (↑x.val.i : Int).toNat (0 : UInt8)).toNat : Int) ≤ (57 : Int)) = true → ((0 : Int) ≤ IntKind.i64.wrap ((↑x.val.i : Int) - (1 : Int)) ∧ IntKind.i64.wrap ((↑x.val.i : Int) - (1 : Int)) < (↑s.length : Int)) ∧ (decide ((48 : Int) ≤ (↑(s.getD (IntKind.i64.wrap ((↑x.val.i : Int) - (1 : Int))).toNat (0 : UInt8)).toNat : Int)) = true → ((0 : Int) ≤ IntKind.i64.wrap ((↑x.val.i : Int) - (1 : Int)) ∧ IntKind.i64.wrap ((↑x.val.i : Int) - (1 : Int)) < (↑s.length : Int)) ∧ ∃ (z : { x_1 : SP // spB m s (↑x.val.i : Int) x_1 ∧ x_1.j = (0 : Nat) }), (s = s ∧ (↑m : Int) = (↑m : Int) ∧ ((0 : Nat) = (0 : Nat) ∧ z.val.l.length = x.val.l.length) ∧ (↑x.val.i : Int) = (↑x.val.i : Int) ∧ dgt s (↑x.val.i : Int).toNat = decide ((↑(s.getD (IntKind.i64.wrap ((↑x.val.i : Int) - (1 : Int))).toNat (0 : UInt8)).toNat : Int) ≤ (57 : Int)) ∧ (↑s.length : Int) = (↑s.length : Int) ∧ (↑x.val.i : Int) = (↑x.val.i : Int) ∧ True) ∧ SameRows byC z.val.l byC x.val.l ∧ True) ∧ (decide ((48 : Int) ≤ (↑(s.getD (IntKind.i64.wrap ((↑x.val.i : Int) - (1 : Int))).toNat (0 : UInt8)).toNat : Int)) = false → ∃ (z : { x_1 : SP // spB m s (↑x.val.i : Int) x_1 ∧ x_1.j = (0 : Nat) }), (s = s ∧ (↑m : Int) = (↑m : Int) ∧ ((0 : Nat) = (0 : Nat) ∧ z.val.l.length = x.val.l.length) ∧ (↑x.val.i : Int) = (↑x.val.i : Int) ∧ dgt s (↑x.val.i : Int).toNat = false ∧ (↑s.length : Int) = (↑s.length : Int) ∧ (↑x.val.i : Int) = (↑x.val.i : Int) ∧ True) ∧ SameRows byC z.val.l byC x.val.l ∧ True)) ∧ (decide ((↑(s.getD (↑x.val.i : Int).toNat (0 : UInt8)).toNat : Int) ≤ (57 : Int)) = false → ∃ (z : { x_1 : SP // spB m s (↑x.val.i : Int) x_1 ∧ x_1.j = (0 : Nat) }), (s = s ∧ (↑m : Int) = (↑m : Int) ∧ ((0 : Nat) = (0 : Nat) ∧ z.val.l.length = x.val.l.length) ∧ (↑x.val.i : Int) = (↑x.val.i : Int) ∧ dgt s (↑x.val.i : Int).toNat = false ∧ (↑s.length : Int) = (↑s.length : Int) ∧ (↑x.val.i : Int) = (↑x.val.i : Int) ∧ True) ∧ SameRows byC z.val.l byC x.val.l ∧ True)) ∧ (decide ((48 : Int) ≤ (↑(s.getD (↑x.val.i : Int).toNat (0 : UInt8)).toNat : Int)) = false → ∃ (z : { x_1 : SP // spB m s (↑x.val.i : Int) x_1 ∧ x_1.j = (0 : Nat) }), (s = s ∧ (↑m : Int) = (↑m : Int) ∧ ((0 : Nat) = (0 : Nat) ∧ z.val.l.length = x.val.l.length) ∧ (↑x.val.i : Int) = (↑x.val.i : Int) ∧ dgt s (↑x.val.i : Int).toNat = false ∧ (↑s.length : Int) = (↑s.length : Int) ∧ (↑x.val.i : Int) = (↑x.val.i : Int) ∧ True) ∧ SameRows byC z.val.l byC x.val.l ∧ True)) ∧ (decide ((0 : Int) < (↑x.val.i : Int)) = false → ∃ (z : { x_1 : SP // spB m s (↑x.val.i : Int) x_1 ∧ x_1.j = (0 : Nat) }), (s = s ∧ (↑m : Int) = (↑m : Int) ∧ ((0 : Nat) = (0 : Nat) ∧ z.val.l.length = x.val.l.length) ∧ (↑x.val.i : Int) = (↑x.val.i : Int) ∧ dgt s (↑x.val.i : Int).toNat = false ∧ (↑s.length : Int) = (↑s.length : Int) ∧ (↑x.val.i : Int) = (↑x.val.i : Int) ∧ True) ∧ SameRows byC z.val.l byC x.val.l ∧ True)) ∧ ∀ (x_1 : { x_1 : SP // spB m s (↑x.val.i : Int) x_1 ∧ x_1.j = (0 : Nat) }), (∃ (z : { x_2 : SP // spB m s (↑x.val.i : Int) x_2 }), (s = s ∧ (↑m : Int) = (↑m : Int) ∧ ((0 : Nat) = (0 : Nat) ∧ z.val.l.length = x_1.val.l.length) ∧ (↑x.val.i : Int) = (↑x.val.i : Int) ∧ dgt s (↑x.val.i : Int).toNat = dgt s (↑x.val.i : Int).toNat ∧ (↑s.length : Int) = (↑s.length : Int) ∧ (↑x.val.i : Int) = (↑x.val.i : Int) ∧ (↑m : Int) = (↑m : Int) ∧ (↑z.val.j : Int) = (0 : Int) ∧ True) ∧ SameRows byC z.val.l byC x_1.val.l ∧ True) ∧ ∀ (x_2 : { x_2 : SP // spB m s (↑x.val.i : Int) x_2 }), (decide ((↑x_2.val.j : Int) < (↑m : Int)) = true → ((!dgt s (↑x.val.i : Int).toNat) = true → (x_2.val.l.length = x_2.val.l.length ∧ ((x_2.val.l.length + (1 : Nat)) * 1).le (140737488355328 : Nat) ∧ (x_2.val.l.length + (1 : Nat)).le (4611686018427387904 : Nat)) ∧ ∃ (z : { x_3 : SP // spB m s (↑x.val.i : Int) x_3 }), (m - z.val.j).succ.le (m - x_2.val.j) ∧ (s = s ∧ (↑m : Int) = (↑m : Int) ∧ ((0 : Nat) = (0 : Nat) ∧ z.val.l.length = x_2.val.l.length + (1 : Nat)) ∧ (↑x.val.i : Int) = (↑x.val.i : Int) ∧ dgt s (↑x.val.i : Int).toNat = dgt s (↑x.val.i : Int).toNat ∧ (↑s.length : Int) = (↑s.length : Int) ∧ (↑x.val.i : Int) = (↑x.val.i : Int) ∧ (↑m : Int) = (↑m : Int) ∧ (↑z.val.j : Int) = IntKind.i64.wrap ((↑x_2.val.j : Int) + (1 : Int)) ∧ True) ∧ SameRows byC z.val.l byC (x_2.val.l ++ [UInt8.ofNat (Int.toNat (32 : Int))]) ∧ True) ∧ ((!dgt s (↑x.val.i : Int).toNat) = false → ∃ (z : { x_3 : SP // spB m s (↑x.val.i : Int) x_3 }), (m - z.val.j).succ.le (m - x_2.val.j) ∧ (s = s ∧ (↑m : Int) = (↑m : Int) ∧ ((0 : Nat) = (0 : Nat) ∧ z.val.l.length = x_2.val.l.length) ∧ (↑x.val.i : Int) = (↑x.val.i : Int) ∧ dgt s (↑x.val.i : Int).toNat = dgt s (↑x.val.i : Int).toNat ∧ (↑s.length : Int) = (↑s.length : Int) ∧ (↑x.val.i : Int) = (↑x.val.i : Int) ∧ (↑m : Int) = (↑m : Int) ∧ (↑z.val.j : Int) = IntKind.i64.wrap ((↑x_2.val.j : Int) + (1 : Int)) ∧ True) ∧ SameRows byC z.val.l byC x_2.val.l ∧ True)) ∧ (decide ((↑x_2.val.j : Int) < (↑m : Int)) = false → ((0 : Int) ≤ (↑x.val.i : Int) ∧ (↑x.val.i : Int) < (↑s.length : Int)) ∧ ∃ (z : List UInt8), SameNum byC z (1 : Nat) [if false = true then SV.con IntKind.u8 (↑(s.getD (↑x.val.i : Int).toNat (0 : UInt8)).toNat : Int) else SV.sym IntKind.u8 (↑(s.getD (↑x.val.i : Int).toNat (0 : UInt8)).toNat : Int)] ∧ (x_2.val.l.length = x_2.val.l.length ∧ ((x_2.val.l.length + (1 : Nat)) * 1).le (140737488355328 : Nat) ∧ (x_2.val.l.length + (1 : Nat)).le (4611686018427387904 : Nat)) ∧ ∃ (z_1 : { x : SP // spA m s x }), (s.length - z_1.val.i).succ.le (s.length - x.val.i) ∧ (s = s ∧ (↑m : Int) = (↑m : Int) ∧ ((0 : Nat) = (0 : Nat) ∧ z_1.val.l.length = x_2.val.l.length + (1 : Nat)) ∧ (↑s.length : Int) = (↑s.length : Int) ∧ (↑z_1.val.i : Int) = IntKind.i64.wrap ((↑x.val.i : Int) + (1 : Int)) ∧ True) ∧ SameRows byC z_1.val.l byC (x_2.val.l ++ z) ∧ True)) ∧ (decide ((↑x.val.i : Int) < (↑s.length : Int)) = false → (∃ (z : { x : SP // spC m s x }), (((0 : Nat) = (0 : Nat) ∧ z.val.l.length = x.val.l.length) ∧ (↑m : Int) = (↑m : Int) ∧ (↑z.val.j : Int) = (0 : Int) ∧ True) ∧ SameRows byC z.val.l byC x.val.l ∧ True) ∧ ∀ (x : { x : SP // spC m s x }), (decide ((↑x.val.j : Int) < (↑m : Int)) = true → (x.val.l.length = x.val.l.length ∧ ((x.val.l.length + (1 : Nat)) * 1).le (140737488355328 : Nat) ∧ (x.val.l.length + (1 : Nat)).le (4611686018427387904 : Nat)) ∧ ∃ (z : { x : SP // spC m s x }), (m - z.val.j).succ.le (m - x.val.j) ∧ (((0 : Nat) = (0 : Nat) ∧ z.val.l.length = x.val.l.length + (1 : Nat)) ∧ (↑m : Int) = (↑m : Int) ∧ (↑z.val.j : Int) = IntKind.i64.wrap ((↑x.val.j : Int) + (1 : Int)) ∧ True) ∧ SameRows byC z.val.l byC (x.val.l ++ [UInt8.ofNat (Int.toNat (32 : Int))]) ∧ True) ∧ (decide ((↑x.val.j : Int) < (↑m : Int)) = false → ∃ (z : List Int), SameRows biC z byC x.val.l ∧ ((0 : Nat) + x.val.l.length).le x.val.l.length ∧ K (AV.v (PV.one (SV.str (List.map byteI (List.take x.val.l.length (List.drop (0 : Nat) z)))))) []))) := by kernel_rfl
def qSpread : PSpec
  | [.v (.one (.str s)), .v (.one (.sym .i64 k))] => .iff (s.length ≤ 10000 ∧ 0 ≤ k ∧ k ≤ 3) (.v (.one (.str (sprF k.toNat s))))
  | _ => .fail
theorem bytes_ri (l : List UInt8) : SameRows biC (l.map fun b => (b.toNat : Int)) byC l := by
  refine ⟨List.length_map .., ?_⟩
  induction l with
  | nil => rfl
  | cons b l ih =>
    show [SV.sym .u8 (b.toNat : Int)] ++ flatC biC (l.map fun b => (b.toNat : Int)) = [SV.sym .u8 (b.toNat : Int)] ++ flatC byC l
    rw [ih]
theorem bytes_back : ∀ (l : List UInt8), List.map byteI (List.take l.length (List.drop 0 (l.map fun b => (b.toNat : Int)))) = l
  | [] => rfl
  | b :: l => by
    have := bytes_back l
    simp only [List.drop_zero, List.map_cons, List.length_cons, List.take_succ_cons] at this ⊢
    rw [this]
    congr 1
    simp [byteI]
theorem num1 (b : UInt8) (n : Int) (h : (b.toNat : Int) = n) : SameNum byC [b] 1 [if false = true then SV.con IntKind.u8 n else SV.sym IntKind.u8 n] := by
  subst h
  refine ⟨rfl, ?_⟩
  rw [if_neg (by decide)]
  show numEq [SV.sym .u8 (b.toNat : Int)] [SV.sym .u8 (b.toNat : Int)]
  exact ⟨by rw [if_pos rfl], trivial⟩
theorem digR_tt {b : UInt8} (h1 : decide ((48 : Int) ≤ (b.toNat : Int)) = true) (h2 : decide ((b.toNat : Int) ≤ 57) = true) : digR (b.toNat : Int) = true := by
  unfold digR; rw [h1, h2]; rfl
theorem digR_f1 {b : UInt8} (h1 : decide ((48 : Int) ≤ (b.toNat : Int)) = false) : digR (b.toNat : Int) = false := by
  unfold digR; rw [h1]; rfl
theorem digR_f2 {b : UInt8} (h1 : decide ((b.toNat : Int) ≤ 57) = false) : digR (b.toNat : Int) = false := by
  unfold digR; rw [h1, Bool.and_false]
theorem bl_succ {m j : Nat} (h : j < m) : bl (m - j) = 32 :: bl (m - (j + 1)) := by
  unfold bl
  rw [show m - j = (m - (j + 1)) + 1 by omega, List.replicate_succ]
theorem spread_run {m : Nat} {s : List UInt8} (hm : m ≤ 3) (hs : s.length ≤ 10000) {v : Value} (hv : v = .string ⟨(sprF m s).toArray⟩) :
    call P (YB stdOn) (annSpr m s) 10000 Tryd.f20 [.v (.one (.str s)), .v (.one (.sym .i64 m))] [] (fun v' h => v'.valOf = some v ∧ h = []) := by
  rw [nfspr]
  have wi : ∀ i : Nat, i ≤ 10000 → IntKind.i64.wrap ((i : Int) + 1) = ((i + 1 : Nat) : Int) := fun i h => by rw [wr_id (by omega) (by omega)]; omega
  refine ⟨⟨⟨⟨0, 0, []⟩, ⟨rfl, Nat.zero_le _, Nat.le_refl _⟩⟩, ⟨rfl, rfl, ⟨rfl, rfl⟩, rfl, rfl, trivial⟩, rfl, trivial⟩, fun ⟨⟨i, jj, l⟩, ⟨a1, a2, a3⟩⟩ => ?_⟩
  simp only at a1 a2 a3
  refine ⟨fun hi => ?_, fun hi => ?_⟩
  · have hi : i < s.length := by have := of_decide_eq_true hi; simp only at this; omega
    have b0 : (0 : Int) ≤ (i : Int) := by omega
    have b1 : (i : Int) < (s.length : Int) := by omega
    have st : spB m s (i : Int) ⟨i, 0, l⟩ := by
      refine ⟨?_, by simpa using hi, Nat.zero_le _, by simpa using a3⟩
      have e : s.length - i = (s.length - (i + 1)) + 1 := by omega
      rw [e] at a1
      exact a1
    have tn : ((i : Int)).toNat = i := by simp
    refine ⟨⟨fun h0 => ?_, fun h0 => ?_⟩, fun ⟨⟨_, j1, l1⟩, ⟨c1, c2⟩⟩ => ?_⟩
    · have h0 : 0 < i := by have := of_decide_eq_true h0; simp only at this; omega
      have w1 : IntKind.i64.wrap ((i : Int) - 1) = ((i - 1 : Nat) : Int) := by rw [wr_id (by omega) (by omega)]; omega
      have b2 : (0 : Int) ≤ IntKind.i64.wrap ((i : Int) - 1) := by rw [w1]; omega
      have b3 : IntKind.i64.wrap ((i : Int) - 1) < (s.length : Int) := by rw [w1]; omega
      have tw : (IntKind.i64.wrap ((i : Int) - 1)).toNat = i - 1 := by rw [w1]; simp
      have hd : ∀ v : Bool, (digR ((s.getD i 0).toNat : Int) && digR ((s.getD (i - 1) 0).toNat : Int)) = v → dgt s ((i : Int)).toNat = v := fun v h => by
        unfold dgt
        rw [tn, decide_eq_true h0, Bool.true_and]
        exact h
      refine ⟨⟨b0, b1⟩, fun d1 => ⟨⟨b0, b1⟩, fun d2 => ⟨⟨b2, b3⟩, fun d3 => ⟨⟨b2, b3⟩, ⟨⟨i, 0, l⟩, st, rfl⟩, ⟨rfl, rfl, ⟨rfl, rfl⟩, rfl, ?_, rfl, rfl, trivial⟩, sameE rfl, trivial⟩, fun d3 => ⟨⟨⟨i, 0, l⟩, st, rfl⟩, ⟨rfl, rfl, ⟨rfl, rfl⟩, rfl, ?_, rfl, rfl, trivial⟩, sameE rfl, trivial⟩⟩, fun d2 => ⟨⟨⟨i, 0, l⟩, st, rfl⟩, ⟨rfl, rfl, ⟨rfl, rfl⟩, rfl, ?_, rfl, rfl, trivial⟩, sameE rfl, trivial⟩⟩, fun d1 => ⟨⟨⟨i, 0, l⟩, st, rfl⟩, ⟨rfl, rfl, ⟨rfl, rfl⟩, rfl, ?_, rfl, rfl, trivial⟩, sameE rfl, trivial⟩⟩
      · rw [tn] at d1 d2
        rw [tw] at d3
        refine hd _ ?_
        rw [digR_tt d1 d2, Bool.true_and, tw]
        unfold digR
        rw [d3, Bool.true_and]
      · rw [tw] at d3
        exact hd _ (by rw [digR_f1 d3, Bool.and_false])
      · rw [tn] at d2
        exact hd _ (by rw [digR_f2 d2, Bool.false_and])
      · rw [tn] at d1
        exact hd _ (by rw [digR_f1 d1, Bool.false_and])
    · have h0 : ¬ 0 < i := by have := of_decide_eq_false h0; simp only at this; omega
      refine ⟨⟨⟨i, 0, l⟩, st, rfl⟩, ⟨rfl, rfl, ⟨rfl, rfl⟩, rfl, ?_, rfl, rfl, trivial⟩, sameE rfl, trivial⟩
      show dgt s ((i : Int)).toNat = false
      unfold dgt
      rw [tn, decide_eq_false h0, Bool.false_and]
    · simp only at c2
      subst c2
      refine ⟨⟨⟨⟨i, 0, l1⟩, c1⟩, ⟨rfl, rfl, ⟨rfl, rfl⟩, rfl, rfl, rfl, rfl, rfl, rfl, trivial⟩, sameE rfl, trivial⟩, fun ⟨⟨_, j, l2⟩, e1, e2, e3, e4⟩ => ?_⟩
      simp only [tn] at e1 e2 e3 e4
      refine ⟨fun hj => ?_, fun hj => ?_⟩
      · have hj : j < m := by have := of_decide_eq_true hj; simp only at this; omega
        refine ⟨fun hd => ⟨⟨rfl, by show (l2.length + 1) * 1 ≤ 140737488355328; omega, by show l2.length + 1 ≤ 4611686018427387904; omega⟩, ⟨⟨i, j + 1, l2 ++ [32]⟩, ?_⟩, by show (m - (j + 1)) + 1 ≤ m - j; omega, ⟨rfl, rfl, ⟨rfl, lenA _ _⟩, rfl, rfl, rfl, rfl, rfl, (wi j (by omega)).symm, trivial⟩, sameE rfl, trivial⟩, fun hd => ⟨⟨⟨i, j + 1, l2⟩, ?_⟩, by show (m - (j + 1)) + 1 ≤ m - j; omega, ⟨rfl, rfl, ⟨rfl, rfl⟩, rfl, rfl, rfl, rfl, rfl, (wi j (by omega)).symm, trivial⟩, sameE rfl, trivial⟩⟩
        · have hd : dgt s i = false := by rw [tn] at hd; simpa using hd
          refine ⟨?_, by simpa using e2, hj, by simp only [List.length_append, List.length_cons, List.length_nil, tn]; omega⟩
          rw [hd] at e1
          simp only [tn]
          rw [hd, ← e1, if_neg (by decide), if_neg (by decide), bl_succ hj]
          simp
        · have hd : dgt s i = true := by rw [tn] at hd; simpa using hd
          refine ⟨?_, by simpa using e2, hj, by simp only [tn]; omega⟩
          rw [hd] at e1
          simp only [tn]
          rw [hd, ← e1, if_pos rfl, if_pos rfl]
      · have hj : j = m := by have := of_decide_eq_false hj; simp only at this; omega
        subst hj
        refine ⟨⟨b0, b1⟩, [s.getD i 0], num1 _ _ (by rw [tn]), ⟨rfl, by show (l2.length + 1) * 1 ≤ 140737488355328; omega, by show l2.length + 1 ≤ 4611686018427387904; omega⟩, ⟨⟨i + 1, 0, l2 ++ [s.getD i 0]⟩, ?_⟩, by show (s.length - (i + 1)) + 1 ≤ s.length - i; omega, ⟨rfl, rfl, ⟨rfl, lenA _ _⟩, rfl, (wi i (by omega)).symm, trivial⟩, sameE rfl, trivial⟩
        refine ⟨?_, by show i + 1 ≤ s.length; omega, by show (l2 ++ [s.getD i 0]).length ≤ 4 * (i + 1); simp only [List.length_append, List.length_cons, List.length_nil]; omega⟩
        rw [← e1, Nat.sub_self]
        show (l2 ++ [s.getD i 0]) ++ sprP j s (s.length - (i + 1)) (i + 1) = l2 ++ ((if dgt s i = true then [] else bl 0) ++ (s.getD i 0 :: sprP j s (s.length - (i + 1)) (i + 1)))
        have : (if dgt s i = true then [] else bl 0) = [] := by split <;> rfl
        rw [this]
        simp
  · have hi : i = s.length := by have := of_decide_eq_false hi; simp only at this; omega
    subst hi
    refine ⟨⟨⟨⟨0, 0, l⟩, ?_⟩, ⟨⟨rfl, rfl⟩, rfl, rfl, trivial⟩, sameE rfl, trivial⟩, fun ⟨⟨_, j, l2⟩, e1, e2, e3⟩ => ?_⟩
    · refine ⟨?_, Nat.zero_le _, by simpa using a3⟩
      rw [Nat.sub_self] at a1
      exact a1
    · simp only at e1 e2 e3
      refine ⟨fun hj => ?_, fun hj => ?_⟩
      · have hj : j < m := by have := of_decide_eq_true hj; simp only at this; omega
        refine ⟨⟨rfl, by show (l2.length + 1) * 1 ≤ 140737488355328; omega, by show l2.length + 1 ≤ 4611686018427387904; omega⟩, ⟨⟨0, j + 1, l2 ++ [32]⟩, ?_⟩, by show (m - (j + 1)) + 1 ≤ m - j; omega, ⟨⟨rfl, lenA _ _⟩, rfl, (wi j (by omega)).symm, trivial⟩, sameE rfl, trivial⟩
        refine ⟨?_, hj, by simp only [List.length_append, List.length_cons, List.length_nil]; omega⟩
        rw [← e1, bl_succ hj]
        simp
      · have hj : j = m := by have := of_decide_eq_false hj; simp only at this; omega
        subst hj
        refine ⟨l2.map (fun b => (b.toNat : Int)), bytes_ri l2, by show 0 + l2.length ≤ l2.length; omega, ?_⟩
        rw [bytes_back]
        have : l2 = sprF j s := by
          rw [← e1, Nat.sub_self]
          simp [bl]
        show (AV.v (PV.one (SV.str l2))).valOf = some v ∧ ([] : Heap) = []
        rw [hv]
        exact leafT this
theorem hSpread : HoldsE P 20 qSpread := by
  refine ⟨Tryd.f20, by kernel_rfl, by kernel_rfl, fun args av hg => ?_⟩
  unfold qSpread at hg
  split at hg
  · rename_i s k
    obtain ⟨⟨q1, q2, q3⟩, rfl⟩ := givesIff hg
    obtain ⟨m, rfl⟩ := Int.eq_ofNat_of_zero_le q2
    refine ⟨rfl, .string ⟨(sprF m s).toArray⟩, 10000, annSpr m s, YB stdOn, rfl, pYB stdOn, rfl, spread_run (by omega) q1 rfl⟩
  · exact (gives_fail hg).elim
def YC (o : OnB) : Sums := (YB o).add 20 qSpread
theorem pYC (o : OnB) : OkS P (YC o) := (pYB o).add fine hSpread
end Go.AM

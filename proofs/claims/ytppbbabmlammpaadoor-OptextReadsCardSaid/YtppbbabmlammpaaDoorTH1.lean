import Derived.Test.YtppbbabmlammpaaDoorTG8
import Derived.Test.YtppbbabmlammpaaDoorTH0
import Derived.Test.YtppbbabmlammpaaDoorTTB
set_option linter.unusedVariables false
set_option linter.unusedSimpArgs false
open Go Go.AM Go.Proofs
namespace Go.AM
open Dist
set_option maxRecDepth 100000
structure Two (s : List UInt8) (ds : List DTok) (ys : List Tok) : Prop where
  hs : s.length ≤ 65536
  h0 : 0 < @List.length DTok ds
  h1 : @List.length DTok ds ≤ @List.length Tok ys
  h2 : ∀ i < @List.length DTok ds, VT s (dk ds i) (tk ys i) ∧ (i + 1 < @List.length DTok ds ↔ ¬ endK (dk ds i))
theorem dk_nat (ds : List DTok) (i : Nat) : dk ds (i : Int) = ds.getD i ⟨0, 0, 0⟩ := by
  unfold dk
  rw [Int.toNat_natCast]
  rfl
theorem two_all {s : List UInt8} (hs : s.length ≤ 65536) : Two s (dtoks s) (toks s) := by
  obtain ⟨h0, h1, h2⟩ := rel_at (rel_all s)
  exact ⟨hs, h0, h1, fun i hi => by rw [dk_nat]; exact h2 i hi⟩
theorem sub_len {s : List UInt8} {i j : Nat} (h : i ≤ j) (hj : j ≤ s.length) : (sub s i j).length = j - i := by
  simp only [sub, List.length_take, List.length_drop]
  omega
theorem sub_get {s : List UInt8} {i j k : Nat} (hj : j ≤ s.length) (hk : i + k < j) : (sub s i j).getD k 0 = s.getD (i + k) 0 := by
  unfold sub
  rw [List.getD_eq_getElem?_getD, List.getElem?_take, if_pos (by omega), List.getElem?_drop, ← List.getD_eq_getElem?_getD]
theorem dig_at {s : List UInt8} {i j : Nat} (h : i ≤ j) (hj : j ≤ s.length) (hd : digs (sub s i j)) : DigAt s i j := by
  refine ⟨by omega, by omega, by omega, fun k hk1 hk2 => ?_⟩
  have hk1 : i ≤ k := by omega
  have hk2 : k < j := by omega
  have hl := sub_len h hj
  have hm : (sub s i j).getD (k - i) 0 ∈ sub s i j := by
    rw [List.getD_eq_getElem?_getD, List.getElem?_eq_getElem (by omega)]
    exact List.getElem_mem _
  rw [sub_get hj (by omega), show i + (k - i) = k by omega] at hm
  have := hd.2 _ hm
  unfold digB at this
  exact digR_iff.2 (by unfold bt; omega)
section
variable {s : List UInt8} {ds : List DTok} {ys : List Tok}
theorem dk_out {i : Int} (h : ¬ (i.toNat < @List.length DTok ds)) : dk ds i = ⟨0, 0, 0⟩ := by
  show List.getD ds i.toNat (⟨0, 0, 0⟩ : DTok) = _
  rw [List.getD_eq_getElem?_getD, List.getElem?_eq_none (Nat.le_of_not_lt h)]
  rfl
theorem sym_not {b : UInt8} (h : symB b) : (b.toNat : Int) ≠ 48 ∧ (b.toNat : Int) ≠ 0 ∧ (b.toNat : Int) ≠ 101 := by rcases h with e | e | e | e | e | e | e <;> subst e <;> decide
theorem Two.dok (t : Two s ds ys) (hl : @List.length DTok ds ≤ 4611686018427387904) : DOk s ds := by
  refine ⟨t.hs, hl, fun i => ?_⟩
  by_cases h : i.toNat < @List.length DTok ds
  · have hv := (t.h2 i.toNat h).1
    have e : dk ds ((i.toNat : Nat) : Int) = dk ds i := by unfold dk; rw [Int.toNat_natCast]
    rw [e] at hv
    generalize dk ds i = d at hv
    generalize tk ys i.toNat = y at hv
    cases hv with
    | num a b h1 h2 h3 => exact ⟨by simp only; omega, fun _ => dig_at (Nat.le_of_lt h1) h2 h3⟩
    | sym b a h1 => exact ⟨by simp only; omega, fun h => absurd h (sym_not h1).1⟩
    | bad a t => exact ⟨by simp only; omega, fun h => absurd (show (0 : Int) = 48 from h) (by decide)⟩
    | fin n => exact ⟨by simp only; omega, fun h => absurd (show (101 : Int) = 48 from h) (by decide)⟩
  · rw [dk_out h]
    exact ⟨Int.le_refl _, fun h => absurd (show (0 : Int) = 48 from h) (by decide)⟩
structure Same (s : List UInt8) (d : DTok) (y : Tok) : Prop where
  pos : y.pos = d.pos
  n : y.kind = 110 ↔ d.kind = 48
  l : y.kind = 120 ↔ isLet d.kind
  lt : y.kind = 120 → (y.text = [120] ↔ d.kind = 120) ∧ (y.text = [121] ↔ d.kind = 121)
  g : y.kind = 43 ↔ d.kind = 43 ∨ d.kind = 45
  gt : y.kind = 43 → (y.text = [45] ↔ d.kind = 45)
  sl : y.kind = 47 ↔ d.kind = 47
  co : y.kind = 44 ↔ d.kind = 44
  en : y.kind = 46 ↔ d.kind = 101
theorem VT.same {d : DTok} {y : Tok} (h : VT s d y) : Same s d y := by
  cases h with
  | num i j h1 h2 h3 => constructor <;> simp [isLet]
  | sym b i h1 => rcases h1 with e | e | e | e | e | e | e <;> subst e <;> constructor <;> simp [isLet, kindR, digR]
  | bad i t => constructor <;> simp [isLet]
  | fin n => constructor <;> simp [isLet]
theorem decFrom_num : ∀ (l : List UInt8) (n : Nat), (∀ b ∈ l, digB b) → ∃ m : Nat, Lib.decFrom n l = some m ∧ (m : Int) = l.foldl (fun a b => 10 * a + ((b.toNat : Int) - 48)) (n : Int)
  | [], n, _ => ⟨n, rfl, rfl⟩
  | b :: l, n, h => by
    have hb := h b (by simp)
    unfold digB at hb
    obtain ⟨m, h1, h2⟩ := decFrom_num l (n * 10 + (b.toNat - 48)) (fun c hc => h c (by simp [hc]))
    refine ⟨m, ?_, ?_⟩
    · unfold Lib.decFrom
      have : Lib.digitVal b = some (b.toNat - 48) := by unfold Lib.digitVal; rw [if_pos hb]
      rw [this]
      exact h1
    · rw [h2, List.foldl_cons]
      congr 1
      omega
theorem atoi_num {l : List UInt8} (h : digs l) : Lib.atoi l = some (numL l) := by
  obtain ⟨m, h1, h2⟩ := decFrom_num l 0 h.2
  rw [atoi_digs h h1]
  unfold numL
  rw [h2]
  rfl
theorem numL_lo {l : List UInt8} (h : ∀ b ∈ l, digB b) : ∀ a : Int, 0 ≤ a → a * 10 ^ l.length ≤ l.foldl (fun a b => 10 * a + ((b.toNat : Int) - 48)) a := by
  induction l with
  | nil => intro a _; simp
  | cons b l ih =>
    intro a ha
    have hb := h b (by simp)
    unfold digB at hb
    have := ih (fun c hc => h c (by simp [hc])) (10 * a + ((b.toNat : Int) - 48)) (by omega)
    rw [List.foldl_cons, List.length_cons, Int.pow_succ]
    refine Int.le_trans ?_ this
    have hp10 : (0 : Int) ≤ 10 ^ l.length := Int.pow_nonneg (by omega)
    rw [show a * (10 ^ l.length * 10) = (10 * a) * 10 ^ l.length by rw [Int.mul_comm (10 ^ l.length) 10, ← Int.mul_assoc, Int.mul_comm a 10]]
    exact Int.mul_le_mul_of_nonneg_right (by omega) hp10
theorem numL_hi {l : List UInt8} (h : ∀ b ∈ l, digB b) : ∀ a : Int, 0 ≤ a → l.foldl (fun a b => 10 * a + ((b.toNat : Int) - 48)) a < (a + 1) * 10 ^ l.length := by
  induction l with
  | nil => intro a _; simp; omega
  | cons b l ih =>
    intro a ha
    have hb := h b (by simp)
    unfold digB at hb
    have := ih (fun c hc => h c (by simp [hc])) (10 * a + ((b.toNat : Int) - 48)) (by omega)
    rw [List.foldl_cons, List.length_cons, Int.pow_succ]
    refine Int.lt_of_lt_of_le this ?_
    have hp10 : (0 : Int) ≤ 10 ^ l.length := Int.pow_nonneg (by omega)
    rw [show (a + 1) * (10 ^ l.length * 10) = (10 * (a + 1)) * 10 ^ l.length by rw [Int.mul_comm (10 ^ l.length) 10, ← Int.mul_assoc, Int.mul_comm (a + 1) 10]]
    exact Int.mul_le_mul_of_nonneg_right (by omega) hp10
theorem numL_len {l : List UInt8} (h : digs l) : 0 ≤ numL l ∧ numL l < 10 ^ l.length ∧ (¬ l.getD 0 0 = 48 → (10 : Int) ^ (l.length - 1) ≤ numL l) := by
  have h1 := numL_lo h.2 0 (Int.le_refl _)
  have h2 := numL_hi h.2 0 (Int.le_refl _)
  rw [Int.zero_mul] at h1
  rw [Int.zero_add, Int.one_mul] at h2
  refine ⟨h1, h2, fun h0 => ?_⟩
  cases l with
  | nil => exact absurd rfl h.1
  | cons b r =>
    have hb := h.2 b (by simp)
    have hr := numL_lo (l := r) (fun c hc => h.2 c (by simp [hc])) (10 * 0 + ((b.toNat : Int) - 48))
    have hb0 : b.toNat ≠ 48 := fun e => h0 (by
      show b = 48
      exact UInt8.toNat_inj.1 e)
    unfold digB at hb
    have hr := hr (by omega)
    show (10 : Int) ^ r.length ≤ numL (b :: r)
    unfold numL
    rw [List.foldl_cons]
    refine Int.le_trans ?_ hr
    have hp10 : (0 : Int) ≤ 10 ^ r.length := Int.pow_nonneg (by omega)
    have := Int.mul_le_mul_of_nonneg_right (show (1 : Int) ≤ 10 * 0 + ((b.toNat : Int) - 48) by omega) hp10
    rw [Int.one_mul] at this
    exact this
theorem subI_sub (s : List UInt8) (i j : Nat) : subI s (i : Int) j = sub s i j := by unfold subI sub; rw [Int.toNat_natCast]
theorem num_two {i j : Nat} (h1 : i < j) (h2 : j ≤ s.length) (h3 : digs (sub s i j)) :
    numV (sub s i j) 999 = dNum s i j 3 ∧ (numV (sub s i j) 1000 < 1 ↔ dNum s i j 4 < 1 ∨ 1000 < dNum s i j 4) ∧ (¬ numV (sub s i j) 1000 < 1 → numV (sub s i j) 1000 = dNum s i j 4) := by
  obtain ⟨n1, n2, n3⟩ := numL_len h3
  have hl := sub_len (Nat.le_of_lt h1) h2
  have ha := atoi_num h3
  have hz : (sub s i j).getD 0 0 = 48 ↔ bt s (i : Int).toNat = 48 := by
    rw [sub_get h2 (by omega), Nat.add_zero, Int.toNat_natCast]
    unfold bt
    constructor
    · intro h; rw [h]; rfl
    · intro h
      exact UInt8.toNat_inj.1 (by show (s.getD i 0).toNat = 48; omega)
  have hn : subI s (i : Int) (j : Int).toNat = sub s i j := by rw [Int.toNat_natCast, subI_sub]
  unfold numV dNum
  rw [ha, hn]
  simp only [Option.getD_some]
  generalize numL (sub s i j) = v at *
  by_cases c4 : 4 < (sub s i j).length
  · rw [if_pos c4, if_pos c4, if_pos (by omega), if_pos (by omega)]
    omega
  · rw [if_neg c4, if_neg c4, if_neg (show ¬ (4 : Int) < (j : Int) - i by omega)]
    by_cases cz : 1 < (sub s i j).length ∧ (sub s i j).getD 0 0 = 48
    · rw [if_pos cz, if_pos cz, if_pos (show 1 < (j : Int) - i ∧ bt s (i : Int).toNat = 48 from ⟨by omega, hz.1 cz.2⟩)]
      refine ⟨?_, by omega, by omega⟩
      by_cases c3 : (3 : Int) < (j : Int) - i
      · rw [if_pos c3]
      · rw [if_neg c3]
    · have cz' : ¬ (1 < (j : Int) - i ∧ bt s (i : Int).toNat = 48) := fun h => cz ⟨by omega, hz.2 h.2⟩
      rw [if_neg cz, if_neg cz, if_neg cz']
      by_cases c3 : (3 : Int) < (j : Int) - i
      · rw [if_pos c3]
        have h4 : (sub s i j).length = 4 := by omega
        have h9 : ¬ (sub s i j).getD 0 0 = 48 := fun h => cz ⟨by omega, h⟩
        have := n3 h9
        rw [h4] at this n2
        simp at this n2
        rw [if_pos (by omega)]
        refine ⟨rfl, ?_, ?_⟩ <;> split <;> omega
      · rw [if_neg c3]
        have n4 : v < 1000 := by
          have : (10 : Int) ^ (sub s i j).length ≤ 10 ^ 3 := by
            have h9 : (sub s i j).length = 1 ∨ (sub s i j).length = 2 ∨ (sub s i j).length = 3 := by omega
            rcases h9 with e | e | e <;> rw [e] <;> decide
          omega
        rw [if_neg (by omega), if_neg (by omega)]
        refine ⟨rfl, by omega, fun _ => rfl⟩
end
end Go.AM

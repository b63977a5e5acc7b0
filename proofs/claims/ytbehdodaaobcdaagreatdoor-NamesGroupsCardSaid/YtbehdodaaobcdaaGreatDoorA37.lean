import Derived.Test.YtbehdodaaobcdaaGreatDoorA35
import Derived.Test.YtbehdodaaobcdaaGreatDoorA36
import Derived.Test.YtbehdodaaobcdaaGreatDoorA27
set_option maxHeartbeats 4000000
open Go Go.AM Go.Proofs
namespace Go.AM
open Dist
set_option maxRecDepth 100000
structure Two (s : List UInt8) (ds : List DTok) (ys : List Tok) : Prop where
  hs : s.length ≤ 65536
  h0 : 0 < @List.length DTok ds
  h1 : @List.length DTok ds ≤ @List.length Tok ys
  h2 : ∀ i < @List.length DTok ds, VT s (dk ds i) (tk ys i) ∧ (i + 1 < @List.length DTok ds ↔ ¬ endK (dk ds i))
theorem dk_nat (ds : List DTok) (i : Nat) : dk ds (i : Int) = ds.getD i ⟨0, 0, 0⟩ := by
  unfold dk
  rw [Int.toNat_natCast]
  rfl
theorem two_all {s : List UInt8} (hs : s.length ≤ 65536) : Two s (dtoks s) (toks s) := by
  obtain ⟨h0, h1, h2⟩ := rel_at (rel_all s)
  exact ⟨hs, h0, h1, fun i hi => by rw [dk_nat]; exact h2 i hi⟩
theorem sub_len {s : List UInt8} {i j : Nat} (h : i ≤ j) (hj : j ≤ s.length) : (sub s i j).length = j - i := by
  simp only [sub, List.length_take, List.length_drop]
  omega
theorem sub_get {s : List UInt8} {i j k : Nat} (hj : j ≤ s.length) (hk : i + k < j) : (sub s i j).getD k 0 = s.getD (i + k) 0 := by
  unfold sub
  rw [List.getD_eq_getElem?_getD, List.getElem?_take, if_pos (by omega), List.getElem?_drop, ← List.getD_eq_getElem?_getD]
theorem dig_at {s : List UInt8} {i j : Nat} (h : i ≤ j) (hj : j ≤ s.length) (hd : digs (sub s i j)) : DigAt s i j := by
  refine ⟨by omega, by omega, by omega, fun k hk1 hk2 => ?_⟩
  have hk1 : i ≤ k := by omega
  have hk2 : k < j := by omega
  have hl := sub_len h hj
  have hm : (sub s i j).getD (k - i) 0 ∈ sub s i j := by
    rw [List.getD_eq_getElem?_getD, List.getElem?_eq_getElem (by omega)]
    exact List.getElem_mem _
  rw [sub_get hj (by omega), show i + (k - i) = k by omega] at hm
  have := hd.2 _ hm
  unfold digB at this
  exact digR_iff.2 (by unfold bt; omega)
section
variable {s : List UInt8} {ds : List DTok} {ys : List Tok}
theorem dk_out {i : Int} (h : ¬ (i.toNat < @List.length DTok ds)) : dk ds i = ⟨0, 0, 0⟩ := by
  show List.getD ds i.toNat (⟨0, 0, 0⟩ : DTok) = _
  rw [List.getD_eq_getElem?_getD, List.getElem?_eq_none (Nat.le_of_not_lt h)]
  rfl
theorem sym_not {b : UInt8} (h : symB b) : (b.toNat : Int) ≠ 48 ∧ (b.toNat : Int) ≠ 0 ∧ (b.toNat : Int) ≠ 101 := by rcases h with e | e | e | e | e | e | e <;> subst e <;> decide
theorem Two.dok (t : Two s ds ys) (hl : @List.length DTok ds ≤ 4611686018427387904) : DOk s ds := by
  refine ⟨t.hs, hl, fun i => ?_⟩
  by_cases h : i.toNat < @List.length DTok ds
  · have hv := (t.h2 i.toNat h).1
    have e : dk ds ((i.toNat : Nat) : Int) = dk ds i := by unfold dk; rw [Int.toNat_natCast]
    rw [e] at hv
    generalize dk ds i = d at hv
    generalize tk ys i.toNat = y at hv
    cases hv with
    | num a b h1 h2 h3 => exact ⟨by simp only; omega, fun _ => dig_at (Nat.le_of_lt h1) h2 h3⟩
    | sym b a h1 => exact ⟨by simp only; omega, fun h => absurd h (sym_not h1).1⟩
    | bad a t => exact ⟨by simp only; omega, fun h => absurd (show (0 : Int) = 48 from h) (by decide)⟩
    | fin n => exact ⟨by simp only; omega, fun h => absurd (show (101 : Int) = 48 from h) (by decide)⟩
  · rw [dk_out h]
    exact ⟨Int.le_refl _, fun h => absurd (show (0 : Int) = 48 from h) (by decide)⟩
structure Same (s : List UInt8) (d : DTok) (y : Tok) : Prop where
  pos : y.pos = d.pos
  n : y.kind = 110 ↔ d.kind = 48
  l : y.kind = 120 ↔ isLet d.kind
  lt : y.kind = 120 → (y.text = [120] ↔ d.kind = 120) ∧ (y.text = [121] ↔ d.kind = 121)
  g : y.kind = 43 ↔ d.kind = 43 ∨ d.kind = 45
  gt : y.kind = 43 → (y.text = [45] ↔ d.kind = 45)
  sl : y.kind = 47 ↔ d.kind = 47
  co : y.kind = 44 ↔ d.kind = 44
  en : y.kind = 46 ↔ d.kind = 101
theorem VT.same {d : DTok} {y : Tok} (h : VT s d y) : Same s d y := by
  cases h with
  | num i j h1 h2 h3 => constructor <;> simp [isLet]
  | sym b i h1 => rcases h1 with e | e | e | e | e | e | e <;> subst e <;> constructor <;> simp [isLet, kindR, digR]
  | bad i t => constructor <;> simp [isLet]
  | fin n => constructor <;> simp [isLet]
theorem decFrom_num : ∀ (l : List UInt8) (n : Nat), (∀ b ∈ l, digB b) → ∃ m : Nat, Lib.decFrom n l = some m ∧ (m : Int) = l.foldl (fun a b => 10 * a + ((b.toNat : Int) - 48)) (n : Int)
  | [], n, _ => ⟨n, rfl, rfl⟩
  | b :: l, n, h => by
    have hb := h b (by simp)
    unfold digB at hb
    obtain ⟨m, h1, h2⟩ := decFrom_num l (n * 10 + (b.toNat - 48)) (fun c hc => h c (by simp [hc]))
    refine ⟨m, ?_, ?_⟩
    · unfold Lib.decFrom
      have : Lib.digitVal b = some (b.toNat - 48) := by unfold Lib.digitVal; rw [if_pos hb]
      rw [this]
      exact h1
    · rw [h2, List.foldl_cons]
      congr 1
      omega
theorem atoi_num {l : List UInt8} (h : digs l) : Lib.atoi l = some (numL l) := by
  obtain ⟨m, h1, h2⟩ := decFrom_num l 0 h.2
  rw [atoi_digs h h1]
  unfold numL
  rw [h2]
  rfl
theorem numL_lo {l : List UInt8} (h : ∀ b ∈ l, digB b) : ∀ a : Int, 0 ≤ a → a * 10 ^ l.length ≤ l.foldl (fun a b => 10 * a + ((b.toNat : Int) - 48)) a := by
  induction l with
  | nil => intro a _; simp
  | cons b l ih =>
    intro a ha
    have hb := h b (by simp)
    unfold digB at hb
    have := ih (fun c hc => h c (by simp [hc])) (10 * a + ((b.toNat : Int) - 48)) (by omega)
    rw [List.foldl_cons, List.length_cons, Int.pow_succ]
    refine Int.le_trans ?_ this
    have hp10 : (0 : Int) ≤ 10 ^ l.length := Int.pow_nonneg (by omega)
    rw [show a * (10 ^ l.length * 10) = (10 * a) * 10 ^ l.length by rw [Int.mul_comm (10 ^ l.length) 10, ← Int.mul_assoc, Int.mul_comm a 10]]
    exact Int.mul_le_mul_of_nonneg_right (by omega) hp10
theorem numL_hi {l : List UInt8} (h : ∀ b ∈ l, digB b) : ∀ a : Int, 0 ≤ a → l.foldl (fun a b => 10 * a + ((b.toNat : Int) - 48)) a < (a + 1) * 10 ^ l.length := by
  induction l with
  | nil => intro a _; simp; omega
  | cons b l ih =>
    intro a ha
    have hb := h b (by simp)
    unfold digB at hb
    have := ih (fun c hc => h c (by simp [hc])) (10 * a + ((b.toNat : Int) - 48)) (by omega)
    rw [List.foldl_cons, List.length_cons, Int.pow_succ]
    refine Int.lt_of_lt_of_le this ?_
    have hp10 : (0 : Int) ≤ 10 ^ l.length := Int.pow_nonneg (by omega)
    rw [show (a + 1) * (10 ^ l.length * 10) = (10 * (a + 1)) * 10 ^ l.length by rw [Int.mul_comm (10 ^ l.length) 10, ← Int.mul_assoc, Int.mul_comm (a + 1) 10]]
    exact Int.mul_le_mul_of_nonneg_right (by omega) hp10
theorem numL_len {l : List UInt8} (h : digs l) : 0 ≤ numL l ∧ numL l < 10 ^ l.length ∧ (¬ l.getD 0 0 = 48 → (10 : Int) ^ (l.length - 1) ≤ numL l) := by
  have h1 := numL_lo h.2 0 (Int.le_refl _)
  have h2 := numL_hi h.2 0 (Int.le_refl _)
  rw [Int.zero_mul] at h1
  rw [Int.zero_add, Int.one_mul] at h2
  refine ⟨h1, h2, fun h0 => ?_⟩
  cases l with
  | nil => exact absurd rfl h.1
  | cons b r =>
    have hb := h.2 b (by simp)
    have hr := numL_lo (l := r) (fun c hc => h.2 c (by simp [hc])) (10 * 0 + ((b.toNat : Int) - 48))
    have hb0 : b.toNat ≠ 48 := fun e => h0 (by
      show b = 48
      exact UInt8.toNat_inj.1 e)
    unfold digB at hb
    have hr := hr (by omega)
    show (10 : Int) ^ r.length ≤ numL (b :: r)
    unfold numL
    rw [List.foldl_cons]
    refine Int.le_trans ?_ hr
    have hp10 : (0 : Int) ≤ 10 ^ r.length := Int.pow_nonneg (by omega)
    have := Int.mul_le_mul_of_nonneg_right (show (1 : Int) ≤ 10 * 0 + ((b.toNat : Int) - 48) by omega) hp10
    rw [Int.one_mul] at this
    exact this
theorem subI_sub (s : List UInt8) (i j : Nat) : subI s (i : Int) j = sub s i j := by unfold subI sub; rw [Int.toNat_natCast]
theorem num_two {i j : Nat} (h1 : i < j) (h2 : j ≤ s.length) (h3 : digs (sub s i j)) :
    numV (sub s i j) 999 = dNum s i j 3 ∧ (numV (sub s i j) 1000 < 1 ↔ dNum s i j 4 < 1 ∨ 1000 < dNum s i j 4) ∧ (¬ numV (sub s i j) 1000 < 1 → numV (sub s i j) 1000 = dNum s i j 4) := by
  obtain ⟨n1, n2, n3⟩ := numL_len h3
  have hl := sub_len (Nat.le_of_lt h1) h2
  have ha := atoi_num h3
  have hz : (sub s i j).getD 0 0 = 48 ↔ bt s (i : Int).toNat = 48 := by
    rw [sub_get h2 (by omega), Nat.add_zero, Int.toNat_natCast]
    unfold bt
    constructor
    · intro h; rw [h]; rfl
    · intro h
      exact UInt8.toNat_inj.1 (by show (s.getD i 0).toNat = 48; omega)
  have hn : subI s (i : Int) (j : Int).toNat = sub s i j := by rw [Int.toNat_natCast, subI_sub]
  unfold numV dNum
  rw [ha, hn]
  simp only [Option.getD_some]
  generalize numL (sub s i j) = v at *
  by_cases c4 : 4 < (sub s i j).length
  · rw [if_pos c4, if_pos c4, if_pos (by omega), if_pos (by omega)]
    omega
  · rw [if_neg c4, if_neg c4, if_neg (show ¬ (4 : Int) < (j : Int) - i by omega)]
    by_cases cz : 1 < (sub s i j).length ∧ (sub s i j).getD 0 0 = 48
    · rw [if_pos cz, if_pos cz, if_pos (show 1 < (j : Int) - i ∧ bt s (i : Int).toNat = 48 from ⟨by omega, hz.1 cz.2⟩)]
      refine ⟨?_, by omega, by omega⟩
      by_cases c3 : (3 : Int) < (j : Int) - i
      · rw [if_pos c3]
      · rw [if_neg c3]
    · have cz' : ¬ (1 < (j : Int) - i ∧ bt s (i : Int).toNat = 48) := fun h => cz ⟨by omega, hz.2 h.2⟩
      rw [if_neg cz, if_neg cz, if_neg cz']
      by_cases c3 : (3 : Int) < (j : Int) - i
      · rw [if_pos c3]
        have h4 : (sub s i j).length = 4 := by omega
        have h9 : ¬ (sub s i j).getD 0 0 = 48 := fun h => cz ⟨by omega, h⟩
        have := n3 h9
        rw [h4] at this n2
        simp at this n2
        rw [if_pos (by omega)]
        refine ⟨rfl, ?_, ?_⟩ <;> split <;> omega
      · rw [if_neg c3]
        have n4 : v < 1000 := by
          have : (10 : Int) ^ (sub s i j).length ≤ 10 ^ 3 := by
            have h9 : (sub s i j).length = 1 ∨ (sub s i j).length = 2 ∨ (sub s i j).length = 3 := by omega
            rcases h9 with e | e | e <;> rw [e] <;> decide
          omega
        rw [if_neg (by omega), if_neg (by omega)]
        refine ⟨rfl, by omega, fun _ => rfl⟩
end
end Go.AM
open Go Go.AM Go.Proofs
namespace Go.AM
open Dist
set_option maxRecDepth 100000
section
variable {s : List UInt8} {ds : List DTok} {ys : List Tok}
theorem Two.same (t : Two s ds ys) {i : Nat} (hi : i < @List.length DTok ds) : Same s (dk ds i) (tk ys i) := (t.h2 i hi).1.same
theorem Two.next (t : Two s ds ys) {i : Nat} (hi : i < @List.length DTok ds) (he : ¬ endK (dk ds i)) : nx ys i = i + 1 ∧ dSkip ds (i : Int) = ((i + 1 : Nat) : Int) ∧ i + 1 < @List.length DTok ds := by
  have h := (t.h2 i hi).2.2 he
  have h1 := t.h1
  refine ⟨if_pos (by omega), ?_, h⟩
  unfold dSkip
  rw [if_pos (by omega)]
  omega
theorem not_end {d : DTok} {k : Int} (h : d.kind = k) (h0 : k ≠ 0) (h1 : k ≠ 101) : ¬ endK d := fun e => e.elim (fun e => h0 (h.symm.trans e)) (fun e => h1 (h.symm.trans e))
theorem Two.pos (t : Two s ds ys) {i : Nat} (hi : i < @List.length DTok ds) : (tk ys i).pos = (dk ds i).pos ∧ 0 ≤ (dk ds i).pos := by
  have hv := (t.h2 i hi).1
  refine ⟨hv.same.pos, ?_⟩
  generalize dk ds i = d at hv
  generalize tk ys i = y at hv
  cases hv <;> simp only <;> omega
theorem Two.sign (t : Two s ds ys) {i : Nat} (hi : i < @List.length DTok ds) : sgV ys i = dSv ds i ∧ ((sgN ys i : Nat) : Int) = dSi ds i ∧ sgN ys i < @List.length DTok ds ∧ i ≤ sgN ys i ∧ (sgB ys i = true ↔ (dk ds i).kind = 43 ∨ (dk ds i).kind = 45) ∧ (sgB ys i = true → sgN ys i = i + 1) ∧ (sgB ys i = false → sgN ys i = i) := by
  have hs := t.same hi
  by_cases h45 : (dk ds i).kind = 45
  · have k : (tk ys i).kind = 43 := hs.g.2 (.inr h45)
    obtain ⟨n1, n2, n3⟩ := t.next hi (not_end h45 (by decide) (by decide))
    have e : sgN ys i = i + 1 := (if_pos k).trans n1
    have eb : sgB ys i = true := decide_eq_true k
    refine ⟨?_, ?_, by omega, by omega, ⟨fun _ => .inr h45, fun _ => eb⟩, fun _ => e, fun h => by rw [eb] at h; cases h⟩
    · rw [sgV, if_pos ⟨k, (hs.gt k).2 h45⟩, dSv, if_pos h45]
    · rw [e, dSi, if_pos h45, n2]
  · by_cases h43 : (dk ds i).kind = 43
    · have k : (tk ys i).kind = 43 := hs.g.2 (.inl h43)
      obtain ⟨n1, n2, n3⟩ := t.next hi (not_end h43 (by decide) (by decide))
      have e : sgN ys i = i + 1 := (if_pos k).trans n1
      have eb : sgB ys i = true := decide_eq_true k
      refine ⟨?_, ?_, by omega, by omega, ⟨fun _ => .inl h43, fun _ => eb⟩, fun _ => e, fun h => by rw [eb] at h; cases h⟩
      · rw [sgV, if_neg (fun h => h45 ((hs.gt k).1 h.2)), dSv, if_neg h45]
      · rw [e, dSi, if_neg h45, if_pos h43, n2]
    · have k : ¬ (tk ys i).kind = 43 := fun h => (hs.g.1 h).elim h43 h45
      have e : sgN ys i = i := if_neg k
      have eb : sgB ys i = false := decide_eq_false k
      refine ⟨?_, ?_, by omega, by omega, ⟨(fun h => by rw [eb] at h; cases h), (fun h => absurd h (fun h => h.elim h43 h45))⟩, (fun h => by rw [eb] at h; cases h), fun _ => e⟩
      · rw [sgV, if_neg (fun h => k h.1), dSv, if_neg h45]
      · rw [e, dSi, if_neg h45, if_neg h43]
theorem Two.num (t : Two s ds ys) {i : Nat} (hi : i < @List.length DTok ds) (h : (dk ds i).kind = 48) : numV (tk ys i).text 999 = dNum s (dk ds i).pos (dk ds i).next 3 ∧ (numV (tk ys i).text 1000 < 1 ↔ dNum s (dk ds i).pos (dk ds i).next 4 < 1 ∨ 1000 < dNum s (dk ds i).pos (dk ds i).next 4) ∧ (¬ numV (tk ys i).text 1000 < 1 → numV (tk ys i).text 1000 = dNum s (dk ds i).pos (dk ds i).next 4) := by
  have hv := (t.h2 i hi).1
  generalize dk ds i = d at hv h
  generalize tk ys i = y at hv
  cases hv with
  | num a b h1 h2 h3 => exact num_two h1 h2 h3
  | sym b a h1 => exact absurd h (sym_not h1).1
  | bad a t => exact absurd (show (0 : Int) = 48 from h) (by decide)
  | fin n => exact absurd (show (101 : Int) = 48 from h) (by decide)
theorem Two.frac (t : Two s ds ys) {q : Nat} (hq : q < @List.length DTok ds) (h : (dk ds q).kind = 48) (g : Bool) :
    (frS ys q g).1 = (dFr s ds ((q + 1 : Nat) : Int) (dk ds q).pos (dk ds q).next g).1 ∧ (frS ys q g).2.1 = (dFr s ds ((q + 1 : Nat) : Int) (dk ds q).pos (dk ds q).next g).2.2 ∧
    ((frS ys q g).2.1 = -1 ∧ ((frS ys q g).2.2 : Int) = (dFr s ds ((q + 1 : Nat) : Int) (dk ds q).pos (dk ds q).next g).2.1 ∧ (frS ys q g).2.2 < @List.length DTok ds ∨ 0 ≤ (frS ys q g).2.1) := by
  obtain ⟨n1, n2, n3⟩ := t.next hq (not_end h (by decide) (by decide))
  obtain ⟨m1, -, -⟩ := t.num hq h
  obtain ⟨p1, p2⟩ := t.pos hq
  unfold frS dFr
  rw [m1, n1, p1]
  generalize hN : dNum s (dk ds q).pos (dk ds q).next 3 = N
  by_cases c1 : N < 0 ∨ g = true
  · rw [if_pos c1, if_pos c1]
    exact ⟨rfl, rfl, .inr p2⟩
  · rw [if_neg c1, if_neg c1]
    have s1 := t.same n3
    by_cases c2 : (dk ds ((q + 1 : Nat) : Int)).kind = 47
    · rw [if_neg (show ¬ (tk ys (q + 1)).kind ≠ 47 from fun h => h (s1.sl.2 c2)), if_neg (show ¬ ¬ (dk ds ((q + 1 : Nat) : Int)).kind = 47 from fun h => h c2)]
      obtain ⟨a1, a2, a3⟩ := t.next n3 (not_end c2 (by decide) (by decide))
      rw [a1, a2]
      have s2 := t.same a3
      obtain ⟨p3, p4⟩ := t.pos a3
      by_cases c3 : (dk ds ((q + 1 + 1 : Nat) : Int)).kind = 48
      · rw [if_neg (show ¬ (tk ys (q + 1 + 1)).kind ≠ 110 from fun h => h (s2.n.2 c3)), if_neg (show ¬ ¬ (dk ds ((q + 1 + 1 : Nat) : Int)).kind = 48 from fun h => h c3)]
        obtain ⟨m2, -, -⟩ := t.num a3 c3
        obtain ⟨b1, b2, b3⟩ := t.next a3 (not_end c3 (by decide) (by decide))
        rw [m2, b1, b2]
        generalize hM : dNum s (dk ds ((q + 1 + 1 : Nat) : Int)).pos (dk ds ((q + 1 + 1 : Nat) : Int)).next 3 = M
        by_cases c4 : M < 1 ∨ ¬ (24 * N).tmod M = 0
        · rw [if_pos c4, if_pos c4]
          exact ⟨rfl, rfl, .inr p2⟩
        · rw [if_neg c4, if_neg c4]
          exact ⟨rfl, rfl, .inl ⟨rfl, rfl, b3⟩⟩
      · rw [if_pos (show (tk ys (q + 1 + 1)).kind ≠ 110 from fun h => c3 (s2.n.1 h)), if_pos c3]
        exact ⟨rfl, p3, .inr (by rw [p3]; exact p4)⟩
    · rw [if_pos (show (tk ys (q + 1)).kind ≠ 47 from fun h => c2 (s1.sl.1 h)), if_pos c2]
      exact ⟨rfl, rfl, .inl ⟨rfl, rfl, n3⟩⟩
structure Corr (x : RS) (y : DR) : Prop where
  i : y.i = x.st
  p : y.p = -1
  e0 : y.e0 = x.e0
  e1 : y.e1 = x.e1
  e2 : y.e2 = x.e2
  part : y.part = x.parts
  s0 : y.s0 = x.s0
  s1 : y.s1 = x.s1
  s2 : y.s2 = x.s2
  s3 : y.s3 = x.again
def StepRel (len lo : Nat) (D : DR) : RS ⊕ RR → Prop
  | .inl x => Corr x D ∧ x.first = false ∧ lo < x.st ∧ x.st < len
  | .inr r => r.fault = D.p ∧ 0 ≤ r.fault
theorem Two.letter (t : Two s ds ys) {x : RS} {y : DR} (c : Corr x y) {q : Nat} (hq : q < @List.length DTok ds) (hl : isLet (dk ds q).kind) (sk : Int) {lo : Nat} (hlo : lo ≤ q) : StepRel (@List.length DTok ds) lo (dLetP ds y sk q) (letP ys x sk q) := by
  have hs := t.same hq
  have hk : (tk ys q).kind = 120 := hs.l.2 hl
  obtain ⟨l1, l2⟩ := hs.lt hk
  obtain ⟨p1, p2⟩ := t.pos hq
  have hne : ¬ endK (dk ds q) := by
    rcases hl with h | h | h
    · exact not_end h (by decide) (by decide)
    · exact not_end h (by decide) (by decide)
    · exact not_end h (by decide) (by decide)
  obtain ⟨n1, n2, n3⟩ := t.next hq hne
  unfold letP dLetP
  rw [n1, n2, p1, c.s0, c.s1, c.s2, c.s3, c.e0, c.e1, c.e2, c.part]
  by_cases h0 : (dk ds q).kind = 120
  · rw [if_pos (l1.2 h0), if_pos h0]
    by_cases d : x.s0 = true
    · rw [if_pos d, if_pos d]
      exact ⟨rfl, p2⟩
    · rw [if_neg d, if_neg d]
      exact ⟨⟨rfl, rfl, rfl, rfl, rfl, rfl, rfl, rfl, rfl, rfl⟩, rfl, show lo < q + 1 by omega, n3⟩
  · rw [if_neg (fun h => h0 (l1.1 h)), if_neg h0]
    by_cases h1 : (dk ds q).kind = 121
    · rw [if_pos (l2.2 h1), if_pos h1]
      by_cases d : x.s1 = true
      · rw [if_pos d, if_pos d]
        exact ⟨rfl, p2⟩
      · rw [if_neg d, if_neg d]
        exact ⟨⟨rfl, rfl, rfl, rfl, rfl, rfl, rfl, rfl, rfl, rfl⟩, rfl, show lo < q + 1 by omega, n3⟩
    · have h2 : (dk ds q).kind = 122 := by rcases hl with h | h | h; exact absurd h h0; exact absurd h h1; exact h
      rw [if_neg (fun h => h1 (l2.1 h)), if_neg h1, if_pos h2]
      by_cases d : x.s2 = true
      · rw [if_pos d, if_pos d]
        exact ⟨rfl, p2⟩
      · rw [if_neg d, if_neg d]
        exact ⟨⟨rfl, rfl, rfl, rfl, rfl, rfl, rfl, rfl, rfl, rfl⟩, rfl, show lo < q + 1 by omega, n3⟩
theorem dLetP_not {x : DR} {sk j : Int} (h : ¬ isLet (dk ds j).kind) : dLetP ds x sk j = x.err j (dk ds j).pos := by
  unfold dLetP
  rw [if_neg (fun e => h (.inl e)), if_neg (fun e => h (.inr (.inl e))), if_neg (fun e => h (.inr (.inr e)))]
theorem Two.step (t : Two s ds ys) {x : RS} {y : DR} (c : Corr x y) (hx : x.st < @List.length DTok ds) (hf : x.first = true ∨ sgB ys x.st = true) : StepRel (@List.length DTok ds) x.st (dStep s ds y) (stepR ys x) := by
  obtain ⟨g1, g2, g3, g4, -, -, -⟩ := t.sign hx
  unfold stepR dStep dTerm
  rw [if_neg (show ¬ (x.first = false ∧ sgB ys x.st = false) from fun h => hf.elim (fun e => by rw [e] at h; cases h.1) (fun e => by rw [e] at h; cases h.2)), c.i, ← g1, ← g2]
  generalize sgV ys x.st = sg
  generalize sgN ys x.st = q at *
  have hs := t.same g3
  by_cases k48 : (dk ds q).kind = 48
  · have k110 : (tk ys q).kind = 110 := hs.n.2 k48
    have k120 : ¬ (tk ys q).kind = 120 := by rw [k110]; decide
    obtain ⟨n1, n2, n3⟩ := t.next g3 (not_end k48 (by decide) (by decide))
    obtain ⟨-, m2, m3⟩ := t.num g3 k48
    obtain ⟨p1, p2⟩ := t.pos g3
    have hs1 := t.same n3
    rw [if_pos k48, n1, n2]
    by_cases hl : isLet (dk ds ((q + 1 : Nat) : Int)).kind
    · rw [if_pos (show (tk ys q).kind = 110 ∧ (tk ys (q + 1)).kind = 120 from ⟨k110, hs1.l.2 hl⟩), if_pos hl]
      by_cases hn : numV (tk ys q).text 1000 < 1
      · rw [if_pos hn, if_pos (m2.1 hn)]
        exact ⟨p1, by show 0 ≤ (tk ys q).pos; rw [p1]; exact p2⟩
      · rw [if_neg hn, if_neg (fun h => hn (m2.2 h)), m3 hn]
        exact t.letter c n3 hl _ (by omega)
    · rw [if_neg (show ¬ ((tk ys q).kind = 110 ∧ (tk ys (q + 1)).kind = 120) from fun h => hl (hs1.l.1 h.2)), if_neg hl, if_neg k120, if_pos k110]
      obtain ⟨f1, f2, f3⟩ := t.frac g3 k48 x.again
      rw [c.s3]
      rcases f3 with ⟨f3, f4, f5⟩ | f3
      · rw [if_neg (by omega)]
        have hle := frS_le ys q x.again
        rw [n1] at hle
        exact ⟨⟨f4.symm, f2.symm.trans f3, c.e0, c.e1, c.e2, by rw [f1], c.s0, c.s1, c.s2, rfl⟩, rfl, show x.st < (frS ys q x.again).2.2 by omega, f5⟩
      · rw [if_pos f3]
        exact ⟨f2, f3⟩
  · have k110 : ¬ (tk ys q).kind = 110 := fun h => k48 (hs.n.1 h)
    rw [if_neg (show ¬ ((tk ys q).kind = 110 ∧ (tk ys (nx ys q)).kind = 120) from fun h => k110 h.1), if_neg k48]
    by_cases hl : isLet (dk ds q).kind
    · rw [if_pos (hs.l.2 hl)]
      exact t.letter c g3 hl _ g4
    · obtain ⟨p1, p2⟩ := t.pos g3
      rw [if_neg (fun h => hl (hs.l.1 h)), if_neg k110, dLetP_not hl]
      exact ⟨p1, by show 0 ≤ (tk ys q).pos; rw [p1]; exact p2⟩
def RowRel (len : Nat) (R : RR) (D : DR) : Prop :=
  (R.fault = -1 ∧ D.p = -1 ∧ R.e0 = D.e0 ∧ R.e1 = D.e1 ∧ R.e2 = D.e2 ∧ R.parts = D.part ∧ (R.st : Int) = D.i ∧ R.st < len) ∨ (0 ≤ R.fault ∧ D.p = R.fault)
theorem dRow_stop {n : Nat} {D : DR} (h : ¬ dGo ds D) : dRowR s ds n D = D := by
  cases n with
  | zero => rfl
  | succ n => rw [dRowR, if_neg h]
theorem Two.rows (t : Two s ds ys) : ∀ (n m : Nat) (x : RS) (y : DR), Corr x y → x.first = false → x.st < @List.length DTok ds → @List.length DTok ds - x.st < n → @List.length DTok ds - x.st < m → RowRel (@List.length DTok ds) (rowR ys n x) (dRowR s ds m y)
  | 0, _, _, _, _, _, _, h, _ => by omega
  | n + 1, m, x, y, c, hf, hx, hn, hm => by
    obtain ⟨m, rfl⟩ : ∃ k, m = k + 1 := ⟨m - 1, by omega⟩
    obtain ⟨g1, g2, g3, g4, g5, g6, g7⟩ := t.sign hx
    cases hb : sgB ys x.st with
    | true =>
      have hgo : dGo ds y := ⟨by rw [c.p]; decide, by rw [c.i]; exact g5.1 hb⟩
      have hstep := t.step c hx (.inr hb)
      rw [dRowR, if_pos hgo, rowR]
      generalize dStep s ds y = D at *
      cases hr : stepR ys x with
      | inr r =>
        rw [hr] at hstep
        obtain ⟨r1, r2⟩ := hstep
        rw [dRow_stop (fun h => by have := h.1; omega)]
        exact .inr ⟨r2, r1.symm⟩
      | inl x' =>
        rw [hr] at hstep
        obtain ⟨r1, r2, r3, r4⟩ := hstep
        exact Two.rows t n m x' D r1 r2 r4 (by omega) (by omega)
    | false =>
      have hno : ¬ dGo ds y := fun h => by
        have h2 := h.2
        rw [c.i] at h2
        rw [g5.2 h2] at hb
        cases hb
      rw [dRowR, if_neg hno, rowR]
      have e : stepR ys x = .inr ⟨x.e0, x.e1, x.e2, x.parts, -1, sgN ys x.st⟩ := by
        unfold stepR
        rw [if_pos ⟨hf, hb⟩]
      rw [e]
      have := g7 hb
      exact .inl ⟨rfl, c.p, c.e0.symm, c.e1.symm, c.e2.symm, c.part.symm, by rw [c.i]; show ((sgN ys x.st : Nat) : Int) = _; rw [this], by show sgN ys x.st < _; omega⟩
theorem Two.row (t : Two s ds ys) {i : Nat} (hi : i < @List.length DTok ds) : RowRel (@List.length DTok ds) (rowF ys i) (dRowF s ds i) := by
  have c : Corr (rs0 i) (dr0 i) := ⟨rfl, rfl, rfl, rfl, rfl, rfl, rfl, rfl, rfl, rfl⟩
  have hstep := t.step c hi (.inl rfl)
  have h1 := t.h1
  unfold rowF dRowF
  rw [rowR]
  generalize dStep s ds (dr0 i) = D at *
  cases hr : stepR ys (rs0 i) with
  | inr r =>
    rw [hr] at hstep
    obtain ⟨r1, r2⟩ := hstep
    rw [dRow_stop (fun h => by have := h.1; omega)]
    exact .inr ⟨r2, r1.symm⟩
  | inl x' =>
    rw [hr] at hstep
    obtain ⟨r1, r2, r3, r4⟩ := hstep
    have r3 : i < x'.st := r3
    exact t.rows _ _ x' D r1 r2 r4 (by omega) (by omega)
end
end Go.AM

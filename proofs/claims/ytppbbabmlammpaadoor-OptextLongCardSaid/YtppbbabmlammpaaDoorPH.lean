import Derived.Test.YtppbbabmlammpaaDoorPG1
import Derived.Test.YtppbbabmlammpaaDoorPT3
import Derived.Test.YtppbbabmlammpaaDoorPG2
import Derived.Test.YtppbbabmlammpaaDoorTTB
set_option linter.unusedVariables false
set_option linter.unusedSimpArgs false
open Go Go.AM Go.Proofs
namespace Go.AM
open Dist
set_option maxRecDepth 100000
def sub (s : List UInt8) (i j : Nat) : List UInt8 := (s.drop i).take (j - i)
inductive VT (s : List UInt8) : DTok → Tok → Prop
  | num (i j : Nat) : i < j → j ≤ s.length → digs (sub s i j) → VT s ⟨48, i, j⟩ ⟨110, sub s i j, i⟩
  | sym (b : UInt8) (i : Nat) : symB b → VT s ⟨(b.toNat : Int), i, (i : Int) + 1⟩ ⟨kindR b.toNat, [b], i⟩
  | bad (i : Nat) (t : List UInt8) : VT s ⟨0, i, i⟩ ⟨63, t, i⟩
  | fin (n : Nat) : VT s ⟨101, n, n⟩ ⟨46, [], n⟩
def endK (d : DTok) : Prop := d.kind = 0 ∨ d.kind = 101
inductive Rel (s : List UInt8) : List DTok → List Tok → Prop
  | last {d : DTok} {y : Tok} {ys : List Tok} : VT s d y → endK d → Rel s [d] (y :: ys)
  | more {d : DTok} {y : Tok} {ds : List DTok} {ys : List Tok} : VT s d y → ¬ endK d → Rel s ds ys → Rel s (d :: ds) (y :: ys)
theorem step_keep {l l1 : List Tok} {op : Bool} {i r : Int} (h : op = true → l1 ≠ []) : ∃ l2, (stepT (l ++ l1) op i r).1 = l ++ l2 ∧ ((stepT (l ++ l1) op i r).2 = true → l2 ≠ []) := by
  unfold stepT
  split
  · rename_i hd
    have hne := h hd.2
    refine ⟨l1.set (l1.length - 1) ⟨(tk (l ++ l1) ((l ++ l1).length - 1)).kind, (tk (l ++ l1) ((l ++ l1).length - 1)).text ++ encL r, (tk (l ++ l1) ((l ++ l1).length - 1)).pos⟩, ?_, fun _ => ?_⟩
    · have hp : 0 < l1.length := List.length_pos_iff.2 hne
      show (l ++ l1).set _ _ = _
      rw [List.set_append_right _ _ (by simp only [List.length_append]; omega)]
      congr 2
      simp only [List.length_append]
      omega
    · intro e
      have := congrArg List.length e
      simp only [List.length_set, List.length_nil] at this
      exact hne (List.eq_nil_of_length_eq_zero this)
  · split
    · rename_i h32
      refine ⟨l1, rfl, fun hd => ?_⟩
      have := digR_iff.1 hd
      omega
    · exact ⟨l1 ++ [⟨kindR r, encL r, i⟩], by simp, fun _ => by simp⟩
theorem toks_keep {s : List UInt8} {l : List Tok} : ∀ (m j : Nat) (l1 : List Tok) (op : Bool), (op = true → l1 ≠ []) → ∃ R, toksP s m j (l ++ l1) op = l ++ R
  | 0, j, l1, op, _ => ⟨l1, rfl⟩
  | m + 1, j, l1, op, h => by
    unfold toksP
    split
    · obtain ⟨l2, h1, h2⟩ := step_keep (l := l) (i := j) (r := (runeL s j).1) h
      rw [h1]
      exact toks_keep m _ l2 _ h2
    · exact ⟨l1, rfl⟩
theorem rune_low {s : List UInt8} {pos : Nat} (h : pos < s.length) (ha : bt s pos < 128) : runeL s pos = ((s.getD pos 0).toNat, 1) := by
  have hs : pos < (ByteArray.mk s.toArray).size := by simpa [ByteArray.size] using h
  have e : (ByteArray.mk s.toArray)[pos]'hs = s[pos] := rfl
  have e2 : s.getD pos 0 = s[pos] := by rw [List.getD_eq_getElem?_getD, List.getElem?_eq_getElem h]; rfl
  unfold bt at ha
  show Utf8.decode ⟨s.toArray⟩ pos = _
  rw [decode_ascii _ _ hs (by rw [e, ← e2]; omega), e, e2]
theorem rune_high {s : List UInt8} {pos : Nat} (h : pos < s.length) (ha : 128 ≤ bt s pos) : 128 ≤ (runeL s pos).1 := by
  have hs : pos < (ByteArray.mk s.toArray).size := by simpa [ByteArray.size] using h
  have e : (ByteArray.mk s.toArray)[pos]'hs = s[pos] := rfl
  have e2 : s.getD pos 0 = s[pos] := by rw [List.getD_eq_getElem?_getD, List.getElem?_eq_getElem h]; rfl
  unfold bt at ha
  exact (decode_high _ _ hs (by rw [e, ← e2]; omega)).1
theorem sub_cons {s : List UInt8} {i j : Nat} (hi : i < s.length) (hj : i < j) : sub s i j = s.getD i 0 :: sub s (i + 1) j := by
  unfold sub
  rw [List.drop_eq_getElem_cons hi, show j - i = (j - (i + 1)) + 1 by omega, List.take_succ_cons, List.getD_eq_getElem?_getD, List.getElem?_eq_getElem hi]
  rfl
theorem sub_nil (s : List UInt8) (i : Nat) : sub s i i = [] := by simp [sub]
theorem dEnd_le {s : List UInt8} : ∀ (n j : Nat), j ≤ s.length → j ≤ dEnd s n j ∧ dEnd s n j ≤ s.length
  | 0, j, h => ⟨Nat.le_refl _, h⟩
  | n + 1, j, h => by
    unfold dEnd
    split
    · rename_i hd
      have := dEnd_le n (j + 1) hd.1
      omega
    · exact ⟨Nat.le_refl _, h⟩
theorem dEnd_at {s : List UInt8} : ∀ (n j : Nat), s.length - j ≤ n → j ≤ s.length → s.length ≤ dEnd s n j ∨ digR (bt s (dEnd s n j)) = false
  | 0, j, h, h2 => .inl (by show s.length ≤ j; omega)
  | n + 1, j, h, h2 => by
    unfold dEnd
    split
    · rename_i hd
      exact dEnd_at n (j + 1) (by omega) hd.1
    · rename_i hd
      rcases Nat.lt_or_ge j s.length with h3 | h3
      · refine .inr ?_
        cases h4 : digR (bt s j) with
        | false => rfl
        | true => exact absurd ⟨h3, h4⟩ hd
      · exact .inl h3
theorem tok_digs {s : List UInt8} : ∀ (n m j : Nat) (l : List Tok) (t : List UInt8) (p : Int), s.length - j ≤ n → s.length - j < m → j ≤ s.length →
    ∃ m', s.length - dEnd s n j < m' ∧ toksP s m j (l ++ [⟨110, t, p⟩]) true = toksP s m' (dEnd s n j) (l ++ [⟨110, t ++ sub s j (dEnd s n j), p⟩]) true ∧ ∀ b ∈ sub s j (dEnd s n j), digB b
  | 0, m, j, l, t, p, h1, h2, h3 => ⟨m, h2, by show _ = toksP s m j (l ++ [⟨110, t ++ sub s j j, p⟩]) true; rw [sub_nil, List.append_nil], fun b hb => by rw [show dEnd s 0 j = j from rfl, sub_nil] at hb; cases hb⟩
  | n + 1, m, j, l, t, p, h1, h2, h3 => by
    by_cases hd : j < s.length ∧ digR (bt s j) = true
    · obtain ⟨m, rfl⟩ : ∃ k, m = k + 1 := ⟨m - 1, by omega⟩
      have hb := digR_iff.1 hd.2
      have he := dEnd_le n (j + 1) hd.1
      obtain ⟨m', k1, k2, k3⟩ := tok_digs n m (j + 1) l (t ++ [s.getD j 0]) p (by omega) (by omega) hd.1
      rw [dEnd, if_pos hd, sub_cons hd.1 (by omega)]
      refine ⟨m', k1, ?_, fun b hb2 => ?_⟩
      · rw [toksP, if_pos hd.1, rune_low hd.1 (by omega)]
        have e : stepT (l ++ [(⟨110, t, p⟩ : Tok)]) true j ((s.getD j 0).toNat : Int) = (l ++ [⟨110, t ++ [s.getD j 0], p⟩], true) := by
          unfold stepT
          rw [if_pos ⟨hd.2, rfl⟩, enc_b (by unfold bt at hb; omega)]
          unfold addLast tk
          simp
        rw [e, k2]
        simp
      · rcases List.mem_cons.1 hb2 with e | hb2
        · subst e
          unfold bt at hb
          unfold digB
          omega
        · exact k3 b hb2
    · rw [dEnd, if_neg hd]
      exact ⟨m, h2, by rw [sub_nil, List.append_nil], fun b hb => by rw [sub_nil] at hb; cases hb⟩
theorem symR_B {b : UInt8} (h : symR b.toNat = true) : symB b := by
  unfold symR at h
  simp only [Bool.or_eq_true, decide_eq_true_eq] at h
  unfold symB
  rcases h with h | h | h | h | h | h | h
  · exact .inl (UInt8.toNat_inj.1 (by show b.toNat = 120; omega))
  · exact .inr (.inl (UInt8.toNat_inj.1 (by show b.toNat = 121; omega)))
  · exact .inr (.inr (.inl (UInt8.toNat_inj.1 (by show b.toNat = 122; omega))))
  · exact .inr (.inr (.inr (.inl (UInt8.toNat_inj.1 (by show b.toNat = 43; omega)))))
  · exact .inr (.inr (.inr (.inr (.inl (UInt8.toNat_inj.1 (by show b.toNat = 45; omega))))))
  · exact .inr (.inr (.inr (.inr (.inr (.inl (UInt8.toNat_inj.1 (by show b.toNat = 44; omega)))))))
  · exact .inr (.inr (.inr (.inr (.inr (.inr (UInt8.toNat_inj.1 (by show b.toNat = 47; omega)))))))
theorem symB_end {b : UInt8} (h : symB b) (i j : Int) : ¬ endK ⟨(b.toNat : Int), i, j⟩ := by
  have h9 : (b.toNat : Int) ≠ 0 ∧ (b.toNat : Int) ≠ 101 := by rcases h with e | e | e | e | e | e | e <;> subst e <;> decide
  exact fun h => h.elim h9.1 h9.2
theorem endK48 (i j : Int) : ¬ endK ⟨48, i, j⟩ := fun h => h.elim (fun h => absurd (show (48 : Int) = 0 from h) (by decide)) (fun h => absurd (show (48 : Int) = 101 from h) (by decide))
theorem kind_bad {r : Int} (h1 : digR r = false) (h2 : symR r = false) : kindR r = 63 := by
  unfold symR at h2
  simp only [Bool.or_eq_false_iff, decide_eq_false_iff_not] at h2
  unfold kindR
  rw [if_neg (by rw [h1]; decide), if_neg (by omega), if_neg (by omega), if_neg (by omega)]
theorem toks_bad {s : List UInt8} {m i : Nat} {l : List Tok} {op : Bool} (hi : i < s.length) (h32 : ((runeL s i).1 : Int) ≠ 32) (hd : digR (runeL s i).1 = false) (hs : symR (runeL s i).1 = false) : ∃ t R, toksP s (m + 1) i l op = l ++ (⟨63, t, i⟩ :: R) := by
  rw [toksP, if_pos hi]
  have e : stepT l op i ((runeL s i).1 : Int) = (l ++ [⟨63, encL (runeL s i).1, i⟩], false) := by
    unfold stepT
    rw [if_neg (by rw [hd]; simp), if_neg h32, hd, kind_bad hd hs]
  rw [e]
  obtain ⟨R, hR⟩ := toks_keep (s := s) (l := l ++ [⟨63, encL (runeL s i).1, (i : Int)⟩]) m (i + (runeL s i).2) [] false (by simp)
  rw [List.append_nil] at hR
  exact ⟨encL (runeL s i).1, R, by rw [hR]; simp⟩
theorem sub_digs {s : List UInt8} {i j : Nat} (h : i < j) (hj : j ≤ s.length) (hb : ∀ b ∈ sub s i j, digB b) : digs (sub s i j) := by
  refine ⟨fun e => ?_, hb⟩
  have := congrArg List.length e
  simp only [sub, List.length_take, List.length_drop, List.length_nil] at this
  omega
theorem rel_toks {s : List UInt8} : ∀ (n m i : Nat) (l : List Tok) (op : Bool), s.length - i < n → s.length - i < m → i ≤ s.length → (op = true → s.length ≤ i ∨ digR (bt s i) = false) →
    ∃ R, toksP s m i l op = l ++ R ∧ Rel s (dtP s n i) (R ++ [⟨46, [], s.length⟩])
  | 0, m, i, l, op, h1, _, _, _ => by omega
  | n + 1, m, i, l, op, h1, h2, h3, h4 => by
    obtain ⟨m, rfl⟩ : ∃ k, m = k + 1 := ⟨m - 1, by omega⟩
    by_cases hi : i < s.length
    · rcases Int.lt_or_le (bt s i) 128 with hb | hb
      · have hr := rune_low hi hb
        have hbn : (s.getD i 0).toNat < 128 := by unfold bt at hb; omega
        rw [dtP, if_pos hi]
        by_cases h32 : bt s i = 32
        · rw [if_pos h32]
          obtain ⟨R, k1, k2⟩ := rel_toks n m (i + 1) l false (by omega) (by omega) hi (by simp)
          refine ⟨R, ?_, k2⟩
          rw [toksP, if_pos hi, hr]
          have e : stepT l op i ((s.getD i 0).toNat : Int) = (l, false) := by
            have h32 : ((s.getD i 0).toNat : Int) = 32 := h32
            rw [h32]
            unfold stepT
            rw [if_neg (by rintro ⟨h, _⟩; exact absurd (digR_iff.1 h) (by decide)), if_pos rfl]
            rfl
          rw [e]
          exact k1
        · rw [if_neg h32]
          by_cases hd : digR (bt s i) = true
          · rw [if_pos hd]
            have hop : op = false := by
              cases op with
              | false => rfl
              | true =>
                rcases h4 rfl with h | h
                · omega
                · rw [hd] at h; cases h
            subst hop
            obtain ⟨k, hk⟩ : ∃ k, s.length = k + 1 := ⟨s.length - 1, by omega⟩
            have he : dEnd s s.length i = dEnd s k (i + 1) := by rw [hk]; exact dEnd_step hi hd
            have hle := dEnd_le k (i + 1) hi
            have hat := dEnd_at k (i + 1) (by omega) hi
            rw [he]
            obtain ⟨m', q1, q2, q3⟩ := tok_digs k m (i + 1) l [s.getD i 0] i (by omega) (by omega) hi
            have hsub := sub_cons hi (show i < dEnd s k (i + 1) by omega)
            obtain ⟨R, k1, k2⟩ := rel_toks n m' (dEnd s k (i + 1)) (l ++ [⟨110, sub s i (dEnd s k (i + 1)), i⟩]) true (by omega) q1 hle.2 (fun _ => hat)
            refine ⟨⟨110, sub s i (dEnd s k (i + 1)), i⟩ :: R, ?_, .more (.num i (dEnd s k (i + 1)) (by omega) hle.2 (sub_digs (by omega) hle.2 ?_)) (endK48 _ _) k2⟩
            · rw [toksP, if_pos hi, hr]
              have e : stepT l false i ((s.getD i 0).toNat : Int) = (l ++ [⟨110, [s.getD i 0], i⟩], true) := by
                have hd : digR ((s.getD i 0).toNat : Int) = true := hd
                have h32 : ¬ ((s.getD i 0).toNat : Int) = 32 := h32
                unfold stepT
                rw [if_neg (by simp), if_neg h32, enc_b hbn, hd]
                unfold kindR
                rw [if_pos hd]
              rw [e]
              rw [hsub] at k1
              refine q2.trans ?_
              rw [show [s.getD i 0] ++ sub s (i + 1) (dEnd s k (i + 1)) = s.getD i 0 :: sub s (i + 1) (dEnd s k (i + 1)) from rfl, k1, hsub]
              simp
            · rw [hsub]
              intro b hb2
              rcases List.mem_cons.1 hb2 with e | hb2
              · subst e
                have := digR_iff.1 hd
                unfold bt at this
                unfold digB
                omega
              · exact q3 b hb2
          · rw [if_neg hd]
            have hd : digR (bt s i) = false := by simpa using hd
            by_cases hs : symR (bt s i) = true
            · rw [if_pos hs]
              have hsb := symR_B hs
              obtain ⟨R, k1, k2⟩ := rel_toks n m (i + 1) (l ++ [⟨kindR (s.getD i 0).toNat, [s.getD i 0], i⟩]) false (by omega) (by omega) hi (by simp)
              refine ⟨⟨kindR (s.getD i 0).toNat, [s.getD i 0], i⟩ :: R, ?_, .more (.sym _ i hsb) (symB_end hsb _ _) k2⟩
              rw [toksP, if_pos hi, hr]
              have e : stepT l op i ((s.getD i 0).toNat : Int) = (l ++ [⟨kindR (s.getD i 0).toNat, [s.getD i 0], i⟩], false) := by
                have hd : digR ((s.getD i 0).toNat : Int) = false := hd
                have h32 : ¬ ((s.getD i 0).toNat : Int) = 32 := h32
                unfold stepT
                rw [if_neg (by rw [hd]; simp), if_neg h32, enc_b hbn, hd]
              rw [e]
              refine k1.trans ?_
              simp
            · rw [if_neg hs]
              have hs : symR (bt s i) = false := by simpa using hs
              obtain ⟨t, R, hR⟩ := toks_bad (m := m) (l := l) (op := op) hi (by rw [hr]; exact h32) (by rw [hr]; exact hd) (by rw [hr]; exact hs)
              exact ⟨_, hR, .last (.bad i t) (.inl rfl)⟩
      · have hr := rune_high hi hb
        have d1 : ∀ r : Int, 128 ≤ r → digR r = false := fun r h => by
          cases h9 : digR r with
          | false => rfl
          | true => have := digR_iff.1 h9; omega
        have d2 : ∀ r : Int, 128 ≤ r → symR r = false := fun r h => by
          unfold symR
          simp only [Bool.or_eq_false_iff, decide_eq_false_iff_not]
          omega
        rw [dtP, if_pos hi, if_neg (by omega), if_neg (by rw [d1 _ hb]; decide), if_neg (by rw [d2 _ hb]; decide)]
        obtain ⟨t, R, hR⟩ := toks_bad (m := m) (l := l) (op := op) hi (by omega) (d1 _ (by omega)) (d2 _ (by omega))
        exact ⟨_, hR, .last (.bad i t) (.inl rfl)⟩
    · have : i = s.length := by omega
      subst this
      rw [dtP, if_neg hi, toksP, if_neg hi]
      exact ⟨[], by simp, .last (.fin _) (.inr rfl)⟩
theorem rel_all (s : List UInt8) : Rel s (dtoks s) (toks s) := by
  obtain ⟨R, h1, h2⟩ := rel_toks (s := s) (s.length + 1) (s.length + 1) 0 [] false (by omega) (by omega) (by omega) (by simp)
  unfold dtoks toks
  rw [h1]
  exact h2
theorem rel_at {s : List UInt8} {ds : List DTok} {ys : List Tok} (h : Rel s ds ys) : 0 < ds.length ∧ ds.length ≤ ys.length ∧ ∀ i < ds.length, VT s (ds.getD i ⟨0, 0, 0⟩) (tk ys i) ∧ (i + 1 < ds.length ↔ ¬ endK (ds.getD i ⟨0, 0, 0⟩)) := by
  induction h with
  | last h1 h2 =>
    refine ⟨by simp, by simp, fun i hi => ?_⟩
    have : i = 0 := by simpa using hi
    subst this
    exact ⟨h1, by simp; exact h2⟩
  | @more d y ds ys h1 h2 h3 ih =>
    obtain ⟨g1, g2, g3⟩ := ih
    refine ⟨by simp, by simp only [List.length_cons]; omega, fun i hi => ?_⟩
    cases i with
    | zero => exact ⟨h1, by simp only [List.length_cons]; exact ⟨fun _ => h2, fun _ => by omega⟩⟩
    | succ i =>
      obtain ⟨k1, k2⟩ := g3 i (by simp only [List.length_cons] at hi; omega)
      refine ⟨?_, ?_⟩
      · unfold tk at k1 ⊢
        rw [List.getD_cons_succ, List.getD_cons_succ]
        exact k1
      · rw [List.getD_cons_succ, ← k2, List.length_cons]
        omega
end Go.AM
open Go Go.AM Go.Proofs
namespace Go.AM
open Dist
set_option maxRecDepth 100000
structure Two (s : List UInt8) (ds : List DTok) (ys : List Tok) : Prop where
  hs : s.length ≤ 65536
  h0 : 0 < @List.length DTok ds
  h1 : @List.length DTok ds ≤ @List.length Tok ys
  h2 : ∀ i < @List.length DTok ds, VT s (dk ds i) (tk ys i) ∧ (i + 1 < @List.length DTok ds ↔ ¬ endK (dk ds i))
theorem dk_nat (ds : List DTok) (i : Nat) : dk ds (i : Int) = ds.getD i ⟨0, 0, 0⟩ := by
  unfold dk
  rw [Int.toNat_natCast]
  rfl
theorem two_all {s : List UInt8} (hs : s.length ≤ 65536) : Two s (dtoks s) (toks s) := by
  obtain ⟨h0, h1, h2⟩ := rel_at (rel_all s)
  exact ⟨hs, h0, h1, fun i hi => by rw [dk_nat]; exact h2 i hi⟩
theorem sub_len {s : List UInt8} {i j : Nat} (h : i ≤ j) (hj : j ≤ s.length) : (sub s i j).length = j - i := by
  simp only [sub, List.length_take, List.length_drop]
  omega
theorem sub_get {s : List UInt8} {i j k : Nat} (hj : j ≤ s.length) (hk : i + k < j) : (sub s i j).getD k 0 = s.getD (i + k) 0 := by
  unfold sub
  rw [List.getD_eq_getElem?_getD, List.getElem?_take, if_pos (by omega), List.getElem?_drop, ← List.getD_eq_getElem?_getD]
theorem dig_at {s : List UInt8} {i j : Nat} (h : i ≤ j) (hj : j ≤ s.length) (hd : digs (sub s i j)) : DigAt s i j := by
  refine ⟨by omega, by omega, by omega, fun k hk1 hk2 => ?_⟩
  have hk1 : i ≤ k := by omega
  have hk2 : k < j := by omega
  have hl := sub_len h hj
  have hm : (sub s i j).getD (k - i) 0 ∈ sub s i j := by
    rw [List.getD_eq_getElem?_getD, List.getElem?_eq_getElem (by omega)]
    exact List.getElem_mem _
  rw [sub_get hj (by omega), show i + (k - i) = k by omega] at hm
  have := hd.2 _ hm
  unfold digB at this
  exact digR_iff.2 (by unfold bt; omega)
section
variable {s : List UInt8} {ds : List DTok} {ys : List Tok}
theorem dk_out {i : Int} (h : ¬ (i.toNat < @List.length DTok ds)) : dk ds i = ⟨0, 0, 0⟩ := by
  show List.getD ds i.toNat (⟨0, 0, 0⟩ : DTok) = _
  rw [List.getD_eq_getElem?_getD, List.getElem?_eq_none (Nat.le_of_not_lt h)]
  rfl
theorem sym_not {b : UInt8} (h : symB b) : (b.toNat : Int) ≠ 48 ∧ (b.toNat : Int) ≠ 0 ∧ (b.toNat : Int) ≠ 101 := by rcases h with e | e | e | e | e | e | e <;> subst e <;> decide
theorem Two.dok (t : Two s ds ys) (hl : @List.length DTok ds ≤ 4611686018427387904) : DOk s ds := by
  refine ⟨t.hs, hl, fun i => ?_⟩
  by_cases h : i.toNat < @List.length DTok ds
  · have hv := (t.h2 i.toNat h).1
    have e : dk ds ((i.toNat : Nat) : Int) = dk ds i := by unfold dk; rw [Int.toNat_natCast]
    rw [e] at hv
    generalize dk ds i = d at hv
    generalize tk ys i.toNat = y at hv
    cases hv with
    | num a b h1 h2 h3 => exact ⟨by simp only; omega, fun _ => dig_at (Nat.le_of_lt h1) h2 h3⟩
    | sym b a h1 => exact ⟨by simp only; omega, fun h => absurd h (sym_not h1).1⟩
    | bad a t => exact ⟨by simp only; omega, fun h => absurd (show (0 : Int) = 48 from h) (by decide)⟩
    | fin n => exact ⟨by simp only; omega, fun h => absurd (show (101 : Int) = 48 from h) (by decide)⟩
  · rw [dk_out h]
    exact ⟨Int.le_refl _, fun h => absurd (show (0 : Int) = 48 from h) (by decide)⟩
structure Same (s : List UInt8) (d : DTok) (y : Tok) : Prop where
  pos : y.pos = d.pos
  n : y.kind = 110 ↔ d.kind = 48
  l : y.kind = 120 ↔ isLet d.kind
  lt : y.kind = 120 → (y.text = [120] ↔ d.kind = 120) ∧ (y.text = [121] ↔ d.kind = 121)
  g : y.kind = 43 ↔ d.kind = 43 ∨ d.kind = 45
  gt : y.kind = 43 → (y.text = [45] ↔ d.kind = 45)
  sl : y.kind = 47 ↔ d.kind = 47
  co : y.kind = 44 ↔ d.kind = 44
  en : y.kind = 46 ↔ d.kind = 101
theorem VT.same {d : DTok} {y : Tok} (h : VT s d y) : Same s d y := by
  cases h with
  | num i j h1 h2 h3 => constructor <;> simp [isLet]
  | sym b i h1 => rcases h1 with e | e | e | e | e | e | e <;> subst e <;> constructor <;> simp [isLet, kindR, digR]
  | bad i t => constructor <;> simp [isLet]
  | fin n => constructor <;> simp [isLet]
theorem decFrom_num : ∀ (l : List UInt8) (n : Nat), (∀ b ∈ l, digB b) → ∃ m : Nat, Lib.decFrom n l = some m ∧ (m : Int) = l.foldl (fun a b => 10 * a + ((b.toNat : Int) - 48)) (n : Int)
  | [], n, _ => ⟨n, rfl, rfl⟩
  | b :: l, n, h => by
    have hb := h b (by simp)
    unfold digB at hb
    obtain ⟨m, h1, h2⟩ := decFrom_num l (n * 10 + (b.toNat - 48)) (fun c hc => h c (by simp [hc]))
    refine ⟨m, ?_, ?_⟩
    · unfold Lib.decFrom
      have : Lib.digitVal b = some (b.toNat - 48) := by unfold Lib.digitVal; rw [if_pos hb]
      rw [this]
      exact h1
    · rw [h2, List.foldl_cons]
      congr 1
      omega
theorem atoi_num {l : List UInt8} (h : digs l) : Lib.atoi l = some (numL l) := by
  obtain ⟨m, h1, h2⟩ := decFrom_num l 0 h.2
  rw [atoi_digs h h1]
  unfold numL
  rw [h2]
  rfl
theorem numL_lo {l : List UInt8} (h : ∀ b ∈ l, digB b) : ∀ a : Int, 0 ≤ a → a * 10 ^ l.length ≤ l.foldl (fun a b => 10 * a + ((b.toNat : Int) - 48)) a := by
  induction l with
  | nil => intro a _; simp
  | cons b l ih =>
    intro a ha
    have hb := h b (by simp)
    unfold digB at hb
    have := ih (fun c hc => h c (by simp [hc])) (10 * a + ((b.toNat : Int) - 48)) (by omega)
    rw [List.foldl_cons, List.length_cons, Int.pow_succ]
    refine Int.le_trans ?_ this
    have hp10 : (0 : Int) ≤ 10 ^ l.length := Int.pow_nonneg (by omega)
    rw [show a * (10 ^ l.length * 10) = (10 * a) * 10 ^ l.length by rw [Int.mul_comm (10 ^ l.length) 10, ← Int.mul_assoc, Int.mul_comm a 10]]
    exact Int.mul_le_mul_of_nonneg_right (by omega) hp10
theorem numL_hi {l : List UInt8} (h : ∀ b ∈ l, digB b) : ∀ a : Int, 0 ≤ a → l.foldl (fun a b => 10 * a + ((b.toNat : Int) - 48)) a < (a + 1) * 10 ^ l.length := by
  induction l with
  | nil => intro a _; simp; omega
  | cons b l ih =>
    intro a ha
    have hb := h b (by simp)
    unfold digB at hb
    have := ih (fun c hc => h c (by simp [hc])) (10 * a + ((b.toNat : Int) - 48)) (by omega)
    rw [List.foldl_cons, List.length_cons, Int.pow_succ]
    refine Int.lt_of_lt_of_le this ?_
    have hp10 : (0 : Int) ≤ 10 ^ l.length := Int.pow_nonneg (by omega)
    rw [show (a + 1) * (10 ^ l.length * 10) = (10 * (a + 1)) * 10 ^ l.length by rw [Int.mul_comm (10 ^ l.length) 10, ← Int.mul_assoc, Int.mul_comm (a + 1) 10]]
    exact Int.mul_le_mul_of_nonneg_right (by omega) hp10
theorem numL_len {l : List UInt8} (h : digs l) : 0 ≤ numL l ∧ numL l < 10 ^ l.length ∧ (¬ l.getD 0 0 = 48 → (10 : Int) ^ (l.length - 1) ≤ numL l) := by
  have h1 := numL_lo h.2 0 (Int.le_refl _)
  have h2 := numL_hi h.2 0 (Int.le_refl _)
  rw [Int.zero_mul] at h1
  rw [Int.zero_add, Int.one_mul] at h2
  refine ⟨h1, h2, fun h0 => ?_⟩
  cases l with
  | nil => exact absurd rfl h.1
  | cons b r =>
    have hb := h.2 b (by simp)
    have hr := numL_lo (l := r) (fun c hc => h.2 c (by simp [hc])) (10 * 0 + ((b.toNat : Int) - 48))
    have hb0 : b.toNat ≠ 48 := fun e => h0 (by
      show b = 48
      exact UInt8.toNat_inj.1 e)
    unfold digB at hb
    have hr := hr (by omega)
    show (10 : Int) ^ r.length ≤ numL (b :: r)
    unfold numL
    rw [List.foldl_cons]
    refine Int.le_trans ?_ hr
    have hp10 : (0 : Int) ≤ 10 ^ r.length := Int.pow_nonneg (by omega)
    have := Int.mul_le_mul_of_nonneg_right (show (1 : Int) ≤ 10 * 0 + ((b.toNat : Int) - 48) by omega) hp10
    rw [Int.one_mul] at this
    exact this
theorem subI_sub (s : List UInt8) (i j : Nat) : subI s (i : Int) j = sub s i j := by unfold subI sub; rw [Int.toNat_natCast]
theorem num_two {i j : Nat} (h1 : i < j) (h2 : j ≤ s.length) (h3 : digs (sub s i j)) :
    numV (sub s i j) 999 = dNum s i j 3 ∧ (numV (sub s i j) 1000 < 1 ↔ dNum s i j 4 < 1 ∨ 1000 < dNum s i j 4) ∧ (¬ numV (sub s i j) 1000 < 1 → numV (sub s i j) 1000 = dNum s i j 4) := by
  obtain ⟨n1, n2, n3⟩ := numL_len h3
  have hl := sub_len (Nat.le_of_lt h1) h2
  have ha := atoi_num h3
  have hz : (sub s i j).getD 0 0 = 48 ↔ bt s (i : Int).toNat = 48 := by
    rw [sub_get h2 (by omega), Nat.add_zero, Int.toNat_natCast]
    unfold bt
    constructor
    · intro h; rw [h]; rfl
    · intro h
      exact UInt8.toNat_inj.1 (by show (s.getD i 0).toNat = 48; omega)
  have hn : subI s (i : Int) (j : Int).toNat = sub s i j := by rw [Int.toNat_natCast, subI_sub]
  unfold numV dNum
  rw [ha, hn]
  simp only [Option.getD_some]
  generalize numL (sub s i j) = v at *
  by_cases c4 : 4 < (sub s i j).length
  · rw [if_pos c4, if_pos c4, if_pos (by omega), if_pos (by omega)]
    omega
  · rw [if_neg c4, if_neg c4, if_neg (show ¬ (4 : Int) < (j : Int) - i by omega)]
    by_cases cz : 1 < (sub s i j).length ∧ (sub s i j).getD 0 0 = 48
    · rw [if_pos cz, if_pos cz, if_pos (show 1 < (j : Int) - i ∧ bt s (i : Int).toNat = 48 from ⟨by omega, hz.1 cz.2⟩)]
      refine ⟨?_, by omega, by omega⟩
      by_cases c3 : (3 : Int) < (j : Int) - i
      · rw [if_pos c3]
      · rw [if_neg c3]
    · have cz' : ¬ (1 < (j : Int) - i ∧ bt s (i : Int).toNat = 48) := fun h => cz ⟨by omega, hz.2 h.2⟩
      rw [if_neg cz, if_neg cz, if_neg cz']
      by_cases c3 : (3 : Int) < (j : Int) - i
      · rw [if_pos c3]
        have h4 : (sub s i j).length = 4 := by omega
        have h9 : ¬ (sub s i j).getD 0 0 = 48 := fun h => cz ⟨by omega, h⟩
        have := n3 h9
        rw [h4] at this n2
        simp at this n2
        rw [if_pos (by omega)]
        refine ⟨rfl, ?_, ?_⟩ <;> split <;> omega
      · rw [if_neg c3]
        have n4 : v < 1000 := by
          have : (10 : Int) ^ (sub s i j).length ≤ 10 ^ 3 := by
            have h9 : (sub s i j).length = 1 ∨ (sub s i j).length = 2 ∨ (sub s i j).length = 3 := by omega
            rcases h9 with e | e | e <;> rw [e] <;> decide
          omega
        rw [if_neg (by omega), if_neg (by omega)]
        refine ⟨rfl, by omega, fun _ => rfl⟩
end
end Go.AM
open Go Go.AM Go.Proofs
namespace Go.AM
open Dist
set_option maxRecDepth 100000
section
variable {s : List UInt8} {ds : List DTok} {ys : List Tok}
theorem Two.same (t : Two s ds ys) {i : Nat} (hi : i < @List.length DTok ds) : Same s (dk ds i) (tk ys i) := (t.h2 i hi).1.same
theorem Two.next (t : Two s ds ys) {i : Nat} (hi : i < @List.length DTok ds) (he : ¬ endK (dk ds i)) : nx ys i = i + 1 ∧ dSkip ds (i : Int) = ((i + 1 : Nat) : Int) ∧ i + 1 < @List.length DTok ds := by
  have h := (t.h2 i hi).2.2 he
  have h1 := t.h1
  refine ⟨if_pos (by omega), ?_, h⟩
  unfold dSkip
  rw [if_pos (by omega)]
  omega
theorem not_end {d : DTok} {k : Int} (h : d.kind = k) (h0 : k ≠ 0) (h1 : k ≠ 101) : ¬ endK d := fun e => e.elim (fun e => h0 (h.symm.trans e)) (fun e => h1 (h.symm.trans e))
theorem Two.pos (t : Two s ds ys) {i : Nat} (hi : i < @List.length DTok ds) : (tk ys i).pos = (dk ds i).pos ∧ 0 ≤ (dk ds i).pos := by
  have hv := (t.h2 i hi).1
  refine ⟨hv.same.pos, ?_⟩
  generalize dk ds i = d at hv
  generalize tk ys i = y at hv
  cases hv <;> simp only <;> omega
theorem Two.sign (t : Two s ds ys) {i : Nat} (hi : i < @List.length DTok ds) : sgV ys i = dSv ds i ∧ ((sgN ys i : Nat) : Int) = dSi ds i ∧ sgN ys i < @List.length DTok ds ∧ i ≤ sgN ys i ∧ (sgB ys i = true ↔ (dk ds i).kind = 43 ∨ (dk ds i).kind = 45) ∧ (sgB ys i = true → sgN ys i = i + 1) ∧ (sgB ys i = false → sgN ys i = i) := by
  have hs := t.same hi
  by_cases h45 : (dk ds i).kind = 45
  · have k : (tk ys i).kind = 43 := hs.g.2 (.inr h45)
    obtain ⟨n1, n2, n3⟩ := t.next hi (not_end h45 (by decide) (by decide))
    have e : sgN ys i = i + 1 := (if_pos k).trans n1
    have eb : sgB ys i = true := decide_eq_true k
    refine ⟨?_, ?_, by omega, by omega, ⟨fun _ => .inr h45, fun _ => eb⟩, fun _ => e, fun h => by rw [eb] at h; cases h⟩
    · rw [sgV, if_pos ⟨k, (hs.gt k).2 h45⟩, dSv, if_pos h45]
    · rw [e, dSi, if_pos h45, n2]
  · by_cases h43 : (dk ds i).kind = 43
    · have k : (tk ys i).kind = 43 := hs.g.2 (.inl h43)
      obtain ⟨n1, n2, n3⟩ := t.next hi (not_end h43 (by decide) (by decide))
      have e : sgN ys i = i + 1 := (if_pos k).trans n1
      have eb : sgB ys i = true := decide_eq_true k
      refine ⟨?_, ?_, by omega, by omega, ⟨fun _ => .inl h43, fun _ => eb⟩, fun _ => e, fun h => by rw [eb] at h; cases h⟩
      · rw [sgV, if_neg (fun h => h45 ((hs.gt k).1 h.2)), dSv, if_neg h45]
      · rw [e, dSi, if_neg h45, if_pos h43, n2]
    · have k : ¬ (tk ys i).kind = 43 := fun h => (hs.g.1 h).elim h43 h45
      have e : sgN ys i = i := if_neg k
      have eb : sgB ys i = false := decide_eq_false k
      refine ⟨?_, ?_, by omega, by omega, ⟨(fun h => by rw [eb] at h; cases h), (fun h => absurd h (fun h => h.elim h43 h45))⟩, (fun h => by rw [eb] at h; cases h), fun _ => e⟩
      · rw [sgV, if_neg (fun h => k h.1), dSv, if_neg h45]
      · rw [e, dSi, if_neg h45, if_neg h43]
theorem Two.num (t : Two s ds ys) {i : Nat} (hi : i < @List.length DTok ds) (h : (dk ds i).kind = 48) : numV (tk ys i).text 999 = dNum s (dk ds i).pos (dk ds i).next 3 ∧ (numV (tk ys i).text 1000 < 1 ↔ dNum s (dk ds i).pos (dk ds i).next 4 < 1 ∨ 1000 < dNum s (dk ds i).pos (dk ds i).next 4) ∧ (¬ numV (tk ys i).text 1000 < 1 → numV (tk ys i).text 1000 = dNum s (dk ds i).pos (dk ds i).next 4) := by
  have hv := (t.h2 i hi).1
  generalize dk ds i = d at hv h
  generalize tk ys i = y at hv
  cases hv with
  | num a b h1 h2 h3 => exact num_two h1 h2 h3
  | sym b a h1 => exact absurd h (sym_not h1).1
  | bad a t => exact absurd (show (0 : Int) = 48 from h) (by decide)
  | fin n => exact absurd (show (101 : Int) = 48 from h) (by decide)
theorem Two.frac (t : Two s ds ys) {q : Nat} (hq : q < @List.length DTok ds) (h : (dk ds q).kind = 48) (g : Bool) :
    (frS ys q g).1 = (dFr s ds ((q + 1 : Nat) : Int) (dk ds q).pos (dk ds q).next g).1 ∧ (frS ys q g).2.1 = (dFr s ds ((q + 1 : Nat) : Int) (dk ds q).pos (dk ds q).next g).2.2 ∧
    ((frS ys q g).2.1 = -1 ∧ ((frS ys q g).2.2 : Int) = (dFr s ds ((q + 1 : Nat) : Int) (dk ds q).pos (dk ds q).next g).2.1 ∧ (frS ys q g).2.2 < @List.length DTok ds ∨ 0 ≤ (frS ys q g).2.1) := by
  obtain ⟨n1, n2, n3⟩ := t.next hq (not_end h (by decide) (by decide))
  obtain ⟨m1, -, -⟩ := t.num hq h
  obtain ⟨p1, p2⟩ := t.pos hq
  unfold frS dFr
  rw [m1, n1, p1]
  generalize hN : dNum s (dk ds q).pos (dk ds q).next 3 = N
  by_cases c1 : N < 0 ∨ g = true
  · rw [if_pos c1, if_pos c1]
    exact ⟨rfl, rfl, .inr p2⟩
  · rw [if_neg c1, if_neg c1]
    have s1 := t.same n3
    by_cases c2 : (dk ds ((q + 1 : Nat) : Int)).kind = 47
    · rw [if_neg (show ¬ (tk ys (q + 1)).kind ≠ 47 from fun h => h (s1.sl.2 c2)), if_neg (show ¬ ¬ (dk ds ((q + 1 : Nat) : Int)).kind = 47 from fun h => h c2)]
      obtain ⟨a1, a2, a3⟩ := t.next n3 (not_end c2 (by decide) (by decide))
      rw [a1, a2]
      have s2 := t.same a3
      obtain ⟨p3, p4⟩ := t.pos a3
      by_cases c3 : (dk ds ((q + 1 + 1 : Nat) : Int)).kind = 48
      · rw [if_neg (show ¬ (tk ys (q + 1 + 1)).kind ≠ 110 from fun h => h (s2.n.2 c3)), if_neg (show ¬ ¬ (dk ds ((q + 1 + 1 : Nat) : Int)).kind = 48 from fun h => h c3)]
        obtain ⟨m2, -, -⟩ := t.num a3 c3
        obtain ⟨b1, b2, b3⟩ := t.next a3 (not_end c3 (by decide) (by decide))
        rw [m2, b1, b2]
        generalize hM : dNum s (dk ds ((q + 1 + 1 : Nat) : Int)).pos (dk ds ((q + 1 + 1 : Nat) : Int)).next 3 = M
        by_cases c4 : M < 1 ∨ ¬ (24 * N).tmod M = 0
        · rw [if_pos c4, if_pos c4]
          exact ⟨rfl, rfl, .inr p2⟩
        · rw [if_neg c4, if_neg c4]
          exact ⟨rfl, rfl, .inl ⟨rfl, rfl, b3⟩⟩
      · rw [if_pos (show (tk ys (q + 1 + 1)).kind ≠ 110 from fun h => c3 (s2.n.1 h)), if_pos c3]
        exact ⟨rfl, p3, .inr (by rw [p3]; exact p4)⟩
    · rw [if_pos (show (tk ys (q + 1)).kind ≠ 47 from fun h => c2 (s1.sl.1 h)), if_pos c2]
      exact ⟨rfl, rfl, .inl ⟨rfl, rfl, n3⟩⟩
structure Corr (x : RS) (y : DR) : Prop where
  i : y.i = x.st
  p : y.p = -1
  e0 : y.e0 = x.e0
  e1 : y.e1 = x.e1
  e2 : y.e2 = x.e2
  part : y.part = x.parts
  s0 : y.s0 = x.s0
  s1 : y.s1 = x.s1
  s2 : y.s2 = x.s2
  s3 : y.s3 = x.again
def StepRel (len lo : Nat) (D : DR) : RS ⊕ RR → Prop
  | .inl x => Corr x D ∧ x.first = false ∧ lo < x.st ∧ x.st < len
  | .inr r => r.fault = D.p ∧ 0 ≤ r.fault
theorem Two.letter (t : Two s ds ys) {x : RS} {y : DR} (c : Corr x y) {q : Nat} (hq : q < @List.length DTok ds) (hl : isLet (dk ds q).kind) (sk : Int) {lo : Nat} (hlo : lo ≤ q) : StepRel (@List.length DTok ds) lo (dLetP ds y sk q) (letP ys x sk q) := by
  have hs := t.same hq
  have hk : (tk ys q).kind = 120 := hs.l.2 hl
  obtain ⟨l1, l2⟩ := hs.lt hk
  obtain ⟨p1, p2⟩ := t.pos hq
  have hne : ¬ endK (dk ds q) := by
    rcases hl with h | h | h
    · exact not_end h (by decide) (by decide)
    · exact not_end h (by decide) (by decide)
    · exact not_end h (by decide) (by decide)
  obtain ⟨n1, n2, n3⟩ := t.next hq hne
  unfold letP dLetP
  rw [n1, n2, p1, c.s0, c.s1, c.s2, c.s3, c.e0, c.e1, c.e2, c.part]
  by_cases h0 : (dk ds q).kind = 120
  · rw [if_pos (l1.2 h0), if_pos h0]
    by_cases d : x.s0 = true
    · rw [if_pos d, if_pos d]
      exact ⟨rfl, p2⟩
    · rw [if_neg d, if_neg d]
      exact ⟨⟨rfl, rfl, rfl, rfl, rfl, rfl, rfl, rfl, rfl, rfl⟩, rfl, show lo < q + 1 by omega, n3⟩
  · rw [if_neg (fun h => h0 (l1.1 h)), if_neg h0]
    by_cases h1 : (dk ds q).kind = 121
    · rw [if_pos (l2.2 h1), if_pos h1]
      by_cases d : x.s1 = true
      · rw [if_pos d, if_pos d]
        exact ⟨rfl, p2⟩
      · rw [if_neg d, if_neg d]
        exact ⟨⟨rfl, rfl, rfl, rfl, rfl, rfl, rfl, rfl, rfl, rfl⟩, rfl, show lo < q + 1 by omega, n3⟩
    · have h2 : (dk ds q).kind = 122 := by rcases hl with h | h | h; exact absurd h h0; exact absurd h h1; exact h
      rw [if_neg (fun h => h1 (l2.1 h)), if_neg h1, if_pos h2]
      by_cases d : x.s2 = true
      · rw [if_pos d, if_pos d]
        exact ⟨rfl, p2⟩
      · rw [if_neg d, if_neg d]
        exact ⟨⟨rfl, rfl, rfl, rfl, rfl, rfl, rfl, rfl, rfl, rfl⟩, rfl, show lo < q + 1 by omega, n3⟩
theorem dLetP_not {x : DR} {sk j : Int} (h : ¬ isLet (dk ds j).kind) : dLetP ds x sk j = x.err j (dk ds j).pos := by
  unfold dLetP
  rw [if_neg (fun e => h (.inl e)), if_neg (fun e => h (.inr (.inl e))), if_neg (fun e => h (.inr (.inr e)))]
theorem Two.step (t : Two s ds ys) {x : RS} {y : DR} (c : Corr x y) (hx : x.st < @List.length DTok ds) (hf : x.first = true ∨ sgB ys x.st = true) : StepRel (@List.length DTok ds) x.st (dStep s ds y) (stepR ys x) := by
  obtain ⟨g1, g2, g3, g4, -, -, -⟩ := t.sign hx
  unfold stepR dStep dTerm
  rw [if_neg (show ¬ (x.first = false ∧ sgB ys x.st = false) from fun h => hf.elim (fun e => by rw [e] at h; cases h.1) (fun e => by rw [e] at h; cases h.2)), c.i, ← g1, ← g2]
  generalize sgV ys x.st = sg
  generalize sgN ys x.st = q at *
  have hs := t.same g3
  by_cases k48 : (dk ds q).kind = 48
  · have k110 : (tk ys q).kind = 110 := hs.n.2 k48
    have k120 : ¬ (tk ys q).kind = 120 := by rw [k110]; decide
    obtain ⟨n1, n2, n3⟩ := t.next g3 (not_end k48 (by decide) (by decide))
    obtain ⟨-, m2, m3⟩ := t.num g3 k48
    obtain ⟨p1, p2⟩ := t.pos g3
    have hs1 := t.same n3
    rw [if_pos k48, n1, n2]
    by_cases hl : isLet (dk ds ((q + 1 : Nat) : Int)).kind
    · rw [if_pos (show (tk ys q).kind = 110 ∧ (tk ys (q + 1)).kind = 120 from ⟨k110, hs1.l.2 hl⟩), if_pos hl]
      by_cases hn : numV (tk ys q).text 1000 < 1
      · rw [if_pos hn, if_pos (m2.1 hn)]
        exact ⟨p1, by show 0 ≤ (tk ys q).pos; rw [p1]; exact p2⟩
      · rw [if_neg hn, if_neg (fun h => hn (m2.2 h)), m3 hn]
        exact t.letter c n3 hl _ (by omega)
    · rw [if_neg (show ¬ ((tk ys q).kind = 110 ∧ (tk ys (q + 1)).kind = 120) from fun h => hl (hs1.l.1 h.2)), if_neg hl, if_neg k120, if_pos k110]
      obtain ⟨f1, f2, f3⟩ := t.frac g3 k48 x.again
      rw [c.s3]
      rcases f3 with ⟨f3, f4, f5⟩ | f3
      · rw [if_neg (by omega)]
        have hle := frS_le ys q x.again
        rw [n1] at hle
        exact ⟨⟨f4.symm, f2.symm.trans f3, c.e0, c.e1, c.e2, by rw [f1], c.s0, c.s1, c.s2, rfl⟩, rfl, show x.st < (frS ys q x.again).2.2 by omega, f5⟩
      · rw [if_pos f3]
        exact ⟨f2, f3⟩
  · have k110 : ¬ (tk ys q).kind = 110 := fun h => k48 (hs.n.1 h)
    rw [if_neg (show ¬ ((tk ys q).kind = 110 ∧ (tk ys (nx ys q)).kind = 120) from fun h => k110 h.1), if_neg k48]
    by_cases hl : isLet (dk ds q).kind
    · rw [if_pos (hs.l.2 hl)]
      exact t.letter c g3 hl _ g4
    · obtain ⟨p1, p2⟩ := t.pos g3
      rw [if_neg (fun h => hl (hs.l.1 h)), if_neg k110, dLetP_not hl]
      exact ⟨p1, by show 0 ≤ (tk ys q).pos; rw [p1]; exact p2⟩
def RowRel (len : Nat) (R : RR) (D : DR) : Prop :=
  (R.fault = -1 ∧ D.p = -1 ∧ R.e0 = D.e0 ∧ R.e1 = D.e1 ∧ R.e2 = D.e2 ∧ R.parts = D.part ∧ (R.st : Int) = D.i ∧ R.st < len) ∨ (0 ≤ R.fault ∧ D.p = R.fault)
theorem dRow_stop {n : Nat} {D : DR} (h : ¬ dGo ds D) : dRowR s ds n D = D := by
  cases n with
  | zero => rfl
  | succ n => rw [dRowR, if_neg h]
theorem Two.rows (t : Two s ds ys) : ∀ (n m : Nat) (x : RS) (y : DR), Corr x y → x.first = false → x.st < @List.length DTok ds → @List.length DTok ds - x.st < n → @List.length DTok ds - x.st < m → RowRel (@List.length DTok ds) (rowR ys n x) (dRowR s ds m y)
  | 0, _, _, _, _, _, _, h, _ => by omega
  | n + 1, m, x, y, c, hf, hx, hn, hm => by
    obtain ⟨m, rfl⟩ : ∃ k, m = k + 1 := ⟨m - 1, by omega⟩
    obtain ⟨g1, g2, g3, g4, g5, g6, g7⟩ := t.sign hx
    cases hb : sgB ys x.st with
    | true =>
      have hgo : dGo ds y := ⟨by rw [c.p]; decide, by rw [c.i]; exact g5.1 hb⟩
      have hstep := t.step c hx (.inr hb)
      rw [dRowR, if_pos hgo, rowR]
      generalize dStep s ds y = D at *
      cases hr : stepR ys x with
      | inr r =>
        rw [hr] at hstep
        obtain ⟨r1, r2⟩ := hstep
        rw [dRow_stop (fun h => by have := h.1; omega)]
        exact .inr ⟨r2, r1.symm⟩
      | inl x' =>
        rw [hr] at hstep
        obtain ⟨r1, r2, r3, r4⟩ := hstep
        exact Two.rows t n m x' D r1 r2 r4 (by omega) (by omega)
    | false =>
      have hno : ¬ dGo ds y := fun h => by
        have h2 := h.2
        rw [c.i] at h2
        rw [g5.2 h2] at hb
        cases hb
      rw [dRowR, if_neg hno, rowR]
      have e : stepR ys x = .inr ⟨x.e0, x.e1, x.e2, x.parts, -1, sgN ys x.st⟩ := by
        unfold stepR
        rw [if_pos ⟨hf, hb⟩]
      rw [e]
      have := g7 hb
      exact .inl ⟨rfl, c.p, c.e0.symm, c.e1.symm, c.e2.symm, c.part.symm, by rw [c.i]; show ((sgN ys x.st : Nat) : Int) = _; rw [this], by show sgN ys x.st < _; omega⟩
theorem Two.row (t : Two s ds ys) {i : Nat} (hi : i < @List.length DTok ds) : RowRel (@List.length DTok ds) (rowF ys i) (dRowF s ds i) := by
  have c : Corr (rs0 i) (dr0 i) := ⟨rfl, rfl, rfl, rfl, rfl, rfl, rfl, rfl, rfl, rfl⟩
  have hstep := t.step c hi (.inl rfl)
  have h1 := t.h1
  unfold rowF dRowF
  rw [rowR]
  generalize dStep s ds (dr0 i) = D at *
  cases hr : stepR ys (rs0 i) with
  | inr r =>
    rw [hr] at hstep
    obtain ⟨r1, r2⟩ := hstep
    rw [dRow_stop (fun h => by have := h.1; omega)]
    exact .inr ⟨r2, r1.symm⟩
  | inl x' =>
    rw [hr] at hstep
    obtain ⟨r1, r2, r3, r4⟩ := hstep
    have r3 : i < x'.st := r3
    exact t.rows _ _ x' D r1 r2 r4 (by omega) (by omega)
end
end Go.AM
open Go Go.AM Go.Proofs
namespace Go.AM
open Dist
set_option maxRecDepth 100000
theorem nfdread (s : List UInt8) (K : KV) : call P (Z7 pruneOn) noAnn 10000 Tryd.f15 [.v (.one (.str s))] [] K = (onB (decide ((65536 : Int) < (↑s.length : Int))) (K (AV.tup [PV.agg [SV.con IntKind.i64 (0 : Int), SV.con IntKind.i64 (0 : Int), SV.con IntKind.i64 (0 : Int), SV.con IntKind.i64 (0 : Int), SV.con IntKind.i64 (0 : Int), SV.con IntKind.i64 (0 : Int), SV.con IntKind.i64 (0 : Int), SV.con IntKind.i64 (0 : Int), SV.con IntKind.i64 (0 : Int), SV.con IntKind.i64 (0 : Int), SV.con IntKind.i64 (0 : Int), SV.con IntKind.i64 (0 : Int)], PV.one (SV.con IntKind.i64 (0 : Int)), PV.one (SV.con IntKind.i64 (2 : Int))]) []) (s.length.le (65536 : Nat) ∧ ∃ (z : List dtkC.τ), SameRows dtkC z dtkC (dtoks s) ∧ (((dtoks s).length = z.length ∧ (0 : Int) ≤ (0 : Int) ∧ (0 : Int) < (↑z.length : Int)) ∧ (-1 : Int) = (-1 : Int) ∧ (s.length.le (65536 : Nat) ∧ z.length.le (4611686018427387904 : Nat) ∧ ∀ (i : Int), (0 : Int) ≤ (dk z i).pos ∧ ((dk z i).kind = (48 : Int) → (0 : Int) ≤ (dk z i).pos ∧ (dk z i).pos ≤ (dk z i).next ∧ (dk z i).next ≤ (↑s.length : Int) ∧ ∀ (j : Nat), (dk z i).pos.toNat ≤ j → j < (dk z i).next.toNat → digR (bt s j) = true)) ∧ ((dk z ((↑z.length : Int) - (1 : Int))).kind = (0 : Int) ∨ (dk z ((↑z.length : Int) - (1 : Int))).kind = (101 : Int))) ∧ ((dRowF s z ((0 : Int))).p < (0 : Int) → (dRowF s z ((0 : Int))).p = (-1 : Int) ∧ ∃ (z_1 : List dtkC.τ), SameRows dtkC z_1 dtkC (dtoks s) ∧ (z.length = z_1.length ∧ ((0 : Int) ≤ (dRowF s z ((0 : Int))).i ∧ (dRowF s z ((0 : Int))).i < (↑z_1.length : Int)) ∧ z_1.length.le (4611686018427387904 : Nat)) ∧ (dTp z_1 (dRowF s z ((0 : Int))).i ((-1 : Int)) (44 : Int) < (0 : Int) → dTp z_1 (dRowF s z ((0 : Int))).i ((-1 : Int)) (44 : Int) = (-1 : Int) ∧ ∃ (z_2 : List dtkC.τ), SameRows dtkC z_2 dtkC (dtoks s) ∧ ((z_1.length = z_2.length ∧ (0 : Int) ≤ dTi z_1 (dRowF s z ((0 : Int))).i (44 : Int) ∧ dTi z_1 (dRowF s z ((0 : Int))).i (44 : Int) < (↑z_2.length : Int)) ∧ (-1 : Int) = (-1 : Int) ∧ (s.length.le (65536 : Nat) ∧ z_2.length.le (4611686018427387904 : Nat) ∧ ∀ (i : Int), (0 : Int) ≤ (dk z_2 i).pos ∧ ((dk z_2 i).kind = (48 : Int) → (0 : Int) ≤ (dk z_2 i).pos ∧ (dk z_2 i).pos ≤ (dk z_2 i).next ∧ (dk z_2 i).next ≤ (↑s.length : Int) ∧ ∀ (j : Nat), (dk z_2 i).pos.toNat ≤ j → j < (dk z_2 i).next.toNat → digR (bt s j) = true)) ∧ ((dk z_2 ((↑z_2.length : Int) - (1 : Int))).kind = (0 : Int) ∨ (dk z_2 ((↑z_2.length : Int) - (1 : Int))).kind = (101 : Int))) ∧ ((dRowF s z_2 (dTi z_1 (dRowF s z ((0 : Int))).i (44 : Int))).p < (0 : Int) → (dRowF s z_2 (dTi z_1 (dRowF s z ((0 : Int))).i (44 : Int))).p = (-1 : Int) ∧ ∃ (z_3 : List dtkC.τ), SameRows dtkC z_3 dtkC (dtoks s) ∧ (z_2.length = z_3.length ∧ ((0 : Int) ≤ (dRowF s z_2 (dTi z_1 (dRowF s z ((0 : Int))).i (44 : Int))).i ∧ (dRowF s z_2 (dTi z_1 (dRowF s z ((0 : Int))).i (44 : Int))).i < (↑z_3.length : Int)) ∧ z_3.length.le (4611686018427387904 : Nat)) ∧ (dTp z_3 (dRowF s z_2 (dTi z_1 (dRowF s z ((0 : Int))).i (44 : Int))).i ((-1 : Int)) (44 : Int) < (0 : Int) → dTp z_3 (dRowF s z_2 (dTi z_1 (dRowF s z ((0 : Int))).i (44 : Int))).i ((-1 : Int)) (44 : Int) = (-1 : Int) ∧ ∃ (z_4 : List dtkC.τ), SameRows dtkC z_4 dtkC (dtoks s) ∧ ((z_3.length = z_4.length ∧ (0 : Int) ≤ dTi z_3 (dRowF s z_2 (dTi z_1 (dRowF s z ((0 : Int))).i (44 : Int))).i (44 : Int) ∧ dTi z_3 (dRowF s z_2 (dTi z_1 (dRowF s z ((0 : Int))).i (44 : Int))).i (44 : Int) < (↑z_4.length : Int)) ∧ (-1 : Int) = (-1 : Int) ∧ (s.length.le (65536 : Nat) ∧ z_4.length.le (4611686018427387904 : Nat) ∧ ∀ (i : Int), (0 : Int) ≤ (dk z_4 i).pos ∧ ((dk z_4 i).kind = (48 : Int) → (0 : Int) ≤ (dk z_4 i).pos ∧ (dk z_4 i).pos ≤ (dk z_4 i).next ∧ (dk z_4 i).next ≤ (↑s.length : Int) ∧ ∀ (j : Nat), (dk z_4 i).pos.toNat ≤ j → j < (dk z_4 i).next.toNat → digR (bt s j) = true)) ∧ ((dk z_4 ((↑z_4.length : Int) - (1 : Int))).kind = (0 : Int) ∨ (dk z_4 ((↑z_4.length : Int) - (1 : Int))).kind = (101 : Int))) ∧ ((dRowF s z_4 (dTi z_3 (dRowF s z_2 (dTi z_1 (dRowF s z ((0 : Int))).i (44 : Int))).i (44 : Int))).p < (0 : Int) → (dRowF s z_4 (dTi z_3 (dRowF s z_2 (dTi z_1 (dRowF s z ((0 : Int))).i (44 : Int))).i (44 : Int))).p = (-1 : Int) ∧ ∃ (z_5 : List dtkC.τ), SameRows dtkC z_5 dtkC (dtoks s) ∧ (z_4.length = z_5.length ∧ ((0 : Int) ≤ (dRowF s z_4 (dTi z_3 (dRowF s z_2 (dTi z_1 (dRowF s z ((0 : Int))).i (44 : Int))).i (44 : Int))).i ∧ (dRowF s z_4 (dTi z_3 (dRowF s z_2 (dTi z_1 (dRowF s z ((0 : Int))).i (44 : Int))).i (44 : Int))).i < (↑z_5.length : Int)) ∧ z_5.length.le (4611686018427387904 : Nat)) ∧ (dTp z_5 (dRowF s z_4 (dTi z_3 (dRowF s z_2 (dTi z_1 (dRowF s z ((0 : Int))).i (44 : Int))).i (44 : Int))).i ((-1 : Int)) (101 : Int) < (0 : Int) → dTp z_5 (dRowF s z_4 (dTi z_3 (dRowF s z_2 (dTi z_1 (dRowF s z ((0 : Int))).i (44 : Int))).i (44 : Int))).i ((-1 : Int)) (101 : Int) = (-1 : Int) ∧ onB (!decide (matE (dRowF s z ((0 : Int))).e0 (dRowF s z ((0 : Int))).e1 (dRowF s z ((0 : Int))).e2 (dRowF s z_2 (dTi z_1 (dRowF s z ((0 : Int))).i (44 : Int))).e0 (dRowF s z_2 (dTi z_1 (dRowF s z ((0 : Int))).i (44 : Int))).e1 (dRowF s z_2 (dTi z_1 (dRowF s z ((0 : Int))).i (44 : Int))).e2 (dRowF s z_4 (dTi z_3 (dRowF s z_2 (dTi z_1 (dRowF s z ((0 : Int))).i (44 : Int))).i (44 : Int))).e0 (dRowF s z_4 (dTi z_3 (dRowF s z_2 (dTi z_1 (dRowF s z ((0 : Int))).i (44 : Int))).i (44 : Int))).e1 (dRowF s z_4 (dTi z_3 (dRowF s z_2 (dTi z_1 (dRowF s z ((0 : Int))).i (44 : Int))).i (44 : Int))).e2 = (0 : Int))) (K (AV.tup [PV.agg [SV.con IntKind.i64 (0 : Int), SV.con IntKind.i64 (0 : Int), SV.con IntKind.i64 (0 : Int), SV.con IntKind.i64 (0 : Int), SV.con IntKind.i64 (0 : Int), SV.con IntKind.i64 (0 : Int), SV.con IntKind.i64 (0 : Int), SV.con IntKind.i64 (0 : Int), SV.con IntKind.i64 (0 : Int), SV.con IntKind.i64 (0 : Int), SV.con IntKind.i64 (0 : Int), SV.con IntKind.i64 (0 : Int)], PV.one (SV.con IntKind.i64 (0 : Int)), PV.one (SV.sym IntKind.i64 (matE (dRowF s z ((0 : Int))).e0 (dRowF s z ((0 : Int))).e1 (dRowF s z ((0 : Int))).e2 (dRowF s z_2 (dTi z_1 (dRowF s z ((0 : Int))).i (44 : Int))).e0 (dRowF s z_2 (dTi z_1 (dRowF s z ((0 : Int))).i (44 : Int))).e1 (dRowF s z_2 (dTi z_1 (dRowF s z ((0 : Int))).i (44 : Int))).e2 (dRowF s z_4 (dTi z_3 (dRowF s z_2 (dTi z_1 (dRowF s z ((0 : Int))).i (44 : Int))).i (44 : Int))).e0 (dRowF s z_4 (dTi z_3 (dRowF s z_2 (dTi z_1 (dRowF s z ((0 : Int))).i (44 : Int))).i (44 : Int))).e1 (dRowF s z_4 (dTi z_3 (dRowF s z_2 (dTi z_1 (dRowF s z ((0 : Int))).i (44 : Int))).i (44 : Int))).e2))]) []) (K (AV.tup [PV.agg [SV.sym IntKind.i64 (dRowF s z ((0 : Int))).e0, SV.sym IntKind.i64 (dRowF s z ((0 : Int))).e1, SV.sym IntKind.i64 (dRowF s z ((0 : Int))).e2, SV.sym IntKind.i64 (dRowF s z_2 (dTi z_1 (dRowF s z ((0 : Int))).i (44 : Int))).e0, SV.sym IntKind.i64 (dRowF s z_2 (dTi z_1 (dRowF s z ((0 : Int))).i (44 : Int))).e1, SV.sym IntKind.i64 (dRowF s z_2 (dTi z_1 (dRowF s z ((0 : Int))).i (44 : Int))).e2, SV.sym IntKind.i64 (dRowF s z_4 (dTi z_3 (dRowF s z_2 (dTi z_1 (dRowF s z ((0 : Int))).i (44 : Int))).i (44 : Int))).e0, SV.sym IntKind.i64 (dRowF s z_4 (dTi z_3 (dRowF s z_2 (dTi z_1 (dRowF s z ((0 : Int))).i (44 : Int))).i (44 : Int))).e1, SV.sym IntKind.i64 (dRowF s z_4 (dTi z_3 (dRowF s z_2 (dTi z_1 (dRowF s z ((0 : Int))).i (44 : Int))).i (44 : Int))).e2, SV.sym IntKind.i64 (md24d (dRowF s z ((0 : Int))).part), SV.sym IntKind.i64 (md24d (dRowF s z_2 (dTi z_1 (dRowF s z ((0 : Int))).i (44 : Int))).part), SV.sym IntKind.i64 (md24d (dRowF s z_4 (dTi z_3 (dRowF s z_2 (dTi z_1 (dRowF s z ((0 : Int))).i (44 : Int))).i (44 : Int))).part)], PV.one (SV.con IntKind.i64 (0 : Int)), PV.one (SV.con IntKind.i64 (0 : Int))]) [])) ∧ ((0 : Int) ≤ dTp z_5 (dRowF s z_4 (dTi z_3 (dRowF s z_2 (dTi z_1 (dRowF s z ((0 : Int))).i (44 : Int))).i (44 : Int))).i ((-1 : Int)) (101 : Int) → K (AV.tup [PV.agg [SV.con IntKind.i64 (0 : Int), SV.con IntKind.i64 (0 : Int), SV.con IntKind.i64 (0 : Int), SV.con IntKind.i64 (0 : Int), SV.con IntKind.i64 (0 : Int), SV.con IntKind.i64 (0 : Int), SV.con IntKind.i64 (0 : Int), SV.con IntKind.i64 (0 : Int), SV.con IntKind.i64 (0 : Int), SV.con IntKind.i64 (0 : Int), SV.con IntKind.i64 (0 : Int), SV.con IntKind.i64 (0 : Int)], PV.one (SV.sym IntKind.i64 (Int.ofNat (dTp z_5 (dRowF s z_4 (dTi z_3 (dRowF s z_2 (dTi z_1 (dRowF s z ((0 : Int))).i (44 : Int))).i (44 : Int))).i ((-1 : Int)) (101 : Int)).toNat)), PV.one (SV.con IntKind.i64 (12 : Int))]) [])) ∧ ((0 : Int) ≤ (dRowF s z_4 (dTi z_3 (dRowF s z_2 (dTi z_1 (dRowF s z ((0 : Int))).i (44 : Int))).i (44 : Int))).p → K (AV.tup [PV.agg [SV.con IntKind.i64 (0 : Int), SV.con IntKind.i64 (0 : Int), SV.con IntKind.i64 (0 : Int), SV.con IntKind.i64 (0 : Int), SV.con IntKind.i64 (0 : Int), SV.con IntKind.i64 (0 : Int), SV.con IntKind.i64 (0 : Int), SV.con IntKind.i64 (0 : Int), SV.con IntKind.i64 (0 : Int), SV.con IntKind.i64 (0 : Int), SV.con IntKind.i64 (0 : Int), SV.con IntKind.i64 (0 : Int)], PV.one (SV.sym IntKind.i64 (Int.ofNat (dRowF s z_4 (dTi z_3 (dRowF s z_2 (dTi z_1 (dRowF s z ((0 : Int))).i (44 : Int))).i (44 : Int))).p.toNat)), PV.one (SV.con IntKind.i64 (12 : Int))]) [])) ∧ ((0 : Int) ≤ dTp z_3 (dRowF s z_2 (dTi z_1 (dRowF s z ((0 : Int))).i (44 : Int))).i ((-1 : Int)) (44 : Int) → K (AV.tup [PV.agg [SV.con IntKind.i64 (0 : Int), SV.con IntKind.i64 (0 : Int), SV.con IntKind.i64 (0 : Int), SV.con IntKind.i64 (0 : Int), SV.con IntKind.i64 (0 : Int), SV.con IntKind.i64 (0 : Int), SV.con IntKind.i64 (0 : Int), SV.con IntKind.i64 (0 : Int), SV.con IntKind.i64 (0 : Int), SV.con IntKind.i64 (0 : Int), SV.con IntKind.i64 (0 : Int), SV.con IntKind.i64 (0 : Int)], PV.one (SV.sym IntKind.i64 (Int.ofNat (dTp z_3 (dRowF s z_2 (dTi z_1 (dRowF s z ((0 : Int))).i (44 : Int))).i ((-1 : Int)) (44 : Int)).toNat)), PV.one (SV.con IntKind.i64 (12 : Int))]) [])) ∧ ((0 : Int) ≤ (dRowF s z_2 (dTi z_1 (dRowF s z ((0 : Int))).i (44 : Int))).p → K (AV.tup [PV.agg [SV.con IntKind.i64 (0 : Int), SV.con IntKind.i64 (0 : Int), SV.con IntKind.i64 (0 : Int), SV.con IntKind.i64 (0 : Int), SV.con IntKind.i64 (0 : Int), SV.con IntKind.i64 (0 : Int), SV.con IntKind.i64 (0 : Int), SV.con IntKind.i64 (0 : Int), SV.con IntKind.i64 (0 : Int), SV.con IntKind.i64 (0 : Int), SV.con IntKind.i64 (0 : Int), SV.con IntKind.i64 (0 : Int)], PV.one (SV.sym IntKind.i64 (Int.ofNat (dRowF s z_2 (dTi z_1 (dRowF s z ((0 : Int))).i (44 : Int))).p.toNat)), PV.one (SV.con IntKind.i64 (12 : Int))]) [])) ∧ ((0 : Int) ≤ dTp z_1 (dRowF s z ((0 : Int))).i ((-1 : Int)) (44 : Int) → K (AV.tup [PV.agg [SV.con IntKind.i64 (0 : Int), SV.con IntKind.i64 (0 : Int), SV.con IntKind.i64 (0 : Int), SV.con IntKind.i64 (0 : Int), SV.con IntKind.i64 (0 : Int), SV.con IntKind.i64 (0 : Int), SV.con IntKind.i64 (0 : Int), SV.con IntKind.i64 (0 : Int), SV.con IntKind.i64 (0 : Int), SV.con IntKind.i64 (0 : Int), SV.con IntKind.i64 (0 : Int), SV.con IntKind.i64 (0 : Int)], PV.one (SV.sym IntKind.i64 (Int.ofNat (dTp z_1 (dRowF s z ((0 : Int))).i ((-1 : Int)) (44 : Int)).toNat)), PV.one (SV.con IntKind.i64 (12 : Int))]) [])) ∧ ((0 : Int) ≤ (dRowF s z ((0 : Int))).p → K (AV.tup [PV.agg [SV.con IntKind.i64 (0 : Int), SV.con IntKind.i64 (0 : Int), SV.con IntKind.i64 (0 : Int), SV.con IntKind.i64 (0 : Int), SV.con IntKind.i64 (0 : Int), SV.con IntKind.i64 (0 : Int), SV.con IntKind.i64 (0 : Int), SV.con IntKind.i64 (0 : Int), SV.con IntKind.i64 (0 : Int), SV.con IntKind.i64 (0 : Int), SV.con IntKind.i64 (0 : Int), SV.con IntKind.i64 (0 : Int)], PV.one (SV.sym IntKind.i64 (Int.ofNat (dRowF s z ((0 : Int))).p.toNat)), PV.one (SV.con IntKind.i64 (12 : Int))]) []))) := by kernel_rfl
theorem nfdrfr (s : List UInt8) (K : KV) : call P (Z7 pruneOn) noAnn 10000 Tryd.f17 [.v (.one (.str s))] [] K = (onB (decide ((65536 : Int) < (↑s.length : Int))) (K (AV.tup [PV.one (SV.con IntKind.i64 (0 : Int)), PV.one (SV.con IntKind.i64 (0 : Int)), PV.one (SV.con IntKind.i64 (2 : Int))]) []) (s.length.le (65536 : Nat) ∧ ∃ (z : List dtkC.τ), SameRows dtkC z dtkC (dtoks s) ∧ ((dtoks s).length = z.length ∧ ((0 : Int) ≤ (0 : Int) ∧ (0 : Int) < (↑z.length : Int)) ∧ z.length.le (4611686018427387904 : Nat)) ∧ ∃ (z_1 : List dtkC.τ), SameRows dtkC z_1 dtkC (dtoks s) ∧ (z.length = z_1.length ∧ ((0 : Int) ≤ dSi z ((0 : Int)) ∧ dSi z ((0 : Int)) < (↑z_1.length : Int)) ∧ z_1.length.le (4611686018427387904 : Nat)) ∧ ∃ (z_2 : List dtkC.τ), SameRows dtkC z_2 dtkC (dtoks s) ∧ (z_1.length = z_2.length ∧ ((0 : Int) ≤ dSi z ((0 : Int)) ∧ dSi z ((0 : Int)) < (↑z_2.length : Int)) ∧ z_2.length.le (4611686018427387904 : Nat)) ∧ (dTp z_2 (dSi z ((0 : Int))) ((-1 : Int)) (48 : Int) < (0 : Int) → dTp z_2 (dSi z ((0 : Int))) ((-1 : Int)) (48 : Int) = (-1 : Int) ∧ ∃ (z_3 : List dtkC.τ), SameRows dtkC z_3 dtkC (dtoks s) ∧ ((z_2.length = z_3.length ∧ (0 : Int) ≤ dTi z_2 (dSi z ((0 : Int))) (48 : Int) ∧ dTi z_2 (dSi z ((0 : Int))) (48 : Int) < (↑z_3.length : Int)) ∧ (-1 : Int) = (-1 : Int) ∧ (s.length.le (65536 : Nat) ∧ z_3.length.le (4611686018427387904 : Nat) ∧ ∀ (i : Int), (0 : Int) ≤ (dk z_3 i).pos ∧ ((dk z_3 i).kind = (48 : Int) → (0 : Int) ≤ (dk z_3 i).pos ∧ (dk z_3 i).pos ≤ (dk z_3 i).next ∧ (dk z_3 i).next ≤ (↑s.length : Int) ∧ ∀ (j : Nat), (dk z_3 i).pos.toNat ≤ j → j < (dk z_3 i).next.toNat → digR (bt s j) = true)) ∧ (0 : Int) ≤ (dk z_1 (dSi z ((0 : Int)))).pos ∧ (dk z_1 (dSi z ((0 : Int)))).pos ≤ (dk z_1 (dSi z ((0 : Int)))).next ∧ (dk z_1 (dSi z ((0 : Int)))).next ≤ (↑s.length : Int) ∧ ∀ (j : Nat), (dk z_1 (dSi z ((0 : Int)))).pos.toNat ≤ j → j < (dk z_1 (dSi z ((0 : Int)))).next.toNat → digR (bt s j) = true) ∧ ((dFr s z_3 (dTi z_2 (dSi z ((0 : Int))) (48 : Int)) (dk z_1 (dSi z ((0 : Int)))).pos (dk z_1 (dSi z ((0 : Int)))).next false).snd.snd < (0 : Int) → (dFr s z_3 (dTi z_2 (dSi z ((0 : Int))) (48 : Int)) (dk z_1 (dSi z ((0 : Int)))).pos (dk z_1 (dSi z ((0 : Int)))).next false).snd.snd = (-1 : Int) ∧ ∃ (z_4 : List dtkC.τ), SameRows dtkC z_4 dtkC (dtoks s) ∧ (z_3.length = z_4.length ∧ ((0 : Int) ≤ (dFr s z_3 (dTi z_2 (dSi z ((0 : Int))) (48 : Int)) (dk z_1 (dSi z ((0 : Int)))).pos (dk z_1 (dSi z ((0 : Int)))).next false).snd.fst ∧ (dFr s z_3 (dTi z_2 (dSi z ((0 : Int))) (48 : Int)) (dk z_1 (dSi z ((0 : Int)))).pos (dk z_1 (dSi z ((0 : Int)))).next false).snd.fst < (↑z_4.length : Int)) ∧ z_4.length.le (4611686018427387904 : Nat)) ∧ (dTp z_4 (dFr s z_3 (dTi z_2 (dSi z ((0 : Int))) (48 : Int)) (dk z_1 (dSi z ((0 : Int)))).pos (dk z_1 (dSi z ((0 : Int)))).next false).snd.fst ((-1 : Int)) (101 : Int) < (0 : Int) → dTp z_4 (dFr s z_3 (dTi z_2 (dSi z ((0 : Int))) (48 : Int)) (dk z_1 (dSi z ((0 : Int)))).pos (dk z_1 (dSi z ((0 : Int)))).next false).snd.fst ((-1 : Int)) (101 : Int) = (-1 : Int) ∧ K (AV.tup [PV.one (SV.sym IntKind.i64 ((IntKind.i64.wrap ((IntKind.i64.wrap (dSv z ((0 : Int)) * (dFr s z_3 (dTi z_2 (dSi z ((0 : Int))) (48 : Int)) (dk z_1 (dSi z ((0 : Int)))).pos (dk z_1 (dSi z ((0 : Int)))).next false).fst)).tmod (24 : Int) + (24 : Int))).tmod (24 : Int))), PV.one (SV.con IntKind.i64 (0 : Int)), PV.one (SV.con IntKind.i64 (0 : Int))]) []) ∧ ((0 : Int) ≤ dTp z_4 (dFr s z_3 (dTi z_2 (dSi z ((0 : Int))) (48 : Int)) (dk z_1 (dSi z ((0 : Int)))).pos (dk z_1 (dSi z ((0 : Int)))).next false).snd.fst ((-1 : Int)) (101 : Int) → K (AV.tup [PV.one (SV.con IntKind.i64 (0 : Int)), PV.one (SV.sym IntKind.i64 (Int.ofNat (dTp z_4 (dFr s z_3 (dTi z_2 (dSi z ((0 : Int))) (48 : Int)) (dk z_1 (dSi z ((0 : Int)))).pos (dk z_1 (dSi z ((0 : Int)))).next false).snd.fst ((-1 : Int)) (101 : Int)).toNat)), PV.one (SV.con IntKind.i64 (12 : Int))]) [])) ∧ ((0 : Int) ≤ (dFr s z_3 (dTi z_2 (dSi z ((0 : Int))) (48 : Int)) (dk z_1 (dSi z ((0 : Int)))).pos (dk z_1 (dSi z ((0 : Int)))).next false).snd.snd → K (AV.tup [PV.one (SV.con IntKind.i64 (0 : Int)), PV.one (SV.sym IntKind.i64 (Int.ofNat (dFr s z_3 (dTi z_2 (dSi z ((0 : Int))) (48 : Int)) (dk z_1 (dSi z ((0 : Int)))).pos (dk z_1 (dSi z ((0 : Int)))).next false).snd.snd.toNat)), PV.one (SV.con IntKind.i64 (12 : Int))]) [])) ∧ ((0 : Int) ≤ dTp z_2 (dSi z ((0 : Int))) ((-1 : Int)) (48 : Int) → K (AV.tup [PV.one (SV.con IntKind.i64 (0 : Int)), PV.one (SV.sym IntKind.i64 (Int.ofNat (dTp z_2 (dSi z ((0 : Int))) ((-1 : Int)) (48 : Int)).toNat)), PV.one (SV.con IntKind.i64 (12 : Int))]) []))) := by kernel_rfl
theorem md24d_eq (x : Int) : md24d x = x % 24 := by
  unfold md24d
  have h3 := Int.tmod_eq_emod (a := x) (b := 24)
  have h4 : -24 < x.tmod 24 ∧ x.tmod 24 < 24 ∧ (x.tmod 24 - x) % 24 = 0 := by
    split at h3
    · omega
    · simp only [Int.natAbs] at h3
      omega
  generalize x.tmod 24 = y at *
  rw [wr_id (by omega) (by omega), Int.tmod_eq_emod_of_nonneg (by omega)]
  omega
section
variable {s : List UInt8} {ds : List DTok} {ys : List Tok}
theorem Two.expect (t : Two s ds ys) {i : Nat} (hi : i < @List.length DTok ds) {k k' : Int} (hk : (tk ys i).kind = k ↔ (dk ds i).kind = k') :
    (dTp ds i (-1) k' < 0 → dTp ds i (-1) k' = -1 ∧ (tk ys i).kind = k ∧ (dk ds i).kind = k') ∧ (0 ≤ dTp ds i (-1) k' → ¬ (tk ys i).kind = k ∧ dTp ds i (-1) k' = (tk ys i).pos) := by
  obtain ⟨p1, p2⟩ := t.pos hi
  unfold dTp dFail
  by_cases h : (dk ds i).kind = k'
  · rw [if_pos h]
    exact ⟨fun _ => ⟨rfl, hk.2 h, h⟩, fun h => by omega⟩
  · rw [if_neg h, if_pos (by omega), ← p1]
    exact ⟨fun h => by omega, fun _ => ⟨fun e => h (hk.1 e), rfl⟩⟩
theorem Two.last (t : Two s ds ys) : (dk ds ((@List.length DTok ds : Int) - 1)).kind = 0 ∨ (dk ds ((@List.length DTok ds : Int) - 1)).kind = 101 := by
  have h0 := t.h0
  have h := (t.h2 (@List.length DTok ds - 1) (by omega)).2
  have e : ((@List.length DTok ds - 1 : Nat) : Int) = (@List.length DTok ds : Int) - 1 := by omega
  rw [e] at h
  exact Classical.not_not.1 (fun hn => by have := h.2 hn; omega)
end
theorem lfZ {r : Rd} {p : Int} (h0 : 0 ≤ p) (e : r = rdZ p 12) : (AV.tup [PV.agg [SV.con IntKind.i64 (0 : Int), SV.con IntKind.i64 (0 : Int), SV.con IntKind.i64 (0 : Int), SV.con IntKind.i64 (0 : Int), SV.con IntKind.i64 (0 : Int), SV.con IntKind.i64 (0 : Int), SV.con IntKind.i64 (0 : Int), SV.con IntKind.i64 (0 : Int), SV.con IntKind.i64 (0 : Int), SV.con IntKind.i64 (0 : Int), SV.con IntKind.i64 (0 : Int), SV.con IntKind.i64 (0 : Int)], PV.one (SV.sym IntKind.i64 (Int.ofNat p.toNat)), PV.one (SV.con IntKind.i64 (12 : Int))]).valOf = some (rdV r) ∧ ([] : Heap) = [] := by
  subst e
  have : Int.ofNat p.toNat = p := Int.toNat_of_nonneg h0
  rw [this]
  exact ⟨rfl, rfl⟩
theorem RowRel.lt {len : Nat} {R : RR} {D : DR} (h : RowRel len R D) (hp : D.p < 0) : R.fault = -1 ∧ D.p = -1 ∧ R.e0 = D.e0 ∧ R.e1 = D.e1 ∧ R.e2 = D.e2 ∧ R.parts = D.part ∧ D.i = (R.st : Int) ∧ R.st < len := by
  rcases h with ⟨a, b, c, d, e, f, g, h⟩ | ⟨a, b⟩
  · exact ⟨a, b, c, d, e, f, g.symm, h⟩
  · omega
theorem RowRel.ge {len : Nat} {R : RR} {D : DR} (h : RowRel len R D) (hp : 0 ≤ D.p) : 0 ≤ R.fault ∧ D.p = R.fault := by
  rcases h with ⟨a, b, _⟩ | h
  · omega
  · exact h
theorem hDocRead : Holds P (Z7 pruneOn) 15 qRead := by
  refine holdsA (fn := Tryd.f15) noAnn 10000 rfl (by kernel_rfl) (by kernel_rfl) fun args av hg => ?_
  unfold qRead at hg
  split at hg
  · rename_i s
    rw [gives_ok hg]
    refine ⟨rfl, rdV (readF s), rfl, ?_⟩
    rw [nfdread]
    refine (onB_iff _ _ _).2 ⟨fun hl => ?_, fun hl => ?_⟩
    · rw [show readF s = rdZ 0 2 from if_pos (by have := of_decide_eq_true hl; omega)]
      exact ⟨rfl, rfl⟩
    · have hs : s.length ≤ 65536 := by have := of_decide_eq_false hl; omega
      have e : readF s = readT (toks s) := if_neg (by omega)
      have t := two_all hs
      have hb : @List.length DTok (dtoks s) ≤ 4611686018427387904 := Nat.le_trans t.h1 (toks_ok hs).2.2.2
      rw [e]
      generalize toks s = ys at *
      generalize dtoks s = ds at *
      have dok := t.dok hb
      have hend := t.last
      have S := sameT (C := dtkC) ds
      have h0 := t.h0
      have r0 := t.row (i := 0) h0
      have le0 : ∀ n : Nat, (0 : Int) ≤ (n : Int) := fun n => by omega
      have ltn : ∀ {n : Nat}, n < @List.length DTok ds → (n : Int) < (@List.length DTok ds : Int) := fun h => by omega
      refine ⟨hs, ds, S, ⟨⟨rfl, Int.le_refl _, ltn h0⟩, rfl, dok, hend⟩, fun p0 => ?_, fun p0 => ?_⟩
      · obtain ⟨f0, q0, a0, a1, a2, a3, i0, l0⟩ := r0.lt p0
        refine ⟨q0, ?_⟩
        have i0 : (dRowF s ds 0).i = (((row0 ys).st : Nat) : Int) := i0
        have l0 : (row0 ys).st < @List.length DTok ds := l0
        rw [i0]
        obtain ⟨x0, y0⟩ := t.expect l0 (k := 44) (k' := 44) (t.same l0).co
        refine ⟨ds, S, ⟨rfl, ⟨le0 _, ltn l0⟩, hb⟩, fun c0 => ?_, fun c0 => ?_⟩
        · obtain ⟨u0, v0, w0⟩ := x0 c0
          refine ⟨u0, ?_⟩
          obtain ⟨n1, n2, n3⟩ := t.next l0 (not_end w0 (by decide) (by decide))
          have r1 := t.row n3
          rw [← n1] at r1 n2 n3
          have eT : dTi ds (((row0 ys).st : Nat) : Int) 44 = ((nx ys (row0 ys).st : Nat) : Int) := (if_pos w0).trans n2
          rw [eT]
          refine ⟨ds, S, ⟨⟨rfl, le0 _, ltn n3⟩, rfl, dok, hend⟩, fun p1 => ?_, fun p1 => ?_⟩
          · obtain ⟨f1, q1, b0, b1, b2, b3, i1, l1⟩ := r1.lt p1
            refine ⟨q1, ?_⟩
            have i1 : (dRowF s ds ((nx ys (row0 ys).st : Nat) : Int)).i = (((row1 ys).st : Nat) : Int) := i1
            have l1 : (row1 ys).st < @List.length DTok ds := l1
            rw [i1]
            obtain ⟨x1, y1⟩ := t.expect l1 (k := 44) (k' := 44) (t.same l1).co
            refine ⟨ds, S, ⟨rfl, ⟨le0 _, ltn l1⟩, hb⟩, fun c1 => ?_, fun c1 => ?_⟩
            · obtain ⟨u1, v1, w1⟩ := x1 c1
              refine ⟨u1, ?_⟩
              obtain ⟨m1, m2, m3⟩ := t.next l1 (not_end w1 (by decide) (by decide))
              have r2 := t.row m3
              rw [← m1] at r2 m2 m3
              have eT : dTi ds (((row1 ys).st : Nat) : Int) 44 = ((nx ys (row1 ys).st : Nat) : Int) := (if_pos w1).trans m2
              rw [eT]
              refine ⟨ds, S, ⟨⟨rfl, le0 _, ltn m3⟩, rfl, dok, hend⟩, fun p2 => ?_, fun p2 => ?_⟩
              · obtain ⟨f2, q2, d0, d1, d2, d3, i2, l2⟩ := r2.lt p2
                refine ⟨q2, ?_⟩
                have i2 : (dRowF s ds ((nx ys (row1 ys).st : Nat) : Int)).i = (((row2 ys).st : Nat) : Int) := i2
                have l2 : (row2 ys).st < @List.length DTok ds := l2
                rw [i2]
                obtain ⟨x2, y2⟩ := t.expect l2 (k := 46) (k' := 101) (t.same l2).en
                have f0 : ¬ 0 ≤ (row0 ys).fault := by show ¬ 0 ≤ (rowF ys 0).fault; omega
                have f1 : ¬ 0 ≤ (row1 ys).fault := by show ¬ 0 ≤ (rowF ys (nx ys (row0 ys).st)).fault; omega
                have f2 : ¬ 0 ≤ (row2 ys).fault := by show ¬ 0 ≤ (rowF ys (nx ys (row1 ys).st)).fault; omega
                refine ⟨ds, S, ⟨rfl, ⟨le0 _, ltn l2⟩, hb⟩, fun c2 => ?_, fun c2 => ?_⟩
                · obtain ⟨u2, v2, w2⟩ := x2 c2
                  refine ⟨u2, ?_⟩
                  have eR : readT ys = madeR (row0 ys).e0 (row0 ys).e1 (row0 ys).e2 (row1 ys).e0 (row1 ys).e1 (row1 ys).e2 (row2 ys).e0 (row2 ys).e1 (row2 ys).e2 (row0 ys).parts (row1 ys).parts (row2 ys).parts := (if_neg f0).trans ((if_neg (fun h => h v0)).trans ((if_neg f1).trans ((if_neg (fun h => h v1)).trans ((if_neg f2).trans (if_neg (fun h => h v2))))))
                  rw [eR]
                  have g0 : (dRowF s ds 0).e0 = (row0 ys).e0 := a0.symm
                  have g1 : (dRowF s ds 0).e1 = (row0 ys).e1 := a1.symm
                  have g2 : (dRowF s ds 0).e2 = (row0 ys).e2 := a2.symm
                  have g3 : (dRowF s ds 0).part = (row0 ys).parts := a3.symm
                  have g4 : (dRowF s ds ((nx ys (row0 ys).st : Nat) : Int)).e0 = (row1 ys).e0 := b0.symm
                  have g5 : (dRowF s ds ((nx ys (row0 ys).st : Nat) : Int)).e1 = (row1 ys).e1 := b1.symm
                  have g6 : (dRowF s ds ((nx ys (row0 ys).st : Nat) : Int)).e2 = (row1 ys).e2 := b2.symm
                  have g7 : (dRowF s ds ((nx ys (row0 ys).st : Nat) : Int)).part = (row1 ys).parts := b3.symm
                  have g8 : (dRowF s ds ((nx ys (row1 ys).st : Nat) : Int)).e0 = (row2 ys).e0 := d0.symm
                  have g9 : (dRowF s ds ((nx ys (row1 ys).st : Nat) : Int)).e1 = (row2 ys).e1 := d1.symm
                  have g10 : (dRowF s ds ((nx ys (row1 ys).st : Nat) : Int)).e2 = (row2 ys).e2 := d2.symm
                  have g11 : (dRowF s ds ((nx ys (row1 ys).st : Nat) : Int)).part = (row2 ys).parts := d3.symm
                  rw [g0, g1, g2, g3, g4, g5, g6, g7, g8, g9, g10, g11]
                  unfold madeR
                  rw [md24_eq, md24_eq, md24_eq, md24d_eq, md24d_eq, md24d_eq]
                  generalize matE (row0 ys).e0 (row0 ys).e1 (row0 ys).e2 (row1 ys).e0 (row1 ys).e1 (row1 ys).e2 (row2 ys).e0 (row2 ys).e1 (row2 ys).e2 = m
                  refine (onB_iff _ _ _).2 ⟨fun hm => ?_, fun hm => ?_⟩
                  · have hm : ¬ m = 0 := by simpa using hm
                    simp only [mkO, if_neg hm]
                    exact ⟨rfl, trivial⟩
                  · have hm : m = 0 := by simpa using hm
                    subst hm
                    simp only [mkO, if_true]
                    exact ⟨rfl, trivial⟩
                · obtain ⟨u2, v2⟩ := y2 c2
                  exact lfZ c2 ((if_neg f0).trans ((if_neg (fun h => h v0)).trans ((if_neg f1).trans ((if_neg (fun h => h v1)).trans ((if_neg f2).trans ((if_pos u2).trans (by rw [v2])))))))
              · obtain ⟨z1, z2⟩ := r2.ge p2
                have f0 : ¬ 0 ≤ (row0 ys).fault := by show ¬ 0 ≤ (rowF ys 0).fault; omega
                have f1 : ¬ 0 ≤ (row1 ys).fault := by show ¬ 0 ≤ (rowF ys (nx ys (row0 ys).st)).fault; omega
                exact lfZ p2 ((if_neg f0).trans ((if_neg (fun h => h v0)).trans ((if_neg f1).trans ((if_neg (fun h => h v1)).trans ((if_pos z1).trans (by rw [z2]; rfl))))))
            · obtain ⟨u1, v1⟩ := y1 c1
              have f0 : ¬ 0 ≤ (row0 ys).fault := by show ¬ 0 ≤ (rowF ys 0).fault; omega
              have f1 : ¬ 0 ≤ (row1 ys).fault := by show ¬ 0 ≤ (rowF ys (nx ys (row0 ys).st)).fault; omega
              exact lfZ c1 ((if_neg f0).trans ((if_neg (fun h => h v0)).trans ((if_neg f1).trans ((if_pos u1).trans (by rw [v1])))))
          · obtain ⟨z1, z2⟩ := r1.ge p1
            have f0 : ¬ 0 ≤ (row0 ys).fault := by show ¬ 0 ≤ (rowF ys 0).fault; omega
            exact lfZ p1 ((if_neg f0).trans ((if_neg (fun h => h v0)).trans ((if_pos z1).trans (by rw [z2]; rfl))))
        · obtain ⟨u0, v0⟩ := y0 c0
          have f0 : ¬ 0 ≤ (row0 ys).fault := by show ¬ 0 ≤ (rowF ys 0).fault; omega
          exact lfZ c0 ((if_neg f0).trans ((if_pos u0).trans (by rw [v0])))
      · obtain ⟨z1, z2⟩ := r0.ge p0
        have z2 : (dRowF s ds 0).p = (row0 ys).fault := z2
        exact lfZ p0 ((if_pos z1).trans (by rw [z2]))
  · exact (gives_fail hg).elim
theorem lfF {r : Int × Int × Int} {p : Int} (h0 : 0 ≤ p) (e : r = (0, p, 12)) : (AV.tup [PV.one (SV.con IntKind.i64 (0 : Int)), PV.one (SV.sym IntKind.i64 (Int.ofNat p.toNat)), PV.one (SV.con IntKind.i64 (12 : Int))]).valOf = some (rfV r) ∧ ([] : Heap) = [] := by
  subst e
  have : Int.ofNat p.toNat = p := Int.toNat_of_nonneg h0
  rw [this]
  exact ⟨rfl, rfl⟩
theorem hDocRFrac : Holds P (Z7 pruneOn) 17 qRFrac := by
  refine holdsA (fn := Tryd.f17) noAnn 10000 rfl (by kernel_rfl) (by kernel_rfl) fun args av hg => ?_
  unfold qRFrac at hg
  split at hg
  · rename_i s
    rw [gives_ok hg]
    refine ⟨rfl, rfV (rfracF s), rfl, ?_⟩
    rw [nfdrfr]
    refine (onB_iff _ _ _).2 ⟨fun hl => ?_, fun hl => ?_⟩
    · rw [show rfracF s = (0, 0, 2) from if_pos (by have := of_decide_eq_true hl; omega)]
      exact ⟨rfl, rfl⟩
    · have hs : s.length ≤ 65536 := by have := of_decide_eq_false hl; omega
      have e : rfracF s = rfracT (toks s) := if_neg (by omega)
      have t := two_all hs
      have hb : @List.length DTok (dtoks s) ≤ 4611686018427387904 := Nat.le_trans t.h1 (toks_ok hs).2.2.2
      rw [e]
      generalize toks s = ys at *
      generalize dtoks s = ds at *
      have dok := t.dok hb
      have S := sameT (C := dtkC) ds
      have h0 := t.h0
      obtain ⟨g1, g2, g3, -, -, -, -⟩ := t.sign (i := 0) h0
      have g1 : sgV ys 0 = dSv ds 0 := g1
      have g2 : ((sgN ys 0 : Nat) : Int) = dSi ds 0 := g2
      have le0 : ∀ n : Nat, (0 : Int) ≤ (n : Int) := fun n => by omega
      have ltn : ∀ {n : Nat}, n < @List.length DTok ds → (n : Int) < (@List.length DTok ds : Int) := fun h => by omega
      obtain ⟨x0, y0⟩ := t.expect g3 (k := 110) (k' := 48) (t.same g3).n
      refine ⟨hs, ds, S, ⟨rfl, ⟨Int.le_refl _, ltn h0⟩, hb⟩, ?_⟩
      rw [← g1, ← g2]
      refine ⟨ds, S, ⟨rfl, ⟨le0 _, ltn g3⟩, hb⟩, ds, S, ⟨rfl, ⟨le0 _, ltn g3⟩, hb⟩, fun c0 => ?_, fun c0 => ?_⟩
      · obtain ⟨u0, v0, w0⟩ := x0 c0
        refine ⟨u0, ?_⟩
        obtain ⟨n1, n2, n3⟩ := t.next g3 (not_end w0 (by decide) (by decide))
        have eT : dTi ds ((sgN ys 0 : Nat) : Int) 48 = ((sgN ys 0 + 1 : Nat) : Int) := (if_pos w0).trans n2
        rw [eT]
        have hd := (dok.2.2 ((sgN ys 0 : Nat) : Int)).2 w0
        obtain ⟨k1, k2, k3⟩ := t.frac g3 w0 false
        obtain ⟨fb, _, _⟩ := dFr_ok (g := false) (i := ((sgN ys 0 + 1 : Nat) : Int)) ⟨le0 _, ltn n3⟩ dok hd
        have sgb : sgV ys 0 = 1 ∨ sgV ys 0 = -1 := by unfold sgV; split <;> simp
        have hw : IntKind.i64.wrap (sgV ys 0 * (dFr s ds ((sgN ys 0 + 1 : Nat) : Int) (dk ds ((sgN ys 0 : Nat) : Int)).pos (dk ds ((sgN ys 0 : Nat) : Int)).next false).1) = sgV ys 0 * (dFr s ds ((sgN ys 0 + 1 : Nat) : Int) (dk ds ((sgN ys 0 : Nat) : Int)).pos (dk ds ((sgN ys 0 : Nat) : Int)).next false).1 := by rcases sgb with h | h <;> rw [h] <;> exact wr_id (by omega) (by omega)
        refine ⟨ds, S, ⟨⟨rfl, le0 _, ltn n3⟩, rfl, dok, hd⟩, ?_⟩
        rw [hw]
        generalize dFr s ds ((sgN ys 0 + 1 : Nat) : Int) (dk ds ((sgN ys 0 : Nat) : Int)).pos (dk ds ((sgN ys 0 : Nat) : Int)).next false = F at *
        refine ⟨fun p0 => ?_, fun p0 => ?_⟩
        · rcases k3 with ⟨a, b, c⟩ | a
          · refine ⟨by omega, ?_⟩
            rw [← b]
            obtain ⟨x2, y2⟩ := t.expect c (k := 46) (k' := 101) (t.same c).en
            refine ⟨ds, S, ⟨rfl, ⟨le0 _, ltn c⟩, hb⟩, fun c2 => ?_, fun c2 => ?_⟩
            · obtain ⟨u2, v2, w2⟩ := x2 c2
              refine ⟨u2, ?_⟩
              have eR : rfracT ys = (mdR (sgV ys 0 * (frS ys (sgN ys 0) false).1), 0, 0) := (if_neg (fun h => h v0)).trans ((if_neg (by omega)).trans (if_neg (fun h => h v2)))
              rw [eR, k1]
              exact ⟨rfl, rfl⟩
            · obtain ⟨u2, v2⟩ := y2 c2
              exact lfF c2 ((if_neg (fun h => h v0)).trans ((if_neg (by omega)).trans ((if_pos u2).trans (by rw [v2]))))
          · omega
        · exact lfF p0 ((if_neg (fun h => h v0)).trans ((if_pos (by omega)).trans (by rw [k2])))
      · obtain ⟨u0, v0⟩ := y0 c0
        exact lfF c0 ((if_pos u0).trans (by rw [v0]))
  · exact (gives_fail hg).elim
end Go.AM

import Derived.Test.YtppbbabmlammpaaDoorTG1
import Derived.Test.YtppbbabmlammpaaDoorPT3
set_option linter.unusedVariables false
set_option linter.unusedSimpArgs false
open Go Go.AM Go.Proofs
namespace Go.AM
open Dist
set_option maxRecDepth 100000
def sub (s : List UInt8) (i j : Nat) : List UInt8 := (s.drop i).take (j - i)
inductive VT (s : List UInt8) : DTok → Tok → Prop
  | num (i j : Nat) : i < j → j ≤ s.length → digs (sub s i j) → VT s ⟨48, i, j⟩ ⟨110, sub s i j, i⟩
  | sym (b : UInt8) (i : Nat) : symB b → VT s ⟨(b.toNat : Int), i, (i : Int) + 1⟩ ⟨kindR b.toNat, [b], i⟩
  | bad (i : Nat) (t : List UInt8) : VT s ⟨0, i, i⟩ ⟨63, t, i⟩
  | fin (n : Nat) : VT s ⟨101, n, n⟩ ⟨46, [], n⟩
def endK (d : DTok) : Prop := d.kind = 0 ∨ d.kind = 101
inductive Rel (s : List UInt8) : List DTok → List Tok → Prop
  | last {d : DTok} {y : Tok} {ys : List Tok} : VT s d y → endK d → Rel s [d] (y :: ys)
  | more {d : DTok} {y : Tok} {ds : List DTok} {ys : List Tok} : VT s d y → ¬ endK d → Rel s ds ys → Rel s (d :: ds) (y :: ys)
theorem step_keep {l l1 : List Tok} {op : Bool} {i r : Int} (h : op = true → l1 ≠ []) : ∃ l2, (stepT (l ++ l1) op i r).1 = l ++ l2 ∧ ((stepT (l ++ l1) op i r).2 = true → l2 ≠ []) := by
  unfold stepT
  split
  · rename_i hd
    have hne := h hd.2
    refine ⟨l1.set (l1.length - 1) ⟨(tk (l ++ l1) ((l ++ l1).length - 1)).kind, (tk (l ++ l1) ((l ++ l1).length - 1)).text ++ encL r, (tk (l ++ l1) ((l ++ l1).length - 1)).pos⟩, ?_, fun _ => ?_⟩
    · have hp : 0 < l1.length := List.length_pos_iff.2 hne
      show (l ++ l1).set _ _ = _
      rw [List.set_append_right _ _ (by simp only [List.length_append]; omega)]
      congr 2
      simp only [List.length_append]
      omega
    · intro e
      have := congrArg List.length e
      simp only [List.length_set, List.length_nil] at this
      exact hne (List.eq_nil_of_length_eq_zero this)
  · split
    · rename_i h32
      refine ⟨l1, rfl, fun hd => ?_⟩
      have := digR_iff.1 hd
      omega
    · exact ⟨l1 ++ [⟨kindR r, encL r, i⟩], by simp, fun _ => by simp⟩
theorem toks_keep {s : List UInt8} {l : List Tok} : ∀ (m j : Nat) (l1 : List Tok) (op : Bool), (op = true → l1 ≠ []) → ∃ R, toksP s m j (l ++ l1) op = l ++ R
  | 0, j, l1, op, _ => ⟨l1, rfl⟩
  | m + 1, j, l1, op, h => by
    unfold toksP
    split
    · obtain ⟨l2, h1, h2⟩ := step_keep (l := l) (i := j) (r := (runeL s j).1) h
      rw [h1]
      exact toks_keep m _ l2 _ h2
    · exact ⟨l1, rfl⟩
theorem rune_low {s : List UInt8} {pos : Nat} (h : pos < s.length) (ha : bt s pos < 128) : runeL s pos = ((s.getD pos 0).toNat, 1) := by
  have hs : pos < (ByteArray.mk s.toArray).size := by simpa [ByteArray.size] using h
  have e : (ByteArray.mk s.toArray)[pos]'hs = s[pos] := rfl
  have e2 : s.getD pos 0 = s[pos] := by rw [List.getD_eq_getElem?_getD, List.getElem?_eq_getElem h]; rfl
  unfold bt at ha
  show Utf8.decode ⟨s.toArray⟩ pos = _
  rw [decode_ascii _ _ hs (by rw [e, ← e2]; omega), e, e2]
theorem rune_high {s : List UInt8} {pos : Nat} (h : pos < s.length) (ha : 128 ≤ bt s pos) : 128 ≤ (runeL s pos).1 := by
  have hs : pos < (ByteArray.mk s.toArray).size := by simpa [ByteArray.size] using h
  have e : (ByteArray.mk s.toArray)[pos]'hs = s[pos] := rfl
  have e2 : s.getD pos 0 = s[pos] := by rw [List.getD_eq_getElem?_getD, List.getElem?_eq_getElem h]; rfl
  unfold bt at ha
  exact (decode_high _ _ hs (by rw [e, ← e2]; omega)).1
theorem sub_cons {s : List UInt8} {i j : Nat} (hi : i < s.length) (hj : i < j) : sub s i j = s.getD i 0 :: sub s (i + 1) j := by
  unfold sub
  rw [List.drop_eq_getElem_cons hi, show j - i = (j - (i + 1)) + 1 by omega, List.take_succ_cons, List.getD_eq_getElem?_getD, List.getElem?_eq_getElem hi]
  rfl
theorem sub_nil (s : List UInt8) (i : Nat) : sub s i i = [] := by simp [sub]
theorem dEnd_le {s : List UInt8} : ∀ (n j : Nat), j ≤ s.length → j ≤ dEnd s n j ∧ dEnd s n j ≤ s.length
  | 0, j, h => ⟨Nat.le_refl _, h⟩
  | n + 1, j, h => by
    unfold dEnd
    split
    · rename_i hd
      have := dEnd_le n (j + 1) hd.1
      omega
    · exact ⟨Nat.le_refl _, h⟩
theorem dEnd_at {s : List UInt8} : ∀ (n j : Nat), s.length - j ≤ n → j ≤ s.length → s.length ≤ dEnd s n j ∨ digR (bt s (dEnd s n j)) = false
  | 0, j, h, h2 => .inl (by show s.length ≤ j; omega)
  | n + 1, j, h, h2 => by
    unfold dEnd
    split
    · rename_i hd
      exact dEnd_at n (j + 1) (by omega) hd.1
    · rename_i hd
      rcases Nat.lt_or_ge j s.length with h3 | h3
      · refine .inr ?_
        cases h4 : digR (bt s j) with
        | false => rfl
        | true => exact absurd ⟨h3, h4⟩ hd
      · exact .inl h3
theorem tok_digs {s : List UInt8} : ∀ (n m j : Nat) (l : List Tok) (t : List UInt8) (p : Int), s.length - j ≤ n → s.length - j < m → j ≤ s.length →
    ∃ m', s.length - dEnd s n j < m' ∧ toksP s m j (l ++ [⟨110, t, p⟩]) true = toksP s m' (dEnd s n j) (l ++ [⟨110, t ++ sub s j (dEnd s n j), p⟩]) true ∧ ∀ b ∈ sub s j (dEnd s n j), digB b
  | 0, m, j, l, t, p, h1, h2, h3 => ⟨m, h2, by show _ = toksP s m j (l ++ [⟨110, t ++ sub s j j, p⟩]) true; rw [sub_nil, List.append_nil], fun b hb => by rw [show dEnd s 0 j = j from rfl, sub_nil] at hb; cases hb⟩
  | n + 1, m, j, l, t, p, h1, h2, h3 => by
    by_cases hd : j < s.length ∧ digR (bt s j) = true
    · obtain ⟨m, rfl⟩ : ∃ k, m = k + 1 := ⟨m - 1, by omega⟩
      have hb := digR_iff.1 hd.2
      have he := dEnd_le n (j + 1) hd.1
      obtain ⟨m', k1, k2, k3⟩ := tok_digs n m (j + 1) l (t ++ [s.getD j 0]) p (by omega) (by omega) hd.1
      rw [dEnd, if_pos hd, sub_cons hd.1 (by omega)]
      refine ⟨m', k1, ?_, fun b hb2 => ?_⟩
      · rw [toksP, if_pos hd.1, rune_low hd.1 (by omega)]
        have e : stepT (l ++ [(⟨110, t, p⟩ : Tok)]) true j ((s.getD j 0).toNat : Int) = (l ++ [⟨110, t ++ [s.getD j 0], p⟩], true) := by
          unfold stepT
          rw [if_pos ⟨hd.2, rfl⟩, enc_b (by unfold bt at hb; omega)]
          unfold addLast tk
          simp
        rw [e, k2]
        simp
      · rcases List.mem_cons.1 hb2 with e | hb2
        · subst e
          unfold bt at hb
          unfold digB
          omega
        · exact k3 b hb2
    · rw [dEnd, if_neg hd]
      exact ⟨m, h2, by rw [sub_nil, List.append_nil], fun b hb => by rw [sub_nil] at hb; cases hb⟩
theorem symR_B {b : UInt8} (h : symR b.toNat = true) : symB b := by
  unfold symR at h
  simp only [Bool.or_eq_true, decide_eq_true_eq] at h
  unfold symB
  rcases h with h | h | h | h | h | h | h
  · exact .inl (UInt8.toNat_inj.1 (by show b.toNat = 120; omega))
  · exact .inr (.inl (UInt8.toNat_inj.1 (by show b.toNat = 121; omega)))
  · exact .inr (.inr (.inl (UInt8.toNat_inj.1 (by show b.toNat = 122; omega))))
  · exact .inr (.inr (.inr (.inl (UInt8.toNat_inj.1 (by show b.toNat = 43; omega)))))
  · exact .inr (.inr (.inr (.inr (.inl (UInt8.toNat_inj.1 (by show b.toNat = 45; omega))))))
  · exact .inr (.inr (.inr (.inr (.inr (.inl (UInt8.toNat_inj.1 (by show b.toNat = 44; omega)))))))
  · exact .inr (.inr (.inr (.inr (.inr (.inr (UInt8.toNat_inj.1 (by show b.toNat = 47; omega)))))))
theorem symB_end {b : UInt8} (h : symB b) (i j : Int) : ¬ endK ⟨(b.toNat : Int), i, j⟩ := by
  have h9 : (b.toNat : Int) ≠ 0 ∧ (b.toNat : Int) ≠ 101 := by rcases h with e | e | e | e | e | e | e <;> subst e <;> decide
  exact fun h => h.elim h9.1 h9.2
theorem endK48 (i j : Int) : ¬ endK ⟨48, i, j⟩ := fun h => h.elim (fun h => absurd (show (48 : Int) = 0 from h) (by decide)) (fun h => absurd (show (48 : Int) = 101 from h) (by decide))
theorem kind_bad {r : Int} (h1 : digR r = false) (h2 : symR r = false) : kindR r = 63 := by
  unfold symR at h2
  simp only [Bool.or_eq_false_iff, decide_eq_false_iff_not] at h2
  unfold kindR
  rw [if_neg (by rw [h1]; decide), if_neg (by omega), if_neg (by omega), if_neg (by omega)]
theorem toks_bad {s : List UInt8} {m i : Nat} {l : List Tok} {op : Bool} (hi : i < s.length) (h32 : ((runeL s i).1 : Int) ≠ 32) (hd : digR (runeL s i).1 = false) (hs : symR (runeL s i).1 = false) : ∃ t R, toksP s (m + 1) i l op = l ++ (⟨63, t, i⟩ :: R) := by
  rw [toksP, if_pos hi]
  have e : stepT l op i ((runeL s i).1 : Int) = (l ++ [⟨63, encL (runeL s i).1, i⟩], false) := by
    unfold stepT
    rw [if_neg (by rw [hd]; simp), if_neg h32, hd, kind_bad hd hs]
  rw [e]
  obtain ⟨R, hR⟩ := toks_keep (s := s) (l := l ++ [⟨63, encL (runeL s i).1, (i : Int)⟩]) m (i + (runeL s i).2) [] false (by simp)
  rw [List.append_nil] at hR
  exact ⟨encL (runeL s i).1, R, by rw [hR]; simp⟩
theorem sub_digs {s : List UInt8} {i j : Nat} (h : i < j) (hj : j ≤ s.length) (hb : ∀ b ∈ sub s i j, digB b) : digs (sub s i j) := by
  refine ⟨fun e => ?_, hb⟩
  have := congrArg List.length e
  simp only [sub, List.length_take, List.length_drop, List.length_nil] at this
  omega
theorem rel_toks {s : List UInt8} : ∀ (n m i : Nat) (l : List Tok) (op : Bool), s.length - i < n → s.length - i < m → i ≤ s.length → (op = true → s.length ≤ i ∨ digR (bt s i) = false) →
    ∃ R, toksP s m i l op = l ++ R ∧ Rel s (dtP s n i) (R ++ [⟨46, [], s.length⟩])
  | 0, m, i, l, op, h1, _, _, _ => by omega
  | n + 1, m, i, l, op, h1, h2, h3, h4 => by
    obtain ⟨m, rfl⟩ : ∃ k, m = k + 1 := ⟨m - 1, by omega⟩
    by_cases hi : i < s.length
    · rcases Int.lt_or_le (bt s i) 128 with hb | hb
      · have hr := rune_low hi hb
        have hbn : (s.getD i 0).toNat < 128 := by unfold bt at hb; omega
        rw [dtP, if_pos hi]
        by_cases h32 : bt s i = 32
        · rw [if_pos h32]
          obtain ⟨R, k1, k2⟩ := rel_toks n m (i + 1) l false (by omega) (by omega) hi (by simp)
          refine ⟨R, ?_, k2⟩
          rw [toksP, if_pos hi, hr]
          have e : stepT l op i ((s.getD i 0).toNat : Int) = (l, false) := by
            have h32 : ((s.getD i 0).toNat : Int) = 32 := h32
            rw [h32]
            unfold stepT
            rw [if_neg (by rintro ⟨h, _⟩; exact absurd (digR_iff.1 h) (by decide)), if_pos rfl]
            rfl
          rw [e]
          exact k1
        · rw [if_neg h32]
          by_cases hd : digR (bt s i) = true
          · rw [if_pos hd]
            have hop : op = false := by
              cases op with
              | false => rfl
              | true =>
                rcases h4 rfl with h | h
                · omega
                · rw [hd] at h; cases h
            subst hop
            obtain ⟨k, hk⟩ : ∃ k, s.length = k + 1 := ⟨s.length - 1, by omega⟩
            have he : dEnd s s.length i = dEnd s k (i + 1) := by rw [hk]; exact dEnd_step hi hd
            have hle := dEnd_le k (i + 1) hi
            have hat := dEnd_at k (i + 1) (by omega) hi
            rw [he]
            obtain ⟨m', q1, q2, q3⟩ := tok_digs k m (i + 1) l [s.getD i 0] i (by omega) (by omega) hi
            have hsub := sub_cons hi (show i < dEnd s k (i + 1) by omega)
            obtain ⟨R, k1, k2⟩ := rel_toks n m' (dEnd s k (i + 1)) (l ++ [⟨110, sub s i (dEnd s k (i + 1)), i⟩]) true (by omega) q1 hle.2 (fun _ => hat)
            refine ⟨⟨110, sub s i (dEnd s k (i + 1)), i⟩ :: R, ?_, .more (.num i (dEnd s k (i + 1)) (by omega) hle.2 (sub_digs (by omega) hle.2 ?_)) (endK48 _ _) k2⟩
            · rw [toksP, if_pos hi, hr]
              have e : stepT l false i ((s.getD i 0).toNat : Int) = (l ++ [⟨110, [s.getD i 0], i⟩], true) := by
                have hd : digR ((s.getD i 0).toNat : Int) = true := hd
                have h32 : ¬ ((s.getD i 0).toNat : Int) = 32 := h32
                unfold stepT
                rw [if_neg (by simp), if_neg h32, enc_b hbn, hd]
                unfold kindR
                rw [if_pos hd]
              rw [e]
              rw [hsub] at k1
              refine q2.trans ?_
              rw [show [s.getD i 0] ++ sub s (i + 1) (dEnd s k (i + 1)) = s.getD i 0 :: sub s (i + 1) (dEnd s k (i + 1)) from rfl, k1, hsub]
              simp
            · rw [hsub]
              intro b hb2
              rcases List.mem_cons.1 hb2 with e | hb2
              · subst e
                have := digR_iff.1 hd
                unfold bt at this
                unfold digB
                omega
              · exact q3 b hb2
          · rw [if_neg hd]
            have hd : digR (bt s i) = false := by simpa using hd
            by_cases hs : symR (bt s i) = true
            · rw [if_pos hs]
              have hsb := symR_B hs
              obtain ⟨R, k1, k2⟩ := rel_toks n m (i + 1) (l ++ [⟨kindR (s.getD i 0).toNat, [s.getD i 0], i⟩]) false (by omega) (by omega) hi (by simp)
              refine ⟨⟨kindR (s.getD i 0).toNat, [s.getD i 0], i⟩ :: R, ?_, .more (.sym _ i hsb) (symB_end hsb _ _) k2⟩
              rw [toksP, if_pos hi, hr]
              have e : stepT l op i ((s.getD i 0).toNat : Int) = (l ++ [⟨kindR (s.getD i 0).toNat, [s.getD i 0], i⟩], false) := by
                have hd : digR ((s.getD i 0).toNat : Int) = false := hd
                have h32 : ¬ ((s.getD i 0).toNat : Int) = 32 := h32
                unfold stepT
                rw [if_neg (by rw [hd]; simp), if_neg h32, enc_b hbn, hd]
              rw [e]
              refine k1.trans ?_
              simp
            · rw [if_neg hs]
              have hs : symR (bt s i) = false := by simpa using hs
              obtain ⟨t, R, hR⟩ := toks_bad (m := m) (l := l) (op := op) hi (by rw [hr]; exact h32) (by rw [hr]; exact hd) (by rw [hr]; exact hs)
              exact ⟨_, hR, .last (.bad i t) (.inl rfl)⟩
      · have hr := rune_high hi hb
        have d1 : ∀ r : Int, 128 ≤ r → digR r = false := fun r h => by
          cases h9 : digR r with
          | false => rfl
          | true => have := digR_iff.1 h9; omega
        have d2 : ∀ r : Int, 128 ≤ r → symR r = false := fun r h => by
          unfold symR
          simp only [Bool.or_eq_false_iff, decide_eq_false_iff_not]
          omega
        rw [dtP, if_pos hi, if_neg (by omega), if_neg (by rw [d1 _ hb]; decide), if_neg (by rw [d2 _ hb]; decide)]
        obtain ⟨t, R, hR⟩ := toks_bad (m := m) (l := l) (op := op) hi (by omega) (d1 _ (by omega)) (d2 _ (by omega))
        exact ⟨_, hR, .last (.bad i t) (.inl rfl)⟩
    · have : i = s.length := by omega
      subst this
      rw [dtP, if_neg hi, toksP, if_neg hi]
      exact ⟨[], by simp, .last (.fin _) (.inr rfl)⟩
theorem rel_all (s : List UInt8) : Rel s (dtoks s) (toks s) := by
  obtain ⟨R, h1, h2⟩ := rel_toks (s := s) (s.length + 1) (s.length + 1) 0 [] false (by omega) (by omega) (by omega) (by simp)
  unfold dtoks toks
  rw [h1]
  exact h2
theorem rel_at {s : List UInt8} {ds : List DTok} {ys : List Tok} (h : Rel s ds ys) : 0 < ds.length ∧ ds.length ≤ ys.length ∧ ∀ i < ds.length, VT s (ds.getD i ⟨0, 0, 0⟩) (tk ys i) ∧ (i + 1 < ds.length ↔ ¬ endK (ds.getD i ⟨0, 0, 0⟩)) := by
  induction h with
  | last h1 h2 =>
    refine ⟨by simp, by simp, fun i hi => ?_⟩
    have : i = 0 := by simpa using hi
    subst this
    exact ⟨h1, by simp; exact h2⟩
  | @more d y ds ys h1 h2 h3 ih =>
    obtain ⟨g1, g2, g3⟩ := ih
    refine ⟨by simp, by simp only [List.length_cons]; omega, fun i hi => ?_⟩
    cases i with
    | zero => exact ⟨h1, by simp only [List.length_cons]; exact ⟨fun _ => h2, fun _ => by omega⟩⟩
    | succ i =>
      obtain ⟨k1, k2⟩ := g3 i (by simp only [List.length_cons] at hi; omega)
      refine ⟨?_, ?_⟩
      · unfold tk at k1 ⊢
        rw [List.getD_cons_succ, List.getD_cons_succ]
        exact k1
      · rw [List.getD_cons_succ, ← k2, List.length_cons]
        omega
end Go.AM

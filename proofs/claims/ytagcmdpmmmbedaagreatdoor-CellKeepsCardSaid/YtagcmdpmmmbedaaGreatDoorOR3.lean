import Derived.Test.YtagcmdpmmmbedaaGreatDoorOR3a
open Go Go.AM Go.Proofs
namespace Go.AM
open Dist
theorem nfCheck (xs : List OpI) (c : Nat) (K : KV) : call P R2 (annCheck xs) 100000 Tryz.f20 [.v (.one (.rs 0 12 xs.length c))] [.ro 0 cOp xs] K = (∃ (z : List cOp.τ), SameRows cOp z cOp xs ∧ (xs.length = xs.length ∧ True) ∧ ((!decide (mapsE z = (0 : Int))) = true → K (AV.v (PV.one (SV.sym IntKind.i64 (mapsE z)))) [Blk.ro 0 cOp xs]) ∧ ((!decide (mapsE z = (0 : Int))) = false → (∃ (z : { i : Nat // (1 : Nat) ≤ i ∧ i ≤ max (1 : Nat) xs.length ∧ sortedB xs = sortedB (List.drop (i - (1 : Nat)) xs) }), ((xs.length = xs.length ∧ c = c) ∧ (↑z.val : Int) = (1 : Int) ∧ True) ∧ SameRows cOp xs cOp xs ∧ True) ∧ ∀ (x : { i : Nat // (1 : Nat) ≤ i ∧ i ≤ max (1 : Nat) xs.length ∧ sortedB xs = sortedB (List.drop (i - (1 : Nat)) xs) }), (decide ((↑x.val : Int) < (↑xs.length : Int)) = true → ((0 : Int) ≤ IntKind.i64.wrap ((↑x.val : Int) - (1 : Int)) ∧ IntKind.i64.wrap ((↑x.val : Int) - (1 : Int)) < (↑xs.length : Int)) ∧ (IntKind.i64.wrap ((↑x.val : Int) - (1 : Int))).toNat.succ.le xs.length ∧ ((0 : Int) ≤ (↑x.val : Int) ∧ (↑x.val : Int) < (↑xs.length : Int)) ∧ (↑x.val : Int).toNat.succ.le xs.length ∧ (decide ((0 : Int) ≤ oC (xs.getD (IntKind.i64.wrap ((↑x.val : Int) - (1 : Int))).toNat cOp.d) (gt xs x.val)) = true → K (AV.v (PV.one (SV.con IntKind.i64 (5 : Int)))) [Blk.ro 0 cOp xs]) ∧ (decide ((0 : Int) ≤ oC (xs.getD (IntKind.i64.wrap ((↑x.val : Int) - (1 : Int))).toNat cOp.d) (gt xs x.val)) = false → ∃ (z : { i : Nat // (1 : Nat) ≤ i ∧ i ≤ max (1 : Nat) xs.length ∧ sortedB xs = sortedB (List.drop (i - (1 : Nat)) xs) }), (xs.length - z.val).succ.le (xs.length - x.val) ∧ ((xs.length = xs.length ∧ c = c) ∧ (↑z.val : Int) = IntKind.i64.wrap ((↑x.val : Int) + (1 : Int)) ∧ True) ∧ SameRows cOp xs cOp xs ∧ True)) ∧ (decide ((↑x.val : Int) < (↑xs.length : Int)) = false → ∃ (z : List cOp.τ), SameRows cOp z cOp xs ∧ (xs.length = xs.length ∧ z.length.le (4611686018427387904 : Nat)) ∧ KeyLaw P (32 : Nat) cOp ∧ ((!mhas cOp (placesL z) oneO) = true → K (AV.v (PV.one (SV.con IntKind.i64 (5 : Int)))) [Blk.ro 0 cOp xs]) ∧ ((!mhas cOp (placesL z) oneO) = false → (∃ (z_1 : { i : Nat // i ≤ xs.length ∧ closedB xs = (List.drop i xs).all (rowB xs) }), ((xs.length = xs.length ∧ c = c) ∧ (xs.length = xs.length ∧ c = c) ∧ (↑xs.length : Int) = (↑xs.length : Int) ∧ (↑z_1.val : Int) = (0 : Int) ∧ True) ∧ SameRows cOp xs cOp xs ∧ True ∧ SameEnts cOp (placesL z) cOp (placesL z) ∧ True) ∧ ∀ (x : { i : Nat // i ≤ xs.length ∧ closedB xs = (List.drop i xs).all (rowB xs) }), (decide ((↑x.val : Int) < (↑xs.length : Int)) = true → ((0 : Int) ≤ (↑x.val : Int) ∧ (↑x.val : Int) < (↑xs.length : Int)) ∧ (↑x.val : Int).toNat.succ.le xs.length ∧ (∃ (z_1 : { j : Nat // j ≤ xs.length ∧ rowB xs (gt xs (↑x.val : Int).toNat) = (List.drop j xs).all (pairB xs (gt xs (↑x.val : Int).toNat)) }), ((xs.length = xs.length ∧ c = c) ∧ (xs.length = xs.length ∧ c = c) ∧ (↑xs.length : Int) = (↑xs.length : Int) ∧ (↑x.val : Int) = (↑x.val : Int) ∧ (xs.length = xs.length ∧ c = c) ∧ (↑xs.length : Int) = (↑xs.length : Int) ∧ (↑z_1.val : Int) = (0 : Int) ∧ True) ∧ SameRows cOp xs cOp xs ∧ True ∧ SameEnts cOp (placesL z) cOp (placesL z) ∧ ((gt xs x.val).a = (gt xs x.val).a ∧ (gt xs x.val).b = (gt xs x.val).b ∧ (gt xs x.val).c = (gt xs x.val).c ∧ (gt xs x.val).d = (gt xs x.val).d ∧ (gt xs x.val).e = (gt xs x.val).e ∧ (gt xs x.val).f = (gt xs x.val).f ∧ (gt xs x.val).g = (gt xs x.val).g ∧ (gt xs x.val).h = (gt xs x.val).h ∧ (gt xs x.val).i = (gt xs x.val).i ∧ (gt xs x.val).x = (gt xs x.val).x ∧ (gt xs x.val).y = (gt xs x.val).y ∧ (gt xs x.val).z = (gt xs x.val).z ∧ True) ∧ True) ∧ ∀ (x_1 : { j : Nat // j ≤ xs.length ∧ rowB xs (gt xs (↑x.val : Int).toNat) = (List.drop j xs).all (pairB xs (gt xs (↑x.val : Int).toNat)) }), (decide ((↑x_1.val : Int) < (↑xs.length : Int)) = true → ((0 : Int) ≤ (↑x_1.val : Int) ∧ (↑x_1.val : Int) < (↑xs.length : Int)) ∧ (↑x_1.val : Int).toNat.succ.le xs.length ∧ KeyLaw P (32 : Nat) cOp ∧ ((!decide (oM (gt xs x.val) (gt xs x_1.val) = (0 : Int))) = true → K (AV.v (PV.one (SV.con IntKind.i64 (5 : Int)))) [Blk.ro 0 cOp xs]) ∧ ((!decide (oM (gt xs x.val) (gt xs x_1.val) = (0 : Int))) = false → ((!mhas cOp (placesL z) (oR (gt xs x.val) (gt xs x_1.val))) = true → K (AV.v (PV.one (SV.con IntKind.i64 (5 : Int)))) [Blk.ro 0 cOp xs]) ∧ ((!mhas cOp (placesL z) (oR (gt xs x.val) (gt xs x_1.val))) = false → ∃ (z_1 : { j : Nat // j ≤ xs.length ∧ rowB xs (gt xs (↑x.val : Int).toNat) = (List.drop j xs).all (pairB xs (gt xs (↑x.val : Int).toNat)) }), (xs.length - z_1.val).succ.le (xs.length - x_1.val) ∧ ((xs.length = xs.length ∧ c = c) ∧ (xs.length = xs.length ∧ c = c) ∧ (↑xs.length : Int) = (↑xs.length : Int) ∧ (↑x.val : Int) = (↑x.val : Int) ∧ (xs.length = xs.length ∧ c = c) ∧ (↑xs.length : Int) = (↑xs.length : Int) ∧ (↑z_1.val : Int) = IntKind.i64.wrap ((↑x_1.val : Int) + (1 : Int)) ∧ True) ∧ SameRows cOp xs cOp xs ∧ True ∧ SameEnts cOp (placesL z) cOp (placesL z) ∧ ((gt xs x.val).a = (gt xs x.val).a ∧ (gt xs x.val).b = (gt xs x.val).b ∧ (gt xs x.val).c = (gt xs x.val).c ∧ (gt xs x.val).d = (gt xs x.val).d ∧ (gt xs x.val).e = (gt xs x.val).e ∧ (gt xs x.val).f = (gt xs x.val).f ∧ (gt xs x.val).g = (gt xs x.val).g ∧ (gt xs x.val).h = (gt xs x.val).h ∧ (gt xs x.val).i = (gt xs x.val).i ∧ (gt xs x.val).x = (gt xs x.val).x ∧ (gt xs x.val).y = (gt xs x.val).y ∧ (gt xs x.val).z = (gt xs x.val).z ∧ True) ∧ True))) ∧ (decide ((↑x_1.val : Int) < (↑xs.length : Int)) = false → ∃ (z_1 : { i : Nat // i ≤ xs.length ∧ closedB xs = (List.drop i xs).all (rowB xs) }), (xs.length - z_1.val).succ.le (xs.length - x.val) ∧ ((xs.length = xs.length ∧ c = c) ∧ (xs.length = xs.length ∧ c = c) ∧ (↑xs.length : Int) = (↑xs.length : Int) ∧ (↑z_1.val : Int) = IntKind.i64.wrap ((↑x.val : Int) + (1 : Int)) ∧ True) ∧ SameRows cOp xs cOp xs ∧ True ∧ SameEnts cOp (placesL z) cOp (placesL z) ∧ True)) ∧ (decide ((↑x.val : Int) < (↑xs.length : Int)) = false → K (AV.v (PV.one (SV.con IntKind.i64 (0 : Int)))) [Blk.ro 0 cOp xs]))))) := by kernel_rfl
theorem sameE (C : Codec) (es : List (C.τ × Int)) : SameEnts C es C es := ⟨rfl⟩
theorem sorted1 : ∀ {l : List OpI}, l.length ≤ 1 → sortedB l = true
  | [], _ => rfl
  | [_], _ => rfl
  | _ :: _ :: l, h => by rw [List.length_cons, List.length_cons] at h; omega
theorem sortedB_end {xs : List OpI} {i : Nat} (h : xs.length ≤ i) (h1 : 1 ≤ i) : sortedB (xs.drop (i - 1)) = true := by
  have hl : (xs.drop (i - 1)).length ≤ 1 := by rw [List.length_drop]; omega
  exact sorted1 hl
theorem sortedB_step {xs : List OpI} {i : Nat} (h : i < xs.length) (h1 : 1 ≤ i) : sortedB (xs.drop (i - 1)) = (decide (oC (gt xs (i - 1)) (gt xs i) < 0) && sortedB (xs.drop i)) := by
  have e1 := drop_gt (xs := xs) (k := i - 1) (by omega)
  have e2 := drop_gt h
  rw [Nat.sub_add_cancel h1] at e1
  rw [e1, e2]
  rfl
theorem all_step {xs : List OpI} {i : Nat} {f : OpI → Bool} (h : i < xs.length) : (xs.drop i).all f = (f (gt xs i) && (xs.drop (i + 1)).all f) := by
  rw [drop_gt h]
  rfl
theorem callCheck (xs : List OpI) (c : Nat) : CallR P R2 (annCheck xs) 100000 Tryz.f20 [.v (.one (.rs 0 12 xs.length c))] [.ro 0 cOp xs] (fun v' h' => MatchTo 1 [v'] h' ([(I' (checkP xs)).sh 1], .ro 0 cOp xs :: shH 1 [])) := by
  refine ⟨?_⟩
  rw [nfCheck]
  refine ⟨xs, sameR _ _, ⟨rfl, trivial⟩, fun h => leafRS ?_, fun h => ?_⟩
  · have h : ¬ mapsE xs = 0 := by simpa using h
    simp [checkP, h]
  have h : mapsE xs = 0 := by simpa using h
  have h192 : xs.length ≤ 192 := by
    unfold mapsE at h
    split at h
    · cases h
    · omega
  have five : (sortedB xs = false ∨ oneO ∉ xs ∨ closedB xs = false) → checkP xs = 5 := fun h5 => by
    rw [checkP, if_neg (by simpa using h), if_neg]
    simp only [Bool.and_eq_true, decide_eq_true_eq]
    rintro ⟨h1, h2, h3⟩
    rcases h5 with h5 | h5 | h5
    · rw [h1] at h5; cases h5
    · exact h5 h2
    · rw [h3] at h5; cases h5
  refine ⟨⟨⟨1, Nat.le_refl _, by omega, rfl⟩, ⟨⟨rfl, rfl⟩, rfl, trivial⟩, sameR _ _, trivial⟩, fun x => ⟨fun hk => ?_, fun hk => ?_⟩⟩
  · obtain ⟨i, h1, h2, h3⟩ := x
    have hk : (i : Int) < xs.length := of_decide_eq_true hk
    have hk' : i < xs.length := by omega
    have w1 := wr_id (n := (i : Int) - 1) (by omega) (by omega)
    have w2 := wr_id (n := (i : Int) + 1) (by omega) (by omega)
    have hst := sortedB_step hk' h1
    show ((0 : Int) ≤ IntKind.i64.wrap ((i : Int) - (1 : Int)) ∧ IntKind.i64.wrap ((i : Int) - (1 : Int)) < (xs.length : Int)) ∧ (IntKind.i64.wrap ((i : Int) - (1 : Int))).toNat < xs.length ∧ _ ∧ i < xs.length ∧ (decide ((0 : Int) ≤ oC (gt xs (IntKind.i64.wrap ((i : Int) - (1 : Int))).toNat) (gt xs i)) = true → _) ∧ (decide ((0 : Int) ≤ oC (gt xs (IntKind.i64.wrap ((i : Int) - (1 : Int))).toNat) (gt xs i)) = false → _)
    rw [w1, show ((i : Int) - 1).toNat = i - 1 by omega]
    refine ⟨⟨by omega, by omega⟩, by omega, ⟨by show (0 : Int) ≤ (i : Int); omega, hk⟩, hk', fun h4 => leafRC (five (.inl ?_)), fun h4 => ⟨⟨i + 1, by omega, by omega, ?_⟩, show xs.length - (i + 1) < xs.length - i by omega, ⟨⟨rfl, rfl⟩, w2.symm, trivial⟩, sameR _ _, trivial⟩⟩
    · have h4 : ¬ oC (gt xs (i - 1)) (gt xs i) < 0 := by have := of_decide_eq_true h4; omega
      rw [h3, hst, decide_eq_false h4]
      rfl
    · have h4 : oC (gt xs (i - 1)) (gt xs i) < 0 := by have := of_decide_eq_false h4; omega
      rw [h3, hst, decide_eq_true h4]
      rfl
  · obtain ⟨i, h1, h2, h3⟩ := x
    have hk : ¬ (i : Int) < xs.length := of_decide_eq_false hk
    have hso : sortedB xs = true := by rw [h3]; exact sortedB_end (by omega) h1
    refine ⟨xs, sameR _ _, ⟨rfl, by show xs.length ≤ _; omega⟩, keyOp, fun h4 => leafRC (five (.inr (.inl ?_))), fun h4 => ?_⟩
    · rw [mhas_places] at h4
      simpa using h4
    rw [mhas_places] at h4
    have hone : oneO ∈ xs := by simpa using h4
    refine ⟨⟨⟨0, Nat.zero_le _, rfl⟩, ⟨⟨rfl, rfl⟩, ⟨rfl, rfl⟩, rfl, rfl, trivial⟩, sameR _ _, trivial, sameE _ _, trivial⟩, fun x => ⟨fun hk => ?_, fun hk => ?_⟩⟩
    · obtain ⟨i, hi1, hi2⟩ := x
      have hk : (i : Int) < xs.length := of_decide_eq_true hk
      have hk' : i < xs.length := by omega
      have w2 := wr_id (n := (i : Int) + 1) (by omega) (by omega)
      have hst := all_step (f := rowB xs) hk'
      refine ⟨⟨by show (0 : Int) ≤ (i : Int); omega, hk⟩, hk', ⟨⟨0, Nat.zero_le _, rfl⟩, ⟨⟨rfl, rfl⟩, ⟨rfl, rfl⟩, rfl, rfl, ⟨rfl, rfl⟩, rfl, rfl, trivial⟩, sameR _ _, trivial, sameE _ _, ⟨rfl, rfl, rfl, rfl, rfl, rfl, rfl, rfl, rfl, rfl, rfl, rfl, trivial⟩, trivial⟩, fun y => ⟨fun hm => ?_, fun hm => ?_⟩⟩
      · obtain ⟨j, hj1, hj2⟩ := y
        have hm : (j : Int) < xs.length := of_decide_eq_true hm
        have hm' : j < xs.length := by omega
        have w3 := wr_id (n := (j : Int) + 1) (by omega) (by omega)
        have hst2 := all_step (f := pairB xs (gt xs i)) hm'
        have hj2 : rowB xs (gt xs i) = (xs.drop j).all (pairB xs (gt xs i)) := hj2
        have bad : pairB xs (gt xs i) (gt xs j) = false → checkP xs = 5 := fun hp => five (.inr (.inr (by rw [hi2, hst, hj2, hst2, hp]; rfl)))
        refine ⟨⟨by show (0 : Int) ≤ (j : Int); omega, hm⟩, hm', keyOp, fun h5 => leafRC (bad ?_), fun h5 => ⟨fun h6 => leafRC (bad ?_), fun h6 => ⟨⟨j + 1, by omega, ?_⟩, show xs.length - (j + 1) < xs.length - j by omega, ⟨⟨rfl, rfl⟩, ⟨rfl, rfl⟩, rfl, rfl, ⟨rfl, rfl⟩, rfl, w3.symm, trivial⟩, sameR _ _, trivial, sameE _ _, ⟨rfl, rfl, rfl, rfl, rfl, rfl, rfl, rfl, rfl, rfl, rfl, rfl, trivial⟩, trivial⟩⟩⟩
        · have h5 : (!decide (oM (gt xs i) (gt xs j) = 0)) = true := h5
          have h5 : ¬ oM (gt xs i) (gt xs j) = 0 := by simpa using h5
          simp [pairB, h5]
        · have h6 : (!mhas cOp (placesL xs) (oR (gt xs i) (gt xs j))) = true := h6
          rw [mhas_places] at h6
          have h6 : oR (gt xs i) (gt xs j) ∉ xs := by simpa using h6
          simp [pairB, h6]
        · have h5 : (!decide (oM (gt xs i) (gt xs j) = 0)) = false := h5
          have h6 : (!mhas cOp (placesL xs) (oR (gt xs i) (gt xs j))) = false := h6
          rw [mhas_places] at h6
          have h5 : oM (gt xs i) (gt xs j) = 0 := by simpa using h5
          have h6 : oR (gt xs i) (gt xs j) ∈ xs := by simpa using h6
          show rowB xs (gt xs i) = (xs.drop (j + 1)).all (pairB xs (gt xs i))
          rw [hj2, hst2]
          simp [pairB, h5, h6]
      · obtain ⟨j, hj1, hj2⟩ := y
        have hm : ¬ (j : Int) < xs.length := of_decide_eq_false hm
        have hj2 : rowB xs (gt xs i) = (xs.drop j).all (pairB xs (gt xs i)) := hj2
        refine ⟨⟨i + 1, by omega, ?_⟩, show xs.length - (i + 1) < xs.length - i by omega, ⟨⟨rfl, rfl⟩, ⟨rfl, rfl⟩, rfl, w2.symm, trivial⟩, sameR _ _, trivial, sameE _ _, trivial⟩
        have hj : j = xs.length := by omega
        rw [hj, List.drop_length] at hj2
        rw [hi2, hst, hj2]
        rfl
    · obtain ⟨i, hi1, hi2⟩ := x
      have hk : ¬ (i : Int) < xs.length := of_decide_eq_false hk
      have hj : i = xs.length := by omega
      rw [hj, List.drop_length] at hi2
      have hcl : closedB xs = true := hi2
      refine leafRC ?_
      rw [checkP, if_neg (by simpa using h), hso, hcl, decide_eq_true hone]
      rfl
def qCheck : RSpec cOp := fun os xs => match os with
  | [] => some (True, I' (checkP xs), [])
  | _ => none
theorem hrCheck : HoldsR P 20 0 cOp qCheck := by
  refine ⟨Tryz.f20, by kernel_rfl, by kernel_rfl, fun os (xs : List OpI) p v hs hq hp hno c => ?_⟩
  match os, hq with
  | [], hq =>
    have := Option.some.inj hq
    simp only [Prod.mk.injEq] at this
    obtain ⟨rfl, rfl, rfl⟩ := this
    exact ⟨100000, annCheck xs, R2, rfl, pR2, callCheck xs c⟩
def R3 : Sums := R2.addSp 20 (rowSpec 0 cOp qCheck)
theorem pR3 : OkS P R3 := pR2.addRow fine hrCheck
end Go.AM

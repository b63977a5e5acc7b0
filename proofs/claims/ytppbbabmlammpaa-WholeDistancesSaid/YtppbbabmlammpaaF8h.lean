import Derived.Test.YtppbbabmlammpaaF8p
open Go Go.AM Go.Proofs
namespace Go.AM
set_option maxRecDepth 10000
theorem idx_out {k n : Nat} (h : decide ((k : Int) < (n : Int)) = false) : n ≤ k := by
  rw [decide_eq_false_iff_not] at h; omega
theorem take_foldI (f : Int → Int → Int) (l : List Int) (k : Nat) (a : Int) (h : k < l.length) : (l.take (k + 1)).foldl f a = f ((l.take k).foldl f a) (l.getD k cInt.d) := take_fold f l (0 : Int) k a h
theorem h8 : Holds P G7 8 q8 := by
  refine holds_okA (fn := Try.f8) A8 1000 rfl (by kernel_rfl) (by kernel_rfl) fun args av hg => ?_
  unfold q8 at hg
  split at hg
  · rename_i a b c d e f m p1 p2 p3 n q1 q2 q3
    obtain ⟨⟨hc, hb⟩, rfl⟩ := gives_iff hg
    have hb0 := hb
    unfold bad10 at hb0
    split at hb0
    · rename_i hform
      split at hb0
      · rename_i hmn
        subst hmn
        refine ⟨rfl, _, rfl, ?_⟩
        rw [nf8]
        have hr : right m = true := by simp [form] at hform; exact hform.1.1
        have hm : 24 ≤ m ∧ m ≤ 192 := Dist.right_bd hr
        have b1 : 0 ≤ modF (IntKind.i64.wrap (p1 - q1)) m ∧ modF (IntKind.i64.wrap (p1 - q1)) m < m := Dist.modF_in hm
        have b2 : 0 ≤ modF (IntKind.i64.wrap (p2 - q2)) m ∧ modF (IntKind.i64.wrap (p2 - q2)) m < m := Dist.modF_in hm
        have b3 : 0 ≤ modF (IntKind.i64.wrap (p3 - q3)) m ∧ modF (IntKind.i64.wrap (p3 - q3)) m < m := Dist.modF_in hm
        clear hform hb0
        generalize modF (IntKind.i64.wrap (p1 - q1)) m = w1 at *
        generalize modF (IntKind.i64.wrap (p2 - q2)) m = w2 at *
        generalize modF (IntKind.i64.wrap (p3 - q3)) m = w3 at *
        refine ⟨hc, hb, ⟨⟨0, by split <;> omega⟩, ?_⟩, fun x => ⟨fun hx => ?_, fun hx => ?_⟩⟩
        · repeat' apply And.intro
          all_goals first | exact trivial | rfl | exact y_init hm b1
        · have s := y_step hm b1 x.2 hx
          refine ⟨⟨(ents_len _ _ _).symm, len_le _ _ _ (three x.2)⟩, ⟨x.1 + 1, s.1⟩, ?_⟩
          repeat' apply And.intro
          all_goals first | exact trivial | rfl | exact s.2 | exact rows_eq (ents_succ _ _ _) | (rw [ents_len]; done) | (show (4 - (x.1 + 1)) + 1 ≤ 4 - x.1; have := three x.2; have := three s.1; omega)
        obtain ⟨e1, k1⟩ := y_exit hm b1 x.2 hx
        have l1 : (Dist.nb w1 m).length = x.val := by rw [← e1, ents_len]
        clear hx
        rw [e1]
        clear e1
        generalize x.val = n1 at *
        refine ⟨⟨⟨0, by split <;> omega⟩, ?_⟩, fun x => ⟨fun hx => ?_, fun hx => ?_⟩⟩
        · repeat' apply And.intro
          all_goals first | exact trivial | rfl | exact y_init hm b2 | exact rows_eq rfl
        · have s := y_step hm b2 x.2 hx
          refine ⟨⟨(ents_len _ _ _).symm, len_le _ _ _ (three x.2)⟩, ⟨x.1 + 1, s.1⟩, ?_⟩
          repeat' apply And.intro
          all_goals first | exact trivial | rfl | exact s.2 | exact rows_eq rfl | exact rows_eq (ents_succ _ _ _) | (rw [ents_len]; done) | (show (4 - (x.1 + 1)) + 1 ≤ 4 - x.1; have := three x.2; have := three s.1; omega)
        obtain ⟨e2, k2⟩ := y_exit hm b2 x.2 hx
        have l2 : (Dist.nb w2 m).length = x.val := by rw [← e2, ents_len]
        clear hx
        rw [e2]
        clear e2
        generalize x.val = n2 at *
        refine ⟨⟨⟨0, by split <;> omega⟩, ?_⟩, fun x => ⟨fun hx => ?_, fun hx => ?_⟩⟩
        · repeat' apply And.intro
          all_goals first | exact trivial | rfl | exact y_init hm b3 | exact rows_eq rfl
        · have s := y_step hm b3 x.2 hx
          refine ⟨⟨(ents_len _ _ _).symm, len_le _ _ _ (three x.2)⟩, ⟨x.1 + 1, s.1⟩, ?_⟩
          repeat' apply And.intro
          all_goals first | exact trivial | rfl | exact s.2 | exact rows_eq rfl | exact rows_eq (ents_succ _ _ _) | (rw [ents_len]; done) | (show (4 - (x.1 + 1)) + 1 ≤ 4 - x.1; have := three x.2; have := three s.1; omega)
        obtain ⟨e3, k3⟩ := y_exit hm b3 x.2 hx
        have l3 : (Dist.nb w3 m).length = x.val := by rw [← e3, ents_len]
        clear hx
        rw [e3]
        clear e3
        generalize x.val = n3 at *
        generalize Dist.nb w1 m = L1 at *
        generalize Dist.nb w2 m = L2 at *
        generalize Dist.nb w3 m = L3 at *
        simp only [toI_cInt, Int.toNat_natCast, Nat.zero_add]
        refine ⟨⟨0, ?_⟩, fun x => ⟨fun hx => ?_, fun hx => ?_⟩⟩
        · repeat' apply And.intro
          all_goals first | exact trivial | rfl | exact rows_eq rfl
        · have j1 := idx_in hx
          refine ⟨⟨by omega, by omega⟩, (show x + 1 ≤ _ by omega), ⟨⟨0, ?_⟩, fun y => ⟨fun hy => ?_, fun hy => ?_⟩⟩⟩
          · repeat' apply And.intro
            all_goals first | exact trivial | rfl | exact rows_eq rfl
          · have j2 := idx_in hy
            refine ⟨⟨by omega, by omega⟩, (show y + 1 ≤ _ by omega), ⟨⟨0, ?_⟩, fun z => ⟨fun hz => ?_, fun hz => ?_⟩⟩⟩
            · repeat' apply And.intro
              all_goals first | exact trivial | rfl | exact rows_eq rfl
            · have j3 := idx_in hz
              refine ⟨⟨by omega, by omega⟩, (show z + 1 ≤ _ by omega), fun h1 => ⟨z + 1, ?_⟩, fun h1 => ⟨fun h2 => ⟨z + 1, ?_⟩, fun h2 => ⟨z + 1, ?_⟩⟩⟩
              · repeat' apply And.intro
                all_goals first
                  | exact trivial | rfl | exact rows_eq rfl | exact wr_succ j3 k3
                  | (show (L3.length - (z + 1)) + 1 ≤ L3.length - z; omega)
                  | (unfold Dist.best5 at h1 ⊢; rw [take_foldI _ _ _ _ (by omega)]; unfold Dist.step5 at h1 ⊢; rw [h1]; rfl)
              · repeat' apply And.intro
                all_goals first
                  | exact trivial | rfl | exact rows_eq rfl | exact wr_succ j3 k3
                  | (show (L3.length - (z + 1)) + 1 ≤ L3.length - z; omega)
                  | (unfold Dist.best5 at h1 h2 ⊢; rw [take_foldI _ _ _ _ (by omega)]; exact (if_pos (by rw [Bool.or_eq_true]; exact .inr h2)))
              · repeat' apply And.intro
                all_goals first
                  | exact trivial | rfl | exact rows_eq rfl | exact wr_succ j3 k3
                  | (show (L3.length - (z + 1)) + 1 ≤ L3.length - z; omega)
                  | (unfold Dist.best5 at h1 h2 ⊢; rw [take_foldI _ _ _ _ (by omega)]; exact (if_neg (by rw [Bool.or_eq_true]; rintro (h | h); exact absurd (h1.symm.trans h) (by decide); exact absurd (h2.symm.trans h) (by decide))))
            · have j3 := idx_out hz
              refine ⟨y + 1, ?_⟩
              repeat' apply And.intro
              all_goals first
                | exact trivial | rfl | exact rows_eq rfl | exact wr_succ j2 k2
                | (show (L2.length - (y + 1)) + 1 ≤ L2.length - y; omega)
                | (rw [List.take_of_length_le (l := L3) (i := z) (by omega)]; unfold Dist.best4; rw [take_foldI _ _ _ _ (by omega)])
          · have j2 := idx_out hy
            refine ⟨x + 1, ?_⟩
            repeat' apply And.intro
            all_goals first
              | exact trivial | rfl | exact rows_eq rfl | exact wr_succ j1 k1
              | (show (L1.length - (x + 1)) + 1 ≤ L1.length - x; omega)
              | (rw [List.take_of_length_le (l := L2) (i := y) (by omega)]; unfold Dist.best3; rw [take_foldI _ _ _ _ (by omega)])
        · have j1 := idx_out hx
          rw [List.take_of_length_le (l := L1) (i := x) (by omega)]
          exact ⟨rfl, trivial⟩
      · simp at hb0
    · simp at hb0
  · exact (gives_fail hg).elim
def G8 : Sums := G7.add 8 q8
end Go.AM

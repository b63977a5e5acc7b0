import Derived.Test.YtppbbabmlammpaaF8n
open Go Go.AM Go.Proofs
namespace Go.AM
theorem holds_okA {S : Sums} {f : Nat} {fn : Func} {q : PSpec} (A : Annos) (n : Nat) (hA : A.q = 0) (hf : P.funcs[f]? = some fn) (hb : fn.body.isSome = true)
    (h : ∀ args av, (q args).gives av → noPtrs args = true ∧ ∃ v, av.valOf = some v ∧ call P S A n fn args [] (fun v' h => v'.valOf = some v ∧ h = [])) : Holds P S f q :=
  ⟨fn, hf, hb, fun args av hg => by
    obtain ⟨h1, v, h2, h3⟩ := h args av hg
    exact ⟨h1, v, n, A, hA, h2, h3⟩⟩
def q8 : PSpec
  | [.v (.agg [.sym .i64 a, .sym .i64 b, .sym .i64 c, .sym .i64 d, .sym .i64 e, .sym .i64 f]), .v (.agg [.sym .i64 m, .sym .i64 p1, .sym .i64 p2, .sym .i64 p3]), .v (.agg [.sym .i64 n, .sym .i64 q1, .sym .i64 q2, .sym .i64 q3])] =>
    .iff (checkC a b c d e f = 0 ∧ bad10 m p1 p2 p3 n q1 q2 q3 = 0) (.tup [.one (.sym .i64 (Dist.best3 (Dist.len9 a f e f b d e d c) (Dist.nb (modF (IntKind.i64.wrap (p1 - q1)) m) m) (Dist.nb (modF (IntKind.i64.wrap (p2 - q2)) m) m) (Dist.nb (modF (IntKind.i64.wrap (p3 - q3)) m) m) (-1))), .one (.con .i64 0)])
  | _ => .fail
theorem toI_cInt (l : List Int) : toI cInt l = l := by
  unfold toI
  induction l with
  | nil => rfl
  | cons a l ih => simp only [flatC, List.map_append]; rw [ih]; rfl
theorem flat_cInt (l : List Int) : flatC cInt l = l.map (SV.sym .i64) := by
  induction l with
  | nil => rfl
  | cons a l ih => simp only [flatC, List.map_cons, ih]; rfl
theorem ents_len (w m : Int) (k : Nat) : (Dist.ents w m k).length = k := by simp [Dist.ents]
theorem ents_succ (w m : Int) (k : Nat) : Dist.ents w m (k + 1) = Dist.ents w m k ++ [w - m + (k : Int) * m] := by simp [Dist.ents, List.range_succ]
theorem rows_eq {a b : List Int} (h : a = b) : SameRows cInt a cInt b := by subst h; exact ⟨rfl, rfl⟩
theorem len_le (w m : Int) (k : Nat) (h : k ≤ 3) : (((Dist.ents w m k).length + 1) * 8).le 140737488355328 ∧ ((Dist.ents w m k).length + 1).le 4611686018427387904 := by
  rw [ents_len]
  exact ⟨by show (k + 1) * 8 ≤ _; omega, by show k + 1 ≤ _; omega⟩
theorem three {w : Int} {k : Nat} (h : k ≤ if w = 0 then 3 else 2) : k ≤ 3 := by split at h <;> omega
theorem y_init {w m : Int} (hm : 24 ≤ m ∧ m ≤ 192) (hw : 0 ≤ w ∧ w < m) : w - m + ((0 : Nat) : Int) * m = IntKind.i64.wrap (w - m) := by
  rw [Dist.wr_id (by omega) (by omega)]
  simp
theorem y_step {w m : Int} {k : Nat} (hm : 24 ≤ m ∧ m ≤ 192) (hw : 0 ≤ w ∧ w < m) (hk : k ≤ if w = 0 then 3 else 2) (h : decide (w - m + (k : Int) * m ≤ m) = true) :
    (k + 1 ≤ if w = 0 then 3 else 2) ∧ w - m + ((k + 1 : Nat) : Int) * m = IntKind.i64.wrap (w - m + (k : Int) * m + m) := by
  have h3 := three hk
  rw [decide_eq_true_eq] at h
  have e : ((k + 1 : Nat) : Int) * m = (k : Int) * m + m := by rw [Int.natCast_add, Int.add_mul]; simp
  have hb : k = 0 ∨ k = 1 ∨ k = 2 ∨ k = 3 := by omega
  rcases hb with rfl | rfl | rfl | rfl
  · refine ⟨by split <;> omega, ?_⟩
    rw [e, Dist.wr_id (by simp; omega) (by simp; omega)]; omega
  · refine ⟨by split <;> omega, ?_⟩
    rw [e, Dist.wr_id (by simp; omega) (by simp; omega)]; omega
  · have : w = 0 := by
      simp at h; omega
    refine ⟨by simp [this], ?_⟩
    rw [e, Dist.wr_id (by simp; omega) (by simp; omega)]; omega
  · exfalso
    simp at h; omega
theorem y_exit {w m : Int} {k : Nat} (hm : 24 ≤ m ∧ m ≤ 192) (hw : 0 ≤ w ∧ w < m) (hk : k ≤ if w = 0 then 3 else 2) (h : decide (w - m + (k : Int) * m ≤ m) = false) : Dist.ents w m k = Dist.nb w m ∧ k ≤ 3 := by
  have h3 := three hk
  rw [decide_eq_false_iff_not] at h
  refine ⟨?_, h3⟩
  unfold Dist.nb
  congr 1
  have hb : k = 0 ∨ k = 1 ∨ k = 2 ∨ k = 3 := by omega
  rcases hb with rfl | rfl | rfl | rfl
  · simp at h; omega
  · simp at h; omega
  · split
    · rename_i h0; simp at h; omega
    · rfl
  · split at hk
    · rename_i h0; simp [h0]
    · omega
theorem idx_in {k n : Nat} (h : decide ((k : Int) < (n : Int)) = true) : k < n := by
  rw [decide_eq_true_eq] at h; omega
theorem take_fold {α β : Type} (f : β → α → β) (l : List α) (d : α) (k : Nat) (a : β) (h : k < l.length) : (l.take (k + 1)).foldl f a = f ((l.take k).foldl f a) (l.getD k d) := by
  rw [List.take_succ_eq_append_getElem h, List.foldl_append]
  simp [List.getD_eq_getElem?_getD, h]
theorem wr_succ {k n : Nat} (h : k < n) (hn : n ≤ 3) : ((k + 1 : Nat) : Int) = IntKind.i64.wrap ((k : Int) + 1) := by
  rw [Dist.wr_id (by omega) (by omega)]; omega
end Go.AM

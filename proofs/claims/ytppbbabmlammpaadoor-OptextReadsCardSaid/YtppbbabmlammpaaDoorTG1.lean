import Derived.Test.YtppbbabmlammpaaDoorTG0
set_option linter.unusedVariables false
set_option linter.unusedSimpArgs false
open Go Go.AM Go.Proofs
namespace Go.AM
open Dist
set_option maxRecDepth 100000
theorem nfdtk (s : List UInt8) (ws : List DTok) (m : Nat) : call P (Z1 stdOn) (annDT s) 1000 Tryd.f39 [.v (.one (.str s))] [] (fun v' h' => MatchTo 0 [v'] h' ([.v (.one (.ow 0 3 0 m false))], [.own 100 dtkC ws])) = ((∃ (z : { x : DS // DSok s x }), (s = s ∧ ((0 : Nat) = (0 : Nat) ∧ z.val.l.length = (0 : Nat)) ∧ (↑z.val.i : Int) = (0 : Int) ∧ True) ∧ z.val.l.length = (0 : Nat) ∧ True) ∧ ∀ (x : { x : DS // DSok s x }), (decide ((↑x.val.i : Int) < (↑s.length : Int)) = true → ((0 : Int) ≤ (↑x.val.i : Int) ∧ (↑x.val.i : Int) < (↑s.length : Int)) ∧ (decide ((↑(s.getD (↑x.val.i : Int).toNat (0 : UInt8)).toNat : Int) = (32 : Int)) = true → ∃ (z : { x : DS // DSok s x }), z.val.n.succ.le x.val.n ∧ (s = s ∧ ((0 : Nat) = (0 : Nat) ∧ z.val.l.length = x.val.l.length) ∧ (↑z.val.i : Int) = IntKind.i64.wrap ((↑x.val.i : Int) + (1 : Int)) ∧ True) ∧ SameRows dtkC z.val.l dtkC x.val.l ∧ True) ∧ (decide ((↑(s.getD (↑x.val.i : Int).toNat (0 : UInt8)).toNat : Int) = (32 : Int)) = false → (digR (↑(s.getD (↑x.val.i : Int).toNat (0 : UInt8)).toNat : Int) = true → (∃ (z : { j : Nat // (↑x.val.i : Int).toNat ≤ j ∧ j ≤ s.length ∧ dEnd s (s.length - (j - (↑x.val.i : Int).toNat)) j = dEnd s s.length (↑x.val.i : Int).toNat }), (s = s ∧ ((0 : Nat) = (0 : Nat) ∧ x.val.l.length = x.val.l.length) ∧ (↑x.val.i : Int) = (↑x.val.i : Int) ∧ (↑(s.getD (↑x.val.i : Int).toNat (0 : UInt8)).toNat : Int) = (↑(s.getD (↑x.val.i : Int).toNat (0 : UInt8)).toNat : Int) ∧ (↑z.val : Int) = (↑x.val.i : Int) ∧ True) ∧ SameRows dtkC x.val.l dtkC x.val.l ∧ True) ∧ ∀ (x_1 : { j : Nat // (↑x.val.i : Int).toNat ≤ j ∧ j ≤ s.length ∧ dEnd s (s.length - (j - (↑x.val.i : Int).toNat)) j = dEnd s s.length (↑x.val.i : Int).toNat }), (decide ((↑x_1.val : Int) < (↑s.length : Int)) = true → ((0 : Int) ≤ (↑x_1.val : Int) ∧ (↑x_1.val : Int) < (↑s.length : Int)) ∧ (digR (↑(s.getD (↑x_1.val : Int).toNat (0 : UInt8)).toNat : Int) = true → ∃ (z : { j : Nat // (↑x.val.i : Int).toNat ≤ j ∧ j ≤ s.length ∧ dEnd s (s.length - (j - (↑x.val.i : Int).toNat)) j = dEnd s s.length (↑x.val.i : Int).toNat }), (s.length - z.val).succ.le (s.length - x_1.val) ∧ (s = s ∧ ((0 : Nat) = (0 : Nat) ∧ x.val.l.length = x.val.l.length) ∧ (↑x.val.i : Int) = (↑x.val.i : Int) ∧ (↑(s.getD (↑x.val.i : Int).toNat (0 : UInt8)).toNat : Int) = (↑(s.getD (↑x.val.i : Int).toNat (0 : UInt8)).toNat : Int) ∧ (↑z.val : Int) = IntKind.i64.wrap ((↑x_1.val : Int) + (1 : Int)) ∧ True) ∧ SameRows dtkC x.val.l dtkC x.val.l ∧ True) ∧ (digR (↑(s.getD (↑x_1.val : Int).toNat (0 : UInt8)).toNat : Int) = false → (x.val.l.length = x.val.l.length ∧ ((x.val.l.length + (1 : Nat)) * 24).le (140737488355328 : Nat) ∧ (x.val.l.length + (1 : Nat)).le (4611686018427387904 : Nat)) ∧ ∃ (z : { x : DS // DSok s x }), z.val.n.succ.le x.val.n ∧ (s = s ∧ ((0 : Nat) = (0 : Nat) ∧ z.val.l.length = x.val.l.length + (1 : Nat)) ∧ (↑z.val.i : Int) = (↑x_1.val : Int) ∧ True) ∧ SameRows dtkC z.val.l dtkC (x.val.l ++ [{ kind := (48 : Int), pos := (↑x.val.i : Int), next := (↑x_1.val : Int) }]) ∧ True)) ∧ (decide ((↑x_1.val : Int) < (↑s.length : Int)) = false → (x.val.l.length = x.val.l.length ∧ ((x.val.l.length + (1 : Nat)) * 24).le (140737488355328 : Nat) ∧ (x.val.l.length + (1 : Nat)).le (4611686018427387904 : Nat)) ∧ ∃ (z : { x : DS // DSok s x }), z.val.n.succ.le x.val.n ∧ (s = s ∧ ((0 : Nat) = (0 : Nat) ∧ z.val.l.length = x.val.l.length + (1 : Nat)) ∧ (↑z.val.i : Int) = (↑x_1.val : Int) ∧ True) ∧ SameRows dtkC z.val.l dtkC (x.val.l ++ [{ kind := (48 : Int), pos := (↑x.val.i : Int), next := (↑x_1.val : Int) }]) ∧ True)) ∧ (digR (↑(s.getD (↑x.val.i : Int).toNat (0 : UInt8)).toNat : Int) = false → (decide ((↑(s.getD (↑x.val.i : Int).toNat (0 : UInt8)).toNat : Int) = (120 : Int)) = true → (x.val.l.length = x.val.l.length ∧ ((x.val.l.length + (1 : Nat)) * 24).le (140737488355328 : Nat) ∧ (x.val.l.length + (1 : Nat)).le (4611686018427387904 : Nat)) ∧ ∃ (z : { x : DS // DSok s x }), z.val.n.succ.le x.val.n ∧ (s = s ∧ ((0 : Nat) = (0 : Nat) ∧ z.val.l.length = x.val.l.length + (1 : Nat)) ∧ (↑z.val.i : Int) = IntKind.i64.wrap ((↑x.val.i : Int) + (1 : Int)) ∧ True) ∧ SameRows dtkC z.val.l dtkC (x.val.l ++ [{ kind := (↑(s.getD (↑x.val.i : Int).toNat (0 : UInt8)).toNat : Int), pos := (↑x.val.i : Int), next := IntKind.i64.wrap ((↑x.val.i : Int) + (1 : Int)) }]) ∧ True) ∧ (decide ((↑(s.getD (↑x.val.i : Int).toNat (0 : UInt8)).toNat : Int) = (120 : Int)) = false → (decide ((↑(s.getD (↑x.val.i : Int).toNat (0 : UInt8)).toNat : Int) = (121 : Int)) = true → (x.val.l.length = x.val.l.length ∧ ((x.val.l.length + (1 : Nat)) * 24).le (140737488355328 : Nat) ∧ (x.val.l.length + (1 : Nat)).le (4611686018427387904 : Nat)) ∧ ∃ (z : { x : DS // DSok s x }), z.val.n.succ.le x.val.n ∧ (s = s ∧ ((0 : Nat) = (0 : Nat) ∧ z.val.l.length = x.val.l.length + (1 : Nat)) ∧ (↑z.val.i : Int) = IntKind.i64.wrap ((↑x.val.i : Int) + (1 : Int)) ∧ True) ∧ SameRows dtkC z.val.l dtkC (x.val.l ++ [{ kind := (↑(s.getD (↑x.val.i : Int).toNat (0 : UInt8)).toNat : Int), pos := (↑x.val.i : Int), next := IntKind.i64.wrap ((↑x.val.i : Int) + (1 : Int)) }]) ∧ True) ∧ (decide ((↑(s.getD (↑x.val.i : Int).toNat (0 : UInt8)).toNat : Int) = (121 : Int)) = false → (decide ((↑(s.getD (↑x.val.i : Int).toNat (0 : UInt8)).toNat : Int) = (122 : Int)) = true → (x.val.l.length = x.val.l.length ∧ ((x.val.l.length + (1 : Nat)) * 24).le (140737488355328 : Nat) ∧ (x.val.l.length + (1 : Nat)).le (4611686018427387904 : Nat)) ∧ ∃ (z : { x : DS // DSok s x }), z.val.n.succ.le x.val.n ∧ (s = s ∧ ((0 : Nat) = (0 : Nat) ∧ z.val.l.length = x.val.l.length + (1 : Nat)) ∧ (↑z.val.i : Int) = IntKind.i64.wrap ((↑x.val.i : Int) + (1 : Int)) ∧ True) ∧ SameRows dtkC z.val.l dtkC (x.val.l ++ [{ kind := (↑(s.getD (↑x.val.i : Int).toNat (0 : UInt8)).toNat : Int), pos := (↑x.val.i : Int), next := IntKind.i64.wrap ((↑x.val.i : Int) + (1 : Int)) }]) ∧ True) ∧ (decide ((↑(s.getD (↑x.val.i : Int).toNat (0 : UInt8)).toNat : Int) = (122 : Int)) = false → (decide ((↑(s.getD (↑x.val.i : Int).toNat (0 : UInt8)).toNat : Int) = (43 : Int)) = true → (x.val.l.length = x.val.l.length ∧ ((x.val.l.length + (1 : Nat)) * 24).le (140737488355328 : Nat) ∧ (x.val.l.length + (1 : Nat)).le (4611686018427387904 : Nat)) ∧ ∃ (z : { x : DS // DSok s x }), z.val.n.succ.le x.val.n ∧ (s = s ∧ ((0 : Nat) = (0 : Nat) ∧ z.val.l.length = x.val.l.length + (1 : Nat)) ∧ (↑z.val.i : Int) = IntKind.i64.wrap ((↑x.val.i : Int) + (1 : Int)) ∧ True) ∧ SameRows dtkC z.val.l dtkC (x.val.l ++ [{ kind := (↑(s.getD (↑x.val.i : Int).toNat (0 : UInt8)).toNat : Int), pos := (↑x.val.i : Int), next := IntKind.i64.wrap ((↑x.val.i : Int) + (1 : Int)) }]) ∧ True) ∧ (decide ((↑(s.getD (↑x.val.i : Int).toNat (0 : UInt8)).toNat : Int) = (43 : Int)) = false → (decide ((↑(s.getD (↑x.val.i : Int).toNat (0 : UInt8)).toNat : Int) = (45 : Int)) = true → (x.val.l.length = x.val.l.length ∧ ((x.val.l.length + (1 : Nat)) * 24).le (140737488355328 : Nat) ∧ (x.val.l.length + (1 : Nat)).le (4611686018427387904 : Nat)) ∧ ∃ (z : { x : DS // DSok s x }), z.val.n.succ.le x.val.n ∧ (s = s ∧ ((0 : Nat) = (0 : Nat) ∧ z.val.l.length = x.val.l.length + (1 : Nat)) ∧ (↑z.val.i : Int) = IntKind.i64.wrap ((↑x.val.i : Int) + (1 : Int)) ∧ True) ∧ SameRows dtkC z.val.l dtkC (x.val.l ++ [{ kind := (↑(s.getD (↑x.val.i : Int).toNat (0 : UInt8)).toNat : Int), pos := (↑x.val.i : Int), next := IntKind.i64.wrap ((↑x.val.i : Int) + (1 : Int)) }]) ∧ True) ∧ (decide ((↑(s.getD (↑x.val.i : Int).toNat (0 : UInt8)).toNat : Int) = (45 : Int)) = false → (decide ((↑(s.getD (↑x.val.i : Int).toNat (0 : UInt8)).toNat : Int) = (44 : Int)) = true → (x.val.l.length = x.val.l.length ∧ ((x.val.l.length + (1 : Nat)) * 24).le (140737488355328 : Nat) ∧ (x.val.l.length + (1 : Nat)).le (4611686018427387904 : Nat)) ∧ ∃ (z : { x : DS // DSok s x }), z.val.n.succ.le x.val.n ∧ (s = s ∧ ((0 : Nat) = (0 : Nat) ∧ z.val.l.length = x.val.l.length + (1 : Nat)) ∧ (↑z.val.i : Int) = IntKind.i64.wrap ((↑x.val.i : Int) + (1 : Int)) ∧ True) ∧ SameRows dtkC z.val.l dtkC (x.val.l ++ [{ kind := (↑(s.getD (↑x.val.i : Int).toNat (0 : UInt8)).toNat : Int), pos := (↑x.val.i : Int), next := IntKind.i64.wrap ((↑x.val.i : Int) + (1 : Int)) }]) ∧ True) ∧ (decide ((↑(s.getD (↑x.val.i : Int).toNat (0 : UInt8)).toNat : Int) = (44 : Int)) = false → (decide ((↑(s.getD (↑x.val.i : Int).toNat (0 : UInt8)).toNat : Int) = (47 : Int)) = true → (x.val.l.length = x.val.l.length ∧ ((x.val.l.length + (1 : Nat)) * 24).le (140737488355328 : Nat) ∧ (x.val.l.length + (1 : Nat)).le (4611686018427387904 : Nat)) ∧ ∃ (z : { x : DS // DSok s x }), z.val.n.succ.le x.val.n ∧ (s = s ∧ ((0 : Nat) = (0 : Nat) ∧ z.val.l.length = x.val.l.length + (1 : Nat)) ∧ (↑z.val.i : Int) = IntKind.i64.wrap ((↑x.val.i : Int) + (1 : Int)) ∧ True) ∧ SameRows dtkC z.val.l dtkC (x.val.l ++ [{ kind := (↑(s.getD (↑x.val.i : Int).toNat (0 : UInt8)).toNat : Int), pos := (↑x.val.i : Int), next := IntKind.i64.wrap ((↑x.val.i : Int) + (1 : Int)) }]) ∧ True) ∧ (decide ((↑(s.getD (↑x.val.i : Int).toNat (0 : UInt8)).toNat : Int) = (47 : Int)) = false → (x.val.l.length = x.val.l.length ∧ ((x.val.l.length + (1 : Nat)) * 24).le (140737488355328 : Nat) ∧ (x.val.l.length + (1 : Nat)).le (4611686018427387904 : Nat)) ∧ (((0 : Nat) = (0 : Nat) ∧ m = x.val.l.length + (1 : Nat)) ∧ True) ∧ SameRows dtkC ws dtkC (x.val.l ++ [{ kind := (0 : Int), pos := (↑x.val.i : Int), next := (↑x.val.i : Int) }]) ∧ True)))))))))) ∧ (decide ((↑x.val.i : Int) < (↑s.length : Int)) = false → (x.val.l.length = x.val.l.length ∧ ((x.val.l.length + (1 : Nat)) * 24).le (140737488355328 : Nat) ∧ (x.val.l.length + (1 : Nat)).le (4611686018427387904 : Nat)) ∧ (((0 : Nat) = (0 : Nat) ∧ m = x.val.l.length + (1 : Nat)) ∧ True) ∧ SameRows dtkC ws dtkC (x.val.l ++ [{ kind := (101 : Int), pos := (↑s.length : Int), next := (↑s.length : Int) }]) ∧ True)) := by kernel_rfl
theorem dEnd_step {s : List UInt8} {n j : Nat} (hj : j < s.length) (hd : digR (bt s j) = true) : dEnd s (n + 1) j = dEnd s n (j + 1) := by rw [dEnd, if_pos ⟨hj, hd⟩]
theorem dEnd_stop {s : List UInt8} {n j : Nat} (h : s.length ≤ j ∨ digR (bt s j) = false) : dEnd s n j = j := by
  cases n with
  | zero => rfl
  | succ n =>
    rw [dEnd, if_neg]
    rintro ⟨h1, h2⟩
    rcases h with h | h
    · omega
    · rw [h] at h2; cases h2
theorem sameD {xs ys : List DTok} (h : xs = ys) : SameRows dtkC xs dtkC ys := by subst h; exact ⟨rfl, rfl⟩
theorem lenD (xs : List DTok) (t : DTok) : (xs ++ [t]).length = xs.length + 1 := by simp
theorem dtok_run {s : List UInt8} (hs : s.length ≤ 65536) : call P (Z1 stdOn) (annDT s) 1000 Tryd.f39 [.v (.one (.str s))] [] (fun v' h' => MatchTo 0 [v'] h' ([.v (.one (.ow 0 3 0 (dtoks s).length false))], [.own 100 dtkC (dtoks s)])) := by
  refine Eq.mpr (nfdtk s (dtoks s) (dtoks s).length) ⟨⟨⟨⟨s.length + 1, 0, []⟩, ⟨rfl, by simp, by simp, by simp⟩⟩, ⟨rfl, ⟨rfl, rfl⟩, rfl, trivial⟩, rfl, trivial⟩, fun ⟨⟨n, i, l⟩, e1, e2, e3, e4⟩ => ?_⟩
  simp only at e1 e2 e3 e4
  have wi : ∀ j : Nat, j ≤ 70000 → ((j + 1 : Nat) : Int) = IntKind.i64.wrap ((j : Int) + 1) := fun j h => by rw [wr_id (by omega) (by omega)]; omega
  have bd : l.length = l.length ∧ ((l.length + 1) * 24).le 140737488355328 ∧ (l.length + 1).le 4611686018427387904 := ⟨rfl, by show (l.length + 1) * 24 ≤ 140737488355328; omega, by show l.length + 1 ≤ 4611686018427387904; omega⟩
  obtain ⟨n, rfl⟩ : ∃ k, n = k + 1 := ⟨n - 1, by omega⟩
  refine ⟨fun hi => ?_, fun hi => ?_⟩
  · have hi : i < s.length := by have := of_decide_eq_true hi; simp only at this; omega
    rw [dtP, if_pos hi] at e1
    refine ⟨⟨by show (0 : Int) ≤ (i : Int); omega, by show (i : Int) < (s.length : Int); omega⟩, fun h32 => ?_, fun h32 => ?_⟩
    · have h32 : bt s i = 32 := of_decide_eq_true h32
      rw [if_pos h32] at e1
      exact ⟨⟨⟨n, i + 1, l⟩, ⟨e1, by simp only; omega, by simp only; omega, by simp only; omega⟩⟩, Nat.le_refl _, ⟨rfl, ⟨rfl, rfl⟩, wi i (by omega), trivial⟩, sameD rfl, trivial⟩
    · have h32 : ¬ bt s i = 32 := of_decide_eq_false h32
      rw [if_neg h32] at e1
      refine ⟨fun hd => ?_, fun hd => ?_⟩
      · have hd : digR (bt s i) = true := hd
        rw [if_pos hd] at e1
        have fin : ∀ j : Nat, i ≤ j → j ≤ s.length → dEnd s (s.length - (j - i)) j = dEnd s s.length i → (s.length ≤ j ∨ digR (bt s j) = false) → DSok s ⟨n, j, l ++ [⟨48, i, j⟩]⟩ := fun j k1 k2 k3 k4 => by
          rw [dEnd_stop k4] at k3
          have hne : i < j := by
            rcases Nat.lt_or_ge i j with h | h
            · exact h
            · have : j = i := by omega
              subst this
              rcases k4 with h | h
              · omega
              · rw [hd] at h; cases h
          rw [← k3] at e1
          exact ⟨by simp only; rw [← e1, List.append_assoc]; rfl, by simp only; omega, k2, by simp only [lenD]; omega⟩
        refine ⟨⟨⟨i, Nat.le_refl _, Nat.le_of_lt hi, by show dEnd s (s.length - (i - i)) i = dEnd s s.length i; rw [Nat.sub_self]; rfl⟩, ⟨rfl, ⟨rfl, rfl⟩, rfl, rfl, rfl, trivial⟩, sameD rfl, trivial⟩, fun ⟨j, k1, k2, k3⟩ => ?_⟩
        have k1 : i ≤ j := k1
        have k3 : dEnd s (s.length - (j - i)) j = dEnd s s.length i := k3
        refine ⟨fun hj => ?_, fun hj => ?_⟩
        · have hj : j < s.length := by have := of_decide_eq_true hj; simp only at this; omega
          refine ⟨⟨by show (0 : Int) ≤ (j : Int); omega, by show (j : Int) < (s.length : Int); omega⟩, fun hdj => ?_, fun hdj => ?_⟩
          · have hdj : digR (bt s j) = true := hdj
            refine ⟨⟨j + 1, by show i ≤ j + 1; omega, hj, ?_⟩, by show (s.length - (j + 1)) + 1 ≤ s.length - j; omega, ⟨rfl, ⟨rfl, rfl⟩, rfl, rfl, wi j (by omega), trivial⟩, sameD rfl, trivial⟩
            show dEnd s (s.length - (j + 1 - i)) (j + 1) = dEnd s s.length i
            rw [← k3, show s.length - (j - i) = (s.length - (j + 1 - i)) + 1 by omega, dEnd_step hj hdj]
          · have hdj : digR (bt s j) = false := hdj
            exact ⟨bd, ⟨⟨n, j, l ++ [⟨48, i, j⟩]⟩, fin j k1 k2 k3 (.inr hdj)⟩, Nat.le_refl _, ⟨rfl, ⟨rfl, lenD _ _⟩, rfl, trivial⟩, sameD rfl, trivial⟩
        · have hj : s.length ≤ j := by have := of_decide_eq_false hj; simp only at this; omega
          exact ⟨bd, ⟨⟨n, j, l ++ [⟨48, i, j⟩]⟩, fin j k1 k2 k3 (.inl hj)⟩, Nat.le_refl _, ⟨rfl, ⟨rfl, lenD _ _⟩, rfl, trivial⟩, sameD rfl, trivial⟩
      · have hd : digR (bt s i) = false := hd
        rw [if_neg (by rw [hd]; decide)] at e1
        have sy : symR (bt s i) = true → DSok s ⟨n, i + 1, l ++ [⟨bt s i, i, IntKind.i64.wrap ((i : Int) + 1)⟩]⟩ := fun h => by
          rw [if_pos h] at e1
          have e : IntKind.i64.wrap ((i : Int) + 1) = (i : Int) + 1 := by rw [wr_id (by omega) (by omega)]
          exact ⟨by simp only; rw [e, ← e1, List.append_assoc]; rfl, by simp only; omega, hi, by simp only [lenD]; omega⟩
        have fin : symR (bt s i) = true → ∃ (z : { x : DS // DSok s x }), z.val.n.succ.le (n + 1) ∧ (s = s ∧ ((0 : Nat) = (0 : Nat) ∧ z.val.l.length = l.length + (1 : Nat)) ∧ (z.val.i : Int) = IntKind.i64.wrap ((i : Int) + (1 : Int)) ∧ True) ∧ SameRows dtkC z.val.l dtkC (l ++ [{ kind := bt s i, pos := (i : Int), next := IntKind.i64.wrap ((i : Int) + (1 : Int)) }]) ∧ True := fun h =>
          ⟨⟨⟨n, i + 1, l ++ [⟨bt s i, i, IntKind.i64.wrap ((i : Int) + 1)⟩]⟩, sy h⟩, Nat.le_refl _, ⟨rfl, ⟨rfl, lenD _ _⟩, wi i (by omega), trivial⟩, sameD rfl, trivial⟩
        have q1 : decide (bt s i = 120) = true → symR (bt s i) = true := fun a1 => by unfold symR; rw [a1]; rfl
        refine ⟨fun a1 => ⟨bd, fin (by unfold symR; rw [show decide (bt s i = 120) = true from a1]; rfl)⟩, fun a1 => ⟨fun a2 => ⟨bd, fin (by unfold symR; rw [show decide (bt s i = 121) = true from a2]; simp)⟩, fun a2 => ⟨fun a3 => ⟨bd, fin (by unfold symR; rw [show decide (bt s i = 122) = true from a3]; simp)⟩, fun a3 => ⟨fun a4 => ⟨bd, fin (by unfold symR; rw [show decide (bt s i = 43) = true from a4]; simp)⟩, fun a4 => ⟨fun a5 => ⟨bd, fin (by unfold symR; rw [show decide (bt s i = 45) = true from a5]; simp)⟩, fun a5 => ⟨fun a6 => ⟨bd, fin (by unfold symR; rw [show decide (bt s i = 44) = true from a6]; simp)⟩, fun a6 => ⟨fun a7 => ⟨bd, fin (by unfold symR; rw [show decide (bt s i = 47) = true from a7]; simp)⟩, fun a7 => ?_⟩⟩⟩⟩⟩⟩⟩
        have hsy : symR (bt s i) = false := by
          unfold symR
          rw [show decide (bt s i = 120) = false from a1, show decide (bt s i = 121) = false from a2, show decide (bt s i = 122) = false from a3, show decide (bt s i = 43) = false from a4, show decide (bt s i = 45) = false from a5, show decide (bt s i = 44) = false from a6, show decide (bt s i = 47) = false from a7]
          rfl
        rw [if_neg (by rw [hsy]; decide)] at e1
        exact ⟨bd, ⟨⟨rfl, by show (dtoks s).length = l.length + 1; rw [← e1]; exact lenD _ _⟩, trivial⟩, sameD e1.symm, trivial⟩
  · have hi : i = s.length := by have := of_decide_eq_false hi; simp only at this; omega
    rw [dtP, if_neg (by omega)] at e1
    exact ⟨bd, ⟨⟨rfl, by show (dtoks s).length = l.length + 1; rw [← e1]; exact lenD _ _⟩, trivial⟩, sameD e1.symm, trivial⟩
def qDToks : FSpec := fun args => match args with
  | [.v (.one (.str s))] => some (s.length ≤ 65536, .v (.one (.ow 0 3 0 (dtoks s).length false)), [.own 100 dtkC (dtoks s)])
  | _ => none
theorem hDToks : HoldsFm P 39 qDToks := by
  refine ⟨Tryd.f39, by kernel_rfl, by kernel_rfl, fun args p v hs hq hp => ?_⟩
  unfold qDToks at hq
  split at hq
  · rename_i s
    simp only [Option.some.injEq, Prod.mk.injEq] at hq
    obtain ⟨rfl, rfl, rfl⟩ := hq
    exact ⟨rfl, rfl, 1000, _, Z1 stdOn, rfl, pZ1 stdOn, ⟨dtok_run hp⟩⟩
  · cases hq
end Go.AM

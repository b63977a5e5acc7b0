import Derived.Test.YtppbbabmlammpaaF7
open Go Go.AM Go.Proofs
namespace Go.AM
/-- what the checks give where nothing is amiss -/
def q20k : PSpec
  | [.v (.agg [.sym .i64 a, .sym .i64 b, .sym .i64 c, .sym .i64 d, .sym .i64 e, .sym .i64 f])] => .iff (checkC a b c d e f = 0) (C 0)
  | _ => .fail
def q10k : PSpec
  | [.v (.agg [.sym .i64 m, .sym .i64 a, .sym .i64 b, .sym .i64 c]), .v (.agg [.sym .i64 n, .sym .i64 d, .sym .i64 e, .sym .i64 f])] =>
    .iff (bad10 m a b c n d e f = 0) (.tup [.agg [.sym .i64 m, .sym .i64 (modF (IntKind.i64.wrap (a - d)) m), .sym .i64 (modF (IntKind.i64.wrap (b - e)) m), .sym .i64 (modF (IntKind.i64.wrap (c - f)) m)], .one (.con .i64 0)])
  | _ => .fail
def q6k : PSpec
  | [.v (.one (.sym .i64 m)), .v (.agg [.sym .i64 a, .sym .i64 b, .sym .i64 c])] => .iff (right m = true) (.tup [.agg [.sym .i64 m, .sym .i64 (modF a m), .sym .i64 (modF b m), .sym .i64 (modF c m)], .one (.con .i64 0)])
  | _ => .fail
theorem Holds.weaken {S : Sums} {f : Nat} {q q' : PSpec} (h : Holds P S f q) (hq : ∀ args av, (q' args).gives av → ∃ av', (q args).gives av' ∧ av'.valOf = av.valOf) : Holds P S f q' := by
  obtain ⟨fn, h1, h2, h3⟩ := h
  refine ⟨fn, h1, h2, fun args av hg => ?_⟩
  obtain ⟨av', h4, h5⟩ := hq args av hg
  rw [← h5]
  exact h3 args av' h4
theorem gives_iff {p : Prop} {v av : AV} (h : (OR.iff p v).gives av) : p ∧ av = v := by
  rcases h with h | ⟨p, h, hp⟩
  · cases h
  · injection h with h1 h2
    subst h2
    exact ⟨h1 ▸ hp, rfl⟩
theorem h20k : Holds P G3 20 q20k := h20.weaken fun args av hg => by
  unfold q20k at hg
  split at hg
  · obtain ⟨hp, rfl⟩ := gives_iff hg
    exact ⟨_, .inl rfl, by rw [hp]; rfl⟩
  · exact (gives_fail hg).elim
theorem h10k : Holds P G3 10 q10k := h10.weaken fun args av hg => by
  unfold q10k at hg
  split at hg
  · obtain ⟨hp, rfl⟩ := gives_iff hg
    exact ⟨_, .inl rfl, by simp only [hp, if_true]; rfl⟩
  · exact (gives_fail hg).elim
theorem h6k : Holds P G2 6 q6k := h6.weaken fun args av hg => by
  unfold q6k at hg
  split at hg
  · obtain ⟨hp, rfl⟩ := gives_iff hg
    exact ⟨_, .inl rfl, by simp only [hp, if_true]; rfl⟩
  · exact (gives_fail hg).elim
def G7 : Sums := ((G6.add 20 q20k).add 10 q10k).add 6 q6k
end Go.AM

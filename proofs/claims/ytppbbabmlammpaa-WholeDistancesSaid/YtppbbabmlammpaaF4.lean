import Derived.Test.YtppbbabmlammpaaF3
open Go Go.AM Go.Proofs
namespace Go.AM
theorem leafI {k : IntKind} {n m : Int} (h : n = m) : (AV.v (.one (.con k n))).valOf = some (.int k m) ∧ ([] : Heap) = [] := by subst h; exact ⟨rfl, rfl⟩
def cof (a b c d : Int) : Int := IntKind.i64.wrap (IntKind.i64.wrap (a * d) - IntKind.i64.wrap (b * c))
def q47 : PSpec
  | [.v (.agg [.sym .i64 a, .sym .i64 b, .sym .i64 c, .sym .i64 d, .sym .i64 e, .sym .i64 f, .sym .i64 g, .sym .i64 h, .sym .i64 i]), .v (.one (.con .i64 x)), .v (.one (.con .i64 y))] => if x = 0 then (if y = 0 then .ok (I (cof e f h i)) else if y = 1 then .ok (I (cof f d i g)) else if y = 2 then .ok (I (cof d e g h)) else .fail) else .fail
  | _ => .fail
def over9 (a b c d e f g h i : Int) : Bool := beyond a 1000 || (beyond b 1000 || (beyond c 1000 || (beyond d 1000 || (beyond e 1000 || (beyond f 1000 || (beyond g 1000 || (beyond h 1000 || beyond i 1000)))))))
def q33 : PSpec
  | [.v (.agg [.sym .i64 a, .sym .i64 b, .sym .i64 c, .sym .i64 d, .sym .i64 e, .sym .i64 f, .sym .i64 g, .sym .i64 h, .sym .i64 i])] => .ok (I (if over9 a b c d e f g h i then 4 else 0))
  | _ => .fail
def q7 : PSpec
  | [.v (.one (.sym .u8 k))] => .iff (0 ≤ k.tmod 4) (I (shI .shl .i64 24 (k.tmod 4)))
  | _ => .fail
def out (m a : Int) : Bool := decide (a < 0) || decide (m ≤ a)
def form (m a b c : Int) : Bool := right m && !(out m a || (out m b || out m c))
def q25 : PSpec
  | [.v (.agg [.sym .i64 m, .sym .i64 a, .sym .i64 b, .sym .i64 c])] => .ok (B (form m a b c))
  | _ => .fail
def q6 : PSpec
  | [.v (.one (.sym .i64 m)), .v (.agg [.sym .i64 a, .sym .i64 b, .sym .i64 c])] => .ok (.tup [.agg [.sym .i64 (if right m then m else 0), .sym .i64 (if right m then modF a m else 0), .sym .i64 (if right m then modF b m else 0), .sym .i64 (if right m then modF c m else 0)], .one (.sym .i64 (if right m then 0 else 1))])
  | _ => .fail
def q50 : PSpec
  | [.v (.agg [.sym .i64 a, .sym .i64 b, .sym .i64 c]), .v (.agg [.sym .i64 d, .sym .i64 e, .sym .i64 f])] => .ok (V (modF (IntKind.i64.wrap (a.tmod 24 + d.tmod 24)) 24) (modF (IntKind.i64.wrap (b.tmod 24 + e.tmod 24)) 24) (modF (IntKind.i64.wrap (c.tmod 24 + f.tmod 24)) 24))
  | _ => .fail
theorem nf47_0 (a b c d e f g h i : Int) (K : KV) : call P G2 noAnn 100000 Try.f47 [M a b c d e f g h i, C 0, C 0] [] K = (K (AV.v (PV.one (SV.sym IntKind.i64 (IntKind.i64.wrap (IntKind.i64.wrap (e * i) - IntKind.i64.wrap (f * h)))))) []) := by kernel_rfl
theorem nf47_1 (a b c d e f g h i : Int) (K : KV) : call P G2 noAnn 100000 Try.f47 [M a b c d e f g h i, C 0, C 1] [] K = (K (AV.v (PV.one (SV.sym IntKind.i64 (IntKind.i64.wrap (IntKind.i64.wrap (f * g) - IntKind.i64.wrap (d * i)))))) []) := by kernel_rfl
theorem nf47_2 (a b c d e f g h i : Int) (K : KV) : call P G2 noAnn 100000 Try.f47 [M a b c d e f g h i, C 0, C 2] [] K = (K (AV.v (PV.one (SV.sym IntKind.i64 (IntKind.i64.wrap (IntKind.i64.wrap (d * h) - IntKind.i64.wrap (e * g)))))) []) := by kernel_rfl
theorem nf33 (a b c d e f g h i : Int) (K : KV) : call P G2 noAnn 100000 Try.f33 [M a b c d e f g h i] [] K = ((beyond a 1000 = true → K (AV.v (PV.one (SV.con IntKind.i64 4))) []) ∧ (beyond a 1000 = false → (beyond b 1000 = true → K (AV.v (PV.one (SV.con IntKind.i64 4))) []) ∧ (beyond b 1000 = false → (beyond c 1000 = true → K (AV.v (PV.one (SV.con IntKind.i64 4))) []) ∧ (beyond c 1000 = false → (beyond d 1000 = true → K (AV.v (PV.one (SV.con IntKind.i64 4))) []) ∧ (beyond d 1000 = false → (beyond e 1000 = true → K (AV.v (PV.one (SV.con IntKind.i64 4))) []) ∧ (beyond e 1000 = false → (beyond f 1000 = true → K (AV.v (PV.one (SV.con IntKind.i64 4))) []) ∧ (beyond f 1000 = false → (beyond g 1000 = true → K (AV.v (PV.one (SV.con IntKind.i64 4))) []) ∧ (beyond g 1000 = false → (beyond h 1000 = true → K (AV.v (PV.one (SV.con IntKind.i64 4))) []) ∧ (beyond h 1000 = false → (beyond i 1000 = true → K (AV.v (PV.one (SV.con IntKind.i64 4))) []) ∧ (beyond i 1000 = false → K (AV.v (PV.one (SV.con IntKind.i64 0))) [])))))))))) := by kernel_rfl
theorem nf7 (k : Int) (K : KV) : call P G2 noAnn 100000 Try.f7 [.v (.one (.sym .u8 k))] [] K = (0 ≤ k.tmod 4 ∧ K (AV.v (PV.one (SV.sym IntKind.i64 (shI BinOp.shl IntKind.i64 24 (k.tmod 4))))) []) := by kernel_rfl
theorem nf25 (m a b c : Int) (K : KV) : call P G2 noAnn 100000 Try.f25 [Pt m a b c] [] K = (((!right m) = true → K (AV.v (PV.one (SV.cb false))) []) ∧ ((!right m) = false → (decide (a < 0) = true → K (AV.v (PV.one (SV.cb false))) []) ∧ (decide (a < 0) = false → (decide (m ≤ a) = true → K (AV.v (PV.one (SV.cb false))) []) ∧ (decide (m ≤ a) = false → (decide (b < 0) = true → K (AV.v (PV.one (SV.cb false))) []) ∧ (decide (b < 0) = false → (decide (m ≤ b) = true → K (AV.v (PV.one (SV.cb false))) []) ∧ (decide (m ≤ b) = false → (decide (c < 0) = true → K (AV.v (PV.one (SV.cb false))) []) ∧ (decide (c < 0) = false → (decide (m ≤ c) = true → K (AV.v (PV.one (SV.cb false))) []) ∧ (decide (m ≤ c) = false → K (AV.v (PV.one (SV.cb true))) [])))))))) := by kernel_rfl
theorem nf6 (m a b c : Int) (K : KV) : call P G2 noAnn 100000 Try.f6 [I m, V a b c] [] K = (((!right m) = true → K (AV.tup [PV.agg [SV.con IntKind.i64 0, SV.con IntKind.i64 0, SV.con IntKind.i64 0, SV.con IntKind.i64 0], PV.one (SV.con IntKind.i64 1)]) []) ∧ ((!right m) = false → ((m = 0 → False) ∧ (m = 0 → False) ∧ (m = 0 → False) ∧ K (AV.tup [PV.agg [SV.sym IntKind.i64 m, SV.sym IntKind.i64 (modF a m), SV.sym IntKind.i64 (modF b m), SV.sym IntKind.i64 (modF c m)], PV.one (SV.con IntKind.i64 0)]) []) ∧ (m = 0 → False) ∧ (m = 0 → False) ∧ (m = 0 → False) ∧ K (AV.tup [PV.agg [SV.sym IntKind.i64 m, SV.sym IntKind.i64 (modF a m), SV.sym IntKind.i64 (modF b m), SV.sym IntKind.i64 (modF c m)], PV.one (SV.con IntKind.i64 0)]) [])) := by kernel_rfl
theorem nf50 (a b c d e f : Int) (K : KV) : call P G2 noAnn 100000 Try.f50 [V a b c, V d e f] [] K = (((24 : Int) = 0 → False) ∧ ((24 : Int) = 0 → False) ∧ ((24 : Int) = 0 → False) ∧ K (AV.v (PV.agg [SV.sym IntKind.i64 (modF (IntKind.i64.wrap (a.tmod 24 + d.tmod 24)) 24), SV.sym IntKind.i64 (modF (IntKind.i64.wrap (b.tmod 24 + e.tmod 24)) 24), SV.sym IntKind.i64 (modF (IntKind.i64.wrap (c.tmod 24 + f.tmod 24)) 24)])) []) := by kernel_rfl
theorem h47 : Holds P G2 47 q47 := by
  refine holds_ok (fn := Try.f47) (by kernel_rfl) (by kernel_rfl) fun args av hg => ?_
  unfold q47 at hg
  split at hg
  · split at hg
    · rename_i hx
      subst hx
      split at hg
      · rename_i hy
        subst hy
        rw [gives_ok hg]
        refine ⟨rfl, _, rfl, ?_⟩
        rw [nf47_0]
        exact ⟨rfl, rfl⟩
      · split at hg
        · rename_i hy
          subst hy
          rw [gives_ok hg]
          refine ⟨rfl, _, rfl, ?_⟩
          rw [nf47_1]
          exact ⟨rfl, rfl⟩
        · split at hg
          · rename_i hy
            subst hy
            rw [gives_ok hg]
            refine ⟨rfl, _, rfl, ?_⟩
            rw [nf47_2]
            exact ⟨rfl, rfl⟩
          · exact (gives_fail hg).elim
    · exact (gives_fail hg).elim
  · exact (gives_fail hg).elim
theorem h33 : Holds P G2 33 q33 := by
  refine holds_ok (fn := Try.f33) (by kernel_rfl) (by kernel_rfl) fun args av hg => ?_
  unfold q33 at hg
  split at hg
  · rw [gives_ok hg]
    refine ⟨rfl, _, rfl, ?_⟩
    rw [nf33]
    repeat' (first | apply leafI | apply And.intro | intro _)
    all_goals simp [over9, *]
  · exact (gives_fail hg).elim
theorem h7 : Holds P G2 7 q7 := by
  refine holds_ok (fn := Try.f7) (by kernel_rfl) (by kernel_rfl) fun args av hg => ?_
  unfold q7 at hg
  split at hg
  · rcases hg with hg | ⟨p, hg, hp⟩
    · cases hg
    · injection hg with h1 h2
      subst h2
      rw [← h1] at hp
      refine ⟨rfl, _, rfl, ?_⟩
      rw [nf7]
      exact ⟨hp, rfl, rfl⟩
  · exact (gives_fail hg).elim
theorem h25 : Holds P G2 25 q25 := by
  refine holds_ok (fn := Try.f25) (by kernel_rfl) (by kernel_rfl) fun args av hg => ?_
  unfold q25 at hg
  split at hg
  · rw [gives_ok hg]
    refine ⟨rfl, _, rfl, ?_⟩
    rw [nf25]
    repeat' (first | apply leafB | apply leafS | apply And.intro | intro _)
    all_goals simp_all [form, out]
  · exact (gives_fail hg).elim
theorem right_ne {m : Int} (h : right m = true) : m ≠ 0 := by
  rintro rfl
  simp [right] at h
theorem h6 : Holds P G2 6 q6 := by
  refine holds_ok (fn := Try.f6) (by kernel_rfl) (by kernel_rfl) fun args av hg => ?_
  unfold q6 at hg
  split at hg
  · rename_i m a b c
    rw [gives_ok hg]
    refine ⟨rfl, _, rfl, ?_⟩
    rw [nf6]
    cases hr : right m with
    | false => exact ⟨fun _ => ⟨rfl, rfl⟩, fun h => absurd h (by decide)⟩
    | true =>
      have hne := right_ne hr
      exact ⟨fun h => absurd h (by decide), fun _ => ⟨⟨hne, hne, hne, rfl, rfl⟩, hne, hne, hne, rfl, rfl⟩⟩
  · exact (gives_fail hg).elim
theorem h50 : Holds P G2 50 q50 := by
  refine holds_ok (fn := Try.f50) (by kernel_rfl) (by kernel_rfl) fun args av hg => ?_
  unfold q50 at hg
  split at hg
  · rw [gives_ok hg]
    refine ⟨rfl, _, rfl, ?_⟩
    rw [nf50]
    exact ⟨by decide, by decide, by decide, rfl, rfl⟩
  · exact (gives_fail hg).elim
def G3 : Sums := (((((G2.add 47 q47 [false, true, true]).add 33 q33).add 7 q7).add 25 q25).add 6 q6).add 50 q50
end Go.AM

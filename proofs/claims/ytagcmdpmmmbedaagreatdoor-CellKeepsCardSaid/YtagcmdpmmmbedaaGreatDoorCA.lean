import Derived.Test.YtagcmdpmmmbedaaGreatDoorCX
open Go Go.AM Go.Proofs
namespace Go.AM
abbrev I (n : Int) : AV := .v (.one (.sym .i64 n))
abbrev B (b : Bool) : AV := .v (.one (.sb b))
abbrev V (a b c : Int) : AV := .v (.agg [.sym .i64 a, .sym .i64 b, .sym .i64 c])
abbrev M (a b c d e f g h i : Int) : AV := .v (.agg [.sym .i64 a, .sym .i64 b, .sym .i64 c, .sym .i64 d, .sym .i64 e, .sym .i64 f, .sym .i64 g, .sym .i64 h, .sym .i64 i])
abbrev M6 (a b c d e f : Int) : AV := .v (.agg [.sym .i64 a, .sym .i64 b, .sym .i64 c, .sym .i64 d, .sym .i64 e, .sym .i64 f])
abbrev Pt (m a b c : Int) : AV := .v (.agg [.sym .i64 m, .sym .i64 a, .sym .i64 b, .sym .i64 c])
abbrev C (n : Int) : AV := .v (.one (.con .i64 n))
def modF (n m : Int) : Int := (IntKind.i64.wrap (n.tmod m + m)).tmod m
def qMod : PSpec
  | [.v (.one (.sym .i64 n)), .v (.one (.sym .i64 m))] => .iff (m ≠ 0) (I (modF n m))
  | _ => .fail
def beyond (x m : Int) : Bool := decide (x < IntKind.i64.wrap (0 - m)) || decide (m < x)
def right (m : Int) : Bool := decide (m = 24) || (decide (m = 48) || (decide (m = 96) || decide (m = 192)))
def qRight : PSpec
  | [.v (.one (.sym .i64 m))] => .ok (B (right m))
  | _ => .fail
def qBeyond3 : PSpec
  | [.v (.agg [.sym .i64 a, .sym .i64 b, .sym .i64 c]), .v (.one (.sym .i64 m))] => .ok (B (beyond a m || (beyond b m || beyond c m)))
  | _ => .fail
def G1 : Sums := ((G0.add 82 qMod).add 80 qRight).add 29 qBeyond3
theorem holds_ok {S : Sums} {f : Nat} {fn : Func} {q : PSpec} (hf : P.funcs[f]? = some fn) (hb : fn.body.isSome = true)
    (h : ∀ args av, (q args).gives av → noPtrs args = true ∧ ∃ v, av.valOf = some v ∧ call P S noAnn 100000 fn args [] (fun v' h => v'.valOf = some v ∧ h = [])) : Holds P S f q :=
  ⟨fn, hf, hb, fun args av hg => by
    obtain ⟨h1, v, h2, h3⟩ := h args av hg
    exact ⟨h1, v, 100000, noAnn, rfl, h2, h3⟩⟩
theorem leafB {b c : Bool} (h : b = true ↔ c = true) : (AV.v (.one (.cb b))).valOf = some (.bool c) ∧ ([] : Heap) = [] := by have h := Bool.eq_iff_iff.2 h; subst h; exact ⟨rfl, rfl⟩
theorem leafS {b c : Bool} (h : b = true ↔ c = true) : (AV.v (.one (.sb b))).valOf = some (.bool c) ∧ ([] : Heap) = [] := by have h := Bool.eq_iff_iff.2 h; subst h; exact ⟨rfl, rfl⟩
theorem nf19 (n m : Int) (K : KV) : call P G0 noAnn 100000 Tryz.f82 [I n, I m] [] K = ((m = 0 → False) ∧ (m = 0 → False) ∧ K (AV.v (PV.one (SV.sym IntKind.i64 ((IntKind.i64.wrap (n.tmod m + m)).tmod m)))) []) := by kernel_rfl
theorem nf16 (m : Int) (K : KV) : call P G0 noAnn 100000 Tryz.f80 [I m] [] K = ((decide (m = 24) = true → K (AV.v (PV.one (SV.cb true))) []) ∧ (decide (m = 24) = false → (decide (m = 48) = true → K (AV.v (PV.one (SV.cb true))) []) ∧ (decide (m = 48) = false → (decide (m = 96) = true → K (AV.v (PV.one (SV.cb true))) []) ∧ (decide (m = 96) = false → K (AV.v (PV.one (SV.sb (decide (m = 192))))) [])))) := by kernel_rfl
theorem nf27 (a b c m : Int) (K : KV) : call P G0 noAnn 100000 Tryz.f29 [V a b c, I m] [] K = ((decide (a < IntKind.i64.wrap (0 - m)) = true → K (AV.v (PV.one (SV.cb true))) []) ∧ (decide (a < IntKind.i64.wrap (0 - m)) = false → (decide (m < a) = true → K (AV.v (PV.one (SV.cb true))) []) ∧ (decide (m < a) = false → (decide (b < IntKind.i64.wrap (0 - m)) = true → K (AV.v (PV.one (SV.cb true))) []) ∧ (decide (b < IntKind.i64.wrap (0 - m)) = false → (decide (m < b) = true → K (AV.v (PV.one (SV.cb true))) []) ∧ (decide (m < b) = false → (decide (c < IntKind.i64.wrap (0 - m)) = true → K (AV.v (PV.one (SV.cb true))) []) ∧ (decide (c < IntKind.i64.wrap (0 - m)) = false → (decide (m < c) = true → K (AV.v (PV.one (SV.cb true))) []) ∧ (decide (m < c) = false → K (AV.v (PV.one (SV.cb false))) []))))))) := by kernel_rfl
theorem h19 : Holds P G0 82 qMod := by
  refine holds_ok (fn := Tryz.f82) (by kernel_rfl) (by kernel_rfl) fun args av h => ?_
  unfold qMod at h
  split at h
  · rename_i n m
    rcases h with h | ⟨p, h, hp⟩
    · cases h
    · injection h with h1 h2
      subst h2
      rw [← h1] at hp
      exact ⟨rfl, _, rfl, (nf19 n m _).mpr ⟨hp, hp, rfl, rfl⟩⟩
  · exact (gives_fail h).elim
theorem h16 : Holds P G0 80 qRight := by
  refine holds_ok (fn := Tryz.f80) (by kernel_rfl) (by kernel_rfl) fun args av h => ?_
  unfold qRight at h
  split at h
  · rename_i m
    rw [gives_ok h]
    refine ⟨rfl, _, rfl, ?_⟩
    rw [nf16 m]
    repeat' (first | apply leafB | apply leafS | apply And.intro | intro _)
    all_goals
      simp only [decide_eq_true_eq, decide_eq_false_iff_not] at *
      simp only [right, Bool.or_eq_true, decide_eq_true_eq, true_iff, Bool.false_eq_true, false_iff]
      omega
  · exact (gives_fail h).elim
theorem h27 : Holds P G0 29 qBeyond3 := by
  refine holds_ok (fn := Tryz.f29) (by kernel_rfl) (by kernel_rfl) fun args av h => ?_
  unfold qBeyond3 at h
  split at h
  · rename_i a b c m
    rw [gives_ok h]
    refine ⟨rfl, _, rfl, ?_⟩
    rw [nf27 a b c m]
    repeat' (first | apply leafB | apply leafS | apply And.intro | intro _)
    all_goals
      simp only [decide_eq_true_eq, decide_eq_false_iff_not] at *
      simp only [beyond, Bool.or_eq_true, decide_eq_true_eq, true_iff, Bool.false_eq_true, false_iff]
      omega
  · exact (gives_fail h).elim

def q35 : PSpec
  | [.v (.agg [.sym .i64 a, .sym .i64 b, .sym .i64 c, .sym .i64 d, .sym .i64 e, .sym .i64 f])] => .ok (AV.v (PV.one (SV.sym IntKind.i64 (IntKind.i64.wrap (IntKind.i64.wrap (IntKind.i64.wrap (IntKind.i64.wrap (IntKind.i64.wrap (IntKind.i64.wrap (a * b) * c) + IntKind.i64.wrap (IntKind.i64.wrap (IntKind.i64.wrap (2 * d) * e) * f)) - IntKind.i64.wrap (IntKind.i64.wrap (a * d) * d)) - IntKind.i64.wrap (IntKind.i64.wrap (b * e) * e)) - IntKind.i64.wrap (IntKind.i64.wrap (c * f) * f))))))
  | _ => .fail
theorem nf35 (a b c d e f : Int) (K : KV) : call P G1 noAnn 100000 Tryz.f32 [M6 a b c d e f] [] K = (K (AV.v (PV.one (SV.sym IntKind.i64 (IntKind.i64.wrap (IntKind.i64.wrap (IntKind.i64.wrap (IntKind.i64.wrap (IntKind.i64.wrap (IntKind.i64.wrap (a * b) * c) + IntKind.i64.wrap (IntKind.i64.wrap (IntKind.i64.wrap (2 * d) * e) * f)) - IntKind.i64.wrap (IntKind.i64.wrap (a * d) * d)) - IntKind.i64.wrap (IntKind.i64.wrap (b * e) * e)) - IntKind.i64.wrap (IntKind.i64.wrap (c * f) * f)))))) []) := by kernel_rfl
theorem h35 : Holds P G1 32 q35 := by
  refine holds_ok (fn := Tryz.f32) (by kernel_rfl) (by kernel_rfl) fun args av h => ?_
  unfold q35 at h
  split at h
  · rw [gives_ok h]
    refine ⟨rfl, _, rfl, ?_⟩
    rw [nf35]
    exact ⟨rfl, rfl⟩
  · exact (gives_fail h).elim
def q21 : PSpec
  | [.v (.agg [.sym .i64 a, .sym .i64 b, .sym .i64 c, .sym .i64 d, .sym .i64 e, .sym .i64 f])] => .ok (AV.v (PV.agg [SV.sym IntKind.i64 a, SV.sym IntKind.i64 f, SV.sym IntKind.i64 e, SV.sym IntKind.i64 f, SV.sym IntKind.i64 b, SV.sym IntKind.i64 d, SV.sym IntKind.i64 e, SV.sym IntKind.i64 d, SV.sym IntKind.i64 c]))
  | _ => .fail
theorem nf21 (a b c d e f : Int) (K : KV) : call P G1 noAnn 100000 Tryz.f21 [M6 a b c d e f] [] K = (K (AV.v (PV.agg [SV.sym IntKind.i64 a, SV.sym IntKind.i64 f, SV.sym IntKind.i64 e, SV.sym IntKind.i64 f, SV.sym IntKind.i64 b, SV.sym IntKind.i64 d, SV.sym IntKind.i64 e, SV.sym IntKind.i64 d, SV.sym IntKind.i64 c])) []) := by kernel_rfl
theorem h21 : Holds P G1 21 q21 := by
  refine holds_ok (fn := Tryz.f21) (by kernel_rfl) (by kernel_rfl) fun args av h => ?_
  unfold q21 at h
  split at h
  · rw [gives_ok h]
    refine ⟨rfl, _, rfl, ?_⟩
    rw [nf21]
    exact ⟨rfl, rfl⟩
  · exact (gives_fail h).elim
def q22 : PSpec
  | [.v (.agg [.sym .i64 a, .sym .i64 b, .sym .i64 c, .sym .i64 d, .sym .i64 e, .sym .i64 f, .sym .i64 g, .sym .i64 h, .sym .i64 i]), .v (.agg [.sym .i64 u1, .sym .i64 u2, .sym .i64 u3]), .v (.agg [.sym .i64 v1, .sym .i64 v2, .sym .i64 v3])] => .ok (AV.v (PV.one (SV.sym IntKind.i64 (IntKind.i64.wrap (IntKind.i64.wrap (IntKind.i64.wrap (IntKind.i64.wrap (IntKind.i64.wrap (IntKind.i64.wrap (IntKind.i64.wrap (IntKind.i64.wrap (IntKind.i64.wrap (0 + IntKind.i64.wrap (IntKind.i64.wrap (u1 * a) * v1)) + IntKind.i64.wrap (IntKind.i64.wrap (u1 * b) * v2)) + IntKind.i64.wrap (IntKind.i64.wrap (u1 * c) * v3)) + IntKind.i64.wrap (IntKind.i64.wrap (u2 * d) * v1)) + IntKind.i64.wrap (IntKind.i64.wrap (u2 * e) * v2)) + IntKind.i64.wrap (IntKind.i64.wrap (u2 * f) * v3)) + IntKind.i64.wrap (IntKind.i64.wrap (u3 * g) * v1)) + IntKind.i64.wrap (IntKind.i64.wrap (u3 * h) * v2)) + IntKind.i64.wrap (IntKind.i64.wrap (u3 * i) * v3))))))
  | _ => .fail
theorem nf22 (a b c d e f g h i u1 u2 u3 v1 v2 v3 : Int) (K : KV) : call P G1 noAnn 100000 Tryz.f23 [M a b c d e f g h i, V u1 u2 u3, V v1 v2 v3] [] K = (K (AV.v (PV.one (SV.sym IntKind.i64 (IntKind.i64.wrap (IntKind.i64.wrap (IntKind.i64.wrap (IntKind.i64.wrap (IntKind.i64.wrap (IntKind.i64.wrap (IntKind.i64.wrap (IntKind.i64.wrap (IntKind.i64.wrap (0 + IntKind.i64.wrap (IntKind.i64.wrap (u1 * a) * v1)) + IntKind.i64.wrap (IntKind.i64.wrap (u1 * b) * v2)) + IntKind.i64.wrap (IntKind.i64.wrap (u1 * c) * v3)) + IntKind.i64.wrap (IntKind.i64.wrap (u2 * d) * v1)) + IntKind.i64.wrap (IntKind.i64.wrap (u2 * e) * v2)) + IntKind.i64.wrap (IntKind.i64.wrap (u2 * f) * v3)) + IntKind.i64.wrap (IntKind.i64.wrap (u3 * g) * v1)) + IntKind.i64.wrap (IntKind.i64.wrap (u3 * h) * v2)) + IntKind.i64.wrap (IntKind.i64.wrap (u3 * i) * v3)))))) []) := by kernel_rfl
theorem h22 : Holds P G1 23 q22 := by
  refine holds_ok (fn := Tryz.f23) (by kernel_rfl) (by kernel_rfl) fun args av h => ?_
  unfold q22 at h
  split at h
  · rw [gives_ok h]
    refine ⟨rfl, _, rfl, ?_⟩
    rw [nf22]
    exact ⟨rfl, rfl⟩
  · exact (gives_fail h).elim
def G2 : Sums := ((G1.add 32 q35).add 21 q21).add 23 q22
theorem leafI {k : IntKind} {n m : Int} (h : n = m) : (AV.v (.one (.con k n))).valOf = some (.int k m) ∧ ([] : Heap) = [] := by subst h; exact ⟨rfl, rfl⟩
def q6 : PSpec
  | [.v (.one (.sym .i64 m)), .v (.agg [.sym .i64 a, .sym .i64 b, .sym .i64 c])] => .ok (.tup [.agg [.sym .i64 (if right m then m else 0), .sym .i64 (if right m then modF a m else 0), .sym .i64 (if right m then modF b m else 0), .sym .i64 (if right m then modF c m else 0)], .one (.sym .i64 (if right m then 0 else 1))])
  | _ => .fail
def out (m a : Int) : Bool := decide (a < 0) || decide (m ≤ a)
def form (m a b c : Int) : Bool := right m && !(out m a || (out m b || out m c))
def q25 : PSpec
  | [.v (.agg [.sym .i64 m, .sym .i64 a, .sym .i64 b, .sym .i64 c])] => .ok (B (form m a b c))
  | _ => .fail
theorem nf6 (m a b c : Int) (K : KV) : call P G2 noAnn 100000 Tryz.f54 [I m, V a b c] [] K = (((!right m) = true → K (AV.tup [PV.agg [SV.con IntKind.i64 0, SV.con IntKind.i64 0, SV.con IntKind.i64 0, SV.con IntKind.i64 0], PV.one (SV.con IntKind.i64 1)]) []) ∧ ((!right m) = false → ((m = 0 → False) ∧ (m = 0 → False) ∧ (m = 0 → False) ∧ K (AV.tup [PV.agg [SV.sym IntKind.i64 m, SV.sym IntKind.i64 (modF a m), SV.sym IntKind.i64 (modF b m), SV.sym IntKind.i64 (modF c m)], PV.one (SV.con IntKind.i64 0)]) []) ∧ (m = 0 → False) ∧ (m = 0 → False) ∧ (m = 0 → False) ∧ K (AV.tup [PV.agg [SV.sym IntKind.i64 m, SV.sym IntKind.i64 (modF a m), SV.sym IntKind.i64 (modF b m), SV.sym IntKind.i64 (modF c m)], PV.one (SV.con IntKind.i64 0)]) [])) := by kernel_rfl
theorem nf25 (m a b c : Int) (K : KV) : call P G2 noAnn 100000 Tryz.f53 [Pt m a b c] [] K = (((!right m) = true → K (AV.v (PV.one (SV.cb false))) []) ∧ ((!right m) = false → (decide (a < 0) = true → K (AV.v (PV.one (SV.cb false))) []) ∧ (decide (a < 0) = false → (decide (m ≤ a) = true → K (AV.v (PV.one (SV.cb false))) []) ∧ (decide (m ≤ a) = false → (decide (b < 0) = true → K (AV.v (PV.one (SV.cb false))) []) ∧ (decide (b < 0) = false → (decide (m ≤ b) = true → K (AV.v (PV.one (SV.cb false))) []) ∧ (decide (m ≤ b) = false → (decide (c < 0) = true → K (AV.v (PV.one (SV.cb false))) []) ∧ (decide (c < 0) = false → (decide (m ≤ c) = true → K (AV.v (PV.one (SV.cb false))) []) ∧ (decide (m ≤ c) = false → K (AV.v (PV.one (SV.cb true))) [])))))))) := by kernel_rfl
theorem h25 : Holds P G2 53 q25 := by
  refine holds_ok (fn := Tryz.f53) (by kernel_rfl) (by kernel_rfl) fun args av hg => ?_
  unfold q25 at hg
  split at hg
  · rw [gives_ok hg]
    refine ⟨rfl, _, rfl, ?_⟩
    rw [nf25]
    repeat' (first | apply leafB | apply leafS | apply And.intro | intro _)
    all_goals simp_all [form, out]
  · exact (gives_fail hg).elim
theorem right_ne {m : Int} (h : right m = true) : m ≠ 0 := by
  rintro rfl
  simp [right] at h
theorem h6 : Holds P G2 54 q6 := by
  refine holds_ok (fn := Tryz.f54) (by kernel_rfl) (by kernel_rfl) fun args av hg => ?_
  unfold q6 at hg
  split at hg
  · rename_i m a b c
    rw [gives_ok hg]
    refine ⟨rfl, _, rfl, ?_⟩
    rw [nf6]
    cases hr : right m with
    | false => exact ⟨fun _ => ⟨rfl, rfl⟩, fun h => absurd h (by decide)⟩
    | true =>
      have hne := right_ne hr
      exact ⟨fun h => absurd h (by decide), fun _ => ⟨⟨hne, hne, hne, rfl, rfl⟩, hne, hne, hne, rfl, rfl⟩⟩
  · exact (gives_fail hg).elim
def G3 : Sums := (G2.add 53 q25).add 54 q6
def far (x : Int) : Bool := decide (x < -100000) || decide (100000 < x)
def low (x : Int) : Bool := decide (x < 1) || decide (100000 < x)
def detG (a b c d e f : Int) : Int := IntKind.i64.wrap (IntKind.i64.wrap (IntKind.i64.wrap (IntKind.i64.wrap (IntKind.i64.wrap (IntKind.i64.wrap (a * b) * c) + IntKind.i64.wrap (IntKind.i64.wrap (IntKind.i64.wrap (2 * d) * e) * f)) - IntKind.i64.wrap (IntKind.i64.wrap (a * d) * d)) - IntKind.i64.wrap (IntKind.i64.wrap (b * e) * e)) - IntKind.i64.wrap (IntKind.i64.wrap (c * f) * f))
def checkC (a b c d e f : Int) : Int :=
  if low a || (low b || (low c || (far d || (far e || far f)))) then 1
  else if decide (IntKind.i64.wrap (IntKind.i64.wrap (a * b) - IntKind.i64.wrap (f * f)) ≤ 0) || decide (detG a b c d e f ≤ 0) then 3 else 0
def q20 : PSpec
  | [.v (.agg [.sym .i64 a, .sym .i64 b, .sym .i64 c, .sym .i64 d, .sym .i64 e, .sym .i64 f])] => .ok (I (checkC a b c d e f))
  | _ => .fail
def bad10 (m a b c n d e f : Int) : Int := if form m a b c && form n d e f then (if m = n then 0 else 6) else 3
def q10 : PSpec
  | [.v (.agg [.sym .i64 m, .sym .i64 a, .sym .i64 b, .sym .i64 c]), .v (.agg [.sym .i64 n, .sym .i64 d, .sym .i64 e, .sym .i64 f])] =>
    .ok (.tup [.agg [.sym .i64 (if bad10 m a b c n d e f = 0 then m else 0), .sym .i64 (if bad10 m a b c n d e f = 0 then modF (IntKind.i64.wrap (a - d)) m else 0), .sym .i64 (if bad10 m a b c n d e f = 0 then modF (IntKind.i64.wrap (b - e)) m else 0), .sym .i64 (if bad10 m a b c n d e f = 0 then modF (IntKind.i64.wrap (c - f)) m else 0)], .one (.sym .i64 (bad10 m a b c n d e f))])
  | _ => .fail
theorem nf20 (a b c d e f : Int) (K : KV) : call P G3 noAnn 100000 Tryz.f19 [M6 a b c d e f] [] K = ((decide (a < (1 : Int)) = true → K (AV.v (PV.one (SV.con IntKind.i64 (1 : Int)))) []) ∧ (decide (a < (1 : Int)) = false → (decide ((100000 : Int) < a) = true → K (AV.v (PV.one (SV.con IntKind.i64 (1 : Int)))) []) ∧ (decide ((100000 : Int) < a) = false → (decide (b < (1 : Int)) = true → K (AV.v (PV.one (SV.con IntKind.i64 (1 : Int)))) []) ∧ (decide (b < (1 : Int)) = false → (decide ((100000 : Int) < b) = true → K (AV.v (PV.one (SV.con IntKind.i64 (1 : Int)))) []) ∧ (decide ((100000 : Int) < b) = false → (decide (c < (1 : Int)) = true → K (AV.v (PV.one (SV.con IntKind.i64 (1 : Int)))) []) ∧ (decide (c < (1 : Int)) = false → (decide ((100000 : Int) < c) = true → K (AV.v (PV.one (SV.con IntKind.i64 (1 : Int)))) []) ∧ (decide ((100000 : Int) < c) = false → (decide (d < (-100000 : Int)) = true → K (AV.v (PV.one (SV.con IntKind.i64 (1 : Int)))) []) ∧ (decide (d < (-100000 : Int)) = false → (decide ((100000 : Int) < d) = true → K (AV.v (PV.one (SV.con IntKind.i64 (1 : Int)))) []) ∧ (decide ((100000 : Int) < d) = false → (decide (e < (-100000 : Int)) = true → K (AV.v (PV.one (SV.con IntKind.i64 (1 : Int)))) []) ∧ (decide (e < (-100000 : Int)) = false → (decide ((100000 : Int) < e) = true → K (AV.v (PV.one (SV.con IntKind.i64 (1 : Int)))) []) ∧ (decide ((100000 : Int) < e) = false → (decide (f < (-100000 : Int)) = true → K (AV.v (PV.one (SV.con IntKind.i64 (1 : Int)))) []) ∧ (decide (f < (-100000 : Int)) = false → (decide ((100000 : Int) < f) = true → K (AV.v (PV.one (SV.con IntKind.i64 (1 : Int)))) []) ∧ (decide ((100000 : Int) < f) = false → (decide (IntKind.i64.wrap (IntKind.i64.wrap (a * b) - IntKind.i64.wrap (f * f)) ≤ (0 : Int)) = true → K (AV.v (PV.one (SV.con IntKind.i64 (3 : Int)))) []) ∧ (decide (IntKind.i64.wrap (IntKind.i64.wrap (a * b) - IntKind.i64.wrap (f * f)) ≤ (0 : Int)) = false → (decide (IntKind.i64.wrap (IntKind.i64.wrap (IntKind.i64.wrap (IntKind.i64.wrap (IntKind.i64.wrap (IntKind.i64.wrap (a * b) * c) + IntKind.i64.wrap (IntKind.i64.wrap (IntKind.i64.wrap ((2 : Int) * d) * e) * f)) - IntKind.i64.wrap (IntKind.i64.wrap (a * d) * d)) - IntKind.i64.wrap (IntKind.i64.wrap (b * e) * e)) - IntKind.i64.wrap (IntKind.i64.wrap (c * f) * f)) ≤ (0 : Int)) = true → K (AV.v (PV.one (SV.con IntKind.i64 (3 : Int)))) []) ∧ (decide (IntKind.i64.wrap (IntKind.i64.wrap (IntKind.i64.wrap (IntKind.i64.wrap (IntKind.i64.wrap (IntKind.i64.wrap (a * b) * c) + IntKind.i64.wrap (IntKind.i64.wrap (IntKind.i64.wrap ((2 : Int) * d) * e) * f)) - IntKind.i64.wrap (IntKind.i64.wrap (a * d) * d)) - IntKind.i64.wrap (IntKind.i64.wrap (b * e) * e)) - IntKind.i64.wrap (IntKind.i64.wrap (c * f) * f)) ≤ (0 : Int)) = false → K (AV.v (PV.one (SV.con IntKind.i64 (0 : Int)))) []))))))))))))))) := by kernel_rfl
theorem nf10 (m a b c n d e f : Int) (K : KV) : call P G3 noAnn 100000 Tryz.f35 [Pt m a b c, Pt n d e f] [] K = (((!form m a b c) = true → K (AV.tup [PV.agg [SV.con IntKind.i64 (0 : Int), SV.con IntKind.i64 (0 : Int), SV.con IntKind.i64 (0 : Int), SV.con IntKind.i64 (0 : Int)], PV.one (SV.con IntKind.i64 (3 : Int))]) []) ∧ ((!form m a b c) = false → ((!form n d e f) = true → K (AV.tup [PV.agg [SV.con IntKind.i64 (0 : Int), SV.con IntKind.i64 (0 : Int), SV.con IntKind.i64 (0 : Int), SV.con IntKind.i64 (0 : Int)], PV.one (SV.con IntKind.i64 (3 : Int))]) []) ∧ ((!form n d e f) = false → ((!decide (m = n)) = true → K (AV.tup [PV.agg [SV.con IntKind.i64 (0 : Int), SV.con IntKind.i64 (0 : Int), SV.con IntKind.i64 (0 : Int), SV.con IntKind.i64 (0 : Int)], PV.one (SV.con IntKind.i64 (6 : Int))]) []) ∧ ((!decide (m = n)) = false → K (AV.tup [PV.agg [SV.sym IntKind.i64 (if right m = true then m else (0 : Int)), SV.sym IntKind.i64 (if right m = true then modF (IntKind.i64.wrap (a - d)) m else (0 : Int)), SV.sym IntKind.i64 (if right m = true then modF (IntKind.i64.wrap (b - e)) m else (0 : Int)), SV.sym IntKind.i64 (if right m = true then modF (IntKind.i64.wrap (c - f)) m else (0 : Int))], PV.one (SV.sym IntKind.i64 (if right m = true then (0 : Int) else (1 : Int)))]) [] ∧ K (AV.tup [PV.agg [SV.sym IntKind.i64 (if right m = true then m else (0 : Int)), SV.sym IntKind.i64 (if right m = true then modF (IntKind.i64.wrap (a - d)) m else (0 : Int)), SV.sym IntKind.i64 (if right m = true then modF (IntKind.i64.wrap (b - e)) m else (0 : Int)), SV.sym IntKind.i64 (if right m = true then modF (IntKind.i64.wrap (c - f)) m else (0 : Int))], PV.one (SV.sym IntKind.i64 (if right m = true then (0 : Int) else (1 : Int)))]) [])))) := by kernel_rfl
theorem h20 : Holds P G3 19 q20 := by
  refine holds_ok (fn := Tryz.f19) (by kernel_rfl) (by kernel_rfl) fun args av hg => ?_
  unfold q20 at hg
  split at hg
  · rename_i a b c d e f
    rw [gives_ok hg]
    refine ⟨rfl, (.int .i64 (checkC a b c d e f)), rfl, ?_⟩
    rw [nf20]
    unfold checkC low far
    rw [show (IntKind.i64.wrap (IntKind.i64.wrap (IntKind.i64.wrap (IntKind.i64.wrap (IntKind.i64.wrap (IntKind.i64.wrap (a * b) * c) + IntKind.i64.wrap (IntKind.i64.wrap (IntKind.i64.wrap (2 * d) * e) * f)) - IntKind.i64.wrap (IntKind.i64.wrap (a * d) * d)) - IntKind.i64.wrap (IntKind.i64.wrap (b * e) * e)) - IntKind.i64.wrap (IntKind.i64.wrap (c * f) * f))) = detG a b c d e f from rfl]
    generalize decide (a < 1) = x1
    generalize decide (100000 < a) = x2
    generalize decide (b < 1) = x3
    generalize decide (100000 < b) = x4
    generalize decide (c < 1) = x5
    generalize decide (100000 < c) = x6
    generalize decide (d < -100000) = x7
    generalize decide (100000 < d) = x8
    generalize decide (e < -100000) = x9
    generalize decide (100000 < e) = x10
    generalize decide (f < -100000) = x11
    generalize decide (100000 < f) = x12
    generalize decide (IntKind.i64.wrap (IntKind.i64.wrap (a * b) - IntKind.i64.wrap (f * f)) ≤ 0) = x13
    generalize decide (detG a b c d e f ≤ 0) = x14
    repeat' (first | apply leafI | apply And.intro | (intro h; subst h))
    all_goals (first | rfl | simp)
  · exact (gives_fail hg).elim
theorem h10 : Holds P G3 35 q10 := by
  refine holds_ok (fn := Tryz.f35) (by kernel_rfl) (by kernel_rfl) fun args av hg => ?_
  unfold q10 at hg
  split at hg
  · rename_i m a b c n d e f
    rw [gives_ok hg]
    refine ⟨rfl, _, rfl, ?_⟩
    rw [nf10]
    cases h1 : form m a b c with
    | false => exact ⟨fun _ => by simp only [bad10, h1, Bool.false_and, Bool.false_eq_true, if_false]; exact ⟨rfl, trivial⟩, fun h => absurd h (by decide)⟩
    | true =>
      cases h2 : form n d e f with
      | false => exact ⟨fun h => absurd h (by decide), fun _ => ⟨fun _ => by simp only [bad10, h1, h2, Bool.and_false, Bool.false_eq_true, if_false]; exact ⟨rfl, trivial⟩, fun h => absurd h (by decide)⟩⟩
      | true =>
        have hr : right m = true := by simp [form] at h1; exact h1.1
        by_cases h3 : m = n
        · subst h3
          refine ⟨fun h => absurd h (by decide), fun _ => ⟨fun h => absurd h (by decide), fun _ => ⟨fun h => by simp at h, fun _ => ⟨?_, ?_⟩⟩⟩⟩
          all_goals
            simp only [bad10, h1, h2, hr, Bool.and_self, if_true]
            exact ⟨rfl, trivial⟩
        · refine ⟨fun h => absurd h (by decide), fun _ => ⟨fun h => absurd h (by decide), fun _ => ⟨fun _ => ?_, fun h => by simp [h3] at h⟩⟩⟩
          simp only [bad10, h1, h2, h3, Bool.and_self, if_true, if_false]
          exact ⟨rfl, trivial⟩
  · exact (gives_fail hg).elim
def G4 : Sums := (G3.add 19 q20).add 35 q10
/-- what the checks give where nothing is amiss -/
def q20k : PSpec
  | [.v (.agg [.sym .i64 a, .sym .i64 b, .sym .i64 c, .sym .i64 d, .sym .i64 e, .sym .i64 f])] => .iff (checkC a b c d e f = 0) (C 0)
  | _ => .fail
def q10k : PSpec
  | [.v (.agg [.sym .i64 m, .sym .i64 a, .sym .i64 b, .sym .i64 c]), .v (.agg [.sym .i64 n, .sym .i64 d, .sym .i64 e, .sym .i64 f])] =>
    .iff (bad10 m a b c n d e f = 0) (.tup [.agg [.sym .i64 m, .sym .i64 (modF (IntKind.i64.wrap (a - d)) m), .sym .i64 (modF (IntKind.i64.wrap (b - e)) m), .sym .i64 (modF (IntKind.i64.wrap (c - f)) m)], .one (.con .i64 0)])
  | _ => .fail
theorem Holds.weaken {S : Sums} {f : Nat} {q q' : PSpec} (h : Holds P S f q) (hq : ∀ args av, (q' args).gives av → ∃ av', (q args).gives av' ∧ av'.valOf = av.valOf) : Holds P S f q' := by
  obtain ⟨fn, h1, h2, h3⟩ := h
  refine ⟨fn, h1, h2, fun args av hg => ?_⟩
  obtain ⟨av', h4, h5⟩ := hq args av hg
  rw [← h5]
  exact h3 args av' h4
theorem gives_iff {p : Prop} {v av : AV} (h : (OR.iff p v).gives av) : p ∧ av = v := by
  rcases h with h | ⟨p, h, hp⟩
  · cases h
  · injection h with h1 h2
    subst h2
    exact ⟨h1 ▸ hp, rfl⟩
theorem h20k : Holds P G3 19 q20k := h20.weaken fun args av hg => by
  unfold q20k at hg
  split at hg
  · obtain ⟨hp, rfl⟩ := gives_iff hg
    exact ⟨_, .inl rfl, by rw [hp]; rfl⟩
  · exact (gives_fail hg).elim
theorem h10k : Holds P G3 35 q10k := h10.weaken fun args av hg => by
  unfold q10k at hg
  split at hg
  · obtain ⟨hp, rfl⟩ := gives_iff hg
    exact ⟨_, .inl rfl, by simp only [hp, if_true]; rfl⟩
  · exact (gives_fail hg).elim
def G7 : Sums := (G4.add 19 q20k).add 35 q10k
end Go.AM

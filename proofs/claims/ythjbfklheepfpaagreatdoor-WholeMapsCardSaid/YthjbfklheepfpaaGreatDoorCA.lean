import Derived.Test.YthjbfklheepfpaaGreatDoorCX
set_option linter.unusedVariables false
set_option linter.unusedSimpArgs false
set_option maxHeartbeats 4000000
open Go Go.AM Go.Proofs
namespace Go.AM
abbrev I (n : Int) : AV := .v (.one (.sym .i64 n))
abbrev B (b : Bool) : AV := .v (.one (.sb b))
abbrev V (a b c : Int) : AV := .v (.agg [.sym .i64 a, .sym .i64 b, .sym .i64 c])
abbrev M (a b c d e f g h i : Int) : AV := .v (.agg [.sym .i64 a, .sym .i64 b, .sym .i64 c, .sym .i64 d, .sym .i64 e, .sym .i64 f, .sym .i64 g, .sym .i64 h, .sym .i64 i])
abbrev Pt (m a b c : Int) : AV := .v (.agg [.sym .i64 m, .sym .i64 a, .sym .i64 b, .sym .i64 c])
abbrev C (n : Int) : AV := .v (.one (.con .i64 n))
def modF (n m : Int) : Int := (IntKind.i64.wrap (n.tmod m + m)).tmod m
def qMod : PSpec
  | [.v (.one (.sym .i64 n)), .v (.one (.sym .i64 m))] => .iff (m ≠ 0) (I (modF n m))
  | _ => .fail
def beyond (x m : Int) : Bool := decide (x < IntKind.i64.wrap (0 - m)) || decide (m < x)
def right (m : Int) : Bool := decide (m = 24) || (decide (m = 48) || (decide (m = 96) || decide (m = 192)))
def qRight : PSpec
  | [.v (.one (.sym .i64 m))] => .ok (B (right m))
  | _ => .fail
def G1 : Sums := ((G0.add 22 qMod).add 19 qRight)
theorem holds_ok {S : Sums} {f : Nat} {fn : Func} {q : PSpec} (hf : P.funcs[f]? = some fn) (hb : fn.body.isSome = true)
    (h : ∀ args av, (q args).gives av → noPtrs args = true ∧ ∃ v, av.valOf = some v ∧ call P S noAnn 100000 fn args [] (fun v' h => v'.valOf = some v ∧ h = [])) : Holds P S f q :=
  ⟨fn, hf, hb, fun args av hg => by
    obtain ⟨h1, v, h2, h3⟩ := h args av hg
    exact ⟨h1, v, 100000, noAnn, rfl, h2, h3⟩⟩
theorem leafB {b c : Bool} (h : b = true ↔ c = true) : (AV.v (.one (.cb b))).valOf = some (.bool c) ∧ ([] : Heap) = [] := by have h := Bool.eq_iff_iff.2 h; subst h; exact ⟨rfl, rfl⟩
theorem leafS {b c : Bool} (h : b = true ↔ c = true) : (AV.v (.one (.sb b))).valOf = some (.bool c) ∧ ([] : Heap) = [] := by have h := Bool.eq_iff_iff.2 h; subst h; exact ⟨rfl, rfl⟩
theorem nf19 (n m : Int) (K : KV) : call P G0 noAnn 100000 Tryz.f22 [I n, I m] [] K = ((m = 0 → False) ∧ (m = 0 → False) ∧ K (AV.v (PV.one (SV.sym IntKind.i64 ((IntKind.i64.wrap (n.tmod m + m)).tmod m)))) []) := by kernel_rfl
theorem nf16 (m : Int) (K : KV) : call P G0 noAnn 100000 Tryz.f19 [I m] [] K = ((decide (m=24)=true->K (.v (.one (.cb true))) [])/\(decide (m=24)=false->(decide (m=48)=true->K (.v (.one (.cb true))) [])/\(decide (m=48)=false->(decide (m=96)=true->K (.v (.one (.cb true))) [])/\(decide (m=96)=false->K (.v (.one (.sb (decide (m=192))))) [])))) := by kernel_rfl
theorem h19 : Holds P G0 22 qMod := by
  refine holds_ok (fn := Tryz.f22) (by kernel_rfl) (by kernel_rfl) fun args av h => ?_
  unfold qMod at h
  split at h
  · rename_i n m
    rcases h with h | ⟨p, h, hp⟩
    · cases h
    · injection h with h1 h2
      subst h2
      rw [← h1] at hp
      exact ⟨rfl, _, rfl, (nf19 n m _).mpr ⟨hp, hp, rfl, rfl⟩⟩
  · exact (gives_fail h).elim
theorem h16 : Holds P G0 19 qRight := by
  refine holds_ok (fn := Tryz.f19) (by kernel_rfl) (by kernel_rfl) fun args av h => ?_
  unfold qRight at h
  split at h
  · rename_i m
    rw [gives_ok h]
    refine ⟨rfl, _, rfl, ?_⟩
    rw [nf16 m]
    repeat' (first | apply leafB | apply leafS | apply And.intro | intro _)
    all_goals
      simp only [decide_eq_true_eq, decide_eq_false_iff_not] at *
      simp only [right, Bool.or_eq_true, decide_eq_true_eq, true_iff, Bool.false_eq_true, false_iff]
      omega
  · exact (gives_fail h).elim
def G2 : Sums := ((G1))
theorem leafI {k : IntKind} {n m : Int} (h : n = m) : (AV.v (.one (.con k n))).valOf = some (.int k m) ∧ ([] : Heap) = [] := by subst h; exact ⟨rfl, rfl⟩
def q6 : PSpec
  | [.v (.one (.sym .i64 m)), .v (.agg [.sym .i64 a, .sym .i64 b, .sym .i64 c])] => .ok (.tup [.agg [.sym .i64 (if right m then m else 0), .sym .i64 (if right m then modF a m else 0), .sym .i64 (if right m then modF b m else 0), .sym .i64 (if right m then modF c m else 0)], .one (.sym .i64 (if right m then 0 else 1))])
  | _ => .fail
def out (m a : Int) : Bool := decide (a < 0) || decide (m ≤ a)
def form (m a b c : Int) : Bool := right m && !(out m a || (out m b || out m c))
def q25 : PSpec
  | [.v (.agg [.sym .i64 m, .sym .i64 a, .sym .i64 b, .sym .i64 c])] => .ok (B (form m a b c))
  | _ => .fail
theorem nf6 (m a b c : Int) (K : KV) : call P G2 noAnn 100000 Tryz.f5 [I m, V a b c] [] K = (((!right m)=true->K (.tup [.agg [.con .i64 0,.con .i64 0,.con .i64 0,.con .i64 0],.one (.con .i64 1)]) [])/\((!right m)=false->((m=0->False)/\(m=0->False)/\(m=0->False)/\K (.tup [.agg [.sym .i64 m,.sym .i64 (modF a m),.sym .i64 (modF b m),.sym .i64 (modF c m)],.one (.con .i64 0)]) [])/\(m=0->False)/\(m=0->False)/\(m=0->False)/\K (.tup [.agg [.sym .i64 m,.sym .i64 (modF a m),.sym .i64 (modF b m),.sym .i64 (modF c m)],.one (.con .i64 0)]) [])) := by kernel_rfl
theorem nf25 (m a b c : Int) (K : KV) : call P G2 noAnn 100000 Tryz.f26 [Pt m a b c] [] K = (((!right m)=true->K (.v (.one (.cb false))) [])/\((!right m)=false->(decide (a<0)=true->K (.v (.one (.cb false))) [])/\(decide (a<0)=false->(decide (m<=a)=true->K (.v (.one (.cb false))) [])/\(decide (m<=a)=false->(decide (b<0)=true->K (.v (.one (.cb false))) [])/\(decide (b<0)=false->(decide (m<=b)=true->K (.v (.one (.cb false))) [])/\(decide (m<=b)=false->(decide (c<0)=true->K (.v (.one (.cb false))) [])/\(decide (c<0)=false->(decide (m<=c)=true->K (.v (.one (.cb false))) [])/\(decide (m<=c)=false->K (.v (.one (.cb true))) [])))))))) := by kernel_rfl
theorem h25 : Holds P G2 26 q25 := by
  refine holds_ok (fn := Tryz.f26) (by kernel_rfl) (by kernel_rfl) fun args av hg => ?_
  unfold q25 at hg
  split at hg
  · rw [gives_ok hg]
    refine ⟨rfl, _, rfl, ?_⟩
    rw [nf25]
    repeat' (first | apply leafB | apply leafS | apply And.intro | intro _)
    all_goals simp_all [form, out]
  · exact (gives_fail hg).elim
theorem right_ne {m : Int} (h : right m = true) : m ≠ 0 := by
  rintro rfl
  simp [right] at h
theorem h6 : Holds P G2 5 q6 := by
  refine holds_ok (fn := Tryz.f5) (by kernel_rfl) (by kernel_rfl) fun args av hg => ?_
  unfold q6 at hg
  split at hg
  · rename_i m a b c
    rw [gives_ok hg]
    refine ⟨rfl, _, rfl, ?_⟩
    rw [nf6]
    cases hr : right m with
    | false => exact ⟨fun _ => ⟨rfl, rfl⟩, fun h => absurd h (by decide)⟩
    | true =>
      have hne := right_ne hr
      exact ⟨fun h => absurd h (by decide), fun _ => ⟨⟨hne, hne, hne, rfl, rfl⟩, hne, hne, hne, rfl, rfl⟩⟩
  · exact (gives_fail hg).elim
theorem Holds.weaken {S : Sums} {f : Nat} {q q' : PSpec} (h : Holds P S f q) (hq : ∀ args av, (q' args).gives av → ∃ av', (q args).gives av' ∧ av'.valOf = av.valOf) : Holds P S f q' := by
  obtain ⟨fn, h1, h2, h3⟩ := h
  refine ⟨fn, h1, h2, fun args av hg => ?_⟩
  obtain ⟨av', h4, h5⟩ := hq args av hg
  rw [← h5]
  exact h3 args av' h4
end Go.AM

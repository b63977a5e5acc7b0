import Derived.Test.YtppbbabmlammpaaDoorCX
set_option linter.unusedVariables false
set_option linter.unusedSimpArgs false
open Go Go.AM Go.Proofs
namespace Go.AM
abbrev I (n : Int) : AV := .v (.one (.sym .i64 n))
abbrev B (b : Bool) : AV := .v (.one (.sb b))
abbrev V (a b c : Int) : AV := .v (.agg [.sym .i64 a, .sym .i64 b, .sym .i64 c])
abbrev M (a b c d e f g h i : Int) : AV := .v (.agg [.sym .i64 a, .sym .i64 b, .sym .i64 c, .sym .i64 d, .sym .i64 e, .sym .i64 f, .sym .i64 g, .sym .i64 h, .sym .i64 i])
abbrev C (n : Int) : AV := .v (.one (.con .i64 n))
def modF (n m : Int) : Int := (IntKind.i64.wrap (n.tmod m + m)).tmod m
def qMod : PSpec
  | [.v (.one (.sym .i64 n)), .v (.one (.sym .i64 m))] => .iff (m ≠ 0) (I (modF n m))
  | _ => .fail
def beyond (x m : Int) : Bool := decide (x < IntKind.i64.wrap (0 - m)) || decide (m < x)
def right (m : Int) : Bool := decide (m = 24) || (decide (m = 48) || (decide (m = 96) || decide (m = 192)))
theorem holds_ok {S : Sums} {f : Nat} {fn : Func} {q : PSpec} (hf : P.funcs[f]? = some fn) (hb : fn.body.isSome = true)
    (h : ∀ args av, (q args).gives av → noPtrs args = true ∧ ∃ v, av.valOf = some v ∧ call P S noAnn 100000 fn args [] (fun v' h => v'.valOf = some v ∧ h = [])) : Holds P S f q :=
  ⟨fn, hf, hb, fun args av hg => by
    obtain ⟨h1, v, h2, h3⟩ := h args av hg
    exact ⟨h1, v, 100000, noAnn, rfl, h2, h3⟩⟩
theorem leafB {b c : Bool} (h : b = true ↔ c = true) : (AV.v (.one (.cb b))).valOf = some (.bool c) ∧ ([] : Heap) = [] := by have h := Bool.eq_iff_iff.2 h; subst h; exact ⟨rfl, rfl⟩
theorem leafS {b c : Bool} (h : b = true ↔ c = true) : (AV.v (.one (.sb b))).valOf = some (.bool c) ∧ ([] : Heap) = [] := by have h := Bool.eq_iff_iff.2 h; subst h; exact ⟨rfl, rfl⟩
theorem nf19 (n m : Int) (K : KV) : call P G0 noAnn 100000 Tryd.f80 [I n, I m] [] K = ((m = 0 → False) ∧ (m = 0 → False) ∧ K (AV.v (PV.one (SV.sym IntKind.i64 ((IntKind.i64.wrap (n.tmod m + m)).tmod m)))) []) := by kernel_rfl
theorem h19 : Holds P G0 80 qMod := by
  refine holds_ok (fn := Tryd.f80) (by kernel_rfl) (by kernel_rfl) fun args av h => ?_
  unfold qMod at h
  split at h
  · rename_i n m
    rcases h with h | ⟨p, h, hp⟩
    · cases h
    · injection h with h1 h2
      subst h2
      rw [← h1] at hp
      exact ⟨rfl, _, rfl, (nf19 n m _).mpr ⟨hp, hp, rfl, rfl⟩⟩
  · exact (gives_fail h).elim
theorem leafI {k : IntKind} {n m : Int} (h : n = m) : (AV.v (.one (.con k n))).valOf = some (.int k m) ∧ ([] : Heap) = [] := by subst h; exact ⟨rfl, rfl⟩
def out (m a : Int) : Bool := decide (a < 0) || decide (m ≤ a)

import Derived.Test.YtppbbabmlammpaaDoorCX
open Go Go.AM Go.Proofs
namespace Go.AM
abbrev I (n : Int) : AV := .v (.one (.sym .i64 n))
abbrev B (b : Bool) : AV := .v (.one (.sb b))
abbrev V (a b c : Int) : AV := .v (.agg [.sym .i64 a, .sym .i64 b, .sym .i64 c])
abbrev M (a b c d e f g h i : Int) : AV := .v (.agg [.sym .i64 a, .sym .i64 b, .sym .i64 c, .sym .i64 d, .sym .i64 e, .sym .i64 f, .sym .i64 g, .sym .i64 h, .sym .i64 i])
abbrev M6 (a b c d e f : Int) : AV := .v (.agg [.sym .i64 a, .sym .i64 b, .sym .i64 c, .sym .i64 d, .sym .i64 e, .sym .i64 f])
abbrev Pt (m a b c : Int) : AV := .v (.agg [.sym .i64 m, .sym .i64 a, .sym .i64 b, .sym .i64 c])
abbrev C (n : Int) : AV := .v (.one (.con .i64 n))
def modF (n m : Int) : Int := (IntKind.i64.wrap (n.tmod m + m)).tmod m
def qMod : PSpec
  | [.v (.one (.sym .i64 n)), .v (.one (.sym .i64 m))] => .iff (m ≠ 0) (I (modF n m))
  | _ => .fail
def beyond (x m : Int) : Bool := decide (x < IntKind.i64.wrap (0 - m)) || decide (m < x)
def right (m : Int) : Bool := decide (m = 24) || (decide (m = 48) || (decide (m = 96) || decide (m = 192)))
def qRight : PSpec
  | [.v (.one (.sym .i64 m))] => .ok (B (right m))
  | _ => .fail
def qBeyond3 : PSpec
  | [.v (.agg [.sym .i64 a, .sym .i64 b, .sym .i64 c]), .v (.one (.sym .i64 m))] => .ok (B (beyond a m || (beyond b m || beyond c m)))
  | _ => .fail
def G1 : Sums := ((G0.add 80 qMod))
theorem holds_ok {S : Sums} {f : Nat} {fn : Func} {q : PSpec} (hf : P.funcs[f]? = some fn) (hb : fn.body.isSome = true)
    (h : ∀ args av, (q args).gives av → noPtrs args = true ∧ ∃ v, av.valOf = some v ∧ call P S noAnn 100000 fn args [] (fun v' h => v'.valOf = some v ∧ h = [])) : Holds P S f q :=
  ⟨fn, hf, hb, fun args av hg => by
    obtain ⟨h1, v, h2, h3⟩ := h args av hg
    exact ⟨h1, v, 100000, noAnn, rfl, h2, h3⟩⟩
theorem leafB {b c : Bool} (h : b = true ↔ c = true) : (AV.v (.one (.cb b))).valOf = some (.bool c) ∧ ([] : Heap) = [] := by have h := Bool.eq_iff_iff.2 h; subst h; exact ⟨rfl, rfl⟩
theorem leafS {b c : Bool} (h : b = true ↔ c = true) : (AV.v (.one (.sb b))).valOf = some (.bool c) ∧ ([] : Heap) = [] := by have h := Bool.eq_iff_iff.2 h; subst h; exact ⟨rfl, rfl⟩
theorem nf19 (n m : Int) (K : KV) : call P G0 noAnn 100000 Tryd.f80 [I n, I m] [] K = ((m = 0 → False) ∧ (m = 0 → False) ∧ K (AV.v (PV.one (SV.sym IntKind.i64 ((IntKind.i64.wrap (n.tmod m + m)).tmod m)))) []) := by kernel_rfl
theorem h19 : Holds P G0 80 qMod := by
  refine holds_ok (fn := Tryd.f80) (by kernel_rfl) (by kernel_rfl) fun args av h => ?_
  unfold qMod at h
  split at h
  · rename_i n m
    rcases h with h | ⟨p, h, hp⟩
    · cases h
    · injection h with h1 h2
      subst h2
      rw [← h1] at hp
      exact ⟨rfl, _, rfl, (nf19 n m _).mpr ⟨hp, hp, rfl, rfl⟩⟩
  · exact (gives_fail h).elim
def q35 : PSpec
  | [.v (.agg [.sym .i64 a, .sym .i64 b, .sym .i64 c, .sym .i64 d, .sym .i64 e, .sym .i64 f])] => .ok (AV.v (PV.one (SV.sym IntKind.i64 (IntKind.i64.wrap (IntKind.i64.wrap (IntKind.i64.wrap (IntKind.i64.wrap (IntKind.i64.wrap (IntKind.i64.wrap (a * b) * c) + IntKind.i64.wrap (IntKind.i64.wrap (IntKind.i64.wrap (2 * d) * e) * f)) - IntKind.i64.wrap (IntKind.i64.wrap (a * d) * d)) - IntKind.i64.wrap (IntKind.i64.wrap (b * e) * e)) - IntKind.i64.wrap (IntKind.i64.wrap (c * f) * f))))))
  | _ => .fail
def q21 : PSpec
  | [.v (.agg [.sym .i64 a, .sym .i64 b, .sym .i64 c, .sym .i64 d, .sym .i64 e, .sym .i64 f])] => .ok (AV.v (PV.agg [SV.sym IntKind.i64 a, SV.sym IntKind.i64 f, SV.sym IntKind.i64 e, SV.sym IntKind.i64 f, SV.sym IntKind.i64 b, SV.sym IntKind.i64 d, SV.sym IntKind.i64 e, SV.sym IntKind.i64 d, SV.sym IntKind.i64 c]))
  | _ => .fail
def q22 : PSpec
  | [.v (.agg [.sym .i64 a, .sym .i64 b, .sym .i64 c, .sym .i64 d, .sym .i64 e, .sym .i64 f, .sym .i64 g, .sym .i64 h, .sym .i64 i]), .v (.agg [.sym .i64 u1, .sym .i64 u2, .sym .i64 u3]), .v (.agg [.sym .i64 v1, .sym .i64 v2, .sym .i64 v3])] => .ok (AV.v (PV.one (SV.sym IntKind.i64 (IntKind.i64.wrap (IntKind.i64.wrap (IntKind.i64.wrap (IntKind.i64.wrap (IntKind.i64.wrap (IntKind.i64.wrap (IntKind.i64.wrap (IntKind.i64.wrap (IntKind.i64.wrap (0 + IntKind.i64.wrap (IntKind.i64.wrap (u1 * a) * v1)) + IntKind.i64.wrap (IntKind.i64.wrap (u1 * b) * v2)) + IntKind.i64.wrap (IntKind.i64.wrap (u1 * c) * v3)) + IntKind.i64.wrap (IntKind.i64.wrap (u2 * d) * v1)) + IntKind.i64.wrap (IntKind.i64.wrap (u2 * e) * v2)) + IntKind.i64.wrap (IntKind.i64.wrap (u2 * f) * v3)) + IntKind.i64.wrap (IntKind.i64.wrap (u3 * g) * v1)) + IntKind.i64.wrap (IntKind.i64.wrap (u3 * h) * v2)) + IntKind.i64.wrap (IntKind.i64.wrap (u3 * i) * v3))))))
  | _ => .fail
def G2 : Sums := ((G1))
theorem leafI {k : IntKind} {n m : Int} (h : n = m) : (AV.v (.one (.con k n))).valOf = some (.int k m) ∧ ([] : Heap) = [] := by subst h; exact ⟨rfl, rfl⟩
def q6 : PSpec
  | [.v (.one (.sym .i64 m)), .v (.agg [.sym .i64 a, .sym .i64 b, .sym .i64 c])] => .ok (.tup [.agg [.sym .i64 (if right m then m else 0), .sym .i64 (if right m then modF a m else 0), .sym .i64 (if right m then modF b m else 0), .sym .i64 (if right m then modF c m else 0)], .one (.sym .i64 (if right m then 0 else 1))])
  | _ => .fail
def out (m a : Int) : Bool := decide (a < 0) || decide (m ≤ a)
def form (m a b c : Int) : Bool := right m && !(out m a || (out m b || out m c))
def q25 : PSpec
  | [.v (.agg [.sym .i64 m, .sym .i64 a, .sym .i64 b, .sym .i64 c])] => .ok (B (form m a b c))
  | _ => .fail
theorem right_ne {m : Int} (h : right m = true) : m ≠ 0 := by
  rintro rfl
  simp [right] at h
def G3 : Sums := (G2)
def far (x : Int) : Bool := decide (x < -100000) || decide (100000 < x)
def low (x : Int) : Bool := decide (x < 1) || decide (100000 < x)
def detG (a b c d e f : Int) : Int := IntKind.i64.wrap (IntKind.i64.wrap (IntKind.i64.wrap (IntKind.i64.wrap (IntKind.i64.wrap (IntKind.i64.wrap (a * b) * c) + IntKind.i64.wrap (IntKind.i64.wrap (IntKind.i64.wrap (2 * d) * e) * f)) - IntKind.i64.wrap (IntKind.i64.wrap (a * d) * d)) - IntKind.i64.wrap (IntKind.i64.wrap (b * e) * e)) - IntKind.i64.wrap (IntKind.i64.wrap (c * f) * f))
def checkC (a b c d e f : Int) : Int :=
  if low a || (low b || (low c || (far d || (far e || far f)))) then 1
  else if decide (IntKind.i64.wrap (IntKind.i64.wrap (a * b) - IntKind.i64.wrap (f * f)) ≤ 0) || decide (detG a b c d e f ≤ 0) then 3 else 0
def q20 : PSpec
  | [.v (.agg [.sym .i64 a, .sym .i64 b, .sym .i64 c, .sym .i64 d, .sym .i64 e, .sym .i64 f])] => .ok (I (checkC a b c d e f))
  | _ => .fail
def bad10 (m a b c n d e f : Int) : Int := if form m a b c && form n d e f then (if m = n then 0 else 6) else 3
def q10 : PSpec
  | [.v (.agg [.sym .i64 m, .sym .i64 a, .sym .i64 b, .sym .i64 c]), .v (.agg [.sym .i64 n, .sym .i64 d, .sym .i64 e, .sym .i64 f])] =>
    .ok (.tup [.agg [.sym .i64 (if bad10 m a b c n d e f = 0 then m else 0), .sym .i64 (if bad10 m a b c n d e f = 0 then modF (IntKind.i64.wrap (a - d)) m else 0), .sym .i64 (if bad10 m a b c n d e f = 0 then modF (IntKind.i64.wrap (b - e)) m else 0), .sym .i64 (if bad10 m a b c n d e f = 0 then modF (IntKind.i64.wrap (c - f)) m else 0)], .one (.sym .i64 (bad10 m a b c n d e f))])
  | _ => .fail
def G4 : Sums := (G3)

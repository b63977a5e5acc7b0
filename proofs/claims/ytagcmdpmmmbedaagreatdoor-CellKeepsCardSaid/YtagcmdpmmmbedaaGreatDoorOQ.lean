import Derived.Test.YtagcmdpmmmbedaaGreatDoorOQ0
open Go Go.AM Go.Proofs
namespace Go.AM
/-- a map: its matrix and its part -/
structure OpI where
  a : Int
  b : Int
  c : Int
  d : Int
  e : Int
  f : Int
  g : Int
  h : Int
  i : Int
  x : Int
  y : Int
  z : Int

theorem OpI.ext' {o q : OpI} (ha : o.a = q.a) (hb : o.b = q.b) (hc : o.c = q.c) (hd : o.d = q.d) (he : o.e = q.e) (hf : o.f = q.f) (hg : o.g = q.g) (hh : o.h = q.h) (hi : o.i = q.i) (hx : o.x = q.x) (hy : o.y = q.y) (hz : o.z = q.z) : o = q := by
  cases o; cases q
  simp only at *
  subst_vars
  rfl
instance : DecidableEq OpI := fun o q => if h : o.a = q.a ∧ o.b = q.b ∧ o.c = q.c ∧ o.d = q.d ∧ o.e = q.e ∧ o.f = q.f ∧ o.g = q.g ∧ o.h = q.h ∧ o.i = q.i ∧ o.x = q.x ∧ o.y = q.y ∧ o.z = q.z then .isTrue (OpI.ext' h.1 h.2.1 h.2.2.1 h.2.2.2.1 h.2.2.2.2.1 h.2.2.2.2.2.1 h.2.2.2.2.2.2.1 h.2.2.2.2.2.2.2.1 h.2.2.2.2.2.2.2.2.1 h.2.2.2.2.2.2.2.2.2.1 h.2.2.2.2.2.2.2.2.2.2.1 h.2.2.2.2.2.2.2.2.2.2.2) else .isFalse (fun e => h (by subst e; exact ⟨rfl, rfl, rfl, rfl, rfl, rfl, rfl, rfl, rfl, rfl, rfl, rfl⟩))
def i64s : List SV → Option (List Int)
  | [] => some []
  | s :: l => match i64? s, i64s l with
    | some n, some r => some (n :: r)
    | _, _ => none
def symL : List Int → List SV
  | [] => []
  | n :: l => .sym .i64 n :: symL l
theorem i64s_R {pl : List Pl} : ∀ {l : List SV} {ns : List Int} {vs : List Value}, i64s l = some ns → RL pl l vs → RL pl (symL ns) vs
  | [], ns, vs, h, hv => by
    simp [i64s] at h
    subst h
    exact hv
  | s :: l, ns, [], h, hv => hv.elim
  | s :: l, ns, v :: vs, h, hv => by
    simp only [i64s] at h
    split at h
    · rename_i n r h1 h2
      cases h
      exact ⟨.inr (by rw [i64_R h1 hv.1]; rfl), i64s_R h2 hv.2⟩
    · cases h
def opOf : List Int → Option OpI
  | [a, b, c, d, e, f, g, h, i, x, y, z] => some ⟨a, b, c, d, e, f, g, h, i, x, y, z⟩
  | _ => none
def opS (o : OpI) : List SV := [.sym .i64 o.a, .sym .i64 o.b, .sym .i64 o.c, .sym .i64 o.d, .sym .i64 o.e, .sym .i64 o.f, .sym .i64 o.g, .sym .i64 o.h, .sym .i64 o.i, .sym .i64 o.x, .sym .i64 o.y, .sym .i64 o.z]
theorem opOf_symL {ns : List Int} {o : OpI} (h : opOf ns = some o) : symL ns = opS o := by
  unfold opOf at h
  split at h
  · cases h; rfl
  · cases h
/-- rows of maps -/
abbrev cOp : Codec where
  τ := OpI
  esz := 12
  enc := opS
  dec := fun l => match i64s l with
    | some ns => opOf ns
    | none => none
  d := ⟨0, 0, 0, 0, 0, 0, 0, 0, 0, 0, 0, 0⟩
  len_ok := fun _ => rfl
  known_ok := fun _ => rfl
  dec_ok := fun l t pl vs h hv => by
    split at h
    · rename_i ns hn
      have := i64s_R hn hv
      rwa [opOf_symL h] at this
    · cases h
  low_ok := fun _ _ => rfl
  deq := inferInstance
def oneO : OpI := ⟨1, 0, 0, 0, 1, 0, 0, 0, 1, 0, 0, 0⟩
def zeroO : OpI := ⟨0, 0, 0, 0, 0, 0, 0, 0, 0, 0, 0, 0⟩
/-- a map's error; a product's error; a product; their order -/
def oE (o : OpI) : Int := opE o.a o.b o.c o.d o.e o.f o.g o.h o.i o.x o.y o.z
def oM (o q : OpI) : Int := mulE o.a o.b o.c o.d o.e o.f o.g o.h o.i o.x o.y o.z q.a q.b q.c q.d q.e q.f q.g q.h q.i q.x q.y q.z
def oC (o q : OpI) : Int := cmp12 o.a o.b o.c o.d o.e o.f o.g o.h o.i o.x o.y o.z q.a q.b q.c q.d q.e q.f q.g q.h q.i q.x q.y q.z
def oP (o q : OpI) : OpI := ⟨pr o.a o.b o.c q.a q.d q.g, pr o.a o.b o.c q.b q.e q.h, pr o.a o.b o.c q.c q.f q.i, pr o.d o.e o.f q.a q.d q.g, pr o.d o.e o.f q.b q.e q.h, pr o.d o.e o.f q.c q.f q.i, pr o.g o.h o.i q.a q.d q.g, pr o.g o.h o.i q.b q.e q.h, pr o.g o.h o.i q.c q.f q.i, tr o.a o.b o.c q.x q.y q.z o.x, tr o.d o.e o.f q.x q.y q.z o.y, tr o.g o.h o.i q.x q.y q.z o.z⟩
def oR (o q : OpI) : OpI := if oM o q = 0 then oP o q else zeroO
def qMulO : PSpec
  | [.v (.agg [.sym .i64 a, .sym .i64 b, .sym .i64 c, .sym .i64 d, .sym .i64 e, .sym .i64 f, .sym .i64 g, .sym .i64 h, .sym .i64 i, .sym .i64 x, .sym .i64 y, .sym .i64 z]), .v (.agg [.sym .i64 p, .sym .i64 q, .sym .i64 r, .sym .i64 s, .sym .i64 t, .sym .i64 u, .sym .i64 v, .sym .i64 w, .sym .i64 k, .sym .i64 l, .sym .i64 m, .sym .i64 n])] => .ok (.tup [.agg (opS (oR ⟨a, b, c, d, e, f, g, h, i, x, y, z⟩ ⟨p, q, r, s, t, u, v, w, k, l, m, n⟩)), .one (.sym .i64 (oM ⟨a, b, c, d, e, f, g, h, i, x, y, z⟩ ⟨p, q, r, s, t, u, v, w, k, l, m, n⟩))])
  | _ => .fail
theorem ohMulO : Holds P O5 44 qMulO := by
  obtain ⟨fn, h1, h2, h3⟩ := ohMul
  refine ⟨fn, h1, h2, fun args av hg => ?_⟩
  unfold qMulO at hg
  split at hg
  · rename_i a b c d e f g h i x y z p q r s t u v w k l m n
    rw [gives_ok hg]
    obtain ⟨k1, v0, n0, A, k2, k3, k4⟩ := h3 _ _ (show (oqMul [.v (.agg [.sym .i64 a, .sym .i64 b, .sym .i64 c, .sym .i64 d, .sym .i64 e, .sym .i64 f, .sym .i64 g, .sym .i64 h, .sym .i64 i, .sym .i64 x, .sym .i64 y, .sym .i64 z]), .v (.agg [.sym .i64 p, .sym .i64 q, .sym .i64 r, .sym .i64 s, .sym .i64 t, .sym .i64 u, .sym .i64 v, .sym .i64 w, .sym .i64 k, .sym .i64 l, .sym .i64 m, .sym .i64 n])]).gives _ from .inl rfl)
    refine ⟨k1, v0, n0, A, k2, ?_, k4⟩
    rw [← k3]
    by_cases he : mulE a b c d e f g h i x y z p q r s t u v w k l m n = 0
    · simp only [oR, oM, he, if_true]; rfl
    · simp only [oR, oM, he, if_false]; rfl
  · exact (gives_fail hg).elim
def qCmpO : PSpec
  | [.v (.agg [.sym .i64 a, .sym .i64 b, .sym .i64 c, .sym .i64 d, .sym .i64 e, .sym .i64 f, .sym .i64 g, .sym .i64 h, .sym .i64 i, .sym .i64 x, .sym .i64 y, .sym .i64 z]), .v (.agg [.sym .i64 p, .sym .i64 q, .sym .i64 r, .sym .i64 s, .sym .i64 t, .sym .i64 u, .sym .i64 v, .sym .i64 w, .sym .i64 k, .sym .i64 l, .sym .i64 m, .sym .i64 n])] => .ok (.v (.one (.sym .i64 (oC ⟨a, b, c, d, e, f, g, h, i, x, y, z⟩ ⟨p, q, r, s, t, u, v, w, k, l, m, n⟩))))
  | _ => .fail
theorem ohCmpO : Holds P O7 41 qCmpO := ohOcmp
theorem cOp_dec (o : OpI) : cOp.dec (cOp.enc o) = some o := rfl
end Go.AM

import Derived.Test.YtppbbabmlammpaaF4
open Go Go.AM Go.Proofs
namespace Go.AM
/-- nought where something is amiss -/
def zb (bad : Bool) (x : Int) : Int := if bad then 0 else x
def q34 : PSpec
  | [.v (.agg [.sym .i64 a, .sym .i64 b, .sym .i64 c, .sym .i64 d, .sym .i64 e, .sym .i64 f, .sym .i64 g, .sym .i64 h, .sym .i64 i])] => .ok (I (IntKind.i64.wrap (IntKind.i64.wrap (IntKind.i64.wrap (a * cof e f h i) + IntKind.i64.wrap (b * cof f d i g)) + IntKind.i64.wrap (c * cof d e g h))))
  | _ => .fail
def far (x : Int) : Bool := decide (x < -100000) || decide (100000 < x)
def low (x : Int) : Bool := decide (x < 1) || decide (100000 < x)
def detG (a b c d e f : Int) : Int := IntKind.i64.wrap (IntKind.i64.wrap (IntKind.i64.wrap (IntKind.i64.wrap (IntKind.i64.wrap (IntKind.i64.wrap (a * b) * c) + IntKind.i64.wrap (IntKind.i64.wrap (IntKind.i64.wrap (2 * d) * e) * f)) - IntKind.i64.wrap (IntKind.i64.wrap (a * d) * d)) - IntKind.i64.wrap (IntKind.i64.wrap (b * e) * e)) - IntKind.i64.wrap (IntKind.i64.wrap (c * f) * f))
def checkC (a b c d e f : Int) : Int :=
  if low a || (low b || (low c || (far d || (far e || far f)))) then 1
  else if decide (IntKind.i64.wrap (IntKind.i64.wrap (a * b) - IntKind.i64.wrap (f * f)) ≤ 0) || decide (detG a b c d e f ≤ 0) then 3 else 0
def q20 : PSpec
  | [.v (.agg [.sym .i64 a, .sym .i64 b, .sym .i64 c, .sym .i64 d, .sym .i64 e, .sym .i64 f])] => .ok (I (checkC a b c d e f))
  | _ => .fail
def bad10 (m a b c n d e f : Int) : Int := if form m a b c && form n d e f then (if m = n then 0 else 6) else 3
def q10 : PSpec
  | [.v (.agg [.sym .i64 m, .sym .i64 a, .sym .i64 b, .sym .i64 c]), .v (.agg [.sym .i64 n, .sym .i64 d, .sym .i64 e, .sym .i64 f])] =>
    .ok (.tup [.agg [.sym .i64 (if bad10 m a b c n d e f = 0 then m else 0), .sym .i64 (if bad10 m a b c n d e f = 0 then modF (IntKind.i64.wrap (a - d)) m else 0), .sym .i64 (if bad10 m a b c n d e f = 0 then modF (IntKind.i64.wrap (b - e)) m else 0), .sym .i64 (if bad10 m a b c n d e f = 0 then modF (IntKind.i64.wrap (c - f)) m else 0)], .one (.sym .i64 (bad10 m a b c n d e f))])
  | _ => .fail
def q24 : PSpec
  | [.v (.agg [.sym .i64 a, .sym .i64 b, .sym .i64 c, .sym .i64 d, .sym .i64 e, .sym .i64 f, .sym .i64 g, .sym .i64 h, .sym .i64 i])] => .ok (.tup [.agg [.sym .i64 (zb (over9 a b c d e f g h i) a), .sym .i64 (zb (over9 a b c d e f g h i) d), .sym .i64 (zb (over9 a b c d e f g h i) g), .sym .i64 (zb (over9 a b c d e f g h i) b), .sym .i64 (zb (over9 a b c d e f g h i) e), .sym .i64 (zb (over9 a b c d e f g h i) h), .sym .i64 (zb (over9 a b c d e f g h i) c), .sym .i64 (zb (over9 a b c d e f g h i) f), .sym .i64 (zb (over9 a b c d e f g h i) i)], .one (.sym .i64 (if over9 a b c d e f g h i then 4 else 0))])
  | _ => .fail
def q40 : PSpec
  | [.v (.agg [.sym .i64 a, .sym .i64 b, .sym .i64 c, .sym .i64 d, .sym .i64 e, .sym .i64 f, .sym .i64 g, .sym .i64 h, .sym .i64 i, .sym .i64 x, .sym .i64 y, .sym .i64 z])] => .ok (.tup [.agg [.sym .i64 (zb (over9 a b c d e f g h i) a), .sym .i64 (zb (over9 a b c d e f g h i) b), .sym .i64 (zb (over9 a b c d e f g h i) c), .sym .i64 (zb (over9 a b c d e f g h i) d), .sym .i64 (zb (over9 a b c d e f g h i) e), .sym .i64 (zb (over9 a b c d e f g h i) f), .sym .i64 (zb (over9 a b c d e f g h i) g), .sym .i64 (zb (over9 a b c d e f g h i) h), .sym .i64 (zb (over9 a b c d e f g h i) i), .sym .i64 (zb (over9 a b c d e f g h i) x), .sym .i64 (zb (over9 a b c d e f g h i) y), .sym .i64 (zb (over9 a b c d e f g h i) z)], .one (.sym .i64 (if over9 a b c d e f g h i then 4 else 0))])
  | _ => .fail
def q49 : PSpec
  | [.v (.agg [.sym .i64 a, .sym .i64 b, .sym .i64 c, .sym .i64 d, .sym .i64 e, .sym .i64 f, .sym .i64 g, .sym .i64 h, .sym .i64 i]), .v (.agg [.sym .i64 p, .sym .i64 q, .sym .i64 r, .sym .i64 s, .sym .i64 t, .sym .i64 u, .sym .i64 v, .sym .i64 w, .sym .i64 x])] => .ok (.tup [.agg [.sym .i64 (zb (over9 a b c d e f g h i || over9 p q r s t u v w x) (IntKind.i64.wrap (IntKind.i64.wrap (IntKind.i64.wrap (a * p) + IntKind.i64.wrap (b * s)) + IntKind.i64.wrap (c * v)))), .sym .i64 (zb (over9 a b c d e f g h i || over9 p q r s t u v w x) (IntKind.i64.wrap (IntKind.i64.wrap (IntKind.i64.wrap (a * q) + IntKind.i64.wrap (b * t)) + IntKind.i64.wrap (c * w)))), .sym .i64 (zb (over9 a b c d e f g h i || over9 p q r s t u v w x) (IntKind.i64.wrap (IntKind.i64.wrap (IntKind.i64.wrap (a * r) + IntKind.i64.wrap (b * u)) + IntKind.i64.wrap (c * x)))), .sym .i64 (zb (over9 a b c d e f g h i || over9 p q r s t u v w x) (IntKind.i64.wrap (IntKind.i64.wrap (IntKind.i64.wrap (d * p) + IntKind.i64.wrap (e * s)) + IntKind.i64.wrap (f * v)))), .sym .i64 (zb (over9 a b c d e f g h i || over9 p q r s t u v w x) (IntKind.i64.wrap (IntKind.i64.wrap (IntKind.i64.wrap (d * q) + IntKind.i64.wrap (e * t)) + IntKind.i64.wrap (f * w)))), .sym .i64 (zb (over9 a b c d e f g h i || over9 p q r s t u v w x) (IntKind.i64.wrap (IntKind.i64.wrap (IntKind.i64.wrap (d * r) + IntKind.i64.wrap (e * u)) + IntKind.i64.wrap (f * x)))), .sym .i64 (zb (over9 a b c d e f g h i || over9 p q r s t u v w x) (IntKind.i64.wrap (IntKind.i64.wrap (IntKind.i64.wrap (g * p) + IntKind.i64.wrap (h * s)) + IntKind.i64.wrap (i * v)))), .sym .i64 (zb (over9 a b c d e f g h i || over9 p q r s t u v w x) (IntKind.i64.wrap (IntKind.i64.wrap (IntKind.i64.wrap (g * q) + IntKind.i64.wrap (h * t)) + IntKind.i64.wrap (i * w)))), .sym .i64 (zb (over9 a b c d e f g h i || over9 p q r s t u v w x) (IntKind.i64.wrap (IntKind.i64.wrap (IntKind.i64.wrap (g * r) + IntKind.i64.wrap (h * u)) + IntKind.i64.wrap (i * x))))], .one (.sym .i64 (if (over9 a b c d e f g h i || over9 p q r s t u v w x) then 4 else 0))])
  | _ => .fail
theorem nf34 (a b c d e f g h i : Int) (K : KV) : call P G3 noAnn 100000 Try.f34 [M a b c d e f g h i] [] K = (K (AV.v (PV.one (SV.sym IntKind.i64 (IntKind.i64.wrap (IntKind.i64.wrap (IntKind.i64.wrap (a * cof e f h i) + IntKind.i64.wrap (b * cof f d i g)) + IntKind.i64.wrap (c * cof d e g h)))))) []) := by kernel_rfl
theorem nf20 (a b c d e f : Int) (K : KV) : call P G3 noAnn 100000 Try.f20 [M6 a b c d e f] [] K = ((decide (a < (1 : Int)) = true → K (AV.v (PV.one (SV.con IntKind.i64 (1 : Int)))) []) ∧ (decide (a < (1 : Int)) = false → (decide ((100000 : Int) < a) = true → K (AV.v (PV.one (SV.con IntKind.i64 (1 : Int)))) []) ∧ (decide ((100000 : Int) < a) = false → (decide (b < (1 : Int)) = true → K (AV.v (PV.one (SV.con IntKind.i64 (1 : Int)))) []) ∧ (decide (b < (1 : Int)) = false → (decide ((100000 : Int) < b) = true → K (AV.v (PV.one (SV.con IntKind.i64 (1 : Int)))) []) ∧ (decide ((100000 : Int) < b) = false → (decide (c < (1 : Int)) = true → K (AV.v (PV.one (SV.con IntKind.i64 (1 : Int)))) []) ∧ (decide (c < (1 : Int)) = false → (decide ((100000 : Int) < c) = true → K (AV.v (PV.one (SV.con IntKind.i64 (1 : Int)))) []) ∧ (decide ((100000 : Int) < c) = false → (decide (d < (-100000 : Int)) = true → K (AV.v (PV.one (SV.con IntKind.i64 (1 : Int)))) []) ∧ (decide (d < (-100000 : Int)) = false → (decide ((100000 : Int) < d) = true → K (AV.v (PV.one (SV.con IntKind.i64 (1 : Int)))) []) ∧ (decide ((100000 : Int) < d) = false → (decide (e < (-100000 : Int)) = true → K (AV.v (PV.one (SV.con IntKind.i64 (1 : Int)))) []) ∧ (decide (e < (-100000 : Int)) = false → (decide ((100000 : Int) < e) = true → K (AV.v (PV.one (SV.con IntKind.i64 (1 : Int)))) []) ∧ (decide ((100000 : Int) < e) = false → (decide (f < (-100000 : Int)) = true → K (AV.v (PV.one (SV.con IntKind.i64 (1 : Int)))) []) ∧ (decide (f < (-100000 : Int)) = false → (decide ((100000 : Int) < f) = true → K (AV.v (PV.one (SV.con IntKind.i64 (1 : Int)))) []) ∧ (decide ((100000 : Int) < f) = false → (decide (IntKind.i64.wrap (IntKind.i64.wrap (a * b) - IntKind.i64.wrap (f * f)) ≤ (0 : Int)) = true → K (AV.v (PV.one (SV.con IntKind.i64 (3 : Int)))) []) ∧ (decide (IntKind.i64.wrap (IntKind.i64.wrap (a * b) - IntKind.i64.wrap (f * f)) ≤ (0 : Int)) = false → (decide (IntKind.i64.wrap (IntKind.i64.wrap (IntKind.i64.wrap (IntKind.i64.wrap (IntKind.i64.wrap (IntKind.i64.wrap (a * b) * c) + IntKind.i64.wrap (IntKind.i64.wrap (IntKind.i64.wrap ((2 : Int) * d) * e) * f)) - IntKind.i64.wrap (IntKind.i64.wrap (a * d) * d)) - IntKind.i64.wrap (IntKind.i64.wrap (b * e) * e)) - IntKind.i64.wrap (IntKind.i64.wrap (c * f) * f)) ≤ (0 : Int)) = true → K (AV.v (PV.one (SV.con IntKind.i64 (3 : Int)))) []) ∧ (decide (IntKind.i64.wrap (IntKind.i64.wrap (IntKind.i64.wrap (IntKind.i64.wrap (IntKind.i64.wrap (IntKind.i64.wrap (a * b) * c) + IntKind.i64.wrap (IntKind.i64.wrap (IntKind.i64.wrap ((2 : Int) * d) * e) * f)) - IntKind.i64.wrap (IntKind.i64.wrap (a * d) * d)) - IntKind.i64.wrap (IntKind.i64.wrap (b * e) * e)) - IntKind.i64.wrap (IntKind.i64.wrap (c * f) * f)) ≤ (0 : Int)) = false → K (AV.v (PV.one (SV.con IntKind.i64 (0 : Int)))) []))))))))))))))) := by kernel_rfl
theorem nf10 (m a b c n d e f : Int) (K : KV) : call P G3 noAnn 100000 Try.f10 [Pt m a b c, Pt n d e f] [] K = (((!form m a b c) = true → K (AV.tup [PV.agg [SV.con IntKind.i64 (0 : Int), SV.con IntKind.i64 (0 : Int), SV.con IntKind.i64 (0 : Int), SV.con IntKind.i64 (0 : Int)], PV.one (SV.con IntKind.i64 (3 : Int))]) []) ∧ ((!form m a b c) = false → ((!form n d e f) = true → K (AV.tup [PV.agg [SV.con IntKind.i64 (0 : Int), SV.con IntKind.i64 (0 : Int), SV.con IntKind.i64 (0 : Int), SV.con IntKind.i64 (0 : Int)], PV.one (SV.con IntKind.i64 (3 : Int))]) []) ∧ ((!form n d e f) = false → ((!decide (m = n)) = true → K (AV.tup [PV.agg [SV.con IntKind.i64 (0 : Int), SV.con IntKind.i64 (0 : Int), SV.con IntKind.i64 (0 : Int), SV.con IntKind.i64 (0 : Int)], PV.one (SV.con IntKind.i64 (6 : Int))]) []) ∧ ((!decide (m = n)) = false → K (AV.tup [PV.agg [SV.sym IntKind.i64 (if right m = true then m else (0 : Int)), SV.sym IntKind.i64 (if right m = true then modF (IntKind.i64.wrap (a - d)) m else (0 : Int)), SV.sym IntKind.i64 (if right m = true then modF (IntKind.i64.wrap (b - e)) m else (0 : Int)), SV.sym IntKind.i64 (if right m = true then modF (IntKind.i64.wrap (c - f)) m else (0 : Int))], PV.one (SV.sym IntKind.i64 (if right m = true then (0 : Int) else (1 : Int)))]) [] ∧ K (AV.tup [PV.agg [SV.sym IntKind.i64 (if right m = true then m else (0 : Int)), SV.sym IntKind.i64 (if right m = true then modF (IntKind.i64.wrap (a - d)) m else (0 : Int)), SV.sym IntKind.i64 (if right m = true then modF (IntKind.i64.wrap (b - e)) m else (0 : Int)), SV.sym IntKind.i64 (if right m = true then modF (IntKind.i64.wrap (c - f)) m else (0 : Int))], PV.one (SV.sym IntKind.i64 (if right m = true then (0 : Int) else (1 : Int)))]) [])))) := by kernel_rfl
theorem nf49 (a b c d e f g h i p q r s t u v w x : Int) (K : KV) : call P G3 noAnn 100000 Try.f49 [M a b c d e f g h i, M p q r s t u v w x] [] K = (((!decide ((if over9 a b c d e f g h i = true then (4 : Int) else (0 : Int)) = (0 : Int))) = true → K (AV.tup [PV.agg [SV.con IntKind.i64 (0 : Int), SV.con IntKind.i64 (0 : Int), SV.con IntKind.i64 (0 : Int), SV.con IntKind.i64 (0 : Int), SV.con IntKind.i64 (0 : Int), SV.con IntKind.i64 (0 : Int), SV.con IntKind.i64 (0 : Int), SV.con IntKind.i64 (0 : Int), SV.con IntKind.i64 (0 : Int)], PV.one (SV.con IntKind.i64 (4 : Int))]) []) ∧ ((!decide ((if over9 a b c d e f g h i = true then (4 : Int) else (0 : Int)) = (0 : Int))) = false → ((!decide ((if over9 p q r s t u v w x = true then (4 : Int) else (0 : Int)) = (0 : Int))) = true → K (AV.tup [PV.agg [SV.con IntKind.i64 (0 : Int), SV.con IntKind.i64 (0 : Int), SV.con IntKind.i64 (0 : Int), SV.con IntKind.i64 (0 : Int), SV.con IntKind.i64 (0 : Int), SV.con IntKind.i64 (0 : Int), SV.con IntKind.i64 (0 : Int), SV.con IntKind.i64 (0 : Int), SV.con IntKind.i64 (0 : Int)], PV.one (SV.con IntKind.i64 (4 : Int))]) []) ∧ ((!decide ((if over9 p q r s t u v w x = true then (4 : Int) else (0 : Int)) = (0 : Int))) = false → K (AV.tup [PV.agg [SV.sym IntKind.i64 (IntKind.i64.wrap (IntKind.i64.wrap (IntKind.i64.wrap (a * p) + IntKind.i64.wrap (b * s)) + IntKind.i64.wrap (c * v))), SV.sym IntKind.i64 (IntKind.i64.wrap (IntKind.i64.wrap (IntKind.i64.wrap (a * q) + IntKind.i64.wrap (b * t)) + IntKind.i64.wrap (c * w))), SV.sym IntKind.i64 (IntKind.i64.wrap (IntKind.i64.wrap (IntKind.i64.wrap (a * r) + IntKind.i64.wrap (b * u)) + IntKind.i64.wrap (c * x))), SV.sym IntKind.i64 (IntKind.i64.wrap (IntKind.i64.wrap (IntKind.i64.wrap (d * p) + IntKind.i64.wrap (e * s)) + IntKind.i64.wrap (f * v))), SV.sym IntKind.i64 (IntKind.i64.wrap (IntKind.i64.wrap (IntKind.i64.wrap (d * q) + IntKind.i64.wrap (e * t)) + IntKind.i64.wrap (f * w))), SV.sym IntKind.i64 (IntKind.i64.wrap (IntKind.i64.wrap (IntKind.i64.wrap (d * r) + IntKind.i64.wrap (e * u)) + IntKind.i64.wrap (f * x))), SV.sym IntKind.i64 (IntKind.i64.wrap (IntKind.i64.wrap (IntKind.i64.wrap (g * p) + IntKind.i64.wrap (h * s)) + IntKind.i64.wrap (i * v))), SV.sym IntKind.i64 (IntKind.i64.wrap (IntKind.i64.wrap (IntKind.i64.wrap (g * q) + IntKind.i64.wrap (h * t)) + IntKind.i64.wrap (i * w))), SV.sym IntKind.i64 (IntKind.i64.wrap (IntKind.i64.wrap (IntKind.i64.wrap (g * r) + IntKind.i64.wrap (h * u)) + IntKind.i64.wrap (i * x)))], PV.one (SV.con IntKind.i64 (0 : Int))]) []))) := by kernel_rfl
theorem nf24 (a b c d e f g h i : Int) (K : KV) : call P G3 noAnn 100000 Try.f24 [M a b c d e f g h i] [] K = (((!decide ((if over9 a b c d e f g h i = true then (4 : Int) else (0 : Int)) = (0 : Int))) = true → K (AV.tup [PV.agg [SV.con IntKind.i64 (0 : Int), SV.con IntKind.i64 (0 : Int), SV.con IntKind.i64 (0 : Int), SV.con IntKind.i64 (0 : Int), SV.con IntKind.i64 (0 : Int), SV.con IntKind.i64 (0 : Int), SV.con IntKind.i64 (0 : Int), SV.con IntKind.i64 (0 : Int), SV.con IntKind.i64 (0 : Int)], PV.one (SV.sym IntKind.i64 (if over9 a b c d e f g h i = true then (4 : Int) else (0 : Int)))]) []) ∧ ((!decide ((if over9 a b c d e f g h i = true then (4 : Int) else (0 : Int)) = (0 : Int))) = false → K (AV.tup [PV.agg [SV.sym IntKind.i64 a, SV.sym IntKind.i64 d, SV.sym IntKind.i64 g, SV.sym IntKind.i64 b, SV.sym IntKind.i64 e, SV.sym IntKind.i64 h, SV.sym IntKind.i64 c, SV.sym IntKind.i64 f, SV.sym IntKind.i64 i], PV.one (SV.con IntKind.i64 (0 : Int))]) [])) := by kernel_rfl
theorem nf40 (a b c d e f g h i x y z : Int) (K : KV) : call P G3 noAnn 100000 Try.f40 [.v (.agg [.sym .i64 a, .sym .i64 b, .sym .i64 c, .sym .i64 d, .sym .i64 e, .sym .i64 f, .sym .i64 g, .sym .i64 h, .sym .i64 i, .sym .i64 x, .sym .i64 y, .sym .i64 z])] [] K = (((!decide ((if over9 a b c d e f g h i = true then (4 : Int) else (0 : Int)) = (0 : Int))) = true → K (AV.tup [PV.agg [SV.con IntKind.i64 (0 : Int), SV.con IntKind.i64 (0 : Int), SV.con IntKind.i64 (0 : Int), SV.con IntKind.i64 (0 : Int), SV.con IntKind.i64 (0 : Int), SV.con IntKind.i64 (0 : Int), SV.con IntKind.i64 (0 : Int), SV.con IntKind.i64 (0 : Int), SV.con IntKind.i64 (0 : Int), SV.con IntKind.i64 (0 : Int), SV.con IntKind.i64 (0 : Int), SV.con IntKind.i64 (0 : Int)], PV.one (SV.sym IntKind.i64 (if over9 a b c d e f g h i = true then (4 : Int) else (0 : Int)))]) []) ∧ ((!decide ((if over9 a b c d e f g h i = true then (4 : Int) else (0 : Int)) = (0 : Int))) = false → K (AV.tup [PV.agg [SV.sym IntKind.i64 a, SV.sym IntKind.i64 b, SV.sym IntKind.i64 c, SV.sym IntKind.i64 d, SV.sym IntKind.i64 e, SV.sym IntKind.i64 f, SV.sym IntKind.i64 g, SV.sym IntKind.i64 h, SV.sym IntKind.i64 i, SV.sym IntKind.i64 x, SV.sym IntKind.i64 y, SV.sym IntKind.i64 z], PV.one (SV.con IntKind.i64 (0 : Int))]) [])) := by kernel_rfl
theorem h34 : Holds P G3 34 q34 := by
  refine holds_ok (fn := Try.f34) (by kernel_rfl) (by kernel_rfl) fun args av hg => ?_
  unfold q34 at hg
  split at hg
  · rw [gives_ok hg]
    refine ⟨rfl, _, rfl, ?_⟩
    rw [nf34]
    exact ⟨rfl, rfl⟩
  · exact (gives_fail hg).elim
theorem h20 : Holds P G3 20 q20 := by
  refine holds_ok (fn := Try.f20) (by kernel_rfl) (by kernel_rfl) fun args av hg => ?_
  unfold q20 at hg
  split at hg
  · rename_i a b c d e f
    rw [gives_ok hg]
    refine ⟨rfl, (.int .i64 (checkC a b c d e f)), rfl, ?_⟩
    rw [nf20]
    unfold checkC low far
    rw [show (IntKind.i64.wrap (IntKind.i64.wrap (IntKind.i64.wrap (IntKind.i64.wrap (IntKind.i64.wrap (IntKind.i64.wrap (a * b) * c) + IntKind.i64.wrap (IntKind.i64.wrap (IntKind.i64.wrap (2 * d) * e) * f)) - IntKind.i64.wrap (IntKind.i64.wrap (a * d) * d)) - IntKind.i64.wrap (IntKind.i64.wrap (b * e) * e)) - IntKind.i64.wrap (IntKind.i64.wrap (c * f) * f))) = detG a b c d e f from rfl]
    generalize decide (a < 1) = x1
    generalize decide (100000 < a) = x2
    generalize decide (b < 1) = x3
    generalize decide (100000 < b) = x4
    generalize decide (c < 1) = x5
    generalize decide (100000 < c) = x6
    generalize decide (d < -100000) = x7
    generalize decide (100000 < d) = x8
    generalize decide (e < -100000) = x9
    generalize decide (100000 < e) = x10
    generalize decide (f < -100000) = x11
    generalize decide (100000 < f) = x12
    generalize decide (IntKind.i64.wrap (IntKind.i64.wrap (a * b) - IntKind.i64.wrap (f * f)) ≤ 0) = x13
    generalize decide (detG a b c d e f ≤ 0) = x14
    repeat' (first | apply leafI | apply And.intro | (intro h; subst h))
    all_goals (first | rfl | simp)
  · exact (gives_fail hg).elim
theorem h10 : Holds P G3 10 q10 := by
  refine holds_ok (fn := Try.f10) (by kernel_rfl) (by kernel_rfl) fun args av hg => ?_
  unfold q10 at hg
  split at hg
  · rename_i m a b c n d e f
    rw [gives_ok hg]
    refine ⟨rfl, _, rfl, ?_⟩
    rw [nf10]
    cases h1 : form m a b c with
    | false => exact ⟨fun _ => by simp only [bad10, h1, Bool.false_and, Bool.false_eq_true, if_false]; exact ⟨rfl, trivial⟩, fun h => absurd h (by decide)⟩
    | true =>
      cases h2 : form n d e f with
      | false => exact ⟨fun h => absurd h (by decide), fun _ => ⟨fun _ => by simp only [bad10, h1, h2, Bool.and_false, Bool.false_eq_true, if_false]; exact ⟨rfl, trivial⟩, fun h => absurd h (by decide)⟩⟩
      | true =>
        have hr : right m = true := by simp [form] at h1; exact h1.1
        by_cases h3 : m = n
        · subst h3
          refine ⟨fun h => absurd h (by decide), fun _ => ⟨fun h => absurd h (by decide), fun _ => ⟨fun h => by simp at h, fun _ => ⟨?_, ?_⟩⟩⟩⟩
          all_goals
            simp only [bad10, h1, h2, hr, Bool.and_self, if_true]
            exact ⟨rfl, trivial⟩
        · refine ⟨fun h => absurd h (by decide), fun _ => ⟨fun h => absurd h (by decide), fun _ => ⟨fun _ => ?_, fun h => by simp [h3] at h⟩⟩⟩
          simp only [bad10, h1, h2, h3, Bool.and_self, if_true, if_false]
          exact ⟨rfl, trivial⟩
  · exact (gives_fail hg).elim
theorem h24 : Holds P G3 24 q24 := by
  refine holds_ok (fn := Try.f24) (by kernel_rfl) (by kernel_rfl) fun args av hg => ?_
  unfold q24 at hg
  split at hg
  · rename_i a b c d e f g h i
    rw [gives_ok hg]
    refine ⟨rfl, _, rfl, ?_⟩
    rw [nf24]
    cases h1 : over9 a b c d e f g h i with
    | false => exact ⟨fun h => absurd h (by decide), fun _ => ⟨rfl, rfl⟩⟩
    | true => exact ⟨fun _ => ⟨rfl, rfl⟩, fun h => absurd h (by decide)⟩
  · exact (gives_fail hg).elim
theorem h40 : Holds P G3 40 q40 := by
  refine holds_ok (fn := Try.f40) (by kernel_rfl) (by kernel_rfl) fun args av hg => ?_
  unfold q40 at hg
  split at hg
  · rename_i a b c d e f g h i x y z
    rw [gives_ok hg]
    refine ⟨rfl, _, rfl, ?_⟩
    rw [nf40]
    cases h1 : over9 a b c d e f g h i with
    | false => exact ⟨fun h => absurd h (by decide), fun _ => ⟨rfl, rfl⟩⟩
    | true => exact ⟨fun _ => ⟨rfl, rfl⟩, fun h => absurd h (by decide)⟩
  · exact (gives_fail hg).elim
theorem h49 : Holds P G3 49 q49 := by
  refine holds_ok (fn := Try.f49) (by kernel_rfl) (by kernel_rfl) fun args av hg => ?_
  unfold q49 at hg
  split at hg
  · rename_i a b c d e f g h i p q r s t u v w x
    rw [gives_ok hg]
    refine ⟨rfl, _, rfl, ?_⟩
    rw [nf49]
    cases h1 : over9 a b c d e f g h i with
    | true => exact ⟨fun _ => ⟨rfl, rfl⟩, fun h => absurd h (by decide)⟩
    | false =>
      cases h2 : over9 p q r s t u v w x with
      | true => exact ⟨fun h => absurd h (by decide), fun _ => ⟨fun _ => ⟨rfl, rfl⟩, fun h => absurd h (by decide)⟩⟩
      | false => exact ⟨fun h => absurd h (by decide), fun _ => ⟨fun h => absurd h (by decide), fun _ => ⟨rfl, rfl⟩⟩⟩
  · exact (gives_fail hg).elim
def G4 : Sums := (((((G3.add 34 q34).add 20 q20).add 10 q10).add 24 q24).add 40 q40).add 49 q49
end Go.AM

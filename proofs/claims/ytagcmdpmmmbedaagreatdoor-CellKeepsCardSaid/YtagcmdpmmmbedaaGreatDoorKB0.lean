import Derived.Test.YtagcmdpmmmbedaaGreatDoorKA
open Go Go.AM Go.Proofs
namespace Go.AM
open Dist
def repA : Nat → Env
  | 0 => []
  | n + 1 => AV.any :: repA n
/-- does a map keep the products of its columns? -/
def ovO (o : OpI) : Bool := over9 o.a o.b o.c o.d o.e o.f o.g o.h o.i
def tz (o : OpI) (n : Int) : Int := zb (ovO o) n
def keepsB (a b c d e f : Int) (o : OpI) : Bool :=
  decide (prod9 a f e f b d e d c (tz o o.a) (tz o o.d) (tz o o.g) (tz o o.a) (tz o o.d) (tz o o.g) = a) && (decide (prod9 a f e f b d e d c (tz o o.a) (tz o o.d) (tz o o.g) (tz o o.b) (tz o o.e) (tz o o.h) = f) && (decide (prod9 a f e f b d e d c (tz o o.a) (tz o o.d) (tz o o.g) (tz o o.c) (tz o o.f) (tz o o.i) = e) && (decide (prod9 a f e f b d e d c (tz o o.b) (tz o o.e) (tz o o.h) (tz o o.a) (tz o o.d) (tz o o.g) = f) && (decide (prod9 a f e f b d e d c (tz o o.b) (tz o o.e) (tz o o.h) (tz o o.b) (tz o o.e) (tz o o.h) = b) && (decide (prod9 a f e f b d e d c (tz o o.b) (tz o o.e) (tz o o.h) (tz o o.c) (tz o o.f) (tz o o.i) = d) && (decide (prod9 a f e f b d e d c (tz o o.c) (tz o o.f) (tz o o.i) (tz o o.a) (tz o o.d) (tz o o.g) = e) && (decide (prod9 a f e f b d e d c (tz o o.c) (tz o o.f) (tz o o.i) (tz o o.b) (tz o o.e) (tz o o.h) = d) && (decide (prod9 a f e f b d e d c (tz o o.c) (tz o o.f) (tz o o.i) (tz o o.c) (tz o o.f) (tz o o.i) = c)))))))))
/-- a frame of which a few slots are known -/
def mkEnv (n : Nat) : List (Nat × AV) → Env
  | [] => repA n
  | (i, v) :: l => set (mkEnv n l) i v
/-- the error of Keeps -/
def keepsE (a b c d e f : Int) (xs : List OpI) : Int := if checkP xs ≠ 0 ∧ (checkC a b c d e f = 0 ∨ checkP xs < checkC a b c d e f) then checkP xs else checkC a b c d e f
def annKeeps (a b c d e f : Int) (xs : List OpI) (cc : Nat) : Annos := ⟨1, fun id env h =>
  if id = 9 then forceE (keepS [8, 36, 37, 38] 0 env) fun env => (match h with
    | [x0, _, x2] => some ⟨{ i : Nat // i ≤ xs.length ∧ xs.all (keepsB a b c d e f) = (xs.drop i).all (keepsB a b c d e f) }, fun i => (set env 38 (I' (i.1 : Int)), [x0, .gone, x2]), fun i => xs.length - i.1⟩
    | _ => none) else none,
  fun id => if id = 5 then some ⟨Unit, fun _ => (mkEnv 71 [(1, .v (.one (.rs 0 12 xs.length cc))), (2, .v (.one (.ptr 1 0))), (6, I' (keepsE a b c d e f xs))], [.ro 0 cOp xs, .row 23 [.sym .i64 a, .sym .i64 b, .sym .i64 c, .sym .i64 d, .sym .i64 e, .sym .i64 f]]), fun _ => 0⟩ else none⟩
end Go.AM

import Derived.Test.YtppbbabmlammpaaDoorTG6
set_option linter.unusedVariables false
set_option linter.unusedSimpArgs false
open Go Go.AM Go.Proofs
namespace Go.AM
open Dist
structure DR where
  i : Int
  p : Int
  e0 : Int
  e1 : Int
  e2 : Int
  part : Int
  s0 : Bool
  s1 : Bool
  s2 : Bool
  s3 : Bool
def DR.err (x : DR) (j p : Int) : DR := ⟨j, p, x.e0, x.e1, x.e2, x.part, x.s0, x.s1, x.s2, x.s3⟩
def dLetP (ys : List DTok) (x : DR) (sk j : Int) : DR :=
  if (dk ys j).kind = 120 then (if x.s0 = true then x.err j (dk ys j).pos else ⟨dSkip ys j, -1, sk, x.e1, x.e2, x.part, true, x.s1, x.s2, x.s3⟩)
  else if (dk ys j).kind = 121 then (if x.s1 = true then x.err j (dk ys j).pos else ⟨dSkip ys j, -1, x.e0, sk, x.e2, x.part, x.s0, true, x.s2, x.s3⟩)
  else if (dk ys j).kind = 122 then (if x.s2 = true then x.err j (dk ys j).pos else ⟨dSkip ys j, -1, x.e0, x.e1, sk, x.part, x.s0, x.s1, true, x.s3⟩)
  else x.err j (dk ys j).pos
def isLet (k : Int) : Prop := k = 120 ∨ k = 121 ∨ k = 122
instance (k : Int) : Decidable (isLet k) := inferInstanceAs (Decidable (k = 120 ∨ k = 121 ∨ k = 122))
def dTerm (s : List UInt8) (ys : List DTok) (x : DR) (sg i : Int) : DR :=
  if (dk ys i).kind = 48 then
    (if isLet (dk ys (dSkip ys i)).kind then
      (if dNum s (dk ys i).pos (dk ys i).next 4 < 1 ∨ 1000 < dNum s (dk ys i).pos (dk ys i).next 4 then x.err (dSkip ys i) (dk ys i).pos
      else dLetP ys x (sg * dNum s (dk ys i).pos (dk ys i).next 4) (dSkip ys i))
    else ⟨(dFr s ys (dSkip ys i) (dk ys i).pos (dk ys i).next x.s3).2.1, (dFr s ys (dSkip ys i) (dk ys i).pos (dk ys i).next x.s3).2.2, x.e0, x.e1, x.e2, sg * (dFr s ys (dSkip ys i) (dk ys i).pos (dk ys i).next x.s3).1, x.s0, x.s1, x.s2, true⟩)
  else dLetP ys x sg i
def dStep (s : List UInt8) (ys : List DTok) (x : DR) : DR := dTerm s ys x (dSv ys x.i) (dSi ys x.i)
def dGo (ys : List DTok) (x : DR) : Prop := x.p < 0 ∧ ((dk ys x.i).kind = 43 ∨ (dk ys x.i).kind = 45)
instance (ys : List DTok) (x : DR) : Decidable (dGo ys x) := inferInstanceAs (Decidable (_ ∧ _))
def dRowR (s : List UInt8) (ys : List DTok) : Nat → DR → DR
  | 0, x => x
  | n + 1, x => if dGo ys x then dRowR s ys n (dStep s ys x) else x
def dr0 (i : Int) : DR := ⟨i, -1, 0, 0, 0, 0, false, false, false, false⟩
def dRowF (s : List UInt8) (ys : List DTok) (i : Int) : DR := dRowR s ys (@List.length DTok ys + 1) (dStep s ys (dr0 i))
structure DRok (s : List UInt8) (ys : List DTok) (R : DR) (q : Nat × DR) : Prop where
  h1 : dRowR s ys q.1 q.2 = R
  h2 : q.2.p < 0 → (@List.length DTok ys : Int) - q.2.i < q.1
  h3 : q.2.p < 0 → q.2.p = -1
  h4 : 0 ≤ q.2.i ∧ q.2.i < (@List.length DTok ys : Int)
def annDRi (s : List UInt8) (ys : List DTok) (env : Env) (x : DR) : Env × Heap := (env, [.row 89 [.str s, .ow 1 3 0 (@List.length DTok ys) false, .sym .i64 x.i, .sym .i64 x.p], .own 100 dtkC ys, .row 22 [.con .i64 0, .con .i64 0, .con .i64 0], .row 22 [.sym .i64 x.e0, .sym .i64 x.e1, .sym .i64 x.e2], .row 116 [.sb x.s0, .sb x.s1, .sb x.s2, .sb x.s3], .row 3 [.sym .i64 x.part]])
def annDR (s : List UInt8) (ys : List DTok) (R : DR) : Annos := ⟨2, fun id env _ => if id = 5 then forceE (keepT [0, 2, 4, 5, 6] 0 env) fun env => some ⟨{ q : Nat × DR // DRok s ys R q }, fun q => annDRi s ys env q.1.2, fun q => q.1.1⟩ else none,
  fun id env h => if id = 4 then (match get? h 0 with
    | some (.row _ [.str _, _, .sym _ i, .sym _ _]) => forceE (keepT [0, 2, 4, 5, 6] 0 env) fun env => [⟨{ x : DR // x = dr0 i }, fun x => annDRi s ys (set env 6 (.v (.one (.ptr 5 0)))) x.1, fun _ => 0⟩]
    | _ => []) else if id = 5 then forceE (keepT [0, 2, 4, 5, 6] 0 env) fun env => [⟨{ q : Nat × DR // DRok s ys R q }, fun q => annDRi s ys env q.1.2, fun _ => 0⟩] else if id = 6 then (match get? h 0 with
    | some (.row _ [.str _, _, .sym _ i, .sym _ p]) => forceE (keepT [0, 2, 4, 5, 6] 0 env) fun env => forceH h fun h => [⟨PLift (p < 0 ∧ ((dk ys i).kind = 43 ∨ (dk ys i).kind = 45)), fun _ => (env, h), fun _ => 0⟩]
    | _ => []) else []⟩
end Go.AM

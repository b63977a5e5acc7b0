import Derived.Test.YtagcmdpmmmbedaaGreatDoorKB
open Go Go.AM Go.Proofs
namespace Go.AM
open Dist
def apO (o : OpI) (u v w : Int) : Bool := applE o.a o.b o.c o.d o.e o.f o.g o.h o.i u v w
def annMapsLaw (a b c d e f : Int) (xs : List OpI) : Annos := ⟨1, fun id env h =>
  if id = 12 then forceE (keepS [4, 6, 7, 9, 11, 13, 15, 65, 66, 67] 0 env) fun env => (match h with
    | x0 :: x1 :: x2 :: x3 :: _ => some ⟨{ p : Nat × Bool // p.1 ≤ xs.length ∧ (keepsP a b c d e f xs = true → p.2 = true) }, fun p => (set (set env 67 (I' (p.1.1 : Int))) 15 (.v (.one (.sb p.1.2))), [x0, x1, x2, x3]), fun p => xs.length - p.1.1⟩
    | _ => none) else none, fun _ => none⟩
end Go.AM

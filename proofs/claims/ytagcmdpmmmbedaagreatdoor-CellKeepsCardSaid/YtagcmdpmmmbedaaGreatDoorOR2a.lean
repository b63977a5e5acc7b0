import Derived.Test.YtagcmdpmmmbedaaGreatDoorOR1
open Go Go.AM Go.Proofs
namespace Go.AM
open Dist
/-- the keys of maps of maps -/
def eqO (x y : OpI) : Bool := ((decide (x.a = y.a) && (decide (x.b = y.b) && (decide (x.c = y.c) && true))) && ((decide (x.d = y.d) && (decide (x.e = y.e) && (decide (x.f = y.f) && true))) && ((decide (x.g = y.g) && (decide (x.h = y.h) && (decide (x.i = y.i) && true))) && true))) && ((decide (x.x = y.x) && (decide (x.y = y.y) && (decide (x.z = y.z) && true))) && true)
theorem eqO_iff (x y : OpI) : eqO x y = true ↔ y = x := by
  unfold eqO
  simp only [Bool.and_true, Bool.and_eq_true, decide_eq_true_eq]
  refine ⟨fun h => ?_, fun h => by subst h; simp⟩
  obtain ⟨⟨⟨h1, h2, h3⟩, ⟨h4, h5, h6⟩, h7, h8, h9⟩, h10, h11, h12⟩ := h
  exact OpI.ext' h1.symm h2.symm h3.symm h4.symm h5.symm h6.symm h7.symm h8.symm h9.symm h10.symm h11.symm h12.symm
theorem keyOp : KeyLaw P 32 cOp := by
  refine ⟨fun (x y : OpI) => ⟨false, eqO x y, by kernel_rfl, eqO_iff x y⟩, fun (x : OpI) s hs => ?_⟩
  have : s ∈ opS x := hs
  simp only [opS, List.mem_cons, List.not_mem_nil, or_false] at this
  rcases this with h | h | h | h | h | h | h | h | h | h | h | h <;> (subst h; rfl)
/-- the places of a list's maps -/
def placesF : List OpI → Nat → List (OpI × Int) → List (OpI × Int)
  | [], _, es => es
  | o :: l, i, es => placesF l (i + 1) (mput cOp es o (i : Int))
def placesL (l : List OpI) : List (OpI × Int) := placesF l 0 []
def annPlaces (xs : List OpI) : Annos := ⟨1, fun id env h => if id = 3 then forceE (keepS [3, 7, 8, 9] 0 env) fun env => some ⟨{ p : Nat × List (OpI × Int) // p.1 ≤ xs.length ∧ placesF (xs.drop p.1) p.1 p.2 = placesL xs }, fun p => (set env 9 (I' (p.1.1 : Int)), headH 1 h ++ [.omp cOp p.1.2]), fun p => xs.length - p.1.1⟩ else none, fun _ => none⟩
end Go.AM

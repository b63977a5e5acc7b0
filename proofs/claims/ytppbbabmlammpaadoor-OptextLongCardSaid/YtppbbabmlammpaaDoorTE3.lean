import Derived.Test.YtppbbabmlammpaaDoorTE2
import Derived.Test.YtppbbabmlammpaaDoorTE4
set_option linter.unusedVariables false
set_option linter.unusedSimpArgs false
open Go Go.AM Go.Proofs
namespace Go.AM
open Dist
set_option maxRecDepth 100000
theorem bytes_ri (l : List UInt8) : SameRows biC (l.map fun b => (b.toNat : Int)) byC l := by
  refine ⟨List.length_map .., ?_⟩
  induction l with
  | nil => rfl
  | cons b l ih =>
    show [SV.sym .u8 (b.toNat : Int)] ++ flatC biC (l.map fun b => (b.toNat : Int)) = [SV.sym .u8 (b.toNat : Int)] ++ flatC byC l
    rw [ih]
theorem bytes_back : ∀ (l : List UInt8), List.map byteI (List.take l.length (List.drop 0 (l.map fun b => (b.toNat : Int)))) = l
  | [] => rfl
  | b :: l => by
    have := bytes_back l
    simp only [List.drop_zero, List.map_cons, List.length_cons, List.take_succ_cons] at this ⊢
    rw [this]
    congr 1
    simp [byteI]
end Go.AM

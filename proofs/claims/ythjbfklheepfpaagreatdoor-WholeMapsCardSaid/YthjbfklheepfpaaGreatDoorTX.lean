import Derived.Test.YthjbfklheepfpaaGreatDoorSH
import Derived.Test.YthjbfklheepfpaaGreatDoorGL
import Derived.Test.YthjbfklheepfpaaGreatDoorPXA
import Derived.Lib.AppendIntMem
set_option linter.unusedVariables false
set_option linter.unusedSimpArgs false
set_option maxHeartbeats 4000000
namespace Go.AM
open Go Go.Proofs Go.RowKit
def noEscQ : PSpec
  | [a] => .ok a
  | _ => .fail
def X0 : Sums := { pure := fun _ => none, spec := fun _ => none, ext := fun f => if f = 76 then some noEscQ else none }
theorem run_noEsc (v : Value) (w : World) : (callFunc 76 #[v]).run P w = .ok (.value v) w := by kernel_rfl
theorem pX0 : OkS P X0 := by
  refine ⟨fun f p h => (by cases h), ⟨fun f p h => (by cases h), fun f p hf args av hg pl vals hargs => ?_, fun f g h => (by cases h)⟩, fun f p h => (by cases h)⟩
  simp only [X0] at hf
  split at hf
  · rename_i e
    subst e
    cases hf
    unfold noEscQ at hg
    split at hg
    · rename_i a
      rw [gives_ok hg]
      match vals, hargs with
      | [v], hargs => exact ⟨v, hargs.1, fun w => run_noEsc v w⟩
      | [], hargs => exact hargs.elim
      | _ :: _ :: _, hargs => exact hargs.2.elim
    · exact (gives_fail hg).elim
  · cases hf
theorem hItoa : HoldsC P 39 (itoaQ Lib.itoa) := by
  refine itoa_ok ⟨_, Tryz.func39, by kernel_rfl⟩ fun n w h0 h1 ht => ?_
  refine (Any.strconv_Itoa Tryz.lays171 n h0 h1 w (tabAt_is ht Tryz.lays171.m17)).mono ?_
  rintro e w' ⟨rfl, k, os, rfl⟩
  exact ⟨rfl, Fr.of_below (Lib.below_grow _ _ (Nat.le_refl _) _ _)⟩
theorem hAtoi : HoldsC P 79 (atoiQ Lib.atoi) := by
  refine atoi_ok ⟨_, Tryz.func79, by kernel_rfl⟩ fun s n w hl hn => ?_
  refine (Any.strconv_Atoi Tryz.lays172 ⟨s.toArray⟩ n (by simpa [ByteArray.size] using hl) (by simpa using hn) w).mono ?_
  rintro e w' ⟨rfl, t, rfl⟩
  exact ⟨rfl, Fr.of_below ⟨rfl, rfl, rfl, by rw [Lib.bytesWorld_size]; omega, fun k hk => Lib.bytesWorld_at_old w _ _ k hk⟩⟩
def X1 : Sums := ((X0.add 39 (itoaQ Lib.itoa)).add 79 (atoiQ Lib.atoi)).addSp 42 joinSpec
theorem pX1 : OkS P X1 := ((pX0.addC hItoa).addC hAtoi).addJoin ⟨_, Tryz.func42, by kernel_rfl⟩ fun bk o c xs sep w h1 h2 h3 h4 h5 => Any.strings_Join Tryz.lays156 Tryz.extra156 bk o c xs sep w h1 h2 h3 h4 h5
end Go.AM

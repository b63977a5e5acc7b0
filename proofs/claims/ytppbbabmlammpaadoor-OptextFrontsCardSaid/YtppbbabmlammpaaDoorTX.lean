import Derived.Test.YtppbbabmlammpaaDoorSH
import Derived.Test.YtppbbabmlammpaaDoorGL
import Derived.Test.YtppbbabmlammpaaDoorAMLib
import Derived.Lib.AppendIntMem
set_option linter.unusedVariables false
set_option linter.unusedSimpArgs false
namespace Go.AM
open Go Go.Proofs Go.RowKit
def noEscQ : PSpec
  | [a] => .ok a
  | _ => .fail
def X0 : Sums := { pure := fun _ => none, spec := fun _ => none, ext := fun f => if f = 73 then some noEscQ else none }
theorem run_noEsc (v : Value) (w : World) : (callFunc 73 #[v]).run P w = .ok (.value v) w := by kernel_rfl
theorem pX0 : OkS P X0 := by
  refine ⟨fun f p h => (by cases h), ⟨fun f p h => (by cases h), fun f p hf args av hg pl vals hargs => ?_, fun f g h => (by cases h)⟩, fun f p h => (by cases h)⟩
  simp only [X0] at hf
  split at hf
  · rename_i e
    subst e
    cases hf
    unfold noEscQ at hg
    split at hg
    · rename_i a
      rw [gives_ok hg]
      match vals, hargs with
      | [v], hargs => exact ⟨v, hargs.1, fun w => run_noEsc v w⟩
      | [], hargs => exact hargs.elim
      | _ :: _ :: _, hargs => exact hargs.2.elim
    · exact (gives_fail hg).elim
  · cases hf
theorem hItoa : HoldsC P 30 (itoaQ Lib.itoa) := by
  refine itoa_ok ⟨_, Tryd.func30, by kernel_rfl⟩ fun n w h0 h1 ht => ?_
  refine (Any.strconv_Itoa Tryd.lays171 n h0 h1 w (tabAt_is ht Tryd.lays171.m17)).mono ?_
  rintro e w' ⟨rfl, k, os, rfl⟩
  exact ⟨rfl, Fr.of_below (Lib.below_grow _ _ (Nat.le_refl _) _ _)⟩
theorem hAtoi : HoldsC P 76 (atoiQ Lib.atoi) := by
  refine atoi_ok ⟨_, Tryd.func76, by kernel_rfl⟩ fun s n w hl hn => ?_
  refine (Any.strconv_Atoi Tryd.lays172 ⟨s.toArray⟩ n (by simpa [ByteArray.size] using hl) (by simpa using hn) w).mono ?_
  rintro e w' ⟨rfl, t, rfl⟩
  exact ⟨rfl, Fr.of_below ⟨rfl, rfl, rfl, by rw [Lib.bytesWorld_size]; omega, fun k hk => Lib.bytesWorld_at_old w _ _ k hk⟩⟩
def X1 : Sums := ((X0.add 30 (itoaQ Lib.itoa)).add 76 (atoiQ Lib.atoi)).addSp 32 joinSpec
theorem pX1 : OkS P X1 := ((pX0.addC hItoa).addC hAtoi).addJoin ⟨_, Tryd.func32, by kernel_rfl⟩ fun bk o c xs sep w h1 h2 h3 h4 h5 => Any.strings_Join Tryd.lays156 Tryd.extra156 bk o c xs sep w h1 h2 h3 h4 h5
end Go.AM

import Derived.Test.YtppbbabmlammpaaDoorTW3
import Derived.Test.YtppbbabmlammpaaDoorRD0
set_option linter.unusedVariables false
set_option linter.unusedSimpArgs false
open Go Go.AM Go.Proofs
namespace Go.AM
open Dist
set_option maxRecDepth 100000
theorem nflwr (a b c d e f g h i x y z : Int) (K : KV) : call P (W1s stdOn) noAnn 10000 Tryd.f3 [.v (.agg [.sym .i64 a, .sym .i64 b, .sym .i64 c, .sym .i64 d, .sym .i64 e, .sym .i64 f, .sym .i64 g, .sym .i64 h, .sym .i64 i, .sym .i64 x, .sym .i64 y, .sym .i64 z])] [] K = (((!decide ((wrT a b c d e f g h i x y z).fst = (wrT a b c d e f g h i x y z).fst)) = true → K (AV.v (PV.one (SV.cb false))) []) ∧ ((!decide ((wrT a b c d e f g h i x y z).fst = (wrT a b c d e f g h i x y z).fst)) = false → ((!decide ((wrT a b c d e f g h i x y z).snd = (wrT a b c d e f g h i x y z).snd)) = true → K (AV.v (PV.one (SV.cb false))) []) ∧ ((!decide ((wrT a b c d e f g h i x y z).snd = (wrT a b c d e f g h i x y z).snd)) = false → ((!decide ((wrT a b c d e f g h i x y z).snd = (0 : Int))) = true → K (AV.v (PV.one (SV.cb true))) []) ∧ ((!decide ((wrT a b c d e f g h i x y z).snd = (0 : Int))) = false → ((decide ((readF (wrT a b c d e f g h i x y z).fst).a = a) && (decide ((readF (wrT a b c d e f g h i x y z).fst).b = b) && (decide ((readF (wrT a b c d e f g h i x y z).fst).c = c) && true)) && (decide ((readF (wrT a b c d e f g h i x y z).fst).d = d) && (decide ((readF (wrT a b c d e f g h i x y z).fst).e = e) && (decide ((readF (wrT a b c d e f g h i x y z).fst).f = f) && true)) && (decide ((readF (wrT a b c d e f g h i x y z).fst).g = g) && (decide ((readF (wrT a b c d e f g h i x y z).fst).h = h) && (decide ((readF (wrT a b c d e f g h i x y z).fst).i = i) && true)) && true)) && (decide ((readF (wrT a b c d e f g h i x y z).fst).x = x) && (decide ((readF (wrT a b c d e f g h i x y z).fst).y = y) && (decide ((readF (wrT a b c d e f g h i x y z).fst).z = z) && true)) && true)) = true → (decide ((readF (wrT a b c d e f g h i x y z).fst).at' = (0 : Int)) = true → K (AV.v (PV.one (SV.sb (decide ((readF (wrT a b c d e f g h i x y z).fst).err = (0 : Int)))))) []) ∧ (decide ((readF (wrT a b c d e f g h i x y z).fst).at' = (0 : Int)) = false → K (AV.v (PV.one (SV.cb false))) [])) ∧ ((decide ((readF (wrT a b c d e f g h i x y z).fst).a = a) && (decide ((readF (wrT a b c d e f g h i x y z).fst).b = b) && (decide ((readF (wrT a b c d e f g h i x y z).fst).c = c) && true)) && (decide ((readF (wrT a b c d e f g h i x y z).fst).d = d) && (decide ((readF (wrT a b c d e f g h i x y z).fst).e = e) && (decide ((readF (wrT a b c d e f g h i x y z).fst).f = f) && true)) && (decide ((readF (wrT a b c d e f g h i x y z).fst).g = g) && (decide ((readF (wrT a b c d e f g h i x y z).fst).h = h) && (decide ((readF (wrT a b c d e f g h i x y z).fst).i = i) && true)) && true)) && (decide ((readF (wrT a b c d e f g h i x y z).fst).x = x) && (decide ((readF (wrT a b c d e f g h i x y z).fst).y = y) && (decide ((readF (wrT a b c d e f g h i x y z).fst).z = z) && true)) && true)) = false → K (AV.v (PV.one (SV.cb false))) []))))) := by kernel_rfl
theorem lawWrites (a b c d e f g h i x y z : Int) (hw : intsWf [.i64, .i64, .i64, .i64, .i64, .i64, .i64, .i64, .i64, .i64, .i64, .i64] [a, b, c, d, e, f, g, h, i, x, y, z]) :
    LawS (W1s stdOn) 10000 Tryd.f3 [.v (.agg [.sym .i64 a, .sym .i64 b, .sym .i64 c, .sym .i64 d, .sym .i64 e, .sym .i64 f, .sym .i64 g, .sym .i64 h, .sym .i64 i, .sym .i64 x, .sym .i64 y, .sym .i64 z])] := by
  clear hw
  refine ⟨?_⟩
  rw [nflwr]
  have no : ∀ {p : Prop} [Decidable p], p → ¬ (!decide p) = true := fun {p} _ hp q => by rw [decide_eq_true hp] at q; cases q
  refine ⟨fun q => (no rfl q).elim, fun _ => ⟨fun q => (no rfl q).elim, fun _ => ⟨fun _ => ⟨rfl, rfl⟩, fun q => ?_⟩⟩⟩
  have ho : opE a b c d e f g h i x y z = 0 := by
    by_cases ho : opE a b c d e f g h i x y z = 0
    · exact ho
    · have e2 : wrT a b c d e f g h i x y z = ([], opE a b c d e f g h i x y z) := by rw [wrT, if_neg ho]
      rw [e2] at q
      exact absurd (by simpa using q) ho
  have e1 : wrT a b c d e f g h i x y z = (mapT a b c d e f g h i x y z, 0) := by rw [wrT, if_pos ho]
  have hr := read_write ho
  rw [e1]
  show _ ∧ _
  simp only
  rw [hr]
  exact ⟨fun _ => ⟨fun _ => ⟨rfl, trivial⟩, fun q => absurd (of_decide_eq_false q) (fun hh => hh rfl)⟩, fun q => by simp at q⟩
end Go.AM

import Derived.Test.YtppbbabmlammpaaDoorPI
import Derived.Test.YtppbbabmlammpaaDoorTE0a
import Derived.Test.YtppbbabmlammpaaDoorRD0
set_option linter.unusedVariables false
set_option linter.unusedSimpArgs false
open Go Go.AM Go.Proofs
namespace Go.AM
open Dist
set_option maxRecDepth 100000
theorem nffrs (n : Int) (s : List UInt8) (K : KV) : call P (V1 stdOn) noAnn 10000 Tryd.f5 [.v (.one (.sym .i64 n)), .v (.one (.str s))] [] K = (((!decide ((rfracF s).fst = (rfracF s).fst)) = true → K (AV.v (PV.one (SV.cb false))) []) ∧ ((!decide ((rfracF s).fst = (rfracF s).fst)) = false → ((!decide ((rfracF s).snd.fst = (rfracF s).snd.fst)) = true → K (AV.v (PV.one (SV.cb false))) []) ∧ ((!decide ((rfracF s).snd.fst = (rfracF s).snd.fst)) = false → ((!decide ((rfracF s).snd.snd = (rfracF s).snd.snd)) = true → K (AV.v (PV.one (SV.cb false))) []) ∧ ((!decide ((rfracF s).snd.snd = (rfracF s).snd.snd)) = false → ((!decide (frT (mdR n) = frT (mdR n))) = true → K (AV.v (PV.one (SV.cb false))) []) ∧ ((!decide (frT (mdR n) = frT (mdR n))) = false → (decide ((rfracF (frT (mdR n))).snd.snd = (0 : Int)) = true → (decide ((rfracF (frT (mdR n))).snd.fst = (0 : Int)) = true → K (AV.v (PV.one (SV.sb (decide ((rfracF (frT (mdR n))).fst = (IntKind.i64.wrap (n.tmod (24 : Int) + (24 : Int))).tmod (24 : Int)))))) []) ∧ (decide ((rfracF (frT (mdR n))).snd.fst = (0 : Int)) = false → K (AV.v (PV.one (SV.cb false))) [])) ∧ (decide ((rfracF (frT (mdR n))).snd.snd = (0 : Int)) = false → K (AV.v (PV.one (SV.cb false))) [])))))) := by kernel_rfl
theorem sbU {b : Bool} (h : b = true) : (AV.v (PV.one (SV.sb b))).valOf = some (.bool true) ∧ ([] : Heap) = [] := by subst h; exact ⟨rfl, rfl⟩
theorem lawFractions (n : Int) (hn : (Lit.int .i64 n).wf = true) (s : List UInt8) (hs : s.length ≤ 9223372036854775807) : LawS (V1 stdOn) 10000 Tryd.f5 [.v (.one (.sym .i64 n)), .v (.one (.str s))] := by
  clear hs hn
  refine ⟨?_⟩
  rw [nffrs]
  obtain ⟨b0, b1, b2⟩ := mdR_bd n
  have hr := read_frT b0 b1
  have no : ∀ {p : Prop} [Decidable p], p → ¬ (!decide p) = true := fun {p} _ hp h => by rw [decide_eq_true hp] at h; cases h
  refine ⟨fun h => (no rfl h).elim, fun _ => ⟨fun h => (no rfl h).elim, fun _ => ⟨fun h => (no rfl h).elim, fun _ => ⟨fun h => (no rfl h).elim, fun _ => ⟨fun _ => ⟨fun _ => sbU (decide_eq_true ?_), fun h => ?_⟩, fun h => ?_⟩⟩⟩⟩⟩
  · rw [hr]
    rfl
  · rw [hr] at h
    exact absurd (of_decide_eq_false h) (fun hh => hh rfl)
  · rw [hr] at h
    exact absurd (of_decide_eq_false h) (fun hh => hh rfl)
end Go.AM

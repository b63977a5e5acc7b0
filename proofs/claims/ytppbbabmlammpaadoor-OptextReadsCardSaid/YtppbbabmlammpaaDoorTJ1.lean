import Derived.Test.YtppbbabmlammpaaDoorTI1
import Derived.Test.YtppbbabmlammpaaDoorRD0
set_option linter.unusedVariables false
set_option linter.unusedSimpArgs false
open Go Go.AM Go.Proofs
namespace Go.AM
open Dist
set_option maxRecDepth 100000
theorem nfrds (s : List UInt8) (K : KV) : call P (V1 stdOn) noAnn 10000 Tryd.f4 [.v (.one (.str s))] [] K = (((decide ((readF s).a = (readF s).a) && (decide ((readF s).b = (readF s).b) && (decide ((readF s).c = (readF s).c) && true)) && (decide ((readF s).d = (readF s).d) && (decide ((readF s).e = (readF s).e) && (decide ((readF s).f = (readF s).f) && true)) && (decide ((readF s).g = (readF s).g) && (decide ((readF s).h = (readF s).h) && (decide ((readF s).i = (readF s).i) && true)) && true)) && (decide ((readF s).x = (readF s).x) && (decide ((readF s).y = (readF s).y) && (decide ((readF s).z = (readF s).z) && true)) && true)) = true → (decide ((readF s).at' = (readF s).at') = true → K (AV.v (PV.one (SV.sb (decide ((readF s).err = (readF s).err))))) []) ∧ (decide ((readF s).at' = (readF s).at') = false → K (AV.v (PV.one (SV.cb false))) [])) ∧ ((decide ((readF s).a = (readF s).a) && (decide ((readF s).b = (readF s).b) && (decide ((readF s).c = (readF s).c) && true)) && (decide ((readF s).d = (readF s).d) && (decide ((readF s).e = (readF s).e) && (decide ((readF s).f = (readF s).f) && true)) && (decide ((readF s).g = (readF s).g) && (decide ((readF s).h = (readF s).h) && (decide ((readF s).i = (readF s).i) && true)) && true)) && (decide ((readF s).x = (readF s).x) && (decide ((readF s).y = (readF s).y) && (decide ((readF s).z = (readF s).z) && true)) && true)) = false → K (AV.v (PV.one (SV.cb false))) [])) := by kernel_rfl
theorem sbT {b : Bool} (h : b = true) : (AV.v (PV.one (SV.sb b))).valOf = some (.bool true) ∧ ([] : Heap) = [] := by subst h; exact ⟨rfl, rfl⟩
theorem eqD {a : Int} (h : decide (a = a) = false) : False := by simp at h
theorem lawReads (s : List UInt8) (hs : s.length ≤ 9223372036854775807) : LawS (V1 stdOn) 10000 Tryd.f4 [.v (.one (.str s))] := by
  clear hs
  refine ⟨?_⟩
  rw [nfrds]
  refine ⟨fun _ => ⟨fun _ => sbT (decide_eq_true rfl), fun h => (eqD h).elim⟩, fun h => ?_⟩
  simp at h
end Go.AM

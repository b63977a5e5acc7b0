import Derived.Test.YthjbfklheepfpaaGreatDoorFN0
import Derived.Test.YthjbfklheepfpaaGreatDoorP3
import Derived.Test.YthjbfklheepfpaaGreatDoorRows
import Derived.LaidMore
import Derived.LaidSub
import Derived.ChangeMaps5
set_option linter.unusedVariables false
set_option linter.unusedSimpArgs false
set_option maxHeartbeats 4000000
namespace Go.AM
open Go Go.Proofs
structure LawS (S : Sums) (n : Nat) (fn : Func) (args : List AV) (A : Annos := noAnn) : Prop where
  out : call P S A n fn args [] (fun v h => v.valOf = some (.bool true) ∧ h = [])
theorem law_callsD {S : Sums} (ok : OkS P S) {f : Nat} {fn : Func} (hf : P.funcs[f]? = some fn) {args : List AV} {n : Nat} {A : Annos} (hc : LawS S n fn args A) {vals : List Value} (hargs : ArgsR [] args vals) (w : World) (ht : tabAt w) (hA : A.q = 0 := by rfl) :
    Calls P f vals.toArray w fun e w' => e = .returned (.bool true) ∧ Fr w (fun _ => False) w' := by
  have hc := call_sound (P := P) (S := S) (vals := vals) fine ok.pure ok.spec ok.mono hf hc.out (.inl hA) (empty_R w ht) hargs
  refine hc.mono fun e w' hp => ?_
  obtain ⟨v, av, h', pl', rfl, hv, hpe, hR, hval, rfl⟩ := hp
  have hpl : pl' = [] := List.length_eq_zero_iff.1 hR.len
  subst hpl
  rw [(AV.valOf_spec hval).2 v hv]
  exact ⟨rfl, hR.fr⟩
theorem tab_of_laid {l : List (String × DataW Unit)} {W : World} (hl : l.filter (fun x => x.1 == "internal/strconv.uint64pow10") = [("internal/strconv.uint64pow10", Lib.tabData .u64 Lib.pow10Tab)]) (h : laidMetH P l W) : tabAt W := by
  have h1 := Go.laidMetH.filter (fun x => x.1 == "internal/strconv.uint64pow10") h
  rw [hl] at h1
  have h2 := (laidMetH_iff.1 h1).1
  refine tabAt_of fun g hg => ?_
  have h3 : laidMet P [("internal/strconv.uint64pow10", Lib.tabData .u64 Lib.pow10Tab)] W := h2
  obtain rfl := Option.some.inj ((show P.globalNamed "internal/strconv.uint64pow10" = some 0 by kernel_rfl).symm.trans hg)
  exact Lib.tabIs_of_head hg (show (P.globals[0]?).map (·.type) = some 135 by kernel_rfl) Tryz.underlying135 Tryz.underlying127 (by kernel_rfl) (by kernel_rfl) h3
end Go.AM

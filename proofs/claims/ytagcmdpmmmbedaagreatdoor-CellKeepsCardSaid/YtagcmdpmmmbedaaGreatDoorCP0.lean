import Derived.Test.YtagcmdpmmmbedaaGreatDoorCL0
import Derived.Test.YtagcmdpmmmbedaaGreatDoorP3
namespace Go.AM
open Go Go.Proofs
/-- a law answers true -/
structure LawS (S : Sums) (n : Nat) (fn : Func) (args : List AV) (A : Annos := noAnn) : Prop where
  out : call P S A n fn args [] (fun v h => v.valOf = some (.bool true) ∧ h = [])
/-- a law that the machine shows to answer true -/
theorem law_callsS {S : Sums} (ok : PureOk Tryz.prog S) (so : SpecOk Tryz.prog S) (sm : SpecMono S) {f : Nat} {fn : Func} (hf : Tryz.prog.funcs[f]? = some fn) {args : List AV} {n : Nat} {A : Annos} (hc : LawS S n fn args A) {vals : List Value} (hargs : ArgsR [] args vals) (w : World) (hA : A.q = 0 := by rfl) :
    Calls Tryz.prog f vals.toArray w fun e w' => e = .returned (.bool true) ∧ Fr w (fun _ => False) w' := by
  have hc := call_sound (P := Tryz.prog) (S := S) (vals := vals) fine ok so sm hf hc.out (.inl hA) (start w) hargs
  refine hc.mono fun e w' hp => ?_
  obtain ⟨v, av, h', pl', rfl, hv, hpe, hR, hval, rfl⟩ := hp
  have hpl : pl' = [] := List.length_eq_zero_iff.1 hR.len
  subst hpl
  rw [(AV.valOf_spec hval).2 v hv]
  exact ⟨rfl, hR.fr⟩
end Go.AM

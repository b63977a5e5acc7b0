import Derived.Test.YtcinopdklobldaaGreatDoorCL0
import Derived.Test.YtcinopdklobldaaGreatDoorAMFlat
import Derived.Test.YtcinopdklobldaaGreatDoorCO
namespace Go.AM
open Go Go.Proofs
theorem smD7 : SpecMono D7 := smG0
theorem soD7 : SpecOk Tryz.prog D7 := soG0
theorem okD7 : PureOk Tryz.prog D7 := (PureOk.add fine okD6 soD6 smD6 (PureOk.add fine okD6 soD6 smD6 okD6 hc24) hc25)
/-- a law that the machine shows to answer true -/
theorem law_callsS {S : Sums} (ok : PureOk Tryz.prog S) (so : SpecOk Tryz.prog S) (sm : SpecMono S) {f : Nat} {fn : Func} (hf : Tryz.prog.funcs[f]? = some fn) {args : List AV} {n : Nat} (hc : LawS S n fn args) {vals : List Value} (hargs : ArgsR [] args vals) (w : World) :
    Calls Tryz.prog f vals.toArray w fun e w' => e = .returned (.bool true) ∧ Fr w (fun _ => False) w' := by
  have hc := call_sound (P := Tryz.prog) (S := S) (vals := vals) fine ok so sm hf hc.out (.inr rfl) (start w) hargs
  refine hc.mono fun e w' hp => ?_
  obtain ⟨v, av, h', pl', rfl, hv, hpe, hR, hval, rfl⟩ := hp
  have hpl : pl' = [] := List.length_eq_zero_iff.1 hR.len
  subst hpl
  rw [(AV.valOf_spec hval).2 v hv]
  exact ⟨rfl, hR.fr⟩
end Go.AM

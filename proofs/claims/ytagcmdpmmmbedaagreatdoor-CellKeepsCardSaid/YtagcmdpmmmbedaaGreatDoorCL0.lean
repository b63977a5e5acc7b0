import Derived.Test.YtagcmdpmmmbedaaGreatDoorFN0
import Derived.Test.YtagcmdpmmmbedaaGreatDoorP3
import Derived.Test.YtagcmdpmmmbedaaGreatDoorCK
namespace Go.AM
open Go Go.Proofs
theorem smG0 : SpecMono G0 := fun f sp h => by cases h
theorem soG0 : SpecOk Tryz.prog G0 := ⟨(fun f sp h => by cases h), ext0⟩
theorem okG0 : PureOk Tryz.prog G0 := fun f p h => by cases h
theorem smG1 : SpecMono G1 := smG0
theorem soG1 : SpecOk Tryz.prog G1 := soG0
theorem okG1 : PureOk Tryz.prog G1 := (PureOk.add fine okG0 soG0 smG0 (PureOk.add fine okG0 soG0 smG0 (PureOk.add fine okG0 soG0 smG0 okG0 h19) h16) h27)
theorem smG2 : SpecMono G2 := smG0
theorem soG2 : SpecOk Tryz.prog G2 := soG0
theorem okG2 : PureOk Tryz.prog G2 := (PureOk.add fine okG1 soG1 smG1 (PureOk.add fine okG1 soG1 smG1 (PureOk.add fine okG1 soG1 smG1 okG1 h35) h21) h22)
theorem smG3 : SpecMono G3 := smG0
theorem soG3 : SpecOk Tryz.prog G3 := soG0
theorem okG3 : PureOk Tryz.prog G3 := (PureOk.add fine okG2 soG2 smG2 (PureOk.add fine okG2 soG2 smG2 okG2 h25) h6)
theorem smG4 : SpecMono G4 := smG0
theorem soG4 : SpecOk Tryz.prog G4 := soG0
theorem okG4 : PureOk Tryz.prog G4 := (PureOk.add fine okG3 soG3 smG3 (PureOk.add fine okG3 soG3 smG3 okG3 h20) h10)
theorem smG7 : SpecMono G7 := smG0
theorem soG7 : SpecOk Tryz.prog G7 := soG0
theorem okG7 : PureOk Tryz.prog G7 := (PureOk.add fine okG3 soG3 smG3 (PureOk.add fine okG3 soG3 smG3 okG4 h20k) h10k)
theorem smD1 : SpecMono D1 := smG0
theorem soD1 : SpecOk Tryz.prog D1 := soG0
theorem okD1 : PureOk Tryz.prog D1 := (PureOk.add fine okG4 soG4 smG4 (PureOk.add fine okG4 soG4 smG4 (PureOk.add fine okG4 soG4 smG4 (PureOk.add fine okG4 soG4 smG4 (PureOk.add fine okG7 soG7 smG7 okG4 h8) hc14) hc16) hc31) hc37)
theorem smD2 : SpecMono D2 := smG0
theorem soD2 : SpecOk Tryz.prog D2 := soG0
theorem okD2 : PureOk Tryz.prog D2 := (PureOk.add fine okD1 soD1 smD1 okD1 hc13)
theorem smD3 : SpecMono D3 := smG0
theorem soD3 : SpecOk Tryz.prog D3 := soG0
theorem okD3 : PureOk Tryz.prog D3 := (PureOk.add fine okD2 soD2 smD2 okD2 hc22)
theorem smD4 : SpecMono D4 := smG0
theorem soD4 : SpecOk Tryz.prog D4 := soG0
theorem okD4 : PureOk Tryz.prog D4 := (PureOk.add fine okD3 soD3 smD3 (PureOk.add fine okD3 soD3 smD3 okD3 hc38) hc39)
theorem smD5 : SpecMono D5 := smG0
theorem soD5 : SpecOk Tryz.prog D5 := soG0
theorem okD5 : PureOk Tryz.prog D5 := (PureOk.add fine okD4 soD4 smD4 okD4 hc18)
theorem smD6 : SpecMono D6 := smG0
theorem soD6 : SpecOk Tryz.prog D6 := soG0
theorem okD6 : PureOk Tryz.prog D6 := (PureOk.add fine okD5 soD5 smD5 okD5 hc11)
theorem start (w : World) : HRel w noMarks [] [] w := empty_R w
/-- a law that the machine shows to answer true -/
theorem law_calls {f : Nat} {fn : Func} (hf : Tryz.prog.funcs[f]? = some fn) {args : List AV} {n : Nat} (hc : call P D6 noAnn n fn args [] (fun v h => v.valOf = some (.bool true) ∧ h = [])) {vals : List Value} (hargs : ArgsR [] args vals) (w : World) :
    Calls Tryz.prog f vals.toArray w fun e w' => e = .returned (.bool true) ∧ Fr w (fun _ => False) w' := by
  have hc := call_sound (P := Tryz.prog) (S := D6) (vals := vals) fine okD6 soD6 smD6 hf hc (.inr rfl) (start w) hargs
  refine hc.mono fun e w' hp => ?_
  obtain ⟨v, av, h', pl', rfl, hv, hpe, hR, hval, rfl⟩ := hp
  have hpl : pl' = [] := List.length_eq_zero_iff.1 hR.len
  subst hpl
  rw [(AV.valOf_spec hval).2 v hv]
  exact ⟨rfl, hR.fr⟩
theorem cells23 : Tryz.prog.cellsOf 23 = 6 := by kernel_rfl
theorem cells3 : Tryz.prog.cellsOf 3 = 1 := by kernel_rfl
theorem cells25 : Tryz.prog.cellsOf 28 = 3 := by kernel_rfl
end Go.AM

import Derived.Test.YtcinopdklobldaaGreatDoorCS3
import Derived.Test.YtcinopdklobldaaGreatDoorCP0
open Go Go.AM Go.Proofs
namespace Go.AM
open Dist
set_option maxRecDepth 100000
theorem nflawsp (a b c d e f x y z : Int) (K : KV) : call P D10 noAnn 3000 Tryz.f4 [M6 a b c d e f, V x y z] [] K = (((decide (spN a b c d e f x y z = spN a b c d e f x y z) && (decide (spD a b c d e f x y z = spD a b c d e f x y z) && true)) = true → K (AV.v (PV.one (SV.sb (decide (spE a b c d e f x y z = spE a b c d e f x y z))))) []) ∧ ((decide (spN a b c d e f x y z = spN a b c d e f x y z) && (decide (spD a b c d e f x y z = spD a b c d e f x y z) && true)) = false → K (AV.v (PV.one (SV.cb false))) [])) := by kernel_rfl
theorem lawSpacings (a b c d e f x y z : Int) : LawS D10 3000 Tryz.f4 [M6 a b c d e f, V x y z] := by
  constructor
  rw [nflawsp]
  refine ⟨fun _ => ⟨by rw [decide_eq_true rfl]; rfl, rfl⟩, fun h => by simp at h⟩
theorem smD8 : SpecMono D8 := smG0
theorem soD8 : SpecOk Tryz.prog D8 := soG0
theorem okD8 : PureOk Tryz.prog D8 := PureOk.add fine okD3 soD3 smD3 okD6 hcCommon
theorem smD9 : SpecMono D9 := smG0
theorem soD9 : SpecOk Tryz.prog D9 := soG0
theorem okD9 : PureOk Tryz.prog D9 := (PureOk.add fine okD8 soD8 smD8 (PureOk.add fine okD8 soD8 smD8 (PureOk.add fine okD8 soD8 smD8 okD8 hcLow) hcAdjg) hcSpacing)
theorem smD10 : SpecMono D10 := smG0
theorem soD10 : SpecOk Tryz.prog D10 := soG0
theorem okD10 : PureOk Tryz.prog D10 := PureOk.add fine okD9 soD9 smD9 okD9 hcDocSp
end Go.AM

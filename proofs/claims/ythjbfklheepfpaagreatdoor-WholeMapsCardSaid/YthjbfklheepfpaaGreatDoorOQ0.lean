import Derived.Test.YthjbfklheepfpaaGreatDoorOH
import Derived.Test.YthjbfklheepfpaaGreatDoorFN0
set_option linter.unusedVariables false
set_option linter.unusedSimpArgs false
set_option maxHeartbeats 4000000
open Go Go.AM Go.Proofs
namespace Go.AM
theorem pO0 : OkS P O0 := (pG0.add1 fine pG0 h19)
theorem pO1 : OkS P O1 := ((pO0.add1 fine pO0 oh65).add1 fine pO0 oh46)
theorem pO2 : OkS P O2 := ((((pO1.add1 fine pO1 oh38).add1 fine pO1 oh29).add1 fine pO1 oh51).add1 fine pO1 oh63)
theorem pO3 : OkS P O3 := (((pO2.add1 fine pO2 oh47).add1 fine pO2 oh33).add1 fine pO2 oh50)
theorem pO4 : OkS P O4 := (((pO3.add1 fine pO3 oh34).add1 fine pO3 oh40).add1 fine pO3 oh49)
theorem pO5 : OkS P O5 := (((pO4.add1 fine pO4 oh41).add1 fine pO4 oh15).add1 fine pO4 oh48)
theorem pO6 : OkS P O6 := (pO5.add1 fine pO5 ohMul)
end Go.AM

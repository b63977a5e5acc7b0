/-
  DERIVED. GIVEN WITH THE SEED: THE CARDS: each row of YtppbbabmlammpaaDoorRows.lean that lists a variable, with what it lists TIED to the program's text (the seventh form; the later family's looks); each row that meets fmt, with fmt's text TOLD by the authors' own Lean function (tested against real Go, not proved from fmt's source: count such statements apart). THE CARD IS WHAT COUNTS. Prove the row's statement (the work); the ties are given (YtppbbabmlammpaaDoorTie.lean); close each card by the builder's one call (the guide's Derived/Test/ToyasCard.lean, 'card_holds'). Laid BY PROGRAM, IN A SANDBOX (cutbox-door.mjs). By AI agents, Wed Nov 11 2026. No macro, syntax, notation, axiom, sorry.
-/
import Derived.Test.YtppbbabmlammpaaDoorRows
import GoSem.ClaimSeven
namespace Go.Proofs.YtppbbabmlammpaaDoor
namespace Rows

/-- THE TIED CARD OF 'facetlaw04.OptextWrites'. -/
def optextWritesCard : Claim7 := { stood := { row := optextWritesRow, standIns := [], harness := (true, "8c15bceb3fca656aa6d55eb4fec914d91db9c7b34426340313c5a10becd786bf"), looks := true }, kinds := [], alts := [], laidByText := true, laidKinds := [.data, .data, .data, .sentinel, .sentinel], laidTests := true, laidLooks := .later }
def OptextWritesCardSaid : Prop := Claim7.holds Tryd.pinned (.plain (OpenSpec.ofChange optextWritesSpec)) optextWritesCard

/-- THE TIED CARD OF 'facetlaw04.OptextReads'. -/
def optextReadsCard : Claim7 := { stood := { row := optextReadsRow, standIns := [], harness := (true, "8c15bceb3fca656aa6d55eb4fec914d91db9c7b34426340313c5a10becd786bf"), looks := true }, kinds := [], alts := [], laidByText := true, laidKinds := [.data, .data, .data, .sentinel, .sentinel], laidTests := true, laidLooks := .later }
def OptextReadsCardSaid : Prop := Claim7.holds Tryd.pinned (.plain (OpenSpec.ofChange optextReadsSpec)) optextReadsCard

/-- THE TIED CARD OF 'facetlaw04.OptextFractions'. -/
def optextFractionsCard : Claim7 := { stood := { row := optextFractionsRow, standIns := [], harness := (true, "8c15bceb3fca656aa6d55eb4fec914d91db9c7b34426340313c5a10becd786bf"), looks := true }, kinds := [], alts := [], laidByText := true, laidKinds := [.data, .data, .data, .sentinel, .sentinel], laidTests := true, laidLooks := .later }
def OptextFractionsCardSaid : Prop := Claim7.holds Tryd.pinned (.plain (OpenSpec.ofChange optextFractionsSpec)) optextFractionsCard

/-- THE TIED CARD OF 'facetlaw04.OptextBlanks'. -/
def optextBlanksCard : Claim7 := { stood := { row := optextBlanksRow, standIns := [], harness := (true, "8c15bceb3fca656aa6d55eb4fec914d91db9c7b34426340313c5a10becd786bf"), looks := true }, kinds := [], alts := [], laidByText := true, laidKinds := [.data, .data, .data, .sentinel, .sentinel], laidTests := true, laidLooks := .later }
def OptextBlanksCardSaid : Prop := Claim7.holds Tryd.pinned (.plain (OpenSpec.ofChange optextBlanksSpec)) optextBlanksCard

/-- THE TIED CARD OF 'facetlaw04.OptextTerms'. -/
def optextTermsCard : Claim7 := { stood := { row := optextTermsRow, standIns := [], harness := (true, "8c15bceb3fca656aa6d55eb4fec914d91db9c7b34426340313c5a10becd786bf"), looks := true }, kinds := [], alts := [], laidByText := true, laidKinds := [.data, .data, .data, .sentinel, .sentinel], laidTests := true, laidLooks := .later }
def OptextTermsCardSaid : Prop := Claim7.holds Tryd.pinned (.plain (OpenSpec.ofChange optextTermsSpec)) optextTermsCard

/-- THE TIED CARD OF 'facetlaw04.OptextFronts'. -/
def optextFrontsCard : Claim7 := { stood := { row := optextFrontsRow, standIns := [], harness := (true, "8c15bceb3fca656aa6d55eb4fec914d91db9c7b34426340313c5a10becd786bf"), looks := true }, kinds := [], alts := [], laidByText := true, laidKinds := [.data, .data, .data, .sentinel, .sentinel], laidTests := true, laidLooks := .later }
def OptextFrontsCardSaid : Prop := Claim7.holds Tryd.pinned (.plain (OpenSpec.ofChange optextFrontsSpec)) optextFrontsCard

/-- THE TIED CARD OF 'facetlaw04.OptextLong'. -/
def optextLongCard : Claim7 := { stood := { row := optextLongRow, standIns := [], harness := (true, "8c15bceb3fca656aa6d55eb4fec914d91db9c7b34426340313c5a10becd786bf"), looks := true }, kinds := [], alts := [], laidByText := true, laidKinds := [.data, .data, .data, .sentinel, .sentinel], laidTests := true, laidLooks := .later }
def OptextLongCardSaid : Prop := Claim7.holds Tryd.pinned (.plain (OpenSpec.ofChange optextLongSpec)) optextLongCard

/-- THE TIED CARD OF 'facettop.WholeMapTexts'. -/
def wholeMapTextsCard : Claim7 := { stood := { row := wholeMapTextsRow, standIns := [], harness := (true, "8c15bceb3fca656aa6d55eb4fec914d91db9c7b34426340313c5a10becd786bf"), looks := true }, kinds := [], alts := [], laidByText := true, laidKinds := [.data, .data, .data, .sentinel, .sentinel], laidTests := true, laidLooks := .later }
def WholeMapTextsCardSaid : Prop := Claim7.holds Tryd.pinned (.plain (OpenSpec.ofChange wholeMapTextsSpec)) wholeMapTextsCard

/-- THE SECOND FORM's CARD OF 'facetlaw04.OptextWrites'. -/
def optextWritesUptoCard : Claim7 := { stood := { row := optextWritesUptoRow, standIns := [], harness := (true, "8c15bceb3fca656aa6d55eb4fec914d91db9c7b34426340313c5a10becd786bf"), looks := true }, kinds := [], alts := [], laidByText := true, laidKinds := [.data, .data, .data, .sentinel, .sentinel], laidTests := true, laidLooks := .later }
def OptextWritesUptoCardSaid : Prop := Claim7.holds Tryd.pinned (.plain (OpenSpec.upto optextWritesSpec)) optextWritesUptoCard

/-- THE SECOND FORM's CARD OF 'facetlaw04.OptextReads'. -/
def optextReadsUptoCard : Claim7 := { stood := { row := optextReadsUptoRow, standIns := [], harness := (true, "8c15bceb3fca656aa6d55eb4fec914d91db9c7b34426340313c5a10becd786bf"), looks := true }, kinds := [], alts := [], laidByText := true, laidKinds := [.data, .data, .data, .sentinel, .sentinel], laidTests := true, laidLooks := .later }
def OptextReadsUptoCardSaid : Prop := Claim7.holds Tryd.pinned (.plain (OpenSpec.upto optextReadsSpec)) optextReadsUptoCard

/-- THE SECOND FORM's CARD OF 'facetlaw04.OptextFractions'. -/
def optextFractionsUptoCard : Claim7 := { stood := { row := optextFractionsUptoRow, standIns := [], harness := (true, "8c15bceb3fca656aa6d55eb4fec914d91db9c7b34426340313c5a10becd786bf"), looks := true }, kinds := [], alts := [], laidByText := true, laidKinds := [.data, .data, .data, .sentinel, .sentinel], laidTests := true, laidLooks := .later }
def OptextFractionsUptoCardSaid : Prop := Claim7.holds Tryd.pinned (.plain (OpenSpec.upto optextFractionsSpec)) optextFractionsUptoCard

/-- THE SECOND FORM's CARD OF 'facetlaw04.OptextBlanks'. -/
def optextBlanksUptoCard : Claim7 := { stood := { row := optextBlanksUptoRow, standIns := [], harness := (true, "8c15bceb3fca656aa6d55eb4fec914d91db9c7b34426340313c5a10becd786bf"), looks := true }, kinds := [], alts := [], laidByText := true, laidKinds := [.data, .data, .data, .sentinel, .sentinel], laidTests := true, laidLooks := .later }
def OptextBlanksUptoCardSaid : Prop := Claim7.holds Tryd.pinned (.plain (OpenSpec.upto optextBlanksSpec)) optextBlanksUptoCard

/-- THE SECOND FORM's CARD OF 'facetlaw04.OptextTerms'. -/
def optextTermsUptoCard : Claim7 := { stood := { row := optextTermsUptoRow, standIns := [], harness := (true, "8c15bceb3fca656aa6d55eb4fec914d91db9c7b34426340313c5a10becd786bf"), looks := true }, kinds := [], alts := [], laidByText := true, laidKinds := [.data, .data, .data, .sentinel, .sentinel], laidTests := true, laidLooks := .later }
def OptextTermsUptoCardSaid : Prop := Claim7.holds Tryd.pinned (.plain (OpenSpec.upto optextTermsSpec)) optextTermsUptoCard

/-- THE SECOND FORM's CARD OF 'facetlaw04.OptextFronts'. -/
def optextFrontsUptoCard : Claim7 := { stood := { row := optextFrontsUptoRow, standIns := [], harness := (true, "8c15bceb3fca656aa6d55eb4fec914d91db9c7b34426340313c5a10becd786bf"), looks := true }, kinds := [], alts := [], laidByText := true, laidKinds := [.data, .data, .data, .sentinel, .sentinel], laidTests := true, laidLooks := .later }
def OptextFrontsUptoCardSaid : Prop := Claim7.holds Tryd.pinned (.plain (OpenSpec.upto optextFrontsSpec)) optextFrontsUptoCard

/-- THE SECOND FORM's CARD OF 'facetlaw04.OptextLong'. -/
def optextLongUptoCard : Claim7 := { stood := { row := optextLongUptoRow, standIns := [], harness := (true, "8c15bceb3fca656aa6d55eb4fec914d91db9c7b34426340313c5a10becd786bf"), looks := true }, kinds := [], alts := [], laidByText := true, laidKinds := [.data, .data, .data, .sentinel, .sentinel], laidTests := true, laidLooks := .later }
def OptextLongUptoCardSaid : Prop := Claim7.holds Tryd.pinned (.plain (OpenSpec.upto optextLongSpec)) optextLongUptoCard

/-- THE SECOND FORM's CARD OF 'facettop.WholeMapTexts'. -/
def wholeMapTextsUptoCard : Claim7 := { stood := { row := wholeMapTextsUptoRow, standIns := [], harness := (true, "8c15bceb3fca656aa6d55eb4fec914d91db9c7b34426340313c5a10becd786bf"), looks := true }, kinds := [], alts := [], laidByText := true, laidKinds := [.data, .data, .data, .sentinel, .sentinel], laidTests := true, laidLooks := .later }
def WholeMapTextsUptoCardSaid : Prop := Claim7.holds Tryd.pinned (.plain (OpenSpec.upto wholeMapTextsSpec)) wholeMapTextsUptoCard
end Rows
end Go.Proofs.YtppbbabmlammpaaDoor

/-
  DERIVED. GIVEN WITH THE SEED: THE CARDS: each row of YtcinopdklobldaaGreatDoorRows.lean that lists a variable, with what it lists TIED to the program's text (the seventh form; the later family's looks); each row that meets fmt, with fmt's text TOLD by the authors' own Lean function (tested against real Go, not proved from fmt's source: count such statements apart). THE CARD IS WHAT COUNTS. Prove the row's statement (the work); the ties are given (YtcinopdklobldaaGreatDoorTie.lean); close each card by the builder's one call (the guide's Derived/Test/ToyasCard.lean, 'card_holds'). Laid BY PROGRAM, IN A SANDBOX (cutbox-door.mjs). By AI agents, Wed Nov 11 2026. No macro, syntax, notation, axiom, sorry.
-/
import Derived.Test.YtcinopdklobldaaGreatDoorRows
import GoSem.ClaimSeven
namespace Go.Proofs.YtcinopdklobldaaGreatDoor
namespace Rows

/-- THE TIED CARD OF 'facetlaw11.CellChecks'. -/
def cellChecksCard : Claim7 := { stood := { row := cellChecksRow, standIns := [], harness := (true, "6f77d121f63fddebb7a07aa89324b64622a08d3e1abc3c6973bda436b7808a0a"), looks := true }, kinds := [], alts := [], laidByText := true, laidKinds := [.data, .data, .data, .data, .data, .data, .data], laidTests := true, laidLooks := .later }
def CellChecksCardSaid : Prop := Claim7.holds Tryz.pinned (.plain (OpenSpec.ofChange cellChecksSpec)) cellChecksCard

/-- THE TIED CARD OF 'facetlaw11.CellSpacings'. -/
def cellSpacingsCard : Claim7 := { stood := { row := cellSpacingsRow, standIns := [], harness := (true, "6f77d121f63fddebb7a07aa89324b64622a08d3e1abc3c6973bda436b7808a0a"), looks := true }, kinds := [], alts := [], laidByText := true, laidKinds := [.data, .data, .data, .data, .data, .data, .data], laidTests := true, laidLooks := .later }
def CellSpacingsCardSaid : Prop := Claim7.holds Tryz.pinned (.plain (OpenSpec.ofChange cellSpacingsSpec)) cellSpacingsCard

/-- THE TIED CARD OF 'facetlaw11.CellFars'. -/
def cellFarsCard : Claim7 := { stood := { row := cellFarsRow, standIns := [], harness := (true, "6f77d121f63fddebb7a07aa89324b64622a08d3e1abc3c6973bda436b7808a0a"), looks := true }, kinds := [], alts := [], laidByText := true, laidKinds := [.data, .data, .data, .data, .data, .data, .data], laidTests := true, laidLooks := .later }
def CellFarsCardSaid : Prop := Claim7.holds Tryz.pinned (.plain (OpenSpec.ofChange cellFarsSpec)) cellFarsCard

/-- THE TIED CARD OF 'facetlaw11.CellCompares'. -/
def cellComparesCard : Claim7 := { stood := { row := cellComparesRow, standIns := [], harness := (true, "6f77d121f63fddebb7a07aa89324b64622a08d3e1abc3c6973bda436b7808a0a"), looks := true }, kinds := [], alts := [], laidByText := true, laidKinds := [.data, .data, .data, .data, .data, .data, .data], laidTests := true, laidLooks := .later }
def CellComparesCardSaid : Prop := Claim7.holds Tryz.pinned (.plain (OpenSpec.ofChange cellComparesSpec)) cellComparesCard

/-- THE TIED CARD OF 'facetlaw11.CellSquares'. -/
def cellSquaresCard : Claim7 := { stood := { row := cellSquaresRow, standIns := [], harness := (true, "6f77d121f63fddebb7a07aa89324b64622a08d3e1abc3c6973bda436b7808a0a"), looks := true }, kinds := [], alts := [], laidByText := true, laidKinds := [.data, .data, .data, .data, .data, .data, .data], laidTests := true, laidLooks := .later }
def CellSquaresCardSaid : Prop := Claim7.holds Tryz.pinned (.plain (OpenSpec.ofChange cellSquaresSpec)) cellSquaresCard

/-- THE TIED CARD OF 'facetlaw11.CellDual'. -/
def cellDualCard : Claim7 := { stood := { row := cellDualRow, standIns := [], harness := (true, "6f77d121f63fddebb7a07aa89324b64622a08d3e1abc3c6973bda436b7808a0a"), looks := true }, kinds := [], alts := [], laidByText := true, laidKinds := [.data, .data, .data, .data, .data, .data, .data], laidTests := true, laidLooks := .later }
def CellDualCardSaid : Prop := Claim7.holds Tryz.pinned (.plain (OpenSpec.ofChange cellDualSpec)) cellDualCard

/-- THE TIED CARD OF 'facetlaw11.CellTotal'. -/
def cellTotalCard : Claim7 := { stood := { row := cellTotalRow, standIns := [], harness := (true, "6f77d121f63fddebb7a07aa89324b64622a08d3e1abc3c6973bda436b7808a0a"), looks := true }, kinds := [], alts := [], laidByText := true, laidKinds := [.data, .data, .data, .data, .data, .data, .data], laidTests := true, laidLooks := .later }
def CellTotalCardSaid : Prop := Claim7.holds Tryz.pinned (.plain (OpenSpec.ofChange cellTotalSpec)) cellTotalCard

/-- THE TIED CARD OF 'facetlaw11.CellKeeps'. -/
def cellKeepsCard : Claim7 := { stood := { row := cellKeepsRow, standIns := [], harness := (true, "6f77d121f63fddebb7a07aa89324b64622a08d3e1abc3c6973bda436b7808a0a"), looks := true }, kinds := [], alts := [], laidByText := true, laidKinds := [.data, .data, .data, .data, .data, .data, .data], laidTests := true, laidLooks := .later }
def CellKeepsCardSaid : Prop := Claim7.holds Tryz.pinned (.plain (OpenSpec.ofChange cellKeepsSpec)) cellKeepsCard

/-- THE TIED CARD OF 'facetlaw11.CellMaps'. -/
def cellMapsCard : Claim7 := { stood := { row := cellMapsRow, standIns := [], harness := (true, "6f77d121f63fddebb7a07aa89324b64622a08d3e1abc3c6973bda436b7808a0a"), looks := true }, kinds := [], alts := [], laidByText := true, laidKinds := [.data, .data, .data, .data, .data, .data, .data], laidTests := true, laidLooks := .later }
def CellMapsCardSaid : Prop := Claim7.holds Tryz.pinned (.plain (OpenSpec.ofChange cellMapsSpec)) cellMapsCard

/-- THE SECOND FORM's CARD OF 'facetlaw11.CellChecks'. -/
def cellChecksUptoCard : Claim7 := { stood := { row := cellChecksUptoRow, standIns := [], harness := (true, "6f77d121f63fddebb7a07aa89324b64622a08d3e1abc3c6973bda436b7808a0a"), looks := true }, kinds := [], alts := [], laidByText := true, laidKinds := [.data, .data, .data, .data, .data, .data, .data], laidTests := true, laidLooks := .later }
def CellChecksUptoCardSaid : Prop := Claim7.holds Tryz.pinned (.plain (OpenSpec.upto cellChecksSpec)) cellChecksUptoCard

/-- THE SECOND FORM's CARD OF 'facetlaw11.CellSpacings'. -/
def cellSpacingsUptoCard : Claim7 := { stood := { row := cellSpacingsUptoRow, standIns := [], harness := (true, "6f77d121f63fddebb7a07aa89324b64622a08d3e1abc3c6973bda436b7808a0a"), looks := true }, kinds := [], alts := [], laidByText := true, laidKinds := [.data, .data, .data, .data, .data, .data, .data], laidTests := true, laidLooks := .later }
def CellSpacingsUptoCardSaid : Prop := Claim7.holds Tryz.pinned (.plain (OpenSpec.upto cellSpacingsSpec)) cellSpacingsUptoCard

/-- THE SECOND FORM's CARD OF 'facetlaw11.CellFars'. -/
def cellFarsUptoCard : Claim7 := { stood := { row := cellFarsUptoRow, standIns := [], harness := (true, "6f77d121f63fddebb7a07aa89324b64622a08d3e1abc3c6973bda436b7808a0a"), looks := true }, kinds := [], alts := [], laidByText := true, laidKinds := [.data, .data, .data, .data, .data, .data, .data], laidTests := true, laidLooks := .later }
def CellFarsUptoCardSaid : Prop := Claim7.holds Tryz.pinned (.plain (OpenSpec.upto cellFarsSpec)) cellFarsUptoCard

/-- THE SECOND FORM's CARD OF 'facetlaw11.CellCompares'. -/
def cellComparesUptoCard : Claim7 := { stood := { row := cellComparesUptoRow, standIns := [], harness := (true, "6f77d121f63fddebb7a07aa89324b64622a08d3e1abc3c6973bda436b7808a0a"), looks := true }, kinds := [], alts := [], laidByText := true, laidKinds := [.data, .data, .data, .data, .data, .data, .data], laidTests := true, laidLooks := .later }
def CellComparesUptoCardSaid : Prop := Claim7.holds Tryz.pinned (.plain (OpenSpec.upto cellComparesSpec)) cellComparesUptoCard

/-- THE SECOND FORM's CARD OF 'facetlaw11.CellSquares'. -/
def cellSquaresUptoCard : Claim7 := { stood := { row := cellSquaresUptoRow, standIns := [], harness := (true, "6f77d121f63fddebb7a07aa89324b64622a08d3e1abc3c6973bda436b7808a0a"), looks := true }, kinds := [], alts := [], laidByText := true, laidKinds := [.data, .data, .data, .data, .data, .data, .data], laidTests := true, laidLooks := .later }
def CellSquaresUptoCardSaid : Prop := Claim7.holds Tryz.pinned (.plain (OpenSpec.upto cellSquaresSpec)) cellSquaresUptoCard

/-- THE SECOND FORM's CARD OF 'facetlaw11.CellDual'. -/
def cellDualUptoCard : Claim7 := { stood := { row := cellDualUptoRow, standIns := [], harness := (true, "6f77d121f63fddebb7a07aa89324b64622a08d3e1abc3c6973bda436b7808a0a"), looks := true }, kinds := [], alts := [], laidByText := true, laidKinds := [.data, .data, .data, .data, .data, .data, .data], laidTests := true, laidLooks := .later }
def CellDualUptoCardSaid : Prop := Claim7.holds Tryz.pinned (.plain (OpenSpec.upto cellDualSpec)) cellDualUptoCard

/-- THE SECOND FORM's CARD OF 'facetlaw11.CellTotal'. -/
def cellTotalUptoCard : Claim7 := { stood := { row := cellTotalUptoRow, standIns := [], harness := (true, "6f77d121f63fddebb7a07aa89324b64622a08d3e1abc3c6973bda436b7808a0a"), looks := true }, kinds := [], alts := [], laidByText := true, laidKinds := [.data, .data, .data, .data, .data, .data, .data], laidTests := true, laidLooks := .later }
def CellTotalUptoCardSaid : Prop := Claim7.holds Tryz.pinned (.plain (OpenSpec.upto cellTotalSpec)) cellTotalUptoCard

/-- THE SECOND FORM's CARD OF 'facetlaw11.CellKeeps'. -/
def cellKeepsUptoCard : Claim7 := { stood := { row := cellKeepsUptoRow, standIns := [], harness := (true, "6f77d121f63fddebb7a07aa89324b64622a08d3e1abc3c6973bda436b7808a0a"), looks := true }, kinds := [], alts := [], laidByText := true, laidKinds := [.data, .data, .data, .data, .data, .data, .data], laidTests := true, laidLooks := .later }
def CellKeepsUptoCardSaid : Prop := Claim7.holds Tryz.pinned (.plain (OpenSpec.upto cellKeepsSpec)) cellKeepsUptoCard

/-- THE SECOND FORM's CARD OF 'facetlaw11.CellMaps'. -/
def cellMapsUptoCard : Claim7 := { stood := { row := cellMapsUptoRow, standIns := [], harness := (true, "6f77d121f63fddebb7a07aa89324b64622a08d3e1abc3c6973bda436b7808a0a"), looks := true }, kinds := [], alts := [], laidByText := true, laidKinds := [.data, .data, .data, .data, .data, .data, .data], laidTests := true, laidLooks := .later }
def CellMapsUptoCardSaid : Prop := Claim7.holds Tryz.pinned (.plain (OpenSpec.upto cellMapsSpec)) cellMapsUptoCard
end Rows
end Go.Proofs.YtcinopdklobldaaGreatDoor

/-
  DERIVED. GIVEN WITH THE SEED: THE CARDS: each row of YtagcmdpmmmbedaaGreatDoorRows.lean that lists a variable, with what it lists TIED to the program's text (the seventh form; the later family's looks); each row that meets fmt, with fmt's text TOLD by the authors' own Lean function (tested against real Go, not proved from fmt's source: count such statements apart). THE CARD IS WHAT COUNTS. Prove the row's statement (the work); the ties are given (YtagcmdpmmmbedaaGreatDoorTie.lean); close each card by the builder's one call (the guide's Derived/Test/ToyasCard.lean, 'card_holds'). Laid BY PROGRAM, IN A SANDBOX (cutbox-door.mjs). By AI agents, Wed Nov 11 2026. No macro, syntax, notation, axiom, sorry.
-/
import Derived.Test.YtagcmdpmmmbedaaGreatDoorRows
import GoSem.ClaimSeven
namespace Go.Proofs.YtagcmdpmmmbedaaGreatDoor
namespace Rows

/-- THE TIED CARD OF 'facetlaw11.CellKeeps'. -/
def cellKeepsCard : Claim7 := { stood := { row := cellKeepsRow, standIns := [], harness := (true, "0bb2aa7c48450676e2818c7172082448a42dc9a4af937b45aaf26e27c2f40840"), looks := true }, kinds := [], alts := [], laidByText := true, laidKinds := [.data, .data, .data, .data, .data, .data, .data], laidTests := true, laidLooks := .later }
def CellKeepsCardSaid : Prop := Claim7.holds Tryz.pinned (.plain (OpenSpec.ofChange cellKeepsSpec)) cellKeepsCard

/-- THE TIED CARD OF 'facetlaw11.CellMaps'. -/
def cellMapsCard : Claim7 := { stood := { row := cellMapsRow, standIns := [], harness := (true, "0bb2aa7c48450676e2818c7172082448a42dc9a4af937b45aaf26e27c2f40840"), looks := true }, kinds := [], alts := [], laidByText := true, laidKinds := [.data, .data, .data, .data, .data, .data, .data], laidTests := true, laidLooks := .later }
def CellMapsCardSaid : Prop := Claim7.holds Tryz.pinned (.plain (OpenSpec.ofChange cellMapsSpec)) cellMapsCard

/-- THE SECOND FORM's CARD OF 'facetlaw11.CellKeeps'. -/
def cellKeepsUptoCard : Claim7 := { stood := { row := cellKeepsUptoRow, standIns := [], harness := (true, "0bb2aa7c48450676e2818c7172082448a42dc9a4af937b45aaf26e27c2f40840"), looks := true }, kinds := [], alts := [], laidByText := true, laidKinds := [.data, .data, .data, .data, .data, .data, .data], laidTests := true, laidLooks := .later }
def CellKeepsUptoCardSaid : Prop := Claim7.holds Tryz.pinned (.plain (OpenSpec.upto cellKeepsSpec)) cellKeepsUptoCard

/-- THE SECOND FORM's CARD OF 'facetlaw11.CellMaps'. -/
def cellMapsUptoCard : Claim7 := { stood := { row := cellMapsUptoRow, standIns := [], harness := (true, "0bb2aa7c48450676e2818c7172082448a42dc9a4af937b45aaf26e27c2f40840"), looks := true }, kinds := [], alts := [], laidByText := true, laidKinds := [.data, .data, .data, .data, .data, .data, .data], laidTests := true, laidLooks := .later }
def CellMapsUptoCardSaid : Prop := Claim7.holds Tryz.pinned (.plain (OpenSpec.upto cellMapsSpec)) cellMapsUptoCard
end Rows
end Go.Proofs.YtagcmdpmmmbedaaGreatDoor

/-
  DERIVED. GIVEN WITH THE SEED: THE CARDS: each row of YthjbfklheepfpaaGreatDoorRows.lean that lists a variable, with what it lists TIED to the program's text (the seventh form; the later family's looks); each row that meets fmt, with fmt's text TOLD by the authors' own Lean function (tested against real Go, not proved from fmt's source: count such statements apart). THE CARD IS WHAT COUNTS. Prove the row's statement (the work); the ties are given (YthjbfklheepfpaaGreatDoorTie.lean); close each card by the builder's one call (the guide's Derived/Test/ToyasCard.lean, 'card_holds'). Laid BY PROGRAM, IN A SANDBOX (cutbox-door.mjs). By AI agents, Wed Nov 11 2026. No macro, syntax, notation, axiom, sorry.
-/
import Derived.Test.YthjbfklheepfpaaGreatDoorRows
import GoSem.ClaimSeven
namespace Go.Proofs.YthjbfklheepfpaaGreatDoor
namespace Rows

/-- THE TIED CARD OF 'facettop.WholeMaps'. -/
def wholeMapsCard : Claim7 := { stood := { row := wholeMapsRow, standIns := [], harness := (true, "e94cd4aad685a32c2a677c76411ad0a3010100e971e2c9a4b557aedb593add04"), looks := true }, kinds := [], alts := [], laidByText := true, laidKinds := [.data, .data, .data, .sentinel, .sentinel], laidTests := true, laidLooks := .later }
def WholeMapsCardSaid : Prop := Claim7.holds Tryz.pinned (.plain (OpenSpec.ofChange wholeMapsSpec)) wholeMapsCard

/-- THE SECOND FORM's CARD OF 'facettop.WholeMaps'. -/
def wholeMapsUptoCard : Claim7 := { stood := { row := wholeMapsUptoRow, standIns := [], harness := (true, "e94cd4aad685a32c2a677c76411ad0a3010100e971e2c9a4b557aedb593add04"), looks := true }, kinds := [], alts := [], laidByText := true, laidKinds := [.data, .data, .data, .sentinel, .sentinel], laidTests := true, laidLooks := .later }
def WholeMapsUptoCardSaid : Prop := Claim7.holds Tryz.pinned (.plain (OpenSpec.upto wholeMapsSpec)) wholeMapsUptoCard
end Rows
end Go.Proofs.YthjbfklheepfpaaGreatDoor

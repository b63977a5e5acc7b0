/-
  DERIVED. GIVEN WITH THE SEED: THE CARDS: each row of YtbehdodaaobcdaaGreatDoorRows.lean that lists a variable, with what it lists TIED to the program's text (the seventh form; the later family's looks); each row that meets fmt, with fmt's text TOLD by the authors' own Lean function (tested against real Go, not proved from fmt's source: count such statements apart). THE CARD IS WHAT COUNTS. Prove the row's statement (the work); the ties are given (YtbehdodaaobcdaaGreatDoorTie.lean); close each card by the builder's one call (the guide's Derived/Test/ToyasCard.lean, 'card_holds'). Laid BY PROGRAM, IN A SANDBOX (cutbox-door.mjs). By AI agents, Wed Nov 11 2026. No macro, syntax, notation, axiom, sorry.
-/
import Derived.Test.YtbehdodaaobcdaaGreatDoorRows
import GoSem.ClaimSeven
namespace Go.Proofs.YtbehdodaaobcdaaGreatDoor
namespace Rows

/-- THE TIED CARD OF 'facetlaw08.NamesKnown'. -/
def namesKnownCard : Claim7 := { stood := { row := namesKnownRow, standIns := [], harness := (true, "9c7bc0a1d2185bf88cddebed02fe0e6a7f47626c17b7aef6fc78eb5fc4ee69fd"), looks := true }, kinds := [], alts := [], laidByText := true, laidKinds := [.data, .data, .data, .data, .sentinel, .sentinel, .listed, .data, .pinned], laidTests := true, laidLooks := .later }
def NamesKnownCardSaid : Prop := Claim7.holds Tryz.pinned (.plain (OpenSpec.ofChange namesKnownSpec)) namesKnownCard

/-- THE TIED CARD OF 'facetlaw08.NamesGroups'. -/
def namesGroupsCard : Claim7 := { stood := { row := namesGroupsRow, standIns := [], harness := (true, "9c7bc0a1d2185bf88cddebed02fe0e6a7f47626c17b7aef6fc78eb5fc4ee69fd"), looks := true }, kinds := [], alts := [], laidByText := true, laidKinds := [.data, .data, .data, .data, .sentinel, .sentinel, .listed, .data, .pinned], laidTests := true, laidLooks := .later }
def NamesGroupsCardSaid : Prop := Claim7.holds Tryz.pinned (.plain (OpenSpec.ofChange namesGroupsSpec)) namesGroupsCard

/-- THE TIED CARD OF 'facetlaw08.NamesFixed'. -/
def namesFixedCard : Claim7 := { stood := { row := namesFixedRow, standIns := [], harness := (true, "9c7bc0a1d2185bf88cddebed02fe0e6a7f47626c17b7aef6fc78eb5fc4ee69fd"), looks := true }, kinds := [], alts := [], laidByText := true, laidKinds := [.data, .data, .data, .data, .sentinel, .sentinel, .listed, .data, .pinned], laidTests := true, laidLooks := .later }
def NamesFixedCardSaid : Prop := Claim7.holds Tryz.pinned (.plain (OpenSpec.ofChange namesFixedSpec)) namesFixedCard

/-- THE TIED CARD OF 'facetlaw08.NamesMemory'. -/
def namesMemoryCard : Claim7 := { stood := { row := namesMemoryRow, standIns := [], harness := (true, "9c7bc0a1d2185bf88cddebed02fe0e6a7f47626c17b7aef6fc78eb5fc4ee69fd"), looks := true }, kinds := [], alts := [], laidByText := true, laidKinds := [.data, .data, .data, .data, .sentinel, .sentinel, .listed, .data, .pinned], laidTests := true, laidLooks := .later }
def NamesMemoryCardSaid : Prop := Claim7.holds Tryz.pinned (.plain (OpenSpec.ofChange namesMemorySpec)) namesMemoryCard

/-- THE SECOND FORM's CARD OF 'facetlaw08.NamesKnown'. -/
def namesKnownUptoCard : Claim7 := { stood := { row := namesKnownUptoRow, standIns := [], harness := (true, "9c7bc0a1d2185bf88cddebed02fe0e6a7f47626c17b7aef6fc78eb5fc4ee69fd"), looks := true }, kinds := [], alts := [], laidByText := true, laidKinds := [.data, .data, .data, .data, .sentinel, .sentinel, .listed, .data, .pinned], laidTests := true, laidLooks := .later }
def NamesKnownUptoCardSaid : Prop := Claim7.holds Tryz.pinned (.plain (OpenSpec.upto namesKnownSpec)) namesKnownUptoCard

/-- THE SECOND FORM's CARD OF 'facetlaw08.NamesGroups'. -/
def namesGroupsUptoCard : Claim7 := { stood := { row := namesGroupsUptoRow, standIns := [], harness := (true, "9c7bc0a1d2185bf88cddebed02fe0e6a7f47626c17b7aef6fc78eb5fc4ee69fd"), looks := true }, kinds := [], alts := [], laidByText := true, laidKinds := [.data, .data, .data, .data, .sentinel, .sentinel, .listed, .data, .pinned], laidTests := true, laidLooks := .later }
def NamesGroupsUptoCardSaid : Prop := Claim7.holds Tryz.pinned (.plain (OpenSpec.upto namesGroupsSpec)) namesGroupsUptoCard

/-- THE SECOND FORM's CARD OF 'facetlaw08.NamesFixed'. -/
def namesFixedUptoCard : Claim7 := { stood := { row := namesFixedUptoRow, standIns := [], harness := (true, "9c7bc0a1d2185bf88cddebed02fe0e6a7f47626c17b7aef6fc78eb5fc4ee69fd"), looks := true }, kinds := [], alts := [], laidByText := true, laidKinds := [.data, .data, .data, .data, .sentinel, .sentinel, .listed, .data, .pinned], laidTests := true, laidLooks := .later }
def NamesFixedUptoCardSaid : Prop := Claim7.holds Tryz.pinned (.plain (OpenSpec.upto namesFixedSpec)) namesFixedUptoCard

/-- THE SECOND FORM's CARD OF 'facetlaw08.NamesMemory'. -/
def namesMemoryUptoCard : Claim7 := { stood := { row := namesMemoryUptoRow, standIns := [], harness := (true, "9c7bc0a1d2185bf88cddebed02fe0e6a7f47626c17b7aef6fc78eb5fc4ee69fd"), looks := true }, kinds := [], alts := [], laidByText := true, laidKinds := [.data, .data, .data, .data, .sentinel, .sentinel, .listed, .data, .pinned], laidTests := true, laidLooks := .later }
def NamesMemoryUptoCardSaid : Prop := Claim7.holds Tryz.pinned (.plain (OpenSpec.upto namesMemorySpec)) namesMemoryUptoCard
end Rows
end Go.Proofs.YtbehdodaaobcdaaGreatDoor

/-
  DERIVED. GIVEN WITH THE SEED: THE CARDS: each row of YtcpnicfkpkonkaaGreatDoorRows.lean that lists a variable, with what it lists TIED to the program's text (the seventh form; the later family's looks); each row that meets fmt, with fmt's text TOLD by the authors' own Lean function (tested against real Go, not proved from fmt's source: count such statements apart). THE CARD IS WHAT COUNTS. Prove the row's statement (the work); the ties are given (YtcpnicfkpkonkaaGreatDoorTie.lean); close each card by the builder's one call (the guide's Derived/Test/ToyasCard.lean, 'card_holds'). Laid BY PROGRAM, IN A SANDBOX (cutbox-door.mjs). By AI agents, Wed Nov 11 2026. No macro, syntax, notation, axiom, sorry.
-/
import Derived.Test.YtcpnicfkpkonkaaGreatDoorRows
import GoSem.ClaimSeven
namespace Go.Proofs.YtcpnicfkpkonkaaGreatDoor
namespace Rows

/-- THE TIED CARD OF 'quintainlaw09.ValidChecks'. -/
def validChecksCard : Claim7 := { stood := { row := validChecksRow, standIns := [], harness := (true, "d2ef1239b2faf775ec5dfbf8b8dfb941c1a0bf30fb81b4a1d4c8cac372f01f9b"), looks := true }, kinds := [], alts := [], laidByText := true, laidKinds := [.data, .data, .data, .data, .sentinel, .sentinel, .pinned], laidTests := true, laidLooks := .later }
def ValidChecksCardSaid : Prop := Claim7.holds Tryz.pinned (.plain (OpenSpec.ofChange validChecksSpec)) validChecksCard

/-- THE TIED CARD OF 'quintainlaw09.ValidPlaces'. -/
def validPlacesCard : Claim7 := { stood := { row := validPlacesRow, standIns := [], harness := (true, "d2ef1239b2faf775ec5dfbf8b8dfb941c1a0bf30fb81b4a1d4c8cac372f01f9b"), looks := true }, kinds := [], alts := [], laidByText := true, laidKinds := [.data, .data, .data, .data, .sentinel, .sentinel, .pinned], laidTests := true, laidLooks := .later }
def ValidPlacesCardSaid : Prop := Claim7.holds Tryz.pinned (.plain (OpenSpec.ofChange validPlacesSpec)) validPlacesCard

/-- THE TIED CARD OF 'quintainlaw09.ValidFewer'. -/
def validFewerCard : Claim7 := { stood := { row := validFewerRow, standIns := [], harness := (true, "d2ef1239b2faf775ec5dfbf8b8dfb941c1a0bf30fb81b4a1d4c8cac372f01f9b"), looks := true }, kinds := [], alts := [], laidByText := true, laidKinds := [.data, .data, .data, .data, .sentinel, .sentinel, .pinned], laidTests := true, laidLooks := .later }
def ValidFewerCardSaid : Prop := Claim7.holds Tryz.pinned (.plain (OpenSpec.ofChange validFewerSpec)) validFewerCard

/-- THE TIED CARD OF 'quintainlaw09.ValidBare'. -/
def validBareCard : Claim7 := { stood := { row := validBareRow, standIns := [], harness := (true, "d2ef1239b2faf775ec5dfbf8b8dfb941c1a0bf30fb81b4a1d4c8cac372f01f9b"), looks := true }, kinds := [], alts := [], laidByText := true, laidKinds := [.data, .data, .data, .data, .sentinel, .sentinel, .pinned], laidTests := true, laidLooks := .later }
def ValidBareCardSaid : Prop := Claim7.holds Tryz.pinned (.plain (OpenSpec.ofChange validBareSpec)) validBareCard

/-- THE TIED CARD OF 'quintainlaw09.ValidPlaced'. -/
def validPlacedCard : Claim7 := { stood := { row := validPlacedRow, standIns := [], harness := (true, "d2ef1239b2faf775ec5dfbf8b8dfb941c1a0bf30fb81b4a1d4c8cac372f01f9b"), looks := true }, kinds := [], alts := [], laidByText := true, laidKinds := [.data, .data, .data, .data, .sentinel, .sentinel, .pinned], laidTests := true, laidLooks := .later }
def ValidPlacedCardSaid : Prop := Claim7.holds Tryz.pinned (.plain (OpenSpec.ofChange validPlacedSpec)) validPlacedCard

/-- THE TIED CARD OF 'quintainlaw09.ValidTexts'. -/
def validTextsCard : Claim7 := { stood := { row := validTextsRow, standIns := [], harness := (true, "d2ef1239b2faf775ec5dfbf8b8dfb941c1a0bf30fb81b4a1d4c8cac372f01f9b"), looks := true }, kinds := [], alts := [], laidByText := true, laidKinds := [.data, .data, .data, .data, .sentinel, .sentinel, .pinned], laidTests := true, laidLooks := .later }
def ValidTextsCardSaid : Prop := Claim7.holds Tryz.pinned (.plain (OpenSpec.ofChange validTextsSpec)) validTextsCard

/-- THE SECOND FORM's CARD OF 'quintainlaw09.ValidChecks'. -/
def validChecksUptoCard : Claim7 := { stood := { row := validChecksUptoRow, standIns := [], harness := (true, "d2ef1239b2faf775ec5dfbf8b8dfb941c1a0bf30fb81b4a1d4c8cac372f01f9b"), looks := true }, kinds := [], alts := [], laidByText := true, laidKinds := [.data, .data, .data, .data, .sentinel, .sentinel, .pinned], laidTests := true, laidLooks := .later }
def ValidChecksUptoCardSaid : Prop := Claim7.holds Tryz.pinned (.plain (OpenSpec.upto validChecksSpec)) validChecksUptoCard

/-- THE SECOND FORM's CARD OF 'quintainlaw09.ValidPlaces'. -/
def validPlacesUptoCard : Claim7 := { stood := { row := validPlacesUptoRow, standIns := [], harness := (true, "d2ef1239b2faf775ec5dfbf8b8dfb941c1a0bf30fb81b4a1d4c8cac372f01f9b"), looks := true }, kinds := [], alts := [], laidByText := true, laidKinds := [.data, .data, .data, .data, .sentinel, .sentinel, .pinned], laidTests := true, laidLooks := .later }
def ValidPlacesUptoCardSaid : Prop := Claim7.holds Tryz.pinned (.plain (OpenSpec.upto validPlacesSpec)) validPlacesUptoCard

/-- THE SECOND FORM's CARD OF 'quintainlaw09.ValidFewer'. -/
def validFewerUptoCard : Claim7 := { stood := { row := validFewerUptoRow, standIns := [], harness := (true, "d2ef1239b2faf775ec5dfbf8b8dfb941c1a0bf30fb81b4a1d4c8cac372f01f9b"), looks := true }, kinds := [], alts := [], laidByText := true, laidKinds := [.data, .data, .data, .data, .sentinel, .sentinel, .pinned], laidTests := true, laidLooks := .later }
def ValidFewerUptoCardSaid : Prop := Claim7.holds Tryz.pinned (.plain (OpenSpec.upto validFewerSpec)) validFewerUptoCard

/-- THE SECOND FORM's CARD OF 'quintainlaw09.ValidBare'. -/
def validBareUptoCard : Claim7 := { stood := { row := validBareUptoRow, standIns := [], harness := (true, "d2ef1239b2faf775ec5dfbf8b8dfb941c1a0bf30fb81b4a1d4c8cac372f01f9b"), looks := true }, kinds := [], alts := [], laidByText := true, laidKinds := [.data, .data, .data, .data, .sentinel, .sentinel, .pinned], laidTests := true, laidLooks := .later }
def ValidBareUptoCardSaid : Prop := Claim7.holds Tryz.pinned (.plain (OpenSpec.upto validBareSpec)) validBareUptoCard

/-- THE SECOND FORM's CARD OF 'quintainlaw09.ValidPlaced'. -/
def validPlacedUptoCard : Claim7 := { stood := { row := validPlacedUptoRow, standIns := [], harness := (true, "d2ef1239b2faf775ec5dfbf8b8dfb941c1a0bf30fb81b4a1d4c8cac372f01f9b"), looks := true }, kinds := [], alts := [], laidByText := true, laidKinds := [.data, .data, .data, .data, .sentinel, .sentinel, .pinned], laidTests := true, laidLooks := .later }
def ValidPlacedUptoCardSaid : Prop := Claim7.holds Tryz.pinned (.plain (OpenSpec.upto validPlacedSpec)) validPlacedUptoCard

/-- THE SECOND FORM's CARD OF 'quintainlaw09.ValidTexts'. -/
def validTextsUptoCard : Claim7 := { stood := { row := validTextsUptoRow, standIns := [], harness := (true, "d2ef1239b2faf775ec5dfbf8b8dfb941c1a0bf30fb81b4a1d4c8cac372f01f9b"), looks := true }, kinds := [], alts := [], laidByText := true, laidKinds := [.data, .data, .data, .data, .sentinel, .sentinel, .pinned], laidTests := true, laidLooks := .later }
def ValidTextsUptoCardSaid : Prop := Claim7.holds Tryz.pinned (.plain (OpenSpec.upto validTextsSpec)) validTextsUptoCard
end Rows
end Go.Proofs.YtcpnicfkpkonkaaGreatDoor

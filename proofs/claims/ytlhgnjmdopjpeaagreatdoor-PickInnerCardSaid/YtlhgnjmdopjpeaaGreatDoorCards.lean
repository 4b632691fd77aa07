/-
  DERIVED. GIVEN WITH THE SEED: THE CARDS: each row of YtlhgnjmdopjpeaaGreatDoorRows.lean that lists a variable, with what it lists TIED to the program's text (the seventh form; the later family's looks); each row that meets fmt, with fmt's text TOLD by the authors' own Lean function (tested against real Go, not proved from fmt's source: count such statements apart). THE CARD IS WHAT COUNTS. Prove the row's statement (the work); the ties are given (YtlhgnjmdopjpeaaGreatDoorTie.lean); close each card by the builder's one call (the guide's Derived/Test/ToyasCard.lean, 'card_holds'). Laid BY PROGRAM, IN A SANDBOX (cutbox-door.mjs). By AI agents, Wed Nov 11 2026. No macro, syntax, notation, axiom, sorry.
-/
import Derived.Test.YtlhgnjmdopjpeaaGreatDoorRows
import GoSem.ClaimSeven
namespace Go.Proofs.YtlhgnjmdopjpeaaGreatDoor
namespace Rows

/-- THE TIED CARD OF 'quintainlaw11.PickLeaves'. -/
def pickLeavesCard : Claim7 := { stood := { row := pickLeavesRow, standIns := [], harness := (true, "96d4ad74b46c81e5690ea6ba9bd4dfeb8d06d0f461f13baedfdca0efb6716c18"), looks := true }, kinds := [], alts := [], laidByText := true, laidKinds := [.data, .data, .data, .data, .sentinel, .sentinel, .pinned], laidTests := true, laidLooks := .later }
def PickLeavesCardSaid : Prop := Claim7.holds Tryz.pinned (.plain (OpenSpec.ofChange pickLeavesSpec)) pickLeavesCard

/-- THE TIED CARD OF 'quintainlaw11.PickMay'. -/
def pickMayCard : Claim7 := { stood := { row := pickMayRow, standIns := [], harness := (true, "96d4ad74b46c81e5690ea6ba9bd4dfeb8d06d0f461f13baedfdca0efb6716c18"), looks := true }, kinds := [], alts := [], laidByText := true, laidKinds := [.data, .data, .data, .data, .sentinel, .sentinel, .pinned], laidTests := true, laidLooks := .later }
def PickMayCardSaid : Prop := Claim7.holds Tryz.pinned (.plain (OpenSpec.ofChange pickMaySpec)) pickMayCard

/-- THE TIED CARD OF 'quintainlaw11.PickOf'. -/
def pickOfCard : Claim7 := { stood := { row := pickOfRow, standIns := [], harness := (true, "96d4ad74b46c81e5690ea6ba9bd4dfeb8d06d0f461f13baedfdca0efb6716c18"), looks := true }, kinds := [], alts := [], laidByText := true, laidKinds := [.data, .data, .data, .data, .sentinel, .sentinel, .pinned], laidTests := true, laidLooks := .later }
def PickOfCardSaid : Prop := Claim7.holds Tryz.pinned (.plain (OpenSpec.ofChange pickOfSpec)) pickOfCard

/-- THE TIED CARD OF 'quintainlaw11.PickApart'. -/
def pickApartCard : Claim7 := { stood := { row := pickApartRow, standIns := [], harness := (true, "96d4ad74b46c81e5690ea6ba9bd4dfeb8d06d0f461f13baedfdca0efb6716c18"), looks := true }, kinds := [], alts := [], laidByText := true, laidKinds := [.data, .data, .data, .data, .sentinel, .sentinel, .pinned], laidTests := true, laidLooks := .later }
def PickApartCardSaid : Prop := Claim7.holds Tryz.pinned (.plain (OpenSpec.ofChange pickApartSpec)) pickApartCard

/-- THE TIED CARD OF 'quintainlaw11.PickInner'. -/
def pickInnerCard : Claim7 := { stood := { row := pickInnerRow, standIns := [], harness := (true, "96d4ad74b46c81e5690ea6ba9bd4dfeb8d06d0f461f13baedfdca0efb6716c18"), looks := true }, kinds := [], alts := [], laidByText := true, laidKinds := [.data, .data, .data, .data, .sentinel, .sentinel, .pinned], laidTests := true, laidLooks := .later }
def PickInnerCardSaid : Prop := Claim7.holds Tryz.pinned (.plain (OpenSpec.ofChange pickInnerSpec)) pickInnerCard

/-- THE TIED CARD OF 'quintainlaw11.PickEvents'. -/
def pickEventsCard : Claim7 := { stood := { row := pickEventsRow, standIns := [], harness := (true, "96d4ad74b46c81e5690ea6ba9bd4dfeb8d06d0f461f13baedfdca0efb6716c18"), looks := true }, kinds := [], alts := [], laidByText := true, laidKinds := [.data, .data, .data, .data, .sentinel, .sentinel, .pinned], laidTests := true, laidLooks := .later }
def PickEventsCardSaid : Prop := Claim7.holds Tryz.pinned (.plain (OpenSpec.ofChange pickEventsSpec)) pickEventsCard

/-- THE SECOND FORM's CARD OF 'quintainlaw11.PickLeaves'. -/
def pickLeavesUptoCard : Claim7 := { stood := { row := pickLeavesUptoRow, standIns := [], harness := (true, "96d4ad74b46c81e5690ea6ba9bd4dfeb8d06d0f461f13baedfdca0efb6716c18"), looks := true }, kinds := [], alts := [], laidByText := true, laidKinds := [.data, .data, .data, .data, .sentinel, .sentinel, .pinned], laidTests := true, laidLooks := .later }
def PickLeavesUptoCardSaid : Prop := Claim7.holds Tryz.pinned (.plain (OpenSpec.upto pickLeavesSpec)) pickLeavesUptoCard

/-- THE SECOND FORM's CARD OF 'quintainlaw11.PickMay'. -/
def pickMayUptoCard : Claim7 := { stood := { row := pickMayUptoRow, standIns := [], harness := (true, "96d4ad74b46c81e5690ea6ba9bd4dfeb8d06d0f461f13baedfdca0efb6716c18"), looks := true }, kinds := [], alts := [], laidByText := true, laidKinds := [.data, .data, .data, .data, .sentinel, .sentinel, .pinned], laidTests := true, laidLooks := .later }
def PickMayUptoCardSaid : Prop := Claim7.holds Tryz.pinned (.plain (OpenSpec.upto pickMaySpec)) pickMayUptoCard

/-- THE SECOND FORM's CARD OF 'quintainlaw11.PickOf'. -/
def pickOfUptoCard : Claim7 := { stood := { row := pickOfUptoRow, standIns := [], harness := (true, "96d4ad74b46c81e5690ea6ba9bd4dfeb8d06d0f461f13baedfdca0efb6716c18"), looks := true }, kinds := [], alts := [], laidByText := true, laidKinds := [.data, .data, .data, .data, .sentinel, .sentinel, .pinned], laidTests := true, laidLooks := .later }
def PickOfUptoCardSaid : Prop := Claim7.holds Tryz.pinned (.plain (OpenSpec.upto pickOfSpec)) pickOfUptoCard

/-- THE SECOND FORM's CARD OF 'quintainlaw11.PickApart'. -/
def pickApartUptoCard : Claim7 := { stood := { row := pickApartUptoRow, standIns := [], harness := (true, "96d4ad74b46c81e5690ea6ba9bd4dfeb8d06d0f461f13baedfdca0efb6716c18"), looks := true }, kinds := [], alts := [], laidByText := true, laidKinds := [.data, .data, .data, .data, .sentinel, .sentinel, .pinned], laidTests := true, laidLooks := .later }
def PickApartUptoCardSaid : Prop := Claim7.holds Tryz.pinned (.plain (OpenSpec.upto pickApartSpec)) pickApartUptoCard

/-- THE SECOND FORM's CARD OF 'quintainlaw11.PickInner'. -/
def pickInnerUptoCard : Claim7 := { stood := { row := pickInnerUptoRow, standIns := [], harness := (true, "96d4ad74b46c81e5690ea6ba9bd4dfeb8d06d0f461f13baedfdca0efb6716c18"), looks := true }, kinds := [], alts := [], laidByText := true, laidKinds := [.data, .data, .data, .data, .sentinel, .sentinel, .pinned], laidTests := true, laidLooks := .later }
def PickInnerUptoCardSaid : Prop := Claim7.holds Tryz.pinned (.plain (OpenSpec.upto pickInnerSpec)) pickInnerUptoCard

/-- THE SECOND FORM's CARD OF 'quintainlaw11.PickEvents'. -/
def pickEventsUptoCard : Claim7 := { stood := { row := pickEventsUptoRow, standIns := [], harness := (true, "96d4ad74b46c81e5690ea6ba9bd4dfeb8d06d0f461f13baedfdca0efb6716c18"), looks := true }, kinds := [], alts := [], laidByText := true, laidKinds := [.data, .data, .data, .data, .sentinel, .sentinel, .pinned], laidTests := true, laidLooks := .later }
def PickEventsUptoCardSaid : Prop := Claim7.holds Tryz.pinned (.plain (OpenSpec.upto pickEventsSpec)) pickEventsUptoCard
end Rows
end Go.Proofs.YtlhgnjmdopjpeaaGreatDoor

/-
  DERIVED. GIVEN WITH THE SEED: THE CARDS: each row of YtgfifkhbfdacjaaGreatDoorRows.lean that lists a variable, with what it lists TIED to the program's text (the seventh form; the later family's looks); each row that meets fmt, with fmt's text TOLD by the authors' own Lean function (tested against real Go, not proved from fmt's source: count such statements apart). THE CARD IS WHAT COUNTS. Prove the row's statement (the work); the ties are given (YtgfifkhbfdacjaaGreatDoorTie.lean); close each card by the builder's one call (the guide's Derived/Test/ToyasCard.lean, 'card_holds'). Laid BY PROGRAM, IN A SANDBOX (cutbox-door.mjs). By AI agents, Wed Nov 11 2026. No macro, syntax, notation, axiom, sorry.
-/
import Derived.Test.YtgfifkhbfdacjaaGreatDoorRows
import GoSem.ClaimSeven
namespace Go.Proofs.YtgfifkhbfdacjaaGreatDoor
namespace Rows

/-- THE TIED CARD OF 'quintainlaw12.MovesRight'. -/
def movesRightCard : Claim7 := { stood := { row := movesRightRow, standIns := [], harness := (true, "577cdd6fd1b358965fdbc76d0a08507531f0dd4fdf41abb8d9f43cf881a31ef3"), looks := true }, kinds := [], alts := [], laidByText := true, laidKinds := [.data, .data, .data, .data, .sentinel, .sentinel, .pinned], laidTests := true, laidLooks := .later }
def MovesRightCardSaid : Prop := Claim7.holds Tryz.pinned (.plain (OpenSpec.ofChange movesRightSpec)) movesRightCard

/-- THE TIED CARD OF 'quintainlaw12.MovesEnter'. -/
def movesEnterCard : Claim7 := { stood := { row := movesEnterRow, standIns := [], harness := (true, "577cdd6fd1b358965fdbc76d0a08507531f0dd4fdf41abb8d9f43cf881a31ef3"), looks := true }, kinds := [], alts := [], laidByText := true, laidKinds := [.data, .data, .data, .data, .sentinel, .sentinel, .pinned], laidTests := true, laidLooks := .later }
def MovesEnterCardSaid : Prop := Claim7.holds Tryz.pinned (.plain (OpenSpec.ofChange movesEnterSpec)) movesEnterCard

/-- THE TIED CARD OF 'quintainlaw12.MovesRecord'. -/
def movesRecordCard : Claim7 := { stood := { row := movesRecordRow, standIns := [], harness := (true, "577cdd6fd1b358965fdbc76d0a08507531f0dd4fdf41abb8d9f43cf881a31ef3"), looks := true }, kinds := [], alts := [], laidByText := true, laidKinds := [.data, .data, .data, .data, .sentinel, .sentinel, .pinned], laidTests := true, laidLooks := .later }
def MovesRecordCardSaid : Prop := Claim7.holds Tryz.pinned (.plain (OpenSpec.ofChange movesRecordSpec)) movesRecordCard

/-- THE TIED CARD OF 'quintainlaw12.MovesLegal'. -/
def movesLegalCard : Claim7 := { stood := { row := movesLegalRow, standIns := [], harness := (true, "577cdd6fd1b358965fdbc76d0a08507531f0dd4fdf41abb8d9f43cf881a31ef3"), looks := true }, kinds := [], alts := [], laidByText := true, laidKinds := [.data, .data, .data, .data, .sentinel, .sentinel, .pinned], laidTests := true, laidLooks := .later }
def MovesLegalCardSaid : Prop := Claim7.holds Tryz.pinned (.plain (OpenSpec.ofChange movesLegalSpec)) movesLegalCard

/-- THE TIED CARD OF 'quintainlaw12.MovesBack'. -/
def movesBackCard : Claim7 := { stood := { row := movesBackRow, standIns := [], harness := (true, "577cdd6fd1b358965fdbc76d0a08507531f0dd4fdf41abb8d9f43cf881a31ef3"), looks := true }, kinds := [], alts := [], laidByText := true, laidKinds := [.data, .data, .data, .data, .sentinel, .sentinel, .pinned], laidTests := true, laidLooks := .later }
def MovesBackCardSaid : Prop := Claim7.holds Tryz.pinned (.plain (OpenSpec.ofChange movesBackSpec)) movesBackCard

/-- THE TIED CARD OF 'quintainlaw12.MovesChild'. -/
def movesChildCard : Claim7 := { stood := { row := movesChildRow, standIns := [], harness := (true, "577cdd6fd1b358965fdbc76d0a08507531f0dd4fdf41abb8d9f43cf881a31ef3"), looks := true }, kinds := [], alts := [], laidByText := true, laidKinds := [.data, .data, .data, .data, .sentinel, .sentinel, .pinned], laidTests := true, laidLooks := .later }
def MovesChildCardSaid : Prop := Claim7.holds Tryz.pinned (.plain (OpenSpec.ofChange movesChildSpec)) movesChildCard

/-- THE SECOND FORM's CARD OF 'quintainlaw12.MovesRight'. -/
def movesRightUptoCard : Claim7 := { stood := { row := movesRightUptoRow, standIns := [], harness := (true, "577cdd6fd1b358965fdbc76d0a08507531f0dd4fdf41abb8d9f43cf881a31ef3"), looks := true }, kinds := [], alts := [], laidByText := true, laidKinds := [.data, .data, .data, .data, .sentinel, .sentinel, .pinned], laidTests := true, laidLooks := .later }
def MovesRightUptoCardSaid : Prop := Claim7.holds Tryz.pinned (.plain (OpenSpec.upto movesRightSpec)) movesRightUptoCard

/-- THE SECOND FORM's CARD OF 'quintainlaw12.MovesEnter'. -/
def movesEnterUptoCard : Claim7 := { stood := { row := movesEnterUptoRow, standIns := [], harness := (true, "577cdd6fd1b358965fdbc76d0a08507531f0dd4fdf41abb8d9f43cf881a31ef3"), looks := true }, kinds := [], alts := [], laidByText := true, laidKinds := [.data, .data, .data, .data, .sentinel, .sentinel, .pinned], laidTests := true, laidLooks := .later }
def MovesEnterUptoCardSaid : Prop := Claim7.holds Tryz.pinned (.plain (OpenSpec.upto movesEnterSpec)) movesEnterUptoCard

/-- THE SECOND FORM's CARD OF 'quintainlaw12.MovesRecord'. -/
def movesRecordUptoCard : Claim7 := { stood := { row := movesRecordUptoRow, standIns := [], harness := (true, "577cdd6fd1b358965fdbc76d0a08507531f0dd4fdf41abb8d9f43cf881a31ef3"), looks := true }, kinds := [], alts := [], laidByText := true, laidKinds := [.data, .data, .data, .data, .sentinel, .sentinel, .pinned], laidTests := true, laidLooks := .later }
def MovesRecordUptoCardSaid : Prop := Claim7.holds Tryz.pinned (.plain (OpenSpec.upto movesRecordSpec)) movesRecordUptoCard

/-- THE SECOND FORM's CARD OF 'quintainlaw12.MovesLegal'. -/
def movesLegalUptoCard : Claim7 := { stood := { row := movesLegalUptoRow, standIns := [], harness := (true, "577cdd6fd1b358965fdbc76d0a08507531f0dd4fdf41abb8d9f43cf881a31ef3"), looks := true }, kinds := [], alts := [], laidByText := true, laidKinds := [.data, .data, .data, .data, .sentinel, .sentinel, .pinned], laidTests := true, laidLooks := .later }
def MovesLegalUptoCardSaid : Prop := Claim7.holds Tryz.pinned (.plain (OpenSpec.upto movesLegalSpec)) movesLegalUptoCard

/-- THE SECOND FORM's CARD OF 'quintainlaw12.MovesBack'. -/
def movesBackUptoCard : Claim7 := { stood := { row := movesBackUptoRow, standIns := [], harness := (true, "577cdd6fd1b358965fdbc76d0a08507531f0dd4fdf41abb8d9f43cf881a31ef3"), looks := true }, kinds := [], alts := [], laidByText := true, laidKinds := [.data, .data, .data, .data, .sentinel, .sentinel, .pinned], laidTests := true, laidLooks := .later }
def MovesBackUptoCardSaid : Prop := Claim7.holds Tryz.pinned (.plain (OpenSpec.upto movesBackSpec)) movesBackUptoCard

/-- THE SECOND FORM's CARD OF 'quintainlaw12.MovesChild'. -/
def movesChildUptoCard : Claim7 := { stood := { row := movesChildUptoRow, standIns := [], harness := (true, "577cdd6fd1b358965fdbc76d0a08507531f0dd4fdf41abb8d9f43cf881a31ef3"), looks := true }, kinds := [], alts := [], laidByText := true, laidKinds := [.data, .data, .data, .data, .sentinel, .sentinel, .pinned], laidTests := true, laidLooks := .later }
def MovesChildUptoCardSaid : Prop := Claim7.holds Tryz.pinned (.plain (OpenSpec.upto movesChildSpec)) movesChildUptoCard
end Rows
end Go.Proofs.YtgfifkhbfdacjaaGreatDoor

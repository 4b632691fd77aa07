/-
  DERIVED. GIVEN WITH THE SEED: THE CARDS: each row of YtcopfgbbjdefbaaGreatDoorRows.lean that lists a variable, with what it lists TIED to the program's text (the seventh form; the later family's looks); each row that meets fmt, with fmt's text TOLD by the authors' own Lean function (tested against real Go, not proved from fmt's source: count such statements apart). THE CARD IS WHAT COUNTS. Prove the row's statement (the work); the ties are given (YtcopfgbbjdefbaaGreatDoorTie.lean); close each card by the builder's one call (the guide's Derived/Test/ToyasCard.lean, 'card_holds'). Laid BY PROGRAM, IN A SANDBOX (cutbox-door.mjs). By AI agents, Wed Nov 11 2026. No macro, syntax, notation, axiom, sorry.
-/
import Derived.Test.YtcopfgbbjdefbaaGreatDoorRows
import GoSem.ClaimSeven
namespace Go.Proofs.YtcopfgbbjdefbaaGreatDoor
namespace Rows

/-- THE TIED CARD OF 'quintainlaw10.ConfStart'. -/
def confStartCard : Claim7 := { stood := { row := confStartRow, standIns := [], harness := (true, "e7d1066ce5d98a20c95f673a60aa15d61be08a947ed78e367d2d953b7e31dba7"), looks := true }, kinds := [], alts := [], laidByText := true, laidKinds := [.data, .data, .data, .data, .sentinel, .sentinel, .pinned], laidTests := true, laidLooks := .later }
def ConfStartCardSaid : Prop := Claim7.holds Tryz.pinned (.plain (OpenSpec.ofChange confStartSpec)) confStartCard

/-- THE TIED CARD OF 'quintainlaw10.ConfLegal'. -/
def confLegalCard : Claim7 := { stood := { row := confLegalRow, standIns := [], harness := (true, "e7d1066ce5d98a20c95f673a60aa15d61be08a947ed78e367d2d953b7e31dba7"), looks := true }, kinds := [], alts := [], laidByText := true, laidKinds := [.data, .data, .data, .data, .sentinel, .sentinel, .pinned], laidTests := true, laidLooks := .later }
def ConfLegalCardSaid : Prop := Claim7.holds Tryz.pinned (.plain (OpenSpec.ofChange confLegalSpec)) confLegalCard

/-- THE TIED CARD OF 'quintainlaw10.ConfMixed'. -/
def confMixedCard : Claim7 := { stood := { row := confMixedRow, standIns := [], harness := (true, "e7d1066ce5d98a20c95f673a60aa15d61be08a947ed78e367d2d953b7e31dba7"), looks := true }, kinds := [], alts := [], laidByText := true, laidKinds := [.data, .data, .data, .data, .sentinel, .sentinel, .pinned], laidTests := true, laidLooks := .later }
def ConfMixedCardSaid : Prop := Claim7.holds Tryz.pinned (.plain (OpenSpec.ofChange confMixedSpec)) confMixedCard

/-- THE TIED CARD OF 'quintainlaw10.ConfBegins'. -/
def confBeginsCard : Claim7 := { stood := { row := confBeginsRow, standIns := [], harness := (true, "e7d1066ce5d98a20c95f673a60aa15d61be08a947ed78e367d2d953b7e31dba7"), looks := true }, kinds := [], alts := [], laidByText := true, laidKinds := [.data, .data, .data, .data, .sentinel, .sentinel, .pinned], laidTests := true, laidLooks := .later }
def ConfBeginsCardSaid : Prop := Claim7.holds Tryz.pinned (.plain (OpenSpec.ofChange confBeginsSpec)) confBeginsCard

/-- THE TIED CARD OF 'quintainlaw10.ConfLeaves'. -/
def confLeavesCard : Claim7 := { stood := { row := confLeavesRow, standIns := [], harness := (true, "e7d1066ce5d98a20c95f673a60aa15d61be08a947ed78e367d2d953b7e31dba7"), looks := true }, kinds := [], alts := [], laidByText := true, laidKinds := [.data, .data, .data, .data, .sentinel, .sentinel, .pinned], laidTests := true, laidLooks := .later }
def ConfLeavesCardSaid : Prop := Claim7.holds Tryz.pinned (.plain (OpenSpec.ofChange confLeavesSpec)) confLeavesCard

/-- THE TIED CARD OF 'quintainlaw10.ConfOver'. -/
def confOverCard : Claim7 := { stood := { row := confOverRow, standIns := [], harness := (true, "e7d1066ce5d98a20c95f673a60aa15d61be08a947ed78e367d2d953b7e31dba7"), looks := true }, kinds := [], alts := [], laidByText := true, laidKinds := [.data, .data, .data, .data, .sentinel, .sentinel, .pinned], laidTests := true, laidLooks := .later }
def ConfOverCardSaid : Prop := Claim7.holds Tryz.pinned (.plain (OpenSpec.ofChange confOverSpec)) confOverCard

/-- THE SECOND FORM's CARD OF 'quintainlaw10.ConfStart'. -/
def confStartUptoCard : Claim7 := { stood := { row := confStartUptoRow, standIns := [], harness := (true, "e7d1066ce5d98a20c95f673a60aa15d61be08a947ed78e367d2d953b7e31dba7"), looks := true }, kinds := [], alts := [], laidByText := true, laidKinds := [.data, .data, .data, .data, .sentinel, .sentinel, .pinned], laidTests := true, laidLooks := .later }
def ConfStartUptoCardSaid : Prop := Claim7.holds Tryz.pinned (.plain (OpenSpec.upto confStartSpec)) confStartUptoCard

/-- THE SECOND FORM's CARD OF 'quintainlaw10.ConfLegal'. -/
def confLegalUptoCard : Claim7 := { stood := { row := confLegalUptoRow, standIns := [], harness := (true, "e7d1066ce5d98a20c95f673a60aa15d61be08a947ed78e367d2d953b7e31dba7"), looks := true }, kinds := [], alts := [], laidByText := true, laidKinds := [.data, .data, .data, .data, .sentinel, .sentinel, .pinned], laidTests := true, laidLooks := .later }
def ConfLegalUptoCardSaid : Prop := Claim7.holds Tryz.pinned (.plain (OpenSpec.upto confLegalSpec)) confLegalUptoCard

/-- THE SECOND FORM's CARD OF 'quintainlaw10.ConfMixed'. -/
def confMixedUptoCard : Claim7 := { stood := { row := confMixedUptoRow, standIns := [], harness := (true, "e7d1066ce5d98a20c95f673a60aa15d61be08a947ed78e367d2d953b7e31dba7"), looks := true }, kinds := [], alts := [], laidByText := true, laidKinds := [.data, .data, .data, .data, .sentinel, .sentinel, .pinned], laidTests := true, laidLooks := .later }
def ConfMixedUptoCardSaid : Prop := Claim7.holds Tryz.pinned (.plain (OpenSpec.upto confMixedSpec)) confMixedUptoCard

/-- THE SECOND FORM's CARD OF 'quintainlaw10.ConfBegins'. -/
def confBeginsUptoCard : Claim7 := { stood := { row := confBeginsUptoRow, standIns := [], harness := (true, "e7d1066ce5d98a20c95f673a60aa15d61be08a947ed78e367d2d953b7e31dba7"), looks := true }, kinds := [], alts := [], laidByText := true, laidKinds := [.data, .data, .data, .data, .sentinel, .sentinel, .pinned], laidTests := true, laidLooks := .later }
def ConfBeginsUptoCardSaid : Prop := Claim7.holds Tryz.pinned (.plain (OpenSpec.upto confBeginsSpec)) confBeginsUptoCard

/-- THE SECOND FORM's CARD OF 'quintainlaw10.ConfLeaves'. -/
def confLeavesUptoCard : Claim7 := { stood := { row := confLeavesUptoRow, standIns := [], harness := (true, "e7d1066ce5d98a20c95f673a60aa15d61be08a947ed78e367d2d953b7e31dba7"), looks := true }, kinds := [], alts := [], laidByText := true, laidKinds := [.data, .data, .data, .data, .sentinel, .sentinel, .pinned], laidTests := true, laidLooks := .later }
def ConfLeavesUptoCardSaid : Prop := Claim7.holds Tryz.pinned (.plain (OpenSpec.upto confLeavesSpec)) confLeavesUptoCard

/-- THE SECOND FORM's CARD OF 'quintainlaw10.ConfOver'. -/
def confOverUptoCard : Claim7 := { stood := { row := confOverUptoRow, standIns := [], harness := (true, "e7d1066ce5d98a20c95f673a60aa15d61be08a947ed78e367d2d953b7e31dba7"), looks := true }, kinds := [], alts := [], laidByText := true, laidKinds := [.data, .data, .data, .data, .sentinel, .sentinel, .pinned], laidTests := true, laidLooks := .later }
def ConfOverUptoCardSaid : Prop := Claim7.holds Tryz.pinned (.plain (OpenSpec.upto confOverSpec)) confOverUptoCard
end Rows
end Go.Proofs.YtcopfgbbjdefbaaGreatDoor

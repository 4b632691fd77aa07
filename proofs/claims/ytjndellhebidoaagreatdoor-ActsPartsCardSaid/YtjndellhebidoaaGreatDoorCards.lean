/-
  DERIVED. GIVEN WITH THE SEED: THE CARDS: each row of YtjndellhebidoaaGreatDoorRows.lean that lists a variable, with what it lists TIED to the program's text (the seventh form; the later family's looks); each row that meets fmt, with fmt's text TOLD by the authors' own Lean function (tested against real Go, not proved from fmt's source: count such statements apart). THE CARD IS WHAT COUNTS. Prove the row's statement (the work); the ties are given (YtjndellhebidoaaGreatDoorTie.lean); close each card by the builder's one call (the guide's Derived/Test/ToyasCard.lean, 'card_holds'). Laid BY PROGRAM, IN A SANDBOX (cutbox-door.mjs). By AI agents, Wed Nov 11 2026. No macro, syntax, notation, axiom, sorry.
-/
import Derived.Test.YtjndellhebidoaaGreatDoorRows
import GoSem.ClaimSeven
namespace Go.Proofs.YtjndellhebidoaaGreatDoor
namespace Rows

/-- THE TIED CARD OF 'quintainlaw06.ActsParses'. -/
def actsParsesCard : Claim7 := { stood := { row := actsParsesRow, standIns := [], harness := (true, "be0782c96f4c76c3c168465f4d5e7abefbcca1f370bfd67efae22db2be00755d"), looks := true }, kinds := [], alts := [], laidByText := true, laidKinds := [.data, .data, .data, .data, .sentinel, .sentinel, .pinned], laidTests := true, laidLooks := .later }
def ActsParsesCardSaid : Prop := Claim7.holds Tryz.pinned (.plain (OpenSpec.ofChange actsParsesSpec)) actsParsesCard

/-- THE TIED CARD OF 'quintainlaw06.ActsDo'. -/
def actsDoCard : Claim7 := { stood := { row := actsDoRow, standIns := [], harness := (true, "be0782c96f4c76c3c168465f4d5e7abefbcca1f370bfd67efae22db2be00755d"), looks := true }, kinds := [], alts := [], laidByText := true, laidKinds := [.data, .data, .data, .data, .sentinel, .sentinel, .pinned], laidTests := true, laidLooks := .later }
def ActsDoCardSaid : Prop := Claim7.holds Tryz.pinned (.plain (OpenSpec.ofChange actsDoSpec)) actsDoCard

/-- THE TIED CARD OF 'quintainlaw06.ActsParts'. -/
def actsPartsCard : Claim7 := { stood := { row := actsPartsRow, standIns := [], harness := (true, "be0782c96f4c76c3c168465f4d5e7abefbcca1f370bfd67efae22db2be00755d"), looks := true }, kinds := [], alts := [], laidByText := true, laidKinds := [.data, .data, .data, .data, .sentinel, .sentinel, .pinned], laidTests := true, laidLooks := .later }
def ActsPartsCardSaid : Prop := Claim7.holds Tryz.pinned (.plain (OpenSpec.ofChange actsPartsSpec)) actsPartsCard

/-- THE TIED CARD OF 'quintainlaw06.ActsFits'. -/
def actsFitsCard : Claim7 := { stood := { row := actsFitsRow, standIns := [], harness := (true, "be0782c96f4c76c3c168465f4d5e7abefbcca1f370bfd67efae22db2be00755d"), looks := true }, kinds := [], alts := [], laidByText := true, laidKinds := [.data, .data, .data, .data, .sentinel, .sentinel, .pinned], laidTests := true, laidLooks := .later }
def ActsFitsCardSaid : Prop := Claim7.holds Tryz.pinned (.plain (OpenSpec.ofChange actsFitsSpec)) actsFitsCard

/-- THE TIED CARD OF 'quintainlaw06.ActsShows'. -/
def actsShowsCard : Claim7 := { stood := { row := actsShowsRow, standIns := [], harness := (true, "be0782c96f4c76c3c168465f4d5e7abefbcca1f370bfd67efae22db2be00755d"), looks := true }, kinds := [], alts := [], laidByText := true, laidKinds := [.data, .data, .data, .data, .sentinel, .sentinel, .pinned], laidTests := true, laidLooks := .later }
def ActsShowsCardSaid : Prop := Claim7.holds Tryz.pinned (.plain (OpenSpec.ofChange actsShowsSpec)) actsShowsCard

/-- THE TIED CARD OF 'quintainlaw06.ActsBack'. -/
def actsBackCard : Claim7 := { stood := { row := actsBackRow, standIns := [], harness := (true, "be0782c96f4c76c3c168465f4d5e7abefbcca1f370bfd67efae22db2be00755d"), looks := true }, kinds := [], alts := [], laidByText := true, laidKinds := [.data, .data, .data, .data, .sentinel, .sentinel, .pinned], laidTests := true, laidLooks := .later }
def ActsBackCardSaid : Prop := Claim7.holds Tryz.pinned (.plain (OpenSpec.ofChange actsBackSpec)) actsBackCard

/-- THE SECOND FORM's CARD OF 'quintainlaw06.ActsParses'. -/
def actsParsesUptoCard : Claim7 := { stood := { row := actsParsesUptoRow, standIns := [], harness := (true, "be0782c96f4c76c3c168465f4d5e7abefbcca1f370bfd67efae22db2be00755d"), looks := true }, kinds := [], alts := [], laidByText := true, laidKinds := [.data, .data, .data, .data, .sentinel, .sentinel, .pinned], laidTests := true, laidLooks := .later }
def ActsParsesUptoCardSaid : Prop := Claim7.holds Tryz.pinned (.plain (OpenSpec.upto actsParsesSpec)) actsParsesUptoCard

/-- THE SECOND FORM's CARD OF 'quintainlaw06.ActsDo'. -/
def actsDoUptoCard : Claim7 := { stood := { row := actsDoUptoRow, standIns := [], harness := (true, "be0782c96f4c76c3c168465f4d5e7abefbcca1f370bfd67efae22db2be00755d"), looks := true }, kinds := [], alts := [], laidByText := true, laidKinds := [.data, .data, .data, .data, .sentinel, .sentinel, .pinned], laidTests := true, laidLooks := .later }
def ActsDoUptoCardSaid : Prop := Claim7.holds Tryz.pinned (.plain (OpenSpec.upto actsDoSpec)) actsDoUptoCard

/-- THE SECOND FORM's CARD OF 'quintainlaw06.ActsParts'. -/
def actsPartsUptoCard : Claim7 := { stood := { row := actsPartsUptoRow, standIns := [], harness := (true, "be0782c96f4c76c3c168465f4d5e7abefbcca1f370bfd67efae22db2be00755d"), looks := true }, kinds := [], alts := [], laidByText := true, laidKinds := [.data, .data, .data, .data, .sentinel, .sentinel, .pinned], laidTests := true, laidLooks := .later }
def ActsPartsUptoCardSaid : Prop := Claim7.holds Tryz.pinned (.plain (OpenSpec.upto actsPartsSpec)) actsPartsUptoCard

/-- THE SECOND FORM's CARD OF 'quintainlaw06.ActsFits'. -/
def actsFitsUptoCard : Claim7 := { stood := { row := actsFitsUptoRow, standIns := [], harness := (true, "be0782c96f4c76c3c168465f4d5e7abefbcca1f370bfd67efae22db2be00755d"), looks := true }, kinds := [], alts := [], laidByText := true, laidKinds := [.data, .data, .data, .data, .sentinel, .sentinel, .pinned], laidTests := true, laidLooks := .later }
def ActsFitsUptoCardSaid : Prop := Claim7.holds Tryz.pinned (.plain (OpenSpec.upto actsFitsSpec)) actsFitsUptoCard

/-- THE SECOND FORM's CARD OF 'quintainlaw06.ActsShows'. -/
def actsShowsUptoCard : Claim7 := { stood := { row := actsShowsUptoRow, standIns := [], harness := (true, "be0782c96f4c76c3c168465f4d5e7abefbcca1f370bfd67efae22db2be00755d"), looks := true }, kinds := [], alts := [], laidByText := true, laidKinds := [.data, .data, .data, .data, .sentinel, .sentinel, .pinned], laidTests := true, laidLooks := .later }
def ActsShowsUptoCardSaid : Prop := Claim7.holds Tryz.pinned (.plain (OpenSpec.upto actsShowsSpec)) actsShowsUptoCard

/-- THE SECOND FORM's CARD OF 'quintainlaw06.ActsBack'. -/
def actsBackUptoCard : Claim7 := { stood := { row := actsBackUptoRow, standIns := [], harness := (true, "be0782c96f4c76c3c168465f4d5e7abefbcca1f370bfd67efae22db2be00755d"), looks := true }, kinds := [], alts := [], laidByText := true, laidKinds := [.data, .data, .data, .data, .sentinel, .sentinel, .pinned], laidTests := true, laidLooks := .later }
def ActsBackUptoCardSaid : Prop := Claim7.holds Tryz.pinned (.plain (OpenSpec.upto actsBackSpec)) actsBackUptoCard
end Rows
end Go.Proofs.YtjndellhebidoaaGreatDoor

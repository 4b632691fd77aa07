/-
  DERIVED. GIVEN WITH THE SEED: THE CARDS: each row of YtpfidgnkokidoaaGreatDoorRows.lean that lists a variable, with what it lists TIED to the program's text (the seventh form; the later family's looks); each row that meets fmt, with fmt's text TOLD by the authors' own Lean function (tested against real Go, not proved from fmt's source: count such statements apart). THE CARD IS WHAT COUNTS. Prove the row's statement (the work); the ties are given (YtpfidgnkokidoaaGreatDoorTie.lean); close each card by the builder's one call (the guide's Derived/Test/ToyasCard.lean, 'card_holds'). Laid BY PROGRAM, IN A SANDBOX (cutbox-door.mjs). By AI agents, Wed Nov 11 2026. No macro, syntax, notation, axiom, sorry.
-/
import Derived.Test.YtpfidgnkokidoaaGreatDoorRows
import GoSem.ClaimSeven
namespace Go.Proofs.YtpfidgnkokidoaaGreatDoor
namespace Rows

/-- THE TIED CARD OF 'quintainlaw08.ChartParses'. -/
def chartParsesCard : Claim7 := { stood := { row := chartParsesRow, standIns := [], harness := (true, "92a3655ba0b9202e0d0956e08c9cbef25e6b0ab7629dd31f4a0773835043340b"), looks := true }, kinds := [], alts := [], laidByText := true, laidKinds := [.data, .data, .data, .data, .sentinel, .sentinel, .pinned], laidTests := true, laidLooks := .later }
def ChartParsesCardSaid : Prop := Claim7.holds Tryz.pinned (.plain (OpenSpec.ofChange chartParsesSpec)) chartParsesCard

/-- THE TIED CARD OF 'quintainlaw08.ChartShows'. -/
def chartShowsCard : Claim7 := { stood := { row := chartShowsRow, standIns := [], harness := (true, "92a3655ba0b9202e0d0956e08c9cbef25e6b0ab7629dd31f4a0773835043340b"), looks := true }, kinds := [], alts := [], laidByText := true, laidKinds := [.data, .data, .data, .data, .sentinel, .sentinel, .pinned], laidTests := true, laidLooks := .later }
def ChartShowsCardSaid : Prop := Claim7.holds Tryz.pinned (.plain (OpenSpec.ofChange chartShowsSpec)) chartShowsCard

/-- THE TIED CARD OF 'quintainlaw08.ChartBack'. -/
def chartBackCard : Claim7 := { stood := { row := chartBackRow, standIns := [], harness := (true, "92a3655ba0b9202e0d0956e08c9cbef25e6b0ab7629dd31f4a0773835043340b"), looks := true }, kinds := [], alts := [], laidByText := true, laidKinds := [.data, .data, .data, .data, .sentinel, .sentinel, .pinned], laidTests := true, laidLooks := .later }
def ChartBackCardSaid : Prop := Claim7.holds Tryz.pinned (.plain (OpenSpec.ofChange chartBackSpec)) chartBackCard

/-- THE TIED CARD OF 'quintainlaw08.ChartNormal'. -/
def chartNormalCard : Claim7 := { stood := { row := chartNormalRow, standIns := [], harness := (true, "92a3655ba0b9202e0d0956e08c9cbef25e6b0ab7629dd31f4a0773835043340b"), looks := true }, kinds := [], alts := [], laidByText := true, laidKinds := [.data, .data, .data, .data, .sentinel, .sentinel, .pinned], laidTests := true, laidLooks := .later }
def ChartNormalCardSaid : Prop := Claim7.holds Tryz.pinned (.plain (OpenSpec.ofChange chartNormalSpec)) chartNormalCard

/-- THE TIED CARD OF 'quintainlaw08.ChartPrefix'. -/
def chartPrefixCard : Claim7 := { stood := { row := chartPrefixRow, standIns := [], harness := (true, "92a3655ba0b9202e0d0956e08c9cbef25e6b0ab7629dd31f4a0773835043340b"), looks := true }, kinds := [], alts := [], laidByText := true, laidKinds := [.data, .data, .data, .data, .sentinel, .sentinel, .pinned], laidTests := true, laidLooks := .later }
def ChartPrefixCardSaid : Prop := Claim7.holds Tryz.pinned (.plain (OpenSpec.ofChange chartPrefixSpec)) chartPrefixCard

/-- THE SECOND FORM's CARD OF 'quintainlaw08.ChartParses'. -/
def chartParsesUptoCard : Claim7 := { stood := { row := chartParsesUptoRow, standIns := [], harness := (true, "92a3655ba0b9202e0d0956e08c9cbef25e6b0ab7629dd31f4a0773835043340b"), looks := true }, kinds := [], alts := [], laidByText := true, laidKinds := [.data, .data, .data, .data, .sentinel, .sentinel, .pinned], laidTests := true, laidLooks := .later }
def ChartParsesUptoCardSaid : Prop := Claim7.holds Tryz.pinned (.plain (OpenSpec.upto chartParsesSpec)) chartParsesUptoCard

/-- THE SECOND FORM's CARD OF 'quintainlaw08.ChartShows'. -/
def chartShowsUptoCard : Claim7 := { stood := { row := chartShowsUptoRow, standIns := [], harness := (true, "92a3655ba0b9202e0d0956e08c9cbef25e6b0ab7629dd31f4a0773835043340b"), looks := true }, kinds := [], alts := [], laidByText := true, laidKinds := [.data, .data, .data, .data, .sentinel, .sentinel, .pinned], laidTests := true, laidLooks := .later }
def ChartShowsUptoCardSaid : Prop := Claim7.holds Tryz.pinned (.plain (OpenSpec.upto chartShowsSpec)) chartShowsUptoCard

/-- THE SECOND FORM's CARD OF 'quintainlaw08.ChartBack'. -/
def chartBackUptoCard : Claim7 := { stood := { row := chartBackUptoRow, standIns := [], harness := (true, "92a3655ba0b9202e0d0956e08c9cbef25e6b0ab7629dd31f4a0773835043340b"), looks := true }, kinds := [], alts := [], laidByText := true, laidKinds := [.data, .data, .data, .data, .sentinel, .sentinel, .pinned], laidTests := true, laidLooks := .later }
def ChartBackUptoCardSaid : Prop := Claim7.holds Tryz.pinned (.plain (OpenSpec.upto chartBackSpec)) chartBackUptoCard

/-- THE SECOND FORM's CARD OF 'quintainlaw08.ChartNormal'. -/
def chartNormalUptoCard : Claim7 := { stood := { row := chartNormalUptoRow, standIns := [], harness := (true, "92a3655ba0b9202e0d0956e08c9cbef25e6b0ab7629dd31f4a0773835043340b"), looks := true }, kinds := [], alts := [], laidByText := true, laidKinds := [.data, .data, .data, .data, .sentinel, .sentinel, .pinned], laidTests := true, laidLooks := .later }
def ChartNormalUptoCardSaid : Prop := Claim7.holds Tryz.pinned (.plain (OpenSpec.upto chartNormalSpec)) chartNormalUptoCard

/-- THE SECOND FORM's CARD OF 'quintainlaw08.ChartPrefix'. -/
def chartPrefixUptoCard : Claim7 := { stood := { row := chartPrefixUptoRow, standIns := [], harness := (true, "92a3655ba0b9202e0d0956e08c9cbef25e6b0ab7629dd31f4a0773835043340b"), looks := true }, kinds := [], alts := [], laidByText := true, laidKinds := [.data, .data, .data, .data, .sentinel, .sentinel, .pinned], laidTests := true, laidLooks := .later }
def ChartPrefixUptoCardSaid : Prop := Claim7.holds Tryz.pinned (.plain (OpenSpec.upto chartPrefixSpec)) chartPrefixUptoCard
end Rows
end Go.Proofs.YtpfidgnkokidoaaGreatDoor

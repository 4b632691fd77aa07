/-
  DERIVED. GIVEN WITH THE SEED: THE CARDS: each row of YtndkapkejmkphaaDoorRows.lean that lists a variable, with what it lists TIED to the program's text (the seventh form; the later family's looks); each row that meets fmt, with fmt's text TOLD by the authors' own Lean function (tested against real Go, not proved from fmt's source: count such statements apart). THE CARD IS WHAT COUNTS. Prove the row's statement (the work); the ties are given (YtndkapkejmkphaaDoorTie.lean); close each card by the builder's one call (the guide's Derived/Test/ToyasCard.lean, 'card_holds'). Laid BY PROGRAM, IN A SANDBOX (cutbox-door.mjs). By AI agents, Wed Nov 11 2026. No macro, syntax, notation, axiom, sorry.
-/
import Derived.Test.YtndkapkejmkphaaDoorRows
import GoSem.ClaimSeven
namespace Go.Proofs.YtndkapkejmkphaaDoor
namespace Rows

/-- THE TIED CARD OF 'quintainlaw01.PlaneReads'. -/
def planeReadsCard : Claim7 := { stood := { row := planeReadsRow, standIns := [], harness := (true, "941b03ae9b460574d5e7ed85a645b1d5492e7897b604a3909b88f6ede492c3fa"), looks := true }, kinds := [], alts := [], laidByText := true, laidKinds := [.data, .data, .data, .data, .sentinel, .sentinel, .pinned], laidTests := true, laidLooks := .later }
def PlaneReadsCardSaid : Prop := Claim7.holds Tryd.pinned (.plain (OpenSpec.ofChange planeReadsSpec)) planeReadsCard

/-- THE SECOND FORM's CARD OF 'quintainlaw01.PlaneReads'. -/
def planeReadsUptoCard : Claim7 := { stood := { row := planeReadsUptoRow, standIns := [], harness := (true, "941b03ae9b460574d5e7ed85a645b1d5492e7897b604a3909b88f6ede492c3fa"), looks := true }, kinds := [], alts := [], laidByText := true, laidKinds := [.data, .data, .data, .data, .sentinel, .sentinel, .pinned], laidTests := true, laidLooks := .later }
def PlaneReadsUptoCardSaid : Prop := Claim7.holds Tryd.pinned (.plain (OpenSpec.upto planeReadsSpec)) planeReadsUptoCard
end Rows
end Go.Proofs.YtndkapkejmkphaaDoor

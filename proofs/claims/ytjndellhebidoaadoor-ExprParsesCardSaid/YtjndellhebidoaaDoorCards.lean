/-
  DERIVED. GIVEN WITH THE SEED: THE CARDS: each row of YtjndellhebidoaaDoorRows.lean that lists a variable, with what it lists TIED to the program's text (the seventh form; the later family's looks); each row that meets fmt, with fmt's text TOLD by the authors' own Lean function (tested against real Go, not proved from fmt's source: count such statements apart). THE CARD IS WHAT COUNTS. Prove the row's statement (the work); the ties are given (YtjndellhebidoaaDoorTie.lean); close each card by the builder's one call (the guide's Derived/Test/ToyasCard.lean, 'card_holds'). Laid BY PROGRAM, IN A SANDBOX (cutbox-door.mjs). By AI agents, Wed Nov 11 2026. No macro, syntax, notation, axiom, sorry.
-/
import Derived.Test.YtjndellhebidoaaDoorRows
import GoSem.ClaimSeven
namespace Go.Proofs.YtjndellhebidoaaDoor
namespace Rows

/-- THE TIED CARD OF 'quintainlaw03.ExprRight'. -/
def exprRightCard : Claim7 := { stood := { row := exprRightRow, standIns := [], harness := (true, "0ae85bcb2af813bffabb4d6f7ad88f3516f82d068db6c1e659fa6446ca0912c4"), looks := true }, kinds := [], alts := [], laidByText := true, laidKinds := [.data, .data, .data, .data, .sentinel, .sentinel, .pinned], laidTests := true, laidLooks := .later }
def ExprRightCardSaid : Prop := Claim7.holds Tryd.pinned (.plain (OpenSpec.ofChange exprRightSpec)) exprRightCard

/-- THE TIED CARD OF 'quintainlaw03.ExprShows'. -/
def exprShowsCard : Claim7 := { stood := { row := exprShowsRow, standIns := [], harness := (true, "0ae85bcb2af813bffabb4d6f7ad88f3516f82d068db6c1e659fa6446ca0912c4"), looks := true }, kinds := [], alts := [], laidByText := true, laidKinds := [.data, .data, .data, .data, .sentinel, .sentinel, .pinned], laidTests := true, laidLooks := .later }
def ExprShowsCardSaid : Prop := Claim7.holds Tryd.pinned (.plain (OpenSpec.ofChange exprShowsSpec)) exprShowsCard

/-- THE TIED CARD OF 'quintainlaw03.ExprParses'. -/
def exprParsesCard : Claim7 := { stood := { row := exprParsesRow, standIns := [], harness := (true, "0ae85bcb2af813bffabb4d6f7ad88f3516f82d068db6c1e659fa6446ca0912c4"), looks := true }, kinds := [], alts := [], laidByText := true, laidKinds := [.data, .data, .data, .data, .sentinel, .sentinel, .pinned], laidTests := true, laidLooks := .later }
def ExprParsesCardSaid : Prop := Claim7.holds Tryd.pinned (.plain (OpenSpec.ofChange exprParsesSpec)) exprParsesCard

/-- THE TIED CARD OF 'quintainlaw03.ExprBack'. -/
def exprBackCard : Claim7 := { stood := { row := exprBackRow, standIns := [], harness := (true, "0ae85bcb2af813bffabb4d6f7ad88f3516f82d068db6c1e659fa6446ca0912c4"), looks := true }, kinds := [], alts := [], laidByText := true, laidKinds := [.data, .data, .data, .data, .sentinel, .sentinel, .pinned], laidTests := true, laidLooks := .later }
def ExprBackCardSaid : Prop := Claim7.holds Tryd.pinned (.plain (OpenSpec.ofChange exprBackSpec)) exprBackCard

/-- THE TIED CARD OF 'quintainlaw03.ExprNormal'. -/
def exprNormalCard : Claim7 := { stood := { row := exprNormalRow, standIns := [], harness := (true, "0ae85bcb2af813bffabb4d6f7ad88f3516f82d068db6c1e659fa6446ca0912c4"), looks := true }, kinds := [], alts := [], laidByText := true, laidKinds := [.data, .data, .data, .data, .sentinel, .sentinel, .pinned], laidTests := true, laidLooks := .later }
def ExprNormalCardSaid : Prop := Claim7.holds Tryd.pinned (.plain (OpenSpec.ofChange exprNormalSpec)) exprNormalCard

/-- THE TIED CARD OF 'quintainlaw03.ExprWraps'. -/
def exprWrapsCard : Claim7 := { stood := { row := exprWrapsRow, standIns := [], harness := (true, "0ae85bcb2af813bffabb4d6f7ad88f3516f82d068db6c1e659fa6446ca0912c4"), looks := true }, kinds := [], alts := [], laidByText := true, laidKinds := [.data, .data, .data, .data, .sentinel, .sentinel, .pinned], laidTests := true, laidLooks := .later }
def ExprWrapsCardSaid : Prop := Claim7.holds Tryd.pinned (.plain (OpenSpec.ofChange exprWrapsSpec)) exprWrapsCard

/-- THE SECOND FORM's CARD OF 'quintainlaw03.ExprRight'. -/
def exprRightUptoCard : Claim7 := { stood := { row := exprRightUptoRow, standIns := [], harness := (true, "0ae85bcb2af813bffabb4d6f7ad88f3516f82d068db6c1e659fa6446ca0912c4"), looks := true }, kinds := [], alts := [], laidByText := true, laidKinds := [.data, .data, .data, .data, .sentinel, .sentinel, .pinned], laidTests := true, laidLooks := .later }
def ExprRightUptoCardSaid : Prop := Claim7.holds Tryd.pinned (.plain (OpenSpec.upto exprRightSpec)) exprRightUptoCard

/-- THE SECOND FORM's CARD OF 'quintainlaw03.ExprShows'. -/
def exprShowsUptoCard : Claim7 := { stood := { row := exprShowsUptoRow, standIns := [], harness := (true, "0ae85bcb2af813bffabb4d6f7ad88f3516f82d068db6c1e659fa6446ca0912c4"), looks := true }, kinds := [], alts := [], laidByText := true, laidKinds := [.data, .data, .data, .data, .sentinel, .sentinel, .pinned], laidTests := true, laidLooks := .later }
def ExprShowsUptoCardSaid : Prop := Claim7.holds Tryd.pinned (.plain (OpenSpec.upto exprShowsSpec)) exprShowsUptoCard

/-- THE SECOND FORM's CARD OF 'quintainlaw03.ExprParses'. -/
def exprParsesUptoCard : Claim7 := { stood := { row := exprParsesUptoRow, standIns := [], harness := (true, "0ae85bcb2af813bffabb4d6f7ad88f3516f82d068db6c1e659fa6446ca0912c4"), looks := true }, kinds := [], alts := [], laidByText := true, laidKinds := [.data, .data, .data, .data, .sentinel, .sentinel, .pinned], laidTests := true, laidLooks := .later }
def ExprParsesUptoCardSaid : Prop := Claim7.holds Tryd.pinned (.plain (OpenSpec.upto exprParsesSpec)) exprParsesUptoCard

/-- THE SECOND FORM's CARD OF 'quintainlaw03.ExprBack'. -/
def exprBackUptoCard : Claim7 := { stood := { row := exprBackUptoRow, standIns := [], harness := (true, "0ae85bcb2af813bffabb4d6f7ad88f3516f82d068db6c1e659fa6446ca0912c4"), looks := true }, kinds := [], alts := [], laidByText := true, laidKinds := [.data, .data, .data, .data, .sentinel, .sentinel, .pinned], laidTests := true, laidLooks := .later }
def ExprBackUptoCardSaid : Prop := Claim7.holds Tryd.pinned (.plain (OpenSpec.upto exprBackSpec)) exprBackUptoCard

/-- THE SECOND FORM's CARD OF 'quintainlaw03.ExprNormal'. -/
def exprNormalUptoCard : Claim7 := { stood := { row := exprNormalUptoRow, standIns := [], harness := (true, "0ae85bcb2af813bffabb4d6f7ad88f3516f82d068db6c1e659fa6446ca0912c4"), looks := true }, kinds := [], alts := [], laidByText := true, laidKinds := [.data, .data, .data, .data, .sentinel, .sentinel, .pinned], laidTests := true, laidLooks := .later }
def ExprNormalUptoCardSaid : Prop := Claim7.holds Tryd.pinned (.plain (OpenSpec.upto exprNormalSpec)) exprNormalUptoCard

/-- THE SECOND FORM's CARD OF 'quintainlaw03.ExprWraps'. -/
def exprWrapsUptoCard : Claim7 := { stood := { row := exprWrapsUptoRow, standIns := [], harness := (true, "0ae85bcb2af813bffabb4d6f7ad88f3516f82d068db6c1e659fa6446ca0912c4"), looks := true }, kinds := [], alts := [], laidByText := true, laidKinds := [.data, .data, .data, .data, .sentinel, .sentinel, .pinned], laidTests := true, laidLooks := .later }
def ExprWrapsUptoCardSaid : Prop := Claim7.holds Tryd.pinned (.plain (OpenSpec.upto exprWrapsSpec)) exprWrapsUptoCard
end Rows
end Go.Proofs.YtjndellhebidoaaDoor

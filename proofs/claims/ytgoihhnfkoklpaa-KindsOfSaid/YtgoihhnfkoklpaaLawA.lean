/- The law KindsOf: the walk. Conditions: none. -/
import Derived.Test.YtgoihhnfkoklpaaFnN
namespace Go.Proofs.Ytgoihhnfkoklpaa
open Go Go.Sy
set_option maxRecDepth 100000
def isCells (l : List Cell) : Mem → Value → Prop := fun H v => SliceH H 3 v (l.map Cell.row)
def isVars (l : List Var) : Mem → Value → Prop := fun H v => SliceH H 7 v (l.map Var.row)
def isStrs (l : List (List UInt8)) : Mem → Value → Prop := fun H v => SliceH H 1 v (l.map strRow)
theorem mem_any {l : List Nat} {j : Nat} (h : l.any (Nat.beq j) = true) : j ∈ l := by
  obtain ⟨x, h1, h2⟩ := List.any_eq_true.1 h
  rw [Nat.eq_of_beq_eq_true h2]; exact h1
end Go.Proofs.Ytgoihhnfkoklpaa

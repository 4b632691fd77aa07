/- A text argument of a law, opened. Conditions: none. -/
import Derived.Test.YtgoihhnfkoklpaaGb
namespace Go.Proofs.Ytgoihhnfkoklpaa
open Go Go.Ev Go.RowKit Go.ChangeShapes Go.WideShapes
set_option maxRecDepth 100000
theorem string9 {Hh : Type} {enc : TypeId × Value → Hh} {W : World} {base : Nat} {spare : Nat → Bool} {held : Bool} {v : Value} {d : DataW Hh} {ps : List MemPlace} {b0 : Nat} (h : DataW.Trod enc Try.prog W base spare held 9 v d ps) (hv : Value.okWide Try.prog W .any b0 9 v) :
    ∃ s : Str, SX.R (VW W) (.c (.pd (.str s))) v := by
  have hv' : Cell.okWide Try.prog W .any b0 9 v := by simpa only [Value.okWide, Try.underlying9] using hv
  obtain ⟨fuel, hf⟩ := h
  have hc : v.cells.toList = [v] := by
    have hv2 := hv'
    simp only [Cell.okWide, Try.underlying9, Cell.ok] at hv2
    cases v <;> first | rfl | exact hv2.elim
  rw [hc] at hf
  obtain ⟨s, h1⟩ := one_string Try.underlying9 hf rfl
  simp only [List.cons.injEq, and_true] at h1
  subst h1
  exact ⟨s, .str s⟩
end Go.Proofs.Ytgoihhnfkoklpaa

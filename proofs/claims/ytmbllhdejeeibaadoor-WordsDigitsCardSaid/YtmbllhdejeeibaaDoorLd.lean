/- Numbers among the law's arguments. Conditions: none. -/
import Derived.Test.YtmbllhdejeeibaaDoorLa
namespace Go.Proofs.YtmbllhdejeeibaaDoor
open Go Go.Ev Go.RowKit Go.ChangeShapes Go.WideShapes Go.ChangeAt
set_option maxRecDepth 100000
theorem inti64 {Hh : Type} {enc : TypeId × Value → Hh} {W : World} {base : Nat} {spare : Nat → Bool} {held : Bool} {v : Value} {d : DataW Hh} {ps : List MemPlace} {b0 : Nat} (h : DataW.Trod enc Tryd.prog W base spare held 2 v d ps) (hv : Value.okWide Tryd.prog W .any b0 2 v) :
    ∃ n : Int, SX.R (VW W) (.c (.pd (.int .i64 n))) v ∧ -9223372036854775808 ≤ n ∧ n ≤ 9223372036854775807 := by
  have hv' : Cell.okWide Tryd.prog W .any b0 2 v := by simpa only [Value.okWide, Tryd.underlying2] using hv
  obtain ⟨fuel, hf⟩ := h
  have hc : v.cells.toList = [v] := by
    have hv2 := hv'
    simp only [Cell.okWide, Tryd.underlying2, Cell.ok] at hv2
    cases v <;> first | rfl | exact hv2.elim
  rw [hc] at hf
  obtain ⟨n, h1, _, h2⟩ := DataW.trod_int Tryd.underlying2 hf
  simp only [List.cons.injEq, and_true] at h1
  subst h1
  simp only [Lit.wf, Bool.and_eq_true, decide_eq_true_eq] at h2
  have e1 : IntKind.i64.min = -9223372036854775808 := by decide
  have e2 : IntKind.i64.max = 9223372036854775807 := by decide
  rw [e1, e2] at h2
  exact ⟨n, .int _ n, h2.1, h2.2⟩
end Go.Proofs.YtmbllhdejeeibaaDoor

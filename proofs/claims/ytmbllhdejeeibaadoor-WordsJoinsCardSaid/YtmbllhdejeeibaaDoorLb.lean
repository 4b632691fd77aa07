/- Lists of texts and bytes as a law's arguments, opened. Conditions: none. -/
import Derived.Test.YtmbllhdejeeibaaDoorLa
namespace Go.Proofs.YtmbllhdejeeibaaDoor
open Go Go.Ev Go.RowKit Go.ChangeShapes Go.WideShapes Go.ChangeAt
set_option maxRecDepth 100000
section
variable {Hh : Type} {enc : TypeId × Value → Hh} {W : World} {base : Nat} {spare : Nat → Bool} {held : Bool}
theorem str_opened (n : Nat) (cs : List Value) (y : DataW Hh × List MemPlace) (h : DataW.trod enc Tryd.prog W base spare held n 9 cs = some y) : ∃ s : Str, All2 (PR (HW W)) (ETy.str.enc s) cs ∧ True := by
  obtain ⟨s, h1⟩ := one_string Tryd.underlying9 h rfl
  subst h1
  exact ⟨s, .cons (.str s) .nil, trivial⟩
theorem strs24 {v : Value} {d : DataW Hh} {ps : List MemPlace} {b0 : Nat} (h : DataW.Trod enc Tryd.prog W base spare held 22 v d ps) (hv : Value.okWide Tryd.prog W .any b0 22 v) :
    ∃ l : List Str, SX.R (VW W) (.c (.pd (.lst .str l))) v := by
  have hv' : Cell.okWide Tryd.prog W .any b0 22 v := by simpa only [Value.okWide, Tryd.underlying22] using hv
  obtain ⟨fuel, hf⟩ := h
  have hc : v.cells.toList = [v] := by
    have hv2 := hv'
    simp only [Cell.okWide, Tryd.underlying22, Cell.ok] at hv2
    cases v <;> first | rfl | exact hv2.elim
  rw [hc] at hf
  obtain ⟨l, h1, _⟩ := slice_opened (x := (d, ps)) .str Tryd.underlying22 (by kernel_rfl) str_opened hf ⟨_, _, hv'⟩
  exact ⟨l, h1⟩
theorem intu8 {v : Value} {d : DataW Hh} {ps : List MemPlace} {b0 : Nat} (h : DataW.Trod enc Tryd.prog W base spare held 5 v d ps) (hv : Value.okWide Tryd.prog W .any b0 5 v) :
    ∃ n : Int, SX.R (VW W) (.c (.pd (.int .u8 n))) v ∧ 0 ≤ n ∧ n ≤ 255 := by
  have hv' : Cell.okWide Tryd.prog W .any b0 5 v := by simpa only [Value.okWide, Tryd.underlying5] using hv
  obtain ⟨fuel, hf⟩ := h
  have hc : v.cells.toList = [v] := by
    have hv2 := hv'
    simp only [Cell.okWide, Tryd.underlying5, Cell.ok] at hv2
    cases v <;> first | rfl | exact hv2.elim
  rw [hc] at hf
  obtain ⟨n, h1, _, h2⟩ := DataW.trod_int Tryd.underlying5 hf
  simp only [List.cons.injEq, and_true] at h1
  subst h1
  simp only [Lit.wf, Bool.and_eq_true, decide_eq_true_eq] at h2
  have e1 : IntKind.u8.min = 0 := by decide
  have e2 : IntKind.u8.max = 255 := by decide
  rw [e1, e2] at h2
  exact ⟨n, .int _ n, h2.1, h2.2⟩
end
end Go.Proofs.YtmbllhdejeeibaaDoor

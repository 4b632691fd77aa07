/- Lists of cells among the laws' arguments. Conditions: none. -/
import Derived.Test.YtjndellhebidoaaDoorLx
import Derived.Test.YtjndellhebidoaaDoorDa
namespace Go.Proofs.YtjndellhebidoaaDoor
open Go Go.Ev Go.RowKit Go.ChangeShapes Go.WideShapes Go.ChangeAt
set_option maxRecDepth 100000
section
variable {Hh : Type} {enc : TypeId × Value → Hh} {W : World} {base : Nat} {spare : Nat → Bool} {held : Bool}
theorem one_int {t : TypeId} {k : IntKind} (ht : Tryd.prog.underlying t = some (.int k)) {fuel : Nat} {cs : List Value} {y : Option (DataW Hh × List MemPlace)} (h : DataW.trod enc Tryd.prog W base spare held fuel t cs = y) (hy : y.isSome = true) : ∃ n, cs = [.int k n] ∧ (Lit.int k n).wf = true := by
  obtain ⟨x, rfl⟩ := Option.isSome_iff_exists.1 hy
  obtain ⟨n, h1, _, h2⟩ := DataW.trod_int ht h
  exact ⟨n, h1, h2⟩
theorem cell_opened (n : Nat) (cs : List Value) (y : DataW Hh × List MemPlace) (h : DataW.trod enc Tryd.prog W base spare held n 38 cs = some y) : ∃ c : Cell, All2 (PR (HW W)) (ETy.cell.enc c) cs ∧ True := by
  obtain ⟨xs, m, _, rfl, hl, hlen, hf⟩ := DataW.trod_struct Tryd.underlying38 h
  have c38 : Tryd.prog.cellsOf 38 = 3 := by kernel_rfl
  have c1 : Tryd.prog.cellsOf 3 = 1 := by kernel_rfl
  have c2 : Tryd.prog.cellsOf 2 = 1 := by kernel_rfl
  have c9 : Tryd.prog.cellsOf 9 = 1 := by kernel_rfl
  have l3 : xs.length = 3 := hlen
  obtain ⟨a, h0, w0⟩ := one_int Tryd.underlying3 (hf 0 _ rfl) (by rw [List.getElem?_eq_getElem (by omega)]; rfl)
  obtain ⟨b, h1, w1⟩ := one_int Tryd.underlying2 (hf 1 _ rfl) (by rw [List.getElem?_eq_getElem (by omega)]; rfl)
  obtain ⟨s, h2⟩ := one_string Tryd.underlying9 (hf 2 _ rfl) (by rw [List.getElem?_eq_getElem (by omega)]; rfl)
  replace h0 : List.take (Tryd.prog.cellsOf 3) (List.drop 0 cs) = [.int .i64 a] := h0
  replace h1 : List.take (Tryd.prog.cellsOf 2) (List.drop 1 cs) = [.int .i64 b] := h1
  replace h2 : List.take (Tryd.prog.cellsOf 9) (List.drop 2 cs) = [.string (bs s)] := h2
  rw [c38] at hl
  rw [c1] at h0
  rw [c2] at h1
  rw [c9] at h2
  match cs, hl with
  | [u0, u1, u2], _ =>
    simp at h0 h1 h2
    subst h0; subst h1; subst h2
    exact ⟨⟨a, b, s⟩, .cons (.int _ a) (.cons (.int _ b) (.cons (.str s) .nil)), trivial⟩
/-- A list of cells among the arguments; its size. -/
theorem cells_arg {v : Value} {d : DataW Hh} {ps : List MemPlace} {b0 : Nat} (h : DataW.Trod enc Tryd.prog W base spare held 22 v d ps) (hv : Value.okWide Tryd.prog W .any b0 22 v) :
    ∃ l : List Cell, SX.R (VW W) (.c (.pd (.lst .cell l))) v ∧ ((d.weights Tryd.prog 22).all (· ≤ reachBytes) = true → room l.length 32) := by
  have hv' : Cell.okWide Tryd.prog W .any b0 22 v := by simpa only [Value.okWide, Tryd.underlying22] using hv
  obtain ⟨fuel, hf⟩ := h
  have hc : v.cells.toList = [v] := by
    have hv2 := hv'
    simp only [Cell.okWide, Tryd.underlying22, Cell.ok] at hv2
    cases v <;> first | rfl | exact hv2.elim
  rw [hc] at hf
  obtain ⟨l, h1, _, h3⟩ := slice_opened .cell (Q := fun _ => True) Tryd.underlying22 (by kernel_rfl) cell_opened hf ⟨_, _, hv'⟩
  have hb : Tryd.prog.bytesOf 38 = 32 := by kernel_rfl
  rw [hb] at h3
  refine ⟨l, h1, fun hw => ?_⟩
  have h4 := h3 hw
  unfold reachBytes at h4
  exact ⟨by omega, by unfold maxLen; omega⟩
end
end Go.Proofs.YtjndellhebidoaaDoor

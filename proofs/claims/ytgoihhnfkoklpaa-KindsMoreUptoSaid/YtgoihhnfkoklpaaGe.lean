/- What the bound of an Upto row gives: the lengths of the lists. Conditions: none. -/
import Derived.Test.YtgoihhnfkoklpaaRows
import Derived.Test.YtgoihhnfkoklpaaGb
namespace Go.Proofs.Ytgoihhnfkoklpaa
open Go Go.Ev Go.RowKit Go.ChangeShapes Go.WideShapes
set_option maxRecDepth 100000
section
variable {Hh : Type} {enc : TypeId × Value → Hh} {W : World} {base : Nat} {spare : Nat → Bool} {held : Bool}
theorem bulk_one (d : DataW Hh) : 1 ≤ Rows.uptoBulk d := by
  cases d with
  | lit l => cases l <;> simp [Rows.uptoBulk]
  | _ => simp [Rows.uptoBulk]
theorem bulk_len (l : List (DataW Hh)) : l.length ≤ Rows.uptoBulkAll l := by
  induction l with
  | nil => simp [Rows.uptoBulkAll]
  | cons x r ih => have := bulk_one x; simp only [Rows.uptoBulkAll, List.length_cons]; omega
/-- A list is no longer than its reading is great. -/
theorem list_bulk {u : ETy} {H : Mem} {l : List u.den} {t e : TypeId} {fuel : Nat} {v : Value} {x : DataW Hh × List MemPlace} (ht : Try.prog.underlying t = some (.slice e)) (h : DataW.trod enc Try.prog W base spare held fuel t [v] = some x) (hp : PR H (.lst u l) v) : l.length ≤ Rows.uptoBulk x.1 := by
  rcases Go.Deep.open_slice ht h with ⟨hc, rfl⟩ | ⟨a, len, cap, m, n, D, Pl, hc, _, hl, hm, hmm, rfl, hx⟩
  · simp only [List.cons.injEq, and_true] at hc
    subst hc
    cases hp with
    | emp t ao cap h => simp
  · simp only [List.cons.injEq, and_true] at hc
    subst hc
    have hb := bulk_len ((List.range len).map D)
    rw [List.length_map, List.length_range] at hb
    have hll : l.length ≤ len := by
      cases hp with
      | lst => exact Nat.le_refl _
      | emp => simp
    simp only [Rows.uptoBulk]
    omega
theorem scope_bulk {v : Value} {d : DataW Hh} {ps : List MemPlace} {V : Vn} {vars : List Var} {states : List Str} (h : DataW.Trod enc Try.prog W base spare held 26 v d ps) (hp : SX.R V (.agg [.pd (.lst .var vars), .pd (.lst .str states)]) v) :
    vars.length + states.length ≤ Rows.uptoBulk d := by
  obtain ⟨us, rfl, hu⟩ := hp
  cases hu with
  | cons p1 hu => cases hu with
    | cons p2 hu =>
      cases hu
      rename_i v1 v2
      obtain ⟨fuel, hf⟩ := h
      obtain ⟨xs, m, _, hx, hl, hlen, hf⟩ := DataW.trod_struct Try.underlying26 hf
      have l2 : xs.length = 2 := hlen
      have h0 := hf 0 _ rfl
      have h1 := hf 1 _ rfl
      match xs, l2 with
      | [y0, y1], _ =>
      have c23 : Try.prog.cellsOf 23 = 1 := by kernel_rfl
      have c24 : Try.prog.cellsOf 24 = 1 := by kernel_rfl
      replace h0 : DataW.trod enc Try.prog W base spare held m 23 (([v1, v2].drop 0).take (Try.prog.cellsOf 23)) = some y0 := h0
      replace h1 : DataW.trod enc Try.prog W base spare held m 24 (([v1, v2].drop 1).take (Try.prog.cellsOf 24)) = some y1 := h1
      rw [c23] at h0
      rw [c24] at h1
      have q0 := list_bulk Try.underlying23 h0 p1
      have q1 := list_bulk Try.underlying24 h1 p2
      simp only [Prod.mk.injEq] at hx
      rw [hx.1]
      simp only [List.map_cons, List.map_nil, Rows.uptoBulk, Rows.uptoBulkAll]
      omega
end
end Go.Proofs.Ytgoihhnfkoklpaa

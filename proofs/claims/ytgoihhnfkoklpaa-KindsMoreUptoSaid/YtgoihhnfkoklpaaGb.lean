/- The arguments of the laws on kinds, opened. Conditions: none. -/
import Derived.Test.YtgoihhnfkoklpaaDa
import Derived.Test.YtgoihhnfkoklpaaGa
namespace Go.Proofs.Ytgoihhnfkoklpaa
open Go Go.Ev Go.RowKit Go.ChangeShapes Go.WideShapes
set_option maxRecDepth 100000
def InI (n : Int) : Prop := -9223372036854775808 ≤ n ∧ n ≤ 9223372036854775807
theorem inI {n : Int} (h : (Lit.int .i64 n).wf = true) : InI n := by
  simp only [Lit.wf, Bool.and_eq_true, decide_eq_true_eq] at h
  have h1 : IntKind.i64.min = -9223372036854775808 := by decide
  have h2 : IntKind.i64.max = 9223372036854775807 := by decide
  rw [h1, h2] at h
  exact h
def CellIn (c : Cell) : Prop := InI c.op ∧ InI c.a
def ValIn (v : Val) : Prop := InI v.kind ∧ InI v.a ∧ InI v.b
def VarIn (v : Var) : Prop := InI v.kind ∧ InI v.lo ∧ InI v.hi ∧ ValIn v.init
theorem own : ownKnob Try.prog.godebug = none := by kernel_rfl
theorem laidOut : laidOutB Try.prog = true := by kernel_rfl
theorem two_of {cs : Array Value} (h : cs.size = 2) : ∃ a b, cs = #[a, b] := by
  obtain ⟨l⟩ := cs
  match l, h with
  | [a, b], _ => exact ⟨a, b, rfl⟩
section
variable {Hh : Type} {enc : TypeId × Value → Hh} {W : World} {base : Nat} {spare : Nat → Bool} {held : Bool}
theorem one_int {t : TypeId} {k : IntKind} (ht : Try.prog.underlying t = some (.int k)) {fuel : Nat} {cs : List Value} {y : Option (DataW Hh × List MemPlace)} (h : DataW.trod enc Try.prog W base spare held fuel t cs = y) (hy : y.isSome = true) : ∃ n, cs = [.int k n] ∧ (Lit.int k n).wf = true := by
  obtain ⟨x, rfl⟩ := Option.isSome_iff_exists.1 hy
  obtain ⟨n, h1, _, h2⟩ := DataW.trod_int ht h
  exact ⟨n, h1, h2⟩
theorem one_string {t : TypeId} (ht : Try.prog.underlying t = some .string) {fuel : Nat} {cs : List Value} {y : Option (DataW Hh × List MemPlace)} (h : DataW.trod enc Try.prog W base spare held fuel t cs = y) (hy : y.isSome = true) : ∃ s, cs = [.string (bs s)] := by
  obtain ⟨x, rfl⟩ := Option.isSome_iff_exists.1 hy
  obtain ⟨s, h1, _⟩ := DataW.trod_string ht h
  exact ⟨s.data.toList, by rw [h1, bs_eta]⟩
theorem str_opened (n : Nat) (cs : List Value) (y : DataW Hh × List MemPlace) (h : DataW.trod enc Try.prog W base spare held n 9 cs = some y) : ∃ s : Str, All2 (PR (HW W)) (ETy.str.enc s) cs ∧ True := by
  obtain ⟨s, h1⟩ := one_string Try.underlying9 h rfl
  subst h1
  exact ⟨s, .cons (.str s) .nil, trivial⟩
theorem cell_opened (n : Nat) (cs : List Value) (y : DataW Hh × List MemPlace) (h : DataW.trod enc Try.prog W base spare held n 38 cs = some y) : ∃ c : Cell, All2 (PR (HW W)) (ETy.cell.enc c) cs ∧ CellIn c := by
  obtain ⟨xs, m, _, rfl, hl, hlen, hf⟩ := DataW.trod_struct Try.underlying38 h
  have c38 : Try.prog.cellsOf 38 = 3 := by kernel_rfl
  have c1 : Try.prog.cellsOf 3 = 1 := by kernel_rfl
  have c2 : Try.prog.cellsOf 2 = 1 := by kernel_rfl
  have c9 : Try.prog.cellsOf 9 = 1 := by kernel_rfl
  have l3 : xs.length = 3 := hlen
  obtain ⟨a, h0, w0⟩ := one_int Try.underlying3 (hf 0 _ rfl) (by rw [List.getElem?_eq_getElem (by omega)]; rfl)
  obtain ⟨b, h1, w1⟩ := one_int Try.underlying2 (hf 1 _ rfl) (by rw [List.getElem?_eq_getElem (by omega)]; rfl)
  obtain ⟨s, h2⟩ := one_string Try.underlying9 (hf 2 _ rfl) (by rw [List.getElem?_eq_getElem (by omega)]; rfl)
  replace h0 : List.take (Try.prog.cellsOf 3) (List.drop 0 cs) = [.int .i64 a] := h0
  replace h1 : List.take (Try.prog.cellsOf 2) (List.drop 1 cs) = [.int .i64 b] := h1
  replace h2 : List.take (Try.prog.cellsOf 9) (List.drop 2 cs) = [.string (bs s)] := h2
  rw [c38] at hl
  rw [c1] at h0
  rw [c2] at h1
  rw [c9] at h2
  match cs, hl with
  | [u0, u1, u2], _ =>
    simp at h0 h1 h2
    subst h0; subst h1; subst h2
    exact ⟨⟨a, b, s⟩, .cons (.int _ a) (.cons (.int _ b) (.cons (.str s) .nil)), inI w0, inI w1⟩
theorem val_opened (n : Nat) (cs : List Value) (y : DataW Hh × List MemPlace) (h : DataW.trod enc Try.prog W base spare held n 42 cs = some y) : ∃ v : Val, cs = [.int .i64 v.kind, .int .i64 v.a, .int .i64 v.b] ∧ ValIn v := by
  obtain ⟨xs, m, _, rfl, hl, hlen, hf⟩ := DataW.trod_struct Try.underlying42 h
  have c38 : Try.prog.cellsOf 42 = 3 := by kernel_rfl
  have c1 : Try.prog.cellsOf 3 = 1 := by kernel_rfl
  have c2 : Try.prog.cellsOf 2 = 1 := by kernel_rfl
  have l3 : xs.length = 3 := hlen
  obtain ⟨a, h0, w0⟩ := one_int Try.underlying3 (hf 0 _ rfl) (by rw [List.getElem?_eq_getElem (by omega)]; rfl)
  obtain ⟨b, h1, w1⟩ := one_int Try.underlying2 (hf 1 _ rfl) (by rw [List.getElem?_eq_getElem (by omega)]; rfl)
  obtain ⟨c, h2, w2⟩ := one_int Try.underlying2 (hf 2 _ rfl) (by rw [List.getElem?_eq_getElem (by omega)]; rfl)
  replace h0 : List.take (Try.prog.cellsOf 3) (List.drop 0 cs) = [.int .i64 a] := h0
  replace h1 : List.take (Try.prog.cellsOf 2) (List.drop 1 cs) = [.int .i64 b] := h1
  replace h2 : List.take (Try.prog.cellsOf 2) (List.drop 2 cs) = [.int .i64 c] := h2
  rw [c38] at hl
  rw [c1] at h0
  rw [c2] at h1 h2
  match cs, hl with
  | [u0, u1, u2], _ =>
    simp at h0 h1 h2
    subst h0; subst h1; subst h2
    exact ⟨⟨a, b, c⟩, rfl, inI w0, inI w1, inI w2⟩
theorem var_opened (n : Nat) (cs : List Value) (y : DataW Hh × List MemPlace) (h : DataW.trod enc Try.prog W base spare held n 44 cs = some y) : ∃ v : Var, All2 (PR (HW W)) (ETy.var.enc v) cs ∧ VarIn v := by
  obtain ⟨xs, m, _, rfl, hl, hlen, hf⟩ := DataW.trod_struct Try.underlying44 h
  have c44 : Try.prog.cellsOf 44 = 7 := by kernel_rfl
  have c1 : Try.prog.cellsOf 3 = 1 := by kernel_rfl
  have c2 : Try.prog.cellsOf 2 = 1 := by kernel_rfl
  have c9 : Try.prog.cellsOf 9 = 1 := by kernel_rfl
  have c42 : Try.prog.cellsOf 42 = 3 := by kernel_rfl
  have l5 : xs.length = 5 := hlen
  obtain ⟨s, h0⟩ := one_string Try.underlying9 (hf 0 _ rfl) (by rw [List.getElem?_eq_getElem (by omega)]; rfl)
  obtain ⟨a, h1, w1⟩ := one_int Try.underlying3 (hf 1 _ rfl) (by rw [List.getElem?_eq_getElem (by omega)]; rfl)
  obtain ⟨b, h2, w2⟩ := one_int Try.underlying2 (hf 2 _ rfl) (by rw [List.getElem?_eq_getElem (by omega)]; rfl)
  obtain ⟨c, h3, w3⟩ := one_int Try.underlying2 (hf 3 _ rfl) (by rw [List.getElem?_eq_getElem (by omega)]; rfl)
  have h4' := hf 4 _ rfl
  rw [List.getElem?_eq_getElem (by omega)] at h4'
  obtain ⟨v, h4, w4⟩ := val_opened _ _ _ h4'
  replace h0 : List.take (Try.prog.cellsOf 9) (List.drop 0 cs) = [.string (bs s)] := h0
  replace h1 : List.take (Try.prog.cellsOf 3) (List.drop 1 cs) = [.int .i64 a] := h1
  replace h2 : List.take (Try.prog.cellsOf 2) (List.drop 2 cs) = [.int .i64 b] := h2
  replace h3 : List.take (Try.prog.cellsOf 2) (List.drop 3 cs) = [.int .i64 c] := h3
  replace h4 : List.take (Try.prog.cellsOf 42) (List.drop 4 cs) = [.int .i64 v.kind, .int .i64 v.a, .int .i64 v.b] := h4
  rw [c44] at hl
  rw [c9] at h0
  rw [c1] at h1
  rw [c2] at h2 h3
  rw [c42] at h4
  match cs, hl with
  | [u0, u1, u2, u3, u4, u5, u6], _ =>
    simp at h0 h1 h2 h3 h4
    obtain ⟨rfl, rfl, rfl⟩ := h4
    subst h0; subst h1; subst h2; subst h3
    exact ⟨⟨s, a, b, c, v⟩, .cons (.str s) (.cons (.int _ a) (.cons (.int _ b) (.cons (.int _ c) (.cons (.int _ _) (.cons (.int _ _) (.cons (.int _ _) .nil)))))), inI w1, inI w2, inI w3, w4⟩
theorem cells22 {v : Value} {d : DataW Hh} {ps : List MemPlace} {b0 : Nat} (h : DataW.Trod enc Try.prog W base spare held 22 v d ps) (hv : Value.okWide Try.prog W .any b0 22 v) :
    ∃ l : List Cell, PR (HW W) (.lst .cell l) v ∧ (∀ c ∈ l, CellIn c) ∧ ((d.weights Try.prog 22).all (· ≤ reachBytes) = true → l.length * 32 ≤ 140737488355328) := by
  have hv' : Cell.okWide Try.prog W .any b0 22 v := by simpa only [Value.okWide, Try.underlying22] using hv
  obtain ⟨fuel, hf⟩ := h
  have hc : v.cells.toList = [v] := by
    have hv2 := hv'
    simp only [Cell.okWide, Try.underlying22, Cell.ok] at hv2
    cases v <;> first | rfl | exact hv2.elim
  rw [hc] at hf
  obtain ⟨l, h1, h2, h3⟩ := slice_opened (x := (d, ps)) .cell Try.underlying22 (by kernel_rfl) cell_opened hf ⟨_, _, hv'⟩
  refine ⟨l, h1, h2, fun hw => ?_⟩
  have h4 := h3 hw
  have e : Try.prog.bytesOf 38 = 32 := by kernel_rfl
  rw [e] at h4
  unfold reachBytes at h4
  omega
theorem scope26 {v : Value} {d : DataW Hh} {ps : List MemPlace} {b0 : Nat} (h : DataW.Trod enc Try.prog W base spare held 26 v d ps) (hv : Value.okWide Try.prog W .any b0 26 v) :
    ∃ (vars : List Var) (states : List Str), SX.R (VW W) (.agg [.pd (.lst .var vars), .pd (.lst .str states)]) v ∧ (∀ x ∈ vars, VarIn x) ∧
      ((d.weights Try.prog 26).all (· ≤ reachBytes) = true → vars.length * 64 ≤ 140737488355328 ∧ states.length * 16 ≤ 140737488355328) := by
  simp only [Value.okWide, Try.underlying26] at hv
  obtain ⟨cs, rfl, hsz, ts, hts, _, hcs⟩ := hv
  have ets : ts = [23, 24] := by
    have e : Try.prog.cellTypes Try.prog.depth 26 = some [23, 24] := by kernel_rfl
    rw [e] at hts; exact (Option.some.inj hts).symm
  subst ets
  have c26 : Try.prog.cellsOf 26 = 2 := by kernel_rfl
  rw [c26] at hsz
  obtain ⟨v1, v2, rfl⟩ := two_of hsz
  obtain ⟨u1, hu1, ok1⟩ := hcs 0 v1 rfl
  obtain ⟨u2, hu2, ok2⟩ := hcs 1 v2 rfl
  have e1 : u1 = 23 := by simpa using hu1.symm
  have e2 : u2 = 24 := by simpa using hu2.symm
  subst e1; subst e2
  obtain ⟨fuel, hf⟩ := h
  obtain ⟨xs, m, _, hx, hl, hlen, hf⟩ := DataW.trod_struct Try.underlying26 hf
  have l2 : xs.length = 2 := hlen
  have h0 := hf 0 _ rfl
  have h1 := hf 1 _ rfl
  match xs, l2 with
  | [y0, y1], _ =>
  have c23 : Try.prog.cellsOf 23 = 1 := by kernel_rfl
  have c24 : Try.prog.cellsOf 24 = 1 := by kernel_rfl
  replace h0 : DataW.trod enc Try.prog W base spare held m 23 (([v1, v2].drop 0).take (Try.prog.cellsOf 23)) = some y0 := h0
  replace h1 : DataW.trod enc Try.prog W base spare held m 24 (([v1, v2].drop 1).take (Try.prog.cellsOf 24)) = some y1 := h1
  rw [c23] at h0
  rw [c24] at h1
  obtain ⟨vars, q1, q2, q3⟩ := slice_opened .var Try.underlying23 (by kernel_rfl) var_opened h0 ⟨_, _, ok1⟩
  obtain ⟨states, r1, _, r3⟩ := slice_opened .str Try.underlying24 (by kernel_rfl) str_opened h1 ⟨_, _, ok2⟩
  refine ⟨vars, states, ⟨[v1, v2], rfl, .cons q1 (.cons r1 .nil)⟩, q2, fun hw => ?_⟩
  simp only [Prod.mk.injEq] at hx
  rw [hx.1] at hw
  have hw2 : (y0.1.weights Try.prog 23 ++ (y1.1.weights Try.prog 24 ++ [])).all (· ≤ reachBytes) = true := by
    simpa [DataW.weights, Try.underlying26, DataW.weightsEach] using hw
  rw [List.all_append, List.append_nil, Bool.and_eq_true] at hw2
  have h4 := q3 hw2.1
  have h5 := r3 hw2.2
  have e : Try.prog.bytesOf 44 = 64 := by kernel_rfl
  have e' : Try.prog.bytesOf 9 = 16 := by kernel_rfl
  rw [e] at h4
  rw [e'] at h5
  unfold reachBytes at h4 h5
  omega
end
end Go.Proofs.Ytgoihhnfkoklpaa

/- The arguments of the laws on values, opened. Conditions: none. -/
import Derived.Test.YtgoihhnfkoklpaaGb
namespace Go.Proofs.Ytgoihhnfkoklpaa
open Go Go.Ev Go.RowKit Go.ChangeShapes Go.WideShapes
set_option maxRecDepth 100000
section
variable {Hh : Type} {enc : TypeId × Value → Hh} {W : World} {base : Nat} {spare : Nat → Bool} {held : Bool}
theorem three_of {cs : Array Value} (h : cs.size = 3) : ∃ a b c, cs = #[a, b, c] := by
  obtain ⟨l⟩ := cs
  match l, h with
  | [a, b, c], _ => exact ⟨a, b, c, rfl⟩
theorem valE_opened (n : Nat) (cs : List Value) (y : DataW Hh × List MemPlace) (h : DataW.trod enc Try.prog W base spare held n 42 cs = some y) : ∃ v : Val, All2 (PR (HW W)) (ETy.val.enc v) cs ∧ ValIn v := by
  obtain ⟨v, rfl, hv⟩ := val_opened n cs y h
  exact ⟨v, .cons (.int _ _) (.cons (.int _ _) (.cons (.int _ _) .nil)), hv⟩
/-- A value argument. -/
theorem value42 {v : Value} {d : DataW Hh} {ps : List MemPlace} {b0 : Nat} (h : DataW.Trod enc Try.prog W base spare held 42 v d ps) (hv : Value.okWide Try.prog W .any b0 42 v) :
    ∃ x : Val, SX.R (VW W) (.agg [.pd (.i x.kind), .pd (.i x.a), .pd (.i x.b)]) v ∧ ValIn x := by
  simp only [Value.okWide, Try.underlying42] at hv
  obtain ⟨cs, rfl, hsz, _⟩ := hv
  obtain ⟨fuel, hf⟩ := h
  obtain ⟨x, hx, hin⟩ := val_opened _ _ _ hf
  have hx' : cs.toList = [.int .i64 x.kind, .int .i64 x.a, .int .i64 x.b] := hx
  obtain ⟨cs⟩ := cs
  simp only at hx'
  subst hx'
  exact ⟨x, ⟨_, rfl, .cons (.int _ _) (.cons (.int _ _) (.cons (.int _ _) .nil))⟩, hin⟩
theorem world50 {v : Value} {d : DataW Hh} {ps : List MemPlace} {b0 : Nat} (h : DataW.Trod enc Try.prog W base spare held 50 v d ps) (hv : Value.okWide Try.prog W .any b0 50 v) :
    ∃ (vars : List Var) (vals : List Val) (act : List Str), SX.R (VW W) (.agg [.pd (.lst .var vars), .pd (.lst .val vals), .pd (.lst .str act)]) v ∧ (∀ x ∈ vars, VarIn x) ∧ (∀ x ∈ vals, ValIn x) ∧
      ((d.weights Try.prog 50).all (· ≤ reachBytes) = true → vars.length * 64 ≤ 140737488355328 ∧ vals.length * 24 ≤ 140737488355328 ∧ act.length * 16 ≤ 140737488355328) := by
  simp only [Value.okWide, Try.underlying50] at hv
  obtain ⟨cs, rfl, hsz, ts, hts, _, hcs⟩ := hv
  have ets : ts = [23, 48, 24] := by
    have e : Try.prog.cellTypes Try.prog.depth 50 = some [23, 48, 24] := by kernel_rfl
    rw [e] at hts; exact (Option.some.inj hts).symm
  subst ets
  have c26 : Try.prog.cellsOf 50 = 3 := by kernel_rfl
  rw [c26] at hsz
  obtain ⟨v1, v2, v3, rfl⟩ := three_of hsz
  obtain ⟨u1, hu1, ok1⟩ := hcs 0 v1 rfl
  obtain ⟨u2, hu2, ok2⟩ := hcs 1 v2 rfl
  obtain ⟨u3, hu3, ok3⟩ := hcs 2 v3 rfl
  have e1 : u1 = 23 := by simpa using hu1.symm
  have e2 : u2 = 48 := by simpa using hu2.symm
  have e3 : u3 = 24 := by simpa using hu3.symm
  subst e1; subst e2; subst e3
  obtain ⟨fuel, hf⟩ := h
  obtain ⟨xs, m, _, hx, hl, hlen, hf⟩ := DataW.trod_struct Try.underlying50 hf
  have l2 : xs.length = 3 := hlen
  have h0 := hf 0 _ rfl
  have h1 := hf 1 _ rfl
  have h2 := hf 2 _ rfl
  match xs, l2 with
  | [y0, y1, y2], _ =>
  have c23 : Try.prog.cellsOf 23 = 1 := by kernel_rfl
  have c48 : Try.prog.cellsOf 48 = 1 := by kernel_rfl
  have c24 : Try.prog.cellsOf 24 = 1 := by kernel_rfl
  replace h0 : DataW.trod enc Try.prog W base spare held m 23 (([v1, v2, v3].drop 0).take (Try.prog.cellsOf 23)) = some y0 := h0
  replace h1 : DataW.trod enc Try.prog W base spare held m 48 (([v1, v2, v3].drop 1).take (Try.prog.cellsOf 48)) = some y1 := h1
  replace h2 : DataW.trod enc Try.prog W base spare held m 24 (([v1, v2, v3].drop 2).take (Try.prog.cellsOf 24)) = some y2 := h2
  rw [c23] at h0
  rw [c48] at h1
  rw [c24] at h2
  obtain ⟨vars, q1, q2, q3⟩ := slice_opened .var Try.underlying23 (by kernel_rfl) var_opened h0 ⟨_, _, ok1⟩
  obtain ⟨vals, p1, p2, p3⟩ := slice_opened .val Try.underlying48 (by kernel_rfl) valE_opened h1 ⟨_, _, ok2⟩
  obtain ⟨states, r1, _, r3⟩ := slice_opened .str Try.underlying24 (by kernel_rfl) str_opened h2 ⟨_, _, ok3⟩
  refine ⟨vars, vals, states, ⟨[v1, v2, v3], rfl, .cons q1 (.cons p1 (.cons r1 .nil))⟩, q2, p2, fun hw => ?_⟩
  simp only [Prod.mk.injEq] at hx
  rw [hx.1] at hw
  have hw2 : (y0.1.weights Try.prog 23 ++ (y1.1.weights Try.prog 48 ++ (y2.1.weights Try.prog 24 ++ []))).all (· ≤ reachBytes) = true := by
    simpa [DataW.weights, Try.underlying50, DataW.weightsEach] using hw
  rw [List.all_append, List.all_append, List.append_nil, Bool.and_eq_true, Bool.and_eq_true] at hw2
  have h4 := q3 hw2.1
  have h5 := p3 hw2.2.1
  have h6 := r3 hw2.2.2
  have e : Try.prog.bytesOf 44 = 64 := by kernel_rfl
  have e' : Try.prog.bytesOf 42 = 24 := by kernel_rfl
  have e'' : Try.prog.bytesOf 9 = 16 := by kernel_rfl
  rw [e] at h4
  rw [e'] at h5
  rw [e''] at h6
  unfold reachBytes at h4 h5 h6
  omega
end
end Go.Proofs.Ytgoihhnfkoklpaa

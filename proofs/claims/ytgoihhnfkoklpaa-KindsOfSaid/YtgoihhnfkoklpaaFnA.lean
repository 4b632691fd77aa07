/- Contracts of the program's functions on names and cells: a text is a name, how many operands a cell wants. Conditions: none. -/
import Derived.Test.YtgoihhnfkoklpaaRows
import Derived.Test.YtgoihhnfkoklpaaDef
namespace Go.Proofs.Ytgoihhnfkoklpaa
open Go Go.Sy
set_option maxRecDepth 100000

theorem any_getD {p : UInt8 → Bool} {s : List UInt8} {k : Nat} (hk : k < s.length) (h : p (s.getD k 0) = true) : s.any p = true := by
  rw [List.any_eq_true]
  refine ⟨s.getD k 0, ?_, h⟩
  rw [List.getD_eq_getElem?_getD, List.getElem?_eq_getElem hk]
  exact List.getElem_mem hk
theorem not_any_getD {p : UInt8 → Bool} {s : List UInt8} (h : ∀ j, j < s.length → p (s.getD j 0) = false) : s.any p = false := by
  rw [List.any_eq_false]
  intro x hx
  obtain ⟨j, hj, rfl⟩ := List.getElem_of_mem hx
  have := h j hj
  rw [List.getD_eq_getElem?_getD, List.getElem?_eq_getElem hj] at this
  simpa using this

theorem name_loop (s : List UInt8) (w0 : World) (H : Mem) (h0 : name0 s = false) : ∀ (n k : Nat), s.length - k ≤ n → k ≤ s.length → (∀ j, j < k → badB (s.getD j 0) = false) →
    J Try.prog 55 (bodyOf Try.f55) (R0 w0 (.bool (nameM s))) w0 H [PI.code [1, 1, 0, 1, 0, 0], PI.inLoop [1, 1, 0, 1, 0, 0], PI.inBlock 0, PI.code [1, 1, 1]]
      { n := 56, fr := [(0, SV.c (SC.val (Value.string (bs s)))), (2, SV.c (SC.val (Value.bool false))), (23, SV.c (SC.val (Value.int IntKind.i64 (strLen s)))), (24, SV.c (SC.val (Value.int IntKind.i64 k)))], ck := [], kn := [2] } := by
  have hlen : s.length ≤ 12 := by simp [name0, strLen] at h0; omega
  intro n
  induction n with
  | zero => ?_
  | succ n ih => ?_
  all_goals
    intro k hn hk hb
    refine J.go TabOk.nil Try.func55 1000 (t := Tree.ite (decide (↑k < strLen s))
      (Tree.need (0 ≤ (k : Int) ∧ ↑k < strLen s)
        (Tree.ite (badB (s.getD k 0))
          (Tree.ret (SV.c (SC.val (Value.bool false))) { n := 56, fr := [], ck := [] })
          (Tree.stop [PI.code [1, 1, 0, 1, 0, 0], PI.inLoop [1, 1, 0, 1, 0, 0], PI.inBlock 0, PI.code [1, 1, 1]]
            { n := 56, fr := [(0, SV.c (SC.val (Value.string (bs s)))), (2, SV.c (SC.val (Value.bool false))), (23, SV.c (SC.val (Value.int IntKind.i64 (strLen s)))), (24, SV.c (SC.val (Value.int IntKind.i64 (IntKind.wrap IntKind.i64 (↑k + 1)))))], ck := [], kn := [2] })))
      (Tree.ite (s == [116, 114, 117, 101]) (Tree.ret (SV.c (SC.val (Value.bool false))) { n := 56, fr := [], ck := [] })
        (Tree.ite (s == [102, 97, 108, 115, 101]) (Tree.ret (SV.c (SC.val (Value.bool false))) { n := 56, fr := [], ck := [] })
          (Tree.ite (s == [105, 110]) (Tree.ret (SV.c (SC.val (Value.bool false))) { n := 56, fr := [], ck := [] })
            (Tree.ite (s == [114, 101]) (Tree.ret (SV.c (SC.val (Value.bool false))) { n := 56, fr := [], ck := [] })
              (Tree.ite (s == [105, 109]) (Tree.ret (SV.c (SC.val (Value.bool false))) { n := 56, fr := [], ck := [] })
                (Tree.ret (SV.c (SC.val (Value.bool true))) { n := 56, fr := [], ck := [] }))))))) (by kernel_rfl) ?_
    have hend : ¬ k < s.length → s.any badB = false := fun h => not_any_getD fun j hj => hb j (by omega)
    refine ⟨fun hlt => ⟨?_, fun hbad => Tree.J.val ?_, fun hok => ?_⟩, fun hge => ?_⟩
    · have := of_decide_eq_true hlt; simp only [strLen] at this ⊢; omega
    · have := of_decide_eq_true hlt; simp only [strLen] at this
      simp only [nameM, any_getD (by omega) hbad]; simp
    · have := of_decide_eq_true hlt; simp only [strLen] at this
      first
      | (exfalso; omega)
      | (rw [wrapK (by omega)]
         exact ih (k + 1) (by omega) (by omega) fun j hj => if e : j = k then by rw [e]; exact hok else hb j (by omega))
    · have := of_decide_eq_false hge; simp only [strLen] at this
      have hany := hend (by omega)
      refine ⟨fun h1 => Tree.J.val ?_, fun h1 => ⟨fun h2 => Tree.J.val ?_, fun h2 => ⟨fun h3 => Tree.J.val ?_, fun h3 => ⟨fun h4 => Tree.J.val ?_, fun h4 => ⟨fun h5 => Tree.J.val ?_, fun h5 => Tree.J.val ?_⟩⟩⟩⟩⟩ <;>
        simp [nameM, h0, hany, words5, *]

theorem name_pure (s : List UInt8) : PureC Try.prog 55 [.string (bs s)] (.bool (nameM s)) := by
  refine (Spec0.of (H := fun _ => none) Try.func55 (body_some (by kernel_rfl)) (by kernel_rfl) fun w0 => ?_).pure
  refine J.go TabOk.nil Try.func55 1000 (t := Tree.need ((s == [] || decide (strLen s > 12)) = false → 0 ≤ (0 : Int) ∧ 0 < strLen s)
    (Tree.need ((s == [] || decide (strLen s > 12) || decide (((s.getD 0 0).toNat : Int) < 97)) = false → 0 ≤ (0 : Int) ∧ 0 < strLen s)
      (Tree.ite (name0 s) (Tree.ret (SV.c (SC.val (Value.bool false))) { n := 56, fr := [], ck := [] })
      (Tree.stop [PI.code [1, 1, 0, 1, 0, 0], PI.inLoop [1, 1, 0, 1, 0, 0], PI.inBlock 0, PI.code [1, 1, 1]]
        { n := 56, fr := [(0, SV.c (SC.val (Value.string (bs s)))), (2, SV.c (SC.val (Value.bool false))), (23, SV.c (SC.val (Value.int IntKind.i64 (strLen s)))), (24, SV.c (SC.val (Value.int IntKind.i64 0)))], ck := [], kn := [2] })))) (by kernel_rfl) ?_
  have hpos : (s == [] || decide (strLen s > 12)) = false → 0 ≤ (0 : Int) ∧ 0 < strLen s := by
    intro h
    cases s with
    | nil => simp at h
    | cons c r => simp [strLen]
  refine ⟨hpos, fun h => hpos ?_, fun h => Tree.J.val ?_, fun h => ?_⟩
  · simp only [Bool.or_eq_false_iff] at h ⊢; exact h.1
  · simp [nameM, h]
  · exact name_loop s w0 _ h s.length 0 (by omega) (by omega) (fun j hj => by omega)
end Go.Proofs.Ytgoihhnfkoklpaa

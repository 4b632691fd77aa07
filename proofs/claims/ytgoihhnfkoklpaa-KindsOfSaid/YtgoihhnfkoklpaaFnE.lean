/- Contracts: the kind of a cell without operands. Conditions: none. -/
import Derived.Test.YtgoihhnfkoklpaaFnD
namespace Go.Proofs.Ytgoihhnfkoklpaa
open Go Go.Sy
set_option maxRecDepth 100000
theorem firstAt_find {α : Type} (p : α → Bool) : ∀ (l : List α) (i : Int), 0 ≤ i → (firstAt p l i = -1 ∧ l.find? p = none) ∨ ∃ (j : Nat) (x : α), firstAt p l i = i + j ∧ l[j]? = some x ∧ l.find? p = some x
  | [], i, _ => .inl ⟨rfl, rfl⟩
  | x :: r, i, h => by
    cases hp : p x
    · rcases firstAt_find p r (i + 1) (by omega) with ⟨h1, h2⟩ | ⟨j, y, h1, h2, h3⟩
      · exact .inl ⟨by simp only [firstAt, hp, cond_false]; exact h1, by simp [hp, h2]⟩
      · exact .inr ⟨j + 1, y, by simp only [firstAt, hp, cond_false]; omega, by simpa using h2, by simp [hp, h3]⟩
    · exact .inr ⟨0, x, by simp [firstAt, hp], rfl, by simp [hp]⟩
theorem cells_part {H : Mem} {b o : Nat} {row : List Value} (h : CellsAt H b o row) (j n : Nat) : CellsAt H b (o + j) ((row.drop j).take n) := by
  obtain ⟨cells, e, fr, h1, h2⟩ := h
  refine ⟨cells, e, fr, h1, fun m u hu => ?_⟩
  rw [List.getElem?_take] at hu
  split at hu
  · rw [List.getElem?_drop] at hu
    have := h2 _ _ hu
    rw [show o + j + m = o + (j + m) from by omega]; exact this
  · cases hu
def leafV (c : Cell) (vars : List Var) (states : List (List UInt8)) : Value := .tuple #[.int .i64 (leafM c vars states).1, .int .i64 (leafM c vars states).2]


theorem leaf_spec (c : Cell) (vars : List Var) (states : List (List UInt8)) (vv vs : Value) (H : Mem) (hl : vars.length ≤ 9223372036854775807) (hls : states.length ≤ 9223372036854775807) (hv : SliceH H 7 vv (vars.map Var.row)) (hs : SliceH H 1 vs (states.map strRow)) :
    Spec0 Try.prog 29 [.agg c.row.toArray, vv, vs] H (leafV c vars states) := by
  refine Spec0.of Try.func29 (body_some (by kernel_rfl)) (by kernel_rfl) fun w0 => ?_
  refine J.go TabOk.nil Try.func29 1000 (t := (Tree.ite (Cell.op c == (1 : Int)) (Tree.ret (SV.c (SC.val (Value.tuple #[Value.int IntKind.i64 (1 : Int), Value.int IntKind.i64 (0 : Int)]))) { n := (42 : Nat), fr := [], ck := [] }) (Tree.ite (Cell.op c == (2 : Int)) (Tree.ret (SV.c (SC.val (Value.tuple #[Value.int IntKind.i64 (3 : Int), Value.int IntKind.i64 (0 : Int)]))) { n := (42 : Nat), fr := [], ck := [] }) (Tree.ite (Cell.op c == (5 : Int)) (Tree.stop [PI.ops [(1 : Nat), (0 : Nat), (1 : Nat), (0 : Nat), (1 : Nat), (1 : Nat), (1 : Nat), (1 : Nat), (1 : Nat), (0 : Nat), (0 : Nat)] (2 : Nat), PI.code [(1 : Nat), (0 : Nat), (1 : Nat), (0 : Nat), (1 : Nat), (1 : Nat), (1 : Nat), (1 : Nat), (1 : Nat), (0 : Nat), (1 : Nat)], PI.inBlock (0 : Nat), PI.code [(1 : Nat), (1 : Nat)]] { n := (42 : Nat), fr := [((1 : Nat), SV.c (SC.val vv)), ((6 : Nat), SV.c (SC.val (Value.int IntKind.i64 (0 : Int)))), ((7 : Nat), SV.c (SC.val (Value.int IntKind.i64 (0 : Int)))), ((18 : Nat), SV.c (SC.val vv)), ((19 : Nat), SV.fn (Fn.func (39 : Nat)) [] [SC.loc (0 : Nat) (0 : Nat)])], ck := [Chunk.cells [SC.val (Value.int IntKind.i64 (Cell.op c)), SC.val (Value.int IntKind.i64 (Cell.a c)), SC.val (Value.string (bs (Cell.name c)))] (38 : Nat)] }) (Tree.ite (Cell.op c == (6 : Int)) (Tree.stop [PI.ops [(1 : Nat), (0 : Nat), (1 : Nat), (0 : Nat), (1 : Nat), (1 : Nat), (1 : Nat), (1 : Nat), (1 : Nat), (1 : Nat), (1 : Nat), (0 : Nat), (0 : Nat)] (3 : Nat), PI.code [(1 : Nat), (0 : Nat), (1 : Nat), (0 : Nat), (1 : Nat), (1 : Nat), (1 : Nat), (1 : Nat), (1 : Nat), (1 : Nat), (1 : Nat), (0 : Nat), (1 : Nat)], PI.inBlock (0 : Nat), PI.code [(1 : Nat), (1 : Nat)]] { n := (42 : Nat), fr := [((6 : Nat), SV.c (SC.val (Value.int IntKind.i64 (0 : Int)))), ((7 : Nat), SV.c (SC.val (Value.int IntKind.i64 (0 : Int)))), ((37 : Nat), SV.c (SC.val vs)), ((39 : Nat), SV.c (SC.val (Value.string (bs (Cell.name c)))))], ck := [] }) (Tree.ret (SV.c (SC.val (Value.tuple #[Value.int IntKind.i64 (2 : Int), Value.int IntKind.i64 (0 : Int)]))) { n := (42 : Nat), fr := [], ck := [] })))))) (by kernel_rfl) ?_
  refine ⟨fun h1 => Tree.J.val ?_, fun h1 => ⟨fun h2 => Tree.J.val ?_, fun h2 => ⟨fun h5 => ?_, fun h5 => ⟨fun h6 => ?_, fun h6 => Tree.J.val ?_⟩⟩⟩⟩
  · simp only [leafV, leafM, h1, cond_true]
  · simp only [leafV, leafM, h1, h2, cond_true, cond_false]
  · refine J.share (i := 0) (vals := c.row) (by kernel_rfl) fun b H' hle hcell => ?_
    have hix := ixv_spec (fun v => v.name == c.name) vars vv 39 (.pointer (some ⟨b, 0, none⟩)) H' (by kernel_rfl) hl (hv.mono hle) fun v _ => leafcl_spec v b c H' hcell
    refine J.call0 (dst := some 20) (g := 38) (vs := [vv, .func (.func 39) #[] #[.pointer (some ⟨b, 0, none⟩)]]) (by kernel_rfl) (by kernel_rfl) hix (by kernel_rfl) ?_
    rcases firstAt_find (fun v : Var => v.name == c.name) vars 0 (by omega) with ⟨hi, hf⟩ | ⟨j, v, hi, hj, hf⟩
    · rw [hi]
      have hfin : leafV c vars states = .tuple #[.int .i64 0, .int .i64 2] := by simp only [leafV, leafM, findVar, h1, h2, h5, hf, cond_true, cond_false]
      rw [hfin]
      rcases hv with ⟨rfl, _⟩ | ⟨bv, ov, cap, rfl, _, _, _⟩
      · refine J.go TabOk.nil Try.func29 1000 (t := (Tree.ite true (Tree.ret (SV.c (SC.val (Value.tuple #[Value.int IntKind.i64 (0 : Int), Value.int IntKind.i64 (2 : Int)]))) { n := (42 : Nat), fr := [], ck := [] }) (Tree.stop [PI.ops [(1 : Nat), (0 : Nat), (1 : Nat), (0 : Nat), (1 : Nat), (1 : Nat), (1 : Nat), (1 : Nat), (1 : Nat), (0 : Nat), (1 : Nat), (1 : Nat), (0 : Nat), (0 : Nat)] (2 : Nat), PI.code [(1 : Nat), (0 : Nat), (1 : Nat), (0 : Nat), (1 : Nat), (1 : Nat), (1 : Nat), (1 : Nat), (1 : Nat), (0 : Nat), (1 : Nat), (1 : Nat), (0 : Nat), (1 : Nat)], PI.code [(1 : Nat), (0 : Nat), (1 : Nat), (0 : Nat), (1 : Nat), (1 : Nat), (1 : Nat), (1 : Nat), (1 : Nat), (0 : Nat), (1 : Nat), (1 : Nat), (1 : Nat)], PI.inBlock (0 : Nat), PI.code [(1 : Nat), (1 : Nat)]] { n := (42 : Nat), fr := [((6 : Nat), SV.c (SC.val (Value.int IntKind.i64 (0 : Int)))), ((7 : Nat), SV.c (SC.val (Value.int IntKind.i64 (0 : Int)))), ((23 : Nat), SV.c (SC.val (Value.slice none (0 : Nat) (0 : Nat)))), ((24 : Nat), SV.c (SC.val (Value.int IntKind.i64 (-1 : Int))))], ck := [] }))) (by kernel_rfl) ?_
        exact ⟨fun _ => Tree.J.val rfl, fun h => Bool.noConfusion h⟩
      · refine J.go TabOk.nil Try.func29 1000 (t := (Tree.ite true (Tree.ret (SV.c (SC.val (Value.tuple #[Value.int IntKind.i64 (0 : Int), Value.int IntKind.i64 (2 : Int)]))) { n := (42 : Nat), fr := [], ck := [] }) (Tree.need ((0 : Int) ≤ (-1 : Int) ∧ (-1 : Int) < (↑(List.length (List.map Var.row vars)) : Int)) (Tree.stop [PI.ops [(1 : Nat), (0 : Nat), (1 : Nat), (0 : Nat), (1 : Nat), (1 : Nat), (1 : Nat), (1 : Nat), (1 : Nat), (0 : Nat), (1 : Nat), (1 : Nat), (0 : Nat), (0 : Nat)] (4 : Nat), PI.code [(1 : Nat), (0 : Nat), (1 : Nat), (0 : Nat), (1 : Nat), (1 : Nat), (1 : Nat), (1 : Nat), (1 : Nat), (0 : Nat), (1 : Nat), (1 : Nat), (0 : Nat), (1 : Nat)], PI.code [(1 : Nat), (0 : Nat), (1 : Nat), (0 : Nat), (1 : Nat), (1 : Nat), (1 : Nat), (1 : Nat), (1 : Nat), (0 : Nat), (1 : Nat), (1 : Nat), (1 : Nat)], PI.inBlock (0 : Nat), PI.code [(1 : Nat), (1 : Nat)]] { n := (42 : Nat), fr := [((6 : Nat), SV.c (SC.val (Value.int IntKind.i64 (0 : Int)))), ((7 : Nat), SV.c (SC.val (Value.int IntKind.i64 (0 : Int)))), ((26 : Nat), SV.c (SC.val (Value.pointer (some { block := bv, off := ov + (0 : Nat) + (1 : Nat) }))))], ck := [] })))) (by kernel_rfl) ?_
        exact ⟨fun _ => Tree.J.val rfl, fun h => Bool.noConfusion h⟩
    · rw [hi, Int.zero_add]
      rcases hv with ⟨rfl, h0⟩ | ⟨bv, ov, cap, rfl, _, _, hr⟩
      · have : vars = [] := by simpa using h0
        subst this; simp at hj
      · have hjl : j < vars.length := (List.getElem?_eq_some_iff.1 hj).1
        refine J.go TabOk.nil Try.func29 1000 (t := (Tree.ite false (Tree.ret (SV.c (SC.val (Value.tuple #[Value.int IntKind.i64 (0 : Int), Value.int IntKind.i64 (2 : Int)]))) { n := (42 : Nat), fr := [], ck := [] }) (Tree.need ((0 : Int) ≤ (↑j : Int) ∧ (↑j : Int) < (↑(List.length (List.map Var.row vars)) : Int)) (Tree.stop [PI.ops [(1 : Nat), (0 : Nat), (1 : Nat), (0 : Nat), (1 : Nat), (1 : Nat), (1 : Nat), (1 : Nat), (1 : Nat), (0 : Nat), (1 : Nat), (1 : Nat), (0 : Nat), (0 : Nat)] (4 : Nat), PI.code [(1 : Nat), (0 : Nat), (1 : Nat), (0 : Nat), (1 : Nat), (1 : Nat), (1 : Nat), (1 : Nat), (1 : Nat), (0 : Nat), (1 : Nat), (1 : Nat), (0 : Nat), (1 : Nat)], PI.code [(1 : Nat), (0 : Nat), (1 : Nat), (0 : Nat), (1 : Nat), (1 : Nat), (1 : Nat), (1 : Nat), (1 : Nat), (0 : Nat), (1 : Nat), (1 : Nat), (1 : Nat)], PI.inBlock (0 : Nat), PI.code [(1 : Nat), (1 : Nat)]] { n := (42 : Nat), fr := [((6 : Nat), SV.c (SC.val (Value.int IntKind.i64 (0 : Int)))), ((7 : Nat), SV.c (SC.val (Value.int IntKind.i64 (0 : Int)))), ((26 : Nat), SV.c (SC.val (Value.pointer (some { block := bv, off := ov + j * (7 : Nat) + (1 : Nat) }))))], ck := [] })))) (by kernel_rfl) ?_
        refine ⟨(fun h => Bool.noConfusion h), fun _ => ⟨⟨by omega, by rw [List.length_map]; omega⟩, ?_⟩⟩
        · have hcell2 : CellsAt H' bv (ov + j * 7 + 1) [.int .i64 v.kind] := cells_part ((hr.mono hle) j v.row (by simp [hj])).2 1 1
          refine J.load (dst := some 27) (b := bv) (off := ov + j * 7 + 1) (n := 1) (g := false) (row := [.int .i64 v.kind]) (by kernel_rfl) hcell2 rfl rfl (by kernel_rfl) ?_
          refine J.go TabOk.nil Try.func29 1000 (t := (Tree.ite (decide (Var.kind v ≥ (1 : Int)) && decide (Var.kind v ≤ (3 : Int))) (Tree.ret (SV.c (SC.val (Value.tuple #[Value.int IntKind.i64 (Var.kind v), Value.int IntKind.i64 (0 : Int)]))) { n := (42 : Nat), fr := [], ck := [] }) (Tree.ret (SV.c (SC.val (Value.tuple #[Value.int IntKind.i64 (0 : Int), Value.int IntKind.i64 (8 : Int)]))) { n := (42 : Nat), fr := [], ck := [] }))) (by kernel_rfl) ?_
          refine ⟨fun h => Tree.J.val ?_, fun h => Tree.J.val ?_⟩ <;> simp only [leafV, leafM, findVar, h1, h2, h5, hf, h, cond_true, cond_false]
  · refine J.call0 (dst := some 40) (g := 40) (vs := [vs, .string (bs c.name)]) (by kernel_rfl) (by kernel_rfl) (contains_spec states c.name vs H hls hs) (by kernel_rfl) ?_
    refine J.go TabOk.nil Try.func29 1000 (t := (Tree.ite (!List.any states fun x => Cell.name c == x) (Tree.ret (SV.c (SC.val (Value.tuple #[Value.int IntKind.i64 (0 : Int), Value.int IntKind.i64 (2 : Int)]))) { n := (42 : Nat), fr := [], ck := [] }) (Tree.ret (SV.c (SC.val (Value.tuple #[Value.int IntKind.i64 (2 : Int), Value.int IntKind.i64 (0 : Int)]))) { n := (42 : Nat), fr := [], ck := [] }))) (by kernel_rfl) ?_
    have hany : (states.any fun x => c.name == x) = states.any fun x => x == c.name := by congr 1; funext x; exact Bool.beq_comm
    refine ⟨fun h => Tree.J.val ?_, fun h => Tree.J.val ?_⟩ <;> rw [hany] at h <;> simp only [leafV, leafM, h1, h2, h5, h6, h, cond_true, cond_false]
  · simp only [leafV, leafM, h1, h2, h5, h6, cond_false]
end Go.Proofs.Ytgoihhnfkoklpaa

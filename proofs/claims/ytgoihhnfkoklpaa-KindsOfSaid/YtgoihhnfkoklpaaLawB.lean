/- The law KindsOf: the walk. Conditions: none. -/
import Derived.Test.YtgoihhnfkoklpaaLawA
namespace Go.Proofs.Ytgoihhnfkoklpaa
open Go Go.Sy
set_option maxRecDepth 100000

theorem kindsOf_walk (l : List Cell) (vars : List Var) (states : List (List UInt8)) (v1 v2 v3 : Value) (H : Mem) (hl : SliceH H 3 v1 (l.map Cell.row)) (hv : SliceH H 7 v2 (vars.map Var.row)) (hs : SliceH H 1 v3 (states.map strRow))
    (l1 : l.length * 32 ≤ 140737488355328) (l2 : vars.length * 64 ≤ 140737488355328) (l3 : states.length * 16 ≤ 140737488355328) :
    Spec0 Try.prog 3 [v1, .agg #[v2, v3]] H (.bool true) := by
  refine Spec0.of Try.func3 (body_some (by kernel_rfl)) (by kernel_rfl) fun w0 => ?_
  refine J.go TabOk.nil Try.func3 1000 (t := (Tree.stop [PI.code [(1 : Nat), (0 : Nat)], PI.code [(1 : Nat), (1 : Nat)]] { n := (43 : Nat), fr := [((0 : Nat), SV.c (SC.val v1)), ((3 : Nat), SV.c (SC.loc (0 : Nat) (0 : Nat))), ((4 : Nat), SV.c (SC.val (Value.bool false)))], ck := [Chunk.cells [SC.val v2, SC.val v3] (26 : Nat)], kn := [(4 : Nat)] })) (by kernel_rfl) ?_
  obtain ⟨k1, k2, hk⟩ : ∃ k1 k2, kindsM l vars states = (k1, k2) := ⟨_, _, rfl⟩
  refine J.flow TabOk.nil (by kernel_rfl) (by kernel_rfl) (by kernel_rfl) [(1, .pred (isCells l)), (2, .pred IsEmpty), (5, .pred (isVars vars)), (6, .pred IsEmpty), (9, .pred (isStrs states)), (10, .val (.tuple #[.int .i64 k1, .int .i64 k2]))]
    (hrun := (show _ = (some ([], [FV.sv (SV.c (SC.val v1)), FV.ex (isCells l), FV.ex IsEmpty, FV.sv (SV.c (SC.loc (0 : Nat) (0 : Nat))), FV.sv (SV.c (SC.val v2)), FV.ex (isVars vars), FV.ex IsEmpty, FV.sv (SV.c (SC.loc (0 : Nat) (1 : Nat))), FV.sv (SV.c (SC.val v3)), FV.ex (isStrs states), FV.sv (SV.c (SC.val (Value.tuple #[Value.int IntKind.i64 k1, Value.int IntKind.i64 k2]))), FV.sv (SV.c (SC.val (Value.tuple #[Value.int IntKind.i64 k1, Value.int IntKind.i64 k2]))), FV.sv (SV.c (SC.val (Value.int IntKind.i64 k1))), FV.sv (SV.c (SC.val (Value.int IntKind.i64 k2))), FV.sv (SV.c (SC.val (Value.int IntKind.i64 k1))), FV.sv (SV.c (SC.val (Value.int IntKind.i64 k2)))])) from (by kernel_rfl))) ?_ ?_ ?_ ?_
  · intro q hq; cases hq
  · intro e he
    simp only [List.mem_cons, List.not_mem_nil, or_false] at he
    rcases he with rfl | rfl | rfl | rfl | rfl | rfl
    · exact mono_slice _ _
    · exact mono_empty
    · exact mono_slice _ _
    · exact mono_empty
    · exact mono_slice _ _
    · exact mono_eq _
  · intro e he
    simp only [List.mem_cons, List.not_mem_nil, or_false] at he
    rcases he with rfl | rfl | rfl | rfl | rfl | rfl
    · exact exCall fun H1 hH1 us hus => ⟨15, [v1], by kernel_rfl, copied_spec l v1 H1 (hl.mono hH1) (by unfold maxLen; omega) l1⟩
    · exact exEmpty (by kernel_rfl)
    · exact exAppend (sz := 7) (bytes := 64) fun H1 hH1 us hus => ⟨us 2, v2, by kernel_rfl, hus 2 (mem_any (by kernel_rfl)) _ rfl, hv.mono hH1, by rw [List.length_map]; exact l2, by rw [List.length_map]; unfold maxLen; omega⟩
    · exact exEmpty (by kernel_rfl)
    · exact exAppend (sz := 1) (bytes := 16) fun H1 hH1 us hus => ⟨us 6, v3, by kernel_rfl, hus 6 (mem_any (by kernel_rfl)) _ rfl, hs.mono hH1, by rw [List.length_map]; exact l3, by rw [List.length_map]; unfold maxLen; omega⟩
    · refine exCall fun H1 hH1 us hus => ⟨14, [us 1, us 5, us 9], by kernel_rfl, ?_⟩
      have := (kinds_spec l vars states (us 1) (us 5) (us 9) H1 (hus 1 (mem_any (by kernel_rfl)) _ rfl) (by omega) (by omega) (hus 5 (mem_any (by kernel_rfl)) _ rfl) (hus 9 (mem_any (by kernel_rfl)) _ rfl)).spec
      rw [hk] at this
      exact this
  · intro H1 hH1 us hus
    refine J.go TabOk.nil Try.func3 1000 (t := (Tree.stop [PI.ops [(1 : Nat), (1 : Nat), (0 : Nat)] (5 : Nat), PI.code [(1 : Nat), (1 : Nat), (1 : Nat)]] { n := (43 : Nat), fr := [((5 : Nat), SV.c (SC.val (Value.int IntKind.i64 k1))), ((6 : Nat), SV.c (SC.val (Value.int IntKind.i64 k2))), ((4 : Nat), SV.c (SC.val (Value.bool false))), ((24 : Nat), SV.c (SC.val v1)), ((26 : Nat), SV.c (SC.val v2)), ((28 : Nat), SV.c (SC.val v3))], ck := [] })) (by kernel_rfl) ?_
    have hr := ref_kinds_spec l vars states v1 v2 v3 H1 (by omega) (hl.mono hH1) (by omega) (by omega) (hv.mono hH1) (hs.mono hH1)
    rw [hk] at hr
    refine J.call0 (dst := some 29) (g := 16) (vs := [v1, v2, v3]) (by kernel_rfl) (by kernel_rfl) hr (by kernel_rfl) ?_
    refine J.go TabOk.nil Try.func3 1000 (t := (Tree.stop [PI.ops [(1 : Nat), (1 : Nat), (1 : Nat), (0 : Nat)] (0 : Nat), PI.code [(1 : Nat), (1 : Nat), (1 : Nat), (1 : Nat)]] { n := (43 : Nat), fr := [((5 : Nat), SV.c (SC.val (Value.int IntKind.i64 k1))), ((6 : Nat), SV.c (SC.val (Value.int IntKind.i64 k2))), ((4 : Nat), SV.c (SC.val (Value.bool false))), ((7 : Nat), SV.c (SC.val (Value.int IntKind.i64 k1))), ((8 : Nat), SV.c (SC.val (Value.int IntKind.i64 k2)))], ck := [] })) (by kernel_rfl) ?_
    refine J.call0 (dst := some 32) (g := 17) (vs := []) (by kernel_rfl) (by kernel_rfl) (wakesFour_spec H1) (by kernel_rfl) ?_
    refine J.go TabOk.nil Try.func3 1000 (t := (Tree.ret (SV.c (SC.val (Value.bool (true && k1 == k1 && k2 == k2)))) { n := (43 : Nat), fr := [], ck := [] })) (by kernel_rfl) ?_
    exact Tree.J.val (by simp)
end Go.Proofs.Ytgoihhnfkoklpaa

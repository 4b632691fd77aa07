/- Contracts of the program's functions on cells: how many operands a cell wants. Conditions: none. -/
import Derived.Test.YtgoihhnfkoklpaaFnA
namespace Go.Proofs.Ytgoihhnfkoklpaa
open Go Go.Sy
set_option maxRecDepth 100000

theorem tabName_ok : TabOk Try.prog tabName := by
  refine TabOk.cons (fun vs p v h _ => ?_) TabOk.nil
  split at h
  · rename_i s
    simp only [Option.some.injEq, Prod.mk.injEq] at h
    obtain ⟨_, rfl⟩ := h
    rw [← bs_eta s, bs_toList]
    exact name_pure _
  · simp at h
theorem wants_pure (op a : Int) (s : List UInt8) : PureC Try.prog 37 [.agg #[.int .i64 op, .int .i64 a, .string (bs s)]] (.int .i64 (wantsM op a s)) := by
  refine pure_of tabName_ok Try.func37 (by kernel_rfl) (by kernel_rfl) (t := (Tree.ite (op == (1 : Int)) (Tree.ite (decide (a < (0 : Int)) || decide (a > (1099511627776 : Int)) || !s == []) (Tree.ret (SV.c (SC.val (Value.int IntKind.i64 (-1 : Int)))) { n := (74 : Nat), fr := [], ck := [] }) (Tree.ret (SV.c (SC.val (Value.int IntKind.i64 (0 : Int)))) { n := (74 : Nat), fr := [], ck := [] })) (Tree.ite (op == (2 : Int)) (Tree.ite (decide (a < (0 : Int)) || decide (a > (1048576 : Int)) || !s == []) (Tree.ret (SV.c (SC.val (Value.int IntKind.i64 (-1 : Int)))) { n := (74 : Nat), fr := [], ck := [] }) (Tree.ret (SV.c (SC.val (Value.int IntKind.i64 (0 : Int)))) { n := (74 : Nat), fr := [], ck := [] })) (Tree.ite (op == (5 : Int)) (Tree.ite (a != (0 : Int) || !nameM s) (Tree.ret (SV.c (SC.val (Value.int IntKind.i64 (-1 : Int)))) { n := (74 : Nat), fr := [], ck := [] }) (Tree.ret (SV.c (SC.val (Value.int IntKind.i64 (0 : Int)))) { n := (74 : Nat), fr := [], ck := [] })) (Tree.ite (op == (6 : Int)) (Tree.ite (a != (0 : Int) || !nameM s) (Tree.ret (SV.c (SC.val (Value.int IntKind.i64 (-1 : Int)))) { n := (74 : Nat), fr := [], ck := [] }) (Tree.ret (SV.c (SC.val (Value.int IntKind.i64 (0 : Int)))) { n := (74 : Nat), fr := [], ck := [] })) (Tree.ite (decide (op < (3 : Int)) || decide (op > (23 : Int)) || a != (0 : Int) || !s == []) (Tree.ret (SV.c (SC.val (Value.int IntKind.i64 (-1 : Int)))) { n := (74 : Nat), fr := [], ck := [] }) (Tree.ite (decide (op ≤ (4 : Int))) (Tree.ret (SV.c (SC.val (Value.int IntKind.i64 (0 : Int)))) { n := (74 : Nat), fr := [], ck := [] }) (Tree.ite (decide (op ≤ (10 : Int))) (Tree.ret (SV.c (SC.val (Value.int IntKind.i64 (1 : Int)))) { n := (74 : Nat), fr := [], ck := [] }) (Tree.ret (SV.c (SC.val (Value.int IntKind.i64 (2 : Int)))) { n := (74 : Nat), fr := [], ck := [] }))))))))) (by kernel_rfl) ?_
  simp only [Tree.V, Value.int.injEq, true_and]
  (repeat' (first | intro h | constructor)) <;> simp only [wantsM, *, cond_true, cond_false]
theorem tabWants_ok : TabOk Try.prog tabWants := by
  refine TabOk.cons (fun vs p v h _ => ?_) tabName_ok
  split at h
  · rename_i cs
    split at h
    · rename_i op a s hcs
      simp only [Option.some.injEq, Prod.mk.injEq] at h
      obtain ⟨_, rfl⟩ := h
      have : cs = #[.int .i64 op, .int .i64 a, .string s] := by cases cs; simp_all
      subst this
      have := wants_pure op a s.data.toList
      rw [bs_eta] at this
      exact this
    · simp at h
  · simp at h
theorem rows_at {H : Mem} {sz b off : Nat} {rows : List (List Value)} (h : RowsAt H sz b off rows) {j : Nat} {row : List Value} (hj : rows[j]? = some row) : CellsAt H b (off + j * sz) row := (h j row hj).2


theorem right_loop (l : List Cell) (b off cap : Nat) (H : Mem) (w0 : World) (hl : l.length ≤ 32) (hr : RowsAt H 3 b off (l.map Cell.row)) : ∀ (n k : Nat) (m : Int), l.length - k ≤ n → k ≤ l.length → 0 ≤ m → m ≤ k →
    J Try.prog 28 (bodyOf Try.f28) (R0 w0 (.bool (rightGo (l.drop k) m))) w0 H [PI.code [(1 : Nat), (1 : Nat), (1 : Nat), (0 : Nat), (1 : Nat), (0 : Nat), (0 : Nat)], PI.inLoop [(1 : Nat), (1 : Nat), (1 : Nat), (0 : Nat), (1 : Nat), (0 : Nat), (0 : Nat)], PI.inBlock (0 : Nat), PI.code [(1 : Nat), (1 : Nat), (1 : Nat), (1 : Nat)]] ({ n := (32 : Nat), fr := [(2, SV.c (SC.val (Value.bool false))), (3, SV.c (SC.val (Value.int IntKind.i64 (m)))), (10, SV.c (SC.val (Value.slice (some { block := b, off := off }) (List.length l) cap))), (11, SV.c (SC.val (Value.int IntKind.i64 (↑(List.length l) : Int)))), (12, SV.c (SC.val (Value.int IntKind.i64 (k))))], ck := [], kn := [(2 : Nat)] }) := by
  intro n
  induction n with
  | zero => ?_
  | succ n ih => ?_
  all_goals
    intro k m hn hk h0 hm
    refine J.go tabWants_ok Try.func28 1000 (t := (Tree.ite (decide ((↑k : Int) < (↑(List.length l) : Int))) (Tree.need ((0 : Int) ≤ (↑k : Int) ∧ (↑k : Int) < (↑(List.length l) : Int)) (Tree.stop [PI.ops [(1 : Nat), (1 : Nat), (1 : Nat), (0 : Nat), (1 : Nat), (0 : Nat), (0 : Nat), (1 : Nat), (1 : Nat), (0 : Nat), (0 : Nat), (0 : Nat)] (1 : Nat), PI.code [(1 : Nat), (1 : Nat), (1 : Nat), (0 : Nat), (1 : Nat), (0 : Nat), (0 : Nat), (1 : Nat), (1 : Nat), (0 : Nat), (0 : Nat), (1 : Nat)], PI.inBlock (1 : Nat), PI.code [(1 : Nat), (1 : Nat), (1 : Nat), (0 : Nat), (1 : Nat), (0 : Nat), (0 : Nat), (1 : Nat), (1 : Nat), (1 : Nat)], PI.inLoop [(1 : Nat), (1 : Nat), (1 : Nat), (0 : Nat), (1 : Nat), (0 : Nat), (0 : Nat)], PI.inBlock (0 : Nat), PI.code [(1 : Nat), (1 : Nat), (1 : Nat), (1 : Nat)]] { n := (32 : Nat), fr := [((2 : Nat), SV.c (SC.val (Value.bool false))), ((3 : Nat), SV.c (SC.val (Value.int IntKind.i64 m))), ((10 : Nat), SV.c (SC.val (Value.slice (some { block := b, off := off }) (List.length l) cap))), ((11 : Nat), SV.c (SC.val (Value.int IntKind.i64 (↑(List.length l) : Int)))), ((12 : Nat), SV.c (SC.val (Value.int IntKind.i64 (↑k : Int)))), ((14 : Nat), SV.c (SC.val (Value.pointer (some { block := b, off := off + k * (3 : Nat) }))))], ck := [], kn := [(2 : Nat)] })) (Tree.ret (SV.c (SC.val (Value.bool (m == (1 : Int))))) { n := (32 : Nat), fr := [], ck := [] }))) (by kernel_rfl) ?_
    refine ⟨fun hlt => ⟨?_, ?_⟩, fun hge => Tree.J.val ?_⟩
    · have := of_decide_eq_true hlt; omega
    · have hk' : k < l.length := by have := of_decide_eq_true hlt; omega
      have hck : (l.map Cell.row)[k]? = some (l[k].row) := by simp [List.getElem?_eq_getElem hk']
      have hdrop : l.drop k = l[k] :: l.drop (k + 1) := by rw [List.drop_eq_getElem_cons hk']
      rw [hdrop]
      generalize l[k] = c at hck
      refine J.load (dst := some 15) (b := b) (off := off + k * 3) (n := 3) (g := true) (row := c.row) (by kernel_rfl) (rows_at hr hck) rfl rfl (by kernel_rfl) ?_
      refine J.go tabWants_ok Try.func28 1000 (t := (Tree.ite (decide (wantsM (Cell.op c) (Cell.a c) (Cell.name c) < (0 : Int)) || decide (wantsM (Cell.op c) (Cell.a c) (Cell.name c) > m)) (Tree.ret (SV.c (SC.val (Value.bool false))) { n := (32 : Nat), fr := [], ck := [] }) (Tree.stop [PI.code [(1 : Nat), (1 : Nat), (1 : Nat), (0 : Nat), (1 : Nat), (0 : Nat), (0 : Nat)], PI.inLoop [(1 : Nat), (1 : Nat), (1 : Nat), (0 : Nat), (1 : Nat), (0 : Nat), (0 : Nat)], PI.inBlock (0 : Nat), PI.code [(1 : Nat), (1 : Nat), (1 : Nat), (1 : Nat)]] { n := (32 : Nat), fr := [((2 : Nat), SV.c (SC.val (Value.bool false))), ((3 : Nat), SV.c (SC.val (Value.int IntKind.i64 (IntKind.wrap IntKind.i64 (m + IntKind.wrap IntKind.i64 ((1 : Int) - wantsM (Cell.op c) (Cell.a c) (Cell.name c))))))), ((10 : Nat), SV.c (SC.val (Value.slice (some { block := b, off := off }) (List.length l) cap))), ((11 : Nat), SV.c (SC.val (Value.int IntKind.i64 (↑(List.length l) : Int)))), ((12 : Nat), SV.c (SC.val (Value.int IntKind.i64 (IntKind.wrap IntKind.i64 ((↑k : Int) + (1 : Int))))))], ck := [], kn := [(2 : Nat)] }))) (by kernel_rfl) ?_
      refine ⟨fun hb => Tree.J.val ?_, fun hb => ?_⟩
      · have hb' : (decide (c.wants < 0) || decide (c.wants > m)) = true := hb
        simp only [rightGo, hb', cond_true]
      · have hw : 0 ≤ c.wants ∧ c.wants ≤ m := by
          simp only [Bool.or_eq_false_iff] at hb
          have h1 := of_decide_eq_false hb.1
          have h2 := of_decide_eq_false hb.2
          unfold Cell.wants; omega
        have e1 : IntKind.wrap IntKind.i64 (m + IntKind.wrap IntKind.i64 (1 - wantsM c.op c.a c.name)) = m + (1 - c.wants) := by
          unfold Cell.wants at hw ⊢
          rw [wrapI (n := 1 - _) (by omega) (by omega), wrapI (by omega) (by omega)]
        have e2 : rightGo (c :: l.drop (k + 1)) m = rightGo (l.drop (k + 1)) (m + (1 - c.wants)) := by
          have hb' : (decide (c.wants < 0) || decide (c.wants > m)) = false := hb
          simp only [rightGo, hb', cond_false]
        rw [e1, e2, wrapK (by omega)]
        first
        | (exfalso; omega)
        | exact ih (k + 1) (m + (1 - c.wants)) (by omega) (by omega) (by omega) (by omega)
    · have : l.drop k = [] := by have := of_decide_eq_false hge; exact List.drop_eq_nil_of_le (by omega)
      rw [this]; rfl

theorem right_spec (l : List Cell) (v : Value) (H : Mem) (hv : SliceH H 3 v (l.map Cell.row)) : Spec0 Try.prog 28 [v] H (.bool (rightM l)) := by
  refine Spec0.of Try.func28 (body_some (by kernel_rfl)) (by kernel_rfl) fun w0 => ?_
  rcases hv with ⟨rfl, h0⟩ | ⟨b, off, cap, rfl, _, _, hr⟩
  · have h0 : l = [] := by simpa using h0
    subst h0
    refine J.go tabWants_ok Try.func28 1000 (t := (Tree.ite false (Tree.ret (SV.c (SC.val (Value.bool false))) { n := (32 : Nat), fr := [], ck := [] }) (Tree.stop [PI.code [(1 : Nat), (1 : Nat), (1 : Nat), (0 : Nat), (1 : Nat), (0 : Nat), (0 : Nat)], PI.inLoop [(1 : Nat), (1 : Nat), (1 : Nat), (0 : Nat), (1 : Nat), (0 : Nat), (0 : Nat)], PI.inBlock (0 : Nat), PI.code [(1 : Nat), (1 : Nat), (1 : Nat), (1 : Nat)]] { n := (32 : Nat), fr := [((2 : Nat), SV.c (SC.val (Value.bool false))), ((3 : Nat), SV.c (SC.val (Value.int IntKind.i64 (0 : Int)))), ((10 : Nat), SV.c (SC.val (Value.slice none (0 : Nat) (0 : Nat)))), ((11 : Nat), SV.c (SC.val (Value.int IntKind.i64 (↑(0 : Nat) : Int)))), ((12 : Nat), SV.c (SC.val (Value.int IntKind.i64 (0 : Int))))], ck := [], kn := [(2 : Nat)] }))) (by kernel_rfl) ?_
    refine ⟨(fun h => Bool.noConfusion h), fun _ => J.go tabWants_ok Try.func28 1000 (t := (Tree.ite false (Tree.stop [PI.ops [(1 : Nat), (1 : Nat), (1 : Nat), (0 : Nat), (1 : Nat), (0 : Nat), (0 : Nat), (1 : Nat), (1 : Nat), (0 : Nat), (0 : Nat), (0 : Nat)] (0 : Nat), PI.code [(1 : Nat), (1 : Nat), (1 : Nat), (0 : Nat), (1 : Nat), (0 : Nat), (0 : Nat), (1 : Nat), (1 : Nat), (0 : Nat), (0 : Nat), (1 : Nat)], PI.inBlock (1 : Nat), PI.code [(1 : Nat), (1 : Nat), (1 : Nat), (0 : Nat), (1 : Nat), (0 : Nat), (0 : Nat), (1 : Nat), (1 : Nat), (1 : Nat)], PI.inLoop [(1 : Nat), (1 : Nat), (1 : Nat), (0 : Nat), (1 : Nat), (0 : Nat), (0 : Nat)], PI.inBlock (0 : Nat), PI.code [(1 : Nat), (1 : Nat), (1 : Nat), (1 : Nat)]] { n := (32 : Nat), fr := [((2 : Nat), SV.c (SC.val (Value.bool false))), ((3 : Nat), SV.c (SC.val (Value.int IntKind.i64 (0 : Int)))), ((10 : Nat), SV.c (SC.val (Value.slice none (0 : Nat) (0 : Nat)))), ((11 : Nat), SV.c (SC.val (Value.int IntKind.i64 (↑(0 : Nat) : Int)))), ((12 : Nat), SV.c (SC.val (Value.int IntKind.i64 (0 : Int))))], ck := [], kn := [(2 : Nat)] }) (Tree.ret (SV.c (SC.val (Value.bool false))) { n := (32 : Nat), fr := [], ck := [] }))) (by kernel_rfl) ⟨(fun h => Bool.noConfusion h), (fun _ => Tree.J.val rfl)⟩⟩
  · rw [List.length_map]
    refine J.go tabWants_ok Try.func28 1000 (t := (Tree.ite (decide ((↑(List.length l) : Int) > (32 : Int))) (Tree.ret (SV.c (SC.val (Value.bool false))) { n := (32 : Nat), fr := [], ck := [] }) (Tree.stop [PI.code [(1 : Nat), (1 : Nat), (1 : Nat), (0 : Nat), (1 : Nat), (0 : Nat), (0 : Nat)], PI.inLoop [(1 : Nat), (1 : Nat), (1 : Nat), (0 : Nat), (1 : Nat), (0 : Nat), (0 : Nat)], PI.inBlock (0 : Nat), PI.code [(1 : Nat), (1 : Nat), (1 : Nat), (1 : Nat)]] { n := (32 : Nat), fr := [((2 : Nat), SV.c (SC.val (Value.bool false))), ((3 : Nat), SV.c (SC.val (Value.int IntKind.i64 (0 : Int)))), ((10 : Nat), SV.c (SC.val (Value.slice (some { block := b, off := off }) (List.length l) cap))), ((11 : Nat), SV.c (SC.val (Value.int IntKind.i64 (↑(List.length l) : Int)))), ((12 : Nat), SV.c (SC.val (Value.int IntKind.i64 (0 : Int))))], ck := [], kn := [(2 : Nat)] }))) (by kernel_rfl) ?_
    refine ⟨fun h => Tree.J.val (by simp only [rightM, h]; rfl), fun h => ?_⟩
    have hl : l.length ≤ 32 := by have := of_decide_eq_false h; omega
    simp only [rightM, h]
    exact right_loop l b off cap H w0 hl hr l.length 0 0 (by omega) (by omega) (by omega) (by omega)
end Go.Proofs.Ytgoihhnfkoklpaa
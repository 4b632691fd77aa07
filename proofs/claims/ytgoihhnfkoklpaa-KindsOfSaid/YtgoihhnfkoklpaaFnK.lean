/- Contracts: the document's kinds of leaves and of two operands. Conditions: none. -/
import Derived.Test.YtgoihhnfkoklpaaFnJ
namespace Go.Proofs.Ytgoihhnfkoklpaa
open Go Go.Sy
set_option maxRecDepth 100000

theorem has_loop (states : List (List UInt8)) (s : List UInt8) (b off cap : Nat) (H : Mem) (w0 : World) (hl : states.length ≤ 9223372036854775807) (hr : RowsAt H 1 b off (states.map strRow)) : ∀ (n k : Nat), states.length - k ≤ n → k ≤ states.length →
    J Try.prog 52 (bodyOf Try.f52) (R0 w0 (.bool ((states.drop k).any fun x => x == s))) w0 H [PI.code [(1 : Nat), (0 : Nat), (1 : Nat), (0 : Nat), (0 : Nat)], PI.inLoop [(1 : Nat), (0 : Nat), (1 : Nat), (0 : Nat), (0 : Nat)], PI.inBlock (0 : Nat), PI.code [(1 : Nat), (1 : Nat)]] ({ n := (18 : Nat), fr := [(0, SV.c (SC.val (Value.slice (some { block := b, off := off }) (List.length states) cap))), (1, SV.c (SC.val (Value.string (bs s)))), (4, SV.c (SC.val (Value.bool false))), (5, SV.c (SC.val (Value.int IntKind.i64 (k))))], ck := [], kn := [(4 : Nat)] }) := by
  intro n
  induction n with
  | zero => ?_
  | succ n ih => ?_
  all_goals
    intro k hn hk
    refine J.go TabOk.nil Try.func52 1000 (t := (Tree.ite (decide ((↑k : Int) < (↑(List.length states) : Int))) (Tree.need ((0 : Int) ≤ (↑k : Int) ∧ (↑k : Int) < (↑(List.length states) : Int)) (Tree.stop [PI.ops [(1 : Nat), (0 : Nat), (1 : Nat), (0 : Nat), (0 : Nat), (1 : Nat), (0 : Nat), (0 : Nat), (0 : Nat)] (3 : Nat), PI.code [(1 : Nat), (0 : Nat), (1 : Nat), (0 : Nat), (0 : Nat), (1 : Nat), (0 : Nat), (0 : Nat), (1 : Nat)], PI.inBlock (1 : Nat), PI.code [(1 : Nat), (0 : Nat), (1 : Nat), (0 : Nat), (0 : Nat), (1 : Nat), (1 : Nat)], PI.inLoop [(1 : Nat), (0 : Nat), (1 : Nat), (0 : Nat), (0 : Nat)], PI.inBlock (0 : Nat), PI.code [(1 : Nat), (1 : Nat)]] { n := (18 : Nat), fr := [((0 : Nat), SV.c (SC.val (Value.slice (some { block := b, off := off }) (List.length states) cap))), ((1 : Nat), SV.c (SC.val (Value.string (bs s)))), ((4 : Nat), SV.c (SC.val (Value.bool false))), ((5 : Nat), SV.c (SC.val (Value.int IntKind.i64 (↑k : Int)))), ((14 : Nat), SV.c (SC.val (Value.pointer (some { block := b, off := off + k * (1 : Nat) }))))], ck := [], kn := [(4 : Nat)] })) (Tree.ret (SV.c (SC.val (Value.bool false))) { n := (18 : Nat), fr := [], ck := [] }))) (by kernel_rfl) ?_
    refine ⟨fun hlt => ⟨?_, ?_⟩, fun hge => Tree.J.val ?_⟩
    · have := of_decide_eq_true hlt; omega
    · have hk' : k < states.length := by have := of_decide_eq_true hlt; omega
      have hck : (states.map strRow)[k]? = some (strRow states[k]) := by simp [List.getElem?_eq_getElem hk']
      rw [List.drop_eq_getElem_cons hk']
      generalize states[k] = x at hck
      refine J.load (dst := some 15) (b := b) (off := off + k * 1) (n := 1) (g := false) (row := strRow x) (by kernel_rfl) (rows_at hr hck) rfl rfl (by kernel_rfl) ?_
      refine J.go TabOk.nil Try.func52 1000 (t := (Tree.ite (x == s) (Tree.ret (SV.c (SC.val (Value.bool true))) { n := (18 : Nat), fr := [], ck := [] }) (Tree.stop [PI.code [(1 : Nat), (0 : Nat), (1 : Nat), (0 : Nat), (0 : Nat)], PI.inLoop [(1 : Nat), (0 : Nat), (1 : Nat), (0 : Nat), (0 : Nat)], PI.inBlock (0 : Nat), PI.code [(1 : Nat), (1 : Nat)]] { n := (18 : Nat), fr := [((0 : Nat), SV.c (SC.val (Value.slice (some { block := b, off := off }) (List.length states) cap))), ((1 : Nat), SV.c (SC.val (Value.string (bs s)))), ((4 : Nat), SV.c (SC.val (Value.bool false))), ((5 : Nat), SV.c (SC.val (Value.int IntKind.i64 (IntKind.wrap IntKind.i64 ((↑k : Int) + (1 : Int))))))], ck := [], kn := [(4 : Nat)] }))) (by kernel_rfl) ?_
      refine ⟨fun hb => Tree.J.val ?_, fun hb => ?_⟩
      · have hb' : (x == s) = true := hb
        rw [List.any_cons, hb']; rfl
      · have hb' : (x == s) = false := hb
        rw [List.any_cons, hb', Bool.false_or, wrapK (by omega)]
        first
        | (exfalso; omega)
        | exact ih (k + 1) (by omega) (by omega)
    · have : states.drop k = [] := by have := of_decide_eq_false hge; exact List.drop_eq_nil_of_le (by omega)
      rw [this]; rfl
theorem has_spec (states : List (List UInt8)) (s : List UInt8) (vs : Value) (H : Mem) (hl : states.length ≤ 9223372036854775807) (hs : SliceH H 1 vs (states.map strRow)) :
    Spec0 Try.prog 52 [vs, .string (bs s)] H (.bool (states.any fun x => x == s)) := by
  refine Spec0.of Try.func52 (body_some (by kernel_rfl)) (by kernel_rfl) fun w0 => ?_
  rcases hs with ⟨rfl, h0⟩ | ⟨b, off, cap, rfl, _, _, hr⟩
  · have h0 : states = [] := by simpa using h0
    subst h0
    refine J.go TabOk.nil Try.func52 1000 (t := (Tree.stop [PI.code [(1 : Nat), (0 : Nat), (1 : Nat), (0 : Nat), (0 : Nat)], PI.inLoop [(1 : Nat), (0 : Nat), (1 : Nat), (0 : Nat), (0 : Nat)], PI.inBlock (0 : Nat), PI.code [(1 : Nat), (1 : Nat)]] { n := (18 : Nat), fr := [((0 : Nat), SV.c (SC.val (Value.slice none (0 : Nat) (0 : Nat)))), ((1 : Nat), SV.c (SC.val (Value.string (bs s)))), ((4 : Nat), SV.c (SC.val (Value.bool false))), ((5 : Nat), SV.c (SC.val (Value.int IntKind.i64 (0 : Int))))], ck := [], kn := [(4 : Nat)] })) (by kernel_rfl) ?_
    refine J.go TabOk.nil Try.func52 1000 (t := (Tree.ite false (Tree.stop [PI.ops [(1 : Nat), (0 : Nat), (1 : Nat), (0 : Nat), (0 : Nat), (1 : Nat), (0 : Nat), (0 : Nat), (0 : Nat)] (2 : Nat), PI.code [(1 : Nat), (0 : Nat), (1 : Nat), (0 : Nat), (0 : Nat), (1 : Nat), (0 : Nat), (0 : Nat), (1 : Nat)], PI.inBlock (1 : Nat), PI.code [(1 : Nat), (0 : Nat), (1 : Nat), (0 : Nat), (0 : Nat), (1 : Nat), (1 : Nat)], PI.inLoop [(1 : Nat), (0 : Nat), (1 : Nat), (0 : Nat), (0 : Nat)], PI.inBlock (0 : Nat), PI.code [(1 : Nat), (1 : Nat)]] { n := (18 : Nat), fr := [((0 : Nat), SV.c (SC.val (Value.slice none (0 : Nat) (0 : Nat)))), ((1 : Nat), SV.c (SC.val (Value.string (bs s)))), ((4 : Nat), SV.c (SC.val (Value.bool false))), ((5 : Nat), SV.c (SC.val (Value.int IntKind.i64 (0 : Int)))), ((12 : Nat), SV.c (SC.val (Value.slice none (0 : Nat) (0 : Nat)))), ((13 : Nat), SV.c (SC.val (Value.int IntKind.i64 (0 : Int))))], ck := [], kn := [(4 : Nat)] }) (Tree.ret (SV.c (SC.val (Value.bool false))) { n := (18 : Nat), fr := [], ck := [] }))) (by kernel_rfl) ?_
    exact ⟨(fun h => Bool.noConfusion h), fun _ => Tree.J.val rfl⟩
  · rw [List.length_map]
    refine J.go TabOk.nil Try.func52 1000 (t := (Tree.stop [PI.code [(1 : Nat), (0 : Nat), (1 : Nat), (0 : Nat), (0 : Nat)], PI.inLoop [(1 : Nat), (0 : Nat), (1 : Nat), (0 : Nat), (0 : Nat)], PI.inBlock (0 : Nat), PI.code [(1 : Nat), (1 : Nat)]] { n := (18 : Nat), fr := [((0 : Nat), SV.c (SC.val (Value.slice (some { block := b, off := off }) (List.length states) cap))), ((1 : Nat), SV.c (SC.val (Value.string (bs s)))), ((4 : Nat), SV.c (SC.val (Value.bool false))), ((5 : Nat), SV.c (SC.val (Value.int IntKind.i64 (0 : Int))))], ck := [], kn := [(4 : Nat)] })) (by kernel_rfl) ?_
    exact has_loop states s b off cap H w0 hl hr states.length 0 (by omega) (by omega)

theorem find_loop (vars : List Var) (s : List UInt8) (b off cap : Nat) (H : Mem) (w0 : World) (hl : vars.length ≤ 9223372036854775807) (hr : RowsAt H 7 b off (vars.map Var.row)) : ∀ (n k : Nat), vars.length - k ≤ n → k ≤ vars.length →
    J Try.prog 51 (bodyOf Try.f51) (R0 w0 (.int .i64 (firstAt (fun v : Var => v.name == s) (vars.drop k) k))) w0 H [PI.code [(1 : Nat), (0 : Nat), (1 : Nat), (0 : Nat), (0 : Nat)], PI.inLoop [(1 : Nat), (0 : Nat), (1 : Nat), (0 : Nat), (0 : Nat)], PI.inBlock (0 : Nat), PI.code [(1 : Nat), (1 : Nat)]] ({ n := (20 : Nat), fr := [(0, SV.c (SC.val (Value.slice (some { block := b, off := off }) (List.length vars) cap))), (1, SV.c (SC.val (Value.string (bs s)))), (4, SV.c (SC.val (Value.int IntKind.i64 (0 : Int)))), (5, SV.c (SC.val (Value.int IntKind.i64 (k))))], ck := [] }) := by
  intro n
  induction n with
  | zero => ?_
  | succ n ih => ?_
  all_goals
    intro k hn hk
    refine J.go TabOk.nil Try.func51 1000 (t := (Tree.ite (decide ((↑k : Int) < (↑(List.length vars) : Int))) (Tree.need ((0 : Int) ≤ (↑k : Int) ∧ (↑k : Int) < (↑(List.length vars) : Int)) (Tree.stop [PI.ops [(1 : Nat), (0 : Nat), (1 : Nat), (0 : Nat), (0 : Nat), (1 : Nat), (0 : Nat), (0 : Nat), (0 : Nat)] (4 : Nat), PI.code [(1 : Nat), (0 : Nat), (1 : Nat), (0 : Nat), (0 : Nat), (1 : Nat), (0 : Nat), (0 : Nat), (1 : Nat)], PI.inBlock (1 : Nat), PI.code [(1 : Nat), (0 : Nat), (1 : Nat), (0 : Nat), (0 : Nat), (1 : Nat), (1 : Nat)], PI.inLoop [(1 : Nat), (0 : Nat), (1 : Nat), (0 : Nat), (0 : Nat)], PI.inBlock (0 : Nat), PI.code [(1 : Nat), (1 : Nat)]] { n := (20 : Nat), fr := [((0 : Nat), SV.c (SC.val (Value.slice (some { block := b, off := off }) (List.length vars) cap))), ((1 : Nat), SV.c (SC.val (Value.string (bs s)))), ((4 : Nat), SV.c (SC.val (Value.int IntKind.i64 (0 : Int)))), ((5 : Nat), SV.c (SC.val (Value.int IntKind.i64 (↑k : Int)))), ((15 : Nat), SV.c (SC.val (Value.pointer (some { block := b, off := off + k * (7 : Nat) + (0 : Nat) }))))], ck := [] })) (Tree.ret (SV.c (SC.val (Value.int IntKind.i64 (-1 : Int)))) { n := (20 : Nat), fr := [], ck := [] }))) (by kernel_rfl) ?_
    refine ⟨fun hlt => ⟨?_, ?_⟩, fun hge => Tree.J.val ?_⟩
    · have := of_decide_eq_true hlt; omega
    · have hk' : k < vars.length := by have := of_decide_eq_true hlt; omega
      have hck : (vars.map Var.row)[k]? = some (vars[k].row) := by simp [List.getElem?_eq_getElem hk']
      rw [List.drop_eq_getElem_cons hk']
      generalize vars[k] = v at hck
      refine J.load (dst := some 16) (b := b) (off := off + k * 7 + 0) (n := 1) (g := false) (row := [.string (bs v.name)]) (by kernel_rfl) (cells_part (rows_at hr hck) 0 1) rfl rfl (by kernel_rfl) ?_
      refine J.go TabOk.nil Try.func51 1000 (t := (Tree.ite (Var.name v == s) (Tree.ret (SV.c (SC.val (Value.int IntKind.i64 (↑k : Int)))) { n := (20 : Nat), fr := [], ck := [] }) (Tree.stop [PI.code [(1 : Nat), (0 : Nat), (1 : Nat), (0 : Nat), (0 : Nat)], PI.inLoop [(1 : Nat), (0 : Nat), (1 : Nat), (0 : Nat), (0 : Nat)], PI.inBlock (0 : Nat), PI.code [(1 : Nat), (1 : Nat)]] { n := (20 : Nat), fr := [((0 : Nat), SV.c (SC.val (Value.slice (some { block := b, off := off }) (List.length vars) cap))), ((1 : Nat), SV.c (SC.val (Value.string (bs s)))), ((4 : Nat), SV.c (SC.val (Value.int IntKind.i64 (0 : Int)))), ((5 : Nat), SV.c (SC.val (Value.int IntKind.i64 (IntKind.wrap IntKind.i64 ((↑k : Int) + (1 : Int))))))], ck := [] }))) (by kernel_rfl) ?_
      refine ⟨fun hb => Tree.J.val ?_, fun hb => ?_⟩
      · have hb' : (v.name == s) = true := hb
        simp only [firstAt, hb', cond_true]
      · have hb' : (v.name == s) = false := hb
        simp only [firstAt, hb', cond_false]
        rw [wrapK (by omega)]
        first
        | (exfalso; omega)
        | exact ih (k + 1) (by omega) (by omega)
    · have : vars.drop k = [] := by have := of_decide_eq_false hge; exact List.drop_eq_nil_of_le (by omega)
      rw [this]; rfl
theorem find_spec (vars : List Var) (s : List UInt8) (vv : Value) (H : Mem) (hl : vars.length ≤ 9223372036854775807) (hs : SliceH H 7 vv (vars.map Var.row)) :
    Spec0 Try.prog 51 [vv, .string (bs s)] H (.int .i64 (firstAt (fun v : Var => v.name == s) vars 0)) := by
  refine Spec0.of Try.func51 (body_some (by kernel_rfl)) (by kernel_rfl) fun w0 => ?_
  rcases hs with ⟨rfl, h0⟩ | ⟨b, off, cap, rfl, _, _, hr⟩
  · have h0 : vars = [] := by simpa using h0
    subst h0
    refine J.go TabOk.nil Try.func51 1000 (t := (Tree.stop [PI.code [(1 : Nat), (0 : Nat), (1 : Nat), (0 : Nat), (0 : Nat)], PI.inLoop [(1 : Nat), (0 : Nat), (1 : Nat), (0 : Nat), (0 : Nat)], PI.inBlock (0 : Nat), PI.code [(1 : Nat), (1 : Nat)]] { n := (20 : Nat), fr := [((0 : Nat), SV.c (SC.val (Value.slice none (0 : Nat) (0 : Nat)))), ((1 : Nat), SV.c (SC.val (Value.string (bs s)))), ((4 : Nat), SV.c (SC.val (Value.int IntKind.i64 (0 : Int)))), ((5 : Nat), SV.c (SC.val (Value.int IntKind.i64 (0 : Int))))], ck := [] })) (by kernel_rfl) ?_
    refine J.go TabOk.nil Try.func51 1000 (t := (Tree.ite false (Tree.stop [PI.ops [(1 : Nat), (0 : Nat), (1 : Nat), (0 : Nat), (0 : Nat), (1 : Nat), (0 : Nat), (0 : Nat), (0 : Nat)] (2 : Nat), PI.code [(1 : Nat), (0 : Nat), (1 : Nat), (0 : Nat), (0 : Nat), (1 : Nat), (0 : Nat), (0 : Nat), (1 : Nat)], PI.inBlock (1 : Nat), PI.code [(1 : Nat), (0 : Nat), (1 : Nat), (0 : Nat), (0 : Nat), (1 : Nat), (1 : Nat)], PI.inLoop [(1 : Nat), (0 : Nat), (1 : Nat), (0 : Nat), (0 : Nat)], PI.inBlock (0 : Nat), PI.code [(1 : Nat), (1 : Nat)]] { n := (20 : Nat), fr := [((0 : Nat), SV.c (SC.val (Value.slice none (0 : Nat) (0 : Nat)))), ((1 : Nat), SV.c (SC.val (Value.string (bs s)))), ((4 : Nat), SV.c (SC.val (Value.int IntKind.i64 (0 : Int)))), ((5 : Nat), SV.c (SC.val (Value.int IntKind.i64 (0 : Int)))), ((12 : Nat), SV.c (SC.val (Value.slice none (0 : Nat) (0 : Nat)))), ((13 : Nat), SV.c (SC.val (Value.int IntKind.i64 (0 : Int))))], ck := [] }) (Tree.ret (SV.c (SC.val (Value.int IntKind.i64 (-1 : Int)))) { n := (20 : Nat), fr := [], ck := [] }))) (by kernel_rfl) ?_
    exact ⟨(fun h => Bool.noConfusion h), fun _ => Tree.J.val rfl⟩
  · rw [List.length_map]
    refine J.go TabOk.nil Try.func51 1000 (t := (Tree.stop [PI.code [(1 : Nat), (0 : Nat), (1 : Nat), (0 : Nat), (0 : Nat)], PI.inLoop [(1 : Nat), (0 : Nat), (1 : Nat), (0 : Nat), (0 : Nat)], PI.inBlock (0 : Nat), PI.code [(1 : Nat), (1 : Nat)]] { n := (20 : Nat), fr := [((0 : Nat), SV.c (SC.val (Value.slice (some { block := b, off := off }) (List.length vars) cap))), ((1 : Nat), SV.c (SC.val (Value.string (bs s)))), ((4 : Nat), SV.c (SC.val (Value.int IntKind.i64 (0 : Int)))), ((5 : Nat), SV.c (SC.val (Value.int IntKind.i64 (0 : Int))))], ck := [] })) (by kernel_rfl) ?_
    exact find_loop vars s b off cap H w0 hl hr vars.length 0 (by omega) (by omega)
theorem joined_pure (op k : Int) : PureC Try.prog 43 [.int .i64 op, .int .i64 k] (kindV (joinedM op k)) := by
  refine pure_of TabOk.nil Try.func43 (by kernel_rfl) (by kernel_rfl) (t := (Tree.ite (op == (16 : Int) || op == (17 : Int)) (Tree.ret (SV.c (SC.val (Value.tuple #[Value.int IntKind.i64 (2 : Int), Value.int IntKind.i64 (0 : Int)]))) { n := (37 : Nat), fr := [], ck := [] }) (Tree.ite (op == (22 : Int) || op == (23 : Int)) (Tree.ite (k == (2 : Int)) (Tree.ret (SV.c (SC.val (Value.tuple #[Value.int IntKind.i64 k, Value.int IntKind.i64 (0 : Int)]))) { n := (37 : Nat), fr := [], ck := [] }) (Tree.ret (SV.c (SC.val (Value.tuple #[Value.int IntKind.i64 (0 : Int), Value.int IntKind.i64 (8 : Int)]))) { n := (37 : Nat), fr := [], ck := [] })) (Tree.ite (decide (op ≥ (18 : Int))) (Tree.ite (k == (1 : Int)) (Tree.ret (SV.c (SC.val (Value.tuple #[Value.int IntKind.i64 (2 : Int), Value.int IntKind.i64 (0 : Int)]))) { n := (37 : Nat), fr := [], ck := [] }) (Tree.ret (SV.c (SC.val (Value.tuple #[Value.int IntKind.i64 (0 : Int), Value.int IntKind.i64 (8 : Int)]))) { n := (37 : Nat), fr := [], ck := [] })) (Tree.ite (decide (op ≥ (14 : Int))) (Tree.ite (k == (1 : Int)) (Tree.ret (SV.c (SC.val (Value.tuple #[Value.int IntKind.i64 k, Value.int IntKind.i64 (0 : Int)]))) { n := (37 : Nat), fr := [], ck := [] }) (Tree.ret (SV.c (SC.val (Value.tuple #[Value.int IntKind.i64 (0 : Int), Value.int IntKind.i64 (8 : Int)]))) { n := (37 : Nat), fr := [], ck := [] })) (Tree.ite (k != (2 : Int)) (Tree.ret (SV.c (SC.val (Value.tuple #[Value.int IntKind.i64 k, Value.int IntKind.i64 (0 : Int)]))) { n := (37 : Nat), fr := [], ck := [] }) (Tree.ret (SV.c (SC.val (Value.tuple #[Value.int IntKind.i64 (0 : Int), Value.int IntKind.i64 (8 : Int)]))) { n := (37 : Nat), fr := [], ck := [] }))))))) (by kernel_rfl) ?_
  simp only [Tree.V]
  (repeat' (first | intro h | constructor)) <;> simp only [joinedM, kindV, *, cond_true, cond_false]
def tabJoined : Tab := (43, fun | [.int .i64 op, .int .i64 k] => some (none, .tuple #[.int .i64 (joinedM op k).1, .int .i64 (joinedM op k).2]) | _ => none) :: tabOperands
theorem tabJoined_ok : TabOk Try.prog tabJoined := by
  refine TabOk.cons (fun vs p v h _ => ?_) tabOperands_ok
  split at h
  · simp only [Option.some.injEq, Prod.mk.injEq] at h
    obtain ⟨_, rfl⟩ := h
    exact joined_pure _ _
  · simp at h
end Go.Proofs.Ytgoihhnfkoklpaa

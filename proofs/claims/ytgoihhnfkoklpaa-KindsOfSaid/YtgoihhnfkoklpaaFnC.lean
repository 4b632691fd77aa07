/- Contracts of the program's functions on kinds: what an op makes of its operands' kinds. Conditions: none. -/
import Derived.Test.YtgoihhnfkoklpaaFnB
import Derived.Test.YtgoihhnfkoklpaaEngN
namespace Go.Proofs.Ytgoihhnfkoklpaa
open Go Go.Sy
set_option maxRecDepth 100000

theorem rows_spec (H : Mem) : SpecM Try.prog 41 [] H (fun H v => SliceH H 5 v (krows.map KRow.row)) := by
  refine SpecM.of Try.func41 (body_some (by kernel_rfl)) (by kernel_rfl) fun w0 => ?_
  refine J.go TabOk.nil Try.func41 1000 (t := (Tree.ret (SV.c (SC.own (0 : Nat))) { n := (12 : Nat), fr := [], ck := [Chunk.own (78 : Nat) (5 : Nat) (10 : Nat) [Value.int IntKind.i64 (7 : Int), Value.int IntKind.i64 (7 : Int), Value.int IntKind.i64 (1 : Int), Value.int IntKind.i64 (0 : Int), Value.int IntKind.i64 (1 : Int), Value.int IntKind.i64 (7 : Int), Value.int IntKind.i64 (7 : Int), Value.int IntKind.i64 (3 : Int), Value.int IntKind.i64 (0 : Int), Value.int IntKind.i64 (3 : Int), Value.int IntKind.i64 (8 : Int), Value.int IntKind.i64 (8 : Int), Value.int IntKind.i64 (2 : Int), Value.int IntKind.i64 (0 : Int), Value.int IntKind.i64 (2 : Int), Value.int IntKind.i64 (9 : Int), Value.int IntKind.i64 (10 : Int), Value.int IntKind.i64 (3 : Int), Value.int IntKind.i64 (0 : Int), Value.int IntKind.i64 (1 : Int), Value.int IntKind.i64 (11 : Int), Value.int IntKind.i64 (15 : Int), Value.int IntKind.i64 (1 : Int), Value.int IntKind.i64 (1 : Int), Value.int IntKind.i64 (1 : Int), Value.int IntKind.i64 (11 : Int), Value.int IntKind.i64 (13 : Int), Value.int IntKind.i64 (3 : Int), Value.int IntKind.i64 (3 : Int), Value.int IntKind.i64 (3 : Int), Value.int IntKind.i64 (16 : Int), Value.int IntKind.i64 (21 : Int), Value.int IntKind.i64 (1 : Int), Value.int IntKind.i64 (1 : Int), Value.int IntKind.i64 (2 : Int), Value.int IntKind.i64 (16 : Int), Value.int IntKind.i64 (17 : Int), Value.int IntKind.i64 (2 : Int), Value.int IntKind.i64 (2 : Int), Value.int IntKind.i64 (2 : Int), Value.int IntKind.i64 (16 : Int), Value.int IntKind.i64 (17 : Int), Value.int IntKind.i64 (3 : Int), Value.int IntKind.i64 (3 : Int), Value.int IntKind.i64 (2 : Int), Value.int IntKind.i64 (22 : Int), Value.int IntKind.i64 (23 : Int), Value.int IntKind.i64 (2 : Int), Value.int IntKind.i64 (2 : Int), Value.int IntKind.i64 (2 : Int)]] })) (by kernel_rfl) ?_
  exact Tree.J.specOwn rfl (krows.map KRow.row) rfl (by intro r hr; obtain ⟨k, _, rfl⟩ := List.mem_map.1 hr; rfl) rfl fun H' v _ h => h


theorem made_loop (op l r : Int) (ks : List KRow) (b off cap : Nat) (H : Mem) (w0 : World) (hl : ks.length ≤ 100) (hr : RowsAt H 5 b off (ks.map KRow.row)) : ∀ (n k : Nat), ks.length - k ≤ n → k ≤ ks.length →
    J Try.prog 30 (bodyOf Try.f30) (R0 w0 (.int .i64 (madeGo op l r (ks.drop k)))) w0 H [PI.code [(1 : Nat), (0 : Nat), (1 : Nat), (0 : Nat), (0 : Nat)], PI.inLoop [(1 : Nat), (0 : Nat), (1 : Nat), (0 : Nat), (0 : Nat)], PI.inBlock (0 : Nat), PI.code [(1 : Nat), (1 : Nat)]] ({ n := (40 : Nat), fr := [(0, SV.c (SC.val (Value.int IntKind.i64 op))), (1, SV.c (SC.val (Value.int IntKind.i64 l))), (2, SV.c (SC.val (Value.int IntKind.i64 r))), (6, SV.c (SC.val (Value.int IntKind.i64 (0 : Int)))), (9, SV.c (SC.val (Value.slice (some { block := b, off := off }) (List.length ks) cap))), (10, SV.c (SC.val (Value.int IntKind.i64 (↑(List.length ks) : Int)))), (11, SV.c (SC.val (Value.int IntKind.i64 (k))))], ck := [] }) := by
  intro n
  induction n with
  | zero => ?_
  | succ n ih => ?_
  all_goals
    intro k hn hk
    refine J.go TabOk.nil Try.func30 1000 (t := (Tree.ite (decide ((↑k : Int) < (↑(List.length ks) : Int))) (Tree.need ((0 : Int) ≤ (↑k : Int) ∧ (↑k : Int) < (↑(List.length ks) : Int)) (Tree.stop [PI.ops [(1 : Nat), (0 : Nat), (1 : Nat), (0 : Nat), (0 : Nat), (1 : Nat), (1 : Nat), (0 : Nat), (0 : Nat), (0 : Nat)] (1 : Nat), PI.code [(1 : Nat), (0 : Nat), (1 : Nat), (0 : Nat), (0 : Nat), (1 : Nat), (1 : Nat), (0 : Nat), (0 : Nat), (1 : Nat)], PI.inBlock (1 : Nat), PI.code [(1 : Nat), (0 : Nat), (1 : Nat), (0 : Nat), (0 : Nat), (1 : Nat), (1 : Nat), (1 : Nat)], PI.inLoop [(1 : Nat), (0 : Nat), (1 : Nat), (0 : Nat), (0 : Nat)], PI.inBlock (0 : Nat), PI.code [(1 : Nat), (1 : Nat)]] { n := (40 : Nat), fr := [((0 : Nat), SV.c (SC.val (Value.int IntKind.i64 op))), ((1 : Nat), SV.c (SC.val (Value.int IntKind.i64 l))), ((2 : Nat), SV.c (SC.val (Value.int IntKind.i64 r))), ((6 : Nat), SV.c (SC.val (Value.int IntKind.i64 (0 : Int)))), ((9 : Nat), SV.c (SC.val (Value.slice (some { block := b, off := off }) (List.length ks) cap))), ((10 : Nat), SV.c (SC.val (Value.int IntKind.i64 (↑(List.length ks) : Int)))), ((11 : Nat), SV.c (SC.val (Value.int IntKind.i64 (↑k : Int)))), ((13 : Nat), SV.c (SC.val (Value.pointer (some { block := b, off := off + k * (5 : Nat) }))))], ck := [] })) (Tree.ret (SV.c (SC.val (Value.int IntKind.i64 (0 : Int)))) { n := (40 : Nat), fr := [], ck := [] }))) (by kernel_rfl) ?_
    refine ⟨fun hlt => ⟨?_, ?_⟩, fun hge => Tree.J.val ?_⟩
    · have := of_decide_eq_true hlt; omega
    · have hk' : k < ks.length := by have := of_decide_eq_true hlt; omega
      have hck : (ks.map KRow.row)[k]? = some (ks[k].row) := by simp [List.getElem?_eq_getElem hk']
      rw [List.drop_eq_getElem_cons hk']
      generalize ks[k] = c at hck
      refine J.load (dst := some 14) (b := b) (off := off + k * 5) (n := 5) (g := true) (row := c.row) (by kernel_rfl) (rows_at hr hck) rfl rfl (by kernel_rfl) ?_
      refine J.go TabOk.nil Try.func30 1000 (t := (Tree.ite (decide (op ≥ KRow.from' c) && decide (op ≤ KRow.to' c) && l == KRow.left c && r == KRow.right c) (Tree.ret (SV.c (SC.val (Value.int IntKind.i64 (KRow.out c)))) { n := (40 : Nat), fr := [], ck := [] }) (Tree.stop [PI.code [(1 : Nat), (0 : Nat), (1 : Nat), (0 : Nat), (0 : Nat)], PI.inLoop [(1 : Nat), (0 : Nat), (1 : Nat), (0 : Nat), (0 : Nat)], PI.inBlock (0 : Nat), PI.code [(1 : Nat), (1 : Nat)]] { n := (40 : Nat), fr := [((0 : Nat), SV.c (SC.val (Value.int IntKind.i64 op))), ((1 : Nat), SV.c (SC.val (Value.int IntKind.i64 l))), ((2 : Nat), SV.c (SC.val (Value.int IntKind.i64 r))), ((6 : Nat), SV.c (SC.val (Value.int IntKind.i64 (0 : Int)))), ((9 : Nat), SV.c (SC.val (Value.slice (some { block := b, off := off }) (List.length ks) cap))), ((10 : Nat), SV.c (SC.val (Value.int IntKind.i64 (↑(List.length ks) : Int)))), ((11 : Nat), SV.c (SC.val (Value.int IntKind.i64 (IntKind.wrap IntKind.i64 ((↑k : Int) + (1 : Int))))))], ck := [] }))) (by kernel_rfl) ?_
      refine ⟨fun hb => Tree.J.val ?_, fun hb => ?_⟩
      · have hb' : c.fits op l r = true := hb
        simp only [madeGo, hb', cond_true]
      · have hb' : c.fits op l r = false := hb
        simp only [madeGo, hb', cond_false]
        rw [wrapK (by omega)]
        first
        | (exfalso; omega)
        | exact ih (k + 1) (by omega) (by omega)
    · have : ks.drop k = [] := by have := of_decide_eq_false hge; exact List.drop_eq_nil_of_le (by omega)
      rw [this]; rfl
theorem made_pure (op l r : Int) : PureC Try.prog 30 [.int .i64 op, .int .i64 l, .int .i64 r] (.int .i64 (madeM op l r)) := by
  refine (Spec0.of (H := fun _ => none) Try.func30 (body_some (by kernel_rfl)) (by kernel_rfl) fun w0 => ?_).pure
  refine J.go TabOk.nil Try.func30 1000 (t := (Tree.stop [PI.ops [(1 : Nat), (0 : Nat), (0 : Nat)] (0 : Nat), PI.code [(1 : Nat), (0 : Nat), (1 : Nat)], PI.code [(1 : Nat), (1 : Nat)]] { n := (40 : Nat), fr := [((0 : Nat), SV.c (SC.val (Value.int IntKind.i64 op))), ((1 : Nat), SV.c (SC.val (Value.int IntKind.i64 l))), ((2 : Nat), SV.c (SC.val (Value.int IntKind.i64 r))), ((6 : Nat), SV.c (SC.val (Value.int IntKind.i64 (0 : Int))))], ck := [] })) (by kernel_rfl) ?_
  refine J.call (dst := some 9) (g := 41) (vs := []) (by kernel_rfl) (by kernel_rfl) (rows_spec _) (fun v => rfl) fun v H' hle hv => ?_
  rcases hv with ⟨_, h⟩ | ⟨b, off, cap, rfl, _, _, hr⟩
  · cases h
  · refine J.go TabOk.nil Try.func30 1000 (t := (Tree.stop [PI.code [(1 : Nat), (0 : Nat), (1 : Nat), (0 : Nat), (0 : Nat)], PI.inLoop [(1 : Nat), (0 : Nat), (1 : Nat), (0 : Nat), (0 : Nat)], PI.inBlock (0 : Nat), PI.code [(1 : Nat), (1 : Nat)]] { n := (40 : Nat), fr := [((0 : Nat), SV.c (SC.val (Value.int IntKind.i64 op))), ((1 : Nat), SV.c (SC.val (Value.int IntKind.i64 l))), ((2 : Nat), SV.c (SC.val (Value.int IntKind.i64 r))), ((6 : Nat), SV.c (SC.val (Value.int IntKind.i64 (0 : Int)))), ((9 : Nat), SV.c (SC.val (Value.slice (some { block := b, off := off }) (10 : Nat) cap))), ((10 : Nat), SV.c (SC.val (Value.int IntKind.i64 (↑(10 : Nat) : Int)))), ((11 : Nat), SV.c (SC.val (Value.int IntKind.i64 (0 : Int))))], ck := [] })) (by kernel_rfl) ?_
    exact made_loop op l r krows b off cap H' w0 (by decide) hr krows.length 0 (by omega) (by omega)
def tabMade : Tab := (30, fun | [.int .i64 op, .int .i64 l, .int .i64 r] => some (none, .int .i64 (madeM op l r)) | _ => none) :: []
theorem tabMade_ok : TabOk Try.prog tabMade := by
  refine TabOk.cons (fun vs p v h _ => ?_) TabOk.nil
  split at h
  · simp only [Option.some.injEq, Prod.mk.injEq] at h
    obtain ⟨_, rfl⟩ := h
    exact made_pure _ _ _
  · simp at h
end Go.Proofs.Ytgoihhnfkoklpaa

/- Contracts: the document's operands, right lists, beginnings. Conditions: none. -/
import Derived.Test.YtgoihhnfkoklpaaFnH
namespace Go.Proofs.Ytgoihhnfkoklpaa
open Go Go.Sy
set_option maxRecDepth 100000
theorem operands_eq (op a : Int) (s : List UInt8) :
    (bif (!((op == 5 || op == 6) == decide (strLen s > 0)) || (op == 5 || op == 6) && !nameM s || !(op == 1 || op == 2) && a != 0 || decide (a < 0)) then (-1 : Int)
      else bif (op == 1 && decide (a > 1099511627776) || op == 2 && decide (a > 1048576) || decide (op < 1) || decide (op > 23)) then -1
      else bif decide (op ≤ 6) then 0 else bif decide (op ≤ 10) then 1 else 2) = wantsM op a s := by
  have hs : decide (strLen s > 0) = !(s == []) := by cases s <;> simp [strLen]
  rw [hs]
  have hn : (s == []) = true → nameM s = false := by intro h; have : s = [] := by simpa using h
                                                     subst this; rfl
  unfold wantsM
  generalize hx : (s == []) = x at *
  generalize nameM s = y at *
  by_cases h1 : op = 1
  · subst h1
    cases x <;> simp [cond_eq_ite] <;> (repeat' split) <;> omega
  · by_cases h2 : op = 2
    · subst h2
      cases x <;> simp [cond_eq_ite] <;> (repeat' split) <;> omega
    · by_cases h5 : op = 5
      · subst h5
        cases x <;> cases y <;> simp_all [cond_eq_ite] <;> (repeat' split) <;> omega
      · by_cases h6 : op = 6
        · subst h6
          cases x <;> cases y <;> simp_all [cond_eq_ite] <;> (repeat' split) <;> omega
        · cases x <;> simp_all [cond_eq_ite] <;> (repeat' split) <;> omega
theorem operands_pure (op a : Int) (s : List UInt8) : PureC Try.prog 18 [.agg #[.int .i64 op, .int .i64 a, .string (bs s)]] (.int .i64 (wantsM op a s)) := by
  rw [← operands_eq]
  refine pure_of tabRefName_ok Try.func18 (by kernel_rfl) (by kernel_rfl) (t := (Tree.ite (!(op == (5 : Int) || op == (6 : Int)) == decide (strLen s > (0 : Int)) || (op == (5 : Int) || op == (6 : Int)) && !nameM s || !(op == (1 : Int) || op == (2 : Int)) && a != (0 : Int) || decide (a < (0 : Int))) (Tree.ret (SV.c (SC.val (Value.int IntKind.i64 (-1 : Int)))) { n := (84 : Nat), fr := [], ck := [] }) (Tree.ite (op == (1 : Int) && decide (a > (1099511627776 : Int)) || op == (2 : Int) && decide (a > (1048576 : Int)) || decide (op < (1 : Int)) || decide (op > (23 : Int))) (Tree.ret (SV.c (SC.val (Value.int IntKind.i64 (-1 : Int)))) { n := (84 : Nat), fr := [], ck := [] }) (Tree.ite (decide (op ≤ (6 : Int))) (Tree.ret (SV.c (SC.val (Value.int IntKind.i64 (0 : Int)))) { n := (84 : Nat), fr := [], ck := [] }) (Tree.ite (decide (op ≤ (10 : Int))) (Tree.ret (SV.c (SC.val (Value.int IntKind.i64 (1 : Int)))) { n := (84 : Nat), fr := [], ck := [] }) (Tree.ret (SV.c (SC.val (Value.int IntKind.i64 (2 : Int)))) { n := (84 : Nat), fr := [], ck := [] })))))) (by kernel_rfl) ?_
  refine ⟨fun h => ?_, fun h => ⟨fun h1 => ?_, fun h1 => ⟨fun h2 => ?_, fun h2 => ⟨fun h3 => ?_, fun h3 => ?_⟩⟩⟩⟩
  all_goals
    simp only [Tree.V, *, cond_true, cond_false]
def tabOperands : Tab := (18, fun | [.agg cs] => (match cs.toList with | [.int .i64 op, .int .i64 a, .string s] => some (none, .int .i64 (wantsM op a s.data.toList)) | _ => none) | _ => none) :: tabRefName
theorem tabOperands_ok : TabOk Try.prog tabOperands := by
  refine TabOk.cons (fun vs p v h _ => ?_) tabRefName_ok
  split at h
  · rename_i cs
    split at h
    · rename_i op a s hcs
      simp only [Option.some.injEq, Prod.mk.injEq] at h
      obtain ⟨_, rfl⟩ := h
      have : cs = #[.int .i64 op, .int .i64 a, .string s] := by cases cs; simp_all
      subst this
      have := operands_pure op a s.data.toList
      rw [bs_eta] at this
      exact this
    · simp at h
  · simp at h
end Go.Proofs.Ytgoihhnfkoklpaa

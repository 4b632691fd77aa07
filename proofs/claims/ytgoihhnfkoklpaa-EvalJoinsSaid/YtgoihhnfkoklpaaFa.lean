/- Contracts of the program's functions on names and cells. Conditions: none. -/
import Derived.Test.YtgoihhnfkoklpaaDa
namespace Go.Proofs.Ytgoihhnfkoklpaa
open Go Go.Ev
set_option maxRecDepth 100000


theorem name_loop (s : Str) (Γ : Ctx) (h0 : name0 s = false) : ∀ (n k : Nat), s.length - k ≤ n → k ≤ s.length → (∀ j, j < k → badB (s.getD j 0) = false) →
    J Try.prog 55 (bodyOf Try.f55) Γ (Eq2 (.x (.b (nameM s))) []) [PI.code [(1 : Nat), (1 : Nat), (0 : Nat), (1 : Nat), (0 : Nat), (0 : Nat)], PI.inLoop [(1 : Nat), (1 : Nat), (0 : Nat), (1 : Nat), (0 : Nat), (0 : Nat)], PI.inBlock (0 : Nat), PI.code [(1 : Nat), (1 : Nat), (1 : Nat)]] ({ n := (56 : Nat), fr := [(0, SV.x (SX.c (SC.pd (PD.str s)))), (2, SV.x (SX.c (SC.pd (PD.bool false)))), (23, SV.x (SX.c (SC.pd (PD.int IntKind.i64 (strLen s))))), (24, SV.x (SX.c (SC.pd (PD.int IntKind.i64 (k)))))], ck := [], kn := [(2 : Nat)] }) := by
  have hlen : s.length ≤ 12 := by simp [name0, strLen] at h0; omega
  intro n
  induction n with
  | zero => ?_
  | succ n ih => ?_
  all_goals
    intro k hn hk hb
    refine J.go (cfg := cfg0) cfg0_ok Try.func55 1000 (t := (Tree.ite (decide ((↑k : Int) < strLen s)) (Tree.need ((0 : Int) ≤ (↑k : Int) ∧ (↑k : Int) < strLen s) (Tree.ite ((decide ((↑(UInt8.toNat (List.getD s k (0 : UInt8))) : Int) < (97 : Int)) || decide ((↑(UInt8.toNat (List.getD s k (0 : UInt8))) : Int) > (122 : Int))) && (decide ((↑(UInt8.toNat (List.getD s k (0 : UInt8))) : Int) < (48 : Int)) || decide ((↑(UInt8.toNat (List.getD s k (0 : UInt8))) : Int) > (57 : Int))) && (↑(UInt8.toNat (List.getD s k (0 : UInt8))) : Int) != (95 : Int)) (Tree.ret (SV.x (SX.c (SC.pd (PD.bool false)))) []) (Tree.stop [PI.code [(1 : Nat), (1 : Nat), (0 : Nat), (1 : Nat), (0 : Nat), (0 : Nat)], PI.inLoop [(1 : Nat), (1 : Nat), (0 : Nat), (1 : Nat), (0 : Nat), (0 : Nat)], PI.inBlock (0 : Nat), PI.code [(1 : Nat), (1 : Nat), (1 : Nat)]] { n := (56 : Nat), fr := [((0 : Nat), SV.x (SX.c (SC.pd (PD.str s)))), ((2 : Nat), SV.x (SX.c (SC.pd (PD.bool false)))), ((23 : Nat), SV.x (SX.c (SC.pd (PD.int IntKind.i64 (strLen s))))), ((24 : Nat), SV.x (SX.c (SC.pd (PD.int IntKind.i64 (IntKind.wrap IntKind.i64 ((↑k : Int) + (1 : Int)))))))], ck := [], kn := [(2 : Nat)] }))) (Tree.ite (s == [(116 : UInt8), (114 : UInt8), (117 : UInt8), (101 : UInt8)]) (Tree.ret (SV.x (SX.c (SC.pd (PD.bool false)))) []) (Tree.ite (s == [(102 : UInt8), (97 : UInt8), (108 : UInt8), (115 : UInt8), (101 : UInt8)]) (Tree.ret (SV.x (SX.c (SC.pd (PD.bool false)))) []) (Tree.ite (s == [(105 : UInt8), (110 : UInt8)]) (Tree.ret (SV.x (SX.c (SC.pd (PD.bool false)))) []) (Tree.ite (s == [(114 : UInt8), (101 : UInt8)]) (Tree.ret (SV.x (SX.c (SC.pd (PD.bool false)))) []) (Tree.ite (s == [(105 : UInt8), (109 : UInt8)]) (Tree.ret (SV.x (SX.c (SC.pd (PD.bool false)))) []) (Tree.ret (SV.x (SX.c (SC.pd (PD.bool true)))) [])))))))) (by kernel_rfl) ?_
    have hend : ¬ k < s.length → s.any badB = false := fun h => not_any_getD fun j hj => hb j (by omega)
    refine ⟨fun hlt => ⟨?_, fun hbad => ⟨?_, rfl⟩, fun hok => ?_⟩, fun hge => ?_⟩
    · have := of_decide_eq_true hlt; simp only [strLen] at this ⊢; omega
    · have := of_decide_eq_true hlt; simp only [strLen] at this
      have hbad' : badB (s.getD k 0) = true := hbad
      simp only [nameM, any_getD (by omega) hbad']; simp
    · have := of_decide_eq_true hlt; simp only [strLen] at this
      first
      | (exfalso; omega)
      | (rw [wrapK (by omega)]
         exact ih (k + 1) (by omega) (by omega) fun j hj => if e : j = k then by rw [e]; exact hok else hb j (by omega))
    · have := of_decide_eq_false hge; simp only [strLen] at this
      have hany := hend (by omega)
      refine ⟨fun h1 => ⟨?_, rfl⟩, fun h1 => ⟨fun h2 => ⟨?_, rfl⟩, fun h2 => ⟨fun h3 => ⟨?_, rfl⟩, fun h3 => ⟨fun h4 => ⟨?_, rfl⟩, fun h4 => ⟨fun h5 => ⟨?_, rfl⟩, fun h5 => ⟨?_, rfl⟩⟩⟩⟩⟩⟩ <;>
        simp [nameM, h0, hany, words5, *]
theorem name_spec (s : Str) : Does Try.prog 55 [.s s] [] (.x (.b (nameM s))) [] := by
  refine Does.go (cfg := cfg0) cfg0_ok Try.func55 (by kernel_rfl) (by kernel_rfl) (t := (Tree.need ((s == [] || decide (strLen s > (12 : Int))) = false → (0 : Int) ≤ (0 : Int) ∧ (0 : Int) < strLen s) (Tree.need ((s == [] || decide (strLen s > (12 : Int)) || decide ((↑(UInt8.toNat (List.getD s (0 : Nat) (0 : UInt8))) : Int) < (97 : Int))) = false → (0 : Int) ≤ (0 : Int) ∧ (0 : Int) < strLen s) (Tree.ite (s == [] || decide (strLen s > (12 : Int)) || decide ((↑(UInt8.toNat (List.getD s (0 : Nat) (0 : UInt8))) : Int) < (97 : Int)) || decide ((↑(UInt8.toNat (List.getD s (0 : Nat) (0 : UInt8))) : Int) > (122 : Int))) (Tree.ret (SV.x (SX.c (SC.pd (PD.bool false)))) []) (Tree.stop [PI.code [(1 : Nat), (1 : Nat), (0 : Nat), (1 : Nat), (0 : Nat), (0 : Nat)], PI.inLoop [(1 : Nat), (1 : Nat), (0 : Nat), (1 : Nat), (0 : Nat), (0 : Nat)], PI.inBlock (0 : Nat), PI.code [(1 : Nat), (1 : Nat), (1 : Nat)]] { n := (56 : Nat), fr := [((0 : Nat), SV.x (SX.c (SC.pd (PD.str s)))), ((2 : Nat), SV.x (SX.c (SC.pd (PD.bool false)))), ((23 : Nat), SV.x (SX.c (SC.pd (PD.int IntKind.i64 (strLen s))))), ((24 : Nat), SV.x (SX.c (SC.pd (PD.int IntKind.i64 (0 : Int)))))], ck := [], kn := [(2 : Nat)] }))))) (by kernel_rfl) fun Γ => ?_
  have hpos : (s == [] || decide (strLen s > 12)) = false → 0 ≤ (0 : Int) ∧ 0 < strLen s := by
    intro h
    cases s with
    | nil => simp at h
    | cons c r => simp [strLen]
  refine ⟨hpos, fun h => hpos ?_, fun h => ⟨?_, rfl⟩, fun h => ?_⟩
  · simp only [Bool.or_eq_false_iff] at h ⊢; exact h.1
  · have h' : name0 s = true := h
    simp [nameM, h']
  · exact name_loop s _ h s.length 0 (by omega) (by omega) (fun j hj => by omega)
def eName : Nat × (List SX → List Chunk → Option (Option Prop × SV × List Chunk)) := (55, fun
  | [.c (.pd (.str s))], [] => some (none, .x (.c (.pd (.bool (nameM s)))), [])
  | _, _ => none)
theorem eName_ok (vs : List SX) (ck : List Chunk) (p : Option Prop) (ret : SV) (ck' : List Chunk) (h : eName.2 vs ck = some (p, ret, ck')) (hp : Holds p) : Does Try.prog eName.1 vs ck ret ck' := by
  unfold eName at h
  simp only at h
  split at h
  · rename_i s
    simp only [Option.some.injEq, Prod.mk.injEq] at h
    obtain ⟨rfl, rfl, rfl⟩ := h
    exact name_spec s
  · simp at h
def cfgName : Cfg := ⟨tys0, [eName]⟩
theorem cfgName_ok : TabOk Try.prog cfgName.tab := (TabOk.cons eName_ok TabOk.nil)
theorem wants_spec (op a : Int) (s : Str) : Does Try.prog 37 [.agg [.i op, .i a, .pd (.str s)]] [] (.x (.i (wantsM op a s))) [] := by
  refine Does.go (cfg := cfgName) cfgName_ok Try.func37 (by kernel_rfl) (by kernel_rfl) (t := (Tree.ite (op == (1 : Int)) (Tree.ite (decide (a < (0 : Int)) || decide (a > (1099511627776 : Int)) || !s == []) (Tree.ret (SV.x (SX.c (SC.pd (PD.int IntKind.i64 (-1 : Int))))) []) (Tree.ret (SV.x (SX.c (SC.pd (PD.int IntKind.i64 (0 : Int))))) [])) (Tree.ite (op == (2 : Int)) (Tree.ite (decide (a < (0 : Int)) || decide (a > (1048576 : Int)) || !s == []) (Tree.ret (SV.x (SX.c (SC.pd (PD.int IntKind.i64 (-1 : Int))))) []) (Tree.ret (SV.x (SX.c (SC.pd (PD.int IntKind.i64 (0 : Int))))) [])) (Tree.ite (op == (5 : Int)) (Tree.ite (a != (0 : Int) || !nameM s) (Tree.ret (SV.x (SX.c (SC.pd (PD.int IntKind.i64 (-1 : Int))))) []) (Tree.ret (SV.x (SX.c (SC.pd (PD.int IntKind.i64 (0 : Int))))) [])) (Tree.ite (op == (6 : Int)) (Tree.ite (a != (0 : Int) || !nameM s) (Tree.ret (SV.x (SX.c (SC.pd (PD.int IntKind.i64 (-1 : Int))))) []) (Tree.ret (SV.x (SX.c (SC.pd (PD.int IntKind.i64 (0 : Int))))) [])) (Tree.ite (decide (op < (3 : Int)) || decide (op > (23 : Int)) || a != (0 : Int) || !s == []) (Tree.ret (SV.x (SX.c (SC.pd (PD.int IntKind.i64 (-1 : Int))))) []) (Tree.ite (decide (op ≤ (4 : Int))) (Tree.ret (SV.x (SX.c (SC.pd (PD.int IntKind.i64 (0 : Int))))) []) (Tree.ite (decide (op ≤ (10 : Int))) (Tree.ret (SV.x (SX.c (SC.pd (PD.int IntKind.i64 (1 : Int))))) []) (Tree.ret (SV.x (SX.c (SC.pd (PD.int IntKind.i64 (2 : Int))))) []))))))))) (by kernel_rfl) fun Γ => ?_
  (repeat' (first | intro h | constructor)) <;> simp only [wantsM, *, cond_true, cond_false]
def eWants : Nat × (List SX → List Chunk → Option (Option Prop × SV × List Chunk)) := (37, fun
  | [.agg [.pd (.int .i64 op), .pd (.int .i64 a), .pd (.str s)]], [] => some (none, .x (.c (.pd (.int .i64 (wantsM op a s)))), [])
  | _, _ => none)
theorem eWants_ok (vs : List SX) (ck : List Chunk) (p : Option Prop) (ret : SV) (ck' : List Chunk) (h : eWants.2 vs ck = some (p, ret, ck')) (hp : Holds p) : Does Try.prog eWants.1 vs ck ret ck' := by
  unfold eWants at h
  simp only at h
  split at h
  · rename_i op a s
    simp only [Option.some.injEq, Prod.mk.injEq] at h
    obtain ⟨rfl, rfl, rfl⟩ := h
    exact wants_spec op a s
  · simp at h
def cfgWants : Cfg := ⟨tys0, [eWants]⟩
theorem cfgWants_ok : TabOk Try.prog cfgWants.tab := (TabOk.cons eWants_ok TabOk.nil)

theorem right_loop (l : List Cell) (Γ : Ctx) (hl : l.length ≤ 32) : ∀ (n k : Nat) (m : Int), l.length - k ≤ n → k ≤ l.length → 0 ≤ m → m ≤ k →
    J Try.prog 28 (bodyOf Try.f28) Γ (Eq2 (.x (.b (rightGo (l.drop k) m))) []) [PI.code [(1 : Nat), (1 : Nat), (1 : Nat), (0 : Nat), (1 : Nat), (0 : Nat), (0 : Nat)], PI.inLoop [(1 : Nat), (1 : Nat), (1 : Nat), (0 : Nat), (1 : Nat), (0 : Nat), (0 : Nat)], PI.inBlock (0 : Nat), PI.code [(1 : Nat), (1 : Nat), (1 : Nat), (1 : Nat)]] ({ n := (32 : Nat), fr := [(2, SV.x (SX.c (SC.pd (PD.bool false)))), (3, SV.x (SX.c (SC.pd (PD.int IntKind.i64 (m))))), (10, SV.x (SX.c (SC.pd (PD.lst ETy.cell l)))), (11, SV.x (SX.c (SC.pd (PD.int IntKind.i64 (↑(List.length l) : Int))))), (12, SV.x (SX.c (SC.pd (PD.int IntKind.i64 (k)))))], ck := [], kn := [(2 : Nat)] }) := by
  intro n
  induction n with
  | zero => ?_
  | succ n ih => ?_
  all_goals
    intro k m hn hk h0 hm
    refine J.go (cfg := cfgWants) cfgWants_ok Try.func28 1000 (t := (Tree.ite (decide ((↑k : Int) < (↑(List.length l) : Int))) (Tree.need ((0 : Int) ≤ (↑k : Int) ∧ (↑k : Int) < (↑(List.length l) : Int)) (Tree.ite (decide (wantsM (Cell.op (ETy.get ETy.cell l k)) (Cell.a (ETy.get ETy.cell l k)) (Cell.name (ETy.get ETy.cell l k)) < (0 : Int)) || decide (wantsM (Cell.op (ETy.get ETy.cell l k)) (Cell.a (ETy.get ETy.cell l k)) (Cell.name (ETy.get ETy.cell l k)) > m)) (Tree.ret (SV.x (SX.c (SC.pd (PD.bool false)))) []) (Tree.stop [PI.code [(1 : Nat), (1 : Nat), (1 : Nat), (0 : Nat), (1 : Nat), (0 : Nat), (0 : Nat)], PI.inLoop [(1 : Nat), (1 : Nat), (1 : Nat), (0 : Nat), (1 : Nat), (0 : Nat), (0 : Nat)], PI.inBlock (0 : Nat), PI.code [(1 : Nat), (1 : Nat), (1 : Nat), (1 : Nat)]] { n := (32 : Nat), fr := [((2 : Nat), SV.x (SX.c (SC.pd (PD.bool false)))), ((3 : Nat), SV.x (SX.c (SC.pd (PD.int IntKind.i64 (IntKind.wrap IntKind.i64 (m + IntKind.wrap IntKind.i64 ((1 : Int) - wantsM (Cell.op (ETy.get ETy.cell l k)) (Cell.a (ETy.get ETy.cell l k)) (Cell.name (ETy.get ETy.cell l k))))))))), ((10 : Nat), SV.x (SX.c (SC.pd (PD.lst ETy.cell l)))), ((11 : Nat), SV.x (SX.c (SC.pd (PD.int IntKind.i64 (↑(List.length l) : Int))))), ((12 : Nat), SV.x (SX.c (SC.pd (PD.int IntKind.i64 (IntKind.wrap IntKind.i64 ((↑k : Int) + (1 : Int)))))))], ck := [], kn := [(2 : Nat)] }))) (Tree.ret (SV.x (SX.c (SC.pd (PD.bool (m == (1 : Int)))))) []))) (by kernel_rfl) ?_
    refine ⟨fun hlt => ⟨?_, ?_⟩, fun hge => ⟨?_, rfl⟩⟩
    · have := of_decide_eq_true hlt; omega
    · have hk' : k < l.length := by have := of_decide_eq_true hlt; omega
      rw [drop_get (t := .cell) hk']
      generalize ETy.get .cell l k = c
      refine ⟨fun hb => ⟨?_, rfl⟩, fun hb => ?_⟩
      · have hb' : (decide (wantsC c < 0) || decide (wantsC c > m)) = true := hb
        simp only [rightGo, hb', cond_true]
      · have hb' : (decide (wantsC c < 0) || decide (wantsC c > m)) = false := hb
        have hw : 0 ≤ wantsC c ∧ wantsC c ≤ m := by
          simp only [Bool.or_eq_false_iff, decide_eq_false_iff_not] at hb'
          omega
        simp only [rightGo, hb', cond_false]
        show J Try.prog 28 (bodyOf Try.f28) Γ _ [PI.code [(1 : Nat), (1 : Nat), (1 : Nat), (0 : Nat), (1 : Nat), (0 : Nat), (0 : Nat)], PI.inLoop [(1 : Nat), (1 : Nat), (1 : Nat), (0 : Nat), (1 : Nat), (0 : Nat), (0 : Nat)], PI.inBlock (0 : Nat), PI.code [(1 : Nat), (1 : Nat), (1 : Nat), (1 : Nat)]] ({ n := (32 : Nat), fr := [(2, SV.x (SX.c (SC.pd (PD.bool false)))), (3, SV.x (SX.c (SC.pd (PD.int IntKind.i64 (IntKind.wrap .i64 (m + IntKind.wrap .i64 (1 - wantsC c))))))), (10, SV.x (SX.c (SC.pd (PD.lst ETy.cell l)))), (11, SV.x (SX.c (SC.pd (PD.int IntKind.i64 (↑(List.length l) : Int))))), (12, SV.x (SX.c (SC.pd (PD.int IntKind.i64 (IntKind.wrap IntKind.i64 ((↑k : Int) + (1 : Int)))))))], ck := [], kn := [(2 : Nat)] })
        rw [wrapI (n := 1 - wantsC c) (by omega) (by omega), wrapI (by omega) (by omega), wrapK (by omega)]
        first
        | (exfalso; omega)
        | exact ih (k + 1) (m + (1 - wantsC c)) (by omega) (by omega) (by omega) (by omega)
    · rw [drop_end (by have := of_decide_eq_false hge; omega)]; rfl
theorem right_spec (l : List Cell) : Does Try.prog 28 [.l .cell l] [] (.x (.b (rightM l))) [] := by
  refine Does.go (cfg := cfgWants) cfgWants_ok Try.func28 (by kernel_rfl) (by kernel_rfl) (t := (Tree.ite (decide ((↑(List.length l) : Int) > (32 : Int))) (Tree.ret (SV.x (SX.c (SC.pd (PD.bool false)))) []) (Tree.stop [PI.code [(1 : Nat), (1 : Nat), (1 : Nat), (0 : Nat), (1 : Nat), (0 : Nat), (0 : Nat)], PI.inLoop [(1 : Nat), (1 : Nat), (1 : Nat), (0 : Nat), (1 : Nat), (0 : Nat), (0 : Nat)], PI.inBlock (0 : Nat), PI.code [(1 : Nat), (1 : Nat), (1 : Nat), (1 : Nat)]] { n := (32 : Nat), fr := [((2 : Nat), SV.x (SX.c (SC.pd (PD.bool false)))), ((3 : Nat), SV.x (SX.c (SC.pd (PD.int IntKind.i64 (0 : Int))))), ((10 : Nat), SV.x (SX.c (SC.pd (PD.lst ETy.cell l)))), ((11 : Nat), SV.x (SX.c (SC.pd (PD.int IntKind.i64 (↑(List.length l) : Int))))), ((12 : Nat), SV.x (SX.c (SC.pd (PD.int IntKind.i64 (0 : Int)))))], ck := [], kn := [(2 : Nat)] }))) (by kernel_rfl) fun Γ => ?_
  refine ⟨fun h => ⟨by simp only [rightM, h]; rfl, rfl⟩, fun h => ?_⟩
  have hl : l.length ≤ 32 := by have := of_decide_eq_false h; omega
  simp only [rightM, h]
  exact right_loop l Γ hl l.length 0 0 (by omega) (by omega) (by omega) (by omega)
def eRight : Nat × (List SX → List Chunk → Option (Option Prop × SV × List Chunk)) := (28, fun
  | [.c (.pd (.lst .cell l))], [] => some (none, .x (.c (.pd (.bool (rightM l)))), [])
  | _, _ => none)
theorem eRight_ok (vs : List SX) (ck : List Chunk) (p : Option Prop) (ret : SV) (ck' : List Chunk) (h : eRight.2 vs ck = some (p, ret, ck')) (hp : Holds p) : Does Try.prog eRight.1 vs ck ret ck' := by
  unfold eRight at h
  simp only at h
  split at h
  · rename_i l
    simp only [Option.some.injEq, Prod.mk.injEq] at h
    obtain ⟨rfl, rfl, rfl⟩ := h
    exact right_spec l
  · simp at h
end Go.Proofs.Ytgoihhnfkoklpaa

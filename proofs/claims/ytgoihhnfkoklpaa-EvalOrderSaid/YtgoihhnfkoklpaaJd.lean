/- Contracts: what eval's searches find. Conditions: none. -/
import Derived.Test.YtgoihhnfkoklpaaJc
import Derived.Test.YtgoihhnfkoklpaaFc
namespace Go.Proofs.Ytgoihhnfkoklpaa
open Go Go.Ev
set_option maxRecDepth 100000
def cfgOf1 : Cfg := ⟨tys0, [eEvRight]⟩
theorem cfgOf1_ok : TabOk Try.prog cfgOf1.tab := (TabOk.cons eEvRight_ok TabOk.nil)
theorem evof1_spec (v : Val) : Does Try.prog 45 [.e .val v] [] (.x (.b (!vR v))) [] := by
  refine Does.go (cfg := cfgOf1) cfgOf1_ok Try.func45 (by kernel_rfl) (by kernel_rfl) (t := (Tree.ret (SV.x (SX.c (SC.pd (PD.bool !vR { kind := Val.kind v, a := Val.a v, b := Val.b v })))) [])) (by kernel_rfl) fun Γ => ⟨rfl, rfl⟩
def eEvof1 : Nat × (List SX → List Chunk → Option (Option Prop × SV × List Chunk)) := (45, fun
  | [.agg [.pd (.int .i64 a), .pd (.int .i64 b), .pd (.int .i64 d)]], [] => some (none, .x (.c (.pd (.bool (!vR ⟨a, b, d⟩)))), [])
  | _, _ => none)
theorem eEvof1_ok (vs : List SX) (ck : List Chunk) (p : Option Prop) (ret : SV) (ck' : List Chunk) (h : eEvof1.2 vs ck = some (p, ret, ck')) (hp : Holds p) : Does Try.prog eEvof1.1 vs ck ret ck' := by
  unfold eEvof1 at h
  simp only at h
  split at h
  · rename_i a b d
    simp only [Option.some.injEq, Prod.mk.injEq] at h
    obtain ⟨rfl, rfl, rfl⟩ := h
    exact evof1_spec ⟨a, b, d⟩
  · simp at h
theorem evof2_spec (v : Var) (c : Cell) : Does Try.prog 48 [.e .var v, .p (.ref .cell c 0)] [] (.x (.b (v.name == c.name))) [] := by
  refine Does.go (cfg := cfg0) cfg0_ok Try.func48 (by kernel_rfl) (by kernel_rfl) (t := (Tree.ret (SV.x (SX.c (SC.pd (PD.bool (Var.name v == Cell.name c))))) [])) (by kernel_rfl) fun Γ => ⟨rfl, rfl⟩
def eEvof2 : Nat × (List SX → List Chunk → Option (Option Prop × SV × List Chunk)) := (48, fun
  | [.agg [.pd (.str a), .pd (.int .i64 b), .pd (.int .i64 d), .pd (.int .i64 e), .pd (.int .i64 f), .pd (.int .i64 g), .pd (.int .i64 h)], .c (.pd (.ref .cell c 0))], [] => some (none, .x (.c (.pd (.bool (a == c.name)))), [])
  | _, _ => none)
theorem eEvof2_ok (vs : List SX) (ck : List Chunk) (p : Option Prop) (ret : SV) (ck' : List Chunk) (h : eEvof2.2 vs ck = some (p, ret, ck')) (hp : Holds p) : Does Try.prog eEvof2.1 vs ck ret ck' := by
  unfold eEvof2 at h
  simp only at h
  split at h
  · rename_i a b d e f g h c
    simp only [Option.some.injEq, Prod.mk.injEq] at h
    obtain ⟨rfl, rfl, rfl⟩ := h
    exact evof2_spec ⟨a, b, d, e, ⟨f, g, h⟩⟩ c
  · simp at h
def cfgEo1 : Cfg := ⟨tys0, [eEvof1]⟩
theorem cfgEo1_ok : TabOk Try.prog cfgEo1.tab := (TabOk.cons eEvof1_ok TabOk.nil)
def cfgEo2 : Cfg := ⟨tys0, [eEvof2]⟩
theorem cfgEo2_ok : TabOk Try.prog cfgEo2.tab := (TabOk.cons eEvof2_ok TabOk.nil)

theorem iv_loop (vs : List Val) (Γ : Ctx) (hl : vs.length ≤ maxLen) : ∀ (n k : Nat), vs.length - k ≤ n → k ≤ vs.length →
    J Try.prog 57 (bodyOf Try.f57) Γ (Eq2 (.x (.i (firstAt (fun v : Val => !vR v) (vs.drop k) k))) []) [PI.code [(1 : Nat), (0 : Nat), (1 : Nat), (0 : Nat), (0 : Nat)], PI.inLoop [(1 : Nat), (0 : Nat), (1 : Nat), (0 : Nat), (0 : Nat)], PI.inBlock (0 : Nat), PI.code [(1 : Nat), (1 : Nat)]] ({ n := (19 : Nat), fr := [(0, SV.x (SX.c (SC.pd (PD.lst ETy.val vs)))), (1, SV.x (SX.c (SC.fn (Fn.func (45 : Nat)) [] []))), (4, SV.x (SX.c (SC.pd (PD.int IntKind.i64 (0 : Int))))), (7, SV.x (SX.c (SC.pd (PD.int IntKind.i64 (↑(List.length vs) : Int))))), (8, SV.x (SX.c (SC.pd (PD.int IntKind.i64 (k)))))], ck := [] }) := by
  intro n
  induction n with
  | zero => ?_
  | succ n ih => ?_
  all_goals
    intro k hn hk
    refine J.go (cfg := cfgEo1) cfgEo1_ok Try.func57 1000 (t := (Tree.ite (decide ((↑k : Int) < (↑(List.length vs) : Int))) (Tree.need ((0 : Int) ≤ (↑k : Int) ∧ (↑k : Int) < (↑(List.length vs) : Int)) (Tree.ite (!vR { kind := Val.kind (ETy.get ETy.val vs k), a := Val.a (ETy.get ETy.val vs k), b := Val.b (ETy.get ETy.val vs k) }) (Tree.ret (SV.x (SX.c (SC.pd (PD.int IntKind.i64 (↑k : Int))))) []) (Tree.stop [PI.code [(1 : Nat), (0 : Nat), (1 : Nat), (0 : Nat), (0 : Nat)], PI.inLoop [(1 : Nat), (0 : Nat), (1 : Nat), (0 : Nat), (0 : Nat)], PI.inBlock (0 : Nat), PI.code [(1 : Nat), (1 : Nat)]] { n := (19 : Nat), fr := [((0 : Nat), SV.x (SX.c (SC.pd (PD.lst ETy.val vs)))), ((1 : Nat), SV.x (SX.c (SC.fn (Fn.func (45 : Nat)) [] []))), ((4 : Nat), SV.x (SX.c (SC.pd (PD.int IntKind.i64 (0 : Int))))), ((7 : Nat), SV.x (SX.c (SC.pd (PD.int IntKind.i64 (↑(List.length vs) : Int))))), ((8 : Nat), SV.x (SX.c (SC.pd (PD.int IntKind.i64 (IntKind.wrap IntKind.i64 ((↑k : Int) + (1 : Int)))))))], ck := [] }))) (Tree.ret (SV.x (SX.c (SC.pd (PD.int IntKind.i64 (-1 : Int))))) []))) (by kernel_rfl) ?_
    refine ⟨fun hlt => ?_, fun hge => ⟨?_, rfl⟩⟩
    · have hk' : k < vs.length := by have := of_decide_eq_true hlt; omega
      rw [drop_get (t := .val) hk']
      refine ⟨by omega, ?_⟩
      generalize ETy.get .val vs k = v
      refine ⟨fun hb => ⟨?_, rfl⟩, fun hb => ?_⟩
      · have hb' : (!vR v) = true := hb
        simp only [firstAt, hb', cond_true]
      · have hb' : (!vR v) = false := hb
        simp only [firstAt, hb', cond_false]
        rw [wrapK (maxLen_lt hk' hl)]
        first
        | (exfalso; omega)
        | exact ih (k + 1) (by omega) (by omega)
    · rw [drop_end (by have := of_decide_eq_false hge; omega)]; rfl
theorem iv_spec (vs : List Val) : Does Try.prog 57 [.l .val vs, .c (.fn (.func 45) [] [])] [] (.x (.i (firstAt (fun v : Val => !vR v) vs 0))) [] := by
  refine Does.go (cfg := cfgEo1) cfgEo1_ok Try.func57 (by kernel_rfl) (by kernel_rfl) (t := (Tree.stop [PI.code [(1 : Nat), (0 : Nat), (1 : Nat), (0 : Nat), (0 : Nat)], PI.inLoop [(1 : Nat), (0 : Nat), (1 : Nat), (0 : Nat), (0 : Nat)], PI.inBlock (0 : Nat), PI.code [(1 : Nat), (1 : Nat)]] { n := (19 : Nat), fr := [((0 : Nat), SV.x (SX.c (SC.pd (PD.lst ETy.val vs)))), ((1 : Nat), SV.x (SX.c (SC.fn (Fn.func (45 : Nat)) [] []))), ((4 : Nat), SV.x (SX.c (SC.pd (PD.int IntKind.i64 (0 : Int))))), ((7 : Nat), SV.x (SX.c (SC.pd (PD.int IntKind.i64 (↑(List.length vs) : Int))))), ((8 : Nat), SV.x (SX.c (SC.pd (PD.int IntKind.i64 (0 : Int)))))], ck := [] })) (by kernel_rfl) fun Γ => ?_
  exact J.len 0 rfl fun hl => iv_loop vs Γ hl vs.length 0 (by omega) (by omega)
def eIv : Nat × (List SX → List Chunk → Option (Option Prop × SV × List Chunk)) := (57, fun
  | [.c (.pd (.lst .val vs)), .c (.fn (.func 45) [] [])], [] => some (none, .x (.c (.pd (.int .i64 (firstAt (fun v : Val => !vR v) vs 0)))), [])
  | _, _ => none)
theorem eIv_ok (vs : List SX) (ck : List Chunk) (p : Option Prop) (ret : SV) (ck' : List Chunk) (h : eIv.2 vs ck = some (p, ret, ck')) (hp : Holds p) : Does Try.prog eIv.1 vs ck ret ck' := by
  unfold eIv at h
  simp only at h
  split at h
  · rename_i vs
    simp only [Option.some.injEq, Prod.mk.injEq] at h
    obtain ⟨rfl, rfl, rfl⟩ := h
    exact iv_spec vs
  · simp at h
def cfgCf : Cfg := ⟨tys0, [eIv]⟩
theorem cfgCf_ok : TabOk Try.prog cfgCf.tab := (TabOk.cons eIv_ok TabOk.nil)
theorem cv_spec (vs : List Val) : Does Try.prog 44 [.l .val vs, .c (.fn (.func 45) [] [])] [] (.x (.b (vs.any fun v => !vR v))) [] := by
  refine Does.go (cfg := cfgCf) cfgCf_ok Try.func44 (by kernel_rfl) (by kernel_rfl) (t := (Tree.ret (SV.x (SX.c (SC.pd (PD.bool (decide (firstAt (fun v => !vR v) vs (0 : Int) ≥ (0 : Int))))))) [])) (by kernel_rfl) fun Γ => ⟨?_, rfl⟩
  rw [firstAt_any _ _ _ (by omega)]
def eCv : Nat × (List SX → List Chunk → Option (Option Prop × SV × List Chunk)) := (44, fun
  | [.c (.pd (.lst .val vs)), .c (.fn (.func 45) [] [])], [] => some (none, .x (.c (.pd (.bool (vs.any fun v => !vR v)))), [])
  | _, _ => none)
theorem eCv_ok (vs : List SX) (ck : List Chunk) (p : Option Prop) (ret : SV) (ck' : List Chunk) (h : eCv.2 vs ck = some (p, ret, ck')) (hp : Holds p) : Does Try.prog eCv.1 vs ck ret ck' := by
  unfold eCv at h
  simp only at h
  split at h
  · rename_i vs
    simp only [Option.some.injEq, Prod.mk.injEq] at h
    obtain ⟨rfl, rfl, rfl⟩ := h
    exact cv_spec vs
  · simp at h

theorem ixe_loop (vs : List Var) (c : Cell) (Γ : Ctx) (hl : vs.length ≤ maxLen) : ∀ (n k : Nat), vs.length - k ≤ n → k ≤ vs.length →
    J Try.prog 38 (bodyOf Try.f38) Γ (Eq2 (.x (.i (firstAt (fun v : Var => v.name == c.name) (vs.drop k) k))) []) [PI.code [(1 : Nat), (0 : Nat), (1 : Nat), (0 : Nat), (0 : Nat)], PI.inLoop [(1 : Nat), (0 : Nat), (1 : Nat), (0 : Nat), (0 : Nat)], PI.inBlock (0 : Nat), PI.code [(1 : Nat), (1 : Nat)]] ({ n := (19 : Nat), fr := [(0, SV.x (SX.c (SC.pd (PD.lst ETy.var vs)))), (1, SV.x (SX.c (SC.fn (Fn.func (48 : Nat)) [] [RC.pd (PD.ref ETy.cell c (0 : Nat))]))), (4, SV.x (SX.c (SC.pd (PD.int IntKind.i64 (0 : Int))))), (7, SV.x (SX.c (SC.pd (PD.int IntKind.i64 (↑(List.length vs) : Int))))), (8, SV.x (SX.c (SC.pd (PD.int IntKind.i64 (k)))))], ck := [] }) := by
  intro n
  induction n with
  | zero => ?_
  | succ n ih => ?_
  all_goals
    intro k hn hk
    refine J.go (cfg := cfgEo2) cfgEo2_ok Try.func38 1000 (t := (Tree.ite (decide ((↑k : Int) < (↑(List.length vs) : Int))) (Tree.need ((0 : Int) ≤ (↑k : Int) ∧ (↑k : Int) < (↑(List.length vs) : Int)) (Tree.ite (Var.name (ETy.get ETy.var vs k) == Cell.name c) (Tree.ret (SV.x (SX.c (SC.pd (PD.int IntKind.i64 (↑k : Int))))) []) (Tree.stop [PI.code [(1 : Nat), (0 : Nat), (1 : Nat), (0 : Nat), (0 : Nat)], PI.inLoop [(1 : Nat), (0 : Nat), (1 : Nat), (0 : Nat), (0 : Nat)], PI.inBlock (0 : Nat), PI.code [(1 : Nat), (1 : Nat)]] { n := (19 : Nat), fr := [((0 : Nat), SV.x (SX.c (SC.pd (PD.lst ETy.var vs)))), ((1 : Nat), SV.x (SX.c (SC.fn (Fn.func (48 : Nat)) [] [RC.pd (PD.ref ETy.cell c (0 : Nat))]))), ((4 : Nat), SV.x (SX.c (SC.pd (PD.int IntKind.i64 (0 : Int))))), ((7 : Nat), SV.x (SX.c (SC.pd (PD.int IntKind.i64 (↑(List.length vs) : Int))))), ((8 : Nat), SV.x (SX.c (SC.pd (PD.int IntKind.i64 (IntKind.wrap IntKind.i64 ((↑k : Int) + (1 : Int)))))))], ck := [] }))) (Tree.ret (SV.x (SX.c (SC.pd (PD.int IntKind.i64 (-1 : Int))))) []))) (by kernel_rfl) ?_
    refine ⟨fun hlt => ?_, fun hge => ⟨?_, rfl⟩⟩
    · have hk' : k < vs.length := by have := of_decide_eq_true hlt; omega
      rw [drop_get (t := .var) hk']
      refine ⟨by omega, ?_⟩
      generalize ETy.get .var vs k = v
      refine ⟨fun hb => ⟨?_, rfl⟩, fun hb => ?_⟩
      · simp only [firstAt, hb, cond_true]
      · simp only [firstAt, hb, cond_false]
        rw [wrapK (maxLen_lt hk' hl)]
        first
        | (exfalso; omega)
        | exact ih (k + 1) (by omega) (by omega)
    · rw [drop_end (by have := of_decide_eq_false hge; omega)]; rfl
theorem ixe_spec (vs : List Var) (c : Cell) : Does Try.prog 38 [.l .var vs, .c (.fn (.func 48) [] [.pd (.ref .cell c 0)])] [] (.x (.i (firstAt (fun v : Var => v.name == c.name) vs 0))) [] := by
  refine Does.go (cfg := cfgEo2) cfgEo2_ok Try.func38 (by kernel_rfl) (by kernel_rfl) (t := (Tree.stop [PI.code [(1 : Nat), (0 : Nat), (1 : Nat), (0 : Nat), (0 : Nat)], PI.inLoop [(1 : Nat), (0 : Nat), (1 : Nat), (0 : Nat), (0 : Nat)], PI.inBlock (0 : Nat), PI.code [(1 : Nat), (1 : Nat)]] { n := (19 : Nat), fr := [((0 : Nat), SV.x (SX.c (SC.pd (PD.lst ETy.var vs)))), ((1 : Nat), SV.x (SX.c (SC.fn (Fn.func (48 : Nat)) [] [RC.pd (PD.ref ETy.cell c (0 : Nat))]))), ((4 : Nat), SV.x (SX.c (SC.pd (PD.int IntKind.i64 (0 : Int))))), ((7 : Nat), SV.x (SX.c (SC.pd (PD.int IntKind.i64 (↑(List.length vs) : Int))))), ((8 : Nat), SV.x (SX.c (SC.pd (PD.int IntKind.i64 (0 : Int)))))], ck := [] })) (by kernel_rfl) fun Γ => ?_
  exact J.len 0 rfl fun hl => ixe_loop vs c Γ hl vs.length 0 (by omega) (by omega)
def eIxe : Nat × (List SX → List Chunk → Option (Option Prop × SV × List Chunk)) := (38, fun
  | [.c (.pd (.lst .var vs)), .c (.fn (.func 48) [] [.pd (.ref .cell c 0)])], [] => some (none, .x (.c (.pd (.int .i64 (firstAt (fun v : Var => v.name == c.name) vs 0)))), [])
  | _, _ => none)
theorem eIxe_ok (vs : List SX) (ck : List Chunk) (p : Option Prop) (ret : SV) (ck' : List Chunk) (h : eIxe.2 vs ck = some (p, ret, ck')) (hp : Holds p) : Does Try.prog eIxe.1 vs ck ret ck' := by
  unfold eIxe at h
  simp only at h
  split at h
  · rename_i vs c
    simp only [Option.some.injEq, Prod.mk.injEq] at h
    obtain ⟨rfl, rfl, rfl⟩ := h
    exact ixe_spec vs c
  · simp at h
end Go.Proofs.Ytgoihhnfkoklpaa

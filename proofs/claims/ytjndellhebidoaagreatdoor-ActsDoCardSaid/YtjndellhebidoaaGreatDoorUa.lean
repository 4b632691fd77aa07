/- Contracts: actions that may be, values that fit. Conditions: none. -/
import Derived.Test.YtjndellhebidoaaGreatDoorJi
import Derived.Test.YtjndellhebidoaaGreatDoorPX
import Derived.Test.YtjndellhebidoaaGreatDoorPZ
namespace Go.Proofs.YtjndellhebidoaaGreatDoor
open Go Go.Ev
set_option maxRecDepth 100000
theorem nt {b : Bool} (h : (!b) = true) : b = false := by cases b <;> simp_all
theorem nf {b : Bool} (h : (!b) = false) : b = true := by cases b <;> simp_all
/-! ### plain -/
def asksM (l : List Cell) : Bool := l.any fun c => c.op == 6
def plainM (l : List Cell) : Bool := rightM l && !asksM l
def raiseS : Str := [114, 97, 105, 115, 101, 58]
def sendS : Str := [115, 101, 110, 100, 58]
def deedOk (d : Deed) : Bool := bif d.kind == 1 then nameM d.name && plainM d.expr else bif d.kind == 2 || d.kind == 3 then eventM d.name && ((d.expr.length : Int) == 0) else false
def blockOk (l : List Deed) : Bool := l.all deedOk && (decide ((l.length : Int) > 0) && decide ((l.length : Int) ≤ 8))
def fitsM (v : Var) (x : Val) : Bool := v.kind == x.kind && (decide (x.a ≥ v.lo) && decide (x.a ≤ v.hi) && (x.kind != 3 || (decide (x.b ≥ v.lo) && decide (x.b ≤ v.hi))))
/-! ### the program's -/

theorem clone_spec (l : List Val) (h : room l.length 24) : Does Tryz.prog 28 [.l .val l] [] (.x (.c (.own 0))) [.own 49 .val l] := by
  refine Does.nilOwn Tryz.func28 (by kernel_rfl) (by kernel_rfl) fun Γ => ?_
  refine J.go (cfg := cfg0) cfg0_ok Tryz.func28 1000 (t := (.stop [.ops [1, 0, 0] 1, .code [1, 0, 1], .code [1, 1]] { n := 8, fr := [(0, .p (.lst .val l)), (2, .p (.v (Value.slice none 0 0))), (3, .p (.lst .val l))], ck := [] })) (by kernel_rfl) ?_
  refine J.isNil (d := 4) (s := 3) (t := .val) (l := l) (by kernel_rfl) rfl (fun h0 => ?_) ?_
  · refine J.go (cfg := cfg0) cfg0_ok Tryz.func28 1000 (t := (.ite true (.ret (.p (.v (Value.slice none 0 0))) []) (.need (room (List.length ([] ++ l)) 24) (.ret (.x (.c (.own 0))) [.own 49 .val ([] ++ l)])))) (by kernel_rfl) ?_
    exact ⟨fun _ => .inr ⟨h0, rfl, rfl⟩, fun h => Bool.noConfusion h⟩
  · refine J.go (cfg := cfg0) cfg0_ok Tryz.func28 1000 (t := (.ite false (.ret (.p (.v (Value.slice none 0 0))) []) (.need (room (List.length ([] ++ l)) 24) (.ret (.x (.c (.own 0))) [.own 49 .val ([] ++ l)])))) (by kernel_rfl) ?_
    exact ⟨fun h => Bool.noConfusion h, fun _ => ⟨h, .inl ⟨rfl, rfl⟩⟩⟩
def eClone : Nat × (List SX → List Chunk → Option (Option Prop × SV × List Chunk)) := (28, fun
  | [.c (.pd (.lst .val l))], [] => some (some (room l.length 24), .x (.c (.own 0)), [.own 49 .val l])
  | _, _ => none)
theorem eClone_ok (vs : List SX) (ck : List Chunk) (p : Option Prop) (ret : SV) (ck' : List Chunk) (h : eClone.2 vs ck = some (p, ret, ck')) (hp : Holds p) : Does Tryz.prog eClone.1 vs ck ret ck' := by
  unfold eClone at h
  simp only at h
  split at h
  · rename_i l
    simp only [Option.some.injEq, Prod.mk.injEq] at h
    obtain ⟨rfl, rfl, rfl⟩ := h
    exact clone_spec l hp
  · simp at h
theorem fits_spec (v : Var) (x : Val) : Does Tryz.prog 32 [.e .var v, .e .val x] [] (.x (.b (fitsM v x))) [] := by
  refine Does.go (cfg := cfg0) cfg0_ok Tryz.func32 (by kernel_rfl) (by kernel_rfl) (t := (.ite (Val.kind x == (3 : Int)) (.ret (.p (.bool (Var.kind v == Val.kind x && decide ((if Val.b x < Val.a x then Val.b x else Val.a x) ≥ Var.lo v) && decide ((if Val.b x > Val.a x then Val.b x else Val.a x) ≤ Var.hi v)))) []) (.ret (.p (.bool (Var.kind v == Val.kind x && decide (Val.a x ≥ Var.lo v) && decide (Val.a x ≤ Var.hi v)))) []))) (by kernel_rfl) fun Γ => ?_
  refine ⟨fun h => ⟨?_, rfl⟩, fun h => ⟨?_, rfl⟩⟩
  all_goals
    have e : fitsM v x = _ := rfl
    refine congrArg (fun b : Bool => SV.x (SX.b b)) ?_
    unfold fitsM
    have h' := h
    simp only [bne, h', Bool.not_true, Bool.not_false, Bool.false_or, Bool.true_or, Bool.and_true]
  · cases v.kind == x.kind <;> simp only [Bool.false_and, Bool.true_and]
    rw [Bool.eq_iff_iff]
    simp only [Bool.and_eq_true, decide_eq_true_eq]
    split <;> split <;> omega
  · rw [Bool.and_assoc]
def eFits : Nat × (List SX → List Chunk → Option (Option Prop × SV × List Chunk)) := (32, fun
  | [.agg [.pd (.str n), .pd (.int .i64 k), .pd (.int .i64 lo), .pd (.int .i64 hi), .pd (.int .i64 ik), .pd (.int .i64 ia), .pd (.int .i64 ib)], .agg [.pd (.int .i64 xk), .pd (.int .i64 xa), .pd (.int .i64 xb)]], [] => some (none, .x (.c (.pd (.bool (fitsM ⟨n, k, lo, hi, ⟨ik, ia, ib⟩⟩ ⟨xk, xa, xb⟩)))), [])
  | _, _ => none)
theorem eFits_ok (vs : List SX) (ck : List Chunk) (p : Option Prop) (ret : SV) (ck' : List Chunk) (h : eFits.2 vs ck = some (p, ret, ck')) (hp : Holds p) : Does Tryz.prog eFits.1 vs ck ret ck' := by
  unfold eFits at h
  simp only at h
  split at h
  · rename_i n k lo hi ik ia ib xk xa xb
    simp only [Option.some.injEq, Prod.mk.injEq] at h
    obtain ⟨rfl, rfl, rfl⟩ := h
    exact fits_spec ⟨n, k, lo, hi, ⟨ik, ia, ib⟩⟩ ⟨xk, xa, xb⟩
  · simp at h
theorem dofn_spec (v : Var) (d : Deed) : Does Tryz.prog 30 [.e .var v, .p (.ref .deed d 0)] [] (.x (.b (v.name == d.name))) [] := by
  refine Does.go (cfg := cfg0) cfg0_ok Tryz.func30 (by kernel_rfl) (by kernel_rfl) (t := (.ret (.p (.bool (Var.name v == Deed.name d))) [])) (by kernel_rfl) fun Γ => ⟨rfl, rfl⟩
def eDofn : Nat × (List SX → List Chunk → Option (Option Prop × SV × List Chunk)) := (30, fun
  | [.agg [.pd (.str a), .pd (.int .i64 b), .pd (.int .i64 d), .pd (.int .i64 e), .pd (.int .i64 f), .pd (.int .i64 g), .pd (.int .i64 h)], .c (.pd (.ref .deed c 0))], [] => some (none, .x (.c (.pd (.bool (a == c.name)))), [])
  | _, _ => none)
theorem eDofn_ok (vs : List SX) (ck : List Chunk) (p : Option Prop) (ret : SV) (ck' : List Chunk) (h : eDofn.2 vs ck = some (p, ret, ck')) (hp : Holds p) : Does Tryz.prog eDofn.1 vs ck ret ck' := by
  unfold eDofn at h
  simp only at h
  split at h
  · rename_i a b d e f g h c
    simp only [Option.some.injEq, Prod.mk.injEq] at h
    obtain ⟨rfl, rfl, rfl⟩ := h
    exact dofn_spec ⟨a, b, d, e, ⟨f, g, h⟩⟩ c
  · simp at h
def cfgDofn : Cfg := ⟨tys0, [eDofn]⟩
theorem cfgDofn_ok : TabOk Tryz.prog cfgDofn.tab := (TabOk.cons eDofn_ok TabOk.nil)

theorem ixd_loop (vs : List Var) (c : Deed) (Γ : Ctx) (hl : vs.length ≤ maxLen)  : ∀ (n k : Nat), vs.length - k ≤ n → k ≤ vs.length →
    J Tryz.prog 29 (bodyOf Tryz.f29) Γ (Eq2 (.x (.i (firstAt (fun v : Var => v.name == c.name) (vs.drop k) k))) []) [.code [1, 0, 1, 0, 0], .inLoop [1, 0, 1, 0, 0], .inBlock 0, .code [1, 1]] ({ n := 19, fr := [(0, .p (.lst .var vs)), (1, .x (.c (.fn (.func 30) [] [.pd (.ref .deed c 0)]))), (4, .i (0 : Int)), (7, .i (↑(List.length vs) : Int)), (8, .i (k))], ck := [] }) := by
  intro n
  induction n with
  | zero => ?_
  | succ n ih => ?_
  all_goals
    intro k hn hk
    refine J.go (cfg := cfgDofn) cfgDofn_ok Tryz.func29 1000 (t := (.ite (decide ((↑k : Int) < (↑(List.length vs) : Int))) (.need ((0 : Int) ≤ (↑k : Int) ∧ (↑k : Int) < (↑(List.length vs) : Int)) (.ite (Var.name (ETy.get .var vs k) == Deed.name c) (.ret (.i (↑k : Int)) []) (.stop [.code [1, 0, 1, 0, 0], .inLoop [1, 0, 1, 0, 0], .inBlock 0, .code [1, 1]] { n := 19, fr := [(0, .p (.lst .var vs)), (1, .x (.c (.fn (.func 30) [] [.pd (.ref .deed c 0)]))), (4, .i (0 : Int)), (7, .i (↑(List.length vs) : Int)), (8, .i (IntKind.wrap .i64 ((↑k : Int) + (1 : Int))))], ck := [] }))) (.ret (.i (-1 : Int)) []))) (by kernel_rfl) ?_
    refine ⟨fun hlt => ?_, fun hge => ?_⟩
    · have hk' : k < vs.length := by have := of_decide_eq_true hlt; omega
      rw [drop_get (t := .var) (l := vs) hk']
      refine ⟨by omega, ?_⟩
      generalize ETy.get .var vs k = v
      refine ⟨fun hb => ⟨?_, rfl⟩, fun hb => ?_⟩
      · simp only [firstAt, hb, cond_true]
      · simp only [firstAt, hb, cond_false]; (rw [wrapK (maxLen_lt hk' hl)]; first | (exfalso; omega) | exact ih (k + 1) (by omega) (by omega))
    · rw [drop_end (l := vs) (by have := of_decide_eq_false hge; omega)]
      exact ⟨rfl, rfl⟩
theorem ixd_spec (vs : List Var) (c : Deed) : Does Tryz.prog 29 [.l .var (vs), SX.c (SC.fn (Fn.func 30) [] [RC.pd (PD.ref ETy.deed c 0)])] [] (.x (.i (firstAt (fun v : Var => v.name == c.name) vs 0))) [] := by
  refine Does.go (cfg := cfgDofn) cfgDofn_ok Tryz.func29 (by kernel_rfl) (by kernel_rfl) (t := (.stop [.code [1, 0, 1, 0, 0], .inLoop [1, 0, 1, 0, 0], .inBlock 0, .code [1, 1]] { n := 19, fr := [(0, .p (.lst .var vs)), (1, .x (.c (.fn (.func 30) [] [.pd (.ref .deed c 0)]))), (4, .i (0 : Int)), (7, .i (↑(List.length vs) : Int)), (8, .i (0 : Int))], ck := [] })) (by kernel_rfl) fun Γ => ?_
  exact J.len 0 rfl fun hl => ixd_loop vs c Γ hl vs.length 0 (by omega) (by omega)
def eIxd : Nat × (List SX → List Chunk → Option (Option Prop × SV × List Chunk)) := (29, fun
  | [.c (.pd (.lst .var vs)), .c (.fn (.func 30) [] [.pd (.ref .deed c 0)])], [] => some (none, .x (.c (.pd (.int .i64 (firstAt (fun v : Var => v.name == c.name) vs 0)))), [])
  | _, _ => none)
theorem eIxd_ok (vs : List SX) (ck : List Chunk) (p : Option Prop) (ret : SV) (ck' : List Chunk) (h : eIxd.2 vs ck = some (p, ret, ck')) (hp : Holds p) : Does Tryz.prog eIxd.1 vs ck ret ck' := by
  unfold eIxd at h
  simp only at h
  split at h
  · rename_i vs c
    simp only [Option.some.injEq, Prod.mk.injEq] at h
    obtain ⟨rfl, rfl, rfl⟩ := h
    exact ixd_spec vs c
  · simp at h
theorem plfn_spec (c : Cell) : Does Tryz.prog 81 [.e .cell c] [] (.x (.b (c.op == 6))) [] := by
  refine Does.go (cfg := cfg0) cfg0_ok Tryz.func81 (by kernel_rfl) (by kernel_rfl) (t := (.ret (.p (.bool (Cell.op c == (6 : Int)))) [])) (by kernel_rfl) fun Γ => ⟨rfl, rfl⟩
def ePlfn : Nat × (List SX → List Chunk → Option (Option Prop × SV × List Chunk)) := (81, fun
  | [.agg [.pd (.int .i64 a), .pd (.int .i64 b), .pd (.str d)]], [] => some (none, .x (.c (.pd (.bool (a == 6)))), [])
  | _, _ => none)
theorem ePlfn_ok (vs : List SX) (ck : List Chunk) (p : Option Prop) (ret : SV) (ck' : List Chunk) (h : ePlfn.2 vs ck = some (p, ret, ck')) (hp : Holds p) : Does Tryz.prog ePlfn.1 vs ck ret ck' := by
  unfold ePlfn at h
  simp only at h
  split at h
  · rename_i a b d
    simp only [Option.some.injEq, Prod.mk.injEq] at h
    obtain ⟨rfl, rfl, rfl⟩ := h
    exact plfn_spec ⟨a, b, d⟩
  · simp at h
def cfgPlfn : Cfg := ⟨tys0, [ePlfn]⟩
theorem cfgPlfn_ok : TabOk Tryz.prog cfgPlfn.tab := (TabOk.cons ePlfn_ok TabOk.nil)

theorem ixc_loop (l : List Cell) (Γ : Ctx) (hl : l.length ≤ maxLen)  : ∀ (n k : Nat), l.length - k ≤ n → k ≤ l.length →
    J Tryz.prog 114 (bodyOf Tryz.f114) Γ (Eq2 (.x (.i (firstAt (fun c : Cell => c.op == 6) (l.drop k) k))) []) [.code [1, 0, 1, 0, 0], .inLoop [1, 0, 1, 0, 0], .inBlock 0, .code [1, 1]] ({ n := 19, fr := [(0, .p (.lst .cell l)), (1, .x (.c (.fn (.func 81) [] []))), (4, .i (0 : Int)), (7, .i (↑(List.length l) : Int)), (8, .i (k))], ck := [] }) := by
  intro n
  induction n with
  | zero => ?_
  | succ n ih => ?_
  all_goals
    intro k hn hk
    refine J.go (cfg := cfgPlfn) cfgPlfn_ok Tryz.func114 1000 (t := (.ite (decide ((↑k : Int) < (↑(List.length l) : Int))) (.need ((0 : Int) ≤ (↑k : Int) ∧ (↑k : Int) < (↑(List.length l) : Int)) (.ite (Cell.op (ETy.get .cell l k) == (6 : Int)) (.ret (.i (↑k : Int)) []) (.stop [.code [1, 0, 1, 0, 0], .inLoop [1, 0, 1, 0, 0], .inBlock 0, .code [1, 1]] { n := 19, fr := [(0, .p (.lst .cell l)), (1, .x (.c (.fn (.func 81) [] []))), (4, .i (0 : Int)), (7, .i (↑(List.length l) : Int)), (8, .i (IntKind.wrap .i64 ((↑k : Int) + (1 : Int))))], ck := [] }))) (.ret (.i (-1 : Int)) []))) (by kernel_rfl) ?_
    refine ⟨fun hlt => ?_, fun hge => ?_⟩
    · have hk' : k < l.length := by have := of_decide_eq_true hlt; omega
      rw [drop_get (t := .cell) (l := l) hk']
      refine ⟨by omega, ?_⟩
      generalize ETy.get .cell l k = v
      refine ⟨fun hb => ⟨?_, rfl⟩, fun hb => ?_⟩
      · simp only [firstAt, hb, cond_true]
      · simp only [firstAt, hb, cond_false]; (rw [wrapK (maxLen_lt hk' hl)]; first | (exfalso; omega) | exact ih (k + 1) (by omega) (by omega))
    · rw [drop_end (l := l) (by have := of_decide_eq_false hge; omega)]
      exact ⟨rfl, rfl⟩
theorem ixc_spec (l : List Cell) : Does Tryz.prog 114 [.l .cell (l), SX.c (SC.fn (Fn.func 81) [] [])] [] (.x (.i (firstAt (fun c : Cell => c.op == 6) l 0))) [] := by
  refine Does.go (cfg := cfgPlfn) cfgPlfn_ok Tryz.func114 (by kernel_rfl) (by kernel_rfl) (t := (.stop [.code [1, 0, 1, 0, 0], .inLoop [1, 0, 1, 0, 0], .inBlock 0, .code [1, 1]] { n := 19, fr := [(0, .p (.lst .cell l)), (1, .x (.c (.fn (.func 81) [] []))), (4, .i (0 : Int)), (7, .i (↑(List.length l) : Int)), (8, .i (0 : Int))], ck := [] })) (by kernel_rfl) fun Γ => ?_
  exact J.len 0 rfl fun hl => ixc_loop l Γ hl l.length 0 (by omega) (by omega)
def eIxc : Nat × (List SX → List Chunk → Option (Option Prop × SV × List Chunk)) := (114, fun
  | [.c (.pd (.lst .cell l)), .c (.fn (.func 81) [] [])], [] => some (none, .x (.c (.pd (.int .i64 (firstAt (fun c : Cell => c.op == 6) l 0)))), [])
  | _, _ => none)
theorem eIxc_ok (vs : List SX) (ck : List Chunk) (p : Option Prop) (ret : SV) (ck' : List Chunk) (h : eIxc.2 vs ck = some (p, ret, ck')) (hp : Holds p) : Does Tryz.prog eIxc.1 vs ck ret ck' := by
  unfold eIxc at h
  simp only at h
  split at h
  · rename_i l
    simp only [Option.some.injEq, Prod.mk.injEq] at h
    obtain ⟨rfl, rfl, rfl⟩ := h
    exact ixc_spec l
  · simp at h
def cfgIxc : Cfg := ⟨tys0, [eIxc]⟩
theorem cfgIxc_ok : TabOk Tryz.prog cfgIxc.tab := (TabOk.cons eIxc_ok TabOk.nil)
theorem cfc_spec (l : List Cell) : Does Tryz.prog 80 [.l .cell l, .c (.fn (.func 81) [] [])] [] (.x (.b (asksM l))) [] := by
  refine Does.go (cfg := cfgIxc) cfgIxc_ok Tryz.func80 (by kernel_rfl) (by kernel_rfl) (t := (.ret (.p (.bool (decide (firstAt (fun c => Cell.op c == (6 : Int)) l (0 : Int) ≥ (0 : Int))))) [])) (by kernel_rfl) fun Γ => ⟨?_, rfl⟩
  rw [firstAt_any _ _ _ (by omega)]; rfl
def eCfc : Nat × (List SX → List Chunk → Option (Option Prop × SV × List Chunk)) := (80, fun
  | [.c (.pd (.lst .cell l)), .c (.fn (.func 81) [] [])], [] => some (none, .x (.c (.pd (.bool (asksM l)))), [])
  | _, _ => none)
theorem eCfc_ok (vs : List SX) (ck : List Chunk) (p : Option Prop) (ret : SV) (ck' : List Chunk) (h : eCfc.2 vs ck = some (p, ret, ck')) (hp : Holds p) : Does Tryz.prog eCfc.1 vs ck ret ck' := by
  unfold eCfc at h
  simp only at h
  split at h
  · rename_i l
    simp only [Option.some.injEq, Prod.mk.injEq] at h
    obtain ⟨rfl, rfl, rfl⟩ := h
    exact cfc_spec l
  · simp at h
def cfgPlain : Cfg := ⟨tys0, [eRight, eCfc]⟩
theorem cfgPlain_ok : TabOk Tryz.prog cfgPlain.tab := (TabOk.cons eRight_ok (TabOk.cons eCfc_ok TabOk.nil))
theorem plainA_spec (l : List Cell) : Does Tryz.prog 46 [.l .cell l] [] (.x (.b (plainM l))) [] := by
  refine Does.go (cfg := cfgPlain) cfgPlain_ok Tryz.func46 (by kernel_rfl) (by kernel_rfl) (t := (.ret (.p (.bool (rightM l && !asksM l))) [])) (by kernel_rfl) fun Γ => ?_
  exact ⟨rfl, rfl⟩
def ePlainA : Nat × (List SX → List Chunk → Option (Option Prop × SV × List Chunk)) := (46, fun
  | [.c (.pd (.lst .cell l))], [] => some (none, .x (.c (.pd (.bool (plainM l)))), [])
  | _, _ => none)
theorem ePlainA_ok (vs : List SX) (ck : List Chunk) (p : Option Prop) (ret : SV) (ck' : List Chunk) (h : ePlainA.2 vs ck = some (p, ret, ck')) (hp : Holds p) : Does Tryz.prog ePlainA.1 vs ck ret ck' := by
  unfold ePlainA at h
  simp only at h
  split at h
  · rename_i l
    simp only [Option.some.injEq, Prod.mk.injEq] at h
    obtain ⟨rfl, rfl, rfl⟩ := h
    exact plainA_spec l
  · simp at h
def cfgDeed : Cfg := ⟨tys0, [eName, ePlainA, eEvent]⟩
theorem cfgDeed_ok : TabOk Tryz.prog cfgDeed.tab := (TabOk.cons eName_ok (TabOk.cons ePlainA_ok (TabOk.cons eEvent_ok TabOk.nil)))
theorem deed_spec (d : Deed) : Does Tryz.prog 38 [.e .deed d] [] (.x (.b (deedOk d))) [] := by
  refine Does.go (cfg := cfgDeed) cfgDeed_ok Tryz.func38 (by kernel_rfl) (by kernel_rfl) (t := (.ite (Deed.kind d == (1 : Int)) (.ret (.p (.bool (nameM (Deed.name d) && plainM (Deed.expr d)))) []) (.ite (Deed.kind d == (2 : Int)) (.ret (.p (.bool (eventM (Deed.name d) && (↑(List.length (Deed.expr d)) : Int) == (0 : Int)))) []) (.ite (Deed.kind d == (3 : Int)) (.ret (.p (.bool (eventM (Deed.name d) && (↑(List.length (Deed.expr d)) : Int) == (0 : Int)))) []) (.ret (.p (.bool false)) []))))) (by kernel_rfl) fun Γ => ?_
  unfold deedOk
  refine ⟨fun h => ?_, fun h1 => ⟨fun h => ?_, fun h2 => ⟨fun h => ?_, fun h3 => ?_⟩⟩⟩
  · rw [h]; exact ⟨rfl, rfl⟩
  · rw [h1, h]; exact ⟨rfl, rfl⟩
  · rw [h1, h2, h]; exact ⟨rfl, rfl⟩
  · rw [h1, h2, h3]; exact ⟨rfl, rfl⟩
def eDeed : Nat × (List SX → List Chunk → Option (Option Prop × SV × List Chunk)) := (38, fun
  | [.agg [.pd (.int .i64 a), .pd (.str b), .pd (.lst .cell d)]], [] => some (none, .x (.c (.pd (.bool (deedOk ⟨a, b, d⟩)))), [])
  | _, _ => none)
theorem eDeed_ok (vs : List SX) (ck : List Chunk) (p : Option Prop) (ret : SV) (ck' : List Chunk) (h : eDeed.2 vs ck = some (p, ret, ck')) (hp : Holds p) : Does Tryz.prog eDeed.1 vs ck ret ck' := by
  unfold eDeed at h
  simp only at h
  split at h
  · rename_i a b d
    simp only [Option.some.injEq, Prod.mk.injEq] at h
    obtain ⟨rfl, rfl, rfl⟩ := h
    exact deed_spec ⟨a, b, d⟩
  · simp at h
def cfgBlock : Cfg := ⟨tys0, [eDeed]⟩
theorem cfgBlock_ok : TabOk Tryz.prog cfgBlock.tab := (TabOk.cons eDeed_ok TabOk.nil)

theorem ri_loop (l : List Deed) (Γ : Ctx) (hl : l.length ≤ maxLen)  : ∀ (n k : Nat), l.length - k ≤ n → k ≤ l.length →
    J Tryz.prog 22 (bodyOf Tryz.f22) Γ (Eq2 (.x (.b ((l.drop k).all deedOk && (decide ((l.length : Int) > 0) && decide ((l.length : Int) ≤ 8))))) []) [.code [1, 0, 1, 0, 0], .inLoop [1, 0, 1, 0, 0], .inBlock 0, .code [1, 1]] ({ n := 23, fr := [(0, .p (.lst .deed l)), (2, .p (.bool false)), (5, .p (.lst .deed l)), (6, .i (↑(List.length l) : Int)), (7, .i (k))], ck := [], kn := [2] }) := by
  intro n
  induction n with
  | zero => ?_
  | succ n ih => ?_
  all_goals
    intro k hn hk
    refine J.go (cfg := cfgBlock) cfgBlock_ok Tryz.func22 1000 (t := (.ite (decide ((↑k : Int) < (↑(List.length l) : Int))) (.need ((0 : Int) ≤ (↑k : Int) ∧ (↑k : Int) < (↑(List.length l) : Int)) (.ite (!deedOk { kind := Deed.kind (ETy.get .deed l k), name := Deed.name (ETy.get .deed l k), expr := Deed.expr (ETy.get .deed l k) }) (.ret (.p (.bool false)) []) (.stop [.code [1, 0, 1, 0, 0], .inLoop [1, 0, 1, 0, 0], .inBlock 0, .code [1, 1]] { n := 23, fr := [(0, .p (.lst .deed l)), (2, .p (.bool false)), (5, .p (.lst .deed l)), (6, .i (↑(List.length l) : Int)), (7, .i (IntKind.wrap .i64 ((↑k : Int) + (1 : Int))))], ck := [], kn := [2] }))) (.ret (.p (.bool (decide ((↑(List.length l) : Int) > (0 : Int)) && decide ((↑(List.length l) : Int) ≤ (8 : Int))))) []))) (by kernel_rfl) ?_
    refine ⟨fun hlt => ?_, fun hge => ?_⟩
    · have hk' : k < l.length := by have := of_decide_eq_true hlt; omega
      rw [drop_get (t := .deed) (l := l) hk']
      refine ⟨by omega, ?_⟩
      generalize ETy.get .deed l k = v
      rw [List.all_cons]
      refine ⟨fun hb => ⟨?_, rfl⟩, fun hb => ?_⟩
      · have hb' : deedOk v = false := nt hb
        rw [hb']; rfl
      · have hb' : deedOk v = true := nf hb
        rw [hb', Bool.true_and]; (rw [wrapK (maxLen_lt hk' hl)]; first | (exfalso; omega) | exact ih (k + 1) (by omega) (by omega))
    · rw [drop_end (l := l) (by have := of_decide_eq_false hge; omega)]
      exact ⟨rfl, rfl⟩
theorem ri_spec (l : List Deed) : Does Tryz.prog 22 [.l .deed (l)] [] (.x (.b (blockOk l))) [] := by
  refine Does.go (cfg := cfgBlock) cfgBlock_ok Tryz.func22 (by kernel_rfl) (by kernel_rfl) (t := (.stop [.code [1, 0, 1, 0, 0], .inLoop [1, 0, 1, 0, 0], .inBlock 0, .code [1, 1]] { n := 23, fr := [(0, .p (.lst .deed l)), (2, .p (.bool false)), (5, .p (.lst .deed l)), (6, .i (↑(List.length l) : Int)), (7, .i (0 : Int))], ck := [], kn := [2] })) (by kernel_rfl) fun Γ => ?_
  exact J.len 0 rfl fun hl => ri_loop l Γ hl l.length 0 (by omega) (by omega)
def eBlock : Nat × (List SX → List Chunk → Option (Option Prop × SV × List Chunk)) := (22, fun
  | [.c (.pd (.lst .deed l))], [] => some (none, .x (.c (.pd (.bool (blockOk l)))), [])
  | _, _ => none)
theorem eBlock_ok (vs : List SX) (ck : List Chunk) (p : Option Prop) (ret : SV) (ck' : List Chunk) (h : eBlock.2 vs ck = some (p, ret, ck')) (hp : Holds p) : Does Tryz.prog eBlock.1 vs ck ret ck' := by
  unfold eBlock at h
  simp only at h
  split at h
  · rename_i l
    simp only [Option.some.injEq, Prod.mk.injEq] at h
    obtain ⟨rfl, rfl, rfl⟩ := h
    exact ri_spec l
  · simp at h
end Go.Proofs.YtjndellhebidoaaGreatDoor

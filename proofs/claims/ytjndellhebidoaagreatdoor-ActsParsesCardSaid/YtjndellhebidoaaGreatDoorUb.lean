/- Contracts: actions that may be, values that fit. Conditions: none. Contracts: blocks done. Conditions: numbers are such. -/
import Derived.Test.YtjndellhebidoaaGreatDoorJf
import Derived.Test.YtjndellhebidoaaGreatDoorJd
import Derived.Test.YtjndellhebidoaaGreatDoorPX
import Derived.Test.YtjndellhebidoaaGreatDoorPZ
namespace Go.Proofs.YtjndellhebidoaaGreatDoor
open Go Go.Ev
set_option maxRecDepth 100000
theorem nt {b : Bool} (h : (!b) = true) : b = false := by cases b <;> simp_all
theorem nf {b : Bool} (h : (!b) = false) : b = true := by cases b <;> simp_all
/-! ### plain -/
def asksM (l : List Cell) : Bool := l.any fun c => c.op == 6
def plainM (l : List Cell) : Bool := rightM l && !asksM l
def raiseS : Str := [114, 97, 105, 115, 101, 58]
def sendS : Str := [115, 101, 110, 100, 58]
def deedOk (d : Deed) : Bool := bif d.kind == 1 then nameM d.name && plainM d.expr else bif d.kind == 2 || d.kind == 3 then eventM d.name && ((d.expr.length : Int) == 0) else false
def blockOk (l : List Deed) : Bool := l.all deedOk && (decide ((l.length : Int) > 0) && decide ((l.length : Int) ≤ 8))
def fitsM (v : Var) (x : Val) : Bool := v.kind == x.kind && (decide (x.a ≥ v.lo) && decide (x.a ≤ v.hi) && (x.kind != 3 || (decide (x.b ≥ v.lo) && decide (x.b ≤ v.hi))))
/-! ### the program's -/

theorem clone_spec (l : List Val) (h : room l.length 24) : Does Tryz.prog 28 [.l .val l] [] (.x (.c (.own 0))) [.own 49 .val l] := by
  refine Does.nilOwn Tryz.func28 (by kernel_rfl) (by kernel_rfl) fun Γ => ?_
  refine J.go (cfg := cfg0) cfg0_ok Tryz.func28 1000 (t := (.stop [.ops [1, 0, 0] 1, .code [1, 0, 1], .code [1, 1]] { n := 8, fr := [(0, .p (.lst .val l)), (2, .p (.v (Value.slice none 0 0))), (3, .p (.lst .val l))], ck := [] })) (by kernel_rfl) ?_
  refine J.isNil (d := 4) (s := 3) (t := .val) (l := l) (by kernel_rfl) rfl (fun h0 => ?_) ?_
  · refine J.go (cfg := cfg0) cfg0_ok Tryz.func28 1000 (t := (.ite true (.ret (.p (.v (Value.slice none 0 0))) []) (.need (room (List.length ([] ++ l)) 24) (.ret (.x (.c (.own 0))) [.own 49 .val ([] ++ l)])))) (by kernel_rfl) ?_
    exact ⟨fun _ => .inr ⟨h0, rfl, rfl⟩, fun h => Bool.noConfusion h⟩
  · refine J.go (cfg := cfg0) cfg0_ok Tryz.func28 1000 (t := (.ite false (.ret (.p (.v (Value.slice none 0 0))) []) (.need (room (List.length ([] ++ l)) 24) (.ret (.x (.c (.own 0))) [.own 49 .val ([] ++ l)])))) (by kernel_rfl) ?_
    exact ⟨fun h => Bool.noConfusion h, fun _ => ⟨h, .inl ⟨rfl, rfl⟩⟩⟩
def eClone : Nat × (List SX → List Chunk → Option (Option Prop × SV × List Chunk)) := (28, fun
  | [.c (.pd (.lst .val l))], [] => some (some (room l.length 24), .x (.c (.own 0)), [.own 49 .val l])
  | _, _ => none)
theorem eClone_ok (vs : List SX) (ck : List Chunk) (p : Option Prop) (ret : SV) (ck' : List Chunk) (h : eClone.2 vs ck = some (p, ret, ck')) (hp : Holds p) : Does Tryz.prog eClone.1 vs ck ret ck' := by
  unfold eClone at h
  simp only at h
  split at h
  · rename_i l
    simp only [Option.some.injEq, Prod.mk.injEq] at h
    obtain ⟨rfl, rfl, rfl⟩ := h
    exact clone_spec l hp
  · simp at h
theorem fits_spec (v : Var) (x : Val) : Does Tryz.prog 32 [.e .var v, .e .val x] [] (.x (.b (fitsM v x))) [] := by
  refine Does.go (cfg := cfg0) cfg0_ok Tryz.func32 (by kernel_rfl) (by kernel_rfl) (t := (.ite (Val.kind x == (3 : Int)) (.ret (.p (.bool (Var.kind v == Val.kind x && decide ((if Val.b x < Val.a x then Val.b x else Val.a x) ≥ Var.lo v) && decide ((if Val.b x > Val.a x then Val.b x else Val.a x) ≤ Var.hi v)))) []) (.ret (.p (.bool (Var.kind v == Val.kind x && decide (Val.a x ≥ Var.lo v) && decide (Val.a x ≤ Var.hi v)))) []))) (by kernel_rfl) fun Γ => ?_
  refine ⟨fun h => ⟨?_, rfl⟩, fun h => ⟨?_, rfl⟩⟩
  all_goals
    have e : fitsM v x = _ := rfl
    refine congrArg (fun b : Bool => SV.x (SX.b b)) ?_
    unfold fitsM
    have h' := h
    simp only [bne, h', Bool.not_true, Bool.not_false, Bool.false_or, Bool.true_or, Bool.and_true]
  · cases v.kind == x.kind <;> simp only [Bool.false_and, Bool.true_and]
    rw [Bool.eq_iff_iff]
    simp only [Bool.and_eq_true, decide_eq_true_eq]
    split <;> split <;> omega
  · rw [Bool.and_assoc]
def eFits : Nat × (List SX → List Chunk → Option (Option Prop × SV × List Chunk)) := (32, fun
  | [.agg [.pd (.str n), .pd (.int .i64 k), .pd (.int .i64 lo), .pd (.int .i64 hi), .pd (.int .i64 ik), .pd (.int .i64 ia), .pd (.int .i64 ib)], .agg [.pd (.int .i64 xk), .pd (.int .i64 xa), .pd (.int .i64 xb)]], [] => some (none, .x (.c (.pd (.bool (fitsM ⟨n, k, lo, hi, ⟨ik, ia, ib⟩⟩ ⟨xk, xa, xb⟩)))), [])
  | _, _ => none)
theorem eFits_ok (vs : List SX) (ck : List Chunk) (p : Option Prop) (ret : SV) (ck' : List Chunk) (h : eFits.2 vs ck = some (p, ret, ck')) (hp : Holds p) : Does Tryz.prog eFits.1 vs ck ret ck' := by
  unfold eFits at h
  simp only at h
  split at h
  · rename_i n k lo hi ik ia ib xk xa xb
    simp only [Option.some.injEq, Prod.mk.injEq] at h
    obtain ⟨rfl, rfl, rfl⟩ := h
    exact fits_spec ⟨n, k, lo, hi, ⟨ik, ia, ib⟩⟩ ⟨xk, xa, xb⟩
  · simp at h
theorem dofn_spec (v : Var) (d : Deed) : Does Tryz.prog 30 [.e .var v, .p (.ref .deed d 0)] [] (.x (.b (v.name == d.name))) [] := by
  refine Does.go (cfg := cfg0) cfg0_ok Tryz.func30 (by kernel_rfl) (by kernel_rfl) (t := (.ret (.p (.bool (Var.name v == Deed.name d))) [])) (by kernel_rfl) fun Γ => ⟨rfl, rfl⟩
def eDofn : Nat × (List SX → List Chunk → Option (Option Prop × SV × List Chunk)) := (30, fun
  | [.agg [.pd (.str a), .pd (.int .i64 b), .pd (.int .i64 d), .pd (.int .i64 e), .pd (.int .i64 f), .pd (.int .i64 g), .pd (.int .i64 h)], .c (.pd (.ref .deed c 0))], [] => some (none, .x (.c (.pd (.bool (a == c.name)))), [])
  | _, _ => none)
theorem eDofn_ok (vs : List SX) (ck : List Chunk) (p : Option Prop) (ret : SV) (ck' : List Chunk) (h : eDofn.2 vs ck = some (p, ret, ck')) (hp : Holds p) : Does Tryz.prog eDofn.1 vs ck ret ck' := by
  unfold eDofn at h
  simp only at h
  split at h
  · rename_i a b d e f g h c
    simp only [Option.some.injEq, Prod.mk.injEq] at h
    obtain ⟨rfl, rfl, rfl⟩ := h
    exact dofn_spec ⟨a, b, d, e, ⟨f, g, h⟩⟩ c
  · simp at h
def cfgDofn : Cfg := ⟨tys0, [eDofn]⟩
theorem cfgDofn_ok : TabOk Tryz.prog cfgDofn.tab := (TabOk.cons eDofn_ok TabOk.nil)

theorem ixd_loop (vs : List Var) (c : Deed) (Γ : Ctx) (hl : vs.length ≤ maxLen)  : ∀ (n k : Nat), vs.length - k ≤ n → k ≤ vs.length →
    J Tryz.prog 29 (bodyOf Tryz.f29) Γ (Eq2 (.x (.i (firstAt (fun v : Var => v.name == c.name) (vs.drop k) k))) []) [.code [1, 0, 1, 0, 0], .inLoop [1, 0, 1, 0, 0], .inBlock 0, .code [1, 1]] ({ n := 19, fr := [(0, .p (.lst .var vs)), (1, .x (.c (.fn (.func 30) [] [.pd (.ref .deed c 0)]))), (4, .i (0 : Int)), (7, .i (↑(List.length vs) : Int)), (8, .i (k))], ck := [] }) := by
  intro n
  induction n with
  | zero => ?_
  | succ n ih => ?_
  all_goals
    intro k hn hk
    refine J.go (cfg := cfgDofn) cfgDofn_ok Tryz.func29 1000 (t := (.ite (decide ((↑k : Int) < (↑(List.length vs) : Int))) (.need ((0 : Int) ≤ (↑k : Int) ∧ (↑k : Int) < (↑(List.length vs) : Int)) (.ite (Var.name (ETy.get .var vs k) == Deed.name c) (.ret (.i (↑k : Int)) []) (.stop [.code [1, 0, 1, 0, 0], .inLoop [1, 0, 1, 0, 0], .inBlock 0, .code [1, 1]] { n := 19, fr := [(0, .p (.lst .var vs)), (1, .x (.c (.fn (.func 30) [] [.pd (.ref .deed c 0)]))), (4, .i (0 : Int)), (7, .i (↑(List.length vs) : Int)), (8, .i (IntKind.wrap .i64 ((↑k : Int) + (1 : Int))))], ck := [] }))) (.ret (.i (-1 : Int)) []))) (by kernel_rfl) ?_
    refine ⟨fun hlt => ?_, fun hge => ?_⟩
    · have hk' : k < vs.length := by have := of_decide_eq_true hlt; omega
      rw [drop_get (t := .var) (l := vs) hk']
      refine ⟨by omega, ?_⟩
      generalize ETy.get .var vs k = v
      refine ⟨fun hb => ⟨?_, rfl⟩, fun hb => ?_⟩
      · simp only [firstAt, hb, cond_true]
      · simp only [firstAt, hb, cond_false]; (rw [wrapK (maxLen_lt hk' hl)]; first | (exfalso; omega) | exact ih (k + 1) (by omega) (by omega))
    · rw [drop_end (l := vs) (by have := of_decide_eq_false hge; omega)]
      exact ⟨rfl, rfl⟩
theorem ixd_spec (vs : List Var) (c : Deed) : Does Tryz.prog 29 [.l .var (vs), SX.c (SC.fn (Fn.func 30) [] [RC.pd (PD.ref ETy.deed c 0)])] [] (.x (.i (firstAt (fun v : Var => v.name == c.name) vs 0))) [] := by
  refine Does.go (cfg := cfgDofn) cfgDofn_ok Tryz.func29 (by kernel_rfl) (by kernel_rfl) (t := (.stop [.code [1, 0, 1, 0, 0], .inLoop [1, 0, 1, 0, 0], .inBlock 0, .code [1, 1]] { n := 19, fr := [(0, .p (.lst .var vs)), (1, .x (.c (.fn (.func 30) [] [.pd (.ref .deed c 0)]))), (4, .i (0 : Int)), (7, .i (↑(List.length vs) : Int)), (8, .i (0 : Int))], ck := [] })) (by kernel_rfl) fun Γ => ?_
  exact J.len 0 rfl fun hl => ixd_loop vs c Γ hl vs.length 0 (by omega) (by omega)
def eIxd : Nat × (List SX → List Chunk → Option (Option Prop × SV × List Chunk)) := (29, fun
  | [.c (.pd (.lst .var vs)), .c (.fn (.func 30) [] [.pd (.ref .deed c 0)])], [] => some (none, .x (.c (.pd (.int .i64 (firstAt (fun v : Var => v.name == c.name) vs 0)))), [])
  | _, _ => none)
theorem eIxd_ok (vs : List SX) (ck : List Chunk) (p : Option Prop) (ret : SV) (ck' : List Chunk) (h : eIxd.2 vs ck = some (p, ret, ck')) (hp : Holds p) : Does Tryz.prog eIxd.1 vs ck ret ck' := by
  unfold eIxd at h
  simp only at h
  split at h
  · rename_i vs c
    simp only [Option.some.injEq, Prod.mk.injEq] at h
    obtain ⟨rfl, rfl, rfl⟩ := h
    exact ixd_spec vs c
  · simp at h
theorem plfn_spec (c : Cell) : Does Tryz.prog 81 [.e .cell c] [] (.x (.b (c.op == 6))) [] := by
  refine Does.go (cfg := cfg0) cfg0_ok Tryz.func81 (by kernel_rfl) (by kernel_rfl) (t := (.ret (.p (.bool (Cell.op c == (6 : Int)))) [])) (by kernel_rfl) fun Γ => ⟨rfl, rfl⟩
def ePlfn : Nat × (List SX → List Chunk → Option (Option Prop × SV × List Chunk)) := (81, fun
  | [.agg [.pd (.int .i64 a), .pd (.int .i64 b), .pd (.str d)]], [] => some (none, .x (.c (.pd (.bool (a == 6)))), [])
  | _, _ => none)
theorem ePlfn_ok (vs : List SX) (ck : List Chunk) (p : Option Prop) (ret : SV) (ck' : List Chunk) (h : ePlfn.2 vs ck = some (p, ret, ck')) (hp : Holds p) : Does Tryz.prog ePlfn.1 vs ck ret ck' := by
  unfold ePlfn at h
  simp only at h
  split at h
  · rename_i a b d
    simp only [Option.some.injEq, Prod.mk.injEq] at h
    obtain ⟨rfl, rfl, rfl⟩ := h
    exact plfn_spec ⟨a, b, d⟩
  · simp at h
def cfgPlfn : Cfg := ⟨tys0, [ePlfn]⟩
theorem cfgPlfn_ok : TabOk Tryz.prog cfgPlfn.tab := (TabOk.cons ePlfn_ok TabOk.nil)

theorem ixc_loop (l : List Cell) (Γ : Ctx) (hl : l.length ≤ maxLen)  : ∀ (n k : Nat), l.length - k ≤ n → k ≤ l.length →
    J Tryz.prog 114 (bodyOf Tryz.f114) Γ (Eq2 (.x (.i (firstAt (fun c : Cell => c.op == 6) (l.drop k) k))) []) [.code [1, 0, 1, 0, 0], .inLoop [1, 0, 1, 0, 0], .inBlock 0, .code [1, 1]] ({ n := 19, fr := [(0, .p (.lst .cell l)), (1, .x (.c (.fn (.func 81) [] []))), (4, .i (0 : Int)), (7, .i (↑(List.length l) : Int)), (8, .i (k))], ck := [] }) := by
  intro n
  induction n with
  | zero => ?_
  | succ n ih => ?_
  all_goals
    intro k hn hk
    refine J.go (cfg := cfgPlfn) cfgPlfn_ok Tryz.func114 1000 (t := (.ite (decide ((↑k : Int) < (↑(List.length l) : Int))) (.need ((0 : Int) ≤ (↑k : Int) ∧ (↑k : Int) < (↑(List.length l) : Int)) (.ite (Cell.op (ETy.get .cell l k) == (6 : Int)) (.ret (.i (↑k : Int)) []) (.stop [.code [1, 0, 1, 0, 0], .inLoop [1, 0, 1, 0, 0], .inBlock 0, .code [1, 1]] { n := 19, fr := [(0, .p (.lst .cell l)), (1, .x (.c (.fn (.func 81) [] []))), (4, .i (0 : Int)), (7, .i (↑(List.length l) : Int)), (8, .i (IntKind.wrap .i64 ((↑k : Int) + (1 : Int))))], ck := [] }))) (.ret (.i (-1 : Int)) []))) (by kernel_rfl) ?_
    refine ⟨fun hlt => ?_, fun hge => ?_⟩
    · have hk' : k < l.length := by have := of_decide_eq_true hlt; omega
      rw [drop_get (t := .cell) (l := l) hk']
      refine ⟨by omega, ?_⟩
      generalize ETy.get .cell l k = v
      refine ⟨fun hb => ⟨?_, rfl⟩, fun hb => ?_⟩
      · simp only [firstAt, hb, cond_true]
      · simp only [firstAt, hb, cond_false]; (rw [wrapK (maxLen_lt hk' hl)]; first | (exfalso; omega) | exact ih (k + 1) (by omega) (by omega))
    · rw [drop_end (l := l) (by have := of_decide_eq_false hge; omega)]
      exact ⟨rfl, rfl⟩
theorem ixc_spec (l : List Cell) : Does Tryz.prog 114 [.l .cell (l), SX.c (SC.fn (Fn.func 81) [] [])] [] (.x (.i (firstAt (fun c : Cell => c.op == 6) l 0))) [] := by
  refine Does.go (cfg := cfgPlfn) cfgPlfn_ok Tryz.func114 (by kernel_rfl) (by kernel_rfl) (t := (.stop [.code [1, 0, 1, 0, 0], .inLoop [1, 0, 1, 0, 0], .inBlock 0, .code [1, 1]] { n := 19, fr := [(0, .p (.lst .cell l)), (1, .x (.c (.fn (.func 81) [] []))), (4, .i (0 : Int)), (7, .i (↑(List.length l) : Int)), (8, .i (0 : Int))], ck := [] })) (by kernel_rfl) fun Γ => ?_
  exact J.len 0 rfl fun hl => ixc_loop l Γ hl l.length 0 (by omega) (by omega)
def eIxc : Nat × (List SX → List Chunk → Option (Option Prop × SV × List Chunk)) := (114, fun
  | [.c (.pd (.lst .cell l)), .c (.fn (.func 81) [] [])], [] => some (none, .x (.c (.pd (.int .i64 (firstAt (fun c : Cell => c.op == 6) l 0)))), [])
  | _, _ => none)
theorem eIxc_ok (vs : List SX) (ck : List Chunk) (p : Option Prop) (ret : SV) (ck' : List Chunk) (h : eIxc.2 vs ck = some (p, ret, ck')) (hp : Holds p) : Does Tryz.prog eIxc.1 vs ck ret ck' := by
  unfold eIxc at h
  simp only at h
  split at h
  · rename_i l
    simp only [Option.some.injEq, Prod.mk.injEq] at h
    obtain ⟨rfl, rfl, rfl⟩ := h
    exact ixc_spec l
  · simp at h
def cfgIxc : Cfg := ⟨tys0, [eIxc]⟩
theorem cfgIxc_ok : TabOk Tryz.prog cfgIxc.tab := (TabOk.cons eIxc_ok TabOk.nil)
theorem cfc_spec (l : List Cell) : Does Tryz.prog 80 [.l .cell l, .c (.fn (.func 81) [] [])] [] (.x (.b (asksM l))) [] := by
  refine Does.go (cfg := cfgIxc) cfgIxc_ok Tryz.func80 (by kernel_rfl) (by kernel_rfl) (t := (.ret (.p (.bool (decide (firstAt (fun c => Cell.op c == (6 : Int)) l (0 : Int) ≥ (0 : Int))))) [])) (by kernel_rfl) fun Γ => ⟨?_, rfl⟩
  rw [firstAt_any _ _ _ (by omega)]; rfl
def eCfc : Nat × (List SX → List Chunk → Option (Option Prop × SV × List Chunk)) := (80, fun
  | [.c (.pd (.lst .cell l)), .c (.fn (.func 81) [] [])], [] => some (none, .x (.c (.pd (.bool (asksM l)))), [])
  | _, _ => none)
theorem eCfc_ok (vs : List SX) (ck : List Chunk) (p : Option Prop) (ret : SV) (ck' : List Chunk) (h : eCfc.2 vs ck = some (p, ret, ck')) (hp : Holds p) : Does Tryz.prog eCfc.1 vs ck ret ck' := by
  unfold eCfc at h
  simp only at h
  split at h
  · rename_i l
    simp only [Option.some.injEq, Prod.mk.injEq] at h
    obtain ⟨rfl, rfl, rfl⟩ := h
    exact cfc_spec l
  · simp at h
def cfgPlain : Cfg := ⟨tys0, [eRight, eCfc]⟩
theorem cfgPlain_ok : TabOk Tryz.prog cfgPlain.tab := (TabOk.cons eRight_ok (TabOk.cons eCfc_ok TabOk.nil))
theorem plainA_spec (l : List Cell) : Does Tryz.prog 46 [.l .cell l] [] (.x (.b (plainM l))) [] := by
  refine Does.go (cfg := cfgPlain) cfgPlain_ok Tryz.func46 (by kernel_rfl) (by kernel_rfl) (t := (.ret (.p (.bool (rightM l && !asksM l))) [])) (by kernel_rfl) fun Γ => ?_
  exact ⟨rfl, rfl⟩
def ePlainA : Nat × (List SX → List Chunk → Option (Option Prop × SV × List Chunk)) := (46, fun
  | [.c (.pd (.lst .cell l))], [] => some (none, .x (.c (.pd (.bool (plainM l)))), [])
  | _, _ => none)
theorem ePlainA_ok (vs : List SX) (ck : List Chunk) (p : Option Prop) (ret : SV) (ck' : List Chunk) (h : ePlainA.2 vs ck = some (p, ret, ck')) (hp : Holds p) : Does Tryz.prog ePlainA.1 vs ck ret ck' := by
  unfold ePlainA at h
  simp only at h
  split at h
  · rename_i l
    simp only [Option.some.injEq, Prod.mk.injEq] at h
    obtain ⟨rfl, rfl, rfl⟩ := h
    exact plainA_spec l
  · simp at h
end Go.Proofs.YtjndellhebidoaaGreatDoor
namespace Go.Proofs.YtjndellhebidoaaGreatDoor
open Go Go.Ev
set_option maxRecDepth 100000
def ixV (vs : List Var) (s : Str) : Int := firstAt (fun v : Var => v.name == s) vs 0
def setOk (vs : List Var) (cur : List Val) (d : Deed) : Bool :=
  decide (ixV vs d.name ≥ 0) && (evalM d.expr vs cur []).2 == 0 && fitsM (ETy.get .var vs (ixV vs d.name).toNat) (evalM d.expr vs cur []).1
def errS : Str := [101, 114, 114, 111, 114]
def doGo (vs : List Var) : List Deed → List Val → List Str → List Str → List Val × List Str × List Str × Bool
  | [], cur, rs, ss => (cur, rs, ss, true)
  | d :: r, cur, rs, ss => bif d.kind == 2 then doGo vs r cur (rs ++ [d.name]) ss else bif d.kind == 3 then doGo vs r cur rs (ss ++ [d.name])
    else bif d.kind == 1 then (bif setOk vs cur d then doGo vs r (cur.set (ixV vs d.name).toNat (evalM d.expr vs cur []).1) rs ss else (cur, rs ++ [errS], ss, false)) else (cur, rs ++ [errS], ss, false)
def doM (l : List Deed) (vs : List Var) (vals : List Val) : List Val × List Str × List Str × Bool := doGo vs l vals [] []
theorem evalM_zero {l : List Cell} {vs : List Var} {vals : List Val} {act : List Str} (hv : ∀ v ∈ vals, i64 v.a = true) (h : (evalM l vs vals act).2 = 0) : vs.length = vals.length ∧ i64 (evalM l vs vals act).1.a = true := by
  cases hr : rightM l
  · exfalso; simp [evalM, hr] at h
  · cases hw : worldBad vs vals
    · obtain ⟨hlen, hall⟩ := world_vals hw
      have hv2 : ∀ v ∈ vals, vOk v = true := fun v hx => by simp [vOk, hall v hx, hv v hx]
      obtain ⟨h32, t, ht, hq⟩ := right_tm hr
      have hk : evalM l vs vals act = t.val vs vals act := by rw [← hq]; exact eval_flat vs vals act ht (by rw [hq]; exact h32) hw
      rw [hk] at h ⊢
      exact ⟨hlen, (vOk_iff.1 (Tm.val_ok act hlen hv2 t ht h)).2⟩
    · exfalso; simp [evalM, hr, hw] at h
theorem ixV_lt (vs : List Var) (s : Str) (h : ixV vs s ≥ 0) : ixV vs s < vs.length := by
  rcases firstAt_find (fun v : Var => v.name == s) vs 0 with ⟨h1, _⟩ | ⟨k, x, h1, h2, _⟩
  · have : ixV vs s = -1 := h1
    omega
  · have : ixV vs s = ((0 + k : Nat) : Int) := h1
    have := (List.getElem?_eq_some_iff.1 h2).1
    omega
theorem setOk_parts {vs : List Var} {cur : List Val} {d : Deed} (hv : ∀ v ∈ cur, i64 v.a = true) (h : setOk vs cur d = true) :
    0 ≤ ixV vs d.name ∧ ixV vs d.name < (vs.length : Int) ∧ vs.length = cur.length ∧ i64 (evalM d.expr vs cur []).1.a = true := by
  simp only [setOk, Bool.and_eq_true, decide_eq_true_eq, beq_iff_eq] at h
  have h1 := evalM_zero hv h.1.2
  exact ⟨h.1.1, ixV_lt vs d.name h.1.1, h1.1, h1.2⟩
theorem set_i64 {cur : List Val} (hv : ∀ v ∈ cur, i64 v.a = true) {i : Nat} {x : Val} (hx : i64 x.a = true) : ∀ v ∈ cur.set i x, i64 v.a = true := by
  intro v hm
  rcases List.mem_or_eq_of_mem_set hm with h | rfl
  · exact hv v h
  · exact hx
def cfgDo0 : Cfg := ⟨tys0, [eClone]⟩
theorem cfgDo0_ok : TabOk Tryz.prog cfgDo0.tab := (TabOk.cons eClone_ok TabOk.nil)
def cfgDo : Cfg := ⟨tys0, [eIxd, eEval, eFits]⟩
theorem cfgDo_ok : TabOk Tryz.prog cfgDo.tab := (TabOk.cons eIxd_ok (TabOk.cons eEval_ok (TabOk.cons eFits_ok TabOk.nil)))

def didOut (r : List Val × List Str × List Str × Bool) : Out := fun v c => ∃ m, permV 0 m v c = some (SV.tup [.c (.own 0), .c (.own 1), .c (.own 2), .b r.2.2.2], [.own 49 .val r.1, .own 9 .str r.2.1, .own 9 .str r.2.2.1])
theorem room_few {n : Nat} (h : n ≤ 1000001) : room n 16 := by unfold room maxLen; omega
theorem do_loop (l : List Deed) (vs : List Var) (vals : List Val) (Γ : Ctx) (hl : l.length ≤ 1000000) : ∀ (n k : Nat) (cur : List Val) (rs ss : List Str), l.length - k ≤ n → k ≤ l.length → (∀ v ∈ cur, i64 v.a = true) → rs.length + ss.length ≤ k →
    J Tryz.prog 14 (bodyOf Tryz.f14) Γ (didOut (doGo vs (l.drop k) cur rs ss)) [.code [1, 0, 1, 1, 1, 1, 0, 1, 0, 0], .inLoop [1, 0, 1, 1, 1, 1, 0, 1, 0, 0], .inBlock 0, .code [1, 0, 1, 1, 1, 1, 1], .inScope [1, 0]] ({ n := 82, fr := [(0, .p (.lst .deed l)), (1, .p (.lst .var vs)), (2, .p (.lst .val vals)), (6, .p (.v (Value.slice none 0 0))), (7, .p (.v (Value.slice none 0 0))), (8, .p (.v (Value.slice none 0 0))), (9, .p (.bool false)), (10, .x (.c (.own 0))), (11, .x (.c (.own 1))), (12, .x (.c (.own 2))), (13, .p (.bool true)), (21, .p (.lst .deed l)), (22, .i (↑(List.length l) : Int)), (23, .i (k))], ck := [.own 49 .val cur, .own 9 .str rs, .own 9 .str ss], kn := [13, 9] }) := by
  intro n
  induction n with
  | zero => ?_
  | succ n ih => ?_
  all_goals
    intro k cur rs ss hn hk hv hrs
    refine J.go (cfg := cfgDo) cfgDo_ok Tryz.func14 1000 (t := (.ite (decide ((↑k : Int) < (↑(List.length l) : Int))) (.need ((0 : Int) ≤ (↑k : Int) ∧ (↑k : Int) < (↑(List.length l) : Int)) (.ite (Deed.kind (ETy.get .deed l k) == (2 : Int)) (.need (room (List.length (rs ++ [Deed.name (ETy.get .deed l k)])) 16) (.stop [.code [1, 0, 1, 1, 1, 1, 0, 1, 0, 0], .inLoop [1, 0, 1, 1, 1, 1, 0, 1, 0, 0], .inBlock 0, .code [1, 0, 1, 1, 1, 1, 1], .inScope [1, 0]] { n := 82, fr := [(0, .p (.lst .deed l)), (1, .p (.lst .var vs)), (2, .p (.lst .val vals)), (6, .p (.v (Value.slice none 0 0))), (7, .p (.v (Value.slice none 0 0))), (8, .p (.v (Value.slice none 0 0))), (9, .p (.bool false)), (10, .x (.c (.own 0))), (11, .x (.c (.own 2))), (12, .x (.c (.own 1))), (13, .p (.bool true)), (21, .p (.lst .deed l)), (22, .i (↑(List.length l) : Int)), (23, .i (IntKind.wrap .i64 ((↑k : Int) + (1 : Int))))], ck := [.own 49 .val cur, .own 9 .str ss, .own 9 .str (rs ++ [Deed.name (ETy.get .deed l k)])], kn := [13, 9] })) (.ite (Deed.kind (ETy.get .deed l k) == (3 : Int)) (.need (room (List.length (ss ++ [Deed.name (ETy.get .deed l k)])) 16) (.stop [.code [1, 0, 1, 1, 1, 1, 0, 1, 0, 0], .inLoop [1, 0, 1, 1, 1, 1, 0, 1, 0, 0], .inBlock 0, .code [1, 0, 1, 1, 1, 1, 1], .inScope [1, 0]] { n := 82, fr := [(0, .p (.lst .deed l)), (1, .p (.lst .var vs)), (2, .p (.lst .val vals)), (6, .p (.v (Value.slice none 0 0))), (7, .p (.v (Value.slice none 0 0))), (8, .p (.v (Value.slice none 0 0))), (9, .p (.bool false)), (10, .x (.c (.own 0))), (11, .x (.c (.own 1))), (12, .x (.c (.own 2))), (13, .p (.bool true)), (21, .p (.lst .deed l)), (22, .i (↑(List.length l) : Int)), (23, .i (IntKind.wrap .i64 ((↑k : Int) + (1 : Int))))], ck := [.own 49 .val cur, .own 9 .str rs, .own 9 .str (ss ++ [Deed.name (ETy.get .deed l k)])], kn := [13, 9] })) (.ite (Deed.kind (ETy.get .deed l k) == (1 : Int)) (.need (∀ (v : ETy.den .val), v ∈ cur → i64 (Val.a v) = true) (.need (Prod.snd (Prod.snd (Prod.snd (6, 62, true, onBy true (decide (firstAt (fun v => Var.name v == Deed.name { kind := Deed.kind (ETy.get .deed l k), name := Deed.name (ETy.get .deed l k), expr := Deed.expr (ETy.get .deed l k) }) vs (0 : Int) ≥ (0 : Int)) && Prod.snd (evalM (Deed.expr (ETy.get .deed l k)) vs cur []) == (0 : Int)) none))) → (0 : Int) ≤ firstAt (fun v => Var.name v == Deed.name { kind := Deed.kind (ETy.get .deed l k), name := Deed.name (ETy.get .deed l k), expr := Deed.expr (ETy.get .deed l k) }) vs (0 : Int) ∧ firstAt (fun v => Var.name v == Deed.name { kind := Deed.kind (ETy.get .deed l k), name := Deed.name (ETy.get .deed l k), expr := Deed.expr (ETy.get .deed l k) }) vs (0 : Int) < (↑(List.length vs) : Int)) (.ite (decide (firstAt (fun v => Var.name v == Deed.name { kind := Deed.kind (ETy.get .deed l k), name := Deed.name (ETy.get .deed l k), expr := Deed.expr (ETy.get .deed l k) }) vs (0 : Int) ≥ (0 : Int)) && Prod.snd (evalM (Deed.expr (ETy.get .deed l k)) vs cur []) == (0 : Int) && fitsM { name := Var.name (ETy.get .var vs (Int.toNat (firstAt (fun v => Var.name v == Deed.name { kind := Deed.kind (ETy.get .deed l k), name := Deed.name (ETy.get .deed l k), expr := Deed.expr (ETy.get .deed l k) }) vs (0 : Int)))), kind := Var.kind (ETy.get .var vs (Int.toNat (firstAt (fun v => Var.name v == Deed.name { kind := Deed.kind (ETy.get .deed l k), name := Deed.name (ETy.get .deed l k), expr := Deed.expr (ETy.get .deed l k) }) vs (0 : Int)))), lo := Var.lo (ETy.get .var vs (Int.toNat (firstAt (fun v => Var.name v == Deed.name { kind := Deed.kind (ETy.get .deed l k), name := Deed.name (ETy.get .deed l k), expr := Deed.expr (ETy.get .deed l k) }) vs (0 : Int)))), hi := Var.hi (ETy.get .var vs (Int.toNat (firstAt (fun v => Var.name v == Deed.name { kind := Deed.kind (ETy.get .deed l k), name := Deed.name (ETy.get .deed l k), expr := Deed.expr (ETy.get .deed l k) }) vs (0 : Int)))), init := { kind := Val.kind (Var.init (ETy.get .var vs (Int.toNat (firstAt (fun v => Var.name v == Deed.name { kind := Deed.kind (ETy.get .deed l k), name := Deed.name (ETy.get .deed l k), expr := Deed.expr (ETy.get .deed l k) }) vs (0 : Int))))), a := Val.a (Var.init (ETy.get .var vs (Int.toNat (firstAt (fun v => Var.name v == Deed.name { kind := Deed.kind (ETy.get .deed l k), name := Deed.name (ETy.get .deed l k), expr := Deed.expr (ETy.get .deed l k) }) vs (0 : Int))))), b := Val.b (Var.init (ETy.get .var vs (Int.toNat (firstAt (fun v => Var.name v == Deed.name { kind := Deed.kind (ETy.get .deed l k), name := Deed.name (ETy.get .deed l k), expr := Deed.expr (ETy.get .deed l k) }) vs (0 : Int))))) } } { kind := Val.kind (Prod.fst (evalM (Deed.expr (ETy.get .deed l k)) vs cur [])), a := Val.a (Prod.fst (evalM (Deed.expr (ETy.get .deed l k)) vs cur [])), b := Val.b (Prod.fst (evalM (Deed.expr (ETy.get .deed l k)) vs cur [])) }) (.need ((0 : Int) ≤ firstAt (fun v => Var.name v == Deed.name { kind := Deed.kind (ETy.get .deed l k), name := Deed.name (ETy.get .deed l k), expr := Deed.expr (ETy.get .deed l k) }) vs (0 : Int) ∧ firstAt (fun v => Var.name v == Deed.name { kind := Deed.kind (ETy.get .deed l k), name := Deed.name (ETy.get .deed l k), expr := Deed.expr (ETy.get .deed l k) }) vs (0 : Int) < (↑(List.length cur) : Int)) (.need (Int.toNat (firstAt (fun v => Var.name v == Deed.name { kind := Deed.kind (ETy.get .deed l k), name := Deed.name (ETy.get .deed l k), expr := Deed.expr (ETy.get .deed l k) }) vs (0 : Int)) < List.length cur) (.stop [.code [1, 0, 1, 1, 1, 1, 0, 1, 0, 0], .inLoop [1, 0, 1, 1, 1, 1, 0, 1, 0, 0], .inBlock 0, .code [1, 0, 1, 1, 1, 1, 1], .inScope [1, 0]] { n := 82, fr := [(0, .p (.lst .deed l)), (1, .p (.lst .var vs)), (2, .p (.lst .val vals)), (6, .p (.v (Value.slice none 0 0))), (7, .p (.v (Value.slice none 0 0))), (8, .p (.v (Value.slice none 0 0))), (9, .p (.bool false)), (10, .x (.c (.own 0))), (11, .x (.c (.own 1))), (12, .x (.c (.own 2))), (13, .p (.bool true)), (21, .p (.lst .deed l)), (22, .i (↑(List.length l) : Int)), (23, .i (IntKind.wrap .i64 ((↑k : Int) + (1 : Int))))], ck := [.own 49 .val (List.set cur (Int.toNat (firstAt (fun v => Var.name v == Deed.name { kind := Deed.kind (ETy.get .deed l k), name := Deed.name (ETy.get .deed l k), expr := Deed.expr (ETy.get .deed l k) }) vs (0 : Int))) { kind := Val.kind (Prod.fst (evalM (Deed.expr (ETy.get .deed l k)) vs cur [])), a := Val.a (Prod.fst (evalM (Deed.expr (ETy.get .deed l k)) vs cur [])), b := Val.b (Prod.fst (evalM (Deed.expr (ETy.get .deed l k)) vs cur [])) }), .own 9 .str rs, .own 9 .str ss] }))) (.need (room (List.length (rs ++ [[(101 : UInt8), 114, 114, 111, 114]])) 16) (.ret (.tup [.c (.own 0), .c (.own 2), .c (.own 1), .p (.bool false)]) [.own 49 .val cur, .own 9 .str ss, .own 9 .str (rs ++ [[(101 : UInt8), 114, 114, 111, 114]])]))))) (.need (room (List.length (rs ++ [[(101 : UInt8), 114, 114, 111, 114]])) 16) (.ret (.tup [.c (.own 0), .c (.own 2), .c (.own 1), .p (.bool false)]) [.own 49 .val cur, .own 9 .str ss, .own 9 .str (rs ++ [[(101 : UInt8), 114, 114, 111, 114]])])))))) (.ret (.tup [.c (.own 0), .c (.own 1), .c (.own 2), .p (.bool true)]) [.own 49 .val cur, .own 9 .str rs, .own 9 .str ss]))) (by kernel_rfl) ?_
    refine ⟨fun hlt => ?_, fun hge => ?_⟩
    · have hk' : k < l.length := by have := of_decide_eq_true hlt; omega
      rw [drop_get (t := .deed) hk']
      refine ⟨by omega, ?_⟩
      generalize ETy.get .deed l k = d
      have hw : IntKind.wrap .i64 ((k : Int) + 1) = ((k + 1 : Nat) : Int) := wrapK (by omega)
      rw [hw]
      refine ⟨fun h2 => ⟨room_few (by simp; omega), ?_⟩, fun h2 => ⟨fun h3 => ⟨room_few (by simp; omega), ?_⟩, fun h3 => ⟨fun h1 => ⟨hv, fun hx => ?_, fun h => ?_, fun h => ?_⟩, fun h1 => ⟨room_few (by simp; omega), ?_⟩⟩⟩⟩
      · rw [doGo, h2, cond_true]
        first
        | (exfalso; omega)
        | exact J.perm [0, 2, 1] rfl (ih (k + 1) cur (rs ++ [d.name]) ss (by omega) (by omega) hv (by simp; omega))
      · rw [doGo, h2, h3, cond_false, cond_true]
        first
        | (exfalso; omega)
        | exact ih (k + 1) cur rs (ss ++ [d.name]) (by omega) (by omega) hv (by simp; omega)
      · have hx' : (decide (ixV vs d.name ≥ 0) && (evalM d.expr vs cur []).2 == 0) = true := hx
        simp only [Bool.and_eq_true, decide_eq_true_eq] at hx'
        exact ⟨hx'.1, ixV_lt vs d.name hx'.1⟩
      · have hs : setOk vs cur d = true := h
        obtain ⟨g1, g2, g3, g4⟩ := setOk_parts hv hs
        refine ⟨⟨g1, by rw [← g3]; exact g2⟩, by rw [← g3]; exact (by omega : (ixV vs d.name).toNat < vs.length), ?_⟩
        rw [doGo, h2, h3, h1, hs, cond_false, cond_false, cond_true, cond_true]
        first
        | (exfalso; omega)
        | exact J.kn [13, 9] (ih (k + 1) (cur.set (ixV vs d.name).toNat (evalM d.expr vs cur []).1) rs ss (by omega) (by omega) (set_i64 hv g4) (by omega))
      · have hs : setOk vs cur d = false := h
        refine ⟨room_few (by simp; omega), ?_⟩
        rw [doGo, h2, h3, h1, hs]
        exact ⟨[0, 2, 1], rfl⟩
      · rw [doGo, h2, h3, h1]
        exact ⟨[0, 2, 1], rfl⟩
    · rw [drop_end (l := l) (by have := of_decide_eq_false hge; omega)]
      exact ⟨[0, 1, 2], rfl⟩
theorem do_spec (l : List Deed) (vs : List Var) (vals : List Val) (hl : l.length ≤ 1000000) (hr : room vals.length 24) (hv : ∀ v ∈ vals, i64 v.a = true) :
    Does Tryz.prog 14 [.l .deed l, .l .var vs, .l .val vals] [] (.tup [.c (.own 0), .c (.own 1), .c (.own 2), .b (doM l vs vals).2.2.2]) [.own 49 .val (doM l vs vals).1, .own 9 .str (doM l vs vals).2.1, .own 9 .str (doM l vs vals).2.2.1] := by
  refine Does.perm Tryz.func14 (by kernel_rfl) (by kernel_rfl) fun Γ => ?_
  refine J.go (cfg := cfgDo0) cfgDo0_ok Tryz.func14 1000 (t := (.need (room (List.length vals) 24) (.stop [.code [1, 0, 1, 1, 1, 1, 0, 1, 0, 0], .inLoop [1, 0, 1, 1, 1, 1, 0, 1, 0, 0], .inBlock 0, .code [1, 0, 1, 1, 1, 1, 1], .inScope [1, 0]] { n := 82, fr := [(0, .p (.lst .deed l)), (1, .p (.lst .var vs)), (2, .p (.lst .val vals)), (6, .p (.v (Value.slice none 0 0))), (7, .p (.v (Value.slice none 0 0))), (8, .p (.v (Value.slice none 0 0))), (9, .p (.bool false)), (10, .x (.c (.own 0))), (11, .p (.v (Value.slice none 0 0))), (12, .p (.v (Value.slice none 0 0))), (13, .p (.bool true)), (21, .p (.lst .deed l)), (22, .i (↑(List.length l) : Int)), (23, .i (0 : Int))], ck := [.own 49 .val vals], kn := [13, 9] }))) (by kernel_rfl) ?_
  refine ⟨hr, ?_⟩
  refine J.nilOwn 11 9 .str rfl (by kernel_rfl) ?_
  refine J.nilOwn 12 9 .str rfl (by kernel_rfl) ?_
  exact do_loop l vs vals Γ hl l.length 0 vals [] [] (by omega) (by omega) hv (by simp)
end Go.Proofs.YtjndellhebidoaaGreatDoor

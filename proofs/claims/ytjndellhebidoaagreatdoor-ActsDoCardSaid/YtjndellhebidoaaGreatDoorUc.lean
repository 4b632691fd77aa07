/- Contracts: the document's blocks done. Conditions: numbers are such. -/
import Derived.Test.YtjndellhebidoaaGreatDoorUb
namespace Go.Proofs.YtjndellhebidoaaGreatDoor
open Go Go.Ev
set_option maxRecDepth 100000
theorem rfits_spec (v : Var) (x : Val) : Does Tryz.prog 19 [.e .var v, .e .val x] [] (.x (.b (fitsM v x))) [] := by
  refine Does.go (cfg := cfg0) cfg0_ok Tryz.func19 (by kernel_rfl) (by kernel_rfl) (t := (.ite (Var.kind v != Val.kind x || decide (Val.a x < Var.lo v) || decide (Val.a x > Var.hi v)) (.ret (.p (.bool false)) []) (.ret (.p (.bool (Val.kind x != (3 : Int) || decide (Val.b x ≥ Var.lo v) && decide (Val.b x ≤ Var.hi v)))) []))) (by kernel_rfl) fun Γ => ?_
  have e : ∀ b : Bool, b = fitsM v x → Eq2 (.x (.b (fitsM v x))) [] (SV.x (SX.c (SC.pd (PD.bool b)))) [] := fun b h => by rw [h]; exact ⟨rfl, rfl⟩
  refine ⟨fun h => e _ ?_, fun h => e _ ?_⟩
  · unfold fitsM
    simp only [Bool.or_eq_true, bne_iff_ne, decide_eq_true_eq] at h
    symm
    cases hb : (v.kind == x.kind && (decide (x.a ≥ v.lo) && decide (x.a ≤ v.hi) && (x.kind != 3 || (decide (x.b ≥ v.lo) && decide (x.b ≤ v.hi)))))
    · rfl
    · simp only [Bool.and_eq_true, beq_iff_eq, decide_eq_true_eq] at hb
      omega
  · unfold fitsM
    simp only [Bool.or_eq_false_iff, bne_eq_false_iff_eq, decide_eq_false_iff_not] at h
    rw [show (v.kind == x.kind) = true by simpa using h.1.1, show decide (x.a ≥ v.lo) = true by simpa using h.1.2, show decide (x.a ≤ v.hi) = true by simpa using h.2]
    rfl
def eRfits : Nat × (List SX → List Chunk → Option (Option Prop × SV × List Chunk)) := (19, fun
  | [.agg [.pd (.str n), .pd (.int .i64 k), .pd (.int .i64 lo), .pd (.int .i64 hi), .pd (.int .i64 ik), .pd (.int .i64 ia), .pd (.int .i64 ib)], .agg [.pd (.int .i64 xk), .pd (.int .i64 xa), .pd (.int .i64 xb)]], [] => some (none, .x (.c (.pd (.bool (fitsM ⟨n, k, lo, hi, ⟨ik, ia, ib⟩⟩ ⟨xk, xa, xb⟩)))), [])
  | _, _ => none)
theorem eRfits_ok (vs : List SX) (ck : List Chunk) (p : Option Prop) (ret : SV) (ck' : List Chunk) (h : eRfits.2 vs ck = some (p, ret, ck')) (hp : Holds p) : Does Tryz.prog eRfits.1 vs ck ret ck' := by
  unfold eRfits at h
  simp only at h
  split at h
  · rename_i n k lo hi ik ia ib xk xa xb
    simp only [Option.some.injEq, Prod.mk.injEq] at h
    obtain ⟨rfl, rfl, rfl⟩ := h
    exact rfits_spec ⟨n, k, lo, hi, ⟨ik, ia, ib⟩⟩ ⟨xk, xa, xb⟩
  · simp at h
def sameVal (x y : Val) : Bool := x.kind == y.kind && (x.a == y.a && x.b == y.b)
def sameVals : List Val → List Val → Bool
  | [], [] => true
  | x :: r, y :: q => sameVal x y && sameVals r q
  | _, _ => false
theorem sameVals_self : ∀ l : List Val, sameVals l l = true
  | [] => rfl
  | x :: r => by simp [sameVals, sameVal, sameVals_self r]
theorem sameVals_len : ∀ a b : List Val, a.length ≠ b.length → sameVals a b = false
  | [], [], h => absurd rfl h
  | [], _ :: _, _ => rfl
  | _ :: _, [], _ => rfl
  | x :: r, y :: q, h => by rw [sameVals, sameVals_len r q (fun e => h (by simp [e])), Bool.and_false]

theorem sv_loop (a b : List Val) (Γ : Ctx) (hl : a.length ≤ maxLen) (hab : a.length = b.length) : ∀ (n k : Nat), a.length - k ≤ n → k ≤ a.length →
    J Tryz.prog 17 (bodyOf Tryz.f17) Γ (Eq2 (.x (.b (sameVals (a.drop k) (b.drop k)))) []) [.code [1, 1, 0, 1, 0, 0], .inLoop [1, 1, 0, 1, 0, 0], .inBlock 0, .code [1, 1, 1]] ({ n := 26, fr := [(0, .p (.lst .val a)), (1, .p (.lst .val b)), (4, .p (.bool false)), (5, .i (k))], ck := [], kn := [4] }) := by
  intro n
  induction n with
  | zero => ?_
  | succ n ih => ?_
  all_goals
    intro k hn hk
    refine J.go (cfg := cfg0) cfg0_ok Tryz.func17 1000 (t := (.ite (decide ((↑k : Int) < (↑(List.length a) : Int))) (.need ((0 : Int) ≤ (↑k : Int) ∧ (↑k : Int) < (↑(List.length a) : Int)) (.need ((0 : Int) ≤ (↑k : Int) ∧ (↑k : Int) < (↑(List.length b) : Int)) (.ite (!(Val.kind (ETy.get .val a k) == Val.kind (ETy.get .val b k) && (Val.a (ETy.get .val a k) == Val.a (ETy.get .val b k) && Val.b (ETy.get .val a k) == Val.b (ETy.get .val b k)))) (.ret (.p (.bool false)) []) (.stop [.code [1, 1, 0, 1, 0, 0], .inLoop [1, 1, 0, 1, 0, 0], .inBlock 0, .code [1, 1, 1]] { n := 26, fr := [(0, .p (.lst .val a)), (1, .p (.lst .val b)), (4, .p (.bool false)), (5, .i (IntKind.wrap .i64 ((↑k : Int) + (1 : Int))))], ck := [] })))) (.ret (.p (.bool true)) []))) (by kernel_rfl) ?_
    refine ⟨fun hlt => ?_, fun hge => ?_⟩
    · have hk' : k < a.length := by have := of_decide_eq_true hlt; omega
      rw [drop_get (t := .val) (l := a) hk', drop_get (t := .val) (l := b) (by omega)]
      refine ⟨by omega, by omega, ?_⟩
      generalize ETy.get .val a k = x
      generalize ETy.get .val b k = y
      refine ⟨fun hb => ⟨?_, rfl⟩, fun hb => ?_⟩
      · have hb' : sameVal x y = false := nt hb
        rw [sameVals, hb']; rfl
      · have hb' : sameVal x y = true := nf hb
        rw [sameVals, hb', Bool.true_and, wrapK (maxLen_lt hk' hl)]
        first
        | (exfalso; omega)
        | exact J.kn [4] (ih (k + 1) (by omega) (by omega))
    · rw [drop_end (l := a) (by have := of_decide_eq_false hge; omega), drop_end (l := b) (by have := of_decide_eq_false hge; omega)]
      exact ⟨rfl, rfl⟩
theorem sv_spec (a b : List Val) : Does Tryz.prog 17 [.l .val a, .l .val b] [] (.x (.b (sameVals a b))) [] := by
  refine Does.go (cfg := cfg0) cfg0_ok Tryz.func17 (by kernel_rfl) (by kernel_rfl) (t := (.ite ((↑(List.length a) : Int) != (↑(List.length b) : Int)) (.ret (.p (.bool false)) []) (.stop [.code [1, 1, 0, 1, 0, 0], .inLoop [1, 1, 0, 1, 0, 0], .inBlock 0, .code [1, 1, 1]] { n := 26, fr := [(0, .p (.lst .val a)), (1, .p (.lst .val b)), (4, .p (.bool false)), (5, .i (0 : Int))], ck := [], kn := [4] }))) (by kernel_rfl) fun Γ => ?_
  refine ⟨fun h => ?_, fun h => ?_⟩
  · rw [sameVals_len a b (by have : (a.length : Int) ≠ b.length := by simpa using h
                             omega)]; exact ⟨rfl, rfl⟩
  · have hab : a.length = b.length := by
      have : (a.length : Int) = b.length := by simpa using h
      omega
    exact J.len 0 rfl fun hl => sv_loop a b Γ hl hab a.length 0 (by omega) (by omega)
def eSv : Nat × (List SX → List Chunk → Option (Option Prop × SV × List Chunk)) := (17, fun
  | [.c (.pd (.lst .val a)), .c (.pd (.lst .val b))], [] => some (none, .x (.c (.pd (.bool (sameVals a b)))), [])
  | _, _ => none)
theorem eSv_ok (vs : List SX) (ck : List Chunk) (p : Option Prop) (ret : SV) (ck' : List Chunk) (h : eSv.2 vs ck = some (p, ret, ck')) (hp : Holds p) : Does Tryz.prog eSv.1 vs ck ret ck' := by
  unfold eSv at h
  simp only at h
  split at h
  · rename_i a b
    simp only [Option.some.injEq, Prod.mk.injEq] at h
    obtain ⟨rfl, rfl, rfl⟩ := h
    exact sv_spec a b
  · simp at h
def cfgRdo : Cfg := ⟨tys0, [eFind, eRefEval, eRfits]⟩
theorem cfgRdo_ok : TabOk Tryz.prog cfgRdo.tab := (TabOk.cons eFind_ok (TabOk.cons eRefEval_ok (TabOk.cons eRfits_ok TabOk.nil)))

def rdOut (r : List Val × List Str × List Str × Bool) : Out := fun v c => ∃ m, permV 0 m v c = some (SV.x (.agg [.own 0, .own 1, .own 2, .pd (.bool r.2.2.2)]), [.own 49 .val r.1, .own 9 .str r.2.1, .own 9 .str r.2.2.1])
def rdRes (vs : List Var) (l : List Deed) (cur : List Val) (rs ss : List Str) (ok : Bool) : List Val × List Str × List Str × Bool := bif ok then doGo vs l cur rs ss else (cur, rs ++ [errS], ss, false)
theorem rd_loop (l : List Deed) (vs : List Var) (vals : List Val) (Γ : Ctx) (hl : l.length ≤ 1000000) : ∀ (n k : Nat) (cur : List Val) (rs ss : List Str) (ok : Bool), l.length - k ≤ n → k ≤ l.length → (∀ v ∈ cur, i64 v.a = true) → rs.length + ss.length ≤ k →
    J Tryz.prog 16 (bodyOf Tryz.f16) Γ (rdOut (rdRes vs (l.drop k) cur rs ss ok)) [.code [1, 1, 1, 0, 1, 0, 0], .inLoop [1, 1, 1, 0, 1, 0, 0], .inBlock 0, .code [1, 1, 1, 1]] ({ n := 113, fr := [(0, .p (.lst .deed l)), (1, .p (.lst .var vs)), (6, .x (.c (.loc 0 0))), (7, .x (.c (.loc 1 0))), (8, .i (k))], ck := [.cells [.pd (.v (Value.slice none 0 0)), .pd (.v (Value.slice none 0 0)), .pd (.v (Value.slice none 0 0)), .pd (.bool false)] 41, .cells [.own 2, .own 3, .own 4, .pd (.bool ok)] 41, .own 49 .val cur, .own 9 .str rs, .own 9 .str ss] }) := by
  intro n
  induction n with
  | zero => ?_
  | succ n ih => ?_
  all_goals
    intro k cur rs ss ok hn hk hv hrs
    refine J.go (cfg := cfgRdo) cfgRdo_ok Tryz.func16 1000 (t := (.ite (decide ((↑k : Int) < (↑(List.length l) : Int)) && ok) (.need ((0 : Int) ≤ (↑k : Int) ∧ (↑k : Int) < (↑(List.length l) : Int)) (.ite (Deed.kind (ETy.get .deed l k) == (2 : Int)) (.need ((0 : Int) ≤ (↑k : Int) ∧ (↑k : Int) < (↑(List.length l) : Int)) (.need (room (List.length (rs ++ [Deed.name (ETy.get .deed l k)])) 16) (.stop [.code [1, 1, 1, 0, 1, 0, 0], .inLoop [1, 1, 1, 0, 1, 0, 0], .inBlock 0, .code [1, 1, 1, 1]] { n := 113, fr := [(0, .p (.lst .deed l)), (1, .p (.lst .var vs)), (6, .x (.c (.loc 0 0))), (7, .x (.c (.loc 1 0))), (8, .i (IntKind.wrap .i64 ((↑k : Int) + (1 : Int))))], ck := [.cells [.pd (.v (Value.slice none 0 0)), .pd (.v (Value.slice none 0 0)), .pd (.v (Value.slice none 0 0)), .pd (.bool false)] 41, .cells [.own 2, .own 4, .own 3, .pd (.bool ok)] 41, .own 49 .val cur, .own 9 .str ss, .own 9 .str (rs ++ [Deed.name (ETy.get .deed l k)])] }))) (.ite (Deed.kind (ETy.get .deed l k) == (3 : Int)) (.need ((0 : Int) ≤ (↑k : Int) ∧ (↑k : Int) < (↑(List.length l) : Int)) (.need (room (List.length (ss ++ [Deed.name (ETy.get .deed l k)])) 16) (.stop [.code [1, 1, 1, 0, 1, 0, 0], .inLoop [1, 1, 1, 0, 1, 0, 0], .inBlock 0, .code [1, 1, 1, 1]] { n := 113, fr := [(0, .p (.lst .deed l)), (1, .p (.lst .var vs)), (6, .x (.c (.loc 0 0))), (7, .x (.c (.loc 1 0))), (8, .i (IntKind.wrap .i64 ((↑k : Int) + (1 : Int))))], ck := [.cells [.pd (.v (Value.slice none 0 0)), .pd (.v (Value.slice none 0 0)), .pd (.v (Value.slice none 0 0)), .pd (.bool false)] 41, .cells [.own 2, .own 3, .own 4, .pd (.bool ok)] 41, .own 49 .val cur, .own 9 .str rs, .own 9 .str (ss ++ [Deed.name (ETy.get .deed l k)])] }))) (.ite (Deed.kind (ETy.get .deed l k) == (1 : Int)) (.need ((0 : Int) ≤ (↑k : Int) ∧ (↑k : Int) < (↑(List.length l) : Int)) (.need ((0 : Int) ≤ (↑k : Int) ∧ (↑k : Int) < (↑(List.length l) : Int)) (.need (∀ (v : ETy.den .val), v ∈ cur → i64 (Val.a v) = true) (.need (Prod.snd (Prod.snd (Prod.snd (2, 88, true, onBy true (decide (firstAt (fun v => Var.name v == Deed.name (ETy.get .deed l k)) vs (0 : Int) ≥ (0 : Int)) && Prod.snd (evalM (Deed.expr (ETy.get .deed l k)) vs cur []) == (0 : Int)) none))) → (0 : Int) ≤ firstAt (fun v => Var.name v == Deed.name (ETy.get .deed l k)) vs (0 : Int) ∧ firstAt (fun v => Var.name v == Deed.name (ETy.get .deed l k)) vs (0 : Int) < (↑(List.length vs) : Int)) (.ite (decide (firstAt (fun v => Var.name v == Deed.name (ETy.get .deed l k)) vs (0 : Int) ≥ (0 : Int)) && Prod.snd (evalM (Deed.expr (ETy.get .deed l k)) vs cur []) == (0 : Int) && fitsM { name := Var.name (ETy.get .var vs (Int.toNat (firstAt (fun v => Var.name v == Deed.name (ETy.get .deed l k)) vs (0 : Int)))), kind := Var.kind (ETy.get .var vs (Int.toNat (firstAt (fun v => Var.name v == Deed.name (ETy.get .deed l k)) vs (0 : Int)))), lo := Var.lo (ETy.get .var vs (Int.toNat (firstAt (fun v => Var.name v == Deed.name (ETy.get .deed l k)) vs (0 : Int)))), hi := Var.hi (ETy.get .var vs (Int.toNat (firstAt (fun v => Var.name v == Deed.name (ETy.get .deed l k)) vs (0 : Int)))), init := { kind := Val.kind (Var.init (ETy.get .var vs (Int.toNat (firstAt (fun v => Var.name v == Deed.name (ETy.get .deed l k)) vs (0 : Int))))), a := Val.a (Var.init (ETy.get .var vs (Int.toNat (firstAt (fun v => Var.name v == Deed.name (ETy.get .deed l k)) vs (0 : Int))))), b := Val.b (Var.init (ETy.get .var vs (Int.toNat (firstAt (fun v => Var.name v == Deed.name (ETy.get .deed l k)) vs (0 : Int))))) } } { kind := Val.kind (Prod.fst (evalM (Deed.expr (ETy.get .deed l k)) vs cur [])), a := Val.a (Prod.fst (evalM (Deed.expr (ETy.get .deed l k)) vs cur [])), b := Val.b (Prod.fst (evalM (Deed.expr (ETy.get .deed l k)) vs cur [])) }) (.need ((0 : Int) ≤ firstAt (fun v => Var.name v == Deed.name (ETy.get .deed l k)) vs (0 : Int) ∧ firstAt (fun v => Var.name v == Deed.name (ETy.get .deed l k)) vs (0 : Int) < (↑(List.length cur) : Int)) (.need (Int.toNat (firstAt (fun v => Var.name v == Deed.name (ETy.get .deed l k)) vs (0 : Int)) < List.length cur) (.stop [.code [1, 1, 1, 0, 1, 0, 0], .inLoop [1, 1, 1, 0, 1, 0, 0], .inBlock 0, .code [1, 1, 1, 1]] { n := 113, fr := [(0, .p (.lst .deed l)), (1, .p (.lst .var vs)), (6, .x (.c (.loc 0 0))), (7, .x (.c (.loc 1 0))), (8, .i (IntKind.wrap .i64 ((↑k : Int) + (1 : Int))))], ck := [.cells [.pd (.v (Value.slice none 0 0)), .pd (.v (Value.slice none 0 0)), .pd (.v (Value.slice none 0 0)), .pd (.bool false)] 41, .cells [.own 2, .own 3, .own 4, .pd (.bool (decide (firstAt (fun v => Var.name v == Deed.name (ETy.get .deed l k)) vs (0 : Int) ≥ (0 : Int)) && Prod.snd (evalM (Deed.expr (ETy.get .deed l k)) vs cur []) == (0 : Int) && fitsM { name := Var.name (ETy.get .var vs (Int.toNat (firstAt (fun v => Var.name v == Deed.name (ETy.get .deed l k)) vs (0 : Int)))), kind := Var.kind (ETy.get .var vs (Int.toNat (firstAt (fun v => Var.name v == Deed.name (ETy.get .deed l k)) vs (0 : Int)))), lo := Var.lo (ETy.get .var vs (Int.toNat (firstAt (fun v => Var.name v == Deed.name (ETy.get .deed l k)) vs (0 : Int)))), hi := Var.hi (ETy.get .var vs (Int.toNat (firstAt (fun v => Var.name v == Deed.name (ETy.get .deed l k)) vs (0 : Int)))), init := { kind := Val.kind (Var.init (ETy.get .var vs (Int.toNat (firstAt (fun v => Var.name v == Deed.name (ETy.get .deed l k)) vs (0 : Int))))), a := Val.a (Var.init (ETy.get .var vs (Int.toNat (firstAt (fun v => Var.name v == Deed.name (ETy.get .deed l k)) vs (0 : Int))))), b := Val.b (Var.init (ETy.get .var vs (Int.toNat (firstAt (fun v => Var.name v == Deed.name (ETy.get .deed l k)) vs (0 : Int))))) } } { kind := Val.kind (Prod.fst (evalM (Deed.expr (ETy.get .deed l k)) vs cur [])), a := Val.a (Prod.fst (evalM (Deed.expr (ETy.get .deed l k)) vs cur [])), b := Val.b (Prod.fst (evalM (Deed.expr (ETy.get .deed l k)) vs cur [])) }))] 41, .own 49 .val (List.set cur (Int.toNat (firstAt (fun v => Var.name v == Deed.name (ETy.get .deed l k)) vs (0 : Int))) { kind := Val.kind (Prod.fst (evalM (Deed.expr (ETy.get .deed l k)) vs cur [])), a := Val.a (Prod.fst (evalM (Deed.expr (ETy.get .deed l k)) vs cur [])), b := Val.b (Prod.fst (evalM (Deed.expr (ETy.get .deed l k)) vs cur [])) }), .own 9 .str rs, .own 9 .str ss] }))) (.stop [.code [1, 1, 1, 0, 1, 0, 0], .inLoop [1, 1, 1, 0, 1, 0, 0], .inBlock 0, .code [1, 1, 1, 1]] { n := 113, fr := [(0, .p (.lst .deed l)), (1, .p (.lst .var vs)), (6, .x (.c (.loc 0 0))), (7, .x (.c (.loc 1 0))), (8, .i (IntKind.wrap .i64 ((↑k : Int) + (1 : Int))))], ck := [.cells [.pd (.v (Value.slice none 0 0)), .pd (.v (Value.slice none 0 0)), .pd (.v (Value.slice none 0 0)), .pd (.bool false)] 41, .cells [.own 2, .own 3, .own 4, .pd (.bool (decide (firstAt (fun v => Var.name v == Deed.name (ETy.get .deed l k)) vs (0 : Int) ≥ (0 : Int)) && Prod.snd (evalM (Deed.expr (ETy.get .deed l k)) vs cur []) == (0 : Int) && fitsM { name := Var.name (ETy.get .var vs (Int.toNat (firstAt (fun v => Var.name v == Deed.name (ETy.get .deed l k)) vs (0 : Int)))), kind := Var.kind (ETy.get .var vs (Int.toNat (firstAt (fun v => Var.name v == Deed.name (ETy.get .deed l k)) vs (0 : Int)))), lo := Var.lo (ETy.get .var vs (Int.toNat (firstAt (fun v => Var.name v == Deed.name (ETy.get .deed l k)) vs (0 : Int)))), hi := Var.hi (ETy.get .var vs (Int.toNat (firstAt (fun v => Var.name v == Deed.name (ETy.get .deed l k)) vs (0 : Int)))), init := { kind := Val.kind (Var.init (ETy.get .var vs (Int.toNat (firstAt (fun v => Var.name v == Deed.name (ETy.get .deed l k)) vs (0 : Int))))), a := Val.a (Var.init (ETy.get .var vs (Int.toNat (firstAt (fun v => Var.name v == Deed.name (ETy.get .deed l k)) vs (0 : Int))))), b := Val.b (Var.init (ETy.get .var vs (Int.toNat (firstAt (fun v => Var.name v == Deed.name (ETy.get .deed l k)) vs (0 : Int))))) } } { kind := Val.kind (Prod.fst (evalM (Deed.expr (ETy.get .deed l k)) vs cur [])), a := Val.a (Prod.fst (evalM (Deed.expr (ETy.get .deed l k)) vs cur [])), b := Val.b (Prod.fst (evalM (Deed.expr (ETy.get .deed l k)) vs cur [])) }))] 41, .own 49 .val cur, .own 9 .str rs, .own 9 .str ss] })))))) (.stop [.code [1, 1, 1, 0, 1, 0, 0], .inLoop [1, 1, 1, 0, 1, 0, 0], .inBlock 0, .code [1, 1, 1, 1]] { n := 113, fr := [(0, .p (.lst .deed l)), (1, .p (.lst .var vs)), (6, .x (.c (.loc 0 0))), (7, .x (.c (.loc 1 0))), (8, .i (IntKind.wrap .i64 ((↑k : Int) + (1 : Int))))], ck := [.cells [.pd (.v (Value.slice none 0 0)), .pd (.v (Value.slice none 0 0)), .pd (.v (Value.slice none 0 0)), .pd (.bool false)] 41, .cells [.own 2, .own 3, .own 4, .pd (.bool false)] 41, .own 49 .val cur, .own 9 .str rs, .own 9 .str ss] }))))) (.ite (!ok) (.need (room (List.length (rs ++ [[(101 : UInt8), 114, 114, 111, 114]])) 16) (.ret (.x (.agg [.own 0, .own 2, .own 1, .pd (.bool ok)])) [.own 49 .val cur, .own 9 .str ss, .own 9 .str (rs ++ [[(101 : UInt8), 114, 114, 111, 114]])])) (.ret (.x (.agg [.own 0, .own 1, .own 2, .pd (.bool ok)])) [.own 49 .val cur, .own 9 .str rs, .own 9 .str ss])))) (by kernel_rfl) ?_
    refine ⟨fun hlt => ?_, fun hge => ⟨fun ho => ⟨room_few (by simp; omega), ?_⟩, fun ho => ?_⟩⟩
    · simp only [Bool.and_eq_true] at hlt
      obtain ⟨hlt, hok⟩ := hlt
      have hk' : k < l.length := by have := of_decide_eq_true hlt; omega
      rw [drop_get (t := .deed) hk']
      refine ⟨by omega, ?_⟩
      generalize ETy.get .deed l k = d
      have hw : IntKind.wrap .i64 ((k : Int) + 1) = ((k + 1 : Nat) : Int) := wrapK (by omega)
      rw [hw]
      subst hok
      rw [rdRes, cond_true]
      refine ⟨fun h2 => ⟨by omega, room_few (by simp; omega), ?_⟩, fun h2 => ⟨fun h3 => ⟨by omega, room_few (by simp; omega), ?_⟩, fun h3 => ⟨fun h1 => ⟨by omega, by omega, hv, fun hx => ?_, fun h => ?_, fun h => ?_⟩, fun h1 => ?_⟩⟩⟩
      · rw [doGo, h2, cond_true]
        first
        | (exfalso; omega)
        | exact J.perm [0, 1, 2, 4, 3] rfl (ih (k + 1) cur (rs ++ [d.name]) ss true (by omega) (by omega) hv (by simp; omega))
      · rw [doGo, h2, h3, cond_false, cond_true]
        first
        | (exfalso; omega)
        | exact ih (k + 1) cur rs (ss ++ [d.name]) true (by omega) (by omega) hv (by simp; omega)
      · have hx' : (decide (ixV vs d.name ≥ 0) && (evalM d.expr vs cur []).2 == 0) = true := hx
        simp only [Bool.and_eq_true, decide_eq_true_eq] at hx'
        exact ⟨hx'.1, ixV_lt vs d.name hx'.1⟩
      · have hs : setOk vs cur d = true := h
        obtain ⟨g1, g2, g3, g4⟩ := setOk_parts hv hs
        refine ⟨⟨g1, by rw [← g3]; exact g2⟩, by rw [← g3]; exact (by omega : (ixV vs d.name).toNat < vs.length), ?_⟩
        rw [doGo, h2, h3, h1, hs, cond_false, cond_false, cond_true, cond_true]
        first
        | (exfalso; omega)
        | (have := ih (k + 1) (cur.set (ixV vs d.name).toNat (evalM d.expr vs cur []).1) rs ss (setOk vs cur d) (by omega) (by omega) (set_i64 hv g4) (by omega)
           have e : ∀ x, rdRes vs (l.drop (k + 1)) x rs ss (setOk vs cur d) = doGo vs (l.drop (k + 1)) x rs ss := fun x => by rw [rdRes, hs, cond_true]
           rw [e] at this
           exact J.kn [] this)
      · have hs : setOk vs cur d = false := h
        rw [doGo, h2, h3, h1, hs]
        first
        | (exfalso; omega)
        | (have := ih (k + 1) cur rs ss (setOk vs cur d) (by omega) (by omega) hv (by omega)
           have e : rdRes vs (l.drop (k + 1)) cur rs ss (setOk vs cur d) = (cur, rs ++ [errS], ss, false) := by rw [rdRes, hs, cond_false]
           rw [e] at this
           exact J.kn [] this)
      · rw [doGo, h2, h3, h1]
        first
        | (exfalso; omega)
        | exact ih (k + 1) cur rs ss false (by omega) (by omega) hv (by omega)
    · have ho' : ok = false := nt ho
      subst ho'
      exact ⟨[0, 2, 1], rfl⟩
    · have ho' : ok = true := nf ho
      subst ho'
      rw [Bool.and_true] at hge
      rw [drop_end (l := l) (by have := of_decide_eq_false hge; omega)]
      exact ⟨[0, 1, 2], rfl⟩
theorem rdo_spec (l : List Deed) (vs : List Var) (vals : List Val) (hl : l.length ≤ 1000000) (hr : room vals.length 24) (hv : ∀ v ∈ vals, i64 v.a = true) :
    Does Tryz.prog 16 [.l .deed l, .l .var vs, .l .val vals] [] (.x (.agg [.own 0, .own 1, .own 2, .pd (.bool (doM l vs vals).2.2.2)])) [.own 49 .val (doM l vs vals).1, .own 9 .str (doM l vs vals).2.1, .own 9 .str (doM l vs vals).2.2.1] := by
  refine Does.perm Tryz.func16 (by kernel_rfl) (by kernel_rfl) fun Γ => ?_
  refine J.go (cfg := cfg0) cfg0_ok Tryz.func16 1000 (t := (.need (room (List.length vals) 24) (.stop [.code [1, 1, 1, 0, 1, 0, 0], .inLoop [1, 1, 1, 0, 1, 0, 0], .inBlock 0, .code [1, 1, 1, 1]] { n := 113, fr := [(0, .p (.lst .deed l)), (1, .p (.lst .var vs)), (6, .x (.c (.loc 0 0))), (7, .x (.c (.loc 1 0))), (8, .i (0 : Int))], ck := [.cells [.pd (.v (Value.slice none 0 0)), .pd (.v (Value.slice none 0 0)), .pd (.v (Value.slice none 0 0)), .pd (.bool false)] 41, .cells [.own 2, .pd (.v (Value.slice none 0 0)), .pd (.v (Value.slice none 0 0)), .pd (.bool true)] 41, .own 49 .val vals] }))) (by kernel_rfl) ?_
  refine ⟨hr, ?_⟩
  refine J.nilCk 1 1 9 .str rfl rfl (by kernel_rfl) ?_
  refine J.nilCk 1 2 9 .str rfl rfl (by kernel_rfl) ?_
  exact rd_loop l vs vals Γ hl l.length 0 vals [] [] true (by omega) (by omega) hv (by simp)
def eRdo : Nat × (List SX → List Chunk → Option (Option Prop × SV × List Chunk)) := (16, fun
  | [.c (.pd (.lst .deed l)), .c (.pd (.lst .var vs)), .c (.pd (.lst .val vals))], [] => some (some (l.length ≤ 1000000 ∧ room vals.length 24 ∧ ∀ v ∈ vals, i64 v.a = true), .x (.agg [.own 0, .own 1, .own 2, .pd (.bool (doM l vs vals).2.2.2)]), [.own 49 .val (doM l vs vals).1, .own 9 .str (doM l vs vals).2.1, .own 9 .str (doM l vs vals).2.2.1])
  | _, _ => none)
theorem eRdo_ok (vs : List SX) (ck : List Chunk) (p : Option Prop) (ret : SV) (ck' : List Chunk) (h : eRdo.2 vs ck = some (p, ret, ck')) (hp : Holds p) : Does Tryz.prog eRdo.1 vs ck ret ck' := by
  unfold eRdo at h
  simp only at h
  split at h
  · rename_i l vs vals
    simp only [Option.some.injEq, Prod.mk.injEq] at h
    obtain ⟨rfl, rfl, rfl⟩ := h
    exact rdo_spec l vs vals hp.1 hp.2.1 hp.2.2
  · simp at h
end Go.Proofs.YtjndellhebidoaaGreatDoor

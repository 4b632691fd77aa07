/- Contracts: texts' beginnings, events' names; behind the kinds' texts. Conditions: none. Contracts: names, events' names. Conditions: none. Contracts: actions that may be. Conditions: none. -/
import Derived.Test.YtcpnicfkpkonkaaGreatDoorFf
import Derived.Test.YtcpnicfkpkonkaaGreatDoorTa
import Derived.Test.YtcpnicfkpkonkaaGreatDoorProg
import Derived.Shelf.LaysM
import Derived.Shelf.Strconv.Itoa4
import Derived.Lib.AppendIntMem
import Derived.Test.YtcpnicfkpkonkaaGreatDoorVb
namespace Go.Proofs.YtcpnicfkpkonkaaGreatDoor
open Go Go.Ev
set_option maxRecDepth 100000
theorem hasPrefix_spec (a b : Str) : Does Tryz.prog 195 [.s a, .s b] [] (.x (.b (decide (strLen a ≥ strLen b) && a.take (strLen b).toNat == b))) [] := by
  refine Does.go (cfg := cfg0) cfg0_ok Tryz.func195 (by kernel_rfl) (by kernel_rfl) (t := (.need (decide (strLen a ≥ strLen b) = true → (0 : Int) ≤ strLen b ∧ strLen b ≤ (↑(List.length a) : Int)) (.ret (.p (.bool (decide (strLen a ≥ strLen b) && Prod.snd (cutL a none (some (strLen b))) == b))) []))) (by kernel_rfl) fun Γ => ?_
  refine ⟨fun h => ?_, rfl, rfl⟩
  have := of_decide_eq_true h
  have h1 : strLen b = (b.length : Int) := rfl
  have h2 : strLen a = (a.length : Int) := rfl
  omega
def eHp : Nat × (List SX → List Chunk → Option (Option Prop × SV × List Chunk)) := (195, fun
  | [.c (.pd (.str a)), .c (.pd (.str b))], [] => some (none, .x (.c (.pd (.bool (decide (strLen a ≥ strLen b) && a.take (strLen b).toNat == b)))), [])
  | _, _ => none)
theorem eHp_ok (vs : List SX) (ck : List Chunk) (p : Option Prop) (ret : SV) (ck' : List Chunk) (h : eHp.2 vs ck = some (p, ret, ck')) (hp : Holds p) : Does Tryz.prog eHp.1 vs ck ret ck' := by
  unfold eHp at h
  simp only at h
  split at h
  · rename_i a b
    simp only [Option.some.injEq, Prod.mk.injEq] at h
    obtain ⟨rfl, rfl, rfl⟩ := h
    exact hasPrefix_spec a b
  · simp at h
def cfgHp : Cfg := ⟨tys0, [eHp]⟩
theorem cfgHp_ok : TabOk Tryz.prog cfgHp.tab := (TabOk.cons eHp_ok TabOk.nil)
def hasP (a b : Str) : Bool := decide (strLen a ≥ strLen b) && a.take (strLen b).toNat == b
def cutP (a b : Str) : Str := bif hasP a b then a.drop (strLen b).toNat else a
def eventM (s : Str) : Bool := nameM (cutP s [100, 111, 110, 101, 46])
theorem cutPrefix1_spec (a b : Str) : Does Tryz.prog 182 [.s a, .s b] [] (.tup [.s (cutP a b), .b (hasP a b)]) [] := by
  refine Does.go (cfg := cfgHp) cfgHp_ok Tryz.func182 (by kernel_rfl) (by kernel_rfl) (t := (.ite (!(decide (strLen a ≥ strLen b) && List.take (Int.toNat (strLen b)) a == b)) (.ret (.tup [.p (.str a), .p (.bool false)]) []) (.need ((0 : Int) ≤ strLen b ∧ strLen b ≤ (↑(List.length a) : Int)) (.ret (.tup [.p (.str (Prod.snd (cutL a (some (strLen b)) none))), .p (.bool true)]) [])))) (by kernel_rfl) fun Γ => ?_
  refine ⟨fun h => ⟨?_, rfl⟩, fun h => ⟨?_, ?_, rfl⟩⟩
  · have h' : hasP a b = false := by have h2 : (!hasP a b) = true := h
                                     simpa using h2
    simp [cutP, h']
  · have h' : hasP a b = true := by have h2 : (!hasP a b) = false := h
                                    simpa using h2
    simp only [hasP, Bool.and_eq_true, decide_eq_true_eq] at h'
    have h1 : strLen b = (b.length : Int) := rfl
    have h2 : strLen a = (a.length : Int) := rfl
    omega
  · have h' : hasP a b = true := by have h2 : (!hasP a b) = false := h
                                    simpa using h2
    simp [cutP, h', cutL]
def eCut1 : Nat × (List SX → List Chunk → Option (Option Prop × SV × List Chunk)) := (182, fun
  | [.c (.pd (.str a)), .c (.pd (.str b))], [] => some (none, .tup [.c (.pd (.str (cutP a b))), .c (.pd (.bool (hasP a b)))], [])
  | _, _ => none)
theorem eCut1_ok (vs : List SX) (ck : List Chunk) (p : Option Prop) (ret : SV) (ck' : List Chunk) (h : eCut1.2 vs ck = some (p, ret, ck')) (hp : Holds p) : Does Tryz.prog eCut1.1 vs ck ret ck' := by
  unfold eCut1 at h
  simp only at h
  split at h
  · rename_i a b
    simp only [Option.some.injEq, Prod.mk.injEq] at h
    obtain ⟨rfl, rfl, rfl⟩ := h
    exact cutPrefix1_spec a b
  · simp at h
def cfgCut1 : Cfg := ⟨tys0, [eCut1]⟩
theorem cfgCut1_ok : TabOk Tryz.prog cfgCut1.tab := (TabOk.cons eCut1_ok TabOk.nil)
theorem cutPrefix_spec (a b : Str) : Does Tryz.prog 134 [.s a, .s b] [] (.tup [.s (cutP a b), .b (hasP a b)]) [] := by
  refine Does.go (cfg := cfgCut1) cfgCut1_ok Tryz.func134 (by kernel_rfl) (by kernel_rfl) (t := (.ret (.tup [.p (.str (cutP a b)), .p (.bool (hasP a b))]) [])) (by kernel_rfl) fun Γ => ?_
  exact ⟨rfl, rfl⟩
def eCut : Nat × (List SX → List Chunk → Option (Option Prop × SV × List Chunk)) := (134, fun
  | [.c (.pd (.str a)), .c (.pd (.str b))], [] => some (none, .tup [.c (.pd (.str (cutP a b))), .c (.pd (.bool (hasP a b)))], [])
  | _, _ => none)
theorem eCut_ok (vs : List SX) (ck : List Chunk) (p : Option Prop) (ret : SV) (ck' : List Chunk) (h : eCut.2 vs ck = some (p, ret, ck')) (hp : Holds p) : Does Tryz.prog eCut.1 vs ck ret ck' := by
  unfold eCut at h
  simp only at h
  split at h
  · rename_i a b
    simp only [Option.some.injEq, Prod.mk.injEq] at h
    obtain ⟨rfl, rfl, rfl⟩ := h
    exact cutPrefix_spec a b
  · simp at h
def cfgEv1 : Cfg := ⟨tys0, [eCut, eName]⟩
theorem cfgEv1_ok : TabOk Tryz.prog cfgEv1.tab := (TabOk.cons eCut_ok (TabOk.cons eName_ok TabOk.nil))
theorem event_spec (s : Str) : Does Tryz.prog 162 [.s s] [] (.x (.b (eventM s))) [] := by
  refine Does.go (cfg := cfgEv1) cfgEv1_ok Tryz.func162 (by kernel_rfl) (by kernel_rfl) (t := (.ret (.p (.bool (nameM (cutP s [(100 : UInt8), 111, 110, 101, 46])))) [])) (by kernel_rfl) fun Γ => ?_
  exact ⟨rfl, rfl⟩
def eEvent : Nat × (List SX → List Chunk → Option (Option Prop × SV × List Chunk)) := (162, fun
  | [.c (.pd (.str s))], [] => some (none, .x (.c (.pd (.bool (eventM s)))), [])
  | _, _ => none)
theorem eEvent_ok (vs : List SX) (ck : List Chunk) (p : Option Prop) (ret : SV) (ck' : List Chunk) (h : eEvent.2 vs ck = some (p, ret, ck')) (hp : Holds p) : Does Tryz.prog eEvent.1 vs ck ret ck' := by
  unfold eEvent at h
  simp only at h
  split at h
  · rename_i s
    simp only [Option.some.injEq, Prod.mk.injEq] at h
    obtain ⟨rfl, rfl, rfl⟩ := h
    exact event_spec s
  · simp at h
theorem cutP_yes (s : Str) : cutP ([100, 111, 110, 101, 46] ++ s) [100, 111, 110, 101, 46] = s := by
  have h : hasP ([100, 111, 110, 101, 46] ++ s) [100, 111, 110, 101, 46] = true := by
    simp [hasP, strLen]; omega
  rw [cutP, h]; rfl
theorem name_dot (s : Str) : nameM ([100, 111, 110, 101, 46] ++ s) = false := by
  have : ([100, 111, 110, 101, 46] ++ s : Str).any badB = true := by
    rw [List.any_append]
    have : ([100, 111, 110, 101, 46] : Str).any badB = true := by decide
    rw [this]; rfl
  rw [nameM, this]; simp
theorem hasP_split {s p : Str} (h : hasP s p = true) : ∃ r, s = p ++ r := by
  simp only [hasP, Bool.and_eq_true, beq_iff_eq, decide_eq_true_eq] at h
  refine ⟨s.drop (strLen p).toNat, ?_⟩
  have := List.take_append_drop (strLen p).toNat s
  rw [h.2] at this; exact this.symm
theorem event_yes (s : Str) : eventM ([100, 111, 110, 101, 46] ++ s) = nameM s := by rw [eventM, cutP_yes]
theorem event_no {s : Str} (h : hasP s [100, 111, 110, 101, 46] = false) : eventM s = nameM s := by simp [eventM, cutP, h]
def cfgEv2 : Cfg := ⟨tys0, [eRnm]⟩
theorem cfgEv2_ok : TabOk Tryz.prog cfgEv2.tab := (TabOk.cons eRnm_ok TabOk.nil)
theorem ref_event_spec (s : Str) : Does Tryz.prog 186 [.s s] [] (.x (.b (eventM s))) [] := by
  refine Does.go (cfg := cfgEv2) cfgEv2_ok Tryz.func186 (by kernel_rfl) (by kernel_rfl) (t := (.need (nameM s = false ∧ decide (strLen s > (5 : Int)) = true → (0 : Int) ≤ (5 : Int) ∧ (5 : Int) ≤ (↑(List.length s) : Int)) (.need (nameM s = false ∧ (decide (strLen s > (5 : Int)) && Prod.snd (cutL s none (some (5 : Int))) == [(100 : UInt8), 111, 110, 101, 46]) = true → (0 : Int) ≤ (5 : Int) ∧ (5 : Int) ≤ (↑(List.length s) : Int)) (.ret (.p (.bool (nameM s || decide (strLen s > (5 : Int)) && Prod.snd (cutL s none (some (5 : Int))) == [(100 : UInt8), 111, 110, 101, 46] && nameM (Prod.snd (cutL s (some (5 : Int)) none))))) [])))) (by kernel_rfl) fun Γ => ?_
  have hL : strLen s = (s.length : Int) := rfl
  refine ⟨fun h => by have := of_decide_eq_true h.2; omega, fun h => by simp only [Bool.and_eq_true, decide_eq_true_eq] at h; omega, ?_, rfl⟩
  cases hp : hasP s [100, 111, 110, 101, 46]
  · rw [event_no hp]
    have h5 : (decide (strLen s > 5) && (cutL s none (some 5)).2 == [100, 111, 110, 101, 46]) = false := by
      cases hb : (decide (strLen s > 5) && (cutL s none (some 5)).2 == [100, 111, 110, 101, 46])
      · rfl
      · exfalso
        simp only [Bool.and_eq_true, decide_eq_true_eq] at hb
        have : hasP s [100, 111, 110, 101, 46] = true := by
          simp only [hasP, Bool.and_eq_true, decide_eq_true_eq]
          refine ⟨?_, hb.2⟩
          have h2 : strLen [100, 111, 110, 101, 46] = 5 := rfl
          omega
        rw [this] at hp; cases hp
    rw [h5, Bool.false_and, Bool.or_false]
  · obtain ⟨r, rfl⟩ := hasP_split hp
    rw [event_yes, name_dot, Bool.false_or]
    have hc : (cutL ([100, 111, 110, 101, 46] ++ r) (some 5) none).2 = r := rfl
    have hc2 : (cutL ([100, 111, 110, 101, 46] ++ r) none (some 5)).2 = [100, 111, 110, 101, 46] := rfl
    rw [hc, hc2]
    cases r with
    | nil => rfl
    | cons c r =>
      have : decide (strLen ([100, 111, 110, 101, 46] ++ c :: r) > 5) = true := decide_eq_true (by
        have : strLen ([100, 111, 110, 101, 46] ++ c :: r) = ((([100, 111, 110, 101, 46] ++ c :: r) : Str).length : Int) := rfl
        rw [this]; simp only [List.length_append, List.length_cons, List.length_nil]; omega)
      rw [this]; rfl
def eRefEvent : Nat × (List SX → List Chunk → Option (Option Prop × SV × List Chunk)) := (186, fun
  | [.c (.pd (.str s))], [] => some (none, .x (.c (.pd (.bool (eventM s)))), [])
  | _, _ => none)
theorem eRefEvent_ok (vs : List SX) (ck : List Chunk) (p : Option Prop) (ret : SV) (ck' : List Chunk) (h : eRefEvent.2 vs ck = some (p, ret, ck')) (hp : Holds p) : Does Tryz.prog eRefEvent.1 vs ck ret ck' := by
  unfold eRefEvent at h
  simp only at h
  split at h
  · rename_i s
    simp only [Option.some.injEq, Prod.mk.injEq] at h
    obtain ⟨rfl, rfl, rfl⟩ := h
    exact ref_event_spec s
  · simp at h
theorem nt {b : Bool} (h : (!b) = true) : b = false := by cases b <;> simp_all
theorem nf {b : Bool} (h : (!b) = false) : b = true := by cases b <;> simp_all
/-! ### plain -/
def asksM (l : List Cell) : Bool := l.any fun c => c.op == 6
def plainM (l : List Cell) : Bool := rightM l && !asksM l
def deedOk (d : Deed) : Bool := bif d.kind == 1 then nameM d.name && plainM d.expr else bif d.kind == 2 || d.kind == 3 then eventM d.name && ((d.expr.length : Int) == 0) else false
def blockOk (l : List Deed) : Bool := l.all deedOk && (decide ((l.length : Int) > 0) && decide ((l.length : Int) ≤ 8))
def fitsM (v : Var) (x : Val) : Bool := v.kind == x.kind && (decide (x.a ≥ v.lo) && decide (x.a ≤ v.hi) && (x.kind != 3 || (decide (x.b ≥ v.lo) && decide (x.b ≤ v.hi))))
/-! ### the program's -/
theorem plfn_spec (c : Cell) : Does Tryz.prog 246 [.e .cell c] [] (.x (.b (c.op == 6))) [] := by
  refine Does.go (cfg := cfg0) cfg0_ok Tryz.func246 (by kernel_rfl) (by kernel_rfl) (t := (.ret (.p (.bool (Cell.op c == (6 : Int)))) [])) (by kernel_rfl) fun Γ => ⟨rfl, rfl⟩
def ePlfn : Nat × (List SX → List Chunk → Option (Option Prop × SV × List Chunk)) := (246, fun
  | [.agg [.pd (.int .i64 a), .pd (.int .i64 b), .pd (.str d)]], [] => some (none, .x (.c (.pd (.bool (a == 6)))), [])
  | _, _ => none)
theorem ePlfn_ok (vs : List SX) (ck : List Chunk) (p : Option Prop) (ret : SV) (ck' : List Chunk) (h : ePlfn.2 vs ck = some (p, ret, ck')) (hp : Holds p) : Does Tryz.prog ePlfn.1 vs ck ret ck' := by
  unfold ePlfn at h
  simp only at h
  split at h
  · rename_i a b d
    simp only [Option.some.injEq, Prod.mk.injEq] at h
    obtain ⟨rfl, rfl, rfl⟩ := h
    exact plfn_spec ⟨a, b, d⟩
  · simp at h
def cfgPlfn : Cfg := ⟨tys0, [ePlfn]⟩
theorem cfgPlfn_ok : TabOk Tryz.prog cfgPlfn.tab := (TabOk.cons ePlfn_ok TabOk.nil)

theorem ixc_loop (l : List Cell) (Γ : Ctx) (hl : l.length ≤ maxLen)  : ∀ (n k : Nat), l.length - k ≤ n → k ≤ l.length →
    J Tryz.prog 264 (bodyOf Tryz.f264) Γ (Eq2 (.x (.i (firstAt (fun c : Cell => c.op == 6) (l.drop k) k))) []) [.code [1, 0, 1, 0, 0], .inLoop [1, 0, 1, 0, 0], .inBlock 0, .code [1, 1]] ({ n := 19, fr := [(0, .p (.lst .cell l)), (1, .x (.c (.fn (.func 246) [] []))), (4, .i (0 : Int)), (7, .i (↑(List.length l) : Int)), (8, .i (k))], ck := [] }) := by
  intro n
  induction n with
  | zero => ?_
  | succ n ih => ?_
  all_goals
    intro k hn hk
    refine J.go (cfg := cfgPlfn) cfgPlfn_ok Tryz.func264 1000 (t := (.ite (decide ((↑k : Int) < (↑(List.length l) : Int))) (.need ((0 : Int) ≤ (↑k : Int) ∧ (↑k : Int) < (↑(List.length l) : Int)) (.ite (Cell.op (ETy.get .cell l k) == (6 : Int)) (.ret (.i (↑k : Int)) []) (.stop [.code [1, 0, 1, 0, 0], .inLoop [1, 0, 1, 0, 0], .inBlock 0, .code [1, 1]] { n := 19, fr := [(0, .p (.lst .cell l)), (1, .x (.c (.fn (.func 246) [] []))), (4, .i (0 : Int)), (7, .i (↑(List.length l) : Int)), (8, .i (IntKind.wrap .i64 ((↑k : Int) + (1 : Int))))], ck := [] }))) (.ret (.i (-1 : Int)) []))) (by kernel_rfl) ?_
    refine ⟨fun hlt => ?_, fun hge => ?_⟩
    · have hk' : k < l.length := by have := of_decide_eq_true hlt; omega
      rw [drop_get (t := .cell) (l := l) hk']
      refine ⟨by omega, ?_⟩
      generalize ETy.get .cell l k = v
      refine ⟨fun hb => ⟨?_, rfl⟩, fun hb => ?_⟩
      · simp only [firstAt, hb, cond_true]
      · simp only [firstAt, hb, cond_false]; (rw [wrapK (maxLen_lt hk' hl)]; first | (exfalso; omega) | exact ih (k + 1) (by omega) (by omega))
    · rw [drop_end (l := l) (by have := of_decide_eq_false hge; omega)]
      exact ⟨rfl, rfl⟩
theorem ixc_spec (l : List Cell) : Does Tryz.prog 264 [.l .cell (l), SX.c (SC.fn (Fn.func 246) [] [])] [] (.x (.i (firstAt (fun c : Cell => c.op == 6) l 0))) [] := by
  refine Does.go (cfg := cfgPlfn) cfgPlfn_ok Tryz.func264 (by kernel_rfl) (by kernel_rfl) (t := (.stop [.code [1, 0, 1, 0, 0], .inLoop [1, 0, 1, 0, 0], .inBlock 0, .code [1, 1]] { n := 19, fr := [(0, .p (.lst .cell l)), (1, .x (.c (.fn (.func 246) [] []))), (4, .i (0 : Int)), (7, .i (↑(List.length l) : Int)), (8, .i (0 : Int))], ck := [] })) (by kernel_rfl) fun Γ => ?_
  exact J.len 0 rfl fun hl => ixc_loop l Γ hl l.length 0 (by omega) (by omega)
def eIxc : Nat × (List SX → List Chunk → Option (Option Prop × SV × List Chunk)) := (264, fun
  | [.c (.pd (.lst .cell l)), .c (.fn (.func 246) [] [])], [] => some (none, .x (.c (.pd (.int .i64 (firstAt (fun c : Cell => c.op == 6) l 0)))), [])
  | _, _ => none)
theorem eIxc_ok (vs : List SX) (ck : List Chunk) (p : Option Prop) (ret : SV) (ck' : List Chunk) (h : eIxc.2 vs ck = some (p, ret, ck')) (hp : Holds p) : Does Tryz.prog eIxc.1 vs ck ret ck' := by
  unfold eIxc at h
  simp only at h
  split at h
  · rename_i l
    simp only [Option.some.injEq, Prod.mk.injEq] at h
    obtain ⟨rfl, rfl, rfl⟩ := h
    exact ixc_spec l
  · simp at h
def cfgIxc : Cfg := ⟨tys0, [eIxc]⟩
theorem cfgIxc_ok : TabOk Tryz.prog cfgIxc.tab := (TabOk.cons eIxc_ok TabOk.nil)
theorem cfc_spec (l : List Cell) : Does Tryz.prog 245 [.l .cell l, .c (.fn (.func 246) [] [])] [] (.x (.b (asksM l))) [] := by
  refine Does.go (cfg := cfgIxc) cfgIxc_ok Tryz.func245 (by kernel_rfl) (by kernel_rfl) (t := (.ret (.p (.bool (decide (firstAt (fun c => Cell.op c == (6 : Int)) l (0 : Int) ≥ (0 : Int))))) [])) (by kernel_rfl) fun Γ => ⟨?_, rfl⟩
  rw [firstAt_any _ _ _ (by omega)]; rfl
def eCfc : Nat × (List SX → List Chunk → Option (Option Prop × SV × List Chunk)) := (245, fun
  | [.c (.pd (.lst .cell l)), .c (.fn (.func 246) [] [])], [] => some (none, .x (.c (.pd (.bool (asksM l)))), [])
  | _, _ => none)
theorem eCfc_ok (vs : List SX) (ck : List Chunk) (p : Option Prop) (ret : SV) (ck' : List Chunk) (h : eCfc.2 vs ck = some (p, ret, ck')) (hp : Holds p) : Does Tryz.prog eCfc.1 vs ck ret ck' := by
  unfold eCfc at h
  simp only at h
  split at h
  · rename_i l
    simp only [Option.some.injEq, Prod.mk.injEq] at h
    obtain ⟨rfl, rfl, rfl⟩ := h
    exact cfc_spec l
  · simp at h
def cfgPlain : Cfg := ⟨tys0, [eRight, eCfc]⟩
theorem cfgPlain_ok : TabOk Tryz.prog cfgPlain.tab := (TabOk.cons eRight_ok (TabOk.cons eCfc_ok TabOk.nil))
theorem plainA_spec (l : List Cell) : Does Tryz.prog 214 [.l .cell l] [] (.x (.b (plainM l))) [] := by
  refine Does.go (cfg := cfgPlain) cfgPlain_ok Tryz.func214 (by kernel_rfl) (by kernel_rfl) (t := (.ret (.p (.bool (rightM l && !asksM l))) [])) (by kernel_rfl) fun Γ => ?_
  exact ⟨rfl, rfl⟩
def ePlainA : Nat × (List SX → List Chunk → Option (Option Prop × SV × List Chunk)) := (214, fun
  | [.c (.pd (.lst .cell l))], [] => some (none, .x (.c (.pd (.bool (plainM l)))), [])
  | _, _ => none)
theorem ePlainA_ok (vs : List SX) (ck : List Chunk) (p : Option Prop) (ret : SV) (ck' : List Chunk) (h : ePlainA.2 vs ck = some (p, ret, ck')) (hp : Holds p) : Does Tryz.prog ePlainA.1 vs ck ret ck' := by
  unfold ePlainA at h
  simp only at h
  split at h
  · rename_i l
    simp only [Option.some.injEq, Prod.mk.injEq] at h
    obtain ⟨rfl, rfl, rfl⟩ := h
    exact plainA_spec l
  · simp at h
def cfgDeed : Cfg := ⟨tys0, [eName, ePlainA, eEvent]⟩
theorem cfgDeed_ok : TabOk Tryz.prog cfgDeed.tab := (TabOk.cons eName_ok (TabOk.cons ePlainA_ok (TabOk.cons eEvent_ok TabOk.nil)))
theorem deed_spec (d : Deed) : Does Tryz.prog 180 [.e .deed d] [] (.x (.b (deedOk d))) [] := by
  refine Does.go (cfg := cfgDeed) cfgDeed_ok Tryz.func180 (by kernel_rfl) (by kernel_rfl) (t := (.ite (Deed.kind d == (1 : Int)) (.ret (.p (.bool (nameM (Deed.name d) && plainM (Deed.expr d)))) []) (.ite (Deed.kind d == (2 : Int)) (.ret (.p (.bool (eventM (Deed.name d) && (↑(List.length (Deed.expr d)) : Int) == (0 : Int)))) []) (.ite (Deed.kind d == (3 : Int)) (.ret (.p (.bool (eventM (Deed.name d) && (↑(List.length (Deed.expr d)) : Int) == (0 : Int)))) []) (.ret (.p (.bool false)) []))))) (by kernel_rfl) fun Γ => ?_
  unfold deedOk
  refine ⟨fun h => ?_, fun h1 => ⟨fun h => ?_, fun h2 => ⟨fun h => ?_, fun h3 => ?_⟩⟩⟩
  · rw [h]; exact ⟨rfl, rfl⟩
  · rw [h1, h]; exact ⟨rfl, rfl⟩
  · rw [h1, h2, h]; exact ⟨rfl, rfl⟩
  · rw [h1, h2, h3]; exact ⟨rfl, rfl⟩
def eDeed : Nat × (List SX → List Chunk → Option (Option Prop × SV × List Chunk)) := (180, fun
  | [.agg [.pd (.int .i64 a), .pd (.str b), .pd (.lst .cell d)]], [] => some (none, .x (.c (.pd (.bool (deedOk ⟨a, b, d⟩)))), [])
  | _, _ => none)
theorem eDeed_ok (vs : List SX) (ck : List Chunk) (p : Option Prop) (ret : SV) (ck' : List Chunk) (h : eDeed.2 vs ck = some (p, ret, ck')) (hp : Holds p) : Does Tryz.prog eDeed.1 vs ck ret ck' := by
  unfold eDeed at h
  simp only at h
  split at h
  · rename_i a b d
    simp only [Option.some.injEq, Prod.mk.injEq] at h
    obtain ⟨rfl, rfl, rfl⟩ := h
    exact deed_spec ⟨a, b, d⟩
  · simp at h
def cfgBlock : Cfg := ⟨tys0, [eDeed]⟩
theorem cfgBlock_ok : TabOk Tryz.prog cfgBlock.tab := (TabOk.cons eDeed_ok TabOk.nil)

theorem ri_loop (l : List Deed) (Γ : Ctx) (hl : l.length ≤ maxLen)  : ∀ (n k : Nat), l.length - k ≤ n → k ≤ l.length →
    J Tryz.prog 130 (bodyOf Tryz.f130) Γ (Eq2 (.x (.b ((l.drop k).all deedOk && (decide ((l.length : Int) > 0) && decide ((l.length : Int) ≤ 8))))) []) [.code [1, 0, 1, 0, 0], .inLoop [1, 0, 1, 0, 0], .inBlock 0, .code [1, 1]] ({ n := 23, fr := [(0, .p (.lst .deed l)), (2, .p (.bool false)), (5, .p (.lst .deed l)), (6, .i (↑(List.length l) : Int)), (7, .i (k))], ck := [], kn := [2] }) := by
  intro n
  induction n with
  | zero => ?_
  | succ n ih => ?_
  all_goals
    intro k hn hk
    refine J.go (cfg := cfgBlock) cfgBlock_ok Tryz.func130 1000 (t := (.ite (decide ((↑k : Int) < (↑(List.length l) : Int))) (.need ((0 : Int) ≤ (↑k : Int) ∧ (↑k : Int) < (↑(List.length l) : Int)) (.ite (!deedOk { kind := Deed.kind (ETy.get .deed l k), name := Deed.name (ETy.get .deed l k), expr := Deed.expr (ETy.get .deed l k) }) (.ret (.p (.bool false)) []) (.stop [.code [1, 0, 1, 0, 0], .inLoop [1, 0, 1, 0, 0], .inBlock 0, .code [1, 1]] { n := 23, fr := [(0, .p (.lst .deed l)), (2, .p (.bool false)), (5, .p (.lst .deed l)), (6, .i (↑(List.length l) : Int)), (7, .i (IntKind.wrap .i64 ((↑k : Int) + (1 : Int))))], ck := [], kn := [2] }))) (.ret (.p (.bool (decide ((↑(List.length l) : Int) > (0 : Int)) && decide ((↑(List.length l) : Int) ≤ (8 : Int))))) []))) (by kernel_rfl) ?_
    refine ⟨fun hlt => ?_, fun hge => ?_⟩
    · have hk' : k < l.length := by have := of_decide_eq_true hlt; omega
      rw [drop_get (t := .deed) (l := l) hk']
      refine ⟨by omega, ?_⟩
      generalize ETy.get .deed l k = v
      rw [List.all_cons]
      refine ⟨fun hb => ⟨?_, rfl⟩, fun hb => ?_⟩
      · have hb' : deedOk v = false := nt hb
        rw [hb']; rfl
      · have hb' : deedOk v = true := nf hb
        rw [hb', Bool.true_and]; (rw [wrapK (maxLen_lt hk' hl)]; first | (exfalso; omega) | exact ih (k + 1) (by omega) (by omega))
    · rw [drop_end (l := l) (by have := of_decide_eq_false hge; omega)]
      exact ⟨rfl, rfl⟩
theorem ri_spec (l : List Deed) : Does Tryz.prog 130 [.l .deed (l)] [] (.x (.b (blockOk l))) [] := by
  refine Does.go (cfg := cfgBlock) cfgBlock_ok Tryz.func130 (by kernel_rfl) (by kernel_rfl) (t := (.stop [.code [1, 0, 1, 0, 0], .inLoop [1, 0, 1, 0, 0], .inBlock 0, .code [1, 1]] { n := 23, fr := [(0, .p (.lst .deed l)), (2, .p (.bool false)), (5, .p (.lst .deed l)), (6, .i (↑(List.length l) : Int)), (7, .i (0 : Int))], ck := [], kn := [2] })) (by kernel_rfl) fun Γ => ?_
  exact J.len 0 rfl fun hl => ri_loop l Γ hl l.length 0 (by omega) (by omega)
def eBlock : Nat × (List SX → List Chunk → Option (Option Prop × SV × List Chunk)) := (130, fun
  | [.c (.pd (.lst .deed l))], [] => some (none, .x (.c (.pd (.bool (blockOk l)))), [])
  | _, _ => none)
theorem eBlock_ok (vs : List SX) (ck : List Chunk) (p : Option Prop) (ret : SV) (ck' : List Chunk) (h : eBlock.2 vs ck = some (p, ret, ck')) (hp : Holds p) : Does Tryz.prog eBlock.1 vs ck ret ck' := by
  unfold eBlock at h
  simp only at h
  split at h
  · rename_i l
    simp only [Option.some.injEq, Prod.mk.injEq] at h
    obtain ⟨rfl, rfl, rfl⟩ := h
    exact ri_spec l
  · simp at h
end Go.Proofs.YtcpnicfkpkonkaaGreatDoor

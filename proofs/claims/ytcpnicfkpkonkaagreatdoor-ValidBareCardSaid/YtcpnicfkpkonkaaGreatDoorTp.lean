/- Contracts: valid.Check's questions. Conditions: sizes. Contracts: valid.Check: each's loops. Conditions: sizes. -/
import Derived.Test.YtcpnicfkpkonkaaGreatDoorTm
namespace Go.Proofs.YtcpnicfkpkonkaaGreatDoor
open Go Go.Ev
set_option maxRecDepth 100000
def cfgQ2 : Cfg := ⟨tys0, [eConcat]⟩
theorem cfgQ2_ok : TabOk Tryz.prog cfgQ2.tab := (TabOk.cons eConcat_ok TabOk.nil)
def allN (c : Chart) (a b : List Str) : List Str := flatS [[c.name], c.events, a, b]
theorem q2_spec (c : Chart) (a b : List Str) (h : (allN c a b).length ≤ 1000000) : Does Tryz.prog 22 [.p (.ref .chart c 0), .p (.ref .strs a 0), .p (.ref .strs b 0)] [] (.x (.c (.own 0))) [.own 9 .str (allN c a b)] := by
  refine Does.go (cfg := cfgQ2) cfgQ2_ok Tryz.func22 (by kernel_rfl) (by kernel_rfl) (t := (.need (List.length (flatS [[Chart.name c], Chart.events c, a, b]) ≤ 1000000) (.ret (.x (.c (.own 0))) [.own 9 .str (flatS [[Chart.name c], Chart.events c, a, b])]))) (by kernel_rfl) fun Γ => ?_
  exact ⟨h, rfl, rfl⟩
def eQ2 : Nat × (List SX → List Chunk → Option (Option Prop × SV × List Chunk)) := (22, fun
  | [.c (.pd (.ref .chart c 0)), .c (.pd (.ref .strs a 0)), .c (.pd (.ref .strs b 0))], [] => some (some ((allN c a b).length ≤ 1000000), .x (.c (.own 0)), [.own 9 .str (allN c a b)])
  | _, _ => none)
theorem eQ2_ok (vs : List SX) (ck : List Chunk) (p : Option Prop) (ret : SV) (ck' : List Chunk) (h : eQ2.2 vs ck = some (p, ret, ck')) (hp : Holds p) : Does Tryz.prog eQ2.1 vs ck ret ck' := by
  unfold eQ2 at h
  simp only at h
  split at h
  · rename_i c a b
    simp only [Option.some.injEq, Prod.mk.injEq] at h
    obtain ⟨rfl, rfl, rfl⟩ := h
    exact q2_spec c a b hp
  · simp at h
def cfgQ41 : Cfg := ⟨tys0, [eName]⟩
theorem cfgQ41_ok : TabOk Tryz.prog cfgQ41.tab := (TabOk.cons eName_ok TabOk.nil)
theorem q41_spec (s : Str) : Does Tryz.prog 28 [.s s] [] (.x (.b (!nameM s))) [] := by
  refine Does.go (cfg := cfgQ41) cfgQ41_ok Tryz.func28 (by kernel_rfl) (by kernel_rfl) (t := (.ret (.p (.bool !nameM s)) [])) (by kernel_rfl) fun Γ => ⟨rfl, rfl⟩
def eQ41 : Nat × (List SX → List Chunk → Option (Option Prop × SV × List Chunk)) := (28, fun
  | [.c (.pd (.str s))], [] => some (none, .x (.c (.pd (.bool (!nameM s)))), [])
  | _, _ => none)
theorem eQ41_ok (vs : List SX) (ck : List Chunk) (p : Option Prop) (ret : SV) (ck' : List Chunk) (h : eQ41.2 vs ck = some (p, ret, ck')) (hp : Holds p) : Does Tryz.prog eQ41.1 vs ck ret ck' := by
  unfold eQ41 at h
  simp only at h
  split at h
  · rename_i s
    simp only [Option.some.injEq, Prod.mk.injEq] at h
    obtain ⟨rfl, rfl, rfl⟩ := h
    exact q41_spec s
  · simp at h
def cfgIf : Cfg := ⟨tys0, [eQ41]⟩
theorem cfgIf_ok : TabOk Tryz.prog cfgIf.tab := (TabOk.cons eQ41_ok TabOk.nil)

theorem ifn_loop (l : List Str) (Γ : Ctx) (hl : l.length ≤ maxLen)  : ∀ (n k : Nat), l.length - k ≤ n → k ≤ l.length →
    J Tryz.prog 68 (bodyOf Tryz.f68) Γ (Eq2 (.x (.i (firstAt (fun s : Str => !nameM s) (l.drop k) k))) []) [.code [1, 0, 1, 0, 0], .inLoop [1, 0, 1, 0, 0], .inBlock 0, .code [1, 1]] ({ n := 19, fr := [(0, .p (.lst .str l)), (1, .x (.c (.fn (.func 28) [] []))), (4, .i (0 : Int)), (7, .i (↑(List.length l) : Int)), (8, .i (k))], ck := [] }) := by
  intro n
  induction n with
  | zero => ?_
  | succ n ih => ?_
  all_goals
    intro k hn hk
    refine J.go (cfg := cfgIf) cfgIf_ok Tryz.func68 1000 (t := (.ite (decide ((↑k : Int) < (↑(List.length l) : Int))) (.need ((0 : Int) ≤ (↑k : Int) ∧ (↑k : Int) < (↑(List.length l) : Int)) (.ite (!nameM (ETy.get .str l k)) (.ret (.i (↑k : Int)) []) (.stop [.code [1, 0, 1, 0, 0], .inLoop [1, 0, 1, 0, 0], .inBlock 0, .code [1, 1]] { n := 19, fr := [(0, .p (.lst .str l)), (1, .x (.c (.fn (.func 28) [] []))), (4, .i (0 : Int)), (7, .i (↑(List.length l) : Int)), (8, .i (IntKind.wrap .i64 ((↑k : Int) + (1 : Int))))], ck := [] }))) (.ret (.i (-1 : Int)) []))) (by kernel_rfl) ?_
    refine ⟨fun hlt => ?_, fun hge => ?_⟩
    · have hk' : k < l.length := by have := of_decide_eq_true hlt; omega
      rw [drop_get (t := .str) (l := l) hk']
      refine ⟨by omega, ?_⟩
      generalize ETy.get .str l k = v
      refine ⟨fun hb => ⟨?_, rfl⟩, fun hb => ?_⟩
      · simp only [firstAt, hb, cond_true]
      · simp only [firstAt, hb, cond_false]; (rw [wrapK (maxLen_lt hk' hl)]; first | (exfalso; omega) | exact ih (k + 1) (by omega) (by omega))
    · rw [drop_end (l := l) (by have := of_decide_eq_false hge; omega)]
      exact ⟨rfl, rfl⟩
theorem ifn_spec (l : List Str) : Does Tryz.prog 68 [.l .str (l), SX.c (SC.fn (Fn.func 28) [] [])] [] (.x (.i (firstAt (fun s : Str => !nameM s) l 0))) [] := by
  refine Does.go (cfg := cfgIf) cfgIf_ok Tryz.func68 (by kernel_rfl) (by kernel_rfl) (t := (.stop [.code [1, 0, 1, 0, 0], .inLoop [1, 0, 1, 0, 0], .inBlock 0, .code [1, 1]] { n := 19, fr := [(0, .p (.lst .str l)), (1, .x (.c (.fn (.func 28) [] []))), (4, .i (0 : Int)), (7, .i (↑(List.length l) : Int)), (8, .i (0 : Int))], ck := [] })) (by kernel_rfl) fun Γ => ?_
  exact J.len 0 rfl fun hl => ifn_loop l Γ hl l.length 0 (by omega) (by omega)
def eIfn : Nat × (List SX → List Chunk → Option (Option Prop × SV × List Chunk)) := (68, fun
  | [.c (.pd (.lst .str l)), .c (.fn (.func 28) [] [])], [] => some (none, .x (.c (.pd (.int .i64 (firstAt (fun s : Str => !nameM s) l 0)))), [])
  | _, _ => none)
theorem eIfn_ok (vs : List SX) (ck : List Chunk) (p : Option Prop) (ret : SV) (ck' : List Chunk) (h : eIfn.2 vs ck = some (p, ret, ck')) (hp : Holds p) : Does Tryz.prog eIfn.1 vs ck ret ck' := by
  unfold eIfn at h
  simp only at h
  split at h
  · rename_i l
    simp only [Option.some.injEq, Prod.mk.injEq] at h
    obtain ⟨rfl, rfl, rfl⟩ := h
    exact ifn_spec l
  · simp at h
def cfgCf : Cfg := ⟨tys0, [eIfn]⟩
theorem cfgCf_ok : TabOk Tryz.prog cfgCf.tab := (TabOk.cons eIfn_ok TabOk.nil)
theorem cf_spec (l : List Str) : Does Tryz.prog 27 [.l .str l, .c (.fn (.func 28) [] [])] [] (.x (.b (l.any fun s : Str => !nameM s))) [] := by
  refine Does.go (cfg := cfgCf) cfgCf_ok Tryz.func27 (by kernel_rfl) (by kernel_rfl) (t := (.ret (.p (.bool (decide (firstAt (fun s => !nameM s) l (0 : Int) ≥ (0 : Int))))) [])) (by kernel_rfl) fun Γ => ⟨?_, rfl⟩
  rw [firstAt_any _ _ _ (by omega)]
def eCf : Nat × (List SX → List Chunk → Option (Option Prop × SV × List Chunk)) := (27, fun
  | [.c (.pd (.lst .str l)), .c (.fn (.func 28) [] [])], [] => some (none, .x (.c (.pd (.bool (l.any fun s : Str => !nameM s)))), [])
  | _, _ => none)
theorem eCf_ok (vs : List SX) (ck : List Chunk) (p : Option Prop) (ret : SV) (ck' : List Chunk) (h : eCf.2 vs ck = some (p, ret, ck')) (hp : Holds p) : Does Tryz.prog eCf.1 vs ck ret ck' := by
  unfold eCf at h
  simp only at h
  split at h
  · rename_i l
    simp only [Option.some.injEq, Prod.mk.injEq] at h
    obtain ⟨rfl, rfl, rfl⟩ := h
    exact cf_spec l
  · simp at h
def cfgQ4 : Cfg := ⟨tys0, [eQ2, eCf, eMust]⟩
theorem cfgQ4_ok : TabOk Tryz.prog cfgQ4.tab := (TabOk.cons eQ2_ok (TabOk.cons eCf_ok (TabOk.cons eMust_ok TabOk.nil)))
theorem q4_spec (c : Chart) (a b : List Str) (h : (allN c a b).length ≤ 1000000) : Does Tryz.prog 26 [.p (.fnAt [(22, [.ref .chart c 0, .ref .strs a 0, .ref .strs b 0])] 0)] [] (.x (.i (mustM (!(allN c a b).any fun s : Str => !nameM s) 2))) [] := by
  refine Does.go (cfg := cfgQ4) cfgQ4_ok Tryz.func26 (by kernel_rfl) (by kernel_rfl) (t := (.need (List.length (allN c a b) ≤ 1000000) (.ret (.i (mustM (!List.any (allN c a b) fun s => !nameM s) (2 : Int))) []))) (by kernel_rfl) fun Γ => ?_
  exact ⟨h, rfl, rfl⟩
def eQ4 : Nat × (List SX → List Chunk → Option (Option Prop × SV × List Chunk)) := (26, fun
  | [.c (.pd (.fnAt [(22, [.ref .chart c 0, .ref .strs a 0, .ref .strs b 0])] 0))], [] => some (some ((allN c a b).length ≤ 1000000), .x (.c (.pd (.int .i64 (mustM (!(allN c a b).any fun s : Str => !nameM s) 2)))), [])
  | _, _ => none)
theorem eQ4_ok (vs : List SX) (ck : List Chunk) (p : Option Prop) (ret : SV) (ck' : List Chunk) (h : eQ4.2 vs ck = some (p, ret, ck')) (hp : Holds p) : Does Tryz.prog eQ4.1 vs ck ret ck' := by
  unfold eQ4 at h
  simp only at h
  split at h
  · rename_i c a b
    simp only [Option.some.injEq, Prod.mk.injEq] at h
    obtain ⟨rfl, rfl, rfl⟩ := h
    exact q4_spec c a b hp
  · simp at h
def longM (c : Chart) : Bool := decide ((c.events.length : Int) ≤ 12) && decide ((c.vars.length : Int) ≤ 8) && decide ((c.states.length : Int) ≤ 40) && decide ((c.trans.length : Int) ≤ 48)
def twiceM (c : Chart) (a b : List Str) : Bool := onceM c.events && onceM a && onceM b
def cfgQ3 : Cfg := ⟨tys0, [eMust]⟩
theorem cfgQ3_ok : TabOk Tryz.prog cfgQ3.tab := (TabOk.cons eMust_ok TabOk.nil)
theorem q3_spec (c : Chart) : Does Tryz.prog 24 [.p (.ref .chart c 0)] [] (.x (.i (mustM (longM c) 4))) [] := by
  refine Does.go (cfg := cfgQ3) cfgQ3_ok Tryz.func24 (by kernel_rfl) (by kernel_rfl) (t := (.ret (.i (mustM (decide ((↑(List.length (Chart.events c)) : Int) ≤ (12 : Int)) && decide ((↑(List.length (Chart.vars c)) : Int) ≤ (8 : Int)) && decide ((↑(List.length (Chart.states c)) : Int) ≤ (40 : Int)) && decide ((↑(List.length (Chart.trans c)) : Int) ≤ (48 : Int))) (4 : Int))) [])) (by kernel_rfl) fun Γ => ⟨rfl, rfl⟩
def eQ3 : Nat × (List SX → List Chunk → Option (Option Prop × SV × List Chunk)) := (24, fun
  | [.c (.pd (.ref .chart c 0))], [] => some (none, .x (.c (.pd (.int .i64 (mustM (longM c) 4)))), [])
  | _, _ => none)
theorem eQ3_ok (vs : List SX) (ck : List Chunk) (p : Option Prop) (ret : SV) (ck' : List Chunk) (h : eQ3.2 vs ck = some (p, ret, ck')) (hp : Holds p) : Does Tryz.prog eQ3.1 vs ck ret ck' := by
  unfold eQ3 at h
  simp only at h
  split at h
  · rename_i c
    simp only [Option.some.injEq, Prod.mk.injEq] at h
    obtain ⟨rfl, rfl, rfl⟩ := h
    exact q3_spec c
  · simp at h
def cfgQ5 : Cfg := ⟨tys0, [eOnce, eMust]⟩
theorem cfgQ5_ok : TabOk Tryz.prog cfgQ5.tab := (TabOk.cons eOnce_ok (TabOk.cons eMust_ok TabOk.nil))
theorem q5_spec (c : Chart) (a b : List Str) (h : c.events.length ≤ 1000000 ∧ a.length ≤ 1000000 ∧ b.length ≤ 1000000) : Does Tryz.prog 30 [.p (.ref .chart c 0), .p (.ref .strs a 0), .p (.ref .strs b 0)] [] (.x (.i (mustM (twiceM c a b) 3))) [] := by
  refine Does.go (cfg := cfgQ5) cfgQ5_ok Tryz.func30 (by kernel_rfl) (by kernel_rfl) (t := (.need (List.length (Chart.events c) ≤ 1000000) (.need (onceM (Chart.events c) = true → List.length a ≤ 1000000) (.need ((onceM (Chart.events c) && onceM a) = true → List.length b ≤ 1000000) (.ret (.i (mustM (onceM (Chart.events c) && onceM a && onceM b) (3 : Int))) []))))) (by kernel_rfl) fun Γ => ?_
  exact ⟨h.1, fun _ => h.2.1, fun _ => h.2.2, rfl, rfl⟩
def eQ5 : Nat × (List SX → List Chunk → Option (Option Prop × SV × List Chunk)) := (30, fun
  | [.c (.pd (.ref .chart c 0)), .c (.pd (.ref .strs a 0)), .c (.pd (.ref .strs b 0))], [] => some (some (c.events.length ≤ 1000000 ∧ a.length ≤ 1000000 ∧ b.length ≤ 1000000), .x (.c (.pd (.int .i64 (mustM (twiceM c a b) 3)))), [])
  | _, _ => none)
theorem eQ5_ok (vs : List SX) (ck : List Chunk) (p : Option Prop) (ret : SV) (ck' : List Chunk) (h : eQ5.2 vs ck = some (p, ret, ck')) (hp : Holds p) : Does Tryz.prog eQ5.1 vs ck ret ck' := by
  unfold eQ5 at h
  simp only at h
  split at h
  · rename_i c a b
    simp only [Option.some.injEq, Prod.mk.injEq] at h
    obtain ⟨rfl, rfl, rfl⟩ := h
    exact q5_spec c a b hp
  · simp at h
def cfgQ6 : Cfg := ⟨tys0, [eRightT, eMust]⟩
theorem cfgQ6_ok : TabOk Tryz.prog cfgQ6.tab := (TabOk.cons eRightT_ok (TabOk.cons eMust_ok TabOk.nil))
theorem q6_spec (c : Chart) (h : c.states.length ≤ maxLen) : Does Tryz.prog 32 [.p (.ref .chart c 0)] [] (.x (.i (mustM (rightT c.states) 9))) [] := by
  refine Does.go (cfg := cfgQ6) cfgQ6_ok Tryz.func32 (by kernel_rfl) (by kernel_rfl) (t := (.need (List.length (Chart.states c) ≤ maxLen) (.ret (.i (mustM (rightT (Chart.states c)) (9 : Int))) []))) (by kernel_rfl) fun Γ => ?_
  exact ⟨h, rfl, rfl⟩
def eQ6 : Nat × (List SX → List Chunk → Option (Option Prop × SV × List Chunk)) := (32, fun
  | [.c (.pd (.ref .chart c 0))], [] => some (some (c.states.length ≤ maxLen), .x (.c (.pd (.int .i64 (mustM (rightT c.states) 9)))), [])
  | _, _ => none)
theorem eQ6_ok (vs : List SX) (ck : List Chunk) (p : Option Prop) (ret : SV) (ck' : List Chunk) (h : eQ6.2 vs ck = some (p, ret, ck')) (hp : Holds p) : Does Tryz.prog eQ6.1 vs ck ret ck' := by
  unfold eQ6 at h
  simp only at h
  split at h
  · rename_i c
    simp only [Option.some.injEq, Prod.mk.injEq] at h
    obtain ⟨rfl, rfl, rfl⟩ := h
    exact q6_spec c hp
  · simp at h
def cfgQ7 : Cfg := ⟨tys0, [eVinit, eVvar, eVbks, eVtr]⟩
theorem cfgQ7_ok : TabOk Tryz.prog cfgQ7.tab := (TabOk.cons eVinit_ok (TabOk.cons eVvar_ok (TabOk.cons eVbks_ok (TabOk.cons eVtr_ok TabOk.nil))))
theorem q7_spec (c : Chart) (i : Int) (h : 0 ≤ i ∧ i < (c.states.length : Int) ∧ c.states.length ≤ maxLen) : Does Tryz.prog 34 [.i i, .p (.ref .chart c 0)] [] (.x (.i (initE c.states i.toNat))) [] := by
  refine Does.go (cfg := cfgQ7) cfgQ7_ok Tryz.func34 (by kernel_rfl) (by kernel_rfl) (t := (.need ((0 : Int) ≤ i ∧ i < (↑(List.length (Chart.states c)) : Int) ∧ List.length (Chart.states c) ≤ maxLen) (.ret (.i (initE (Chart.states c) (Int.toNat i))) []))) (by kernel_rfl) fun Γ => ⟨h, rfl, rfl⟩
def eQ7 : Nat × (List SX → List Chunk → Option (Option Prop × SV × List Chunk)) := (34, fun
  | [.c (.pd (.int .i64 i)), .c (.pd (.ref .chart c 0))], [] => some (some (0 ≤ i ∧ i < (c.states.length : Int) ∧ c.states.length ≤ maxLen), .x (.c (.pd (.int .i64 (initE c.states i.toNat)))), [])
  | _, _ => none)
theorem eQ7_ok (vs : List SX) (ck : List Chunk) (p : Option Prop) (ret : SV) (ck' : List Chunk) (h : eQ7.2 vs ck = some (p, ret, ck')) (hp : Holds p) : Does Tryz.prog eQ7.1 vs ck ret ck' := by
  unfold eQ7 at h
  simp only at h
  split at h
  · rename_i i c
    simp only [Option.some.injEq, Prod.mk.injEq] at h
    obtain ⟨rfl, rfl, rfl⟩ := h
    exact q7_spec c i hp
  · simp at h
theorem q8_spec (c : Chart) (i : Int) (h : 0 ≤ i ∧ i < (c.vars.length : Int)) : Does Tryz.prog 36 [.i i, .p (.ref .chart c 0)] [] (.x (.i (varE (ETy.get .var c.vars i.toNat)))) [] := by
  refine Does.go (cfg := cfgQ7) cfgQ7_ok Tryz.func36 (by kernel_rfl) (by kernel_rfl) (t := (.need ((0 : Int) ≤ i ∧ i < (↑(List.length (Chart.vars c)) : Int)) (.ret (.i (varE { name := Var.name (ETy.get .var (Chart.vars c) (Int.toNat i)), kind := Var.kind (ETy.get .var (Chart.vars c) (Int.toNat i)), lo := Var.lo (ETy.get .var (Chart.vars c) (Int.toNat i)), hi := Var.hi (ETy.get .var (Chart.vars c) (Int.toNat i)), init := { kind := Val.kind (Var.init (ETy.get .var (Chart.vars c) (Int.toNat i))), a := Val.a (Var.init (ETy.get .var (Chart.vars c) (Int.toNat i))), b := Val.b (Var.init (ETy.get .var (Chart.vars c) (Int.toNat i))) } })) []))) (by kernel_rfl) fun Γ => ⟨h, rfl, rfl⟩
def eQ8 : Nat × (List SX → List Chunk → Option (Option Prop × SV × List Chunk)) := (36, fun
  | [.c (.pd (.int .i64 i)), .c (.pd (.ref .chart c 0))], [] => some (some (0 ≤ i ∧ i < (c.vars.length : Int)), .x (.c (.pd (.int .i64 (varE (ETy.get .var c.vars i.toNat))))), [])
  | _, _ => none)
theorem eQ8_ok (vs : List SX) (ck : List Chunk) (p : Option Prop) (ret : SV) (ck' : List Chunk) (h : eQ8.2 vs ck = some (p, ret, ck')) (hp : Holds p) : Does Tryz.prog eQ8.1 vs ck ret ck' := by
  unfold eQ8 at h
  simp only at h
  split at h
  · rename_i i c
    simp only [Option.some.injEq, Prod.mk.injEq] at h
    obtain ⟨rfl, rfl, rfl⟩ := h
    exact q8_spec c i hp
  · simp at h
theorem q9_spec (c : Chart) (i : Int) (h : 0 ≤ i ∧ i < (c.states.length : Int)) : Does Tryz.prog 38 [.i i, .p (.ref .chart c 0)] [] (.x (.i (blocksE c (ETy.get .stat c.states i.toNat)))) [] := by
  refine Does.go (cfg := cfgQ7) cfgQ7_ok Tryz.func38 (by kernel_rfl) (by kernel_rfl) (t := (.need ((0 : Int) ≤ i ∧ i < (↑(List.length (Chart.states c)) : Int)) (.ret (.i (blocksE { name := Chart.name c, events := Chart.events c, vars := Chart.vars c, states := Chart.states c, trans := Chart.trans c } (ETy.get .stat (Chart.states c) (Int.toNat i)))) []))) (by kernel_rfl) fun Γ => ⟨h, rfl, rfl⟩
def eQ9 : Nat × (List SX → List Chunk → Option (Option Prop × SV × List Chunk)) := (38, fun
  | [.c (.pd (.int .i64 i)), .c (.pd (.ref .chart c 0))], [] => some (some (0 ≤ i ∧ i < (c.states.length : Int)), .x (.c (.pd (.int .i64 (blocksE c (ETy.get .stat c.states i.toNat))))), [])
  | _, _ => none)
theorem eQ9_ok (vs : List SX) (ck : List Chunk) (p : Option Prop) (ret : SV) (ck' : List Chunk) (h : eQ9.2 vs ck = some (p, ret, ck')) (hp : Holds p) : Does Tryz.prog eQ9.1 vs ck ret ck' := by
  unfold eQ9 at h
  simp only at h
  split at h
  · rename_i i c
    simp only [Option.some.injEq, Prod.mk.injEq] at h
    obtain ⟨rfl, rfl, rfl⟩ := h
    exact q9_spec c i hp
  · simp at h
theorem q10_spec (c : Chart) (i : Int) (l : List Str) (h : 0 ≤ i ∧ i < (c.trans.length : Int) ∧ c.states.length ≤ maxLen ∧ c.trans.length ≤ maxLen) : Does Tryz.prog 40 [.i i, .p (.ref .chart c 0), .p (.ref .strs l 0)] [] (.x (.i (transE c i.toNat l (ETy.get .tran c.trans i.toNat)))) [] := by
  refine Does.go (cfg := cfgQ7) cfgQ7_ok Tryz.func40 (by kernel_rfl) (by kernel_rfl) (t := (.need ((0 : Int) ≤ i ∧ i < (↑(List.length (Chart.trans c)) : Int) ∧ List.length (Chart.states c) ≤ maxLen ∧ List.length (Chart.trans c) ≤ maxLen) (.ret (.i (transE { name := Chart.name c, events := Chart.events c, vars := Chart.vars c, states := Chart.states c, trans := Chart.trans c } (Int.toNat i) l (ETy.get .tran (Chart.trans c) (Int.toNat i)))) []))) (by kernel_rfl) fun Γ => ⟨h, rfl, rfl⟩
def eQ10 : Nat × (List SX → List Chunk → Option (Option Prop × SV × List Chunk)) := (40, fun
  | [.c (.pd (.int .i64 i)), .c (.pd (.ref .chart c 0)), .c (.pd (.ref .strs l 0))], [] => some (some (0 ≤ i ∧ i < (c.trans.length : Int) ∧ c.states.length ≤ maxLen ∧ c.trans.length ≤ maxLen), .x (.c (.pd (.int .i64 (transE c i.toNat l (ETy.get .tran c.trans i.toNat))))), [])
  | _, _ => none)
theorem eQ10_ok (vs : List SX) (ck : List Chunk) (p : Option Prop) (ret : SV) (ck' : List Chunk) (h : eQ10.2 vs ck = some (p, ret, ck')) (hp : Holds p) : Does Tryz.prog eQ10.1 vs ck ret ck' := by
  unfold eQ10 at h
  simp only at h
  split at h
  · rename_i i c l
    simp only [Option.some.injEq, Prod.mk.injEq] at h
    obtain ⟨rfl, rfl, rfl⟩ := h
    exact q10_spec c i l hp
  · simp at h
def firstE (f : Nat → Int) : Nat → Nat → Int
  | _, 0 => 0
  | k, m + 1 => if (f k != 0) = true then f k else firstE f (k + 1) m
theorem firstE_succ (f : Nat → Int) {k n : Nat} (h : k < n) : firstE f k (n - k) = if (f k != 0) = true then f k else firstE f (k + 1) (n - (k + 1)) := by
  obtain ⟨m, hm⟩ : ∃ m, n - k = m + 1 := ⟨n - k - 1, by omega⟩
  rw [hm, show n - (k + 1) = m by omega]; rfl
def cfgE7 : Cfg := ⟨tys0, [eQ7]⟩
theorem cfgE7_ok : TabOk Tryz.prog cfgE7.tab := (TabOk.cons eQ7_ok TabOk.nil)

theorem e7_loop (c : Chart) (n : Nat) (Γ : Ctx) (hn : n ≤ c.states.length) (h0 : c.states.length ≤ maxLen) (hm : n ≤ maxLen) : ∀ (m k : Nat), n - k ≤ m → k ≤ n →
    J Tryz.prog 20 (bodyOf Tryz.f20) Γ (Eq2 (.x (.i (firstE (fun k : Nat => initE c.states k) k (n - k)))) []) [.code [1, 0, 1, 0, 0], .inLoop [1, 0, 1, 0, 0], .inBlock 0, .code [1, 1]] ({ n := 16, fr := [(1, .p (PD.fnAt [(34, [.ref .chart c 0])] 0)), (2, .i (0 : Int)), (5, .i (↑n : Int)), (6, .i ((k : Int)))], ck := [] }) := by
  intro m
  induction m with
  | zero => ?_
  | succ m ih => ?_
  all_goals
    intro k hmk hk
    refine J.go (cfg := cfgE7) cfgE7_ok Tryz.func20 1000 (t := (.ite (decide ((↑k : Int) < (↑n : Int))) (.need ((0 : Int) ≤ (↑k : Int) ∧ (↑k : Int) < (↑(List.length (Chart.states c)) : Int) ∧ List.length (Chart.states c) ≤ maxLen) (.ite (initE (Chart.states c) k != (0 : Int)) (.ret (.i (initE (Chart.states c) k)) []) (.stop [.code [1, 0, 1, 0, 0], .inLoop [1, 0, 1, 0, 0], .inBlock 0, .code [1, 1]] { n := 16, fr := [(1, .p (PD.fnAt [(34, [.ref .chart c 0])] 0)), (2, .i (0 : Int)), (5, .i (↑n : Int)), (6, .i (IntKind.wrap .i64 ((↑k : Int) + (1 : Int))))], ck := [] }))) (.ret (.i (0 : Int)) []))) (by kernel_rfl) ?_
    refine ⟨fun hlt => ?_, fun hge => ?_⟩
    · have hk' : k < n := by have := of_decide_eq_true hlt; omega
      rw [firstE_succ _ hk']
      refine ⟨⟨by omega, by omega, h0⟩, fun hb => ?_, fun hb => ?_⟩
      · rw [if_pos (by exact hb)]; exact ⟨rfl, rfl⟩
      · rw [if_neg (by rw [show _ = false from hb]; decide)]
        rw [wrapK (maxLen_lt hk' hm)]
        first | (exfalso; omega) | exact ih (k + 1) (by omega) (by omega)
    · have hke : n - k = 0 := by have := of_decide_eq_false hge; omega
      rw [hke]; exact ⟨rfl, rfl⟩
theorem e7_nat (c : Chart) (n : Nat) (hn : n ≤ c.states.length) (h0 : c.states.length ≤ maxLen) (hm : n ≤ maxLen) : Does Tryz.prog 20 [.p (.ref .int (n : Int) 0), .p (.fnAt [(34, [.ref .chart c 0])] 0)] [] (.x (.i (firstE (fun k : Nat => initE c.states k) 0 n))) [] := by
  refine Does.go (cfg := cfgE7) cfgE7_ok Tryz.func20 (by kernel_rfl) (by kernel_rfl) (t := (.stop [.code [1, 0, 1, 0, 0], .inLoop [1, 0, 1, 0, 0], .inBlock 0, .code [1, 1]] { n := 16, fr := [(1, .p (PD.fnAt [(34, [.ref .chart c 0])] 0)), (2, .i (0 : Int)), (5, .i (↑n : Int)), (6, .i (0 : Int))], ck := [] })) (by kernel_rfl) fun Γ => ?_
  exact e7_loop c n Γ hn h0 hm n 0 (by omega) (by omega)
theorem e7_spec (c : Chart) (n : Int) (h : n = (c.states.length : Int)) (h0 : c.states.length ≤ maxLen) (hm : c.states.length ≤ maxLen) : Does Tryz.prog 20 [.p (.ref .int n 0), .p (.fnAt [(34, [.ref .chart c 0])] 0)] [] (.x (.i (firstE (fun k : Nat => initE c.states k) 0 c.states.length))) [] := by
  subst h
  exact e7_nat c _ (Nat.le_refl _) h0 hm
def cfgE8 : Cfg := ⟨tys0, [eQ8]⟩
theorem cfgE8_ok : TabOk Tryz.prog cfgE8.tab := (TabOk.cons eQ8_ok TabOk.nil)

theorem e8_loop (c : Chart) (n : Nat) (Γ : Ctx) (hn : n ≤ c.vars.length) (hm : n ≤ maxLen) : ∀ (m k : Nat), n - k ≤ m → k ≤ n →
    J Tryz.prog 20 (bodyOf Tryz.f20) Γ (Eq2 (.x (.i (firstE (fun k : Nat => varE (ETy.get .var c.vars k)) k (n - k)))) []) [.code [1, 0, 1, 0, 0], .inLoop [1, 0, 1, 0, 0], .inBlock 0, .code [1, 1]] ({ n := 16, fr := [(1, .p (PD.fnAt [(36, [.ref .chart c 0])] 0)), (2, .i (0 : Int)), (5, .i (↑n : Int)), (6, .i ((k : Int)))], ck := [] }) := by
  intro m
  induction m with
  | zero => ?_
  | succ m ih => ?_
  all_goals
    intro k hmk hk
    refine J.go (cfg := cfgE8) cfgE8_ok Tryz.func20 1000 (t := (.ite (decide ((↑k : Int) < (↑n : Int))) (.need ((0 : Int) ≤ (↑k : Int) ∧ (↑k : Int) < (↑(List.length (Chart.vars c)) : Int)) (.ite (varE (ETy.get .var (Chart.vars c) k) != (0 : Int)) (.ret (.i (varE (ETy.get .var (Chart.vars c) k))) []) (.stop [.code [1, 0, 1, 0, 0], .inLoop [1, 0, 1, 0, 0], .inBlock 0, .code [1, 1]] { n := 16, fr := [(1, .p (PD.fnAt [(36, [.ref .chart c 0])] 0)), (2, .i (0 : Int)), (5, .i (↑n : Int)), (6, .i (IntKind.wrap .i64 ((↑k : Int) + (1 : Int))))], ck := [] }))) (.ret (.i (0 : Int)) []))) (by kernel_rfl) ?_
    refine ⟨fun hlt => ?_, fun hge => ?_⟩
    · have hk' : k < n := by have := of_decide_eq_true hlt; omega
      rw [firstE_succ _ hk']
      refine ⟨⟨by omega, by omega⟩, fun hb => ?_, fun hb => ?_⟩
      · rw [if_pos (by exact hb)]; exact ⟨rfl, rfl⟩
      · rw [if_neg (by rw [show _ = false from hb]; decide)]
        rw [wrapK (maxLen_lt hk' hm)]
        first | (exfalso; omega) | exact ih (k + 1) (by omega) (by omega)
    · have hke : n - k = 0 := by have := of_decide_eq_false hge; omega
      rw [hke]; exact ⟨rfl, rfl⟩
theorem e8_nat (c : Chart) (n : Nat) (hn : n ≤ c.vars.length) (hm : n ≤ maxLen) : Does Tryz.prog 20 [.p (.ref .int (n : Int) 0), .p (.fnAt [(36, [.ref .chart c 0])] 0)] [] (.x (.i (firstE (fun k : Nat => varE (ETy.get .var c.vars k)) 0 n))) [] := by
  refine Does.go (cfg := cfgE8) cfgE8_ok Tryz.func20 (by kernel_rfl) (by kernel_rfl) (t := (.stop [.code [1, 0, 1, 0, 0], .inLoop [1, 0, 1, 0, 0], .inBlock 0, .code [1, 1]] { n := 16, fr := [(1, .p (PD.fnAt [(36, [.ref .chart c 0])] 0)), (2, .i (0 : Int)), (5, .i (↑n : Int)), (6, .i (0 : Int))], ck := [] })) (by kernel_rfl) fun Γ => ?_
  exact e8_loop c n Γ hn hm n 0 (by omega) (by omega)
theorem e8_spec (c : Chart) (n : Int) (h : n = (c.vars.length : Int)) (hm : c.vars.length ≤ maxLen) : Does Tryz.prog 20 [.p (.ref .int n 0), .p (.fnAt [(36, [.ref .chart c 0])] 0)] [] (.x (.i (firstE (fun k : Nat => varE (ETy.get .var c.vars k)) 0 c.vars.length))) [] := by
  subst h
  exact e8_nat c _ (Nat.le_refl _) hm
def cfgE9 : Cfg := ⟨tys0, [eQ9]⟩
theorem cfgE9_ok : TabOk Tryz.prog cfgE9.tab := (TabOk.cons eQ9_ok TabOk.nil)

theorem e9_loop (c : Chart) (n : Nat) (Γ : Ctx) (hn : n ≤ c.states.length) (hm : n ≤ maxLen) : ∀ (m k : Nat), n - k ≤ m → k ≤ n →
    J Tryz.prog 20 (bodyOf Tryz.f20) Γ (Eq2 (.x (.i (firstE (fun k : Nat => blocksE c (ETy.get .stat c.states k)) k (n - k)))) []) [.code [1, 0, 1, 0, 0], .inLoop [1, 0, 1, 0, 0], .inBlock 0, .code [1, 1]] ({ n := 16, fr := [(1, .p (PD.fnAt [(38, [.ref .chart c 0])] 0)), (2, .i (0 : Int)), (5, .i (↑n : Int)), (6, .i ((k : Int)))], ck := [] }) := by
  intro m
  induction m with
  | zero => ?_
  | succ m ih => ?_
  all_goals
    intro k hmk hk
    refine J.go (cfg := cfgE9) cfgE9_ok Tryz.func20 1000 (t := (.ite (decide ((↑k : Int) < (↑n : Int))) (.need ((0 : Int) ≤ (↑k : Int) ∧ (↑k : Int) < (↑(List.length (Chart.states c)) : Int)) (.ite (blocksE c (ETy.get .stat (Chart.states c) k) != (0 : Int)) (.ret (.i (blocksE c (ETy.get .stat (Chart.states c) k))) []) (.stop [.code [1, 0, 1, 0, 0], .inLoop [1, 0, 1, 0, 0], .inBlock 0, .code [1, 1]] { n := 16, fr := [(1, .p (PD.fnAt [(38, [.ref .chart c 0])] 0)), (2, .i (0 : Int)), (5, .i (↑n : Int)), (6, .i (IntKind.wrap .i64 ((↑k : Int) + (1 : Int))))], ck := [] }))) (.ret (.i (0 : Int)) []))) (by kernel_rfl) ?_
    refine ⟨fun hlt => ?_, fun hge => ?_⟩
    · have hk' : k < n := by have := of_decide_eq_true hlt; omega
      rw [firstE_succ _ hk']
      refine ⟨⟨by omega, by omega⟩, fun hb => ?_, fun hb => ?_⟩
      · rw [if_pos (by exact hb)]; exact ⟨rfl, rfl⟩
      · rw [if_neg (by rw [show _ = false from hb]; decide)]
        rw [wrapK (maxLen_lt hk' hm)]
        first | (exfalso; omega) | exact ih (k + 1) (by omega) (by omega)
    · have hke : n - k = 0 := by have := of_decide_eq_false hge; omega
      rw [hke]; exact ⟨rfl, rfl⟩
theorem e9_nat (c : Chart) (n : Nat) (hn : n ≤ c.states.length) (hm : n ≤ maxLen) : Does Tryz.prog 20 [.p (.ref .int (n : Int) 0), .p (.fnAt [(38, [.ref .chart c 0])] 0)] [] (.x (.i (firstE (fun k : Nat => blocksE c (ETy.get .stat c.states k)) 0 n))) [] := by
  refine Does.go (cfg := cfgE9) cfgE9_ok Tryz.func20 (by kernel_rfl) (by kernel_rfl) (t := (.stop [.code [1, 0, 1, 0, 0], .inLoop [1, 0, 1, 0, 0], .inBlock 0, .code [1, 1]] { n := 16, fr := [(1, .p (PD.fnAt [(38, [.ref .chart c 0])] 0)), (2, .i (0 : Int)), (5, .i (↑n : Int)), (6, .i (0 : Int))], ck := [] })) (by kernel_rfl) fun Γ => ?_
  exact e9_loop c n Γ hn hm n 0 (by omega) (by omega)
theorem e9_spec (c : Chart) (n : Int) (h : n = (c.states.length : Int)) (hm : c.states.length ≤ maxLen) : Does Tryz.prog 20 [.p (.ref .int n 0), .p (.fnAt [(38, [.ref .chart c 0])] 0)] [] (.x (.i (firstE (fun k : Nat => blocksE c (ETy.get .stat c.states k)) 0 c.states.length))) [] := by
  subst h
  exact e9_nat c _ (Nat.le_refl _) hm
def cfgE10 : Cfg := ⟨tys0, [eQ10]⟩
theorem cfgE10_ok : TabOk Tryz.prog cfgE10.tab := (TabOk.cons eQ10_ok TabOk.nil)

theorem e10_loop (c : Chart) (l : List Str) (n : Nat) (Γ : Ctx) (hn : n ≤ c.trans.length) (h0 : c.states.length ≤ maxLen) (h1 : c.trans.length ≤ maxLen) (hm : n ≤ maxLen) : ∀ (m k : Nat), n - k ≤ m → k ≤ n →
    J Tryz.prog 20 (bodyOf Tryz.f20) Γ (Eq2 (.x (.i (firstE (fun k : Nat => transE c k l (ETy.get .tran c.trans k)) k (n - k)))) []) [.code [1, 0, 1, 0, 0], .inLoop [1, 0, 1, 0, 0], .inBlock 0, .code [1, 1]] ({ n := 16, fr := [(1, .p (PD.fnAt [(40, [.ref .chart c 0, .ref .strs l 0])] 0)), (2, .i (0 : Int)), (5, .i (↑n : Int)), (6, .i ((k : Int)))], ck := [] }) := by
  intro m
  induction m with
  | zero => ?_
  | succ m ih => ?_
  all_goals
    intro k hmk hk
    refine J.go (cfg := cfgE10) cfgE10_ok Tryz.func20 1000 (t := (.ite (decide ((↑k : Int) < (↑n : Int))) (.need ((0 : Int) ≤ (↑k : Int) ∧ (↑k : Int) < (↑(List.length (Chart.trans c)) : Int) ∧ List.length (Chart.states c) ≤ maxLen ∧ List.length (Chart.trans c) ≤ maxLen) (.ite (transE c k l (ETy.get .tran (Chart.trans c) k) != (0 : Int)) (.ret (.i (transE c k l (ETy.get .tran (Chart.trans c) k))) []) (.stop [.code [1, 0, 1, 0, 0], .inLoop [1, 0, 1, 0, 0], .inBlock 0, .code [1, 1]] { n := 16, fr := [(1, .p (PD.fnAt [(40, [.ref .chart c 0, .ref .strs l 0])] 0)), (2, .i (0 : Int)), (5, .i (↑n : Int)), (6, .i (IntKind.wrap .i64 ((↑k : Int) + (1 : Int))))], ck := [] }))) (.ret (.i (0 : Int)) []))) (by kernel_rfl) ?_
    refine ⟨fun hlt => ?_, fun hge => ?_⟩
    · have hk' : k < n := by have := of_decide_eq_true hlt; omega
      rw [firstE_succ _ hk']
      refine ⟨⟨by omega, by omega, h0, h1⟩, fun hb => ?_, fun hb => ?_⟩
      · rw [if_pos (by exact hb)]; exact ⟨rfl, rfl⟩
      · rw [if_neg (by rw [show _ = false from hb]; decide)]
        rw [wrapK (maxLen_lt hk' hm)]
        first | (exfalso; omega) | exact ih (k + 1) (by omega) (by omega)
    · have hke : n - k = 0 := by have := of_decide_eq_false hge; omega
      rw [hke]; exact ⟨rfl, rfl⟩
theorem e10_nat (c : Chart) (l : List Str) (n : Nat) (hn : n ≤ c.trans.length) (h0 : c.states.length ≤ maxLen) (h1 : c.trans.length ≤ maxLen) (hm : n ≤ maxLen) : Does Tryz.prog 20 [.p (.ref .int (n : Int) 0), .p (.fnAt [(40, [.ref .chart c 0, .ref .strs l 0])] 0)] [] (.x (.i (firstE (fun k : Nat => transE c k l (ETy.get .tran c.trans k)) 0 n))) [] := by
  refine Does.go (cfg := cfgE10) cfgE10_ok Tryz.func20 (by kernel_rfl) (by kernel_rfl) (t := (.stop [.code [1, 0, 1, 0, 0], .inLoop [1, 0, 1, 0, 0], .inBlock 0, .code [1, 1]] { n := 16, fr := [(1, .p (PD.fnAt [(40, [.ref .chart c 0, .ref .strs l 0])] 0)), (2, .i (0 : Int)), (5, .i (↑n : Int)), (6, .i (0 : Int))], ck := [] })) (by kernel_rfl) fun Γ => ?_
  exact e10_loop c l n Γ hn h0 h1 hm n 0 (by omega) (by omega)
theorem e10_spec (c : Chart) (l : List Str) (n : Int) (h : n = (c.trans.length : Int)) (h0 : c.states.length ≤ maxLen) (h1 : c.trans.length ≤ maxLen) (hm : c.trans.length ≤ maxLen) : Does Tryz.prog 20 [.p (.ref .int n 0), .p (.fnAt [(40, [.ref .chart c 0, .ref .strs l 0])] 0)] [] (.x (.i (firstE (fun k : Nat => transE c k l (ETy.get .tran c.trans k)) 0 c.trans.length))) [] := by
  subst h
  exact e10_nat c l _ (Nat.le_refl _) h0 h1 hm
def eE7 : Nat × (List SX → List Chunk → Option (Option Prop × SV × List Chunk)) := (20, fun
  | [.c (.pd (.ref .int n 0)), .c (.pd (.fnAt [(34, [.ref .chart c 0])] 0))], [] => some (some (n = (c.states.length : Int) ∧ c.states.length ≤ maxLen), .x (.c (.pd (.int .i64 (firstE (fun k : Nat => initE c.states k) 0 c.states.length)))), [])
  | _, _ => none)
theorem eE7_ok (vs : List SX) (ck : List Chunk) (p : Option Prop) (ret : SV) (ck' : List Chunk) (h : eE7.2 vs ck = some (p, ret, ck')) (hp : Holds p) : Does Tryz.prog eE7.1 vs ck ret ck' := by
  unfold eE7 at h
  simp only at h
  split at h
  · rename_i n c
    simp only [Option.some.injEq, Prod.mk.injEq] at h
    obtain ⟨rfl, rfl, rfl⟩ := h
    exact e7_spec c n hp.1 hp.2 hp.2
  · simp at h
def eE8 : Nat × (List SX → List Chunk → Option (Option Prop × SV × List Chunk)) := (20, fun
  | [.c (.pd (.ref .int n 0)), .c (.pd (.fnAt [(36, [.ref .chart c 0])] 0))], [] => some (some (n = (c.vars.length : Int) ∧ c.vars.length ≤ maxLen), .x (.c (.pd (.int .i64 (firstE (fun k : Nat => varE (ETy.get .var c.vars k)) 0 c.vars.length)))), [])
  | _, _ => none)
theorem eE8_ok (vs : List SX) (ck : List Chunk) (p : Option Prop) (ret : SV) (ck' : List Chunk) (h : eE8.2 vs ck = some (p, ret, ck')) (hp : Holds p) : Does Tryz.prog eE8.1 vs ck ret ck' := by
  unfold eE8 at h
  simp only at h
  split at h
  · rename_i n c
    simp only [Option.some.injEq, Prod.mk.injEq] at h
    obtain ⟨rfl, rfl, rfl⟩ := h
    exact e8_spec c n hp.1 hp.2
  · simp at h
def eE9 : Nat × (List SX → List Chunk → Option (Option Prop × SV × List Chunk)) := (20, fun
  | [.c (.pd (.ref .int n 0)), .c (.pd (.fnAt [(38, [.ref .chart c 0])] 0))], [] => some (some (n = (c.states.length : Int) ∧ c.states.length ≤ maxLen), .x (.c (.pd (.int .i64 (firstE (fun k : Nat => blocksE c (ETy.get .stat c.states k)) 0 c.states.length)))), [])
  | _, _ => none)
theorem eE9_ok (vs : List SX) (ck : List Chunk) (p : Option Prop) (ret : SV) (ck' : List Chunk) (h : eE9.2 vs ck = some (p, ret, ck')) (hp : Holds p) : Does Tryz.prog eE9.1 vs ck ret ck' := by
  unfold eE9 at h
  simp only at h
  split at h
  · rename_i n c
    simp only [Option.some.injEq, Prod.mk.injEq] at h
    obtain ⟨rfl, rfl, rfl⟩ := h
    exact e9_spec c n hp.1 hp.2
  · simp at h
def eE10 : Nat × (List SX → List Chunk → Option (Option Prop × SV × List Chunk)) := (20, fun
  | [.c (.pd (.ref .int n 0)), .c (.pd (.fnAt [(40, [.ref .chart c 0, .ref .strs l 0])] 0))], [] => some (some (n = (c.trans.length : Int) ∧ c.states.length ≤ maxLen ∧ c.trans.length ≤ maxLen), .x (.c (.pd (.int .i64 (firstE (fun k : Nat => transE c k l (ETy.get .tran c.trans k)) 0 c.trans.length)))), [])
  | _, _ => none)
theorem eE10_ok (vs : List SX) (ck : List Chunk) (p : Option Prop) (ret : SV) (ck' : List Chunk) (h : eE10.2 vs ck = some (p, ret, ck')) (hp : Holds p) : Does Tryz.prog eE10.1 vs ck ret ck' := by
  unfold eE10 at h
  simp only at h
  split at h
  · rename_i n c l
    simp only [Option.some.injEq, Prod.mk.injEq] at h
    obtain ⟨rfl, rfl, rfl⟩ := h
    exact e10_spec c l n hp.1 hp.2.1 hp.2.2 hp.2.2
  · simp at h
end Go.Proofs.YtcpnicfkpkonkaaGreatDoor

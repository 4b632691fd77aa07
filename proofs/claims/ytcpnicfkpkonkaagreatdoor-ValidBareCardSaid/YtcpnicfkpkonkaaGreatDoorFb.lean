/- Contracts of the program's functions on kinds. Conditions: none. -/
import Derived.Test.YtcpnicfkpkonkaaGreatDoorFa
namespace Go.Proofs.YtcpnicfkpkonkaaGreatDoor
open Go Go.Ev
set_option maxRecDepth 100000

theorem rows_spec : Does Tryz.prog 184 [] [] (.x (.c (.own 0))) [.own 213 .krow krows] := by
  refine Does.go (cfg := cfg0) cfg0_ok Tryz.func184 (by kernel_rfl) (by kernel_rfl) (t := (.ret (.x (.c (.own 0))) [.own 213 .krow [{ low := (7 : Int), high := (7 : Int), left := (1 : Int), right := (0 : Int), out := (1 : Int) }, { low := (7 : Int), high := (7 : Int), left := (3 : Int), right := (0 : Int), out := (3 : Int) }, { low := (8 : Int), high := (8 : Int), left := (2 : Int), right := (0 : Int), out := (2 : Int) }, { low := (9 : Int), high := (10 : Int), left := (3 : Int), right := (0 : Int), out := (1 : Int) }, { low := (11 : Int), high := (15 : Int), left := (1 : Int), right := (1 : Int), out := (1 : Int) }, { low := (11 : Int), high := (13 : Int), left := (3 : Int), right := (3 : Int), out := (3 : Int) }, { low := (16 : Int), high := (21 : Int), left := (1 : Int), right := (1 : Int), out := (2 : Int) }, { low := (16 : Int), high := (17 : Int), left := (2 : Int), right := (2 : Int), out := (2 : Int) }, { low := (16 : Int), high := (17 : Int), left := (3 : Int), right := (3 : Int), out := (2 : Int) }, { low := (22 : Int), high := (23 : Int), left := (2 : Int), right := (2 : Int), out := (2 : Int) }]])) (by kernel_rfl) fun Γ => ?_
  exact ⟨rfl, rfl⟩
def eRows : Nat × (List SX → List Chunk → Option (Option Prop × SV × List Chunk)) := (184, fun
  | [], [] => some (none, .x (.c (.own 0)), [.own 213 .krow krows])
  | _, _ => none)
theorem eRows_ok (vs : List SX) (ck : List Chunk) (p : Option Prop) (ret : SV) (ck' : List Chunk) (h : eRows.2 vs ck = some (p, ret, ck')) (hp : Holds p) : Does Tryz.prog eRows.1 vs ck ret ck' := by
  unfold eRows at h
  simp only at h
  split at h
  · simp only [Option.some.injEq, Prod.mk.injEq] at h
    obtain ⟨rfl, rfl, rfl⟩ := h
    exact rows_spec
  · simp at h
def cfgRows : Cfg := ⟨tys0, [eRows]⟩
theorem cfgRows_ok : TabOk Tryz.prog cfgRows.tab := (TabOk.cons eRows_ok TabOk.nil)

theorem made_loop (op l r : Int) (ks : List KRow) (Γ : Ctx) (hl : ks.length ≤ 100) : ∀ (n k : Nat), ks.length - k ≤ n → k ≤ ks.length →
    J Tryz.prog 137 (bodyOf Tryz.f137) Γ (Eq2 (.x (.i (madeGo op l r (ks.drop k)))) []) [.code [1, 0, 1, 0, 0], .inLoop [1, 0, 1, 0, 0], .inBlock 0, .code [1, 1]] ({ n := 40, fr := [(0, .i op), (1, .i l), (2, .i r), (6, .i (0 : Int)), (9, .x (.c (.own 0))), (10, .i (ks.length)), (11, .i (k))], ck := [.own 213 .krow ks] }) := by
  intro n
  induction n with
  | zero => ?_
  | succ n ih => ?_
  all_goals
    intro k hn hk
    refine J.go (cfg := cfg0) cfg0_ok Tryz.func137 1000 (t := (.ite (decide ((↑k : Int) < (↑(List.length ks) : Int))) (.need ((0 : Int) ≤ (↑k : Int) ∧ (↑k : Int) < (↑(List.length ks) : Int)) (.need (k < List.length ks) (.ite (decide (op ≥ KRow.low (ETy.get .krow ks k)) && decide (op ≤ KRow.high (ETy.get .krow ks k)) && l == KRow.left (ETy.get .krow ks k) && r == KRow.right (ETy.get .krow ks k)) (.ret (.i (KRow.out (ETy.get .krow ks k))) []) (.stop [.code [1, 0, 1, 0, 0], .inLoop [1, 0, 1, 0, 0], .inBlock 0, .code [1, 1]] { n := 40, fr := [(0, .i op), (1, .i l), (2, .i r), (6, .i (0 : Int)), (9, .x (.c (.own 0))), (10, .i (↑(List.length ks) : Int)), (11, .i (IntKind.wrap .i64 ((↑k : Int) + (1 : Int))))], ck := [.own 213 .krow ks] })))) (.ret (.i (0 : Int)) []))) (by kernel_rfl) ?_
    refine ⟨fun hlt => ?_, fun hge => ⟨?_, rfl⟩⟩
    · have hk' : k < ks.length := by have := of_decide_eq_true hlt; omega
      rw [drop_get (t := .krow) hk']
      refine ⟨by omega, hk', ?_⟩
      generalize ETy.get .krow ks k = c
      refine ⟨fun hb => ⟨?_, rfl⟩, fun hb => ?_⟩
      · have hb' : fitsK op l r c = true := hb
        simp only [madeGo, hb', cond_true]
      · have hb' : fitsK op l r c = false := hb
        simp only [madeGo, hb', cond_false]
        rw [wrapK (by omega)]
        first
        | (exfalso; omega)
        | exact ih (k + 1) (by omega) (by omega)
    · rw [drop_end (by have := of_decide_eq_false hge; omega)]; rfl
theorem made_spec (op l r : Int) : Does Tryz.prog 137 [.i op, .i l, .i r] [] (.x (.i (madeM op l r))) [] := by
  refine Does.go (cfg := cfgRows) cfgRows_ok Tryz.func137 (by kernel_rfl) (by kernel_rfl) (t := (.stop [.code [1, 0, 1, 0, 0], .inLoop [1, 0, 1, 0, 0], .inBlock 0, .code [1, 1]] { n := 40, fr := [(0, .i op), (1, .i l), (2, .i r), (6, .i (0 : Int)), (9, .x (.c (.own 0))), (10, .i (↑(10 : Nat) : Int)), (11, .i (0 : Int))], ck := [.own 213 .krow [{ low := (7 : Int), high := (7 : Int), left := (1 : Int), right := (0 : Int), out := (1 : Int) }, { low := (7 : Int), high := (7 : Int), left := (3 : Int), right := (0 : Int), out := (3 : Int) }, { low := (8 : Int), high := (8 : Int), left := (2 : Int), right := (0 : Int), out := (2 : Int) }, { low := (9 : Int), high := (10 : Int), left := (3 : Int), right := (0 : Int), out := (1 : Int) }, { low := (11 : Int), high := (15 : Int), left := (1 : Int), right := (1 : Int), out := (1 : Int) }, { low := (11 : Int), high := (13 : Int), left := (3 : Int), right := (3 : Int), out := (3 : Int) }, { low := (16 : Int), high := (21 : Int), left := (1 : Int), right := (1 : Int), out := (2 : Int) }, { low := (16 : Int), high := (17 : Int), left := (2 : Int), right := (2 : Int), out := (2 : Int) }, { low := (16 : Int), high := (17 : Int), left := (3 : Int), right := (3 : Int), out := (2 : Int) }, { low := (22 : Int), high := (23 : Int), left := (2 : Int), right := (2 : Int), out := (2 : Int) }]] })) (by kernel_rfl) fun Γ => ?_
  exact made_loop op l r krows Γ (by decide) krows.length 0 (by omega) (by omega)
def eMade : Nat × (List SX → List Chunk → Option (Option Prop × SV × List Chunk)) := (137, fun
  | [.c (.pd (.int .i64 op)), .c (.pd (.int .i64 l)), .c (.pd (.int .i64 r))], [] => some (none, .x (.c (.pd (.int .i64 (madeM op l r)))), [])
  | _, _ => none)
theorem eMade_ok (vs : List SX) (ck : List Chunk) (p : Option Prop) (ret : SV) (ck' : List Chunk) (h : eMade.2 vs ck = some (p, ret, ck')) (hp : Holds p) : Does Tryz.prog eMade.1 vs ck ret ck' := by
  unfold eMade at h
  simp only at h
  split at h
  · rename_i op l r
    simp only [Option.some.injEq, Prod.mk.injEq] at h
    obtain ⟨rfl, rfl, rfl⟩ := h
    exact made_spec op l r
  · simp at h

theorem firstAt_iff {α : Type} (p : α → Bool) : ∀ (l : List α) (i : Int), 0 ≤ i → (firstAt p l i ≥ 0 ↔ l.any p = true)
  | [], i, _ => by simp [firstAt]
  | x :: r, i, h => by
    have ih := firstAt_iff p r (i + 1) (by omega)
    unfold firstAt
    rw [List.any_cons]
    cases hp : p x
    · simpa using ih
    · simpa using h
theorem firstAt_any {α : Type} (p : α → Bool) (l : List α) (i : Int) (h : 0 ≤ i) : decide (firstAt p l i ≥ 0) = l.any p := by
  have := firstAt_iff p l i h
  cases hl : l.any p
  · rw [hl] at this; exact decide_eq_false (fun h2 => by simp at this; omega)
  · rw [hl] at this; exact decide_eq_true (this.2 rfl)
theorem cl_spec (v : Var) (c : Cell) : Does Tryz.prog 183 [.e .var v, .p (.ref .cell c 0)] [] (.x (.b (v.name == c.name))) [] := by
  refine Does.go (cfg := cfg0) cfg0_ok Tryz.func183 (by kernel_rfl) (by kernel_rfl) (t := (.ret (.p (.bool (Var.name v == Cell.name c))) [])) (by kernel_rfl) fun Γ => ⟨rfl, rfl⟩
def eCl : Nat × (List SX → List Chunk → Option (Option Prop × SV × List Chunk)) := (183, fun
  | [.agg [.pd (.str a), .pd (.int .i64 b), .pd (.int .i64 d), .pd (.int .i64 e), .pd (.int .i64 f), .pd (.int .i64 g), .pd (.int .i64 h)], .c (.pd (.ref .cell c 0))], [] => some (none, .x (.c (.pd (.bool (a == c.name)))), [])
  | _, _ => none)
theorem eCl_ok (vs : List SX) (ck : List Chunk) (p : Option Prop) (ret : SV) (ck' : List Chunk) (h : eCl.2 vs ck = some (p, ret, ck')) (hp : Holds p) : Does Tryz.prog eCl.1 vs ck ret ck' := by
  unfold eCl at h
  simp only at h
  split at h
  · rename_i a b d e f g h c
    simp only [Option.some.injEq, Prod.mk.injEq] at h
    obtain ⟨rfl, rfl, rfl⟩ := h
    exact cl_spec ⟨a, b, d, e, ⟨f, g, h⟩⟩ c
  · simp at h
def cfgCl : Cfg := ⟨tys0, [eCl]⟩
theorem cfgCl_ok : TabOk Tryz.prog cfgCl.tab := (TabOk.cons eCl_ok TabOk.nil)

theorem ix_loop (vs : List Var) (c : Cell) (Γ : Ctx) (hl : vs.length ≤ maxLen) : ∀ (n k : Nat), vs.length - k ≤ n → k ≤ vs.length →
    J Tryz.prog 132 (bodyOf Tryz.f132) Γ (Eq2 (.x (.i (firstAt (fun v : Var => v.name == c.name) (vs.drop k) k))) []) [.code [1, 0, 1, 0, 0], .inLoop [1, 0, 1, 0, 0], .inBlock 0, .code [1, 1]] ({ n := 19, fr := [(0, .p (.lst .var vs)), (1, .x (.c (.fn (.func 183) [] [.pd (.ref .cell c 0)]))), (4, .i (0 : Int)), (7, .i (↑(List.length vs) : Int)), (8, .i (k))], ck := [] }) := by
  intro n
  induction n with
  | zero => ?_
  | succ n ih => ?_
  all_goals
    intro k hn hk
    refine J.go (cfg := cfgCl) cfgCl_ok Tryz.func132 1000 (t := (.ite (decide ((↑k : Int) < (↑(List.length vs) : Int))) (.need ((0 : Int) ≤ (↑k : Int) ∧ (↑k : Int) < (↑(List.length vs) : Int)) (.ite (Var.name (ETy.get .var vs k) == Cell.name c) (.ret (.i (↑k : Int)) []) (.stop [.code [1, 0, 1, 0, 0], .inLoop [1, 0, 1, 0, 0], .inBlock 0, .code [1, 1]] { n := 19, fr := [(0, .p (.lst .var vs)), (1, .x (.c (.fn (.func 183) [] [.pd (.ref .cell c 0)]))), (4, .i (0 : Int)), (7, .i (↑(List.length vs) : Int)), (8, .i (IntKind.wrap .i64 ((↑k : Int) + (1 : Int))))], ck := [] }))) (.ret (.i (-1 : Int)) []))) (by kernel_rfl) ?_
    refine ⟨fun hlt => ?_, fun hge => ⟨?_, rfl⟩⟩
    · have hk' : k < vs.length := by have := of_decide_eq_true hlt; omega
      rw [drop_get (t := .var) hk']
      refine ⟨by omega, ?_⟩
      generalize ETy.get .var vs k = v
      refine ⟨fun hb => ⟨?_, rfl⟩, fun hb => ?_⟩
      · simp only [firstAt, hb, cond_true]
      · simp only [firstAt, hb, cond_false]
        rw [wrapK (maxLen_lt hk' hl)]
        first
        | (exfalso; omega)
        | exact ih (k + 1) (by omega) (by omega)
    · rw [drop_end (by have := of_decide_eq_false hge; omega)]; rfl
theorem ix_spec (vs : List Var) (c : Cell) : Does Tryz.prog 132 [.l .var vs, .c (.fn (.func 183) [] [.pd (.ref .cell c 0)])] [] (.x (.i (firstAt (fun v : Var => v.name == c.name) vs 0))) [] := by
  refine Does.go (cfg := cfgCl) cfgCl_ok Tryz.func132 (by kernel_rfl) (by kernel_rfl) (t := (.stop [.code [1, 0, 1, 0, 0], .inLoop [1, 0, 1, 0, 0], .inBlock 0, .code [1, 1]] { n := 19, fr := [(0, .p (.lst .var vs)), (1, .x (.c (.fn (.func 183) [] [.pd (.ref .cell c 0)]))), (4, .i (0 : Int)), (7, .i (↑(List.length vs) : Int)), (8, .i (0 : Int))], ck := [] })) (by kernel_rfl) fun Γ => ?_
  exact J.len 0 rfl fun hl => ix_loop vs c Γ hl vs.length 0 (by omega) (by omega)
def eIx : Nat × (List SX → List Chunk → Option (Option Prop × SV × List Chunk)) := (132, fun
  | [.c (.pd (.lst .var vs)), .c (.fn (.func 183) [] [.pd (.ref .cell c 0)])], [] => some (none, .x (.c (.pd (.int .i64 (firstAt (fun v : Var => v.name == c.name) vs 0)))), [])
  | _, _ => none)
theorem eIx_ok (vs : List SX) (ck : List Chunk) (p : Option Prop) (ret : SV) (ck' : List Chunk) (h : eIx.2 vs ck = some (p, ret, ck')) (hp : Holds p) : Does Tryz.prog eIx.1 vs ck ret ck' := by
  unfold eIx at h
  simp only at h
  split at h
  · rename_i vs c
    simp only [Option.some.injEq, Prod.mk.injEq] at h
    obtain ⟨rfl, rfl, rfl⟩ := h
    exact ix_spec vs c
  · simp at h

theorem si_loop (l : List Str) (s : Str) (Γ : Ctx) (hl : l.length ≤ maxLen) : ∀ (n k : Nat), l.length - k ≤ n → k ≤ l.length →
    J Tryz.prog 181 (bodyOf Tryz.f181) Γ (Eq2 (.x (.i (firstAt (fun x => s == x) (l.drop k) k))) []) [.code [1, 0, 1, 0, 0], .inLoop [1, 0, 1, 0, 0], .inBlock 0, .code [1, 1]] ({ n := 19, fr := [(0, .p (.lst .str l)), (1, .p (.str s)), (4, .i (0 : Int)), (7, .i (↑(List.length l) : Int)), (8, .i (k))], ck := [] }) := by
  intro n
  induction n with
  | zero => ?_
  | succ n ih => ?_
  all_goals
    intro k hn hk
    refine J.go (cfg := cfg0) cfg0_ok Tryz.func181 1000 (t := (.ite (decide ((↑k : Int) < (↑(List.length l) : Int))) (.need ((0 : Int) ≤ (↑k : Int) ∧ (↑k : Int) < (↑(List.length l) : Int)) (.ite (s == ETy.get .str l k) (.ret (.i (↑k : Int)) []) (.stop [.code [1, 0, 1, 0, 0], .inLoop [1, 0, 1, 0, 0], .inBlock 0, .code [1, 1]] { n := 19, fr := [(0, .p (.lst .str l)), (1, .p (.str s)), (4, .i (0 : Int)), (7, .i (↑(List.length l) : Int)), (8, .i (IntKind.wrap .i64 ((↑k : Int) + (1 : Int))))], ck := [] }))) (.ret (.i (-1 : Int)) []))) (by kernel_rfl) ?_
    refine ⟨fun hlt => ?_, fun hge => ⟨?_, rfl⟩⟩
    · have hk' : k < l.length := by have := of_decide_eq_true hlt; omega
      rw [drop_get (t := .str) hk']
      refine ⟨by omega, ?_⟩
      generalize ETy.get .str l k = v
      refine ⟨fun hb => ⟨?_, rfl⟩, fun hb => ?_⟩
      · simp only [firstAt, hb, cond_true]
      · simp only [firstAt, hb, cond_false]
        rw [wrapK (maxLen_lt hk' hl)]
        first
        | (exfalso; omega)
        | exact ih (k + 1) (by omega) (by omega)
    · rw [drop_end (by have := of_decide_eq_false hge; omega)]; rfl
theorem si_spec (l : List Str) (s : Str) : Does Tryz.prog 181 [.l .str l, .s s] [] (.x (.i (firstAt (fun x => s == x) l 0))) [] := by
  refine Does.go (cfg := cfg0) cfg0_ok Tryz.func181 (by kernel_rfl) (by kernel_rfl) (t := (.stop [.code [1, 0, 1, 0, 0], .inLoop [1, 0, 1, 0, 0], .inBlock 0, .code [1, 1]] { n := 19, fr := [(0, .p (.lst .str l)), (1, .p (.str s)), (4, .i (0 : Int)), (7, .i (↑(List.length l) : Int)), (8, .i (0 : Int))], ck := [] })) (by kernel_rfl) fun Γ => ?_
  exact J.len 0 rfl fun hl => si_loop l s Γ hl l.length 0 (by omega) (by omega)
def eSi : Nat × (List SX → List Chunk → Option (Option Prop × SV × List Chunk)) := (181, fun
  | [.c (.pd (.lst .str l)), .c (.pd (.str s))], [] => some (none, .x (.c (.pd (.int .i64 (firstAt (fun x => s == x) l 0)))), [])
  | _, _ => none)
theorem eSi_ok (vs : List SX) (ck : List Chunk) (p : Option Prop) (ret : SV) (ck' : List Chunk) (h : eSi.2 vs ck = some (p, ret, ck')) (hp : Holds p) : Does Tryz.prog eSi.1 vs ck ret ck' := by
  unfold eSi at h
  simp only at h
  split at h
  · rename_i l s
    simp only [Option.some.injEq, Prod.mk.injEq] at h
    obtain ⟨rfl, rfl, rfl⟩ := h
    exact si_spec l s
  · simp at h
def cfgSi : Cfg := ⟨tys0, [eSi]⟩
theorem cfgSi_ok : TabOk Tryz.prog cfgSi.tab := (TabOk.cons eSi_ok TabOk.nil)
theorem sc_spec (l : List Str) (s : Str) : Does Tryz.prog 131 [.l .str l, .s s] [] (.x (.b (l.any fun x => s == x))) [] := by
  refine Does.go (cfg := cfgSi) cfgSi_ok Tryz.func131 (by kernel_rfl) (by kernel_rfl) (t := (.ret (.p (.bool (decide (firstAt (fun x => s == x) l (0 : Int) ≥ (0 : Int))))) [])) (by kernel_rfl) fun Γ => ⟨?_, rfl⟩
  rw [firstAt_any _ _ _ (by omega)]
def eSc : Nat × (List SX → List Chunk → Option (Option Prop × SV × List Chunk)) := (131, fun
  | [.c (.pd (.lst .str l)), .c (.pd (.str s))], [] => some (none, .x (.c (.pd (.bool (l.any fun x => s == x)))), [])
  | _, _ => none)
theorem eSc_ok (vs : List SX) (ck : List Chunk) (p : Option Prop) (ret : SV) (ck' : List Chunk) (h : eSc.2 vs ck = some (p, ret, ck')) (hp : Holds p) : Does Tryz.prog eSc.1 vs ck ret ck' := by
  unfold eSc at h
  simp only at h
  split at h
  · rename_i l s
    simp only [Option.some.injEq, Prod.mk.injEq] at h
    obtain ⟨rfl, rfl, rfl⟩ := h
    exact sc_spec l s
  · simp at h
def cfgLf : Cfg := ⟨tys0, [eIx, eSc]⟩
theorem cfgLf_ok : TabOk Tryz.prog cfgLf.tab := (TabOk.cons eIx_ok (TabOk.cons eSc_ok TabOk.nil))
theorem firstAt_find {α : Type} (p : α → Bool) : ∀ (l : List α) (i : Nat), (firstAt p l i = -1 ∧ l.find? p = none) ∨ ∃ k x, firstAt p l i = ((i + k : Nat) : Int) ∧ l[k]? = some x ∧ l.find? p = some x
  | [], i => .inl ⟨rfl, rfl⟩
  | x :: r, i => by
    simp only [firstAt, List.find?_cons]
    cases hp : p x
    · rcases firstAt_find p r (i + 1) with ⟨h1, h2⟩ | ⟨k, y, h1, h2, h3⟩
      · exact .inl ⟨h1, h2⟩
      · exact .inr ⟨k + 1, y, by simp only [cond_false]; rw [show (i : Int) + 1 = ((i + 1 : Nat) : Int) from rfl, h1]; omega, by simpa using h2, h3⟩
    · exact .inr ⟨0, x, by simp, by simp, rfl⟩
theorem leaf_spec (c : Cell) (vs : List Var) (ss : List Str) : Does Tryz.prog 136 [.e .cell c, .l .var vs, .l .str ss] [] (intP (leafM c vs ss)) [] := by
  refine Does.go (cfg := cfgLf) cfgLf_ok Tryz.func136 (by kernel_rfl) (by kernel_rfl) (t := (.ite (Cell.op c == (1 : Int)) (.ret (.tup [.i (1 : Int), .i (0 : Int)]) []) (.ite (Cell.op c == (2 : Int)) (.ret (.tup [.i (3 : Int), .i (0 : Int)]) []) (.ite (Cell.op c == (5 : Int)) (.ite (decide (firstAt (fun v => Var.name v == Cell.name { op := Cell.op c, a := Cell.a c, name := Cell.name c }) vs (0 : Int) < (0 : Int))) (.ret (.tup [.i (0 : Int), .i (2 : Int)]) []) (.need ((0 : Int) ≤ firstAt (fun v => Var.name v == Cell.name { op := Cell.op c, a := Cell.a c, name := Cell.name c }) vs (0 : Int) ∧ firstAt (fun v => Var.name v == Cell.name { op := Cell.op c, a := Cell.a c, name := Cell.name c }) vs (0 : Int) < (↑(List.length vs) : Int)) (.ite (decide (Var.kind (ETy.get .var vs (Int.toNat (firstAt (fun v => Var.name v == Cell.name { op := Cell.op c, a := Cell.a c, name := Cell.name c }) vs (0 : Int)))) ≥ (1 : Int)) && decide (Var.kind (ETy.get .var vs (Int.toNat (firstAt (fun v => Var.name v == Cell.name { op := Cell.op c, a := Cell.a c, name := Cell.name c }) vs (0 : Int)))) ≤ (3 : Int))) (.ret (.tup [.i (Var.kind (ETy.get .var vs (Int.toNat (firstAt (fun v => Var.name v == Cell.name { op := Cell.op c, a := Cell.a c, name := Cell.name c }) vs (0 : Int))))), .i (0 : Int)]) []) (.ret (.tup [.i (0 : Int), .i (8 : Int)]) [])))) (.ite (Cell.op c == (6 : Int)) (.ite (!List.any ss fun x => Cell.name c == x) (.ret (.tup [.i (0 : Int), .i (2 : Int)]) []) (.ret (.tup [.i (2 : Int), .i (0 : Int)]) [])) (.ret (.tup [.i (2 : Int), .i (0 : Int)]) [])))))) (by kernel_rfl) fun Γ => ?_
  have hsw : (ss.any fun x => c.name == x) = ss.any fun s => s == c.name := by congr 1; funext x; exact BEq.comm
  refine ⟨fun h1 => ⟨by simp only [leafM, h1, cond_true, intP], rfl⟩, fun h1 => ⟨fun h2 => ⟨by simp only [leafM, h1, h2, cond_true, cond_false, intP], rfl⟩, fun h2 => ⟨fun h5 => ?_, fun h5 => ⟨fun h6 => ⟨fun h => ⟨?_, rfl⟩, fun h => ⟨?_, rfl⟩⟩, fun h6 => ⟨by simp only [leafM, h1, h2, h5, h6, cond_false, intP], rfl⟩⟩⟩⟩⟩
  · show _ ∧ _
    rcases firstAt_find (fun v : Var => v.name == c.name) vs 0 with ⟨g1, g2⟩ | ⟨k, x, g1, g2, g3⟩
    · simp only [Int.natCast_zero] at g1
      rw [g1]
      exact ⟨fun _ => ⟨by simp only [leafM, h1, h2, h5, findVar, g2, cond_true, cond_false, intP], rfl⟩, fun h => by simp at h⟩
    · simp only [Int.natCast_zero, Nat.zero_add] at g1
      have hk := (List.getElem?_eq_some_iff.1 g2).1
      rw [g1]
      refine ⟨fun h => by have := of_decide_eq_true h; omega, fun _ => ⟨by omega, ?_⟩⟩
      rw [Int.toNat_natCast, ETy.get_eq (t := .var) g2]
      exact ⟨fun h => ⟨by simp only [leafM, h1, h2, h5, findVar, g3, h, cond_true, cond_false, intP], rfl⟩, fun h => ⟨by simp only [leafM, h1, h2, h5, findVar, g3, h, cond_true, cond_false, intP], rfl⟩⟩
  · rw [hsw] at h; simp only [leafM, h1, h2, h5, h6, h, cond_true, cond_false, intP]
  · rw [hsw] at h; simp only [leafM, h1, h2, h5, h6, h, cond_true, cond_false, intP]
def eLeaf : Nat × (List SX → List Chunk → Option (Option Prop × SV × List Chunk)) := (136, fun
  | [.agg [.pd (.int .i64 a), .pd (.int .i64 b), .pd (.str d)], .c (.pd (.lst .var vs)), .c (.pd (.lst .str ss))], [] => some (none, intP (leafM ⟨a, b, d⟩ vs ss), [])
  | _, _ => none)
theorem eLeaf_ok (vs : List SX) (ck : List Chunk) (p : Option Prop) (ret : SV) (ck' : List Chunk) (h : eLeaf.2 vs ck = some (p, ret, ck')) (hp : Holds p) : Does Tryz.prog eLeaf.1 vs ck ret ck' := by
  unfold eLeaf at h
  simp only at h
  split at h
  · rename_i a b d vs ss
    simp only [Option.some.injEq, Prod.mk.injEq] at h
    obtain ⟨rfl, rfl, rfl⟩ := h
    exact leaf_spec ⟨a, b, d⟩ vs ss
  · simp at h
end Go.Proofs.YtcpnicfkpkonkaaGreatDoor

/- Contracts: searches over lists, for seats without kinds. Conditions: none. Contracts: what eval's searches find. Conditions: none. -/
import Derived.Test.YtjndellhebidoaaGreatDoorNr
import Derived.Test.YtjndellhebidoaaGreatDoorJc
namespace Go.Proofs.YtjndellhebidoaaGreatDoor
open Go Go.Ev
set_option maxRecDepth 100000
theorem firstAt_iff {α : Type} (p : α → Bool) : ∀ (l : List α) (i : Int), 0 ≤ i → (firstAt p l i ≥ 0 ↔ l.any p = true)
  | [], i, _ => by simp [firstAt]
  | x :: r, i, h => by
    have ih := firstAt_iff p r (i + 1) (by omega)
    unfold firstAt
    rw [List.any_cons]
    cases hp : p x
    · simpa using ih
    · simpa using h
theorem firstAt_any {α : Type} (p : α → Bool) (l : List α) (i : Int) (h : 0 ≤ i) : decide (firstAt p l i ≥ 0) = l.any p := by
  have := firstAt_iff p l i h
  cases hl : l.any p
  · rw [hl] at this; exact decide_eq_false (fun h2 => by simp at this; omega)
  · rw [hl] at this; exact decide_eq_true (this.2 rfl)

theorem si_loop (l : List Str) (s : Str) (Γ : Ctx) (hl : l.length ≤ maxLen) : ∀ (n k : Nat), l.length - k ≤ n → k ≤ l.length →
    J Tryz.prog 86 (bodyOf Tryz.f86) Γ (Eq2 (.x (.i (firstAt (fun x => s == x) (l.drop k) k))) []) [.code [1, 0, 1, 0, 0], .inLoop [1, 0, 1, 0, 0], .inBlock 0, .code [1, 1]] ({ n := 19, fr := [(0, .p (.lst .str l)), (1, .p (.str s)), (4, .i (0 : Int)), (7, .i (↑(List.length l) : Int)), (8, .i (k))], ck := [] }) := by
  intro n
  induction n with
  | zero => ?_
  | succ n ih => ?_
  all_goals
    intro k hn hk
    refine J.go (cfg := cfg0) cfg0_ok Tryz.func86 1000 (t := (.ite (decide ((↑k : Int) < (↑(List.length l) : Int))) (.need ((0 : Int) ≤ (↑k : Int) ∧ (↑k : Int) < (↑(List.length l) : Int)) (.ite (s == ETy.get .str l k) (.ret (.i (↑k : Int)) []) (.stop [.code [1, 0, 1, 0, 0], .inLoop [1, 0, 1, 0, 0], .inBlock 0, .code [1, 1]] { n := 19, fr := [(0, .p (.lst .str l)), (1, .p (.str s)), (4, .i (0 : Int)), (7, .i (↑(List.length l) : Int)), (8, .i (IntKind.wrap .i64 ((↑k : Int) + (1 : Int))))], ck := [] }))) (.ret (.i (-1 : Int)) []))) (by kernel_rfl) ?_
    refine ⟨fun hlt => ?_, fun hge => ⟨?_, rfl⟩⟩
    · have hk' : k < l.length := by have := of_decide_eq_true hlt; omega
      rw [drop_get (t := .str) hk']
      refine ⟨by omega, ?_⟩
      generalize ETy.get .str l k = v
      refine ⟨fun hb => ⟨?_, rfl⟩, fun hb => ?_⟩
      · simp only [firstAt, hb, cond_true]
      · simp only [firstAt, hb, cond_false]
        rw [wrapK (maxLen_lt hk' hl)]
        first
        | (exfalso; omega)
        | exact ih (k + 1) (by omega) (by omega)
    · rw [drop_end (by have := of_decide_eq_false hge; omega)]; rfl
theorem si_spec (l : List Str) (s : Str) : Does Tryz.prog 86 [.l .str l, .s s] [] (.x (.i (firstAt (fun x => s == x) l 0))) [] := by
  refine Does.go (cfg := cfg0) cfg0_ok Tryz.func86 (by kernel_rfl) (by kernel_rfl) (t := (.stop [.code [1, 0, 1, 0, 0], .inLoop [1, 0, 1, 0, 0], .inBlock 0, .code [1, 1]] { n := 19, fr := [(0, .p (.lst .str l)), (1, .p (.str s)), (4, .i (0 : Int)), (7, .i (↑(List.length l) : Int)), (8, .i (0 : Int))], ck := [] })) (by kernel_rfl) fun Γ => ?_
  exact J.len 0 rfl fun hl => si_loop l s Γ hl l.length 0 (by omega) (by omega)
def eSi : Nat × (List SX → List Chunk → Option (Option Prop × SV × List Chunk)) := (86, fun
  | [.c (.pd (.lst .str l)), .c (.pd (.str s))], [] => some (none, .x (.c (.pd (.int .i64 (firstAt (fun x => s == x) l 0)))), [])
  | _, _ => none)
theorem eSi_ok (vs : List SX) (ck : List Chunk) (p : Option Prop) (ret : SV) (ck' : List Chunk) (h : eSi.2 vs ck = some (p, ret, ck')) (hp : Holds p) : Does Tryz.prog eSi.1 vs ck ret ck' := by
  unfold eSi at h
  simp only at h
  split at h
  · rename_i l s
    simp only [Option.some.injEq, Prod.mk.injEq] at h
    obtain ⟨rfl, rfl, rfl⟩ := h
    exact si_spec l s
  · simp at h
def cfgSi : Cfg := ⟨tys0, [eSi]⟩
theorem cfgSi_ok : TabOk Tryz.prog cfgSi.tab := (TabOk.cons eSi_ok TabOk.nil)
theorem sc_spec (l : List Str) (s : Str) : Does Tryz.prog 55 [.l .str l, .s s] [] (.x (.b (l.any fun x => s == x))) [] := by
  refine Does.go (cfg := cfgSi) cfgSi_ok Tryz.func55 (by kernel_rfl) (by kernel_rfl) (t := (.ret (.p (.bool (decide (firstAt (fun x => s == x) l (0 : Int) ≥ (0 : Int))))) [])) (by kernel_rfl) fun Γ => ⟨?_, rfl⟩
  rw [firstAt_any _ _ _ (by omega)]
def eSc : Nat × (List SX → List Chunk → Option (Option Prop × SV × List Chunk)) := (55, fun
  | [.c (.pd (.lst .str l)), .c (.pd (.str s))], [] => some (none, .x (.c (.pd (.bool (l.any fun x => s == x)))), [])
  | _, _ => none)
theorem eSc_ok (vs : List SX) (ck : List Chunk) (p : Option Prop) (ret : SV) (ck' : List Chunk) (h : eSc.2 vs ck = some (p, ret, ck')) (hp : Holds p) : Does Tryz.prog eSc.1 vs ck ret ck' := by
  unfold eSc at h
  simp only at h
  split at h
  · rename_i l s
    simp only [Option.some.injEq, Prod.mk.injEq] at h
    obtain ⟨rfl, rfl, rfl⟩ := h
    exact sc_spec l s
  · simp at h
theorem firstAt_find {α : Type} (p : α → Bool) : ∀ (l : List α) (i : Nat), (firstAt p l i = -1 ∧ l.find? p = none) ∨ ∃ k x, firstAt p l i = ((i + k : Nat) : Int) ∧ l[k]? = some x ∧ l.find? p = some x
  | [], i => .inl ⟨rfl, rfl⟩
  | x :: r, i => by
    simp only [firstAt, List.find?_cons]
    cases hp : p x
    · rcases firstAt_find p r (i + 1) with ⟨h1, h2⟩ | ⟨k, y, h1, h2, h3⟩
      · exact .inl ⟨h1, h2⟩
      · exact .inr ⟨k + 1, y, by simp only [cond_false]; rw [show (i : Int) + 1 = ((i + 1 : Nat) : Int) from rfl, h1]; omega, by simpa using h2, h3⟩
    · exact .inr ⟨0, x, by simp, by simp, rfl⟩

end Go.Proofs.YtjndellhebidoaaGreatDoor
namespace Go.Proofs.YtjndellhebidoaaGreatDoor
open Go Go.Ev
set_option maxRecDepth 100000
def cfgOf1 : Cfg := ⟨tys0, [eEvRight]⟩
theorem cfgOf1_ok : TabOk Tryz.prog cfgOf1.tab := (TabOk.cons eEvRight_ok TabOk.nil)
theorem evof1_spec (v : Val) : Does Tryz.prog 51 [.e .val v] [] (.x (.b (!vR v))) [] := by
  refine Does.go (cfg := cfgOf1) cfgOf1_ok Tryz.func51 (by kernel_rfl) (by kernel_rfl) (t := (.ret (.p (.bool !vR { kind := Val.kind v, a := Val.a v, b := Val.b v })) [])) (by kernel_rfl) fun Γ => ⟨rfl, rfl⟩
def eEvof1 : Nat × (List SX → List Chunk → Option (Option Prop × SV × List Chunk)) := (51, fun
  | [.agg [.pd (.int .i64 a), .pd (.int .i64 b), .pd (.int .i64 d)]], [] => some (none, .x (.c (.pd (.bool (!vR ⟨a, b, d⟩)))), [])
  | _, _ => none)
theorem eEvof1_ok (vs : List SX) (ck : List Chunk) (p : Option Prop) (ret : SV) (ck' : List Chunk) (h : eEvof1.2 vs ck = some (p, ret, ck')) (hp : Holds p) : Does Tryz.prog eEvof1.1 vs ck ret ck' := by
  unfold eEvof1 at h
  simp only at h
  split at h
  · rename_i a b d
    simp only [Option.some.injEq, Prod.mk.injEq] at h
    obtain ⟨rfl, rfl, rfl⟩ := h
    exact evof1_spec ⟨a, b, d⟩
  · simp at h
theorem evof2_spec (v : Var) (c : Cell) : Does Tryz.prog 56 [.e .var v, .p (.ref .cell c 0)] [] (.x (.b (v.name == c.name))) [] := by
  refine Does.go (cfg := cfg0) cfg0_ok Tryz.func56 (by kernel_rfl) (by kernel_rfl) (t := (.ret (.p (.bool (Var.name v == Cell.name c))) [])) (by kernel_rfl) fun Γ => ⟨rfl, rfl⟩
def eEvof2 : Nat × (List SX → List Chunk → Option (Option Prop × SV × List Chunk)) := (56, fun
  | [.agg [.pd (.str a), .pd (.int .i64 b), .pd (.int .i64 d), .pd (.int .i64 e), .pd (.int .i64 f), .pd (.int .i64 g), .pd (.int .i64 h)], .c (.pd (.ref .cell c 0))], [] => some (none, .x (.c (.pd (.bool (a == c.name)))), [])
  | _, _ => none)
theorem eEvof2_ok (vs : List SX) (ck : List Chunk) (p : Option Prop) (ret : SV) (ck' : List Chunk) (h : eEvof2.2 vs ck = some (p, ret, ck')) (hp : Holds p) : Does Tryz.prog eEvof2.1 vs ck ret ck' := by
  unfold eEvof2 at h
  simp only at h
  split at h
  · rename_i a b d e f g h c
    simp only [Option.some.injEq, Prod.mk.injEq] at h
    obtain ⟨rfl, rfl, rfl⟩ := h
    exact evof2_spec ⟨a, b, d, e, ⟨f, g, h⟩⟩ c
  · simp at h
def cfgEo1 : Cfg := ⟨tys0, [eEvof1]⟩
theorem cfgEo1_ok : TabOk Tryz.prog cfgEo1.tab := (TabOk.cons eEvof1_ok TabOk.nil)
def cfgEo2 : Cfg := ⟨tys0, [eEvof2]⟩
theorem cfgEo2_ok : TabOk Tryz.prog cfgEo2.tab := (TabOk.cons eEvof2_ok TabOk.nil)

theorem iv_loop (vs : List Val) (Γ : Ctx) (hl : vs.length ≤ maxLen) : ∀ (n k : Nat), vs.length - k ≤ n → k ≤ vs.length →
    J Tryz.prog 84 (bodyOf Tryz.f84) Γ (Eq2 (.x (.i (firstAt (fun v : Val => !vR v) (vs.drop k) k))) []) [.code [1, 0, 1, 0, 0], .inLoop [1, 0, 1, 0, 0], .inBlock 0, .code [1, 1]] ({ n := 19, fr := [(0, .p (.lst .val vs)), (1, .x (.c (.fn (.func 51) [] []))), (4, .i (0 : Int)), (7, .i (↑(List.length vs) : Int)), (8, .i (k))], ck := [] }) := by
  intro n
  induction n with
  | zero => ?_
  | succ n ih => ?_
  all_goals
    intro k hn hk
    refine J.go (cfg := cfgEo1) cfgEo1_ok Tryz.func84 1000 (t := (.ite (decide ((↑k : Int) < (↑(List.length vs) : Int))) (.need ((0 : Int) ≤ (↑k : Int) ∧ (↑k : Int) < (↑(List.length vs) : Int)) (.ite (!vR { kind := Val.kind (ETy.get .val vs k), a := Val.a (ETy.get .val vs k), b := Val.b (ETy.get .val vs k) }) (.ret (.i (↑k : Int)) []) (.stop [.code [1, 0, 1, 0, 0], .inLoop [1, 0, 1, 0, 0], .inBlock 0, .code [1, 1]] { n := 19, fr := [(0, .p (.lst .val vs)), (1, .x (.c (.fn (.func 51) [] []))), (4, .i (0 : Int)), (7, .i (↑(List.length vs) : Int)), (8, .i (IntKind.wrap .i64 ((↑k : Int) + (1 : Int))))], ck := [] }))) (.ret (.i (-1 : Int)) []))) (by kernel_rfl) ?_
    refine ⟨fun hlt => ?_, fun hge => ⟨?_, rfl⟩⟩
    · have hk' : k < vs.length := by have := of_decide_eq_true hlt; omega
      rw [drop_get (t := .val) hk']
      refine ⟨by omega, ?_⟩
      generalize ETy.get .val vs k = v
      refine ⟨fun hb => ⟨?_, rfl⟩, fun hb => ?_⟩
      · have hb' : (!vR v) = true := hb
        simp only [firstAt, hb', cond_true]
      · have hb' : (!vR v) = false := hb
        simp only [firstAt, hb', cond_false]
        rw [wrapK (maxLen_lt hk' hl)]
        first
        | (exfalso; omega)
        | exact ih (k + 1) (by omega) (by omega)
    · rw [drop_end (by have := of_decide_eq_false hge; omega)]; rfl
theorem iv_spec (vs : List Val) : Does Tryz.prog 84 [.l .val vs, .c (.fn (.func 51) [] [])] [] (.x (.i (firstAt (fun v : Val => !vR v) vs 0))) [] := by
  refine Does.go (cfg := cfgEo1) cfgEo1_ok Tryz.func84 (by kernel_rfl) (by kernel_rfl) (t := (.stop [.code [1, 0, 1, 0, 0], .inLoop [1, 0, 1, 0, 0], .inBlock 0, .code [1, 1]] { n := 19, fr := [(0, .p (.lst .val vs)), (1, .x (.c (.fn (.func 51) [] []))), (4, .i (0 : Int)), (7, .i (↑(List.length vs) : Int)), (8, .i (0 : Int))], ck := [] })) (by kernel_rfl) fun Γ => ?_
  exact J.len 0 rfl fun hl => iv_loop vs Γ hl vs.length 0 (by omega) (by omega)
def eIv : Nat × (List SX → List Chunk → Option (Option Prop × SV × List Chunk)) := (84, fun
  | [.c (.pd (.lst .val vs)), .c (.fn (.func 51) [] [])], [] => some (none, .x (.c (.pd (.int .i64 (firstAt (fun v : Val => !vR v) vs 0)))), [])
  | _, _ => none)
theorem eIv_ok (vs : List SX) (ck : List Chunk) (p : Option Prop) (ret : SV) (ck' : List Chunk) (h : eIv.2 vs ck = some (p, ret, ck')) (hp : Holds p) : Does Tryz.prog eIv.1 vs ck ret ck' := by
  unfold eIv at h
  simp only at h
  split at h
  · rename_i vs
    simp only [Option.some.injEq, Prod.mk.injEq] at h
    obtain ⟨rfl, rfl, rfl⟩ := h
    exact iv_spec vs
  · simp at h
def cfgCf : Cfg := ⟨tys0, [eIv]⟩
theorem cfgCf_ok : TabOk Tryz.prog cfgCf.tab := (TabOk.cons eIv_ok TabOk.nil)
theorem cv_spec (vs : List Val) : Does Tryz.prog 50 [.l .val vs, .c (.fn (.func 51) [] [])] [] (.x (.b (vs.any fun v => !vR v))) [] := by
  refine Does.go (cfg := cfgCf) cfgCf_ok Tryz.func50 (by kernel_rfl) (by kernel_rfl) (t := (.ret (.p (.bool (decide (firstAt (fun v => !vR v) vs (0 : Int) ≥ (0 : Int))))) [])) (by kernel_rfl) fun Γ => ⟨?_, rfl⟩
  rw [firstAt_any _ _ _ (by omega)]
def eCv : Nat × (List SX → List Chunk → Option (Option Prop × SV × List Chunk)) := (50, fun
  | [.c (.pd (.lst .val vs)), .c (.fn (.func 51) [] [])], [] => some (none, .x (.c (.pd (.bool (vs.any fun v => !vR v)))), [])
  | _, _ => none)
theorem eCv_ok (vs : List SX) (ck : List Chunk) (p : Option Prop) (ret : SV) (ck' : List Chunk) (h : eCv.2 vs ck = some (p, ret, ck')) (hp : Holds p) : Does Tryz.prog eCv.1 vs ck ret ck' := by
  unfold eCv at h
  simp only at h
  split at h
  · rename_i vs
    simp only [Option.some.injEq, Prod.mk.injEq] at h
    obtain ⟨rfl, rfl, rfl⟩ := h
    exact cv_spec vs
  · simp at h

theorem ixe_loop (vs : List Var) (c : Cell) (Γ : Ctx) (hl : vs.length ≤ maxLen) : ∀ (n k : Nat), vs.length - k ≤ n → k ≤ vs.length →
    J Tryz.prog 29 (bodyOf Tryz.f29) Γ (Eq2 (.x (.i (firstAt (fun v : Var => v.name == c.name) (vs.drop k) k))) []) [.code [1, 0, 1, 0, 0], .inLoop [1, 0, 1, 0, 0], .inBlock 0, .code [1, 1]] ({ n := 19, fr := [(0, .p (.lst .var vs)), (1, .x (.c (.fn (.func 56) [] [.pd (.ref .cell c 0)]))), (4, .i (0 : Int)), (7, .i (↑(List.length vs) : Int)), (8, .i (k))], ck := [] }) := by
  intro n
  induction n with
  | zero => ?_
  | succ n ih => ?_
  all_goals
    intro k hn hk
    refine J.go (cfg := cfgEo2) cfgEo2_ok Tryz.func29 1000 (t := (.ite (decide ((↑k : Int) < (↑(List.length vs) : Int))) (.need ((0 : Int) ≤ (↑k : Int) ∧ (↑k : Int) < (↑(List.length vs) : Int)) (.ite (Var.name (ETy.get .var vs k) == Cell.name c) (.ret (.i (↑k : Int)) []) (.stop [.code [1, 0, 1, 0, 0], .inLoop [1, 0, 1, 0, 0], .inBlock 0, .code [1, 1]] { n := 19, fr := [(0, .p (.lst .var vs)), (1, .x (.c (.fn (.func 56) [] [.pd (.ref .cell c 0)]))), (4, .i (0 : Int)), (7, .i (↑(List.length vs) : Int)), (8, .i (IntKind.wrap .i64 ((↑k : Int) + (1 : Int))))], ck := [] }))) (.ret (.i (-1 : Int)) []))) (by kernel_rfl) ?_
    refine ⟨fun hlt => ?_, fun hge => ⟨?_, rfl⟩⟩
    · have hk' : k < vs.length := by have := of_decide_eq_true hlt; omega
      rw [drop_get (t := .var) hk']
      refine ⟨by omega, ?_⟩
      generalize ETy.get .var vs k = v
      refine ⟨fun hb => ⟨?_, rfl⟩, fun hb => ?_⟩
      · simp only [firstAt, hb, cond_true]
      · simp only [firstAt, hb, cond_false]
        rw [wrapK (maxLen_lt hk' hl)]
        first
        | (exfalso; omega)
        | exact ih (k + 1) (by omega) (by omega)
    · rw [drop_end (by have := of_decide_eq_false hge; omega)]; rfl
theorem ixe_spec (vs : List Var) (c : Cell) : Does Tryz.prog 29 [.l .var vs, .c (.fn (.func 56) [] [.pd (.ref .cell c 0)])] [] (.x (.i (firstAt (fun v : Var => v.name == c.name) vs 0))) [] := by
  refine Does.go (cfg := cfgEo2) cfgEo2_ok Tryz.func29 (by kernel_rfl) (by kernel_rfl) (t := (.stop [.code [1, 0, 1, 0, 0], .inLoop [1, 0, 1, 0, 0], .inBlock 0, .code [1, 1]] { n := 19, fr := [(0, .p (.lst .var vs)), (1, .x (.c (.fn (.func 56) [] [.pd (.ref .cell c 0)]))), (4, .i (0 : Int)), (7, .i (↑(List.length vs) : Int)), (8, .i (0 : Int))], ck := [] })) (by kernel_rfl) fun Γ => ?_
  exact J.len 0 rfl fun hl => ixe_loop vs c Γ hl vs.length 0 (by omega) (by omega)
def eIxe : Nat × (List SX → List Chunk → Option (Option Prop × SV × List Chunk)) := (29, fun
  | [.c (.pd (.lst .var vs)), .c (.fn (.func 56) [] [.pd (.ref .cell c 0)])], [] => some (none, .x (.c (.pd (.int .i64 (firstAt (fun v : Var => v.name == c.name) vs 0)))), [])
  | _, _ => none)
theorem eIxe_ok (vs : List SX) (ck : List Chunk) (p : Option Prop) (ret : SV) (ck' : List Chunk) (h : eIxe.2 vs ck = some (p, ret, ck')) (hp : Holds p) : Does Tryz.prog eIxe.1 vs ck ret ck' := by
  unfold eIxe at h
  simp only at h
  split at h
  · rename_i vs c
    simp only [Option.some.injEq, Prod.mk.injEq] at h
    obtain ⟨rfl, rfl, rfl⟩ := h
    exact ixe_spec vs c
  · simp at h
end Go.Proofs.YtjndellhebidoaaGreatDoor

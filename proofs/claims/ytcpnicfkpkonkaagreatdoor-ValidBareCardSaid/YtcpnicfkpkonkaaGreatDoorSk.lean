/- Contracts: the document's places of states, names, variables. Conditions: sizes. -/
import Derived.Test.YtcpnicfkpkonkaaGreatDoorSa
import Derived.Test.YtcpnicfkpkonkaaGreatDoorTh
import Derived.Test.YtcpnicfkpkonkaaGreatDoorFe
import Derived.Test.YtcpnicfkpkonkaaGreatDoorFd
import Derived.Test.YtcpnicfkpkonkaaGreatDoorTm
import Derived.Test.YtcpnicfkpkonkaaGreatDoorSg
import Derived.Test.YtcpnicfkpkonkaaGreatDoorTq
import Derived.Test.YtcpnicfkpkonkaaGreatDoorFf
import Derived.Test.YtcpnicfkpkonkaaGreatDoorJz
import Derived.Test.YtcpnicfkpkonkaaGreatDoorSz
namespace Go.Proofs.YtcpnicfkpkonkaaGreatDoor
open Go Go.Ev
set_option maxRecDepth 100000
/-! ### a state's place -/

theorem rpl_loop (c : Chart) (s : Str) (Γ : Ctx) (hl : c.states.length ≤ maxLen)  : ∀ (n k : Nat), c.states.length - k ≤ n → k ≤ c.states.length →
    J Tryz.prog 14 (bodyOf Tryz.f14) Γ (Eq2 (.x (.i (firstAt (fun v : Ev.Stat => v.name == s) (c.states.drop k) k))) []) [.code [1, 0, 1, 0, 0], .inLoop [1, 0, 1, 0, 0], .inBlock 0, .code [1, 1]] ({ n := 22, fr := [(1, .p (.str s)), (2, .x (.c (.loc 0 0))), (4, .i (0 : Int)), (5, .i (k))], ck := [.cells [.pd (.str (Chart.name c)), .pd (.lst .str (Chart.events c)), .pd (.lst .var (Chart.vars c)), .pd (.lst .stat (Chart.states c)), .pd (.lst .tran (Chart.trans c))] 27] }) := by
  intro n
  induction n with
  | zero => ?_
  | succ n ih => ?_
  all_goals
    intro k hn hk
    refine J.go (cfg := cfg0) cfg0_ok Tryz.func14 1000 (t := (.ite (decide ((↑k : Int) < (↑(List.length (Chart.states c)) : Int))) (.need ((0 : Int) ≤ (↑k : Int) ∧ (↑k : Int) < (↑(List.length (Chart.states c)) : Int)) (.ite (Stat.name (ETy.get .stat (Chart.states c) k) == s) (.ret (.i (↑k : Int)) []) (.stop [.code [1, 0, 1, 0, 0], .inLoop [1, 0, 1, 0, 0], .inBlock 0, .code [1, 1]] { n := 22, fr := [(1, .p (.str s)), (2, .x (.c (.loc 0 0))), (4, .i (0 : Int)), (5, .i (IntKind.wrap .i64 ((↑k : Int) + (1 : Int))))], ck := [.cells [.pd (.str (Chart.name c)), .pd (.lst .str (Chart.events c)), .pd (.lst .var (Chart.vars c)), .pd (.lst .stat (Chart.states c)), .pd (.lst .tran (Chart.trans c))] 27] }))) (.ret (.i (-1 : Int)) []))) (by kernel_rfl) ?_
    refine ⟨fun hlt => ?_, fun hge => ?_⟩
    · have hk' : k < c.states.length := by have := of_decide_eq_true hlt; omega
      rw [drop_get (t := .stat) (l := c.states) hk']
      refine ⟨by omega, ?_⟩
      generalize ETy.get .stat c.states k = v
      refine ⟨fun hb => ⟨?_, rfl⟩, fun hb => ?_⟩
      · have hb' : (v.name == s) = true := hb
        simp only [firstAt, hb', cond_true]
      · have hb' : (v.name == s) = false := hb
        simp only [firstAt, hb', cond_false]; (rw [wrapK (maxLen_lt hk' hl)]; first | (exfalso; omega) | exact ih (k + 1) (by omega) (by omega))
    · rw [drop_end (l := c.states) (by have := of_decide_eq_false hge; omega)]
      exact ⟨rfl, rfl⟩
theorem rplace_spec (c : Chart) (s : Str) (h : c.states.length ≤ maxLen) : Does Tryz.prog 14 [.e .chart c, .s s] [] (.x (.i (placeM c.states s))) [] := by
  refine Does.go (cfg := cfg0) cfg0_ok Tryz.func14 (by kernel_rfl) (by kernel_rfl) (t := (.stop [.code [1, 0, 1, 0, 0], .inLoop [1, 0, 1, 0, 0], .inBlock 0, .code [1, 1]] { n := 22, fr := [(1, .p (.str s)), (2, .x (.c (.loc 0 0))), (4, .i (0 : Int)), (5, .i (0 : Int))], ck := [.cells [.pd (.str (Chart.name c)), .pd (.lst .str (Chart.events c)), .pd (.lst .var (Chart.vars c)), .pd (.lst .stat (Chart.states c)), .pd (.lst .tran (Chart.trans c))] 27] })) (by kernel_rfl) fun Γ => ?_
  exact rpl_loop c s Γ h c.states.length 0 (by omega) (by omega)
def eRplace : Nat × (List SX → List Chunk → Option (Option Prop × SV × List Chunk)) := (14, fun
  | [.agg [.pd (.str a), .pd (.lst .str b), .pd (.lst .var c), .pd (.lst .stat d), .pd (.lst .tran e)], .c (.pd (.str n))], [] => some (some (d.length ≤ maxLen), .x (.c (.pd (.int .i64 (placeM d n)))), [])
  | _, _ => none)
theorem eRplace_ok (vs : List SX) (ck : List Chunk) (p : Option Prop) (ret : SV) (ck' : List Chunk) (h : eRplace.2 vs ck = some (p, ret, ck')) (hp : Holds p) : Does Tryz.prog eRplace.1 vs ck ret ck' := by
  unfold eRplace at h
  simp only at h
  split at h
  · rename_i a b c d e n
    simp only [Option.some.injEq, Prod.mk.injEq] at h
    obtain ⟨rfl, rfl, rfl⟩ := h
    exact rplace_spec ⟨a, b, c, d, e⟩ n hp
  · simp at h
/-! ### names -/
def rnamesM (b : Bool) (l : List Ev.Stat) : List Str := (l.filter fun s : Ev.Stat => b || !pastM s.kind).map fun s : Ev.Stat => s.name
theorem rnames_true (l : List Ev.Stat) : rnamesM true l = l.map fun s : Ev.Stat => s.name := by
  have h : (l.filter fun s : Ev.Stat => true || !pastM s.kind) = l := List.filter_eq_self.2 fun _ _ => rfl
  unfold rnamesM
  rw [h]
theorem rnames_false (l : List Ev.Stat) : rnamesM false l = realM l := rfl
theorem rnames_take {b : Bool} {l : List Ev.Stat} {k : Nat} (hk : k < l.length) : rnamesM b (l.take (k + 1)) = if (b || !pastM (ETy.get .stat l k).kind) = true then rnamesM b (l.take k) ++ [(ETy.get .stat l k).name] else rnamesM b (l.take k) := by
  rw [show ETy.get .stat l k = l[k] from ETy.get_eq (t := .stat) (List.getElem?_eq_getElem hk)]
  unfold rnamesM
  rw [List.take_succ_eq_append_getElem hk, List.filter_append, List.map_append]
  cases hp : (b || !pastM l[k].kind) <;> simp [hp]
theorem rnames_le (b : Bool) (l : List Ev.Stat) (k : Nat) : (rnamesM b (l.take k)).length ≤ l.length := by
  unfold rnamesM
  rw [List.length_map]
  exact Nat.le_trans (List.length_filter_le _ _) (by rw [List.length_take]; omega)
def cfgSk1 : Cfg := ⟨tys0, [eRpast]⟩
theorem cfgSk1_ok : TabOk Tryz.prog cfgSk1.tab := (TabOk.cons eRpast_ok TabOk.nil)

theorem rnm_loop (c : Chart) (b : Bool) (hl : c.states.length ≤ 1466015503701) (Γ : Ctx) : ∀ (n k : Nat), c.states.length - k ≤ n → k ≤ c.states.length →
    J Tryz.prog 44 (bodyOf Tryz.f44) Γ (Eq2 (.x (.c (.own 0))) [.own 9 .str (rnamesM b c.states)]) [.code [1, 1, 0, 1, 0, 0], .inLoop [1, 1, 0, 1, 0, 0], .inBlock 0, .code [1, 1, 1]] ({ n := 35, fr := [(1, .p (.bool b)), (2, .x (.c (.loc 0 0))), (4, .p (.v (Value.slice none 0 0))), (5, .x (.c (.own 1))), (6, .i ((k : Int)))], ck := [.cells [.pd (.str c.name), .pd (.lst .str c.events), .pd (.lst .var c.vars), .pd (.lst .stat c.states), .pd (.lst .tran c.trans)] 27, .own 9 .str (rnamesM b (c.states.take k))] }) := by
  have hm : c.states.length ≤ maxLen := Nat.le_trans hl (by decide)
  intro n
  induction n with
  | zero => ?_
  | succ n ih => ?_
  all_goals
    intro k hn hk
    generalize hout : rnamesM b (c.states.take k) = out
    refine J.go (cfg := cfgSk1) cfgSk1_ok Tryz.func44 1000 (t := (.ite (decide ((↑k : Int) < (↑(List.length (Chart.states c)) : Int))) (.need (b = false → (0 : Int) ≤ (↑k : Int) ∧ (↑k : Int) < (↑(List.length (Chart.states c)) : Int)) (.ite (b || !pastM (Stat.kind (ETy.get .stat (Chart.states c) k))) (.need ((0 : Int) ≤ (↑k : Int) ∧ (↑k : Int) < (↑(List.length (Chart.states c)) : Int)) (.need (room (List.length (out ++ [Stat.name (ETy.get .stat (Chart.states c) k)])) 16) (.stop [.code [1, 1, 0, 1, 0, 0], .inLoop [1, 1, 0, 1, 0, 0], .inBlock 0, .code [1, 1, 1]] { n := 35, fr := [(1, .p (.bool b)), (2, .x (.c (.loc 0 0))), (4, .p (.v (Value.slice none 0 0))), (5, .x (.c (.own 1))), (6, .i (IntKind.wrap .i64 ((↑k : Int) + (1 : Int))))], ck := [.cells [.pd (.str (Chart.name c)), .pd (.lst .str (Chart.events c)), .pd (.lst .var (Chart.vars c)), .pd (.lst .stat (Chart.states c)), .pd (.lst .tran (Chart.trans c))] 27, .own 9 .str (out ++ [Stat.name (ETy.get .stat (Chart.states c) k)])] }))) (.stop [.code [1, 1, 0, 1, 0, 0], .inLoop [1, 1, 0, 1, 0, 0], .inBlock 0, .code [1, 1, 1]] { n := 35, fr := [(1, .p (.bool b)), (2, .x (.c (.loc 0 0))), (4, .p (.v (Value.slice none 0 0))), (5, .x (.c (.own 1))), (6, .i (IntKind.wrap .i64 ((↑k : Int) + (1 : Int))))], ck := [.cells [.pd (.str (Chart.name c)), .pd (.lst .str (Chart.events c)), .pd (.lst .var (Chart.vars c)), .pd (.lst .stat (Chart.states c)), .pd (.lst .tran (Chart.trans c))] 27, .own 9 .str out] }))) (.ret (.x (.c (.own 0))) [.own 9 .str out]))) (by kernel_rfl) ?_
    refine ⟨fun hlt => ?_, fun hge => ?_⟩
    · have hk' : k < c.states.length := by have := of_decide_eq_true hlt; omega
      have hs := rnames_take (b := b) hk'
      have hle := rnames_le b c.states (k + 1)
      rw [hout] at hs
      refine ⟨fun _ => ⟨by omega, by omega⟩, fun h => ?_, fun h => ?_⟩
      · rw [if_pos h] at hs
        rw [hs] at hle
        refine ⟨⟨by omega, by omega⟩, ⟨by omega, by unfold maxLen; omega⟩, ?_⟩
        rw [wrapK (maxLen_lt hk' hm), ← hs]
        first
        | (exfalso; omega)
        | exact ih (k + 1) (by omega) (by omega)
      · rw [if_neg (by rw [h]; decide)] at hs
        rw [wrapK (maxLen_lt hk' hm), ← hs]
        first
        | (exfalso; omega)
        | exact ih (k + 1) (by omega) (by omega)
    · have hke : k = c.states.length := by have := of_decide_eq_false hge; omega
      subst hke
      rw [← hout, List.take_of_length_le (Nat.le_refl _)]; exact ⟨rfl, rfl⟩
theorem rnames_spec (c : Chart) (b : Bool) (hl : c.states.length ≤ 1466015503701) : Does Tryz.prog 44 [.e .chart c, .b b] [] (.x (.c (.own 0))) [.own 9 .str (rnamesM b c.states)] := by
  refine Does.go (cfg := cfgSk1) cfgSk1_ok Tryz.func44 (by kernel_rfl) (by kernel_rfl) (t := (.stop [.code [1, 1, 0, 1, 0, 0], .inLoop [1, 1, 0, 1, 0, 0], .inBlock 0, .code [1, 1, 1]] { n := 35, fr := [(1, .p (.bool b)), (2, .x (.c (.loc 0 0))), (4, .p (.v (Value.slice none 0 0))), (5, .p (.v (Value.slice none 0 0))), (6, .i (0 : Int))], ck := [.cells [.pd (.str (Chart.name c)), .pd (.lst .str (Chart.events c)), .pd (.lst .var (Chart.vars c)), .pd (.lst .stat (Chart.states c)), .pd (.lst .tran (Chart.trans c))] 27] })) (by kernel_rfl) fun Γ => ?_
  refine J.nilOwn 5 9 .str rfl (by kernel_rfl) ?_
  exact rnm_loop c b hl Γ c.states.length 0 (by omega) (by omega)
def eRnames : Nat × (List SX → List Chunk → Option (Option Prop × SV × List Chunk)) := (44, fun
  | [.agg [.pd (.str a), .pd (.lst .str b), .pd (.lst .var c), .pd (.lst .stat d), .pd (.lst .tran e)], .c (.pd (.bool q))], [] => some (some (d.length ≤ 1466015503701), .x (.c (.own 0)), [.own 9 .str (rnamesM q d)])
  | _, _ => none)
theorem eRnames_ok (vs : List SX) (ck : List Chunk) (p : Option Prop) (ret : SV) (ck' : List Chunk) (h : eRnames.2 vs ck = some (p, ret, ck')) (hp : Holds p) : Does Tryz.prog eRnames.1 vs ck ret ck' := by
  unfold eRnames at h
  simp only at h
  split at h
  · rename_i a b c d e q
    simp only [Option.some.injEq, Prod.mk.injEq] at h
    obtain ⟨rfl, rfl, rfl⟩ := h
    exact rnames_spec ⟨a, b, c, d, e⟩ q hp
  · simp at h
/-! ### twice -/


theorem any_take {l : List Str} {p : Str → Bool} {k : Nat} (hk : k < l.length) : (l.take (k + 1)).any p = ((l.take k).any p || p (ETy.get .str l k)) := by
  rw [show ETy.get .str l k = l[k] from ETy.get_eq (t := .str) (List.getElem?_eq_getElem hk), List.take_succ_eq_append_getElem hk, List.any_append]; simp
theorem rtw2_loop (l : List Str) (i : Nat) (hi : i < l.length) (hl : l.length ≤ maxLen) (Γ : Ctx) (res : Bool) (h1 : tw1 l i = true → res = true)
    (h0 : tw1 l i = false → J Tryz.prog 45 (bodyOf Tryz.f45) Γ (Eq2 (.x (.b res)) []) [.code [1, 0, 1, 0, 0], .inLoop [1, 0, 1, 0, 0], .inBlock 0, .code [1, 1]] ({ n := 25, fr := [(0, .p (.lst .str l)), (2, .p (.bool false)), (3, .i ((IntKind.wrap .i64 ((i : Int) + 1))))], ck := [], kn := [2] })) : ∀ (n k : Nat), i - k ≤ n → k ≤ i → ((l.take k).any fun y => ETy.get .str l i == y) = false →
    J Tryz.prog 45 (bodyOf Tryz.f45) Γ (Eq2 (.x (.b res)) []) [.code [1, 0, 1, 0, 0, 1, 0, 0, 1, 0, 0], .inLoop [1, 0, 1, 0, 0, 1, 0, 0, 1, 0, 0], .inBlock 2, .inBlock 1, .code [1, 0, 1, 0, 0, 1, 1], .inLoop [1, 0, 1, 0, 0], .inBlock 0, .code [1, 1]] ({ n := 25, fr := [(0, .p (.lst .str l)), (2, .p (.bool false)), (3, .i (↑i : Int)), (4, .i ((k : Int)))], ck := [], kn := [2] }) := by
  intro n
  induction n with
  | zero => ?_
  | succ n ih => ?_
  all_goals
    intro k hn hk hz
    refine J.go (cfg := cfg0) cfg0_ok Tryz.func45 1000 (t := (.ite (decide ((↑k : Int) < (↑i : Int))) (.need ((0 : Int) ≤ (↑i : Int) ∧ (↑i : Int) < (↑(List.length l) : Int)) (.need ((0 : Int) ≤ (↑k : Int) ∧ (↑k : Int) < (↑(List.length l) : Int)) (.ite (ETy.get .str l i == ETy.get .str l k) (.ret (.p (.bool true)) []) (.stop [.code [1, 0, 1, 0, 0, 1, 0, 0, 1, 0, 0], .inLoop [1, 0, 1, 0, 0, 1, 0, 0, 1, 0, 0], .inBlock 2, .inBlock 1, .code [1, 0, 1, 0, 0, 1, 1], .inLoop [1, 0, 1, 0, 0], .inBlock 0, .code [1, 1]] { n := 25, fr := [(0, .p (.lst .str l)), (2, .p (.bool false)), (3, .i (↑i : Int)), (4, .i (IntKind.wrap .i64 ((↑k : Int) + (1 : Int))))], ck := [] })))) (.stop [.code [1, 0, 1, 0, 0], .inLoop [1, 0, 1, 0, 0], .inBlock 0, .code [1, 1]] { n := 25, fr := [(0, .p (.lst .str l)), (2, .p (.bool false)), (3, .i (IntKind.wrap .i64 ((↑i : Int) + (1 : Int))))], ck := [], kn := [2] }))) (by kernel_rfl) ?_
    refine ⟨fun hlt => ?_, fun hge => ?_⟩
    · have hk' : k < i := by have := of_decide_eq_true hlt; omega
      have ht := any_take (l := l) (p := fun y => ETy.get .str l i == y) (k := k) (by omega)
      rw [hz, Bool.false_or] at ht
      refine ⟨⟨by omega, by omega⟩, ⟨by omega, by omega⟩, fun hb => ?_, fun hb => ?_⟩
      · have hb' : (ETy.get .str l i == ETy.get .str l k) = true := hb
        rw [h1 ?_]; exact ⟨rfl, rfl⟩
        unfold tw1
        rw [List.any_eq_true]
        refine ⟨ETy.get .str l k, ?_, hb'⟩
        rw [show ETy.get .str l k = l[k] from ETy.get_eq (t := .str) (List.getElem?_eq_getElem (by omega)), List.mem_take_iff_getElem]
        exact ⟨k, by omega, rfl⟩
      · have hb' : (ETy.get .str l i == ETy.get .str l k) = false := hb
        rw [wrapK (maxLen_lt (show k < l.length by omega) hl)]
        first
        | (exfalso; omega)
        | exact J.kn [2] (ih (k + 1) (by omega) (by omega) (by rw [ht]; exact hb'))
    · have hke : k = i := by have := of_decide_eq_false hge; omega
      subst hke
      exact h0 hz
theorem rtw_loop (l : List Str) (hl : l.length ≤ maxLen) (Γ : Ctx) : ∀ (n k : Nat), l.length - k = n → k ≤ l.length →
    J Tryz.prog 45 (bodyOf Tryz.f45) Γ (Eq2 (.x (.b (twGo l n k))) []) [.code [1, 0, 1, 0, 0], .inLoop [1, 0, 1, 0, 0], .inBlock 0, .code [1, 1]] ({ n := 25, fr := [(0, .p (.lst .str l)), (2, .p (.bool false)), (3, .i ((k : Int)))], ck := [], kn := [2] }) := by
  intro n
  induction n with
  | zero => ?_
  | succ n ih => ?_
  all_goals
    intro k hn hk
    refine J.go (cfg := cfg0) cfg0_ok Tryz.func45 1000 (t := (.ite (decide ((↑k : Int) < (↑(List.length l) : Int))) (.stop [.code [1, 0, 1, 0, 0, 1, 0, 0, 1, 0, 0], .inLoop [1, 0, 1, 0, 0, 1, 0, 0, 1, 0, 0], .inBlock 2, .inBlock 1, .code [1, 0, 1, 0, 0, 1, 1], .inLoop [1, 0, 1, 0, 0], .inBlock 0, .code [1, 1]] { n := 25, fr := [(0, .p (.lst .str l)), (2, .p (.bool false)), (3, .i (↑k : Int)), (4, .i (0 : Int))], ck := [], kn := [2] }) (.ret (.p (.bool false)) []))) (by kernel_rfl) ?_
    refine ⟨fun hlt => ?_, fun hge => ?_⟩
    · have hk' : k < l.length := by have := of_decide_eq_true hlt; omega
      first
      | (exfalso; omega)
      | refine rtw2_loop l k hk' hl Γ _ (fun h => ?_) (fun h => ?_) k 0 (by omega) (by omega) rfl
        · rw [twGo, h, Bool.true_or]
        · rw [twGo, h, Bool.false_or, wrapK (maxLen_lt hk' hl)]
          exact ih (k + 1) (by omega) (by omega)
    · first
      | exact ⟨rfl, rfl⟩
      | (have := of_decide_eq_false hge; exfalso; omega)
theorem rtwice_spec (l : List Str) : Does Tryz.prog 45 [.l .str l] [] (.x (.b (rtwiceM l))) [] := by
  refine Does.go (cfg := cfg0) cfg0_ok Tryz.func45 (by kernel_rfl) (by kernel_rfl) (t := (.stop [.code [1, 0, 1, 0, 0], .inLoop [1, 0, 1, 0, 0], .inBlock 0, .code [1, 1]] { n := 25, fr := [(0, .p (.lst .str l)), (2, .p (.bool false)), (3, .i (0 : Int))], ck := [], kn := [2] })) (by kernel_rfl) fun Γ => ?_
  exact J.len 0 rfl fun hl => rtw_loop l hl Γ l.length 0 (by omega) (by omega)
def eRtwice : Nat × (List SX → List Chunk → Option (Option Prop × SV × List Chunk)) := (45, fun
  | [.c (.pd (.lst .str l))], [] => some (none, .x (.c (.pd (.bool (rtwiceM l)))), [])
  | _, _ => none)
theorem eRtwice_ok (vs : List SX) (ck : List Chunk) (p : Option Prop) (ret : SV) (ck' : List Chunk) (h : eRtwice.2 vs ck = some (p, ret, ck')) (hp : Holds p) : Does Tryz.prog eRtwice.1 vs ck ret ck' := by
  unfold eRtwice at h
  simp only at h
  split at h
  · rename_i l
    simp only [Option.some.injEq, Prod.mk.injEq] at h
    obtain ⟨rfl, rfl, rfl⟩ := h
    exact rtwice_spec l
  · simp at h
/-! ### spelled -/
def cfgSk2 : Cfg := ⟨tys0, [eRnm]⟩
theorem cfgSk2_ok : TabOk Tryz.prog cfgSk2.tab := (TabOk.cons eRnm_ok TabOk.nil)

theorem rsp_loop (l : List Str) (Γ : Ctx) (hl : l.length ≤ maxLen)  : ∀ (n k : Nat), l.length - k ≤ n → k ≤ l.length →
    J Tryz.prog 43 (bodyOf Tryz.f43) Γ (Eq2 (.x (.b ((l.drop k).all nameM))) []) [.code [1, 0, 1, 0, 0], .inLoop [1, 0, 1, 0, 0], .inBlock 0, .code [1, 1]] ({ n := 16, fr := [(0, .p (.lst .str l)), (2, .p (.bool false)), (3, .i (k))], ck := [], kn := [2] }) := by
  intro n
  induction n with
  | zero => ?_
  | succ n ih => ?_
  all_goals
    intro k hn hk
    refine J.go (cfg := cfgSk2) cfgSk2_ok Tryz.func43 1000 (t := (.ite (decide ((↑k : Int) < (↑(List.length l) : Int))) (.need ((0 : Int) ≤ (↑k : Int) ∧ (↑k : Int) < (↑(List.length l) : Int)) (.ite (!nameM (ETy.get .str l k)) (.ret (.p (.bool false)) []) (.stop [.code [1, 0, 1, 0, 0], .inLoop [1, 0, 1, 0, 0], .inBlock 0, .code [1, 1]] { n := 16, fr := [(0, .p (.lst .str l)), (2, .p (.bool false)), (3, .i (IntKind.wrap .i64 ((↑k : Int) + (1 : Int))))], ck := [], kn := [2] }))) (.ret (.p (.bool true)) []))) (by kernel_rfl) ?_
    refine ⟨fun hlt => ?_, fun hge => ?_⟩
    · have hk' : k < l.length := by have := of_decide_eq_true hlt; omega
      rw [drop_get (t := .str) (l := l) hk']
      refine ⟨by omega, ?_⟩
      generalize ETy.get .str l k = v
      rw [List.all_cons]
      refine ⟨fun hb => ⟨?_, rfl⟩, fun hb => ?_⟩
      · have hb' : nameM v = false := nt hb
        rw [hb']; rfl
      · have hb' : nameM v = true := nf hb
        rw [hb', Bool.true_and]; (rw [wrapK (maxLen_lt hk' hl)]; first | (exfalso; omega) | exact ih (k + 1) (by omega) (by omega) | exact J.kn [2] (ih (k + 1) (by omega) (by omega)))
    · rw [drop_end (l := l) (by have := of_decide_eq_false hge; omega)]
      exact ⟨rfl, rfl⟩
theorem rsp_spec (l : List Str) : Does Tryz.prog 43 [.l .str (l)] [] (.x (.b (l.all nameM))) [] := by
  refine Does.go (cfg := cfgSk2) cfgSk2_ok Tryz.func43 (by kernel_rfl) (by kernel_rfl) (t := (.stop [.code [1, 0, 1, 0, 0], .inLoop [1, 0, 1, 0, 0], .inBlock 0, .code [1, 1]] { n := 16, fr := [(0, .p (.lst .str l)), (2, .p (.bool false)), (3, .i (0 : Int))], ck := [], kn := [2] })) (by kernel_rfl) fun Γ => ?_
  exact J.len 0 rfl fun hl => rsp_loop l Γ hl l.length 0 (by omega) (by omega)
def eRspelled : Nat × (List SX → List Chunk → Option (Option Prop × SV × List Chunk)) := (43, fun
  | [.c (.pd (.lst .str l))], [] => some (none, .x (.c (.pd (.bool (l.all nameM)))), [])
  | _, _ => none)
theorem eRspelled_ok (vs : List SX) (ck : List Chunk) (p : Option Prop) (ret : SV) (ck' : List Chunk) (h : eRspelled.2 vs ck = some (p, ret, ck')) (hp : Holds p) : Does Tryz.prog eRspelled.1 vs ck ret ck' := by
  unfold eRspelled at h
  simp only at h
  split at h
  · rename_i l
    simp only [Option.some.injEq, Prod.mk.injEq] at h
    obtain ⟨rfl, rfl, rfl⟩ := h
    exact rsp_spec l
  · simp at h
/-! ### a variable -/
theorem rfits_spec (v : Var) (x : Val) : Does Tryz.prog 86 [.e .var v, .e .val x] [] (.x (.b (fitsM v x))) [] := by
  refine Does.go (cfg := cfg0) cfg0_ok Tryz.func86 (by kernel_rfl) (by kernel_rfl) (t := (.ite (Var.kind v != Val.kind x || decide (Val.a x < Var.lo v) || decide (Val.a x > Var.hi v)) (.ret (.p (.bool false)) []) (.ret (.p (.bool (Val.kind x != (3 : Int) || decide (Val.b x ≥ Var.lo v) && decide (Val.b x ≤ Var.hi v)))) []))) (by kernel_rfl) fun Γ => ?_
  have e : ∀ b : Bool, b = fitsM v x → Eq2 (.x (.b (fitsM v x))) [] (SV.x (SX.c (SC.pd (PD.bool b)))) [] := fun b h => by rw [h]; exact ⟨rfl, rfl⟩
  refine ⟨fun h => e _ ?_, fun h => e _ ?_⟩
  · unfold fitsM
    simp only [Bool.or_eq_true, bne_iff_ne, decide_eq_true_eq] at h
    symm
    cases hb : (v.kind == x.kind && (decide (x.a ≥ v.lo) && decide (x.a ≤ v.hi) && (x.kind != 3 || (decide (x.b ≥ v.lo) && decide (x.b ≤ v.hi)))))
    · rfl
    · simp only [Bool.and_eq_true, beq_iff_eq, decide_eq_true_eq] at hb
      omega
  · unfold fitsM
    simp only [Bool.or_eq_false_iff, bne_eq_false_iff_eq, decide_eq_false_iff_not] at h
    rw [show (v.kind == x.kind) = true by simpa using h.1.1, show decide (x.a ≥ v.lo) = true by simpa using h.1.2, show decide (x.a ≤ v.hi) = true by simpa using h.2]
    rfl
def eRfits : Nat × (List SX → List Chunk → Option (Option Prop × SV × List Chunk)) := (86, fun
  | [.agg [.pd (.str n), .pd (.int .i64 k), .pd (.int .i64 lo), .pd (.int .i64 hi), .pd (.int .i64 ik), .pd (.int .i64 ia), .pd (.int .i64 ib)], .agg [.pd (.int .i64 xk), .pd (.int .i64 xa), .pd (.int .i64 xb)]], [] => some (none, .x (.c (.pd (.bool (fitsM ⟨n, k, lo, hi, ⟨ik, ia, ib⟩⟩ ⟨xk, xa, xb⟩)))), [])
  | _, _ => none)
theorem eRfits_ok (vs : List SX) (ck : List Chunk) (p : Option Prop) (ret : SV) (ck' : List Chunk) (h : eRfits.2 vs ck = some (p, ret, ck')) (hp : Holds p) : Does Tryz.prog eRfits.1 vs ck ret ck' := by
  unfold eRfits at h
  simp only at h
  split at h
  · rename_i n k lo hi ik ia ib xk xa xb
    simp only [Option.some.injEq, Prod.mk.injEq] at h
    obtain ⟨rfl, rfl, rfl⟩ := h
    exact rfits_spec ⟨n, k, lo, hi, ⟨ik, ia, ib⟩⟩ ⟨xk, xa, xb⟩
  · simp at h
theorem kind3 (k : Int) : (decide (k < 1) || decide (k > 3)) = (k != 1 && k != 2 && k != 3) := by
  rw [Bool.eq_iff_iff]
  simp only [Bool.or_eq_true, Bool.and_eq_true, decide_eq_true_eq, bne_iff_ne]
  omega
theorem fit_eq (v : Var) (h : v.init.kind = v.kind) : (vR v.init && decide (lowM v ≥ v.lo) && decide (highM v ≤ v.hi)) = (vR v.init && fitsM v v.init) := by
  rw [Bool.and_assoc]
  congr 1
  unfold fitsM lowM highM
  rw [h, beq_self_eq_true, Bool.true_and]
  generalize v.init.a = a
  generalize v.init.b = b
  by_cases h3 : v.kind = 3
  · have e3 : (v.kind == 3) = true := by rw [h3]; rfl
    have e4 : (v.kind != 3) = false := by rw [h3]; rfl
    rw [if_pos e3, if_pos e3, e4, Bool.false_or, Bool.eq_iff_iff]
    simp only [Bool.and_eq_true, decide_eq_true_eq]
    split <;> split <;> omega
  · have e3 : ¬ (v.kind == 3) = true := by simpa using h3
    have e4 : (v.kind != 3) = true := by simpa using h3
    rw [if_neg e3, if_neg e3, e4, Bool.true_or, Bool.and_true]
def cfgSk3 : Cfg := ⟨tys0, [eRefRight, eRfits]⟩
theorem cfgSk3_ok : TabOk Tryz.prog cfgSk3.tab := (TabOk.cons eRefRight_ok (TabOk.cons eRfits_ok TabOk.nil))
theorem rvar_spec (v : Var) : Does Tryz.prog 48 [.e .var v] [] (.x (.i (varE v))) [] := by
  refine Does.go (cfg := cfgSk3) cfgSk3_ok Tryz.func48 (by kernel_rfl) (by kernel_rfl) (t := (.ite (Var.kind v != (1 : Int) && Var.kind v != (2 : Int) && Var.kind v != (3 : Int) || Val.kind (Var.init v) != Var.kind v) (.ret (.i (8 : Int)) []) (.ite (Var.kind v == (3 : Int)) (.ite (decide (Var.lo v > Var.hi v) || decide (Var.lo v < IntKind.wrap .i64 ((0 : Int) - (1048576 : Int))) || decide (Var.hi v > (1048576 : Int))) (.ret (.i (5 : Int)) []) (.ite (Var.kind v == (2 : Int) && (Var.lo v != (0 : Int) || Var.hi v != (1 : Int))) (.ret (.i (5 : Int)) []) (.ite (!vR { kind := Val.kind (Var.init v), a := Val.a (Var.init v), b := Val.b (Var.init v) } || !fitsM { name := Var.name v, kind := Var.kind v, lo := Var.lo v, hi := Var.hi v, init := { kind := Val.kind (Var.init v), a := Val.a (Var.init v), b := Val.b (Var.init v) } } { kind := Val.kind (Var.init v), a := Val.a (Var.init v), b := Val.b (Var.init v) }) (.ret (.i (5 : Int)) []) (.ret (.i (0 : Int)) [])))) (.ite (decide (Var.lo v > Var.hi v) || decide (Var.lo v < IntKind.wrap .i64 ((0 : Int) - (1099511627776 : Int))) || decide (Var.hi v > (1099511627776 : Int))) (.ret (.i (5 : Int)) []) (.ite (Var.kind v == (2 : Int) && (Var.lo v != (0 : Int) || Var.hi v != (1 : Int))) (.ret (.i (5 : Int)) []) (.ite (!vR { kind := Val.kind (Var.init v), a := Val.a (Var.init v), b := Val.b (Var.init v) } || !fitsM { name := Var.name v, kind := Var.kind v, lo := Var.lo v, hi := Var.hi v, init := { kind := Val.kind (Var.init v), a := Val.a (Var.init v), b := Val.b (Var.init v) } } { kind := Val.kind (Var.init v), a := Val.a (Var.init v), b := Val.b (Var.init v) }) (.ret (.i (5 : Int)) []) (.ret (.i (0 : Int)) []))))))) (by kernel_rfl) fun Γ => ?_
  have w1 : IntKind.wrap .i64 (0 - 1048576) = -1048576 := by decide
  have w2 : IntKind.wrap .i64 (0 - 1099511627776) = -1099511627776 := by decide
  rw [w1, w2, ← kind3]
  have no : ∀ {b : Bool}, b = false → ¬ b = true := fun h e => by rw [h] at e; cases e
  refine ⟨fun h => ?_, fun h => ?_⟩
  · unfold varE; rw [if_pos h]; exact ⟨rfl, rfl⟩
  have hk : v.init.kind = v.kind := by
    rw [Bool.or_eq_false_iff] at h
    simpa using h.2
  have hf := fit_eq v hk
  have hd : ∀ b : Bool, (!vR v.init || !fitsM v v.init) = b → mustM (vR v.init && decide (lowM v ≥ v.lo) && decide (highM v ≤ v.hi)) 5 = if b = true then 5 else 0 := by
    intro b hb
    rw [hf, ← hb]
    unfold mustM
    cases vR v.init <;> cases fitsM v v.init <;> rfl
  refine ⟨fun h3 => ⟨fun hb => ?_, fun hb => ⟨fun hc => ?_, fun hc => ⟨fun he => ?_, fun he => ?_⟩⟩⟩, fun h3 => ⟨fun hb => ?_, fun hb => ⟨fun hc => ?_, fun hc => ⟨fun he => ?_, fun he => ?_⟩⟩⟩⟩
  all_goals
    have hm : mostM v = if (v.kind == 3) = true then 1048576 else 1099511627776 := rfl
    first | rw [if_pos h3] at hm | rw [if_neg (no h3)] at hm
    unfold varE
    rw [if_neg (no h), hm]
  · rw [if_pos (by rw [hb]; rfl)]; exact ⟨rfl, rfl⟩
  · rw [if_pos (by rw [hb]; exact hc)]; exact ⟨rfl, rfl⟩
  · rw [if_neg (by rw [hb]; exact no hc), hd _ he]; exact ⟨rfl, rfl⟩
  · rw [if_neg (by rw [hb]; exact no hc), hd _ he]; exact ⟨rfl, rfl⟩
  · rw [if_pos (by rw [hb]; rfl)]; exact ⟨rfl, rfl⟩
  · rw [if_pos (by rw [hb]; exact hc)]; exact ⟨rfl, rfl⟩
  · rw [if_neg (by rw [hb]; exact no hc), hd _ he]; exact ⟨rfl, rfl⟩
  · rw [if_neg (by rw [hb]; exact no hc), hd _ he]; exact ⟨rfl, rfl⟩
def eRvar : Nat × (List SX → List Chunk → Option (Option Prop × SV × List Chunk)) := (48, fun
  | [.agg [.pd (.str a), .pd (.int .i64 b), .pd (.int .i64 e), .pd (.int .i64 f), .pd (.int .i64 g), .pd (.int .i64 h), .pd (.int .i64 i)]], [] => some (none, .x (.c (.pd (.int .i64 (varE ⟨a, b, e, f, ⟨g, h, i⟩⟩)))), [])
  | _, _ => none)
theorem eRvar_ok (vs : List SX) (ck : List Chunk) (p : Option Prop) (ret : SV) (ck' : List Chunk) (h : eRvar.2 vs ck = some (p, ret, ck')) (hp : Holds p) : Does Tryz.prog eRvar.1 vs ck ret ck' := by
  unfold eRvar at h
  simp only at h
  split at h
  · rename_i a b e f g h i
    simp only [Option.some.injEq, Prod.mk.injEq] at h
    obtain ⟨rfl, rfl, rfl⟩ := h
    exact rvar_spec ⟨a, b, e, f, ⟨g, h, i⟩⟩
  · simp at h
end Go.Proofs.YtcpnicfkpkonkaaGreatDoor

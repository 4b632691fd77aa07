/- Contracts: where the document's operands begin; its searches, its kinds of leaves. Conditions: none. -/
import Derived.Test.YtcpnicfkpkonkaaGreatDoorFd
namespace Go.Proofs.YtcpnicfkpkonkaaGreatDoor
open Go Go.Ev
set_option maxRecDepth 100000
theorem wants_le (c : Cell) : wantsC c ≤ 2 := by
  unfold wantsC wantsM
  simp only [cond_eq_ite]
  repeat' split
  all_goals omega

theorem begin_step (l : List Cell) (Γ : Ctx) (hl : l.length ≤ 32) {e : Nat} (he : e < l.length) (m : Int) (h1 : 1 ≤ m) (h2 : m ≤ 100) {Q : Out}
    (hw : 0 ≤ wantsC l[e]) (hend : m - 1 + wantsC l[e] = 0 → Q (.x (.i (e : Int))) [])
    (hgo : m - 1 + wantsC l[e] ≠ 0 → J Tryz.prog 189 (bodyOf Tryz.f189) Γ Q [.code [1, 1, 1, 0, 0], .inLoop [1, 1, 1, 0, 0], .inBlock 0] ({ n := 21, fr := [(0, .p (.lst .cell l)), (4, .i (0 : Int)), (5, .i (m - 1 + wantsC l[e])), (6, .i ((e : Int) - 1))], ck := [] })) :
    J Tryz.prog 189 (bodyOf Tryz.f189) Γ Q [.code [1, 1, 1, 0, 0], .inLoop [1, 1, 1, 0, 0], .inBlock 0] ({ n := 21, fr := [(0, .p (.lst .cell l)), (4, .i (0 : Int)), (5, .i (m)), (6, .i ((e : Int)))], ck := [] }) := by
  have hle := wants_le l[e]
  have hg : ETy.get .cell l e = l[e] := ETy.get_eq (t := .cell) (List.getElem?_eq_getElem he)
  refine J.go (cfg := cfgRop) cfgRop_ok Tryz.func189 1000 (t := (.need ((0 : Int) ≤ (↑e : Int) ∧ (↑e : Int) < (↑(List.length l) : Int)) (.ite (IntKind.wrap .i64 (IntKind.wrap .i64 (m - (1 : Int)) + wantsM (Cell.op (ETy.get .cell l e)) (Cell.a (ETy.get .cell l e)) (Cell.name (ETy.get .cell l e))) == (0 : Int)) (.ret (.i (↑e : Int)) []) (.stop [.code [1, 1, 1, 0, 0], .inLoop [1, 1, 1, 0, 0], .inBlock 0] { n := 21, fr := [(0, .p (.lst .cell l)), (4, .i (0 : Int)), (5, .i (IntKind.wrap .i64 (IntKind.wrap .i64 (m - (1 : Int)) + wantsM (Cell.op (ETy.get .cell l e)) (Cell.a (ETy.get .cell l e)) (Cell.name (ETy.get .cell l e))))), (6, .i (IntKind.wrap .i64 ((↑e : Int) - (1 : Int))))], ck := [] })))) (by kernel_rfl) ?_
  rw [hg]
  generalize l[e] = c at *
  refine ⟨⟨by omega, by omega⟩, ?_⟩
  have e1 : IntKind.wrap IntKind.i64 (IntKind.wrap IntKind.i64 (m - 1) + wantsC c) = m - 1 + wantsC c := by
    rw [wrapI (n := m - 1) (by omega) (by omega), wrapI (by omega) (by omega)]
  have e2 : IntKind.wrap IntKind.i64 ((e : Int) - 1) = (e : Int) - 1 := wrapI (by omega) (by omega)
  refine ⟨fun h => ?_, fun h => ?_⟩
  · have h' : (IntKind.wrap IntKind.i64 (IntKind.wrap IntKind.i64 (m - 1) + wantsC c) == 0) = true := h
    rw [e1] at h'
    exact hend (by simpa using h')
  · have h' : (IntKind.wrap IntKind.i64 (IntKind.wrap IntKind.i64 (m - 1) + wantsC c) == 0) = false := h
    rw [e1] at h'
    show J Tryz.prog 189 (bodyOf Tryz.f189) Γ Q [.code [1, 1, 1, 0, 0], .inLoop [1, 1, 1, 0, 0], .inBlock 0] ({ n := 21, fr := [(0, .p (.lst .cell l)), (4, .i (0 : Int)), (5, .i (IntKind.wrap .i64 (IntKind.wrap .i64 (m - 1) + wantsC c))), (6, .i (IntKind.wrap .i64 ((↑e : Int) - (1 : Int))))], ck := [] })
    rw [e1, e2]
    exact hgo (by simpa using h')
theorem begin_tm (l : List Cell) (Γ : Ctx) (hl : l.length ≤ 32) {Q : Out} :
    ∀ (t : Tm), t.ok → ∀ (pre post : List Cell) (m : Int), l = pre ++ t.flat ++ post → 1 ≤ m → m + (t.flat.length : Int) ≤ 100 → (m = 1 → Q (.x (.i (pre.length : Int))) []) →
      (m ≠ 1 → J Tryz.prog 189 (bodyOf Tryz.f189) Γ Q [.code [1, 1, 1, 0, 0], .inLoop [1, 1, 1, 0, 0], .inBlock 0] ({ n := 21, fr := [(0, .p (.lst .cell l)), (4, .i (0 : Int)), (5, .i (m - 1)), (6, .i ((pre.length : Int) - 1))], ck := [] })) →
      J Tryz.prog 189 (bodyOf Tryz.f189) Γ Q [.code [1, 1, 1, 0, 0], .inLoop [1, 1, 1, 0, 0], .inBlock 0] ({ n := 21, fr := [(0, .p (.lst .cell l)), (4, .i (0 : Int)), (5, .i (m)), (6, .i (((pre.length : Int) + t.flat.length - 1)))], ck := [] })
  | .leaf c, h, pre, post, m, hq, h1, h2, hend, hgo => by
    have he : pre.length < l.length := by rw [hq]; simp [Tm.flat]
    have hc : l[pre.length] = c := by
      have : l[pre.length]? = some c := by rw [hq]; simp [Tm.flat]
      rw [List.getElem?_eq_getElem he] at this; simpa using this
    have hw : wantsC c = 0 := h
    have e1 : (pre.length : Int) + ((Tm.leaf c).flat.length : Int) - 1 = (pre.length : Int) := by simp [Tm.flat]
    rw [e1]
    refine begin_step l Γ hl he m h1 (by omega) (by rw [hc, hw]; exact Int.le_refl _) (fun h0 => hend (by rw [hc, hw] at h0; omega)) (fun h0 => ?_)
    rw [hc, hw] at h0 ⊢
    have e2 : m - 1 + 0 = m - 1 := by omega
    rw [e2]
    exact hgo (by omega)
  | .un c t, ⟨hw, ht⟩, pre, post, m, hq, h1, h2, hend, hgo => by
    simp only [Tm.flat, List.length_append, List.length_cons, List.length_nil] at h2 ⊢
    have hq2 : l = pre ++ t.flat ++ ([c] ++ post) := by rw [hq]; simp [Tm.flat]
    have he : pre.length + t.flat.length < l.length := by rw [hq2]; simp
    have hc : l[pre.length + t.flat.length] = c := by
      have : l[pre.length + t.flat.length]? = some c := by rw [hq2, List.getElem?_append_right (by simp)]; simp
      rw [List.getElem?_eq_getElem he] at this; simpa using this
    have e1 : (pre.length : Int) + ((t.flat.length + (0 + 1) : Nat) : Int) - 1 = ((pre.length + t.flat.length : Nat) : Int) := by omega
    rw [e1]
    have htp := t.flat_pos
    refine begin_step l Γ hl he m h1 (by omega) (by rw [hc, hw]; decide) (fun h0 => absurd h0 (by rw [hc, hw]; omega)) (fun _ => ?_)
    rw [hc, hw]
    have e2 : m - 1 + 1 = m := by omega
    have e3 : ((pre.length + t.flat.length : Nat) : Int) - 1 = (pre.length : Int) + t.flat.length - 1 := by omega
    rw [e2, e3]
    exact begin_tm l Γ hl t ht pre ([c] ++ post) m hq2 h1 (by omega) hend hgo
  | .bin c t u, ⟨hw, ht, hu⟩, pre, post, m, hq, h1, h2, hend, hgo => by
    simp only [Tm.flat, List.length_append, List.length_cons, List.length_nil] at h2 ⊢
    have hq1 : l = pre ++ t.flat ++ (u.flat ++ [c] ++ post) := by rw [hq]; simp [Tm.flat]
    have hq2 : l = (pre ++ t.flat) ++ u.flat ++ ([c] ++ post) := by rw [hq]; simp [Tm.flat]
    have he : pre.length + t.flat.length + u.flat.length < l.length := by rw [hq2]; simp; omega
    have hc : l[pre.length + t.flat.length + u.flat.length] = c := by
      have hx : pre.length + t.flat.length + u.flat.length = (pre ++ t.flat ++ u.flat).length := by simp [Nat.add_assoc]
      have : l[pre.length + t.flat.length + u.flat.length]? = some c := by rw [hx, hq2, List.getElem?_append_right (Nat.le_refl _), Nat.sub_self]; rfl
      rw [List.getElem?_eq_getElem he] at this; simpa using this
    have e1 : (pre.length : Int) + ((t.flat.length + u.flat.length + (0 + 1) : Nat) : Int) - 1 = ((pre.length + t.flat.length + u.flat.length : Nat) : Int) := by omega
    rw [e1]
    have htp := t.flat_pos
    have hup := u.flat_pos
    refine begin_step l Γ hl he m h1 (by omega) (by rw [hc, hw]; decide) (fun h0 => absurd h0 (by rw [hc, hw]; omega)) (fun _ => ?_)
    rw [hc, hw]
    have e2 : m - 1 + 2 = m + 1 := by omega
    have e3 : ((pre.length + t.flat.length + u.flat.length : Nat) : Int) - 1 = ((pre ++ t.flat).length : Int) + u.flat.length - 1 := by simp only [List.length_append]; omega
    rw [e2, e3]
    refine begin_tm l Γ hl u hu (pre ++ t.flat) ([c] ++ post) (m + 1) hq2 (by omega) (by omega) (fun h0 => absurd h0 (by omega)) (fun _ => ?_)
    have e4 : m + 1 - 1 = m := by omega
    have e5 : (((pre ++ t.flat).length : Nat) : Int) - 1 = (pre.length : Int) + t.flat.length - 1 := by simp
    rw [e4, e5]
    exact begin_tm l Γ hl t ht pre (u.flat ++ [c] ++ post) m hq1 h1 (by omega) hend hgo
theorem begin_spec (l : List Cell) (t : Tm) (ht : t.ok) (pre post : List Cell) (hq : l = pre ++ t.flat ++ post) (hl : l.length ≤ 32) :
    Does Tryz.prog 189 [.l .cell l, .i ((pre.length : Int) + t.flat.length - 1)] [] (.x (.i (pre.length : Int))) [] := by
  generalize he : (pre.length : Int) + t.flat.length - 1 = e
  refine Does.go (cfg := cfg0) cfg0_ok Tryz.func189 (by kernel_rfl) (by kernel_rfl) (t := (.stop [.code [1, 1, 1, 0, 0], .inLoop [1, 1, 1, 0, 0], .inBlock 0] { n := 21, fr := [(0, .p (.lst .cell l)), (4, .i (0 : Int)), (5, .i (1 : Int)), (6, .i e)], ck := [] })) (by kernel_rfl) fun Γ => ?_
  rw [← he]
  exact begin_tm l Γ hl t ht pre post 1 hq (by omega) (by have : l.length = pre.length + t.flat.length + post.length := by rw [hq, List.length_append, List.length_append]
                                                          omega) (fun _ => ⟨rfl, rfl⟩) (fun h => absurd rfl h)

theorem has_loop (l : List Str) (s : Str) (Γ : Ctx) (hl : l.length ≤ maxLen) : ∀ (n k : Nat), l.length - k ≤ n → k ≤ l.length →
    J Tryz.prog 88 (bodyOf Tryz.f88) Γ (Eq2 (.x (.b ((l.drop k).any fun x => x == s))) []) [.code [1, 0, 1, 0, 0], .inLoop [1, 0, 1, 0, 0], .inBlock 0, .code [1, 1]] ({ n := 18, fr := [(0, .p (.lst .str l)), (1, .p (.str s)), (4, .p (.bool false)), (5, .i (k))], ck := [], kn := [4] }) := by
  intro n
  induction n with
  | zero => ?_
  | succ n ih => ?_
  all_goals
    intro k hn hk
    refine J.go (cfg := cfg0) cfg0_ok Tryz.func88 1000 (t := (.ite (decide ((↑k : Int) < (↑(List.length l) : Int))) (.need ((0 : Int) ≤ (↑k : Int) ∧ (↑k : Int) < (↑(List.length l) : Int)) (.ite (ETy.get .str l k == s) (.ret (.p (.bool true)) []) (.stop [.code [1, 0, 1, 0, 0], .inLoop [1, 0, 1, 0, 0], .inBlock 0, .code [1, 1]] { n := 18, fr := [(0, .p (.lst .str l)), (1, .p (.str s)), (4, .p (.bool false)), (5, .i (IntKind.wrap .i64 ((↑k : Int) + (1 : Int))))], ck := [], kn := [4] }))) (.ret (.p (.bool false)) []))) (by kernel_rfl) ?_
    refine ⟨fun hlt => ?_, fun hge => ⟨?_, rfl⟩⟩
    · have hk' : k < l.length := by have := of_decide_eq_true hlt; omega
      rw [drop_get (t := .str) hk']
      refine ⟨by omega, ?_⟩
      generalize ETy.get .str l k = v
      refine ⟨fun hb => ⟨?_, rfl⟩, fun hb => ?_⟩
      · have hb' : (v == s) = true := hb
        rw [List.any_cons, hb']; rfl
      · have hb' : (v == s) = false := hb
        rw [List.any_cons, hb', Bool.false_or, wrapK (maxLen_lt hk' hl)]
        first
        | (exfalso; omega)
        | exact ih (k + 1) (by omega) (by omega)
    · rw [drop_end (by have := of_decide_eq_false hge; omega)]; rfl
theorem has_spec (l : List Str) (s : Str) : Does Tryz.prog 88 [.l .str l, .s s] [] (.x (.b (l.any fun x => x == s))) [] := by
  refine Does.go (cfg := cfg0) cfg0_ok Tryz.func88 (by kernel_rfl) (by kernel_rfl) (t := (.stop [.code [1, 0, 1, 0, 0], .inLoop [1, 0, 1, 0, 0], .inBlock 0, .code [1, 1]] { n := 18, fr := [(0, .p (.lst .str l)), (1, .p (.str s)), (4, .p (.bool false)), (5, .i (0 : Int))], ck := [], kn := [4] })) (by kernel_rfl) fun Γ => ?_
  exact J.len 0 rfl fun hl => has_loop l s Γ hl l.length 0 (by omega) (by omega)
def eHas : Nat × (List SX → List Chunk → Option (Option Prop × SV × List Chunk)) := (88, fun
  | [.c (.pd (.lst .str l)), .c (.pd (.str s))], [] => some (none, .x (.c (.pd (.bool (l.any fun x => x == s)))), [])
  | _, _ => none)
theorem eHas_ok (vs : List SX) (ck : List Chunk) (p : Option Prop) (ret : SV) (ck' : List Chunk) (h : eHas.2 vs ck = some (p, ret, ck')) (hp : Holds p) : Does Tryz.prog eHas.1 vs ck ret ck' := by
  unfold eHas at h
  simp only at h
  split at h
  · rename_i l s
    simp only [Option.some.injEq, Prod.mk.injEq] at h
    obtain ⟨rfl, rfl, rfl⟩ := h
    exact has_spec l s
  · simp at h

theorem find_loop (vs : List Var) (s : Str) (Γ : Ctx) (hl : vs.length ≤ maxLen) : ∀ (n k : Nat), vs.length - k ≤ n → k ≤ vs.length →
    J Tryz.prog 89 (bodyOf Tryz.f89) Γ (Eq2 (.x (.i (firstAt (fun v : Var => v.name == s) (vs.drop k) k))) []) [.code [1, 0, 1, 0, 0], .inLoop [1, 0, 1, 0, 0], .inBlock 0, .code [1, 1]] ({ n := 20, fr := [(0, .p (.lst .var vs)), (1, .p (.str s)), (4, .i (0 : Int)), (5, .i (k))], ck := [] }) := by
  intro n
  induction n with
  | zero => ?_
  | succ n ih => ?_
  all_goals
    intro k hn hk
    refine J.go (cfg := cfg0) cfg0_ok Tryz.func89 1000 (t := (.ite (decide ((↑k : Int) < (↑(List.length vs) : Int))) (.need ((0 : Int) ≤ (↑k : Int) ∧ (↑k : Int) < (↑(List.length vs) : Int)) (.ite (Var.name (ETy.get .var vs k) == s) (.ret (.i (↑k : Int)) []) (.stop [.code [1, 0, 1, 0, 0], .inLoop [1, 0, 1, 0, 0], .inBlock 0, .code [1, 1]] { n := 20, fr := [(0, .p (.lst .var vs)), (1, .p (.str s)), (4, .i (0 : Int)), (5, .i (IntKind.wrap .i64 ((↑k : Int) + (1 : Int))))], ck := [] }))) (.ret (.i (-1 : Int)) []))) (by kernel_rfl) ?_
    refine ⟨fun hlt => ?_, fun hge => ⟨?_, rfl⟩⟩
    · have hk' : k < vs.length := by have := of_decide_eq_true hlt; omega
      rw [drop_get (t := .var) hk']
      refine ⟨by omega, ?_⟩
      generalize ETy.get .var vs k = v
      refine ⟨fun hb => ⟨?_, rfl⟩, fun hb => ?_⟩
      · have hb' : (v.name == s) = true := hb
        simp only [firstAt, hb', cond_true]
      · have hb' : (v.name == s) = false := hb
        simp only [firstAt, hb', cond_false]
        rw [wrapK (maxLen_lt hk' hl)]
        first
        | (exfalso; omega)
        | exact ih (k + 1) (by omega) (by omega)
    · rw [drop_end (by have := of_decide_eq_false hge; omega)]; rfl
theorem find_spec (vs : List Var) (s : Str) : Does Tryz.prog 89 [.l .var vs, .s s] [] (.x (.i (firstAt (fun v : Var => v.name == s) vs 0))) [] := by
  refine Does.go (cfg := cfg0) cfg0_ok Tryz.func89 (by kernel_rfl) (by kernel_rfl) (t := (.stop [.code [1, 0, 1, 0, 0], .inLoop [1, 0, 1, 0, 0], .inBlock 0, .code [1, 1]] { n := 20, fr := [(0, .p (.lst .var vs)), (1, .p (.str s)), (4, .i (0 : Int)), (5, .i (0 : Int))], ck := [] })) (by kernel_rfl) fun Γ => ?_
  exact J.len 0 rfl fun hl => find_loop vs s Γ hl vs.length 0 (by omega) (by omega)
def eFind : Nat × (List SX → List Chunk → Option (Option Prop × SV × List Chunk)) := (89, fun
  | [.c (.pd (.lst .var vs)), .c (.pd (.str s))], [] => some (none, .x (.c (.pd (.int .i64 (firstAt (fun v : Var => v.name == s) vs 0)))), [])
  | _, _ => none)
theorem eFind_ok (vs : List SX) (ck : List Chunk) (p : Option Prop) (ret : SV) (ck' : List Chunk) (h : eFind.2 vs ck = some (p, ret, ck')) (hp : Holds p) : Does Tryz.prog eFind.1 vs ck ret ck' := by
  unfold eFind at h
  simp only at h
  split at h
  · rename_i vs s
    simp only [Option.some.injEq, Prod.mk.injEq] at h
    obtain ⟨rfl, rfl, rfl⟩ := h
    exact find_spec vs s
  · simp at h
def cfgRl : Cfg := ⟨tys0, [eFind, eHas]⟩
theorem cfgRl_ok : TabOk Tryz.prog cfgRl.tab := (TabOk.cons eFind_ok (TabOk.cons eHas_ok TabOk.nil))

theorem ref_leaf_spec (c : Cell) (vs : List Var) (ss : List Str) : Does Tryz.prog 188 [.e .cell c, .l .var vs, .l .str ss] [] (intP (leafM c vs ss)) [] := by
  refine Does.go (cfg := cfgRl) cfgRl_ok Tryz.func188 (by kernel_rfl) (by kernel_rfl) (t := (.ite (Cell.op c == (1 : Int)) (.ret (.tup [.i (1 : Int), .i (0 : Int)]) []) (.ite (Cell.op c == (2 : Int)) (.ret (.tup [.i (3 : Int), .i (0 : Int)]) []) (.ite (Cell.op c == (5 : Int)) (.ite (decide (firstAt (fun v => Var.name v == Cell.name c) vs (0 : Int) < (0 : Int))) (.ret (.tup [.i (0 : Int), .i (2 : Int)]) []) (.need ((0 : Int) ≤ firstAt (fun v => Var.name v == Cell.name c) vs (0 : Int) ∧ firstAt (fun v => Var.name v == Cell.name c) vs (0 : Int) < (↑(List.length vs) : Int)) (.need (decide (Var.kind (ETy.get .var vs (Int.toNat (firstAt (fun v => Var.name v == Cell.name c) vs (0 : Int)))) < (1 : Int)) = false → (0 : Int) ≤ firstAt (fun v => Var.name v == Cell.name c) vs (0 : Int) ∧ firstAt (fun v => Var.name v == Cell.name c) vs (0 : Int) < (↑(List.length vs) : Int)) (.ite (decide (Var.kind (ETy.get .var vs (Int.toNat (firstAt (fun v => Var.name v == Cell.name c) vs (0 : Int)))) < (1 : Int)) || decide (Var.kind (ETy.get .var vs (Int.toNat (firstAt (fun v => Var.name v == Cell.name c) vs (0 : Int)))) > (3 : Int))) (.ret (.tup [.i (0 : Int), .i (8 : Int)]) []) (.need ((0 : Int) ≤ firstAt (fun v => Var.name v == Cell.name c) vs (0 : Int) ∧ firstAt (fun v => Var.name v == Cell.name c) vs (0 : Int) < (↑(List.length vs) : Int)) (.ret (.tup [.i (Var.kind (ETy.get .var vs (Int.toNat (firstAt (fun v => Var.name v == Cell.name c) vs (0 : Int))))), .i (0 : Int)]) [])))))) (.ite (Cell.op c == (6 : Int)) (.ite (!List.any ss fun x => x == Cell.name c) (.ret (.tup [.i (0 : Int), .i (2 : Int)]) []) (.ret (.tup [.i (2 : Int), .i (0 : Int)]) [])) (.ret (.tup [.i (2 : Int), .i (0 : Int)]) [])))))) (by kernel_rfl) fun Γ => ?_
  refine ⟨fun h1 => ⟨by simp only [leafM, h1, cond_true, intP], rfl⟩, fun h1 => ⟨fun h2 => ⟨by simp only [leafM, h1, h2, cond_true, cond_false, intP], rfl⟩, fun h2 => ⟨fun h5 => ?_, fun h5 => ⟨fun h6 => ⟨fun h => ⟨?_, rfl⟩, fun h => ⟨?_, rfl⟩⟩, fun h6 => ⟨by simp only [leafM, h1, h2, h5, h6, cond_false, intP], rfl⟩⟩⟩⟩⟩
  · rcases firstAt_find (fun v : Var => v.name == c.name) vs 0 with ⟨g1, g2⟩ | ⟨k, x, g1, g2, g3⟩
    · simp only [Int.natCast_zero] at g1
      rw [g1]
      exact ⟨fun _ => ⟨by simp only [leafM, h1, h2, h5, findVar, g2, cond_true, cond_false, intP], rfl⟩, fun h => by simp at h⟩
    · simp only [Int.natCast_zero, Nat.zero_add] at g1
      have hk := (List.getElem?_eq_some_iff.1 g2).1
      rw [g1]
      have hkind : (decide (x.kind ≥ 1) && decide (x.kind ≤ 3)) = !(decide (x.kind < 1) || decide (x.kind > 3)) := by
        rw [Bool.eq_iff_iff]
        simp only [Bool.and_eq_true, decide_eq_true_eq, Bool.not_eq_true', Bool.or_eq_false_iff, decide_eq_false_iff_not]
        omega
      refine ⟨fun h => by have := of_decide_eq_true h; omega, fun _ => ⟨by omega, ?_⟩⟩
      rw [Int.toNat_natCast, ETy.get_eq (t := .var) g2]
      refine ⟨fun _ => ⟨by omega, by omega⟩, fun h => ⟨?_, rfl⟩, fun h => ⟨⟨by omega, by omega⟩, ?_, rfl⟩⟩
      · simp only [leafM, h1, h2, h5, findVar, g3, hkind, h, Bool.not_true, cond_true, cond_false, intP]
      · simp only [leafM, h1, h2, h5, findVar, g3, hkind, h, Bool.not_false, cond_true, cond_false, intP]
  · simp only [leafM, h1, h2, h5, h6, h, cond_true, cond_false, intP]
  · simp only [leafM, h1, h2, h5, h6, h, cond_true, cond_false, intP]
def eRleaf : Nat × (List SX → List Chunk → Option (Option Prop × SV × List Chunk)) := (188, fun
  | [.agg [.pd (.int .i64 a), .pd (.int .i64 b), .pd (.str d)], .c (.pd (.lst .var vs)), .c (.pd (.lst .str ss))], [] => some (none, intP (leafM ⟨a, b, d⟩ vs ss), [])
  | _, _ => none)
theorem eRleaf_ok (vs : List SX) (ck : List Chunk) (p : Option Prop) (ret : SV) (ck' : List Chunk) (h : eRleaf.2 vs ck = some (p, ret, ck')) (hp : Holds p) : Does Tryz.prog eRleaf.1 vs ck ret ck' := by
  unfold eRleaf at h
  simp only at h
  split at h
  · rename_i a b d vs ss
    simp only [Option.some.injEq, Prod.mk.injEq] at h
    obtain ⟨rfl, rfl, rfl⟩ := h
    exact ref_leaf_spec ⟨a, b, d⟩ vs ss
  · simp at h
theorem joined_spec (op k : Int) : Does Tryz.prog 190 [.i op, .i k] [] (intP (joinedM op k)) [] := by
  refine Does.go (cfg := cfg0) cfg0_ok Tryz.func190 (by kernel_rfl) (by kernel_rfl) (t := (.ite (op == (16 : Int) || op == (17 : Int)) (.ret (.tup [.i (2 : Int), .i (0 : Int)]) []) (.ite (op == (22 : Int) || op == (23 : Int)) (.ite (k == (2 : Int)) (.ret (.tup [.i k, .i (0 : Int)]) []) (.ret (.tup [.i (0 : Int), .i (8 : Int)]) [])) (.ite (decide (op ≥ (18 : Int))) (.ite (k == (1 : Int)) (.ret (.tup [.i (2 : Int), .i (0 : Int)]) []) (.ret (.tup [.i (0 : Int), .i (8 : Int)]) [])) (.ite (decide (op ≥ (14 : Int))) (.ite (k == (1 : Int)) (.ret (.tup [.i k, .i (0 : Int)]) []) (.ret (.tup [.i (0 : Int), .i (8 : Int)]) [])) (.ite (k != (2 : Int)) (.ret (.tup [.i k, .i (0 : Int)]) []) (.ret (.tup [.i (0 : Int), .i (8 : Int)]) []))))))) (by kernel_rfl) fun Γ => ?_
  (repeat' (first | intro h | constructor)) <;> simp only [joinedM, *, cond_true, cond_false, intP]
def eJn : Nat × (List SX → List Chunk → Option (Option Prop × SV × List Chunk)) := (190, fun
  | [.c (.pd (.int .i64 op)), .c (.pd (.int .i64 k))], [] => some (none, intP (joinedM op k), [])
  | _, _ => none)
theorem eJn_ok (vs : List SX) (ck : List Chunk) (p : Option Prop) (ret : SV) (ck' : List Chunk) (h : eJn.2 vs ck = some (p, ret, ck')) (hp : Holds p) : Does Tryz.prog eJn.1 vs ck ret ck' := by
  unfold eJn at h
  simp only at h
  split at h
  · rename_i op k
    simp only [Option.some.injEq, Prod.mk.injEq] at h
    obtain ⟨rfl, rfl, rfl⟩ := h
    exact joined_spec op k
  · simp at h
end Go.Proofs.YtcpnicfkpkonkaaGreatDoor

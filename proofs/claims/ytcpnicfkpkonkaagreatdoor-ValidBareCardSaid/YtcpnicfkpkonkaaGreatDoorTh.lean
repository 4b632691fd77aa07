/- Contracts: valid: variables, a state's Initial. Conditions: sizes. Contracts: valid: blocks. Conditions: sizes. -/
import Derived.Test.YtcpnicfkpkonkaaGreatDoorJz
namespace Go.Proofs.YtcpnicfkpkonkaaGreatDoor
open Go Go.Ev
set_option maxRecDepth 100000
def cfgVb : Cfg := ⟨tys0, [eEvRight, eMust]⟩
theorem cfgVb_ok : TabOk Tryz.prog cfgVb.tab := (TabOk.cons eEvRight_ok (TabOk.cons eMust_ok TabOk.nil))
def mostM (v : Var) : Int := if (v.kind == 3) = true then 1048576 else 1099511627776
def lowM (v : Var) : Int := if (v.kind == 3) = true then (if v.init.b < v.init.a then v.init.b else v.init.a) else v.init.a
def highM (v : Var) : Int := if (v.kind == 3) = true then (if v.init.b > v.init.a then v.init.b else v.init.a) else v.init.a
def varE (v : Var) : Int :=
  if (decide (v.kind < 1) || decide (v.kind > 3) || v.init.kind != v.kind) = true then 8
  else if (decide (v.lo > v.hi) || decide (v.lo < - mostM v) || decide (v.hi > mostM v) || v.kind == 2 && (v.lo != 0 || v.hi != 1)) = true then 5
  else mustM (vR v.init && decide (lowM v ≥ v.lo) && decide (highM v ≤ v.hi)) 5
def initE (l : List Ev.Stat) (i : Nat) : Int :=
  if ((ETy.get .stat l i).kind != 2 && !pastM (ETy.get .stat l i).kind) = true then mustM ((ETy.get .stat l i).initial == []) 1
  else if (decide (placeM l (ETy.get .stat l i).initial < 0) || pastM (ETy.get .stat l (placeM l (ETy.get .stat l i).initial).toNat).kind) = true then 2
  else if ((ETy.get .stat l i).kind == 2) = true then mustM (parentM l (placeM l (ETy.get .stat l i).initial) == (i : Int)) 2
  else if ((ETy.get .stat l i).kind == 5) = true then mustM (parentM l (placeM l (ETy.get .stat l i).initial) == parentM l i) 2
  else mustM (withinM l (parentM l i) (placeM l (ETy.get .stat l i).initial)) 2
theorem vvar_spec (v : Var) : Does Tryz.prog 37 [.e .var v] [] (.x (.i (varE v))) [] := by
  refine Does.go (cfg := cfgVb) cfgVb_ok Tryz.func37 (by kernel_rfl) (by kernel_rfl) (t := (.ite (decide (Var.kind v < (1 : Int)) || decide (Var.kind v > (3 : Int)) || Val.kind (Var.init v) != Var.kind v) (.ret (.i (8 : Int)) []) (.ite (Var.kind v == (3 : Int)) (.ite (decide (Var.lo v > Var.hi v) || decide (Var.lo v < IntKind.wrap .i64 ((0 : Int) - (1048576 : Int))) || decide (Var.hi v > (1048576 : Int)) || Var.kind v == (2 : Int) && (Var.lo v != (0 : Int) || Var.hi v != (1 : Int))) (.ret (.i (5 : Int)) []) (.ite (Var.kind v == (3 : Int)) (.ret (.i (mustM (vR { kind := Val.kind (Var.init v), a := Val.a (Var.init v), b := Val.b (Var.init v) } && decide ((if Val.b (Var.init v) < Val.a (Var.init v) then Val.b (Var.init v) else Val.a (Var.init v)) ≥ Var.lo v) && decide ((if Val.b (Var.init v) > Val.a (Var.init v) then Val.b (Var.init v) else Val.a (Var.init v)) ≤ Var.hi v)) (5 : Int))) []) (.ret (.i (mustM (vR { kind := Val.kind (Var.init v), a := Val.a (Var.init v), b := Val.b (Var.init v) } && decide (Val.a (Var.init v) ≥ Var.lo v) && decide (Val.a (Var.init v) ≤ Var.hi v)) (5 : Int))) []))) (.ite (decide (Var.lo v > Var.hi v) || decide (Var.lo v < IntKind.wrap .i64 ((0 : Int) - (1099511627776 : Int))) || decide (Var.hi v > (1099511627776 : Int)) || Var.kind v == (2 : Int) && (Var.lo v != (0 : Int) || Var.hi v != (1 : Int))) (.ret (.i (5 : Int)) []) (.ite (Var.kind v == (3 : Int)) (.ret (.i (mustM (vR { kind := Val.kind (Var.init v), a := Val.a (Var.init v), b := Val.b (Var.init v) } && decide ((if Val.b (Var.init v) < Val.a (Var.init v) then Val.b (Var.init v) else Val.a (Var.init v)) ≥ Var.lo v) && decide ((if Val.b (Var.init v) > Val.a (Var.init v) then Val.b (Var.init v) else Val.a (Var.init v)) ≤ Var.hi v)) (5 : Int))) []) (.ret (.i (mustM (vR { kind := Val.kind (Var.init v), a := Val.a (Var.init v), b := Val.b (Var.init v) } && decide (Val.a (Var.init v) ≥ Var.lo v) && decide (Val.a (Var.init v) ≤ Var.hi v)) (5 : Int))) [])))))) (by kernel_rfl) fun Γ => ?_
  have w1 : IntKind.wrap .i64 (0 - 1048576) = -1048576 := by decide
  have w2 : IntKind.wrap .i64 (0 - 1099511627776) = -1099511627776 := by decide
  refine ⟨fun h => ?_, fun h => ⟨fun h3 => ⟨fun hr => ?_, fun hr => ⟨fun h4 => ?_, fun h4 => ?_⟩⟩, fun h3 => ⟨fun hr => ?_, fun hr => ⟨fun h4 => ?_, fun h4 => ?_⟩⟩⟩⟩
  · unfold varE; rw [if_pos h]; exact ⟨rfl, rfl⟩
  · rw [w1] at hr
    unfold varE; rw [if_neg (by rw [h]; decide)]
    simp only [mostM, if_pos h3]
    rw [if_pos hr]; exact ⟨rfl, rfl⟩
  · rw [w1] at hr
    unfold varE; rw [if_neg (by rw [h]; decide)]
    simp only [mostM, lowM, highM, if_pos h3]
    rw [if_neg (by rw [hr]; decide)]; exact ⟨rfl, rfl⟩
  · rw [h3] at h4; cases h4
  · rw [w2] at hr
    unfold varE; rw [if_neg (by rw [h]; decide)]
    simp only [mostM, if_neg (show ¬ (v.kind == 3) = true by rw [h3]; decide)]
    rw [if_pos hr]; exact ⟨rfl, rfl⟩
  · rw [h3] at h4; cases h4
  · rw [w2] at hr
    unfold varE; rw [if_neg (by rw [h]; decide)]
    simp only [mostM, lowM, highM, if_neg (show ¬ (v.kind == 3) = true by rw [h3]; decide)]
    rw [if_neg (by rw [hr]; decide)]; exact ⟨rfl, rfl⟩
def eVvar : Nat × (List SX → List Chunk → Option (Option Prop × SV × List Chunk)) := (37, fun
  | [.agg [.pd (.str a), .pd (.int .i64 b), .pd (.int .i64 e), .pd (.int .i64 f), .pd (.int .i64 g), .pd (.int .i64 h), .pd (.int .i64 i)]], [] => some (none, .x (.c (.pd (.int .i64 (varE ⟨a, b, e, f, ⟨g, h, i⟩⟩)))), [])
  | _, _ => none)
theorem eVvar_ok (vs : List SX) (ck : List Chunk) (p : Option Prop) (ret : SV) (ck' : List Chunk) (h : eVvar.2 vs ck = some (p, ret, ck')) (hp : Holds p) : Does Tryz.prog eVvar.1 vs ck ret ck' := by
  unfold eVvar at h
  simp only at h
  split at h
  · rename_i a b e f g h i
    simp only [Option.some.injEq, Prod.mk.injEq] at h
    obtain ⟨rfl, rfl, rfl⟩ := h
    exact vvar_spec ⟨a, b, e, f, ⟨g, h, i⟩⟩
  · simp at h
def cfgIn5 : Cfg := ⟨tys0, [eVpast, eMust, ePlace, eParent, eWithin]⟩
theorem cfgIn5_ok : TabOk Tryz.prog cfgIn5.tab := (TabOk.cons eVpast_ok (TabOk.cons eMust_ok (TabOk.cons ePlace_ok (TabOk.cons eParent_ok (TabOk.cons eWithin_ok TabOk.nil)))))
theorem firstAt_in {α : Type} (p : α → Bool) : ∀ (l : List α) (i : Int), 0 ≤ i → firstAt p l i = -1 ∨ (i ≤ firstAt p l i ∧ firstAt p l i < i + (l.length : Int))
  | [], i, _ => .inl rfl
  | x :: r, i, h => by
    have ih := firstAt_in p r (i + 1) (by omega)
    unfold firstAt
    cases p x
    · rw [cond_false]
      rcases ih with e | ⟨h1, h2⟩
      · exact .inl e
      · refine .inr ⟨by omega, ?_⟩
        rw [List.length_cons]; omega
    · rw [cond_true]
      refine .inr ⟨by omega, ?_⟩
      rw [List.length_cons]; omega
theorem place_in (l : List Ev.Stat) (n : Str) : placeM l n = -1 ∨ (0 ≤ placeM l n ∧ placeM l n < (l.length : Int)) := by
  rcases firstAt_in (fun s : Ev.Stat => s.name == n) l 0 (by omega) with h | ⟨h1, h2⟩
  · exact .inl h
  · exact .inr ⟨h1, by unfold placeM; omega⟩
theorem vinit_nat (c : Chart) (i : Nat) (hi : i < c.states.length) (hl : c.states.length ≤ maxLen) : Does Tryz.prog 35 [.e .chart c, .i (i : Int)] [] (.x (.i (initE c.states i))) [] := by
  refine Does.go (cfg := cfgIn5) cfgIn5_ok Tryz.func35 (by kernel_rfl) (by kernel_rfl) (t := (.need ((0 : Int) ≤ (↑i : Int) ∧ (↑i : Int) < (↑(List.length (Chart.states c)) : Int)) (.ite (Stat.kind (ETy.get .stat (Chart.states c) i) != (2 : Int) && !pastM (Stat.kind (ETy.get .stat (Chart.states c) i))) (.ret (.i (mustM (Stat.initial (ETy.get .stat (Chart.states c) i) == []) (1 : Int))) []) (.need (decide (placeM (Chart.states c) (Stat.initial (ETy.get .stat (Chart.states c) i)) < (0 : Int)) = false → (0 : Int) ≤ placeM (Chart.states c) (Stat.initial (ETy.get .stat (Chart.states c) i)) ∧ placeM (Chart.states c) (Stat.initial (ETy.get .stat (Chart.states c) i)) < (↑(List.length (Chart.states c)) : Int)) (.ite (decide (placeM (Chart.states c) (Stat.initial (ETy.get .stat (Chart.states c) i)) < (0 : Int)) || pastM (Stat.kind (ETy.get .stat (Chart.states c) (Int.toNat (placeM (Chart.states c) (Stat.initial (ETy.get .stat (Chart.states c) i))))))) (.ret (.i (2 : Int)) []) (.need (List.length (Chart.states c) ≤ maxLen) (.ite (Stat.kind (ETy.get .stat (Chart.states c) i) == (2 : Int)) (.need (List.length (Chart.states c) ≤ maxLen) (.ret (.i (mustM (parentM (Chart.states c) (placeM (Chart.states c) (Stat.initial (ETy.get .stat (Chart.states c) i))) == (↑i : Int)) (2 : Int))) [])) (.ite (Stat.kind (ETy.get .stat (Chart.states c) i) == (5 : Int)) (.need (List.length (Chart.states c) ≤ maxLen) (.ret (.i (mustM (parentM (Chart.states c) (placeM (Chart.states c) (Stat.initial (ETy.get .stat (Chart.states c) i))) == parentM (Chart.states c) (↑i : Int)) (2 : Int))) [])) (.need (List.length (Chart.states c) ≤ maxLen) (.ret (.i (mustM (withinM (Chart.states c) (parentM (Chart.states c) (↑i : Int)) (placeM (Chart.states c) (Stat.initial (ETy.get .stat (Chart.states c) i)))) (2 : Int))) [])))))))))) (by kernel_rfl) fun Γ => ?_
  unfold initE
  have hp := place_in c.states (ETy.get .stat c.states i).initial
  refine ⟨⟨by omega, by omega⟩, fun h => ?_, fun h => ⟨fun h2 => ?_, fun h3 => ?_, fun h3 => ⟨hl, fun h4 => ⟨hl, ?_⟩, fun h4 => ⟨fun h5 => ⟨hl, ?_⟩, fun h5 => ⟨hl, ?_⟩⟩⟩⟩⟩
  · rw [if_pos h]; exact ⟨rfl, rfl⟩
  · have := of_decide_eq_false h2
    rcases hp with e | e
    · omega
    · exact e
  · rw [if_neg (by rw [h]; decide), if_pos h3]; exact ⟨rfl, rfl⟩
  · rw [if_neg (by rw [h]; decide), if_neg (by rw [h3]; decide), if_pos h4]; exact ⟨rfl, rfl⟩
  · rw [if_neg (by rw [h]; decide), if_neg (by rw [h3]; decide), if_neg (by rw [h4]; decide), if_pos h5]; exact ⟨rfl, rfl⟩
  · rw [if_neg (by rw [h]; decide), if_neg (by rw [h3]; decide), if_neg (by rw [h4]; decide), if_neg (by rw [h5]; decide)]; exact ⟨rfl, rfl⟩
theorem vinit_spec (c : Chart) (i : Int) (h : 0 ≤ i ∧ i < (c.states.length : Int) ∧ c.states.length ≤ maxLen) : Does Tryz.prog 35 [.e .chart c, .i i] [] (.x (.i (initE c.states i.toNat))) [] := by
  obtain ⟨k, rfl⟩ := Int.eq_ofNat_of_zero_le h.1
  rw [Int.toNat_natCast]
  exact vinit_nat c k (by omega) h.2.2
def eVinit : Nat × (List SX → List Chunk → Option (Option Prop × SV × List Chunk)) := (35, fun
  | [.agg [.pd (.str a), .pd (.lst .str b), .pd (.lst .var c), .pd (.lst .stat d), .pd (.lst .tran e)], .c (.pd (.int .i64 i))], [] => some (some (0 ≤ i ∧ i < (d.length : Int) ∧ d.length ≤ maxLen), .x (.c (.pd (.int .i64 (initE d i.toNat)))), [])
  | _, _ => none)
theorem eVinit_ok (vs : List SX) (ck : List Chunk) (p : Option Prop) (ret : SV) (ck' : List Chunk) (h : eVinit.2 vs ck = some (p, ret, ck')) (hp : Holds p) : Does Tryz.prog eVinit.1 vs ck ret ck' := by
  unfold eVinit at h
  simp only at h
  split at h
  · rename_i a b c d e i
    simp only [Option.some.injEq, Prod.mk.injEq] at h
    obtain ⟨rfl, rfl, rfl⟩ := h
    exact vinit_spec ⟨a, b, c, d, e⟩ i hp
  · simp at h
theorem bk1_spec (v : Var) (a : Deed) : Does Tryz.prog 133 [.e .var v, .p (.ref .deed a 0)] [] (.x (.b (v.name == a.name))) [] := by
  refine Does.go (cfg := cfg0) cfg0_ok Tryz.func133 (by kernel_rfl) (by kernel_rfl) (t := (.ret (.p (.bool (Var.name v == Deed.name a))) [])) (by kernel_rfl) fun Γ => ⟨rfl, rfl⟩
def eBk1 : Nat × (List SX → List Chunk → Option (Option Prop × SV × List Chunk)) := (133, fun
  | [.agg [.pd (.str a), .pd (.int .i64 b), .pd (.int .i64 e), .pd (.int .i64 f), .pd (.int .i64 g), .pd (.int .i64 h), .pd (.int .i64 i)], .c (.pd (.ref .deed ⟨x, y, z⟩ 0))], [] => some (none, .x (.c (.pd (.bool (a == y)))), [])
  | _, _ => none)
theorem eBk1_ok (vs : List SX) (ck : List Chunk) (p : Option Prop) (ret : SV) (ck' : List Chunk) (h : eBk1.2 vs ck = some (p, ret, ck')) (hp : Holds p) : Does Tryz.prog eBk1.1 vs ck ret ck' := by
  unfold eBk1 at h
  simp only at h
  split at h
  · rename_i a b e f g h i x y z
    simp only [Option.some.injEq, Prod.mk.injEq] at h
    obtain ⟨rfl, rfl, rfl⟩ := h
    exact bk1_spec ⟨a, b, e, f, ⟨g, h, i⟩⟩ ⟨x, y, z⟩
  · simp at h
def cfgBk1 : Cfg := ⟨tys0, [eBk1]⟩
theorem cfgBk1_ok : TabOk Tryz.prog cfgBk1.tab := (TabOk.cons eBk1_ok TabOk.nil)

theorem ixv_loop (l : List Var) (s : Deed) (Γ : Ctx) (hl : l.length ≤ maxLen)  : ∀ (n k : Nat), l.length - k ≤ n → k ≤ l.length →
    J Tryz.prog 132 (bodyOf Tryz.f132) Γ (Eq2 (.x (.i (firstAt (fun v : Var => v.name == s.name) (l.drop k) k))) []) [.code [1, 0, 1, 0, 0], .inLoop [1, 0, 1, 0, 0], .inBlock 0, .code [1, 1]] ({ n := 19, fr := [(0, .p (.lst .var l)), (1, .x (.c (.fn (.func 133) [] [.pd (.ref .deed s 0)]))), (4, .i (0 : Int)), (7, .i (↑(List.length l) : Int)), (8, .i (k))], ck := [] }) := by
  intro n
  induction n with
  | zero => ?_
  | succ n ih => ?_
  all_goals
    intro k hn hk
    refine J.go (cfg := cfgBk1) cfgBk1_ok Tryz.func132 1000 (t := (.ite (decide ((↑k : Int) < (↑(List.length l) : Int))) (.need ((0 : Int) ≤ (↑k : Int) ∧ (↑k : Int) < (↑(List.length l) : Int)) (.ite (Var.name (ETy.get .var l k) == s.2) (.ret (.i (↑k : Int)) []) (.stop [.code [1, 0, 1, 0, 0], .inLoop [1, 0, 1, 0, 0], .inBlock 0, .code [1, 1]] { n := 19, fr := [(0, .p (.lst .var l)), (1, .x (.c (.fn (.func 133) [] [.pd (.ref .deed s 0)]))), (4, .i (0 : Int)), (7, .i (↑(List.length l) : Int)), (8, .i (IntKind.wrap .i64 ((↑k : Int) + (1 : Int))))], ck := [] }))) (.ret (.i (-1 : Int)) []))) (by kernel_rfl) ?_
    refine ⟨fun hlt => ?_, fun hge => ?_⟩
    · have hk' : k < l.length := by have := of_decide_eq_true hlt; omega
      rw [drop_get (t := .var) (l := l) hk']
      refine ⟨by omega, ?_⟩
      generalize ETy.get .var l k = v
      refine ⟨fun hb => ⟨?_, rfl⟩, fun hb => ?_⟩
      · simp only [firstAt, hb, cond_true]
      · simp only [firstAt, hb, cond_false]; (rw [wrapK (maxLen_lt hk' hl)]; first | (exfalso; omega) | exact ih (k + 1) (by omega) (by omega))
    · rw [drop_end (l := l) (by have := of_decide_eq_false hge; omega)]
      exact ⟨rfl, rfl⟩
theorem ixv_spec (l : List Var) (s : Deed) : Does Tryz.prog 132 [.l .var (l), SX.c (SC.fn (Fn.func 133) [] [RC.pd (PD.ref ETy.deed s 0)])] [] (.x (.i (firstAt (fun v : Var => v.name == s.name) l 0))) [] := by
  refine Does.go (cfg := cfgBk1) cfgBk1_ok Tryz.func132 (by kernel_rfl) (by kernel_rfl) (t := (.stop [.code [1, 0, 1, 0, 0], .inLoop [1, 0, 1, 0, 0], .inBlock 0, .code [1, 1]] { n := 19, fr := [(0, .p (.lst .var l)), (1, .x (.c (.fn (.func 133) [] [.pd (.ref .deed s 0)]))), (4, .i (0 : Int)), (7, .i (↑(List.length l) : Int)), (8, .i (0 : Int))], ck := [] })) (by kernel_rfl) fun Γ => ?_
  exact J.len 0 rfl fun hl => ixv_loop l s Γ hl l.length 0 (by omega) (by omega)
def eIxv : Nat × (List SX → List Chunk → Option (Option Prop × SV × List Chunk)) := (132, fun
  | [.c (.pd (.lst .var l)), .c (.fn (.func 133) [] [.pd (.ref .deed s 0)])], [] => some (none, .x (.c (.pd (.int .i64 (firstAt (fun v : Var => v.name == s.name) l 0)))), [])
  | _, _ => none)
theorem eIxv_ok (vs : List SX) (ck : List Chunk) (p : Option Prop) (ret : SV) (ck' : List Chunk) (h : eIxv.2 vs ck = some (p, ret, ck')) (hp : Holds p) : Does Tryz.prog eIxv.1 vs ck ret ck' := by
  unfold eIxv at h
  simp only at h
  split at h
  · rename_i l s
    simp only [Option.some.injEq, Prod.mk.injEq] at h
    obtain ⟨rfl, rfl, rfl⟩ := h
    exact ixv_spec l s
  · simp at h
def cfgBk : Cfg := ⟨tys0, [eOf, eBlock, eSc, eIxv]⟩
theorem cfgBk_ok : TabOk Tryz.prog cfgBk.tab := (TabOk.cons eOf_ok (TabOk.cons eBlock_ok (TabOk.cons eSc_ok (TabOk.cons eIxv_ok TabOk.nil))))
def deedE (ev : List Str) (vs : List Var) (a : Deed) : Int :=
  if (a.kind != 1) = true then (if (!(ev.any fun x => a.name == x)) = true then 2 else 0)
  else if decide (firstAt (fun v : Var => v.name == a.name) vs 0 < 0) = true then 2
  else if ((kindsM a.expr vs []).2 != 0) = true then (kindsM a.expr vs []).2
  else if ((kindsM a.expr vs []).1 != (ETy.get .var vs (firstAt (fun v : Var => v.name == a.name) vs 0).toNat).kind) = true then 8 else 0
def deedsE (ev : List Str) (vs : List Var) : List Deed → Int
  | [] => 0
  | a :: r => if (deedE ev vs a != 0) = true then deedE ev vs a else deedsE ev vs r
def blockE (ev : List Str) (vs : List Var) (l : List Deed) : Int :=
  if ((l.length : Int) == 0) = true then 0 else if (!blockOk l) = true then 1 else deedsE ev vs l

theorem bk_loop (c : Chart) (l : List Deed) (Γ : Ctx) (hl : l.length ≤ maxLen)  : ∀ (n k : Nat), l.length - k ≤ n → k ≤ l.length →
    J Tryz.prog 78 (bodyOf Tryz.f78) Γ (Eq2 (.x (.i (deedsE c.events c.vars (l.drop k)))) []) [.code [1, 1, 1, 0, 1, 0, 0], .inLoop [1, 1, 1, 0, 1, 0, 0], .inBlock 0, .code [1, 1, 1, 1]] ({ n := 57, fr := [(2, .x (.c (.loc 0 0))), (4, .i (0 : Int)), (16, .p (.lst .deed l)), (17, .i (↑(List.length l) : Int)), (18, .i (k))], ck := [.cells [.pd (.str (Chart.name c)), .pd (.lst .str (Chart.events c)), .pd (.lst .var (Chart.vars c)), .pd (.lst .stat (Chart.states c)), .pd (.lst .tran (Chart.trans c))] 27] }) := by
  intro n
  induction n with
  | zero => ?_
  | succ n ih => ?_
  all_goals
    intro k hn hk
    refine J.go (cfg := cfgBk) cfgBk_ok Tryz.func78 1000 (t := (.ite (decide ((↑k : Int) < (↑(List.length l) : Int))) (.need ((0 : Int) ≤ (↑k : Int) ∧ (↑k : Int) < (↑(List.length l) : Int)) (.ite (Deed.kind (ETy.get .deed l k) != (1 : Int)) (.ite (!List.any (Chart.events c) fun x => Deed.name (ETy.get .deed l k) == x) (.ret (.i (2 : Int)) []) (.stop [.code [1, 1, 1, 0, 1, 0, 0], .inLoop [1, 1, 1, 0, 1, 0, 0], .inBlock 0, .code [1, 1, 1, 1]] { n := 57, fr := [(2, .x (.c (.loc 0 0))), (4, .i (0 : Int)), (16, .p (.lst .deed l)), (17, .i (↑(List.length l) : Int)), (18, .i (IntKind.wrap .i64 ((↑k : Int) + (1 : Int))))], ck := [.cells [.pd (.str (Chart.name c)), .pd (.lst .str (Chart.events c)), .pd (.lst .var (Chart.vars c)), .pd (.lst .stat (Chart.states c)), .pd (.lst .tran (Chart.trans c))] 27] })) (.ite (decide (firstAt (fun v => Var.name v == Deed.name { kind := Deed.kind (ETy.get .deed l k), name := Deed.name (ETy.get .deed l k), expr := Deed.expr (ETy.get .deed l k) }) (Chart.vars c) (0 : Int) < (0 : Int))) (.ret (.i (2 : Int)) []) (.ite (Prod.snd (kindsM (Deed.expr (ETy.get .deed l k)) (Chart.vars c) []) != (0 : Int)) (.ret (.i (Prod.snd (kindsM (Deed.expr (ETy.get .deed l k)) (Chart.vars c) []))) []) (.need ((0 : Int) ≤ firstAt (fun v => Var.name v == Deed.name { kind := Deed.kind (ETy.get .deed l k), name := Deed.name (ETy.get .deed l k), expr := Deed.expr (ETy.get .deed l k) }) (Chart.vars c) (0 : Int) ∧ firstAt (fun v => Var.name v == Deed.name { kind := Deed.kind (ETy.get .deed l k), name := Deed.name (ETy.get .deed l k), expr := Deed.expr (ETy.get .deed l k) }) (Chart.vars c) (0 : Int) < (↑(List.length (Chart.vars c)) : Int)) (.ite (Prod.fst (kindsM (Deed.expr (ETy.get .deed l k)) (Chart.vars c) []) != Var.kind (ETy.get .var (Chart.vars c) (Int.toNat (firstAt (fun v => Var.name v == Deed.name { kind := Deed.kind (ETy.get .deed l k), name := Deed.name (ETy.get .deed l k), expr := Deed.expr (ETy.get .deed l k) }) (Chart.vars c) (0 : Int))))) (.ret (.i (8 : Int)) []) (.stop [.code [1, 1, 1, 0, 1, 0, 0], .inLoop [1, 1, 1, 0, 1, 0, 0], .inBlock 0, .code [1, 1, 1, 1]] { n := 57, fr := [(2, .x (.c (.loc 0 0))), (4, .i (0 : Int)), (16, .p (.lst .deed l)), (17, .i (↑(List.length l) : Int)), (18, .i (IntKind.wrap .i64 ((↑k : Int) + (1 : Int))))], ck := [.cells [.pd (.str (Chart.name c)), .pd (.lst .str (Chart.events c)), .pd (.lst .var (Chart.vars c)), .pd (.lst .stat (Chart.states c)), .pd (.lst .tran (Chart.trans c))] 27] }))))))) (.ret (.i (0 : Int)) []))) (by kernel_rfl) ?_
    refine ⟨fun hlt => ?_, fun hge => ?_⟩
    · have hk' : k < l.length := by have := of_decide_eq_true hlt; omega
      rw [drop_get (t := .deed) (l := l) hk']
      refine ⟨by omega, ?_⟩
      generalize ETy.get .deed l k = v
      have hs : ∀ r, deedsE c.events c.vars (v :: r) = if (deedE c.events c.vars v != 0) = true then deedE c.events c.vars v else deedsE c.events c.vars r := fun _ => rfl
      have hin := firstAt_in (fun x : Var => x.name == v.name) c.vars 0 (by omega)
      refine ⟨fun h1 => ⟨fun h2 => ?_, fun h2 => ?_⟩, fun h1 => ⟨fun h2 => ?_, fun h2 => ⟨fun h3 => ?_, fun h3 => ⟨?_, ⟨fun h4 => ?_, fun h4 => ?_⟩⟩⟩⟩⟩
      · have he : deedE c.events c.vars v = 2 := by unfold deedE; rw [if_pos h1, if_pos h2]
        rw [hs, he]; exact ⟨rfl, rfl⟩
      · have he : deedE c.events c.vars v = 0 := by unfold deedE; rw [if_pos h1, if_neg (by rw [h2]; decide)]
        rw [hs, he, if_neg (by decide)]; (rw [wrapK (maxLen_lt hk' hl)]; first | (exfalso; omega) | exact ih (k + 1) (by omega) (by omega))
      · have he : deedE c.events c.vars v = 2 := by unfold deedE; rw [if_neg (by rw [h1]; decide)]; exact if_pos h2
        rw [hs, he]; exact ⟨rfl, rfl⟩
      · have he : deedE c.events c.vars v = (kindsM v.expr c.vars []).2 := by unfold deedE; rw [if_neg (by rw [h1]; decide), if_neg (by show ¬ _; exact fun e => by rw [e] at h2; cases h2), if_pos h3]
        rw [hs, he, if_pos h3]; exact ⟨rfl, rfl⟩
      · have := of_decide_eq_false h2
        rcases hin with e | ⟨e1, e2⟩
        · exfalso; exact this (by show firstAt (fun x : Var => x.name == v.name) c.vars 0 < 0; omega)
        · exact ⟨e1, by omega⟩
      · have he : deedE c.events c.vars v = 8 := by unfold deedE; rw [if_neg (by rw [h1]; decide), if_neg (by exact fun e => by rw [e] at h2; cases h2), if_neg (by rw [h3]; decide), if_pos h4]
        rw [hs, he]; exact ⟨rfl, rfl⟩
      · have he : deedE c.events c.vars v = 0 := by unfold deedE; rw [if_neg (by rw [h1]; decide), if_neg (by exact fun e => by rw [e] at h2; cases h2), if_neg (by rw [h3]; decide), if_neg (by exact fun e => by rw [e] at h4; cases h4)]
        rw [hs, he, if_neg (by decide)]; (rw [wrapK (maxLen_lt hk' hl)]; first | (exfalso; omega) | exact ih (k + 1) (by omega) (by omega))
    · rw [drop_end (l := l) (by have := of_decide_eq_false hge; omega)]
      exact ⟨rfl, rfl⟩
theorem vblock_spec (c : Chart) (l : List Deed) : Does Tryz.prog 78 [.e .chart c, .l .deed l] [] (.x (.i (blockE c.events c.vars l))) [] := by
  refine Does.go (cfg := cfgBk) cfgBk_ok Tryz.func78 (by kernel_rfl) (by kernel_rfl) (t := (.ite ((↑(List.length l) : Int) == (0 : Int)) (.ret (.i (0 : Int)) []) (.ite (!blockOk l) (.ret (.i (1 : Int)) []) (.stop [.code [1, 1, 1, 0, 1, 0, 0], .inLoop [1, 1, 1, 0, 1, 0, 0], .inBlock 0, .code [1, 1, 1, 1]] { n := 57, fr := [(2, .x (.c (.loc 0 0))), (4, .i (0 : Int)), (16, .p (.lst .deed l)), (17, .i (↑(List.length l) : Int)), (18, .i (0 : Int))], ck := [.cells [.pd (.str (Chart.name c)), .pd (.lst .str (Chart.events c)), .pd (.lst .var (Chart.vars c)), .pd (.lst .stat (Chart.states c)), .pd (.lst .tran (Chart.trans c))] 27] })))) (by kernel_rfl) fun Γ => ?_
  refine ⟨fun h => ?_, fun h => ⟨fun h2 => ?_, fun h2 => ?_⟩⟩
  · unfold blockE; rw [if_pos h]; exact ⟨rfl, rfl⟩
  · unfold blockE; rw [if_neg (by rw [h]; decide), if_pos h2]; exact ⟨rfl, rfl⟩
  · unfold blockE; rw [if_neg (by rw [h]; decide), if_neg (by rw [h2]; decide)]
    exact J.len 16 rfl fun hl => bk_loop c l Γ hl l.length 0 (by omega) (by omega)
def eVbl : Nat × (List SX → List Chunk → Option (Option Prop × SV × List Chunk)) := (78, fun
  | [.agg [.pd (.str a), .pd (.lst .str b), .pd (.lst .var c), .pd (.lst .stat d), .pd (.lst .tran e)], .c (.pd (.lst .deed l))], [] => some (none, .x (.c (.pd (.int .i64 (blockE b c l)))), [])
  | _, _ => none)
theorem eVbl_ok (vs : List SX) (ck : List Chunk) (p : Option Prop) (ret : SV) (ck' : List Chunk) (h : eVbl.2 vs ck = some (p, ret, ck')) (hp : Holds p) : Does Tryz.prog eVbl.1 vs ck ret ck' := by
  unfold eVbl at h
  simp only at h
  split at h
  · rename_i a b c d e l
    simp only [Option.some.injEq, Prod.mk.injEq] at h
    obtain ⟨rfl, rfl, rfl⟩ := h
    exact vblock_spec ⟨a, b, c, d, e⟩ l
  · simp at h
end Go.Proofs.YtcpnicfkpkonkaaGreatDoor

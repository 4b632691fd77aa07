/- Trees of states: domains, questions about Initial: the document's words and the program's are alike (plain). Conditions: none. Contracts: the document's questions about Initial and about blocks. Conditions: trees that are right. -/
import Derived.Test.YtcpnicfkpkonkaaGreatDoorSb
import Derived.Test.YtcpnicfkpkonkaaGreatDoorSk
namespace Go.Proofs.YtcpnicfkpkonkaaGreatDoor
open Go Go.Ev
set_option maxRecDepth 100000
theorem right_shp {l : List Ev.Stat} (h : rightT l = true) : Shp l := by
  rw [right_eq] at h
  unfold rrightT at h
  exact shp_of (Bool.and_eq_true _ _ ▸ h).1
theorem thas_nat {l : List Ev.Stat} (h : rightT l = true) {i : Nat} (hi : i < l.length) : thasM l (i : Int) = true := by
  unfold thasM
  rw [h, decide_eq_true (show (0 : Int) ≤ (i : Int) by omega), decide_eq_true (show (i : Int) < (l.length : Int) by omega)]; rfl
theorem parent_nat {l : List Ev.Stat} (h : rightT l = true) {i : Nat} (hi : i < l.length) : parentM l (i : Int) = rparM l i := by
  unfold parentM
  rw [thas_nat h hi, if_pos rfl, Int.toNat_natCast, par_eq (right_shp h) hi]
theorem wit_neg (l : List Ev.Stat) : ∀ (n : Nat) (k : Int), rwitGo l (-1) n k = false
  | 0, _ => rfl
  | n + 1, k => by
    rw [rwitGo]
    by_cases hk : k < 0
    · rw [if_pos hk]
    · rw [if_neg hk, if_neg (by have : ¬ k = -1 := by omega
                                simpa using this)]
      exact wit_neg l n _
theorem within_nat {l : List Ev.Stat} (h : rightT l = true) {i j : Nat} (hi : i < l.length) (hj : j < l.length) : withinM l (i : Int) (j : Int) = rwitM l (i : Int) j := by
  rw [wit_eq (right_shp h) hj]
  unfold withinM
  rw [thas_nat h hi, thas_nat h hj, Int.toNat_natCast, Bool.eq_iff_iff]
  simp only [Bool.and_eq_true, decide_eq_true_eq, true_and]
  omega
theorem within_par {l : List Ev.Stat} (h : rightT l = true) {i j : Nat} (hj : j < l.length) (hi : i < l.length) : withinM l (rparM l i) (j : Int) = rwitM l (rparM l i) j := by
  have hb := rpar_in l i
  by_cases h0 : rparM l i = -1
  · rw [h0]
    unfold rwitM
    rw [wit_neg]
    unfold withinM thasM
    rw [decide_eq_false (show ¬ (0 : Int) ≤ -1 by omega)]; simp
  · obtain ⟨p, hp⟩ := Int.eq_ofNat_of_zero_le (show 0 ≤ rparM l i by omega)
    rw [hp]
    exact within_nat h (by omega) hj
theorem dom_go {l : List Ev.Stat} (S : Shp l) {j : Nat} (hj : j < l.length) : ∀ (n : Nat) (k : Int), -1 ≤ k → k < (l.length : Int) → rdomGo l j n k = domGo l (j : Int) n k
  | 0, _, _, _ => rfl
  | n + 1, k, h1, h2 => by
    rw [rdomGo, domGo]
    by_cases hk : k < 0
    · rw [if_pos hk, if_pos hk]; omega
    · rw [if_neg hk, if_neg hk]
      obtain ⟨m, rfl⟩ := Int.eq_ofNat_of_zero_le (show 0 ≤ k by omega)
      have hb := rpar_in l m
      rw [Int.toNat_natCast, wit_eq S hj]
      have e : ((ETy.get .stat l m).kind == 2 && (decide (m < j) && decide (j < endM l m))) = ((ETy.get .stat l m).kind == 2 && decide ((j : Int) > (m : Int)) && decide ((j : Int) < ((endM l m : Nat) : Int))) := by
        rw [Bool.and_assoc]
        congr 1
        rw [Bool.eq_iff_iff]
        simp only [Bool.and_eq_true, decide_eq_true_eq]
        omega
      rw [e, ← par_eq S (by omega), dom_go S hj n (rparM l m) hb.1 (by omega)]
theorem dom_nat {l : List Ev.Stat} (h : rightT l = true) {i j : Nat} (hi : i < l.length) (hj : j < l.length) : domM l (i : Int) (j : Int) = rdomM l i j := by
  unfold domM rdomM
  rw [thas_nat h hi, thas_nat h hj, dom_go (right_shp h) hj _ _ (by omega) (by omega)]; rfl
/-! ### a state's Initial -/
theorem init_eq {l : List Ev.Stat} (hT : rightT l = true) {i : Nat} (hi : i < l.length) : initE l i =
    if ((ETy.get .stat l i).kind != 2 && (ETy.get .stat l i).kind != 5 && (ETy.get .stat l i).kind != 6) = true then (if decide (strLen (ETy.get .stat l i).initial > 0) = true then 1 else 0)
    else if (decide (placeM l (ETy.get .stat l i).initial < 0) || pastM (ETy.get .stat l (placeM l (ETy.get .stat l i).initial).toNat).kind) = true then 2
    else if ((ETy.get .stat l i).kind == 2 && rparM l (placeM l (ETy.get .stat l i).initial).toNat == (i : Int) || (ETy.get .stat l i).kind == 5 && rparM l (placeM l (ETy.get .stat l i).initial).toNat == rparM l i || (ETy.get .stat l i).kind == 6 && rwitM l (rparM l i) (placeM l (ETy.get .stat l i).initial).toNat) = true then 0 else 2 := by
  have hp := place_in l (ETy.get .stat l i).initial
  have e1 : ∀ k : Int, (k != 2 && !pastM k) = (k != 2 && k != 5 && k != 6) := fun k => by
    unfold pastM
    rw [Bool.not_or, Bool.and_assoc]; rfl
  unfold initE
  rw [e1]
  generalize hs : ETy.get .stat l i = s at hp
  by_cases h : (s.kind != 2 && s.kind != 5 && s.kind != 6) = true
  · rw [if_pos h, if_pos h]
    cases s.initial with
    | nil => rfl
    | cons a r =>
      have : decide (strLen (a :: r) > 0) = true := decide_eq_true (by show ((a :: r).length : Int) > 0; rw [List.length_cons]; omega)
      rw [if_pos this]; rfl
  · rw [if_neg h, if_neg h]
    by_cases h2 : (decide (placeM l s.initial < 0) || pastM (ETy.get .stat l (placeM l s.initial).toNat).kind) = true
    · rw [if_pos h2, if_pos h2]
    · rw [if_neg h2, if_neg h2]
      have hk : s.kind = 2 ∨ s.kind = 5 ∨ s.kind = 6 := by
        simp only [Bool.and_eq_true, bne_iff_ne] at h
        omega
      have h3 : ¬ placeM l s.initial < 0 := fun e => h2 (by rw [decide_eq_true e, Bool.true_or])
      obtain ⟨q, hq⟩ := Int.eq_ofNat_of_zero_le (show 0 ≤ placeM l s.initial by omega)
      rw [hq, Int.toNat_natCast]
      have hql : q < l.length := by omega
      rw [parent_nat hT hql, parent_nat hT hi, within_par hT hql hi]
      rcases hk with e | e | e
      · rw [e]
        show mustM (rparM l q == (i : Int)) 2 = if (true && rparM l q == (i : Int) || false && _ || false && _) = true then 0 else 2
        rw [Bool.true_and, Bool.false_and, Bool.false_and, Bool.or_false, Bool.or_false]; rfl
      · rw [e]
        show mustM (rparM l q == rparM l i) 2 = if (false && _ || true && rparM l q == rparM l i || false && _) = true then 0 else 2
        rw [Bool.true_and, Bool.false_and, Bool.false_and, Bool.false_or, Bool.or_false]; rfl
      · rw [e]
        show mustM (rwitM l (rparM l i) q) 2 = if (false && _ || false && _ || true && rwitM l (rparM l i) q) = true then 0 else 2
        rw [Bool.true_and, Bool.false_and, Bool.false_and, Bool.false_or, Bool.false_or]; rfl
def cfgSl1 : Cfg := ⟨tys0, [eRplace, eRpast, eRpar, eRwit]⟩
theorem cfgSl1_ok : TabOk Tryz.prog cfgSl1.tab := (TabOk.cons eRplace_ok (TabOk.cons eRpast_ok (TabOk.cons eRpar_ok (TabOk.cons eRwit_ok TabOk.nil))))
theorem rinit_nat (c : Chart) (i : Nat) (hi : i < c.states.length) (hl : c.states.length ≤ maxLen) (hT : rightT c.states = true) : Does Tryz.prog 47 [.e .chart c, .i (i : Int)] [] (.x (.i (initE c.states i))) [] := by
  refine Does.go (cfg := cfgSl1) cfgSl1_ok Tryz.func47 (by kernel_rfl) (by kernel_rfl) (t := (.need ((0 : Int) ≤ (↑i : Int) ∧ (↑i : Int) < (↑(List.length (Chart.states c)) : Int)) (.ite (Stat.kind (ETy.get .stat (Chart.states c) i) != (2 : Int) && Stat.kind (ETy.get .stat (Chart.states c) i) != (5 : Int) && Stat.kind (ETy.get .stat (Chart.states c) i) != (6 : Int)) (.ite (decide (strLen (Stat.initial (ETy.get .stat (Chart.states c) i)) > (0 : Int))) (.ret (.i (1 : Int)) []) (.ret (.i (0 : Int)) [])) (.need (List.length (Chart.states c) ≤ maxLen) (.need (decide (placeM (Chart.states c) (Stat.initial (ETy.get .stat (Chart.states c) i)) < (0 : Int)) = false → (0 : Int) ≤ placeM (Chart.states c) (Stat.initial (ETy.get .stat (Chart.states c) i)) ∧ placeM (Chart.states c) (Stat.initial (ETy.get .stat (Chart.states c) i)) < (↑(List.length (Chart.states c)) : Int)) (.ite (decide (placeM (Chart.states c) (Stat.initial (ETy.get .stat (Chart.states c) i)) < (0 : Int)) || pastM (Stat.kind (ETy.get .stat (Chart.states c) (Int.toNat (placeM (Chart.states c) (Stat.initial (ETy.get .stat (Chart.states c) i))))))) (.ret (.i (2 : Int)) []) (.need ((0 : Int) ≤ (↑i : Int) ∧ (↑i : Int) < (↑(List.length (Chart.states c)) : Int) ∧ List.length (Chart.states c) ≤ maxLen) (.need ((0 : Int) ≤ placeM (Chart.states c) (Stat.initial (ETy.get .stat (Chart.states c) i)) ∧ placeM (Chart.states c) (Stat.initial (ETy.get .stat (Chart.states c) i)) < (↑(List.length (Chart.states c)) : Int) ∧ List.length (Chart.states c) ≤ maxLen) (.need ((Stat.kind (ETy.get .stat (Chart.states c) i) == (2 : Int) && rparM (Chart.states c) (Int.toNat (placeM (Chart.states c) (Stat.initial (ETy.get .stat (Chart.states c) i)))) == (↑i : Int) || Stat.kind (ETy.get .stat (Chart.states c) i) == (5 : Int) && rparM (Chart.states c) (Int.toNat (placeM (Chart.states c) (Stat.initial (ETy.get .stat (Chart.states c) i)))) == rparM (Chart.states c) i) = false ∧ (Stat.kind (ETy.get .stat (Chart.states c) i) == (6 : Int)) = true → (0 : Int) ≤ placeM (Chart.states c) (Stat.initial (ETy.get .stat (Chart.states c) i)) ∧ placeM (Chart.states c) (Stat.initial (ETy.get .stat (Chart.states c) i)) < (↑(List.length (Chart.states c)) : Int) ∧ List.length (Chart.states c) ≤ maxLen) (.ite (Stat.kind (ETy.get .stat (Chart.states c) i) == (2 : Int) && rparM (Chart.states c) (Int.toNat (placeM (Chart.states c) (Stat.initial (ETy.get .stat (Chart.states c) i)))) == (↑i : Int) || Stat.kind (ETy.get .stat (Chart.states c) i) == (5 : Int) && rparM (Chart.states c) (Int.toNat (placeM (Chart.states c) (Stat.initial (ETy.get .stat (Chart.states c) i)))) == rparM (Chart.states c) i || Stat.kind (ETy.get .stat (Chart.states c) i) == (6 : Int) && rwitM (Chart.states c) (rparM (Chart.states c) i) (Int.toNat (placeM (Chart.states c) (Stat.initial (ETy.get .stat (Chart.states c) i))))) (.ret (.i (0 : Int)) []) (.ret (.i (2 : Int)) []))))))))))) (by kernel_rfl) fun Γ => ?_
  have hp := place_in c.states (ETy.get .stat c.states i).initial
  rw [init_eq hT hi]
  have no : ∀ {b : Bool}, b = false → ¬ b = true := fun h e => by rw [h] at e; cases e
  have hz : ∀ {b : Bool}, (decide (placeM c.states (ETy.get .stat c.states i).initial < 0) || b) = false → 0 ≤ placeM c.states (ETy.get .stat c.states i).initial ∧ placeM c.states (ETy.get .stat c.states i).initial < (c.states.length : Int) := fun h => by
    rw [Bool.or_eq_false_iff] at h
    have := of_decide_eq_false h.1
    omega
  refine ⟨⟨by omega, by omega⟩, fun h1 => ⟨fun h2 => ?_, fun h2 => ?_⟩, fun h1 => ⟨hl, fun h2 => ?_, fun h2 => ?_, fun h2 => ⟨⟨by omega, by omega, hl⟩, ⟨(hz h2).1, (hz h2).2, hl⟩, fun _ => ⟨(hz h2).1, (hz h2).2, hl⟩, fun h3 => ?_, fun h3 => ?_⟩⟩⟩
  · rw [if_pos h1, if_pos h2]; exact ⟨rfl, rfl⟩
  · rw [if_pos h1, if_neg (no h2)]; exact ⟨rfl, rfl⟩
  · exact hz (b := false) (by rw [Bool.or_false]; exact h2)
  · rw [if_neg (no h1), if_pos h2]; exact ⟨rfl, rfl⟩
  · rw [if_neg (no h1), if_neg (no h2), if_pos h3]; exact ⟨rfl, rfl⟩
  · rw [if_neg (no h1), if_neg (no h2), if_neg (no h3)]; exact ⟨rfl, rfl⟩
theorem rinit_spec (c : Chart) (i : Int) (h : 0 ≤ i ∧ i < (c.states.length : Int) ∧ c.states.length ≤ maxLen ∧ rightT c.states = true) : Does Tryz.prog 47 [.e .chart c, .i i] [] (.x (.i (initE c.states i.toNat))) [] := by
  obtain ⟨k, rfl⟩ := Int.eq_ofNat_of_zero_le h.1
  rw [Int.toNat_natCast]
  exact rinit_nat c k (by omega) h.2.2.1 h.2.2.2
def eRinit : Nat × (List SX → List Chunk → Option (Option Prop × SV × List Chunk)) := (47, fun
  | [.agg [.pd (.str a), .pd (.lst .str b), .pd (.lst .var c), .pd (.lst .stat d), .pd (.lst .tran e)], .c (.pd (.int .i64 i))], [] => some (some (0 ≤ i ∧ i < (d.length : Int) ∧ d.length ≤ maxLen ∧ rightT d = true), .x (.c (.pd (.int .i64 (initE d i.toNat)))), [])
  | _, _ => none)
theorem eRinit_ok (vs : List SX) (ck : List Chunk) (p : Option Prop) (ret : SV) (ck' : List Chunk) (h : eRinit.2 vs ck = some (p, ret, ck')) (hp : Holds p) : Does Tryz.prog eRinit.1 vs ck ret ck' := by
  unfold eRinit at h
  simp only at h
  split at h
  · rename_i a b c d e i
    simp only [Option.some.injEq, Prod.mk.injEq] at h
    obtain ⟨rfl, rfl, rfl⟩ := h
    exact rinit_spec ⟨a, b, c, d, e⟩ i hp
  · simp at h
/-! ### blocks -/
def cfgSl2 : Cfg := ⟨tys0, [eRblock, eHas, eFind, eRof]⟩
theorem cfgSl2_ok : TabOk Tryz.prog cfgSl2.tab := (TabOk.cons eRblock_ok (TabOk.cons eHas_ok (TabOk.cons eFind_ok (TabOk.cons eRof_ok TabOk.nil))))
theorem has_sym (l : List Str) (s : Str) : (l.any fun x => x == s) = l.any fun x => s == x := by
  congr 1
  funext x
  exact Bool.beq_comm

theorem rblx_loop (c : Chart) (l : List Deed) (Γ : Ctx) (hl : l.length ≤ maxLen)  : ∀ (n k : Nat), l.length - k ≤ n → k ≤ l.length →
    J Tryz.prog 50 (bodyOf Tryz.f50) Γ (Eq2 (.x (.i (deedsE c.events c.vars (l.drop k)))) []) [.code [1, 1, 0, 1, 0, 0], .inLoop [1, 1, 0, 1, 0, 0], .inBlock 0, .code [1, 1, 1]] ({ n := 70, fr := [(1, .p (.lst .deed l)), (2, .x (.c (.loc 0 0))), (4, .i (0 : Int)), (5, .i (k))], ck := [.cells [.pd (.str (Chart.name c)), .pd (.lst .str (Chart.events c)), .pd (.lst .var (Chart.vars c)), .pd (.lst .stat (Chart.states c)), .pd (.lst .tran (Chart.trans c))] 27] }) := by
  intro n
  induction n with
  | zero => ?_
  | succ n ih => ?_
  all_goals
    intro k hn hk
    refine J.go (cfg := cfgSl2) cfgSl2_ok Tryz.func50 1000 (t := (.ite (decide ((↑k : Int) < (↑(List.length l) : Int))) (.need ((0 : Int) ≤ (↑k : Int) ∧ (↑k : Int) < (↑(List.length l) : Int)) (.ite (Deed.kind (ETy.get .deed l k) != (1 : Int)) (.need ((0 : Int) ≤ (↑k : Int) ∧ (↑k : Int) < (↑(List.length l) : Int)) (.ite (!List.any (Chart.events c) fun x => x == Deed.name (ETy.get .deed l k)) (.ret (.i (2 : Int)) []) (.stop [.code [1, 1, 0, 1, 0, 0], .inLoop [1, 1, 0, 1, 0, 0], .inBlock 0, .code [1, 1, 1]] { n := 70, fr := [(1, .p (.lst .deed l)), (2, .x (.c (.loc 0 0))), (4, .i (0 : Int)), (5, .i (IntKind.wrap .i64 ((↑k : Int) + (1 : Int))))], ck := [.cells [.pd (.str (Chart.name c)), .pd (.lst .str (Chart.events c)), .pd (.lst .var (Chart.vars c)), .pd (.lst .stat (Chart.states c)), .pd (.lst .tran (Chart.trans c))] 27] }))) (.need ((0 : Int) ≤ (↑k : Int) ∧ (↑k : Int) < (↑(List.length l) : Int)) (.ite (decide (firstAt (fun v => Var.name v == Deed.name (ETy.get .deed l k)) (Chart.vars c) (0 : Int) < (0 : Int))) (.ret (.i (2 : Int)) []) (.need ((0 : Int) ≤ (↑k : Int) ∧ (↑k : Int) < (↑(List.length l) : Int)) (.ite (Prod.snd (kindsM (Deed.expr (ETy.get .deed l k)) (Chart.vars c) []) != (0 : Int)) (.ret (.i (Prod.snd (kindsM (Deed.expr (ETy.get .deed l k)) (Chart.vars c) []))) []) (.need ((0 : Int) ≤ firstAt (fun v => Var.name v == Deed.name (ETy.get .deed l k)) (Chart.vars c) (0 : Int) ∧ firstAt (fun v => Var.name v == Deed.name (ETy.get .deed l k)) (Chart.vars c) (0 : Int) < (↑(List.length (Chart.vars c)) : Int)) (.ite (Prod.fst (kindsM (Deed.expr (ETy.get .deed l k)) (Chart.vars c) []) != Var.kind (ETy.get .var (Chart.vars c) (Int.toNat (firstAt (fun v => Var.name v == Deed.name (ETy.get .deed l k)) (Chart.vars c) (0 : Int))))) (.ret (.i (8 : Int)) []) (.stop [.code [1, 1, 0, 1, 0, 0], .inLoop [1, 1, 0, 1, 0, 0], .inBlock 0, .code [1, 1, 1]] { n := 70, fr := [(1, .p (.lst .deed l)), (2, .x (.c (.loc 0 0))), (4, .i (0 : Int)), (5, .i (IntKind.wrap .i64 ((↑k : Int) + (1 : Int))))], ck := [.cells [.pd (.str (Chart.name c)), .pd (.lst .str (Chart.events c)), .pd (.lst .var (Chart.vars c)), .pd (.lst .stat (Chart.states c)), .pd (.lst .tran (Chart.trans c))] 27] }))))))))) (.ret (.i (0 : Int)) []))) (by kernel_rfl) ?_
    refine ⟨fun hlt => ?_, fun hge => ?_⟩
    · have hk' : k < l.length := by have := of_decide_eq_true hlt; omega
      rw [drop_get (t := .deed) (l := l) hk']
      refine ⟨by omega, ?_⟩
      generalize ETy.get .deed l k = v
      have hs : ∀ r, deedsE c.events c.vars (v :: r) = if (deedE c.events c.vars v != 0) = true then deedE c.events c.vars v else deedsE c.events c.vars r := fun _ => rfl
      have hin := firstAt_in (fun x : Var => x.name == v.name) c.vars 0 (by omega)
      have no : ∀ {b : Bool}, b = false → ¬ b = true := fun h e => by rw [h] at e; cases e
      rw [has_sym c.events v.name]
      refine ⟨fun h1 => ⟨⟨by omega, by omega⟩, fun h2 => ?_, fun h2 => ?_⟩, fun h1 => ⟨⟨by omega, by omega⟩, fun h2 => ?_, fun h2 => ⟨⟨by omega, by omega⟩, fun h3 => ?_, fun h3 => ⟨?_, ⟨fun h4 => ?_, fun h4 => ?_⟩⟩⟩⟩⟩
      · have he : deedE c.events c.vars v = 2 := by unfold deedE; rw [if_pos h1, if_pos h2]
        rw [hs, he]; exact ⟨rfl, rfl⟩
      · have he : deedE c.events c.vars v = 0 := by unfold deedE; rw [if_pos h1, if_neg (no h2)]
        rw [hs, he, if_neg (by decide)]; (rw [wrapK (maxLen_lt hk' hl)]; first | (exfalso; omega) | exact ih (k + 1) (by omega) (by omega))
      · have he : deedE c.events c.vars v = 2 := by unfold deedE; rw [if_neg (no h1)]; exact if_pos h2
        rw [hs, he]; exact ⟨rfl, rfl⟩
      · have he : deedE c.events c.vars v = (kindsM v.expr c.vars []).2 := by unfold deedE; rw [if_neg (no h1), if_neg (by exact no h2), if_pos h3]
        rw [hs, he, if_pos h3]; exact ⟨rfl, rfl⟩
      · have := of_decide_eq_false h2
        rcases hin with e | ⟨e1, e2⟩
        · exfalso; exact this (by show firstAt (fun x : Var => x.name == v.name) c.vars 0 < 0; omega)
        · exact ⟨e1, by omega⟩
      · have he : deedE c.events c.vars v = 8 := by unfold deedE; rw [if_neg (no h1), if_neg (by exact no h2), if_neg (no h3), if_pos h4]
        rw [hs, he]; exact ⟨rfl, rfl⟩
      · have he : deedE c.events c.vars v = 0 := by unfold deedE; rw [if_neg (no h1), if_neg (by exact no h2), if_neg (no h3), if_neg (by exact no h4)]
        rw [hs, he, if_neg (by decide)]; (rw [wrapK (maxLen_lt hk' hl)]; first | (exfalso; omega) | exact ih (k + 1) (by omega) (by omega))
    · rw [drop_end (l := l) (by have := of_decide_eq_false hge; omega)]
      exact ⟨rfl, rfl⟩
theorem rbl_spec (c : Chart) (l : List Deed) : Does Tryz.prog 50 [.e .chart c, .l .deed l] [] (.x (.i (blockE c.events c.vars l))) [] := by
  refine Does.go (cfg := cfgSl2) cfgSl2_ok Tryz.func50 (by kernel_rfl) (by kernel_rfl) (t := (.ite (decide ((↑(List.length l) : Int) > (0 : Int)) && !blockOk l) (.ret (.i (1 : Int)) []) (.stop [.code [1, 1, 0, 1, 0, 0], .inLoop [1, 1, 0, 1, 0, 0], .inBlock 0, .code [1, 1, 1]] { n := 70, fr := [(1, .p (.lst .deed l)), (2, .x (.c (.loc 0 0))), (4, .i (0 : Int)), (5, .i (0 : Int))], ck := [.cells [.pd (.str (Chart.name c)), .pd (.lst .str (Chart.events c)), .pd (.lst .var (Chart.vars c)), .pd (.lst .stat (Chart.states c)), .pd (.lst .tran (Chart.trans c))] 27] }))) (by kernel_rfl) fun Γ => ?_
  have e0 : blockE c.events c.vars l = if (decide ((l.length : Int) > 0) && !blockOk l) = true then 1 else deedsE c.events c.vars l := by
    unfold blockE
    cases l with
    | nil => rfl
    | cons a r =>
      have h1 : (((a :: r).length : Int) == 0) = false := by
        have : ¬ ((a :: r).length : Int) = 0 := by rw [List.length_cons]; omega
        simpa using this
      have h2 : decide (((a :: r).length : Int) > 0) = true := decide_eq_true (by rw [List.length_cons]; omega)
      rw [h1, h2, Bool.true_and, if_neg (by decide)]
  rw [e0]
  refine ⟨fun h => ?_, fun h => ?_⟩
  · rw [if_pos h]; exact ⟨rfl, rfl⟩
  · rw [if_neg (by rw [h]; decide)]
    exact J.len 1 rfl fun hl => rblx_loop c l Γ hl l.length 0 (by omega) (by omega)
def eRbl : Nat × (List SX → List Chunk → Option (Option Prop × SV × List Chunk)) := (50, fun
  | [.agg [.pd (.str a), .pd (.lst .str b), .pd (.lst .var c), .pd (.lst .stat d), .pd (.lst .tran e)], .c (.pd (.lst .deed l))], [] => some (none, .x (.c (.pd (.int .i64 (blockE b c l)))), [])
  | _, _ => none)
theorem eRbl_ok (vs : List SX) (ck : List Chunk) (p : Option Prop) (ret : SV) (ck' : List Chunk) (h : eRbl.2 vs ck = some (p, ret, ck')) (hp : Holds p) : Does Tryz.prog eRbl.1 vs ck ret ck' := by
  unfold eRbl at h
  simp only at h
  split at h
  · rename_i a b c d e l
    simp only [Option.some.injEq, Prod.mk.injEq] at h
    obtain ⟨rfl, rfl, rfl⟩ := h
    exact rbl_spec ⟨a, b, c, d, e⟩ l
  · simp at h
end Go.Proofs.YtcpnicfkpkonkaaGreatDoor

/- Contracts: the document's leads, Entered, Down. Conditions: sizes. -/
import Derived.Test.YtgfifkhbfdacjaaGreatDoorCe
namespace Go.Proofs.YtgfifkhbfdacjaaGreatDoor
open Go Go.Ev
set_option maxRecDepth 100000
def yJ : Cfg := ⟨aW, [mX]⟩
theorem uD : ag Tryz.prog yJ.tab := (ag.cons nk ag.nil)
abbrev zEe1 (a : Chart) : List Chunk := [.cells [.pd (.str a.name), .pd (.lst .str a.events), .pd (.lst .var a.vars), .pd (.lst .stat a.states), .pd (.lst .tran a.trans)] 27]
abbrev zEe4 : List PI := [.code [1, 0, 1, 0, 0], .inLoop [1, 0, 1, 0, 0], .inBlock 0, .code [1, 1]]
theorem No (c : Chart) (i : Int) (ts : List Int) (hl : c.states.length ≤ maxLen) (Γ : Ctx) (hm : ts.length ≤ maxLen) : ∀ (n k : Nat), ts.length - k ≤ n → k ≤ ts.length →
 J Tryz.prog 150 (av Tryz.f150) Γ (Eq2 (.x (.b (gH c.states (ts.drop k) i))) []) zEe4 ({ n := 47, fr := [(1, .i i), (2, .p (.lst .int ts)), (3, .x (.c (.loc 0 0))), (6, .p (.bool false)), (7, .i ((k : Int)))], ck := (zEe1 c), kn := [6] }) := by
 intro n
 induction n with
 | zero => ?_
 | succ n ih => ?_
 all_goals
  intro k hn hk
  refine jg uD Tryz.func150 (.ite (decide ((k : Int) < (ts.length : Int))) (.need (inRg k ts.length) (.need (Prod.snd (Prod.snd (Prod.snd (6, 20, false, cF false (ETy.get .int ts k == i) none))) → (0 : Int) ≤ (k : Int) ∧ (k : Int) < (ts.length : Int)) (.need (Prod.snd (Prod.snd (Prod.snd (12, 26, true, cF true (decide (ETy.get .int ts k ≥ (0 : Int))) (some (6, 20, false, cF false (ETy.get .int ts k == i) none))))) → (0 : Int) ≤ (k : Int) ∧ (k : Int) < (ts.length : Int)) (.need (Prod.snd (Prod.snd (Prod.snd (22, 36, true, cF true (decide (ETy.get .int ts k ≥ (0 : Int)) && decide (ETy.get .int ts k < (c.states.length : Int))) (some (6, 20, false, cF false (ETy.get .int ts k == i) none))))) → (0 : Int) ≤ (k : Int) ∧ (k : Int) < (ts.length : Int)) (.need (Prod.snd (Prod.snd (Prod.snd (22, 36, true, cF true (decide (ETy.get .int ts k ≥ (0 : Int)) && decide (ETy.get .int ts k < (c.states.length : Int))) (some (6, 20, false, cF false (ETy.get .int ts k == i) none))))) → (0 : Int) ≤ ETy.get .int ts k ∧ ETy.get .int ts k < (c.states.length : Int) ∧ c.states.length ≤ maxLen) (.ite (ETy.get .int ts k == i || decide (ETy.get .int ts k ≥ (0 : Int)) && decide (ETy.get .int ts k < (c.states.length : Int)) && dE c.states i (Int.toNat (ETy.get .int ts k))) (.ret (.p (.bool true)) []) (.stop zEe4 { n := 47, fr := [(1, .i i), (2, .p (.lst .int ts)), (3, .x (.c (.loc 0 0))), (6, .p (.bool false)), (7, .i (IntKind.wrap .i64 ((k : Int) + 1)))], ck := (zEe1 c) }))))))) (.ret (.p (.bool false)) [])) ?_
  refine ⟨fun hlt => ?_, fun hge => ?_⟩
  · have hk' : k < ts.length := by have := of_decide_eq_true hlt; omega
    have ed : ts.drop k = ETy.get .int ts k :: ts.drop (k + 1) := br (t := .int) (l := ts) hk'
    unfold gH
    rw [ed, List.any_cons]
    generalize ETy.get .int ts k = y
    refine ⟨⟨by omega, by omega⟩, fun _ => ⟨by omega, by omega⟩, fun _ => ⟨by omega, by omega⟩, fun _ => ⟨by omega, by omega⟩, fun h => ?_, fun hb => ?_, fun hb => ?_⟩
    · have h2 : (decide (y ≥ 0) && decide (y < (c.states.length : Int))) = true := And.right h
      rw [Bool.and_eq_true, decide_eq_true_eq, decide_eq_true_eq] at h2
      exact ⟨h2.1, h2.2, hl⟩
    · have hb' : (y == i || decide (y ≥ 0) && decide (y < (c.states.length : Int)) && dE c.states i y.toNat) = true := hb
      rw [hb', Bool.true_or]; exact ⟨rfl, rfl⟩
    · have hb' : (y == i || decide (y ≥ 0) && decide (y < (c.states.length : Int)) && dE c.states i y.toNat) = false := hb
      rw [hb', Bool.false_or, aU (aB hk' hm)]
      first
      | (exfalso; omega)
      | exact J.kn [6] (ih (k + 1) (by omega) (by omega))
  · rw [bE (l := ts) (by have := of_decide_eq_false hge; omega)]; exact ⟨rfl, rfl⟩
def enM (l : List Ev.Stat) (ts : List Int) (i j : Int) : Bool := iq l (fh l ts) i (l.length + 1) j
def BW (c : Chart) (ts : List Int) (i j : Int) : Prop := ah Tryz.prog 104 [.e .chart c, .i i, .i j, .l .int ts] [] (.x (.b (enM c.states ts i j))) []
def Dg : Ent := (104, fun
 | [.agg [.pd (.str a), .pd (.lst .str b), .pd (.lst .var c), .pd (.lst .stat d), .pd (.lst .tran e)], .c (.pd (.int .i64 i)), .c (.pd (.int .i64 j)), .c (.pd (.lst .int ts))], [] => some (some (BW ⟨a, b, c, d, e⟩ ts i j), .x (.c (.pd (.bool (enM d ts i j)))), [])
 | _, _ => none)
theorem LW : EntOk Tryz.prog Dg := entOk fun vs ck => by
 unfold Dg; dsimp only; split
 · rename_i a b c d e i j ts; exact entS fun hp => hp
 · exact entN
theorem CZ (c : Chart) (i : Int) (ts : List Int) (h : c.states.length ≤ maxLen) : ah Tryz.prog 150 [.e .chart c, .i i, .l .int ts] [] (.x (.b (gH c.states ts i))) [] := by
 refine dg uD Tryz.func150 (.stop zEe4 { n := 47, fr := [(1, .i i), (2, .p (.lst .int ts)), (3, .x (.c (.loc 0 0))), (6, .p (.bool false)), (7, .i 0)], ck := (zEe1 c), kn := [6] }) fun Γ => ?_
 exact J.len 2 rfl fun hm => No c i ts h Γ hm ts.length 0 (by omega) (by omega)
def sN : Ent := (150, fun
 | [.agg [.pd (.str a), .pd (.lst .str b), .pd (.lst .var c), .pd (.lst .stat d), .pd (.lst .tran e)], .c (.pd (.int .i64 i)), .c (.pd (.lst .int ts))], [] => some (some (d.length ≤ maxLen), .x (.c (.pd (.bool (gH d ts i)))), [])
 | _, _ => none)
theorem GX : EntOk Tryz.prog sN := entOk fun vs ck => by
 unfold sN; dsimp only; split
 · rename_i a b c d e i ts; exact entS fun hp => CZ ⟨a, b, c, d, e⟩ i ts hp
 · exact entN
def wU : Cfg := ⟨aW, [jr, mu, Dg, sN]⟩
theorem vm : ag Tryz.prog wU.tab := (ag.cons gT (ag.cons oV (ag.cons LW (ag.cons GX ag.nil))))
abbrev zEe3 : List PI := [.code [1, 1, 1, 1, 1, 1, 0, 1, 0, 0], .inLoop [1, 1, 1, 1, 1, 1, 0, 1, 0, 0], .inBlock 0, .code [1, 1, 1, 1, 1, 1, 1]]
abbrev zEe5 (a : Chart) (b : List Int) : List Chunk := [.cells [.pd (.str a.name), .pd (.lst .str a.events), .pd (.lst .var a.vars), .pd (.lst .stat a.states), .pd (.lst .tran a.trans)] 27, .own 3 .int b]
theorem EK (c : Chart) (i j : Int) (p : Nat) (ts ks : List Int) (hl : c.states.length ≤ maxLen) (hkl : ks.length ≤ 1000) (hp : p < c.states.length) (hj : 0 ≤ j ∧ j < (c.states.length : Int)) (fin : Bool) (Γ : Ctx) : ∀ (n k : Nat), ks.length - k ≤ n → k ≤ ks.length →
 (match (ks.drop k).find? fun k => gH c.states ts k with
  | some k => k == j
  | none => (ETy.get .stat c.states p).initial == (ETy.get .stat c.states j.toNat).name) = fin →
 J Tryz.prog 104 (av Tryz.f104) Γ (Eq2 (.x (.b fin)) []) zEe3 ({ n := 79, fr := [(2, .i j), (3, .p (.lst .int ts)), (4, .x (.c (.loc 0 0))), (8, .p (.bool false)), (9, .i ((p : Int))), (10, .x (.c (.own 1))), (11, .i ((k : Int)))], ck := (zEe5 c ks), kn := [8] }) := by
 have hm : ks.length ≤ maxLen := by unfold maxLen; omega
 intro n
 induction n with
 | zero => ?_
 | succ n ih => ?_
 all_goals
  intro k hn hk hf
  refine jg vm Tryz.func104 (.ite (decide ((k : Int) < (ks.length : Int))) (.need (inRg k ks.length) (.need (k < ks.length) (.need (c.states.length ≤ maxLen) (.ite (gH c.states ts (ETy.get .int ks k)) (.need (inRg k ks.length) (.need (k < ks.length) (.ret (.p (.bool (ETy.get .int ks k == j))) []))) (.stop zEe3 { n := 79, fr := [(2, .i j), (3, .p (.lst .int ts)), (4, .x (.c (.loc 0 0))), (8, .p (.bool false)), (9, .i p), (10, .x (.c (.own 1))), (11, .i (IntKind.wrap .i64 ((k : Int) + 1)))], ck := (zEe5 c ks) }))))) (.need (inRg p c.states.length) (.need ((0 : Int) ≤ j ∧ j < (c.states.length : Int)) (.ret (.p (.bool (Stat.initial (ETy.get .stat c.states p) == Stat.name (ETy.get .stat c.states (Int.toNat j))))) [])))) ?_
  refine ⟨fun hlt => ?_, fun hge => ?_⟩
  · have hk' : k < ks.length := by have := of_decide_eq_true hlt; omega
    have ed : ks.drop k = ETy.get .int ks k :: ks.drop (k + 1) := br (t := .int) (l := ks) hk'
    rw [ed, List.find?_cons] at hf
    generalize ETy.get .int ks k = y at hf
    refine ⟨⟨by omega, by omega⟩, hk', hl, fun hb => ?_, fun hb => ?_⟩
    · have hb' : gH c.states ts y = true := hb
      rw [hb'] at hf
      have hf' : (y == j) = fin := hf
      rw [← hf']
      exact ⟨⟨by omega, by omega⟩, hk', rfl, rfl⟩
    · have hb' : gH c.states ts y = false := hb
      rw [hb'] at hf
      rw [aU (aB hk' hm)]
      first
      | (exfalso; omega)
      | exact J.kn [8] (ih (k + 1) (by omega) (by omega) hf)
  · rw [bE (l := ks) (by have := of_decide_eq_false hge; omega)] at hf
    have hf' : ((ETy.get .stat c.states p).initial == (ETy.get .stat c.states j.toNat).name) = fin := hf
    rw [← hf']
    exact ⟨⟨by omega, by omega⟩, hj, rfl, rfl⟩
theorem xo (l : List Ev.Stat) (f : Nat → Int → Bool) (i : Int) : ∀ (n m j : Nat), j < n → j < m → iq l f i n (j : Int) = iq l f i m (j : Int)
 | 0, _, _, h, _ => by omega
 | _ + 1, 0, _, _, h => by omega
 | n + 1, m + 1, j, hn, hm => by
   rw [iq, iq, Int.toNat_natCast]
   have hp := hZ l j
   by_cases h0 : aO l j < 0
   · rw [decide_eq_true h0, Bool.true_or, Bool.true_or]
   · obtain ⟨p, e⟩ := Int.eq_ofNat_of_zero_le (show 0 ≤ aO l j by omega)
     rw [e, xo l f i n m p (by omega) (by omega)]
theorem OK (l : List Ev.Stat) (ts : List Int) (i : Int) {j : Nat} (hj : j < l.length) : enM l ts i (j : Int) = if (i == (j : Int)) = true then true else if (decide (aO l j < 0) || !enM l ts i (aO l j)) = true then false
 else if ((ETy.get .stat l (aO l j).toNat).kind != 2) = true then (ETy.get .stat l (aO l j).toNat).kind == 3 else fh l ts (aO l j).toNat (j : Int) := by
 unfold enM
 rw [iq, Int.toNat_natCast]
 have hp := hZ l j
 by_cases h0 : aO l j < 0
 · rw [decide_eq_true h0, Bool.true_or, Bool.true_or]
 · obtain ⟨p, e⟩ := Int.eq_ofNat_of_zero_le (show 0 ≤ aO l j by omega)
   rw [e, xo l (fh l ts) i l.length (l.length + 1) p (by omega) (by omega)]
theorem Ny (c : Chart) (hl : c.states.length ≤ 1000) (ts : List Int) (i : Int) : ∀ (n j : Nat), j < n → j < c.states.length → BW c ts i (j : Int) := by
 intro n
 induction n with
 | zero => intro j h; omega
 | succ n ih =>
   intro j hn hj
   have e := OK c.states ts i hj
   have hp := hZ c.states j
   have hm : c.states.length ≤ maxLen := by unfold maxLen; omega
   have no : ∀ {b : Bool}, b = false → ¬ b = true := fun h e => by rw [h] at e; cases e
   show ah Tryz.prog 104 [.e .chart c, .i i, .i (j : Int), .l .int ts] [] (.x (.b (enM c.states ts i (j : Int)))) []
   refine dg vm Tryz.func104 (.ite (i == (j : Int)) (.ret (.p (.bool true)) []) (.need ((0 : Int) ≤ (j : Int) ∧ (j : Int) < (c.states.length : Int) ∧ c.states.length ≤ maxLen) (.need (decide (aO c.states j < (0 : Int)) = false → BW c ts i (aO c.states j)) (.ite (decide (aO c.states j < (0 : Int)) || !enM c.states ts i (aO c.states j)) (.ret (.p (.bool false)) []) (.need ((0 : Int) ≤ aO c.states j ∧ aO c.states j < (c.states.length : Int)) (.ite (Stat.kind (ETy.get .stat c.states (Int.toNat (aO c.states j))) != (2 : Int)) (.need ((0 : Int) ≤ aO c.states j ∧ aO c.states j < (c.states.length : Int)) (.ret (.p (.bool (Stat.kind (ETy.get .stat c.states (Int.toNat (aO c.states j))) == (3 : Int)))) [])) (.need (c.states.length ≤ 1466015503701) (.stop zEe3 { n := 79, fr := [(2, .i j), (3, .p (.lst .int ts)), (4, .x (.c (.loc 0 0))), (8, .p (.bool false)), (9, .i (aO c.states j)), (10, .x (.c (.own 1))), (11, .i 0)], ck := [.cells [.pd (.str c.name), .pd (.lst .str c.events), .pd (.lst .var c.vars), .pd (.lst .stat c.states), .pd (.lst .tran c.trans)] 27, .own 3 .int (cw c.states (aO c.states j) c.states.length)], kn := [8] })))))))) fun Γ => ?_
   rw [e]
   have hz : ∀ {b : Bool}, (decide (aO c.states j < 0) || b) = false → 0 ≤ aO c.states j ∧ aO c.states j < (c.states.length : Int) := fun h => by
    rw [Bool.or_eq_false_iff] at h
    have := of_decide_eq_false h.1
    omega
   refine ⟨fun h1 => ?_, fun h1 => ⟨⟨by omega, by omega, hm⟩, fun h2 => ?_, fun h2 => ?_, fun h2 => ⟨hz h2, fun h3 => ⟨hz h2, ?_, rfl⟩, fun h3 => ⟨by omega, ?_⟩⟩⟩⟩
   · rw [if_pos h1]; exact ⟨rfl, rfl⟩
   · have h3 := hz (b := false) (by rw [Bool.or_false]; exact h2)
     obtain ⟨p, hpp⟩ := Int.eq_ofNat_of_zero_le h3.1
     rw [hpp]
     exact ih p (by omega) (by omega)
   · rw [if_neg (no h1), if_pos h2]; exact ⟨rfl, rfl⟩
   · rw [if_neg (no h1), if_neg (no h2), if_pos h3]
   · rw [if_neg (no h1), if_neg (no h2), if_neg (no h3)]
     obtain ⟨p, hpp⟩ := Int.eq_ofNat_of_zero_le (hz h2).1
     have hpl := (hz h2).2
     rw [hpp, Int.toNat_natCast]
     have hkl := mV c.states (p : Int) c.states.length
     exact EK c i (j : Int) p ts (cw c.states (p : Int) c.states.length) hm (by omega) (by omega) ⟨by omega, by omega⟩ _ Γ _ 0 (Nat.le_refl _) (by omega) (by rw [List.drop_zero]; rfl)
theorem LN (c : Chart) (i j : Int) (ts : List Int) (h : 0 ≤ j ∧ j < (c.states.length : Int) ∧ c.states.length ≤ 1000) : BW c ts i j := by
 obtain ⟨q, rfl⟩ := Int.eq_ofNat_of_zero_le h.1
 exact Ny c h.2.2 ts i (q + 1) q (by omega) (by omega)
def eEn : Ent := (104, fun
 | [.agg [.pd (.str a), .pd (.lst .str b), .pd (.lst .var c), .pd (.lst .stat d), .pd (.lst .tran e)], .c (.pd (.int .i64 i)), .c (.pd (.int .i64 j)), .c (.pd (.lst .int ts))], [] => some (some (0 ≤ j ∧ j < (d.length : Int) ∧ d.length ≤ 1000), .x (.c (.pd (.bool (enM d ts i j)))), [])
 | _, _ => none)
theorem NP : EntOk Tryz.prog eEn := entOk fun vs ck => by
 unfold eEn; dsimp only; split
 · rename_i a b c d e i j ts; exact entS fun hp => LN ⟨a, b, c, d, e⟩ i j ts hp
 · exact entN
def yg : Cfg := ⟨aW, [eEn]⟩
theorem tW : ag Tryz.prog yg.tab := (ag.cons NP ag.nil)
def rdT (l : List Ev.Stat) (f : Nat → Int → Bool) (i n : Nat) : List Int := ((List.range n).filter fun j : Nat => decide (i < j) && iq l f (i : Int) (l.length + 1) (j : Int)).map fun j : Nat => (j : Int)
theorem H7 (l : List Ev.Stat) (f : Nat → Int → Bool) (i n : Nat) (h : i < n) : rdT l f i (n + 1) = rdT l f i n ++ (if iq l f (i : Int) (l.length + 1) (n : Int) = true then [(n : Int)] else []) := by
 unfold rdT
 rw [List.range_succ, List.filter_append, List.map_append, List.filter_cons, decide_eq_true h, Bool.true_and]
 cases iq l f (i : Int) (l.length + 1) (n : Int) <;> rfl
theorem LM (l : List Ev.Stat) (f : Nat → Int → Bool) (i n : Nat) : (rdT l f i n).length ≤ n := by
 unfold rdT
 rw [List.length_map]
 exact Nat.le_trans (List.length_filter_le _ _) (by simp)
theorem MT (l : List Ev.Stat) (f : Nat → Int → Bool) (i : Nat) : rdT l f i (i + 1) = [] := by
 unfold rdT
 rw [List.map_eq_nil_iff, List.filter_eq_nil_iff]
 intro j hj
 rw [List.mem_range] at hj
 rw [decide_eq_false (by omega), Bool.false_and]; decide
abbrev zEe2 : List PI := [.code [1, 1, 0, 1, 0, 0], .inLoop [1, 1, 0, 1, 0, 0], .inBlock 0, .code [1, 1, 1]]
theorem J3 (c : Chart) (i : Nat) (ts : List Int) (hl : c.states.length ≤ 1000) (hi : i < c.states.length) (Γ : Ctx) : ∀ (n k : Nat), c.states.length - k ≤ n → k ≤ c.states.length → i < k →
 J Tryz.prog 43 (av Tryz.f43) Γ (Eq2 (.x (.c (.own 0))) [.own 3 .int (rdT c.states (fh c.states ts) i c.states.length)]) zEe2 ({ n := 28, fr := [(1, .i i), (2, .p (.lst .int ts)), (3, .x (.c (.loc 0 0))), (6, .p (.v (Value.slice none 0 0))), (7, .x (.c (.own 1))), (8, .i ((k : Int)))], ck := [.cells [.pd (.str c.name), .pd (.lst .str c.events), .pd (.lst .var c.vars), .pd (.lst .stat c.states), .pd (.lst .tran c.trans)] 27, .own 3 .int (rdT c.states (fh c.states ts) i k)] }) := by
 have hm : c.states.length ≤ maxLen := by unfold maxLen; omega
 intro n
 induction n with
 | zero => ?_
 | succ n ih => ?_
 all_goals
  intro k hn hk hik
  have hol := LM c.states (fh c.states ts) i k
  have htk := H7 c.states (fh c.states ts) i k hik
  generalize hout : rdT c.states (fh c.states ts) i k = out at hol htk
  refine jg tW Tryz.func43 (.ite (decide ((k : Int) < (c.states.length : Int))) (.need ((0 : Int) ≤ (k : Int) ∧ (k : Int) < (c.states.length : Int) ∧ c.states.length ≤ 1000) (.ite (enM c.states ts (i : Int) (k : Int)) (.need (room (List.length (out ++ [(k : Int)])) 8) (.stop zEe2 { n := 28, fr := [(1, .i i), (2, .p (.lst .int ts)), (3, .x (.c (.loc 0 0))), (6, .p (.v (Value.slice none 0 0))), (7, .x (.c (.own 1))), (8, .i (IntKind.wrap .i64 ((k : Int) + 1)))], ck := [.cells [.pd (.str c.name), .pd (.lst .str c.events), .pd (.lst .var c.vars), .pd (.lst .stat c.states), .pd (.lst .tran c.trans)] 27, .own 3 .int (out ++ [(k : Int)])] })) (.stop zEe2 { n := 28, fr := [(1, .i i), (2, .p (.lst .int ts)), (3, .x (.c (.loc 0 0))), (6, .p (.v (Value.slice none 0 0))), (7, .x (.c (.own 1))), (8, .i (IntKind.wrap .i64 ((k : Int) + 1)))], ck := [.cells [.pd (.str c.name), .pd (.lst .str c.events), .pd (.lst .var c.vars), .pd (.lst .stat c.states), .pd (.lst .tran c.trans)] 27, .own 3 .int out] }))) (.ret (.x (.c (.own 0))) [.own 3 .int out])) ?_
  refine ⟨fun hlt => ?_, fun hge => ?_⟩
  · have hk' : k < c.states.length := by have := of_decide_eq_true hlt; omega
    refine ⟨⟨by omega, by omega, hl⟩, fun hb => ?_, fun hb => ?_⟩
    · have hb' : iq c.states (fh c.states ts) (i : Int) (c.states.length + 1) (k : Int) = true := hb
      rw [if_pos hb'] at htk
      refine ⟨⟨by rw [List.length_append]; show (_ + 1) * 8 ≤ _; omega, by rw [List.length_append]; show _ + 1 ≤ _; unfold maxLen; omega⟩, ?_⟩
      rw [aU (aB hk' hm), ← htk]
      first
      | (exfalso; omega)
      | exact ih (k + 1) (by omega) (by omega) (by omega)
    · have hb' : iq c.states (fh c.states ts) (i : Int) (c.states.length + 1) (k : Int) = false := hb
      rw [if_neg (by rw [hb']; decide), List.append_nil] at htk
      rw [aU (aB hk' hm), ← htk]
      first
      | (exfalso; omega)
      | exact ih (k + 1) (by omega) (by omega) (by omega)
  · have hke : k = c.states.length := by have := of_decide_eq_false hge; omega
    subst hke
    rw [← hout]; exact ⟨rfl, rfl⟩
theorem GR (c : Chart) (i : Nat) (ts : List Int) (hl : c.states.length ≤ 1000) (hi : i < c.states.length) : ah Tryz.prog 43 [.e .chart c, .i (i : Int), .l .int ts] [] (.x (.c (.own 0))) [.own 3 .int (na c.states (fh c.states ts) i)] := by
 have hm : c.states.length ≤ maxLen := by unfold maxLen; omega
 refine dg tW Tryz.func43 (.stop zEe2 { n := 28, fr := [(1, .i i), (2, .p (.lst .int ts)), (3, .x (.c (.loc 0 0))), (6, .p (.v (Value.slice none 0 0))), (7, .p (.v (Value.slice none 0 0))), (8, .i (IntKind.wrap .i64 ((i : Int) + 1)))], ck := (zEe1 c) }) fun Γ => ?_
 refine J.nilOwn 7 3 .int rfl (by kernel_rfl) ?_
 rw [aU (aB hi hm)]
 have := J3 c i ts hl hi Γ c.states.length (i + 1) (by omega) (by omega) (by omega)
 rw [MT] at this
 exact this
theorem Dk (c : Chart) (i : Int) (ts : List Int) (h : c.states.length ≤ 1000 ∧ 0 ≤ i ∧ i < (c.states.length : Int)) : ah Tryz.prog 43 [.e .chart c, .i i, .l .int ts] [] (.x (.c (.pd (.lst .int (na c.states (fh c.states ts) i.toNat))))) [] := by
 obtain ⟨q, rfl⟩ := Int.eq_ofNat_of_zero_le h.2.1
 rw [Int.toNat_natCast]
 exact ah.chop (ck' := []) (ah.frz aW [0] (GR c q ts h.1 (by omega)) rfl rfl)
def rA : Ent := (43, fun
 | [.agg [.pd (.str a), .pd (.lst .str b), .pd (.lst .var c), .pd (.lst .stat d), .pd (.lst .tran e)], .c (.pd (.int .i64 i)), .c (.pd (.lst .int ts))], [] => some (some (d.length ≤ 1000 ∧ 0 ≤ i ∧ i < (d.length : Int)), .x (.c (.pd (.lst .int (na d (fh d ts) i.toNat)))), [])
 | _, _ => none)
theorem Eo : EntOk Tryz.prog rA := entOk fun vs ck => by
 unfold rA; dsimp only; split
 · rename_i a b c d e i ts; exact entS fun hp => Dk ⟨a, b, c, d, e⟩ i ts hp
 · exact entN
end Go.Proofs.YtgfifkhbfdacjaaGreatDoor

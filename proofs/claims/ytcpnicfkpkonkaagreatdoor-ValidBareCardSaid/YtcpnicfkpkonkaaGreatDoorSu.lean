/- Contracts: the laws ValidChecks, ValidPlaces, ValidFewer. Conditions: sizes. A byte as a law's argument, opened. Conditions: none. Contracts: the law ValidPlaced. Conditions: sizes. -/
import Derived.Test.YtcpnicfkpkonkaaGreatDoorSx
import Derived.Test.YtcpnicfkpkonkaaGreatDoorSn
import Derived.Test.YtcpnicfkpkonkaaGreatDoorSo
import Derived.Test.YtcpnicfkpkonkaaGreatDoorLx
namespace Go.Proofs.YtcpnicfkpkonkaaGreatDoor
open Go Go.Ev
set_option maxRecDepth 100000
theorem w_room {c : Chart} (h : WChart c) : roomC2 c.events c.vars c.states c.trans := by
  obtain ⟨⟨h1, _⟩, ⟨h2, _⟩, ⟨h3, _⟩, ⟨h4, _⟩⟩ := h
  have e : ∀ n b : Nat, n * b ≤ reachW → 16 ≤ b → room n b := fun n b hn hb => ⟨hn, by
    unfold maxLen
    have h5 : n * 16 ≤ n * b := Nat.mul_le_mul_left n hb
    have h6 : n * b ≤ 140737488355328 := hn
    omega⟩
  exact ⟨e _ _ h1 (by decide), e _ _ h2 (by decide), e _ _ h3 (by decide), e _ _ h4 (by decide)⟩
theorem w_small {c : Chart} (h : WChart c) : c.vars.length ≤ 2199023255552 ∧ c.states.length ≤ 1466015503701 := by
  obtain ⟨_, ⟨h2, _⟩, ⟨h3, _⟩, _⟩ := h
  have h2' : c.vars.length * 64 ≤ 140737488355328 := h2
  have h3' : c.states.length * 96 ≤ 140737488355328 := h3
  omega
theorem w_bulk {c : Chart} (h : WChart c) : ∀ s ∈ c.states, s.entry.length ≤ 4398046511104 ∧ s.leave.length ≤ 4398046511104 := by
  intro s hs
  obtain ⟨⟨h1, _⟩, ⟨h2, _⟩⟩ := h.2.2.1.2 s hs
  have h1' : s.entry.length * 48 ≤ 140737488355328 := h1
  have h2' : s.leave.length * 48 ≤ 140737488355328 := h2
  omega
def cfgSy1 : Cfg := ⟨tys0, [eLit, eWakes, eCopied, eCheck, eRcheck, ePlace, eRplace]⟩
theorem cfgSy1_ok : TabOk Tryz.prog cfgSy1.tab := (TabOk.cons eLit_ok (TabOk.cons eWakes_ok (TabOk.cons eCopied_ok (TabOk.cons eCheck_ok (TabOk.cons eRcheck_ok (TabOk.cons ePlace_ok (TabOk.cons eRplace_ok TabOk.nil)))))))
theorem checks_law (c : Chart) (h : WChart c) : Does Tryz.prog 3 [.e .chart c] [] (.x (.b true)) [] := by
  refine Does.go (cfg := cfgSy1) cfgSy1_ok Tryz.func3 (by kernel_rfl) (by kernel_rfl) (t := (.need (roomC2 (Chart.events c) (Chart.vars c) (Chart.states c) (Chart.trans c)) (.need (List.length (Chart.vars c) ≤ 2199023255552 ∧ List.length (Chart.states c) ≤ 2199023255552) (.need (∀ (s : ETy.den .stat), s ∈ Chart.states c → List.length (Stat.entry s) ≤ 4398046511104 ∧ List.length (Stat.leave s) ≤ 4398046511104) (.ret (.p (.bool (true && checkE { name := Chart.name c, events := Chart.events c, vars := Chart.vars c, states := Chart.states c, trans := Chart.trans c } == checkE { name := Chart.name c, events := Chart.events c, vars := Chart.vars c, states := Chart.states c, trans := Chart.trans c }))) []))))) (by kernel_rfl) fun Γ => ?_
  have h1 := w_small h
  refine ⟨w_room h, ⟨h1.1, by omega⟩, w_bulk h, ?_, rfl⟩
  simp
def cfgSy9 : Cfg := ⟨tys0, [eWakes, eCopied, eCheck, eRcheck, ePlace, eRplace]⟩
theorem cfgSy9_ok : TabOk Tryz.prog cfgSy9.tab := (TabOk.cons eWakes_ok (TabOk.cons eCopied_ok (TabOk.cons eCheck_ok (TabOk.cons eRcheck_ok (TabOk.cons ePlace_ok (TabOk.cons eRplace_ok TabOk.nil))))))
theorem fewer_law (c : Chart) (k : Int) (hk : 0 ≤ k ∧ k ≤ 255) (h : WChart c) : Does Tryz.prog 5 [.e .chart c, .p (.int .u8 k)] [] (.x (.b true)) [] := by
  refine Does.go (cfg := cfgSy9) cfgSy9_ok Tryz.func5 (by kernel_rfl) (by kernel_rfl) (t := (.ite false (.ret (.p (.bool false)) []) (.need (roomC2 (Chart.events c) (Chart.vars c) (Chart.states c) (Chart.trans c)) (.need (List.length (Chart.vars c) ≤ 2199023255552 ∧ List.length (Chart.states c) ≤ 2199023255552) (.ite (checkE { name := Chart.name c, events := Chart.events c, vars := Chart.vars c, states := Chart.states c, trans := Chart.trans c } != (0 : Int) || (↑(List.length (Chart.trans c)) : Int) == (0 : Int)) (.ret (.p (.bool true)) []) (.need ((↑(List.length (Chart.trans c)) : Int) ≠ (0 : Int)) (.need (roomC2 (Chart.events c) (Chart.vars c) (Chart.states c) (Chart.trans c)) (.need ((0 : Int) ≤ Int.tmod (IntKind.wrap .i64 k) (↑(List.length (Chart.trans c)) : Int) ∧ Int.tmod (IntKind.wrap .i64 k) (↑(List.length (Chart.trans c)) : Int) ≤ (↑(List.length (Chart.trans c)) : Int)) (.need (room (List.length ([] ++ Prod.snd (cutL (Chart.trans c) none (some (Int.tmod (IntKind.wrap .i64 k) (↑(List.length (Chart.trans c)) : Int)))))) 88) (.need ((0 : Int) ≤ IntKind.wrap .i64 (Int.tmod (IntKind.wrap .i64 k) (↑(List.length (Chart.trans c)) : Int) + (1 : Int)) ∧ IntKind.wrap .i64 (Int.tmod (IntKind.wrap .i64 k) (↑(List.length (Chart.trans c)) : Int) + (1 : Int)) ≤ (↑(List.length (Chart.trans c)) : Int)) (.need (room (List.length ([] ++ Prod.snd (cutL (Chart.trans c) none (some (Int.tmod (IntKind.wrap .i64 k) (↑(List.length (Chart.trans c)) : Int)))) ++ Prod.snd (cutL (Chart.trans c) (some (IntKind.wrap .i64 (Int.tmod (IntKind.wrap .i64 k) (↑(List.length (Chart.trans c)) : Int) + (1 : Int)))) none))) 88) (.need (List.length (Chart.vars c) ≤ 2199023255552 ∧ List.length (Chart.states c) ≤ 2199023255552) (.ret (.p (.bool (checkE { name := Chart.name c, events := Chart.events c, vars := Chart.vars c, states := Chart.states c, trans := [] ++ Prod.snd (cutL (Chart.trans c) none (some (Int.tmod (IntKind.wrap .i64 k) (↑(List.length (Chart.trans c)) : Int)))) ++ Prod.snd (cutL (Chart.trans c) (some (IntKind.wrap .i64 (Int.tmod (IntKind.wrap .i64 k) (↑(List.length (Chart.trans c)) : Int) + (1 : Int)))) none) } == (0 : Int)))) []))))))))))))) (by kernel_rfl) fun Γ => ?_
  have h1 := w_small h
  have hr := w_room h
  have hz : c.vars.length ≤ 2199023255552 ∧ c.states.length ≤ 2199023255552 := ⟨h1.1, by omega⟩
  refine ⟨fun h0 => absurd h0 (by decide), fun _ => ⟨hr, hz, fun _ => ⟨rfl, rfl⟩, fun h2 => ?_⟩⟩
  rw [Bool.or_eq_false_iff] at h2
  have hv : Valid c := (valid_iff c).1 (by simpa using h2.1)
  have hl := (long_iff c).1 hv.few
  have hn : c.trans.length ≠ 0 := by
    intro e
    have h3 := h2.2
    rw [e] at h3; exact absurd h3 (by decide)
  rw [wrapI (n := k) (by omega) (by omega)]
  obtain ⟨m, rfl⟩ := Int.eq_ofNat_of_zero_le hk.1
  rw [← Int.ofNat_tmod]
  generalize hq : m % c.trans.length = q
  have hq' : q < c.trans.length := by rw [← hq]; exact Nat.mod_lt _ (by omega)
  have hw : IntKind.wrap .i64 ((q : Int) + 1) = ((q + 1 : Nat) : Int) := by rw [wrapI (by omega) (by omega)]; omega
  rw [hw]
  have e1 : (cutL c.trans none (some (q : Int))).2 = c.trans.take q := by simp [cutL]
  have e2 : (cutL c.trans (some ((q + 1 : Nat) : Int)) none).2 = c.trans.drop (q + 1) := by simp [cutL]
  rw [e1, e2, List.nil_append]
  have hm : ∀ n : Nat, n ≤ 100 → room n 88 := fun n h => ⟨by omega, by unfold maxLen; omega⟩
  refine ⟨by omega, hr, ⟨by omega, by omega⟩, hm _ (by rw [List.length_take]; omega), ⟨by omega, by omega⟩, hm _ (by rw [List.length_append, List.length_take, List.length_drop]; omega), hz, ?_, rfl⟩
  have hf := (valid_iff _).2 (valid_fewer hv hq')
  have hf' : checkE ⟨c.name, c.events, c.vars, c.states, c.trans.take q ++ c.trans.drop (q + 1)⟩ = 0 := hf
  rw [hf']; rfl
end Go.Proofs.YtcpnicfkpkonkaaGreatDoor
namespace Go.Proofs.YtcpnicfkpkonkaaGreatDoor
open Go Go.Ev Go.RowKit Go.ChangeShapes Go.WideShapes Go.ChangeAt
set_option maxRecDepth 100000
section
variable {Hh : Type} {enc : TypeId × Value → Hh} {W : World} {base : Nat} {spare : Nat → Bool} {held : Bool}
theorem intu8 {v : Value} {d : DataW Hh} {ps : List MemPlace} {b0 : Nat} (h : DataW.Trod enc Tryz.prog W base spare held 5 v d ps) (hv : Value.okWide Tryz.prog W .any b0 5 v) :
    ∃ n : Int, SX.R (VW W) (.c (.pd (.int .u8 n))) v ∧ 0 ≤ n ∧ n ≤ 255 := by
  have hv' : Cell.okWide Tryz.prog W .any b0 5 v := by simpa only [Value.okWide, Tryz.underlying5] using hv
  obtain ⟨fuel, hf⟩ := h
  have hc : v.cells.toList = [v] := by
    have hv2 := hv'
    simp only [Cell.okWide, Tryz.underlying5, Cell.ok] at hv2
    cases v <;> first | rfl | exact hv2.elim
  rw [hc] at hf
  obtain ⟨n, h1, _, h2⟩ := DataW.trod_int Tryz.underlying5 hf
  simp only [List.cons.injEq, and_true] at h1
  subst h1
  simp only [Lit.wf, Bool.and_eq_true, decide_eq_true_eq] at h2
  have e1 : IntKind.u8.min = 0 := by decide
  have e2 : IntKind.u8.max = 255 := by decide
  rw [e1, e2] at h2
  exact ⟨n, .int _ n, h2.1, h2.2⟩
end
end Go.Proofs.YtcpnicfkpkonkaaGreatDoor
namespace Go.Proofs.YtcpnicfkpkonkaaGreatDoor
open Go Go.Ev
set_option maxRecDepth 100000


theorem done_cut {e : Str} (h : (decide (strLen e > 5) && (cutL e none (some 5)).2 == doneT) = true) : e = doneT ++ (cutL e (some 5) none).2 := by
  rw [Bool.and_eq_true] at h
  have h1 : (cutL e none (some 5)).2 = e.take 5 := by simp [cutL]
  have h2 : (cutL e (some 5) none).2 = e.drop 5 := by simp [cutL]
  rw [h1] at h
  rw [h2, ← eq_of_beq h.2, List.take_append_drop]
theorem pd_trans (c : Chart) (v : Valid c) (hm : c.trans.length ≤ maxLen) (Γ : Ctx) : ∀ n k : Nat, c.trans.length - k ≤ n → k ≤ c.trans.length →
    J Tryz.prog 7 (bodyOf Tryz.f7) Γ (Eq2 (.x (.b true)) []) [.code [1, 1, 1, 1, 0, 1, 0, 0], .inLoop [1, 1, 1, 1, 0, 1, 0, 0], .inBlock 2, .code [1, 1, 1, 1, 1]] ({ n := 97, fr := [(1, .x (.c (.loc 0 0))), (2, .p (.bool false)), (51, .i (↑(List.length (Chart.trans c)) : Int)), (52, .i ((k : Int)))], ck := [.cells [.pd (.str (Chart.name c)), .pd (.lst .str (Chart.events c)), .pd (.lst .var (Chart.vars c)), .pd (.lst .stat (Chart.states c)), .pd (.lst .tran (Chart.trans c))] 27], kn := [2] }) := by
  intro n
  induction n with
  | zero => ?_
  | succ n ih => ?_
  all_goals
    intro k hn hk
    refine J.go (cfg := cfgSy9) cfgSy9_ok Tryz.func7 1000 (t := (.ite (decide ((↑k : Int) < (↑(List.length (Chart.trans c)) : Int))) (.need ((0 : Int) ≤ (↑k : Int) ∧ (↑k : Int) < (↑(List.length (Chart.trans c)) : Int)) (.need ((0 : Int) ≤ (↑k : Int) ∧ (↑k : Int) < (↑(List.length (Chart.trans c)) : Int)) (.need (Prod.snd (Prod.snd (Prod.snd (7, 68, true, onBy true (!Tran.dst (ETy.get .tran (Chart.trans c) k) == []) none))) → (0 : Int) ≤ (↑k : Int) ∧ (↑k : Int) < (↑(List.length (Chart.trans c)) : Int)) (.need (Prod.snd (Prod.snd (Prod.snd (22, 83, true, onBy true (decide (strLen (Tran.event (ETy.get .tran (Chart.trans c) k)) > (5 : Int))) (some (18, 79, false, onBy false (!Tran.dst (ETy.get .tran (Chart.trans c) k) == [] && decide (placeM (Chart.states c) (Tran.dst (ETy.get .tran (Chart.trans c) k)) < (0 : Int))) none))))) → (0 : Int) ≤ (5 : Int) ∧ (5 : Int) ≤ (↑(List.length (Tran.event (ETy.get .tran (Chart.trans c) k))) : Int)) (.need (Prod.snd (Prod.snd (Prod.snd (27, 88, true, onBy true (decide (strLen (Tran.event (ETy.get .tran (Chart.trans c) k)) > (5 : Int)) && Prod.snd (cutL (Tran.event (ETy.get .tran (Chart.trans c) k)) none (some (5 : Int))) == [(100 : UInt8), 111, 110, 101, 46]) (some (18, 79, false, onBy false (!Tran.dst (ETy.get .tran (Chart.trans c) k) == [] && decide (placeM (Chart.states c) (Tran.dst (ETy.get .tran (Chart.trans c) k)) < (0 : Int))) none))))) → (0 : Int) ≤ (5 : Int) ∧ (5 : Int) ≤ (↑(List.length (Tran.event (ETy.get .tran (Chart.trans c) k))) : Int)) (.ite (!Tran.dst (ETy.get .tran (Chart.trans c) k) == [] && decide (placeM (Chart.states c) (Tran.dst (ETy.get .tran (Chart.trans c) k)) < (0 : Int)) || decide (strLen (Tran.event (ETy.get .tran (Chart.trans c) k)) > (5 : Int)) && Prod.snd (cutL (Tran.event (ETy.get .tran (Chart.trans c) k)) none (some (5 : Int))) == [(100 : UInt8), 111, 110, 101, 46] && decide (placeM (Chart.states c) (Prod.snd (cutL (Tran.event (ETy.get .tran (Chart.trans c) k)) (some (5 : Int)) none)) < (0 : Int))) (.ret (.p (.bool false)) []) (.stop [.code [1, 1, 1, 1, 0, 1, 0, 0], .inLoop [1, 1, 1, 1, 0, 1, 0, 0], .inBlock 2, .code [1, 1, 1, 1, 1]] { n := 97, fr := [(1, .x (.c (.loc 0 0))), (2, .p (.bool false)), (51, .i (↑(List.length (Chart.trans c)) : Int)), (52, .i (IntKind.wrap .i64 ((↑k : Int) + (1 : Int))))], ck := [.cells [.pd (.str (Chart.name c)), .pd (.lst .str (Chart.events c)), .pd (.lst .var (Chart.vars c)), .pd (.lst .stat (Chart.states c)), .pd (.lst .tran (Chart.trans c))] 27] }))))))) (.ret (.p (.bool true)) []))) (by kernel_rfl) ?_
    refine ⟨fun hlt => ?_, fun hge => ⟨rfl, rfl⟩⟩
    have hk' : k < c.trans.length := by have := of_decide_eq_true hlt; omega
    have h1 := fun h => to_found v hk' h
    have h2 := fun {r : Str} h => done_found v (r := r) hk' h
    refine ⟨⟨by omega, by omega⟩, ⟨by omega, by omega⟩, fun _ => ⟨by omega, by omega⟩, fun hg => ?_, fun hg => ?_, fun hb => ?_, fun _ => ?_⟩
    · have h3 : decide (strLen (ETy.get .tran c.trans k).event > 5) = true := hg.2
      have h4 := of_decide_eq_true h3
      have h5 : strLen (ETy.get .tran c.trans k).event = ((ETy.get .tran c.trans k).event.length : Int) := rfl
      omega
    · have h3 : (decide (strLen (ETy.get .tran c.trans k).event > 5) && _) = true := hg.2
      rw [Bool.and_eq_true] at h3
      have h4 := of_decide_eq_true h3.1
      have h5 : strLen (ETy.get .tran c.trans k).event = ((ETy.get .tran c.trans k).event.length : Int) := rfl
      omega
    · exfalso
      have hb' : (!(ETy.get .tran c.trans k).dst == [] && decide (placeM c.states (ETy.get .tran c.trans k).dst < 0) || decide (strLen (ETy.get .tran c.trans k).event > 5) && (cutL (ETy.get .tran c.trans k).event none (some 5)).2 == doneT && decide (placeM c.states (cutL (ETy.get .tran c.trans k).event (some 5) none).2 < 0)) = true := hb
      rw [Bool.or_eq_true] at hb'
      rcases hb' with h3 | h3
      · rw [Bool.and_eq_true] at h3
        have h4 := of_decide_eq_true h3.2
        have h5 := h1 (by simpa using h3.1)
        omega
      · rw [Bool.and_eq_true] at h3
        have h4 := of_decide_eq_true h3.2
        have h5 := h2 (done_cut h3.1)
        omega
    · rw [wrapK (maxLen_lt hk' hm)]
      first
      | (exfalso; omega)
      | exact J.kn [2] (ih (k + 1) (by omega) (by omega))
theorem pd_states (c : Chart) (v : Valid c) (hm : c.states.length ≤ maxLen) (ht : c.trans.length ≤ maxLen) (Γ : Ctx) : ∀ n k : Nat, c.states.length - k ≤ n → k ≤ c.states.length →
    J Tryz.prog 7 (bodyOf Tryz.f7) Γ (Eq2 (.x (.b true)) []) [.code [1, 1, 1, 0, 1, 0, 0], .inLoop [1, 1, 1, 0, 1, 0, 0], .inBlock 0, .code [1, 1, 1, 1]] ({ n := 97, fr := [(1, .x (.c (.loc 0 0))), (2, .p (.bool false)), (14, .i (↑(List.length (Chart.states c)) : Int)), (15, .i ((k : Int)))], ck := [.cells [.pd (.str (Chart.name c)), .pd (.lst .str (Chart.events c)), .pd (.lst .var (Chart.vars c)), .pd (.lst .stat (Chart.states c)), .pd (.lst .tran (Chart.trans c))] 27], kn := [2] }) := by
  intro n
  induction n with
  | zero => ?_
  | succ n ih => ?_
  all_goals
    intro k hn hk
    refine J.go (cfg := cfgSy9) cfgSy9_ok Tryz.func7 1000 (t := (.ite (decide ((↑k : Int) < (↑(List.length (Chart.states c)) : Int))) (.need ((0 : Int) ≤ (↑k : Int) ∧ (↑k : Int) < (↑(List.length (Chart.states c)) : Int)) (.need (Prod.snd (Prod.snd (Prod.snd (10, 28, false, onBy false (placeM (Chart.states c) (Stat.name (ETy.get .stat (Chart.states c) k)) != (↑k : Int)) none))) → (0 : Int) ≤ (↑k : Int) ∧ (↑k : Int) < (↑(List.length (Chart.states c)) : Int)) (.need (Prod.snd (Prod.snd (Prod.snd (18, 36, true, onBy true (!Stat.initial (ETy.get .stat (Chart.states c) k) == []) (some (10, 28, false, onBy false (placeM (Chart.states c) (Stat.name (ETy.get .stat (Chart.states c) k)) != (↑k : Int)) none))))) → (0 : Int) ≤ (↑k : Int) ∧ (↑k : Int) < (↑(List.length (Chart.states c)) : Int)) (.ite (placeM (Chart.states c) (Stat.name (ETy.get .stat (Chart.states c) k)) != (↑k : Int) || !Stat.initial (ETy.get .stat (Chart.states c) k) == [] && decide (placeM (Chart.states c) (Stat.initial (ETy.get .stat (Chart.states c) k)) < (0 : Int))) (.ret (.p (.bool false)) []) (.stop [.code [1, 1, 1, 0, 1, 0, 0], .inLoop [1, 1, 1, 0, 1, 0, 0], .inBlock 0, .code [1, 1, 1, 1]] { n := 97, fr := [(1, .x (.c (.loc 0 0))), (2, .p (.bool false)), (14, .i (↑(List.length (Chart.states c)) : Int)), (15, .i (IntKind.wrap .i64 ((↑k : Int) + (1 : Int))))], ck := [.cells [.pd (.str (Chart.name c)), .pd (.lst .str (Chart.events c)), .pd (.lst .var (Chart.vars c)), .pd (.lst .stat (Chart.states c)), .pd (.lst .tran (Chart.trans c))] 27] }))))) (.stop [.code [1, 1, 1, 1, 0, 1, 0, 0], .inLoop [1, 1, 1, 1, 0, 1, 0, 0], .inBlock 2, .code [1, 1, 1, 1, 1]] { n := 97, fr := [(1, .x (.c (.loc 0 0))), (2, .p (.bool false)), (51, .i (↑(List.length (Chart.trans c)) : Int)), (52, .i (0 : Int))], ck := [.cells [.pd (.str (Chart.name c)), .pd (.lst .str (Chart.events c)), .pd (.lst .var (Chart.vars c)), .pd (.lst .stat (Chart.states c)), .pd (.lst .tran (Chart.trans c))] 27], kn := [2] }))) (by kernel_rfl) ?_
    refine ⟨fun hlt => ?_, fun hge => pd_trans c v ht Γ c.trans.length 0 (by omega) (by omega)⟩
    have hk' : k < c.states.length := by have := of_decide_eq_true hlt; omega
    have h1 := place_own v hk'
    have h2 := fun h => init_found v hk' h
    refine ⟨⟨by omega, by omega⟩, fun _ => ⟨by omega, by omega⟩, fun _ => ⟨by omega, by omega⟩, fun hb => ?_, fun _ => ?_⟩
    · exfalso
      rw [h1] at hb
      rw [Bool.or_eq_true] at hb
      rcases hb with h3 | h3
      · simp at h3
      · rw [Bool.and_eq_true] at h3
        have h4 := of_decide_eq_true h3.2
        have h5 := h2 (by simpa using h3.1)
        omega
    · rw [wrapK (maxLen_lt hk' hm)]
      first
      | (exfalso; omega)
      | exact J.kn [2] (ih (k + 1) (by omega) (by omega))
theorem placed_law (c : Chart) (h : WChart c) : Does Tryz.prog 7 [.e .chart c] [] (.x (.b true)) [] := by
  refine Does.go (cfg := cfgSy9) cfgSy9_ok Tryz.func7 (by kernel_rfl) (by kernel_rfl) (t := (.ite false (.ret (.p (.bool false)) []) (.need (roomC2 (Chart.events c) (Chart.vars c) (Chart.states c) (Chart.trans c)) (.need (List.length (Chart.vars c) ≤ 2199023255552 ∧ List.length (Chart.states c) ≤ 2199023255552) (.ite (checkE { name := Chart.name c, events := Chart.events c, vars := Chart.vars c, states := Chart.states c, trans := Chart.trans c } != (0 : Int)) (.ret (.p (.bool true)) []) (.stop [.code [1, 1, 1, 0, 1, 0, 0], .inLoop [1, 1, 1, 0, 1, 0, 0], .inBlock 0, .code [1, 1, 1, 1]] { n := 97, fr := [(1, .x (.c (.loc 0 0))), (2, .p (.bool false)), (14, .i (↑(List.length (Chart.states c)) : Int)), (15, .i (0 : Int))], ck := [.cells [.pd (.str (Chart.name c)), .pd (.lst .str (Chart.events c)), .pd (.lst .var (Chart.vars c)), .pd (.lst .stat (Chart.states c)), .pd (.lst .tran (Chart.trans c))] 27], kn := [2] })))))) (by kernel_rfl) fun Γ => ?_
  have h1 := w_small h
  refine ⟨fun h0 => absurd h0 (by decide), fun _ => ⟨w_room h, ⟨h1.1, by omega⟩, fun _ => ⟨rfl, rfl⟩, fun h2 => ?_⟩⟩
  have hv : Valid c := (valid_iff c).1 (by simpa using h2)
  have hl := (long_iff c).1 hv.few
  exact pd_states c hv (by unfold maxLen; omega) (by unfold maxLen; omega) Γ c.states.length 0 (by omega) (by omega)
end Go.Proofs.YtcpnicfkpkonkaaGreatDoor

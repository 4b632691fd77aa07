/- Contracts: the law ValidBare. Conditions: sizes. -/
import Derived.Test.YtcpnicfkpkonkaaGreatDoorSu
namespace Go.Proofs.YtcpnicfkpkonkaaGreatDoor
open Go Go.Ev
set_option maxRecDepth 100000
def bareK {α : Type} (f : α → α) (l : List α) (k : Nat) : List α := (l.take k).map f ++ l.drop k
theorem bareK_len {α : Type} (f : α → α) (l : List α) (k : Nat) : (bareK f l k).length = l.length := by
  unfold bareK
  rw [List.length_append, List.length_map, List.length_take, List.length_drop]; omega
theorem bareK_all {α : Type} (f : α → α) (l : List α) : bareK f l l.length = l.map f := by
  unfold bareK
  rw [List.take_of_length_le (Nat.le_refl _), List.drop_of_length_le (Nat.le_refl _), List.append_nil]
theorem bareK_get {α : Type} (f : α → α) (l : List α) {k : Nat} (hk : k < l.length) : (bareK f l k)[k]? = some l[k] := by
  unfold bareK
  rw [List.getElem?_append_right (by rw [List.length_map, List.length_take]; omega), List.length_map, List.length_take, List.getElem?_drop]
  rw [show k + (k - min k l.length) = k by omega, List.getElem?_eq_getElem hk]
theorem bareK_set {α : Type} (f : α → α) (l : List α) {k : Nat} (hk : k < l.length) : (bareK f l k).set k (f l[k]) = bareK f l (k + 1) := by
  unfold bareK
  rw [List.drop_eq_getElem_cons hk, List.set_append_right _ _ (by rw [List.length_map, List.length_take]; omega), List.length_map, List.length_take, show k - min k l.length = 0 by omega, List.set_cons_zero, List.take_succ_eq_append_getElem hk, List.map_append, List.append_assoc]; rfl
theorem bare_two (ss : List Ev.Stat) {k : Nat} (hk : k < ss.length) : (ss.set k ⟨(ETy.get .stat ss k).name, (ETy.get .stat ss k).kind, (ETy.get .stat ss k).depth, (ETy.get .stat ss k).initial, [], (ETy.get .stat ss k).leave⟩).set k
    ⟨(ETy.get .stat (ss.set k ⟨(ETy.get .stat ss k).name, (ETy.get .stat ss k).kind, (ETy.get .stat ss k).depth, (ETy.get .stat ss k).initial, [], (ETy.get .stat ss k).leave⟩) k).name, (ETy.get .stat (ss.set k ⟨(ETy.get .stat ss k).name, (ETy.get .stat ss k).kind, (ETy.get .stat ss k).depth, (ETy.get .stat ss k).initial, [], (ETy.get .stat ss k).leave⟩) k).kind, (ETy.get .stat (ss.set k ⟨(ETy.get .stat ss k).name, (ETy.get .stat ss k).kind, (ETy.get .stat ss k).depth, (ETy.get .stat ss k).initial, [], (ETy.get .stat ss k).leave⟩) k).depth, (ETy.get .stat (ss.set k ⟨(ETy.get .stat ss k).name, (ETy.get .stat ss k).kind, (ETy.get .stat ss k).depth, (ETy.get .stat ss k).initial, [], (ETy.get .stat ss k).leave⟩) k).initial, (ETy.get .stat (ss.set k ⟨(ETy.get .stat ss k).name, (ETy.get .stat ss k).kind, (ETy.get .stat ss k).depth, (ETy.get .stat ss k).initial, [], (ETy.get .stat ss k).leave⟩) k).entry, []⟩ = ss.set k (bareS (ETy.get .stat ss k)) := by
  have h : ∀ x : Ev.Stat, ETy.get .stat (ss.set k x) k = x := fun x => ETy.get_eq (t := .stat) (List.getElem?_set_self hk)
  rw [List.set_set, h]; rfl
theorem bare_twoT (ts : List Tran) {k : Nat} (hk : k < ts.length) : (ts.set k ⟨(ETy.get .tran ts k).src, (ETy.get .tran ts k).event, [], (ETy.get .tran ts k).dst, (ETy.get .tran ts k).acts⟩).set k
    ⟨(ETy.get .tran (ts.set k ⟨(ETy.get .tran ts k).src, (ETy.get .tran ts k).event, [], (ETy.get .tran ts k).dst, (ETy.get .tran ts k).acts⟩) k).src, (ETy.get .tran (ts.set k ⟨(ETy.get .tran ts k).src, (ETy.get .tran ts k).event, [], (ETy.get .tran ts k).dst, (ETy.get .tran ts k).acts⟩) k).event, (ETy.get .tran (ts.set k ⟨(ETy.get .tran ts k).src, (ETy.get .tran ts k).event, [], (ETy.get .tran ts k).dst, (ETy.get .tran ts k).acts⟩) k).guard, (ETy.get .tran (ts.set k ⟨(ETy.get .tran ts k).src, (ETy.get .tran ts k).event, [], (ETy.get .tran ts k).dst, (ETy.get .tran ts k).acts⟩) k).dst, []⟩ = ts.set k (bareT (ETy.get .tran ts k)) := by
  have h : ∀ x : Tran, ETy.get .tran (ts.set k x) k = x := fun x => ETy.get_eq (t := .tran) (List.getElem?_set_self hk)
  rw [List.set_set, h]; rfl


theorem br_trans (c : Chart) (s : Str) (v : Valid c) (h : WChart c) (ss : List Ev.Stat) (hss : ss = c.states.map bareS) (Γ : Ctx) : ∀ n k : Nat, c.trans.length - k ≤ n → k ≤ c.trans.length →
    J Tryz.prog 6 (bodyOf Tryz.f6) Γ (Eq2 (.x (.b true)) []) [.code [1, 1, 1, 1, 1, 0, 1, 0, 0], .inLoop [1, 1, 1, 1, 1, 0, 1, 0, 0], .inBlock 2, .code [1, 1, 1, 1, 1, 1]] ({ n := 78, fr := [(1, .p (.str s)), (2, .x (.c (.loc 0 0))), (4, .p (.bool false)), (5, .x (.c (.loc 5 0))), (36, .i (↑(List.length (Chart.trans c)) : Int)), (37, .i ((k : Int)))], ck := [.cells [.pd (.str c.name), .pd (.lst .str c.events), .pd (.lst .var c.vars), .pd (.lst .stat c.states), .pd (.lst .tran c.trans)] 27, .own 9 .str c.events, .own 66 .var c.vars, .own 39 .stat ss, .own 42 .tran (bareK bareT c.trans k), .cells [.pd (.str c.name), .own 1, .own 2, .own 3, .own 4] 27], kn := [4] }) := by
  have hl := (long_iff c).1 v.few
  have hm : c.trans.length ≤ maxLen := by unfold maxLen; omega
  intro n
  induction n with
  | zero => ?_
  | succ n ih => ?_
  all_goals
    intro k hn hk
    generalize hts : bareK bareT c.trans k = ts
    have htl : ts.length = c.trans.length := by rw [← hts]; exact bareK_len _ _ _
    refine J.go (cfg := cfgSy9) cfgSy9_ok Tryz.func6 1000 (t := (.ite (decide ((↑k : Int) < (↑(List.length (Chart.trans c)) : Int))) (.need ((0 : Int) ≤ (↑k : Int) ∧ (↑k : Int) < (↑(List.length ts) : Int)) (.need (k < List.length ts) (.need ((0 : Int) ≤ (↑k : Int) ∧ (↑k : Int) < (↑(List.length (List.set ts k { src := Tran.src (ETy.get .tran ts k), event := Tran.event (ETy.get .tran ts k), guard := [], dst := Tran.dst (ETy.get .tran ts k), acts := Tran.acts (ETy.get .tran ts k) })) : Int)) (.need (k < List.length (List.set ts k { src := Tran.src (ETy.get .tran ts k), event := Tran.event (ETy.get .tran ts k), guard := [], dst := Tran.dst (ETy.get .tran ts k), acts := Tran.acts (ETy.get .tran ts k) })) (.stop [.code [1, 1, 1, 1, 1, 0, 1, 0, 0], .inLoop [1, 1, 1, 1, 1, 0, 1, 0, 0], .inBlock 2, .code [1, 1, 1, 1, 1, 1]] { n := 78, fr := [(1, .p (.str s)), (2, .x (.c (.loc 0 0))), (4, .p (.bool false)), (5, .x (.c (.loc 5 0))), (36, .i (↑(List.length (Chart.trans c)) : Int)), (37, .i (IntKind.wrap .i64 ((↑k : Int) + (1 : Int))))], ck := [.cells [.pd (.str (Chart.name c)), .pd (.lst .str (Chart.events c)), .pd (.lst .var (Chart.vars c)), .pd (.lst .stat (Chart.states c)), .pd (.lst .tran (Chart.trans c))] 27, .own 9 .str (Chart.events c), .own 66 .var (Chart.vars c), .own 39 .stat ss, .own 42 .tran (List.set (List.set ts k { src := Tran.src (ETy.get .tran ts k), event := Tran.event (ETy.get .tran ts k), guard := [], dst := Tran.dst (ETy.get .tran ts k), acts := Tran.acts (ETy.get .tran ts k) }) k { src := Tran.src (ETy.get .tran (List.set ts k { src := Tran.src (ETy.get .tran ts k), event := Tran.event (ETy.get .tran ts k), guard := [], dst := Tran.dst (ETy.get .tran ts k), acts := Tran.acts (ETy.get .tran ts k) }) k), event := Tran.event (ETy.get .tran (List.set ts k { src := Tran.src (ETy.get .tran ts k), event := Tran.event (ETy.get .tran ts k), guard := [], dst := Tran.dst (ETy.get .tran ts k), acts := Tran.acts (ETy.get .tran ts k) }) k), guard := Tran.guard (ETy.get .tran (List.set ts k { src := Tran.src (ETy.get .tran ts k), event := Tran.event (ETy.get .tran ts k), guard := [], dst := Tran.dst (ETy.get .tran ts k), acts := Tran.acts (ETy.get .tran ts k) }) k), dst := Tran.dst (ETy.get .tran (List.set ts k { src := Tran.src (ETy.get .tran ts k), event := Tran.event (ETy.get .tran ts k), guard := [], dst := Tran.dst (ETy.get .tran ts k), acts := Tran.acts (ETy.get .tran ts k) }) k), acts := [] }), .cells [.pd (.str (Chart.name c)), .own 1, .own 2, .own 3, .own 4] 27], kn := [4] }))))) (.need (List.length (Chart.vars c) ≤ 2199023255552 ∧ List.length ss ≤ 2199023255552) (.ite (checkE { name := Chart.name c, events := Chart.events c, vars := Chart.vars c, states := ss, trans := ts } != (0 : Int)) (.ret (.p (.bool false)) []) (.need (roomC2 (Chart.events c) (Chart.vars c) (Chart.states c) (Chart.trans c)) (.need (room (List.length (Chart.events c ++ [s])) 16) (.need (List.length (Chart.vars c) ≤ 2199023255552 ∧ List.length (Chart.states c) ≤ 2199023255552) (.ret (.p (.bool (checkE { name := Chart.name c, events := Chart.events c ++ [s], vars := Chart.vars c, states := Chart.states c, trans := Chart.trans c } == (0 : Int) || checkE { name := Chart.name c, events := Chart.events c ++ [s], vars := Chart.vars c, states := Chart.states c, trans := Chart.trans c } == (4 : Int) || checkE { name := Chart.name c, events := Chart.events c ++ [s], vars := Chart.vars c, states := Chart.states c, trans := Chart.trans c } == (2 : Int) || checkE { name := Chart.name c, events := Chart.events c ++ [s], vars := Chart.vars c, states := Chart.states c, trans := Chart.trans c } == (3 : Int)))) [])))))))) (by kernel_rfl) ?_
    refine ⟨fun hlt => ?_, fun hge => ?_⟩
    · have hk' : k < c.trans.length := by have := of_decide_eq_true hlt; omega
      have hkt : k < ts.length := by omega
      have hg : ETy.get .tran ts k = c.trans[k] := ETy.get_eq (t := .tran) (by rw [← hts]; exact bareK_get _ _ hk')
      refine ⟨⟨by omega, by omega⟩, hkt, ⟨by omega, by rw [List.length_set]; omega⟩, by rw [List.length_set]; exact hkt, ?_⟩
      rw [bare_twoT ts hkt, hg, ← hts, bareK_set _ _ hk', wrapK (maxLen_lt hk' hm)]
      first
      | (exfalso; omega)
      | exact ih (k + 1) (by omega) (by omega)
    · have hke : k = c.trans.length := by have := of_decide_eq_false hge; omega
      subst hke
      rw [bareK_all] at hts
      have hw := w_small h
      have hb : checkE ⟨c.name, c.events, c.vars, ss, ts⟩ = 0 := by
        rw [hss, ← hts]; exact (valid_iff _).2 (valid_bare v)
      have hsl : ss.length = c.states.length := by rw [hss, List.length_map]
      rw [hb]
      refine ⟨⟨hw.1, by omega⟩, fun h0 => absurd h0 (by decide), fun _ => ⟨w_room h, ⟨by rw [List.length_append]; show (_ + 1) * 16 ≤ _; omega, by rw [List.length_append]; show _ + 1 ≤ _; unfold maxLen; omega⟩, ⟨hw.1, by omega⟩, ?_, rfl⟩⟩
      have h3 := check_more v s
      have h4 : checkE ⟨c.name, c.events ++ [s], c.vars, c.states, c.trans⟩ = 0 ∨ checkE ⟨c.name, c.events ++ [s], c.vars, c.states, c.trans⟩ = 4 ∨ checkE ⟨c.name, c.events ++ [s], c.vars, c.states, c.trans⟩ = 2 ∨ checkE ⟨c.name, c.events ++ [s], c.vars, c.states, c.trans⟩ = 3 := h3
      rcases h4 with e | e | e | e <;> rw [e] <;> rfl
theorem br_states (c : Chart) (s : Str) (v : Valid c) (h : WChart c) (Γ : Ctx) : ∀ n k : Nat, c.states.length - k ≤ n → k ≤ c.states.length →
    J Tryz.prog 6 (bodyOf Tryz.f6) Γ (Eq2 (.x (.b true)) []) [.code [1, 1, 1, 1, 0, 1, 0, 0], .inLoop [1, 1, 1, 1, 0, 1, 0, 0], .inBlock 0, .code [1, 1, 1, 1, 1]] ({ n := 78, fr := [(1, .p (.str s)), (2, .x (.c (.loc 0 0))), (4, .p (.bool false)), (5, .x (.c (.loc 5 0))), (19, .i (↑(List.length (Chart.states c)) : Int)), (20, .i ((k : Int)))], ck := [.cells [.pd (.str c.name), .pd (.lst .str c.events), .pd (.lst .var c.vars), .pd (.lst .stat c.states), .pd (.lst .tran c.trans)] 27, .own 9 .str c.events, .own 66 .var c.vars, .own 39 .stat (bareK bareS c.states k), .own 42 .tran c.trans, .cells [.pd (.str c.name), .own 1, .own 2, .own 3, .own 4] 27], kn := [4] }) := by
  have hl := (long_iff c).1 v.few
  have hm : c.states.length ≤ maxLen := by unfold maxLen; omega
  intro n
  induction n with
  | zero => ?_
  | succ n ih => ?_
  all_goals
    intro k hn hk
    generalize hss : bareK bareS c.states k = ss
    have hsl : ss.length = c.states.length := by rw [← hss]; exact bareK_len _ _ _
    refine J.go (cfg := cfgSy9) cfgSy9_ok Tryz.func6 1000 (t := (.ite (decide ((↑k : Int) < (↑(List.length (Chart.states c)) : Int))) (.need ((0 : Int) ≤ (↑k : Int) ∧ (↑k : Int) < (↑(List.length ss) : Int)) (.need (k < List.length ss) (.need ((0 : Int) ≤ (↑k : Int) ∧ (↑k : Int) < (↑(List.length (List.set ss k { name := Stat.name (ETy.get .stat ss k), kind := Stat.kind (ETy.get .stat ss k), depth := Stat.depth (ETy.get .stat ss k), initial := Stat.initial (ETy.get .stat ss k), entry := [], leave := Stat.leave (ETy.get .stat ss k) })) : Int)) (.need (k < List.length (List.set ss k { name := Stat.name (ETy.get .stat ss k), kind := Stat.kind (ETy.get .stat ss k), depth := Stat.depth (ETy.get .stat ss k), initial := Stat.initial (ETy.get .stat ss k), entry := [], leave := Stat.leave (ETy.get .stat ss k) })) (.stop [.code [1, 1, 1, 1, 0, 1, 0, 0], .inLoop [1, 1, 1, 1, 0, 1, 0, 0], .inBlock 0, .code [1, 1, 1, 1, 1]] { n := 78, fr := [(1, .p (.str s)), (2, .x (.c (.loc 0 0))), (4, .p (.bool false)), (5, .x (.c (.loc 5 0))), (19, .i (↑(List.length (Chart.states c)) : Int)), (20, .i (IntKind.wrap .i64 ((↑k : Int) + (1 : Int))))], ck := [.cells [.pd (.str (Chart.name c)), .pd (.lst .str (Chart.events c)), .pd (.lst .var (Chart.vars c)), .pd (.lst .stat (Chart.states c)), .pd (.lst .tran (Chart.trans c))] 27, .own 9 .str (Chart.events c), .own 66 .var (Chart.vars c), .own 39 .stat (List.set (List.set ss k { name := Stat.name (ETy.get .stat ss k), kind := Stat.kind (ETy.get .stat ss k), depth := Stat.depth (ETy.get .stat ss k), initial := Stat.initial (ETy.get .stat ss k), entry := [], leave := Stat.leave (ETy.get .stat ss k) }) k { name := Stat.name (ETy.get .stat (List.set ss k { name := Stat.name (ETy.get .stat ss k), kind := Stat.kind (ETy.get .stat ss k), depth := Stat.depth (ETy.get .stat ss k), initial := Stat.initial (ETy.get .stat ss k), entry := [], leave := Stat.leave (ETy.get .stat ss k) }) k), kind := Stat.kind (ETy.get .stat (List.set ss k { name := Stat.name (ETy.get .stat ss k), kind := Stat.kind (ETy.get .stat ss k), depth := Stat.depth (ETy.get .stat ss k), initial := Stat.initial (ETy.get .stat ss k), entry := [], leave := Stat.leave (ETy.get .stat ss k) }) k), depth := Stat.depth (ETy.get .stat (List.set ss k { name := Stat.name (ETy.get .stat ss k), kind := Stat.kind (ETy.get .stat ss k), depth := Stat.depth (ETy.get .stat ss k), initial := Stat.initial (ETy.get .stat ss k), entry := [], leave := Stat.leave (ETy.get .stat ss k) }) k), initial := Stat.initial (ETy.get .stat (List.set ss k { name := Stat.name (ETy.get .stat ss k), kind := Stat.kind (ETy.get .stat ss k), depth := Stat.depth (ETy.get .stat ss k), initial := Stat.initial (ETy.get .stat ss k), entry := [], leave := Stat.leave (ETy.get .stat ss k) }) k), entry := Stat.entry (ETy.get .stat (List.set ss k { name := Stat.name (ETy.get .stat ss k), kind := Stat.kind (ETy.get .stat ss k), depth := Stat.depth (ETy.get .stat ss k), initial := Stat.initial (ETy.get .stat ss k), entry := [], leave := Stat.leave (ETy.get .stat ss k) }) k), leave := [] }), .own 42 .tran (Chart.trans c), .cells [.pd (.str (Chart.name c)), .own 1, .own 2, .own 3, .own 4] 27], kn := [4] }))))) (.stop [.code [1, 1, 1, 1, 1, 0, 1, 0, 0], .inLoop [1, 1, 1, 1, 1, 0, 1, 0, 0], .inBlock 2, .code [1, 1, 1, 1, 1, 1]] { n := 78, fr := [(1, .p (.str s)), (2, .x (.c (.loc 0 0))), (4, .p (.bool false)), (5, .x (.c (.loc 5 0))), (36, .i (↑(List.length (Chart.trans c)) : Int)), (37, .i (0 : Int))], ck := [.cells [.pd (.str (Chart.name c)), .pd (.lst .str (Chart.events c)), .pd (.lst .var (Chart.vars c)), .pd (.lst .stat (Chart.states c)), .pd (.lst .tran (Chart.trans c))] 27, .own 9 .str (Chart.events c), .own 66 .var (Chart.vars c), .own 39 .stat ss, .own 42 .tran (Chart.trans c), .cells [.pd (.str (Chart.name c)), .own 1, .own 2, .own 3, .own 4] 27], kn := [4] }))) (by kernel_rfl) ?_
    refine ⟨fun hlt => ?_, fun hge => ?_⟩
    · have hk' : k < c.states.length := by have := of_decide_eq_true hlt; omega
      have hkt : k < ss.length := by omega
      have hg : ETy.get .stat ss k = c.states[k] := ETy.get_eq (t := .stat) (by rw [← hss]; exact bareK_get _ _ hk')
      refine ⟨⟨by omega, by omega⟩, hkt, ⟨by omega, by rw [List.length_set]; omega⟩, by rw [List.length_set]; exact hkt, ?_⟩
      rw [bare_two ss hkt, hg, ← hss, bareK_set _ _ hk', wrapK (maxLen_lt hk' hm)]
      first
      | (exfalso; omega)
      | exact ih (k + 1) (by omega) (by omega)
    · have hke : k = c.states.length := by have := of_decide_eq_false hge; omega
      subst hke
      rw [bareK_all] at hss
      exact br_trans c s v h ss hss.symm Γ c.trans.length 0 (by omega) (by omega)
theorem bare_law (c : Chart) (s : Str) (h : WChart c) : Does Tryz.prog 6 [.e .chart c, .s s] [] (.x (.b true)) [] := by
  refine Does.go (cfg := cfgSy9) cfgSy9_ok Tryz.func6 (by kernel_rfl) (by kernel_rfl) (t := (.ite false (.ret (.p (.bool false)) []) (.need (roomC2 (Chart.events c) (Chart.vars c) (Chart.states c) (Chart.trans c)) (.need (List.length (Chart.vars c) ≤ 2199023255552 ∧ List.length (Chart.states c) ≤ 2199023255552) (.ite (checkE { name := Chart.name c, events := Chart.events c, vars := Chart.vars c, states := Chart.states c, trans := Chart.trans c } != (0 : Int)) (.ret (.p (.bool true)) []) (.need (roomC2 (Chart.events c) (Chart.vars c) (Chart.states c) (Chart.trans c)) (.stop [.code [1, 1, 1, 1, 0, 1, 0, 0], .inLoop [1, 1, 1, 1, 0, 1, 0, 0], .inBlock 0, .code [1, 1, 1, 1, 1]] { n := 78, fr := [(1, .p (.str s)), (2, .x (.c (.loc 0 0))), (4, .p (.bool false)), (5, .x (.c (.loc 5 0))), (19, .i (↑(List.length (Chart.states c)) : Int)), (20, .i (0 : Int))], ck := [.cells [.pd (.str (Chart.name c)), .pd (.lst .str (Chart.events c)), .pd (.lst .var (Chart.vars c)), .pd (.lst .stat (Chart.states c)), .pd (.lst .tran (Chart.trans c))] 27, .own 9 .str (Chart.events c), .own 66 .var (Chart.vars c), .own 39 .stat (Chart.states c), .own 42 .tran (Chart.trans c), .cells [.pd (.str (Chart.name c)), .own 1, .own 2, .own 3, .own 4] 27], kn := [4] }))))))) (by kernel_rfl) fun Γ => ?_
  have h1 := w_small h
  refine ⟨fun h0 => absurd h0 (by decide), fun _ => ⟨w_room h, ⟨h1.1, by omega⟩, fun _ => ⟨rfl, rfl⟩, fun h2 => ⟨w_room h, ?_⟩⟩⟩
  have hv : Valid c := (valid_iff c).1 (by simpa using h2)
  exact br_states c s hv h Γ c.states.length 0 (by omega) (by omega)
end Go.Proofs.YtcpnicfkpkonkaaGreatDoor

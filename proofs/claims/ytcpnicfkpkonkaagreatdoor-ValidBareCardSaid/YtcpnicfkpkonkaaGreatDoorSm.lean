/- Contracts: the document's questions about a transition. Conditions: trees that are right, names that differ. -/
import Derived.Test.YtcpnicfkpkonkaaGreatDoorSl
import Derived.Test.YtcpnicfkpkonkaaGreatDoorSg
namespace Go.Proofs.YtcpnicfkpkonkaaGreatDoor
open Go Go.Ev
set_option maxRecDepth 100000
theorem name_short {s : Str} (h : nameM s = true) : s.length ≤ 12 := by
  unfold nameM at h
  rw [Bool.and_eq_true, Bool.and_eq_true] at h
  have h1 := h.1.1
  unfold name0 at h1
  rw [Bool.not_eq_true', Bool.or_eq_false_iff, Bool.or_eq_false_iff, Bool.or_eq_false_iff] at h1
  have h2 := of_decide_eq_false h1.1.1.2
  have h3 : strLen s = (s.length : Int) := rfl
  omega
theorem base_eq (c : Chart) (s : Str) : (strLen s == 0 || s == errorT || c.events.any fun x => x == s) = baseE c s := by
  unfold baseE
  rw [has_sym]
  congr 2
  cases s with
  | nil => rfl
  | cons a r =>
    have h1 : ¬ strLen (a :: r) = 0 := by show ¬ (((a :: r).length : Nat) : Int) = 0; rw [List.length_cons]; omega
    rw [show (strLen (a :: r) == 0) = false by simpa using h1]; rfl
theorem rknown_take {l : List Ev.Stat} {s : Str} {k : Nat} (hk : k < l.length) : rknownM (l.take (k + 1)) s = (rknownM (l.take k) s || (((ETy.get .stat l k).kind == 2 || (ETy.get .stat l k).kind == 3) && s == doneT ++ (ETy.get .stat l k).name)) := by
  unfold rknownM
  rw [show ETy.get .stat l k = l[k] from ETy.get_eq (t := .stat) (List.getElem?_eq_getElem hk), List.take_succ_eq_append_getElem hk, List.any_append]; simp
def tailE (c : Chart) (real : List Str) (t : Tran) : Int :=
  if (!eventE c t.event) = true then 2
  else if decide ((t.guard.length : Int) > 0) = true then
    (if ((kindsM t.guard c.vars real).2 != 0) = true then (kindsM t.guard c.vars real).2
     else if ((kindsM t.guard c.vars real).1 != 2) = true then 8 else afterE c t)
  else afterE c t
theorem after_eq {c : Chart} (hT : rightT c.states = true) {t : Tran} (h0 : 0 ≤ t.src) (h1 : t.src < (c.states.length : Int)) : afterE c t =
    if decide (strLen t.dst > 0) = true then (if decide (placeM c.states t.dst < 0) = true then 2 else if decide (rdomM c.states t.src.toNat (placeM c.states t.dst).toNat < 0) = true then 9 else blockE c.events c.vars t.acts) else blockE c.events c.vars t.acts := by
  unfold afterE
  have hp := place_in c.states t.dst
  have e1 : (!(t.dst == [])) = decide (strLen t.dst > 0) := by
    cases t.dst with
    | nil => rfl
    | cons a r => rw [decide_eq_true (show strLen (a :: r) > 0 by show (((a :: r).length : Nat) : Int) > 0; rw [List.length_cons]; omega)]; rfl
  rw [e1]
  congr 1
  by_cases h2 : placeM c.states t.dst < 0
  · rw [if_pos (decide_eq_true h2), if_pos (decide_eq_true h2)]
  · have h3 : ¬ decide (placeM c.states t.dst < 0) = true := by simpa using h2
    rw [if_neg h3, if_neg h3]
    obtain ⟨a, ha⟩ := Int.eq_ofNat_of_zero_le h0
    obtain ⟨b, hb⟩ := Int.eq_ofNat_of_zero_le (show 0 ≤ placeM c.states t.dst by omega)
    rw [ha, hb, Int.toNat_natCast, Int.toNat_natCast, dom_nat hT (by omega) (by omega)]
def cfgSm9 : Cfg := ⟨tys0, [eHas, eRof, eRnames, eRplace, eRdom, eRbl]⟩
theorem cfgSm9_ok : TabOk Tryz.prog cfgSm9.tab := (TabOk.cons eHas_ok (TabOk.cons eRof_ok (TabOk.cons eRnames_ok (TabOk.cons eRplace_ok (TabOk.cons eRdom_ok (TabOk.cons eRbl_ok TabOk.nil))))))

theorem rtr_loop (c : Chart) (t : Tran) (hT : rightT c.states = true) (hn : (c.states.map fun s : Ev.Stat => s.name).Nodup) (hl : c.states.length ≤ 1466015503701) (hnm : ∀ s ∈ c.states, nameM s.name = true) (h0 : 0 ≤ t.src) (h1 : t.src < (c.states.length : Int)) (Γ : Ctx) : ∀ n k : Nat, c.states.length - k ≤ n → k ≤ c.states.length →
    J Tryz.prog 51 (bodyOf Tryz.f51) Γ (Eq2 (.x (.i (tailE c (realM c.states) t))) []) [.code [1, 1, 1, 1, 1, 0, 1, 0, 0], .inLoop [1, 1, 1, 1, 1, 0, 1, 0, 0], .inBlock 0, .code [1, 1, 1, 1, 1, 1]] ({ n := 164, fr := [(2, .x (.c (.loc 0 0))), (4, .i (0 : Int)), (5, .x (.c (.loc 1 0))), (6, .p (.bool ((baseE c t.event || rknownM (c.states.take k) t.event)))), (7, .i ((k : Int)))], ck := [.cells [.pd (.str c.name), .pd (.lst .str c.events), .pd (.lst .var c.vars), .pd (.lst .stat c.states), .pd (.lst .tran c.trans)] 27, .cells [.pd (.int .i64 t.src), .pd (.str t.event), .pd (.lst .cell t.guard), .pd (.str t.dst), .pd (.lst .deed t.acts)] 42] }) := by
  have hm : c.states.length ≤ maxLen := Nat.le_trans hl (by decide)
  have no : ∀ {b : Bool}, b = false → ¬ b = true := fun h e => by rw [h] at e; cases e
  intro n
  induction n with
  | zero => ?_
  | succ n ih => ?_
  all_goals
    intro k hn' hk
    generalize hkn : (baseE c t.event || rknownM (c.states.take k) t.event) = kn
    refine J.go (cfg := cfgSm9) cfgSm9_ok Tryz.func51 1000 (t := (.ite (decide ((↑k : Int) < (↑(List.length (Chart.states c)) : Int))) (.need ((0 : Int) ≤ (↑k : Int) ∧ (↑k : Int) < (↑(List.length (Chart.states c)) : Int)) (.need (Prod.snd (Prod.snd (Prod.snd (7, 101, false, onBy false (Stat.kind (ETy.get .stat (Chart.states c) k) == (2 : Int)) none))) → (0 : Int) ≤ (↑k : Int) ∧ (↑k : Int) < (↑(List.length (Chart.states c)) : Int)) (.need (Prod.snd (Prod.snd (Prod.snd (16, 110, true, onBy true (Stat.kind (ETy.get .stat (Chart.states c) k) == (2 : Int) || Stat.kind (ETy.get .stat (Chart.states c) k) == (3 : Int)) none))) → (0 : Int) ≤ (↑k : Int) ∧ (↑k : Int) < (↑(List.length (Chart.states c)) : Int)) (.need (Prod.snd (Prod.snd (Prod.snd (16, 110, true, onBy true (Stat.kind (ETy.get .stat (Chart.states c) k) == (2 : Int) || Stat.kind (ETy.get .stat (Chart.states c) k) == (3 : Int)) none))) → 5 + List.length (Stat.name (ETy.get .stat (Chart.states c) k)) ≤ 9223372036854775807) (.ite ((Stat.kind (ETy.get .stat (Chart.states c) k) == (2 : Int) || Stat.kind (ETy.get .stat (Chart.states c) k) == (3 : Int)) && Tran.event t == [(100 : UInt8), 111, 110, 101, 46] ++ Stat.name (ETy.get .stat (Chart.states c) k)) (.stop [.code [1, 1, 1, 1, 1, 0, 1, 0, 0], .inLoop [1, 1, 1, 1, 1, 0, 1, 0, 0], .inBlock 0, .code [1, 1, 1, 1, 1, 1]] { n := 164, fr := [(2, .x (.c (.loc 0 0))), (4, .i (0 : Int)), (5, .x (.c (.loc 1 0))), (6, .p (.bool true)), (7, .i (IntKind.wrap .i64 ((↑k : Int) + (1 : Int))))], ck := [.cells [.pd (.str (Chart.name c)), .pd (.lst .str (Chart.events c)), .pd (.lst .var (Chart.vars c)), .pd (.lst .stat (Chart.states c)), .pd (.lst .tran (Chart.trans c))] 27, .cells [.i (Tran.src t), .pd (.str (Tran.event t)), .pd (.lst .cell (Tran.guard t)), .pd (.str (Tran.dst t)), .pd (.lst .deed (Tran.acts t))] 42], kn := [6] }) (.stop [.code [1, 1, 1, 1, 1, 0, 1, 0, 0], .inLoop [1, 1, 1, 1, 1, 0, 1, 0, 0], .inBlock 0, .code [1, 1, 1, 1, 1, 1]] { n := 164, fr := [(2, .x (.c (.loc 0 0))), (4, .i (0 : Int)), (5, .x (.c (.loc 1 0))), (6, .p (.bool kn)), (7, .i (IntKind.wrap .i64 ((↑k : Int) + (1 : Int))))], ck := [.cells [.pd (.str (Chart.name c)), .pd (.lst .str (Chart.events c)), .pd (.lst .var (Chart.vars c)), .pd (.lst .stat (Chart.states c)), .pd (.lst .tran (Chart.trans c))] 27, .cells [.i (Tran.src t), .pd (.str (Tran.event t)), .pd (.lst .cell (Tran.guard t)), .pd (.str (Tran.dst t)), .pd (.lst .deed (Tran.acts t))] 42] })))))) (.ite (!kn) (.ret (.i (2 : Int)) []) (.ite (decide ((↑(List.length (Tran.guard t)) : Int) > (0 : Int))) (.need (List.length (Chart.states c) ≤ 1466015503701) (.ite (Prod.snd (kindsM (Tran.guard t) (Chart.vars c) (rnamesM false (Chart.states c))) != (0 : Int)) (.ret (.i (Prod.snd (kindsM (Tran.guard t) (Chart.vars c) (rnamesM false (Chart.states c))))) []) (.ite (Prod.fst (kindsM (Tran.guard t) (Chart.vars c) (rnamesM false (Chart.states c))) != (2 : Int)) (.ret (.i (8 : Int)) []) (.ite (decide (strLen (Tran.dst t) > (0 : Int))) (.need (List.length (Chart.states c) ≤ maxLen) (.ite (decide (placeM (Chart.states c) (Tran.dst t) < (0 : Int))) (.ret (.i (2 : Int)) []) (.need ((0 : Int) ≤ Tran.src t ∧ Tran.src t < (↑(List.length (Chart.states c)) : Int) ∧ (0 : Int) ≤ placeM (Chart.states c) (Tran.dst t) ∧ placeM (Chart.states c) (Tran.dst t) < (↑(List.length (Chart.states c)) : Int) ∧ List.length (Chart.states c) ≤ maxLen) (.ite (decide (rdomM (Chart.states c) (Int.toNat (Tran.src t)) (Int.toNat (placeM (Chart.states c) (Tran.dst t))) < (0 : Int))) (.ret (.i (9 : Int)) []) (.ret (.i (blockE (Chart.events c) (Chart.vars c) (Tran.acts t))) []))))) (.ret (.i (blockE (Chart.events c) (Chart.vars c) (Tran.acts t))) []))))) (.ite (decide (strLen (Tran.dst t) > (0 : Int))) (.need (List.length (Chart.states c) ≤ maxLen) (.ite (decide (placeM (Chart.states c) (Tran.dst t) < (0 : Int))) (.ret (.i (2 : Int)) []) (.need ((0 : Int) ≤ Tran.src t ∧ Tran.src t < (↑(List.length (Chart.states c)) : Int) ∧ (0 : Int) ≤ placeM (Chart.states c) (Tran.dst t) ∧ placeM (Chart.states c) (Tran.dst t) < (↑(List.length (Chart.states c)) : Int) ∧ List.length (Chart.states c) ≤ maxLen) (.ite (decide (rdomM (Chart.states c) (Int.toNat (Tran.src t)) (Int.toNat (placeM (Chart.states c) (Tran.dst t))) < (0 : Int))) (.ret (.i (9 : Int)) []) (.ret (.i (blockE (Chart.events c) (Chart.vars c) (Tran.acts t))) []))))) (.ret (.i (blockE (Chart.events c) (Chart.vars c) (Tran.acts t))) [])))))) (by kernel_rfl) ?_
    refine ⟨fun hlt => ?_, fun hge => ?_⟩
    · have hk' : k < c.states.length := by have := of_decide_eq_true hlt; omega
      have hs := rknown_take (s := t.event) hk'
      have hw := name_short (hnm (ETy.get .stat c.states k) (by rw [ETy.get_eq (t := .stat) (List.getElem?_eq_getElem hk')]; exact List.getElem_mem hk'))
      have hx : (baseE c t.event || rknownM (c.states.take (k + 1)) t.event) = (kn || (((ETy.get .stat c.states k).kind == 2 || (ETy.get .stat c.states k).kind == 3) && t.event == doneT ++ (ETy.get .stat c.states k).name)) := by
        rw [hs, ← Bool.or_assoc, hkn]
      refine ⟨⟨by omega, by omega⟩, fun _ => ⟨by omega, by omega⟩, fun _ => ⟨by omega, by omega⟩, fun _ => by omega, fun hb => ?_, fun hb => ?_⟩
      · have hb' : (((ETy.get .stat c.states k).kind == 2 || (ETy.get .stat c.states k).kind == 3) && t.event == doneT ++ (ETy.get .stat c.states k).name) = true := hb
        rw [hb', Bool.or_true] at hx
        rw [wrapK (maxLen_lt hk' hm)]
        first
        | (exfalso; omega)
        | (have h9 := ih (k + 1) (by omega) (by omega)
           rw [hx] at h9
           exact J.kn [] h9)
      · have hb' : (((ETy.get .stat c.states k).kind == 2 || (ETy.get .stat c.states k).kind == 3) && t.event == doneT ++ (ETy.get .stat c.states k).name) = false := hb
        rw [hb', Bool.or_false] at hx
        rw [wrapK (maxLen_lt hk' hm)]
        first
        | (exfalso; omega)
        | (have h9 := ih (k + 1) (by omega) (by omega)
           rw [hx] at h9
           exact J.kn [] h9)
    · have hke : k = c.states.length := by have := of_decide_eq_false hge; omega
      subst hke
      rw [List.take_of_length_le (Nat.le_refl _), ← event_eq hn] at hkn
      have ha := after_eq hT h0 h1
      have hz : decide (placeM c.states t.dst < 0) = false → 0 ≤ placeM c.states t.dst ∧ placeM c.states t.dst < (c.states.length : Int) := fun h => by
        have := of_decide_eq_false h
        have := place_in c.states t.dst
        omega
      unfold tailE
      rw [hkn, ha, ← rnames_false]
      refine ⟨fun h2 => ?_, fun h2 => ⟨fun hg => ⟨hl, fun h3 => ?_, fun h3 => ⟨fun h4 => ?_, fun h4 => ⟨fun h5 => ⟨hm, fun h6 => ?_, fun h6 => ⟨⟨h0, h1, (hz h6).1, (hz h6).2, hm⟩, fun h7 => ?_, fun h7 => ?_⟩⟩, fun h5 => ?_⟩⟩⟩, fun hg => ⟨fun h5 => ⟨hm, fun h6 => ?_, fun h6 => ⟨⟨h0, h1, (hz h6).1, (hz h6).2, hm⟩, fun h7 => ?_, fun h7 => ?_⟩⟩, fun h5 => ?_⟩⟩⟩
      · rw [if_pos h2]; exact ⟨rfl, rfl⟩
      · rw [if_neg (no h2), if_pos hg, if_pos h3]; exact ⟨rfl, rfl⟩
      · rw [if_neg (no h2), if_pos hg, if_neg (no h3), if_pos h4]; exact ⟨rfl, rfl⟩
      · rw [if_neg (no h2), if_pos hg, if_neg (no h3), if_neg (no h4), if_pos h5, if_pos h6]; exact ⟨rfl, rfl⟩
      · rw [if_neg (no h2), if_pos hg, if_neg (no h3), if_neg (no h4), if_pos h5, if_neg (no h6), if_pos h7]; exact ⟨rfl, rfl⟩
      · rw [if_neg (no h2), if_pos hg, if_neg (no h3), if_neg (no h4), if_pos h5, if_neg (no h6), if_neg (no h7)]; exact ⟨rfl, rfl⟩
      · rw [if_neg (no h2), if_pos hg, if_neg (no h3), if_neg (no h4), if_neg (no h5)]; exact ⟨rfl, rfl⟩
      · rw [if_neg (no h2), if_neg (no hg), if_pos h5, if_pos h6]; exact ⟨rfl, rfl⟩
      · rw [if_neg (no h2), if_neg (no hg), if_pos h5, if_neg (no h6), if_pos h7]; exact ⟨rfl, rfl⟩
      · rw [if_neg (no h2), if_neg (no hg), if_pos h5, if_neg (no h6), if_neg (no h7)]; exact ⟨rfl, rfl⟩
      · rw [if_neg (no h2), if_neg (no hg), if_neg (no h5)]; exact ⟨rfl, rfl⟩
theorem rtr_nat (c : Chart) (i : Nat) (hi : i < c.trans.length) (hi2 : c.trans.length ≤ maxLen) (hT : rightT c.states = true) (hn : (c.states.map fun s : Ev.Stat => s.name).Nodup) (hl : c.states.length ≤ 1466015503701) (hnm : ∀ s ∈ c.states, nameM s.name = true) : Does Tryz.prog 51 [.e .chart c, .i (i : Int)] [] (.x (.i (transE c i (realM c.states) (ETy.get .tran c.trans i)))) [] := by
  refine Does.go (cfg := cfgSm9) cfgSm9_ok Tryz.func51 (by kernel_rfl) (by kernel_rfl) (t := (.need ((0 : Int) ≤ (↑i : Int) ∧ (↑i : Int) < (↑(List.length (Chart.trans c)) : Int)) (.need (Prod.snd (Prod.snd (Prod.snd (14, 30, true, onBy true (decide ((↑i : Int) > (0 : Int))) (some (11, 27, false, onBy false (decide (Tran.src (ETy.get .tran (Chart.trans c) i) < (0 : Int)) || decide (Tran.src (ETy.get .tran (Chart.trans c) i) ≥ (↑(List.length (Chart.states c)) : Int))) none))))) → (0 : Int) ≤ IntKind.wrap .i64 ((↑i : Int) - (1 : Int)) ∧ IntKind.wrap .i64 ((↑i : Int) - (1 : Int)) < (↑(List.length (Chart.trans c)) : Int)) (.ite (decide (Tran.src (ETy.get .tran (Chart.trans c) i) < (0 : Int)) || decide (Tran.src (ETy.get .tran (Chart.trans c) i) ≥ (↑(List.length (Chart.states c)) : Int)) || decide ((↑i : Int) > (0 : Int)) && decide (Tran.src (ETy.get .tran (Chart.trans c) (Int.toNat (IntKind.wrap .i64 ((↑i : Int) - (1 : Int))))) > Tran.src (ETy.get .tran (Chart.trans c) i))) (.ret (.i (1 : Int)) []) (.need ((0 : Int) ≤ Tran.src (ETy.get .tran (Chart.trans c) i) ∧ Tran.src (ETy.get .tran (Chart.trans c) i) < (↑(List.length (Chart.states c)) : Int)) (.need ((Stat.kind (ETy.get .stat (Chart.states c) (Int.toNat (Tran.src (ETy.get .tran (Chart.trans c) i)))) != (1 : Int)) = true → (0 : Int) ≤ Tran.src (ETy.get .tran (Chart.trans c) i) ∧ Tran.src (ETy.get .tran (Chart.trans c) i) < (↑(List.length (Chart.states c)) : Int)) (.need ((Stat.kind (ETy.get .stat (Chart.states c) (Int.toNat (Tran.src (ETy.get .tran (Chart.trans c) i)))) != (1 : Int) && Stat.kind (ETy.get .stat (Chart.states c) (Int.toNat (Tran.src (ETy.get .tran (Chart.trans c) i)))) != (2 : Int)) = true → (0 : Int) ≤ Tran.src (ETy.get .tran (Chart.trans c) i) ∧ Tran.src (ETy.get .tran (Chart.trans c) i) < (↑(List.length (Chart.states c)) : Int)) (.ite (Stat.kind (ETy.get .stat (Chart.states c) (Int.toNat (Tran.src (ETy.get .tran (Chart.trans c) i)))) != (1 : Int) && Stat.kind (ETy.get .stat (Chart.states c) (Int.toNat (Tran.src (ETy.get .tran (Chart.trans c) i)))) != (2 : Int) && Stat.kind (ETy.get .stat (Chart.states c) (Int.toNat (Tran.src (ETy.get .tran (Chart.trans c) i)))) != (3 : Int)) (.ret (.i (1 : Int)) []) (.stop [.code [1, 1, 1, 1, 1, 0, 1, 0, 0], .inLoop [1, 1, 1, 1, 1, 0, 1, 0, 0], .inBlock 0, .code [1, 1, 1, 1, 1, 1]] { n := 164, fr := [(2, .x (.c (.loc 0 0))), (4, .i (0 : Int)), (5, .x (.c (.loc 1 0))), (6, .p (.bool (strLen (Tran.event (ETy.get .tran (Chart.trans c) i)) == (0 : Int) || Tran.event (ETy.get .tran (Chart.trans c) i) == [(101 : UInt8), 114, 114, 111, 114] || List.any (Chart.events c) fun x => x == Tran.event (ETy.get .tran (Chart.trans c) i)))), (7, .i (0 : Int))], ck := [.cells [.pd (.str (Chart.name c)), .pd (.lst .str (Chart.events c)), .pd (.lst .var (Chart.vars c)), .pd (.lst .stat (Chart.states c)), .pd (.lst .tran (Chart.trans c))] 27, .cells [.i (Tran.src (ETy.get .tran (Chart.trans c) i)), .pd (.str (Tran.event (ETy.get .tran (Chart.trans c) i))), .pd (.lst .cell (Tran.guard (ETy.get .tran (Chart.trans c) i))), .pd (.str (Tran.dst (ETy.get .tran (Chart.trans c) i))), .pd (.lst .deed (Tran.acts (ETy.get .tran (Chart.trans c) i)))] 42] }))))))))) (by kernel_rfl) fun Γ => ?_
  have et : ∀ t : Tran, transE c i (realM c.states) t = if badsrcE c i t = true then 1 else tailE c (realM c.states) t := fun _ => rfl
  rw [et]
  have hm : maxLen ≤ 9223372036854775807 := by decide
  refine ⟨⟨by omega, by omega⟩, fun h => ?_, ?_⟩
  · have h1 : decide ((i : Int) > 0) = true := h.2
    have := of_decide_eq_true h1
    rw [wrapI (by omega) (by omega)]; omega
  generalize ETy.get .tran c.trans i = t
  have hb := base_eq c t.event
  have S := right_shp hT
  refine ⟨fun h1 => ?_, fun h1 => ?_⟩
  · have h2 : badsrcE c i t = true := by
      unfold badsrcE
      have h3 : (decide (t.src < 0) || decide (t.src ≥ (c.states.length : Int)) || decide ((i : Int) > 0) && decide (t.src < (ETy.get .tran c.trans (IntKind.wrap .i64 ((i : Int) - 1)).toNat).src)) = true := h1
      rw [h3, Bool.true_or]
    rw [if_pos h2]; exact ⟨rfl, rfl⟩
  have h3 : (decide (t.src < 0) || decide (t.src ≥ (c.states.length : Int)) || decide ((i : Int) > 0) && decide (t.src < (ETy.get .tran c.trans (IntKind.wrap .i64 ((i : Int) - 1)).toNat).src)) = false := h1
  have hs : 0 ≤ t.src ∧ t.src < (c.states.length : Int) := by
    rw [Bool.or_eq_false_iff, Bool.or_eq_false_iff] at h3
    have := of_decide_eq_false h3.1.1
    have := of_decide_eq_false h3.1.2
    omega
  have hk := S.k1 t.src.toNat (by omega)
  have hbad : badsrcE c i t = ((ETy.get .stat c.states t.src.toNat).kind != 1 && (ETy.get .stat c.states t.src.toNat).kind != 2 && (ETy.get .stat c.states t.src.toNat).kind != 3) := by
    unfold badsrcE
    rw [h3, Bool.false_or]
    generalize (ETy.get .stat c.states t.src.toNat).kind = q at hk
    rw [Bool.eq_iff_iff]
    simp only [Bool.and_eq_true, decide_eq_true_eq, bne_iff_ne]
    omega
  rw [hbad]
  refine ⟨hs, fun _ => hs, fun _ => hs, fun h4 => ?_, fun h4 => ?_⟩
  · rw [if_pos h4]; exact ⟨rfl, rfl⟩
  · rw [if_neg (by rw [h4]; decide)]
    have h5 := rtr_loop c t hT hn hl hnm hs.1 hs.2 Γ c.states.length 0 (by omega) (by omega)
    rw [show rknownM (c.states.take 0) t.event = false from rfl, Bool.or_false, ← hb] at h5
    exact h5
theorem rtr_spec (c : Chart) (i : Int) (h : 0 ≤ i ∧ i < (c.trans.length : Int) ∧ c.trans.length ≤ maxLen ∧ rightT c.states = true ∧ (c.states.map fun s : Ev.Stat => s.name).Nodup ∧ c.states.length ≤ 1466015503701 ∧ ∀ s ∈ c.states, nameM s.name = true) : Does Tryz.prog 51 [.e .chart c, .i i] [] (.x (.i (transE c i.toNat (realM c.states) (ETy.get .tran c.trans i.toNat)))) [] := by
  obtain ⟨k, rfl⟩ := Int.eq_ofNat_of_zero_le h.1
  rw [Int.toNat_natCast]
  exact rtr_nat c k (by omega) h.2.2.1 h.2.2.2.1 h.2.2.2.2.1 h.2.2.2.2.2.1 h.2.2.2.2.2.2
def eRtr : Nat × (List SX → List Chunk → Option (Option Prop × SV × List Chunk)) := (51, fun
  | [.agg [.pd (.str a), .pd (.lst .str b), .pd (.lst .var c), .pd (.lst .stat d), .pd (.lst .tran e)], .c (.pd (.int .i64 i))], [] => some (some (0 ≤ i ∧ i < (e.length : Int) ∧ e.length ≤ maxLen ∧ rightT d = true ∧ (d.map fun s : Ev.Stat => s.name).Nodup ∧ d.length ≤ 1466015503701 ∧ ∀ s ∈ d, nameM s.name = true), .x (.c (.pd (.int .i64 (transE ⟨a, b, c, d, e⟩ i.toNat (realM d) (ETy.get .tran e i.toNat))))), [])
  | _, _ => none)
theorem eRtr_ok (vs : List SX) (ck : List Chunk) (p : Option Prop) (ret : SV) (ck' : List Chunk) (h : eRtr.2 vs ck = some (p, ret, ck')) (hp : Holds p) : Does Tryz.prog eRtr.1 vs ck ret ck' := by
  unfold eRtr at h
  simp only at h
  split at h
  · rename_i a b c d e i
    simp only [Option.some.injEq, Prod.mk.injEq] at h
    obtain ⟨rfl, rfl, rfl⟩ := h
    exact rtr_spec ⟨a, b, c, d, e⟩ i hp
  · simp at h
end Go.Proofs.YtcpnicfkpkonkaaGreatDoor

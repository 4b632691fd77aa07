/- Contracts: blocks read, the document's. Conditions: none. -/
import Derived.Test.YtjndellhebidoaaGreatDoorUh
namespace Go.Proofs.YtjndellhebidoaaGreatDoor
open Go Go.Ev
set_option maxRecDepth 100000
noncomputable def cfgR2 : Cfg := ⟨tys0, [nRd2]⟩
theorem cfgR2_ok : TabOk Tryz.prog cfgR2.tab := (TabOk.cons nRd2_ok TabOk.nil)
noncomputable def cfgR3 : Cfg := ⟨tys0, [nRd3]⟩
theorem cfgR3_ok : TabOk Tryz.prog cfgR3.tab := (TabOk.cons nRd3_ok TabOk.nil)
noncomputable def cfgR1 : Cfg := ⟨tys0, [nRd1]⟩
theorem cfgR1_ok : TabOk Tryz.prog cfgR1.tab := (TabOk.cons nRd1_ok TabOk.nil)
noncomputable def cfgR0 : Cfg := ⟨tys0, [nRd0]⟩
theorem cfgR0_ok : TabOk Tryz.prog cfgR0.tab := (TabOk.cons nRd0_ok TabOk.nil)


theorem pq_loop (s : Str) (Γ : Ctx) (hs : ¬ strLen s > 6000) (h8 : (partsGo [] s).length ≤ 8) : ∀ (n k : Nat) (out : List Deed), (partsGo [] s).length - k ≤ n → k ≤ (partsGo [] s).length → out.length = k → readAll (partsGo [] s) = (readAll ((partsGo [] s).drop k)).map (out ++ ·) →
    J Tryz.prog 10 (bodyOf Tryz.f10) Γ (BQ s) [.code [1, 1, 1, 1, 1, 1, 1, 0, 1, 0, 0], .inLoop [1, 1, 1, 1, 1, 1, 1, 0, 1, 0, 0], .inBlock 2, .code [1, 1, 1, 1, 1, 1, 1, 1]] ({ n := 63, fr := [(2, .p (.v (Value.slice none 0 0))), (3, .i (0 : Int)), (4, .x (.c (.own 0))), (7, .x (.c (.own 1))), (8, .i (k))], ck := [.own 9 .str (partsGo [] s), .own 60 .deed out] }) := by
  have hpl : ∀ p ∈ partsGo [] s, p.length ≤ 6000 := fun p hp => by
    have := parts_mem s [] p hp
    have hL : strLen s = (s.length : Int) := rfl
    simp only [List.length_nil] at this; omega
  have hq : readsB s ↔ (readAll (partsGo [] s)).isSome = true := reads_iff hs (by omega)
  have hv := blockP_val hs (show ¬ (partsGo [] s).length > 8 by omega)
  generalize partsGo [] s = ps at *
  intro n
  induction n with
  | zero => ?_
  | succ n ih => ?_
  all_goals
    intro k out hn hk ho hall
    by_cases hk' : k < ps.length
    · have hget := ETy.getElem?_get (t := .str) hk'
      have hp1 := hpl _ (List.mem_of_getElem? hget)
      have hdk : readAll (ps.drop k) = (match readD (ETy.get .str ps k), readAll (ps.drop (k + 1)) with | some d, some l => some (d :: l) | _, _ => none) := by rw [drop_get (t := .str) hk']; rfl
      have hno : readD (ETy.get .str ps k) = none → BQ s (.tup [.c nilV, .i 1]) [] := fun hx => by
        have h1 : readAll ps = none := by rw [hall, hdk, hx]; rfl
        exact bq_none hv h1
      have hroom : ∀ d : Deed, room (out ++ [d]).length 48 := fun d => by rw [List.length_append]; unfold room maxLen; simp only [List.length_cons, List.length_nil]; omega
      have next : ∀ d, readD (ETy.get .str ps k) = some d → J Tryz.prog 10 (bodyOf Tryz.f10) Γ (BQ s) [.code [1, 1, 1, 1, 1, 1, 1, 0, 1, 0, 0], .inLoop [1, 1, 1, 1, 1, 1, 1, 0, 1, 0, 0], .inBlock 2, .code [1, 1, 1, 1, 1, 1, 1, 1]] ({ n := 63, fr := [(2, .p (.v (Value.slice none 0 0))), (3, .i (0 : Int)), (4, .x (.c (.own 0))), (7, .x (.c (.own 1))), (8, .i (((k + 1 : Nat) : Int)))], ck := [.own 9 .str ps, .own 60 .deed (out ++ [d])] }) := fun d hd => by
        first
        | (exfalso; omega)
        | exact ih (k + 1) (out ++ [d]) (by omega) (by omega) (by simp; omega) (by
            rw [hall, hdk, hd]
            cases readAll (ps.drop (k + 1)) <;> simp)
      have hw : IntKind.wrap .i64 ((k : Int) + 1) = ((k + 1 : Nat) : Int) := wrapK (by omega)
      have hlt : decide ((k : Int) < (ps.length : Int)) = true := decide_eq_true (by omega)
      cases c2 : hasP (ETy.get .str ps k) raiseS
      · cases c3 : hasP (ETy.get .str ps k) sendS
        · by_cases c1 : hasEq (ETy.get .str ps k) = true ∧ readsE (postM (ETy.get .str ps k))
          · refine J.go (cfg := cfgR1) cfgR1_ok Tryz.func10 1000 (t := (.ite (decide ((↑k : Int) < (↑(List.length ps) : Int))) (.need ((0 : Int) ≤ (↑k : Int) ∧ (↑k : Int) < (↑(List.length ps) : Int)) (.need (k < List.length ps) (.need (List.length (ETy.get .str ps k) ≤ 1048576 ∧ hasP (ETy.get .str ps k) raiseS = false ∧ hasP (ETy.get .str ps k) sendS = false ∧ hasEq (ETy.get .str ps k) = true ∧ readsE (postM (ETy.get .str ps k))) (.ite (!deedOk { kind := (1 : Int), name := preM (ETy.get .str ps k), expr := Prod.fst (parseE (postM (ETy.get .str ps k))) }) (.ret (.tup [.p (.v (Value.slice none 0 0)), .i (1 : Int)]) []) (.need (room (List.length (out ++ [{ kind := (1 : Int), name := preM (ETy.get .str ps k), expr := Prod.fst (parseE (postM (ETy.get .str ps k))) }])) 48) (.stop [.code [1, 1, 1, 1, 1, 1, 1, 0, 1, 0, 0], .inLoop [1, 1, 1, 1, 1, 1, 1, 0, 1, 0, 0], .inBlock 2, .code [1, 1, 1, 1, 1, 1, 1, 1]] { n := 63, fr := [(2, .p (.v (Value.slice none 0 0))), (3, .i (0 : Int)), (4, .x (.c (.own 0))), (7, .x (.c (.own 1))), (8, .i (IntKind.wrap .i64 ((↑k : Int) + (1 : Int))))], ck := [.own 9 .str ps, .own 60 .deed (out ++ [{ kind := (1 : Int), name := preM (ETy.get .str ps k), expr := Prod.fst (parseE (postM (ETy.get .str ps k))) }])] })))))) (.ret (.tup [.c (.own 0), .i (0 : Int)]) [.own 60 .deed out]))) (by kernel_rfl) ?_
            rw [hlt, hw]
            generalize ETy.get .str ps k = p at *
            refine ⟨fun _ => ⟨by omega, hk', ⟨by omega, c2, c3, c1⟩, fun hb => hno ?_, fun hb => ⟨hroom _, next _ ?_⟩⟩, fun x => Bool.noConfusion x⟩
            · exact readD_bad c2 c3 (fun ⟨g1, g2, g3⟩ => by
                have hb' := nt hb
                rw [g3] at hb'; cases hb')
            · have hb' := nf hb
              exact readD_set c2 c3 c1.1 c1.2 hb'
          · refine J.go (cfg := cfgR0) cfgR0_ok Tryz.func10 1000 (t := (.ite (decide ((↑k : Int) < (↑(List.length ps) : Int))) (.need ((0 : Int) ≤ (↑k : Int) ∧ (↑k : Int) < (↑(List.length ps) : Int)) (.need (k < List.length ps) (.need (List.length (ETy.get .str ps k) ≤ 1048576 ∧ hasP (ETy.get .str ps k) raiseS = false ∧ hasP (ETy.get .str ps k) sendS = false ∧ ¬(hasEq (ETy.get .str ps k) = true ∧ readsE (postM (ETy.get .str ps k)))) (.ite true (.ret (.tup [.p (.v (Value.slice none 0 0)), .i (1 : Int)]) []) (.need (room (List.length (out ++ [{ kind := (0 : Int), name := [], expr := [] }])) 48) (.stop [.code [1, 1, 1, 1, 1, 1, 1, 0, 1, 0, 0], .inLoop [1, 1, 1, 1, 1, 1, 1, 0, 1, 0, 0], .inBlock 2, .code [1, 1, 1, 1, 1, 1, 1, 1]] { n := 63, fr := [(2, .p (.v (Value.slice none 0 0))), (3, .i (0 : Int)), (4, .x (.c (.own 0))), (7, .x (.c (.own 1))), (8, .i (IntKind.wrap .i64 ((↑k : Int) + (1 : Int))))], ck := [.own 9 .str ps, .own 60 .deed (out ++ [{ kind := (0 : Int), name := [], expr := [] }])] })))))) (.ret (.tup [.c (.own 0), .i (0 : Int)]) [.own 60 .deed out]))) (by kernel_rfl) ?_
            rw [hlt]
            generalize ETy.get .str ps k = p at *
            refine ⟨fun _ => ⟨by omega, hk', ⟨by omega, c2, c3, c1⟩, fun _ => hno ?_, fun x => Bool.noConfusion x⟩, fun x => Bool.noConfusion x⟩
            exact readD_bad c2 c3 (fun ⟨g1, g2, g3⟩ => c1 (⟨g1, g2⟩))
        · refine J.go (cfg := cfgR3) cfgR3_ok Tryz.func10 1000 (t := (.ite (decide ((↑k : Int) < (↑(List.length ps) : Int))) (.need ((0 : Int) ≤ (↑k : Int) ∧ (↑k : Int) < (↑(List.length ps) : Int)) (.need (k < List.length ps) (.need (hasP (ETy.get .str ps k) raiseS = false ∧ hasP (ETy.get .str ps k) sendS = true) (.ite (!deedOk { kind := (3 : Int), name := cutP (ETy.get .str ps k) sendS, expr := [] }) (.ret (.tup [.p (.v (Value.slice none 0 0)), .i (1 : Int)]) []) (.need (room (List.length (out ++ [{ kind := (3 : Int), name := cutP (ETy.get .str ps k) sendS, expr := [] }])) 48) (.stop [.code [1, 1, 1, 1, 1, 1, 1, 0, 1, 0, 0], .inLoop [1, 1, 1, 1, 1, 1, 1, 0, 1, 0, 0], .inBlock 2, .code [1, 1, 1, 1, 1, 1, 1, 1]] { n := 63, fr := [(2, .p (.v (Value.slice none 0 0))), (3, .i (0 : Int)), (4, .x (.c (.own 0))), (7, .x (.c (.own 1))), (8, .i (IntKind.wrap .i64 ((↑k : Int) + (1 : Int))))], ck := [.own 9 .str ps, .own 60 .deed (out ++ [{ kind := (3 : Int), name := cutP (ETy.get .str ps k) sendS, expr := [] }])] })))))) (.ret (.tup [.c (.own 0), .i (0 : Int)]) [.own 60 .deed out]))) (by kernel_rfl) ?_
          rw [hlt, hw]
          generalize ETy.get .str ps k = p at *
          refine ⟨fun _ => ⟨by omega, hk', ⟨c2, c3⟩, fun hb => hno ?_, fun hb => ⟨hroom _, next _ ?_⟩⟩, fun x => Bool.noConfusion x⟩
          · have hb' := nt hb
            simp only [readD, c2, c3, hb', Bool.false_eq_true, if_false, if_true]
          · have hb' := nf hb
            simp only [readD, c2, c3, hb', Bool.false_eq_true, if_false, if_true]
      · refine J.go (cfg := cfgR2) cfgR2_ok Tryz.func10 1000 (t := (.ite (decide ((↑k : Int) < (↑(List.length ps) : Int))) (.need ((0 : Int) ≤ (↑k : Int) ∧ (↑k : Int) < (↑(List.length ps) : Int)) (.need (k < List.length ps) (.need (hasP (ETy.get .str ps k) raiseS = true) (.ite (!deedOk { kind := (2 : Int), name := cutP (ETy.get .str ps k) raiseS, expr := [] }) (.ret (.tup [.p (.v (Value.slice none 0 0)), .i (1 : Int)]) []) (.need (room (List.length (out ++ [{ kind := (2 : Int), name := cutP (ETy.get .str ps k) raiseS, expr := [] }])) 48) (.stop [.code [1, 1, 1, 1, 1, 1, 1, 0, 1, 0, 0], .inLoop [1, 1, 1, 1, 1, 1, 1, 0, 1, 0, 0], .inBlock 2, .code [1, 1, 1, 1, 1, 1, 1, 1]] { n := 63, fr := [(2, .p (.v (Value.slice none 0 0))), (3, .i (0 : Int)), (4, .x (.c (.own 0))), (7, .x (.c (.own 1))), (8, .i (IntKind.wrap .i64 ((↑k : Int) + (1 : Int))))], ck := [.own 9 .str ps, .own 60 .deed (out ++ [{ kind := (2 : Int), name := cutP (ETy.get .str ps k) raiseS, expr := [] }])] })))))) (.ret (.tup [.c (.own 0), .i (0 : Int)]) [.own 60 .deed out]))) (by kernel_rfl) ?_
        rw [hlt, hw]
        generalize ETy.get .str ps k = p at *
        refine ⟨fun _ => ⟨by omega, hk', c2, fun hb => hno ?_, fun hb => ⟨hroom _, next _ ?_⟩⟩, fun x => Bool.noConfusion x⟩
        · have hb' := nt hb
          simp only [readD, c2, hb', Bool.false_eq_true, if_false, if_true]
        · have hb' := nf hb
          simp only [readD, c2, hb', Bool.false_eq_true, if_false, if_true]
    · refine J.go (cfg := cfgR2) cfgR2_ok Tryz.func10 1000 (t := (.ite (decide ((↑k : Int) < (↑(List.length ps) : Int))) (.need ((0 : Int) ≤ (↑k : Int) ∧ (↑k : Int) < (↑(List.length ps) : Int)) (.need (k < List.length ps) (.need (hasP (ETy.get .str ps k) raiseS = true) (.ite (!deedOk { kind := (2 : Int), name := cutP (ETy.get .str ps k) raiseS, expr := [] }) (.ret (.tup [.p (.v (Value.slice none 0 0)), .i (1 : Int)]) []) (.need (room (List.length (out ++ [{ kind := (2 : Int), name := cutP (ETy.get .str ps k) raiseS, expr := [] }])) 48) (.stop [.code [1, 1, 1, 1, 1, 1, 1, 0, 1, 0, 0], .inLoop [1, 1, 1, 1, 1, 1, 1, 0, 1, 0, 0], .inBlock 2, .code [1, 1, 1, 1, 1, 1, 1, 1]] { n := 63, fr := [(2, .p (.v (Value.slice none 0 0))), (3, .i (0 : Int)), (4, .x (.c (.own 0))), (7, .x (.c (.own 1))), (8, .i (IntKind.wrap .i64 ((↑k : Int) + (1 : Int))))], ck := [.own 9 .str ps, .own 60 .deed (out ++ [{ kind := (2 : Int), name := cutP (ETy.get .str ps k) raiseS, expr := [] }])] })))))) (.ret (.tup [.c (.own 0), .i (0 : Int)]) [.own 60 .deed out]))) (by kernel_rfl) ?_
      rw [show decide ((k : Int) < (ps.length : Int)) = false from decide_eq_false (by omega)]
      refine ⟨fun x => Bool.noConfusion x, fun _ => ?_⟩
      rw [drop_end (l := ps) (by omega)] at hall
      exact bq_some hv (by rw [hall]; simp [readAll])
theorem rp_exit (s : Str) (Γ : Ctx) (hs : ¬ strLen s > 6000) {i j : Nat} (hj : s.length < j) : J Tryz.prog 10 (bodyOf Tryz.f10) Γ (BQ s) [.code [1, 1, 1, 1, 0, 1, 0, 0], .inLoop [1, 1, 1, 1, 0, 1, 0, 0], .inBlock 0, .code [1, 1, 1, 1, 1]] ({ n := 63, fr := [(0, .p (.str s)), (2, .p (.v (Value.slice none 0 0))), (3, .i (0 : Int)), (4, .x (.c (.own 0))), (5, .i (i)), (6, .i (j))], ck := [.own 9 .str (partsGo [] s)] }) := by
  have hL : strLen s = (s.length : Int) := rfl
  have key : ∀ ps, ps = partsGo [] s → J Tryz.prog 10 (bodyOf Tryz.f10) Γ (BQ s) [.code [1, 1, 1, 1, 0, 1, 0, 0], .inLoop [1, 1, 1, 1, 0, 1, 0, 0], .inBlock 0, .code [1, 1, 1, 1, 1]] ({ n := 63, fr := [(0, .p (.str s)), (2, .p (.v (Value.slice none 0 0))), (3, .i (0 : Int)), (4, .x (.c (.own 0))), (5, .i (i)), (6, .i (j))], ck := [.own 9 .str ps] }) := by
    intro ps hps
    refine J.go (cfg := cfg0) cfg0_ok Tryz.func10 1000 (t := (.ite (decide ((↑j : Int) ≤ strLen s)) (.need (((↑j : Int) == strLen s) = false → (0 : Int) ≤ (↑j : Int) ∧ (↑j : Int) < strLen s) (.ite ((↑j : Int) == strLen s || (↑(UInt8.toNat (List.getD s j (0 : UInt8))) : Int) == (59 : Int)) (.need ((0 : Int) ≤ (↑i : Int) ∧ (↑i : Int) ≤ (↑j : Int) ∧ (↑j : Int) ≤ (↑(List.length s) : Int)) (.need (room (List.length (ps ++ [Prod.snd (cutL s (some (↑i : Int)) (some (↑j : Int)))])) 16) (.stop [.code [1, 1, 1, 1, 0, 1, 0, 0], .inLoop [1, 1, 1, 1, 0, 1, 0, 0], .inBlock 0, .code [1, 1, 1, 1, 1]] { n := 63, fr := [(0, .p (.str s)), (2, .p (.v (Value.slice none 0 0))), (3, .i (0 : Int)), (4, .x (.c (.own 0))), (5, .i (IntKind.wrap .i64 ((↑j : Int) + (1 : Int)))), (6, .i (IntKind.wrap .i64 ((↑j : Int) + (1 : Int))))], ck := [.own 9 .str (ps ++ [Prod.snd (cutL s (some (↑i : Int)) (some (↑j : Int)))])] }))) (.stop [.code [1, 1, 1, 1, 0, 1, 0, 0], .inLoop [1, 1, 1, 1, 0, 1, 0, 0], .inBlock 0, .code [1, 1, 1, 1, 1]] { n := 63, fr := [(0, .p (.str s)), (2, .p (.v (Value.slice none 0 0))), (3, .i (0 : Int)), (4, .x (.c (.own 0))), (5, .i (↑i : Int)), (6, .i (IntKind.wrap .i64 ((↑j : Int) + (1 : Int))))], ck := [.own 9 .str ps] }))) (.ite (decide ((↑(List.length ps) : Int) > (8 : Int))) (.ret (.tup [.p (.v (Value.slice none 0 0)), .i (4 : Int)]) []) (.stop [.code [1, 1, 1, 1, 1, 1, 1, 0, 1, 0, 0], .inLoop [1, 1, 1, 1, 1, 1, 1, 0, 1, 0, 0], .inBlock 2, .code [1, 1, 1, 1, 1, 1, 1, 1]] { n := 63, fr := [(2, .p (.v (Value.slice none 0 0))), (3, .i (0 : Int)), (4, .x (.c (.own 0))), (7, .p (.v (Value.slice none 0 0))), (8, .i (0 : Int))], ck := [.own 9 .str ps] })))) (by kernel_rfl) ?_
    refine ⟨fun h => by have := of_decide_eq_true h; omega, fun _ => ⟨fun h8 => bq_long (.inr (by have := of_decide_eq_true h8; rw [hps] at this; omega)), fun h8 => ?_⟩⟩
    subst hps
    refine J.nilOwn 7 60 .deed rfl (by kernel_rfl) ?_
    exact pq_loop s Γ hs (by have := of_decide_eq_false h8; omega) (partsGo [] s).length 0 [] (by omega) (by omega) rfl (by simp)
  exact key _ rfl
theorem take_drop_next {s : Str} {i j : Nat} (hi : i ≤ j) (hj : j < s.length) : (s.take (j + 1)).drop i = (s.take j).drop i ++ [s.getD j 0] := by
  rw [List.take_add_one, List.getElem?_eq_getElem hj, List.drop_append_of_le_length (by rw [List.length_take]; omega)]
  simp [List.getD_eq_getElem?_getD, hj]
theorem rp_loop (s : Str) (Γ : Ctx) (hs : ¬ strLen s > 6000) : ∀ (n i j : Nat) (ps : List Str), s.length - j ≤ n → i ≤ j → j ≤ s.length → ps.length ≤ j → ps ++ partsGo ((s.take j).drop i) (s.drop j) = partsGo [] s →
    J Tryz.prog 10 (bodyOf Tryz.f10) Γ (BQ s) [.code [1, 1, 1, 1, 0, 1, 0, 0], .inLoop [1, 1, 1, 1, 0, 1, 0, 0], .inBlock 0, .code [1, 1, 1, 1, 1]] ({ n := 63, fr := [(0, .p (.str s)), (2, .p (.v (Value.slice none 0 0))), (3, .i (0 : Int)), (4, .x (.c (.own 0))), (5, .i (i)), (6, .i (j))], ck := [.own 9 .str ps] }) := by
  have hL : strLen s = (s.length : Int) := rfl
  have hcut : ∀ i j : Nat, (cutL s (some (i : Int)) (some (j : Int))).2 = (s.take j).drop i := fun i j => by simp [cutL]
  intro n
  induction n with
  | zero => ?_
  | succ n ih => ?_
  all_goals
    intro i j ps hn hi hj hps hall
    refine J.go (cfg := cfg0) cfg0_ok Tryz.func10 1000 (t := (.ite (decide ((↑j : Int) ≤ strLen s)) (.need (((↑j : Int) == strLen s) = false → (0 : Int) ≤ (↑j : Int) ∧ (↑j : Int) < strLen s) (.ite ((↑j : Int) == strLen s || (↑(UInt8.toNat (List.getD s j (0 : UInt8))) : Int) == (59 : Int)) (.need ((0 : Int) ≤ (↑i : Int) ∧ (↑i : Int) ≤ (↑j : Int) ∧ (↑j : Int) ≤ (↑(List.length s) : Int)) (.need (room (List.length (ps ++ [Prod.snd (cutL s (some (↑i : Int)) (some (↑j : Int)))])) 16) (.stop [.code [1, 1, 1, 1, 0, 1, 0, 0], .inLoop [1, 1, 1, 1, 0, 1, 0, 0], .inBlock 0, .code [1, 1, 1, 1, 1]] { n := 63, fr := [(0, .p (.str s)), (2, .p (.v (Value.slice none 0 0))), (3, .i (0 : Int)), (4, .x (.c (.own 0))), (5, .i (IntKind.wrap .i64 ((↑j : Int) + (1 : Int)))), (6, .i (IntKind.wrap .i64 ((↑j : Int) + (1 : Int))))], ck := [.own 9 .str (ps ++ [Prod.snd (cutL s (some (↑i : Int)) (some (↑j : Int)))])] }))) (.stop [.code [1, 1, 1, 1, 0, 1, 0, 0], .inLoop [1, 1, 1, 1, 0, 1, 0, 0], .inBlock 0, .code [1, 1, 1, 1, 1]] { n := 63, fr := [(0, .p (.str s)), (2, .p (.v (Value.slice none 0 0))), (3, .i (0 : Int)), (4, .x (.c (.own 0))), (5, .i (↑i : Int)), (6, .i (IntKind.wrap .i64 ((↑j : Int) + (1 : Int))))], ck := [.own 9 .str ps] }))) (.ite (decide ((↑(List.length ps) : Int) > (8 : Int))) (.ret (.tup [.p (.v (Value.slice none 0 0)), .i (4 : Int)]) []) (.stop [.code [1, 1, 1, 1, 1, 1, 1, 0, 1, 0, 0], .inLoop [1, 1, 1, 1, 1, 1, 1, 0, 1, 0, 0], .inBlock 2, .code [1, 1, 1, 1, 1, 1, 1, 1]] { n := 63, fr := [(2, .p (.v (Value.slice none 0 0))), (3, .i (0 : Int)), (4, .x (.c (.own 0))), (7, .p (.v (Value.slice none 0 0))), (8, .i (0 : Int))], ck := [.own 9 .str ps] })))) (by kernel_rfl) ?_
    refine ⟨fun _ => ⟨fun hne => ?_, fun hc => ?_, fun hc => ?_⟩, fun h => by have := of_decide_eq_false h; omega⟩
    · have : (j : Int) ≠ strLen s := by simpa using hne
      omega
    · rw [wrapK (by omega), hcut]
      refine ⟨by omega, by rw [List.length_append]; unfold room maxLen; simp only [List.length_cons, List.length_nil]; omega, ?_⟩
      by_cases he : j = s.length
      · have hd : s.drop j = [] := by rw [he]; simp
        rw [hd, partsGo] at hall
        rw [hall]
        exact rp_exit s Γ hs (by omega)
      · have hj' : j < s.length := by omega
        have h59 : (s.getD j 0 == 59) = true := by
          rw [show ((j : Int) == strLen s) = false by rw [beq_eq_false_iff_ne]; omega, Bool.false_or] at hc
          have h1 := eq_of_beq hc
          rw [beq_iff_eq]; apply UInt8.toNat_inj.1
          show (s.getD j 0).toNat = 59
          omega
        have hd : s.drop j = s.getD j 0 :: s.drop (j + 1) := by
          rw [List.drop_eq_getElem_cons hj']; simp [List.getD_eq_getElem?_getD, hj']
        rw [hd, partsGo, h59, cond_true] at hall
        first
        | (exfalso; omega)
        | exact ih (j + 1) (j + 1) _ (by omega) (by omega) (by omega) (by simp; omega) (by
            rw [← hall]
            have : (s.take (j + 1)).drop (j + 1) = [] := by rw [List.drop_eq_nil_iff, List.length_take]; omega
            rw [this]; simp)
    · rw [wrapK (by omega)]
      simp only [Bool.or_eq_false_iff] at hc
      have hj' : j < s.length := by
        have : (j : Int) ≠ strLen s := by simpa using hc.1
        omega
      have h59 : (s.getD j 0 == 59) = false := by
        have h1 : ((((s.getD j 0).toNat : Nat) : Int)) ≠ 59 := by simpa using hc.2
        rw [beq_eq_false_iff_ne]; intro e; rw [e] at h1; exact h1 rfl
      have hd : s.drop j = s.getD j 0 :: s.drop (j + 1) := by
        rw [List.drop_eq_getElem_cons hj']; simp [List.getD_eq_getElem?_getD, hj']
      rw [hd, partsGo, h59, cond_false, ← take_drop_next hi hj'] at hall
      first
      | (exfalso; omega)
      | exact ih i (j + 1) ps (by omega) (by omega) (by omega) (by omega) hall
theorem rbparse_q (s : Str) (Γ : Ctx) : J Tryz.prog 10 (bodyOf Tryz.f10) Γ (BQ s) [.code []] (initST Tryz.f10.ntmps [.s s] []) := by
  refine J.go (cfg := cfg0) cfg0_ok Tryz.func10 1000 (t := (.ite (decide (strLen s > (6000 : Int))) (.ret (.tup [.p (.v (Value.slice none 0 0)), .i (4 : Int)]) []) (.stop [.code [1, 1, 1, 1, 0, 1, 0, 0], .inLoop [1, 1, 1, 1, 0, 1, 0, 0], .inBlock 0, .code [1, 1, 1, 1, 1]] { n := 63, fr := [(0, .p (.str s)), (2, .p (.v (Value.slice none 0 0))), (3, .i (0 : Int)), (4, .p (.v (Value.slice none 0 0))), (5, .i (0 : Int)), (6, .i (0 : Int))], ck := [] }))) (by kernel_rfl) ?_
  refine ⟨fun h => bq_long (.inl (of_decide_eq_true h)), fun h => ?_⟩
  have hs : ¬ strLen s > 6000 := of_decide_eq_false h
  refine J.nilOwn 4 9 .str rfl (by kernel_rfl) ?_
  exact rp_loop s Γ hs s.length 0 0 [] (by omega) (by omega) (by omega) (by simp) (by simp)
theorem rbparse_ok (s : Str) (h : readsB s) : Does Tryz.prog 10 [.s s] [] (.tup [.c (.own 0), .i 0]) [.own 60 .deed (blockP s).1] :=
  Does.of Tryz.func10 (by kernel_rfl) (by kernel_rfl) fun Γ => J.mono (fun v ck hq => hq.1 h) (rbparse_q s Γ)
theorem rbparse_bad (s : Str) (h : ¬ readsB s) : Does Tryz.prog 10 [.s s] [] (.tup [.c nilV, .i (blockP s).2]) [] :=
  Does.of Tryz.func10 (by kernel_rfl) (by kernel_rfl) fun Γ => J.mono (fun v ck hq => hq.2 h) (rbparse_q s Γ)
noncomputable def nRpb1 : Nat × (List SX → List Chunk → Option (Option Prop × SV × List Chunk)) := (10, fun
  | [.c (.pd (.str s))], [] => some (some (readsB s), .tup [.c (.own 0), .c (.pd (.int .i64 0))], [.own 60 .deed (blockP s).1])
  | _, _ => none)
theorem nRpb1_ok (vs : List SX) (ck : List Chunk) (p : Option Prop) (ret : SV) (ck' : List Chunk) (h : nRpb1.2 vs ck = some (p, ret, ck')) (hp : Holds p) : Does Tryz.prog nRpb1.1 vs ck ret ck' := by
  unfold nRpb1 at h
  simp only at h
  split at h
  · rename_i s
    simp only [Option.some.injEq, Prod.mk.injEq] at h
    obtain ⟨rfl, rfl, rfl⟩ := h
    exact rbparse_ok s hp
  · simp at h
noncomputable def nRpb0 : Nat × (List SX → List Chunk → Option (Option Prop × SV × List Chunk)) := (10, fun
  | [.c (.pd (.str s))], [] => some (some (¬ readsB s), .tup [.c (.pd (.v (.slice none 0 0))), .c (.pd (.int .i64 (blockP s).2))], [])
  | _, _ => none)
theorem nRpb0_ok (vs : List SX) (ck : List Chunk) (p : Option Prop) (ret : SV) (ck' : List Chunk) (h : nRpb0.2 vs ck = some (p, ret, ck')) (hp : Holds p) : Does Tryz.prog nRpb0.1 vs ck ret ck' := by
  unfold nRpb0 at h
  simp only at h
  split at h
  · rename_i s
    simp only [Option.some.injEq, Prod.mk.injEq] at h
    obtain ⟨rfl, rfl, rfl⟩ := h
    exact rbparse_bad s hp
  · simp at h
end Go.Proofs.YtjndellhebidoaaGreatDoor

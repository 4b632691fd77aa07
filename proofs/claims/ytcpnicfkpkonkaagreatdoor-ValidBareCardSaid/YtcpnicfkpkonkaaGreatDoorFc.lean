/- The contract of the program's kinds.Of. Conditions: none. -/
import Derived.Test.YtcpnicfkpkonkaaGreatDoorFb
namespace Go.Proofs.YtcpnicfkpkonkaaGreatDoor
open Go Go.Ev
set_option maxRecDepth 100000
theorem wants_op (c : Cell) (h : wantsC c ≥ 0) : (wantsC c = 0 ∧ c.op < 7) ∨ (wantsC c = 1 ∧ 7 ≤ c.op ∧ c.op < 11) ∨ (wantsC c = 2 ∧ 11 ≤ c.op) := by
  revert h
  unfold wantsC wantsM
  simp only [cond_eq_ite, beq_iff_eq, Bool.or_eq_true, decide_eq_true_eq, bne_iff_ne]
  intro h
  (repeat' split at h) <;> (repeat' split) <;> omega
theorem get_last (t : Int) (st : List Int) : ETy.get .int ((t :: st).reverse) st.length = t := by
  refine ETy.get_eq (t := .int) ?_
  rw [List.reverse_cons, List.getElem?_append_right (by simp)]; simp
theorem get_last2 (t t2 : Int) (st : List Int) : ETy.get .int ((t :: t2 :: st).reverse) st.length = t2 := by
  refine ETy.get_eq (t := .int) ?_
  rw [List.reverse_cons, List.getElem?_append_left (by simp), List.reverse_cons, List.getElem?_append_right (by simp)]; simp
theorem take_last (t : Int) (st : List Int) : ((t :: st).reverse).take st.length = st.reverse := by
  rw [List.reverse_cons, ← List.length_reverse, List.take_left]
theorem take_last2 (t t2 : Int) (st : List Int) : ((t :: t2 :: st).reverse).take st.length = st.reverse := by
  rw [List.reverse_cons, List.take_append_of_le_length (by simp), take_last]
theorem room_int {n : Nat} (h : n ≤ 100) : room n 8 := by unfold room maxLen; omega
def cfgOf : Cfg := ⟨tys0, [eRight, eLeaf, eMade]⟩
theorem cfgOf_ok : TabOk Tryz.prog cfgOf.tab := (TabOk.cons eRight_ok (TabOk.cons eLeaf_ok (TabOk.cons eMade_ok TabOk.nil)))

theorem of_loop (l : List Cell) (vs : List Var) (ss : List Str) (Γ : Ctx) (hl : l.length ≤ 32) : ∀ (n k : Nat) (st : List Int), l.length - k ≤ n → k ≤ l.length → st.length ≤ k → rightGo (l.drop k) st.length = true →
    J Tryz.prog 80 (bodyOf Tryz.f80) Γ (Eq2 (intP (kindGo vs ss (l.drop k) st)) []) [.code [1, 1, 1, 0, 1, 0, 0], .inLoop [1, 1, 1, 0, 1, 0, 0], .inBlock 0, .code [1, 1, 1, 1]] ({ n := 86, fr := [(1, .p (.lst .var vs)), (2, .p (.lst .str ss)), (6, .i (0 : Int)), (7, .i (0 : Int)), (8, .x (.c (.own 0))), (17, .p (.lst .cell l)), (18, .i (↑(List.length l) : Int)), (19, .i (k))], ck := [.own 3 .int (st.reverse)] }) := by
  intro n
  induction n with
  | zero => ?_
  | succ n ih => ?_
  all_goals
    intro k st hn hk hst hright
    refine J.go (cfg := cfgOf) cfgOf_ok Tryz.func80 1000 (t := (.ite (decide ((↑k : Int) < (↑(List.length l) : Int))) (.need ((0 : Int) ≤ (↑k : Int) ∧ (↑k : Int) < (↑(List.length l) : Int)) (.ite (decide (Cell.op (ETy.get .cell l k) < (7 : Int))) (.ite (Prod.snd (leafM { op := Cell.op (ETy.get .cell l k), a := Cell.a (ETy.get .cell l k), name := Cell.name (ETy.get .cell l k) } vs ss) == (0 : Int) && Prod.fst (leafM { op := Cell.op (ETy.get .cell l k), a := Cell.a (ETy.get .cell l k), name := Cell.name (ETy.get .cell l k) } vs ss) == (0 : Int)) (.ite true (.ret (.tup [.i (0 : Int), .i (8 : Int)]) []) (.need (room (List.length (List.reverse st ++ [Prod.fst (leafM { op := Cell.op (ETy.get .cell l k), a := Cell.a (ETy.get .cell l k), name := Cell.name (ETy.get .cell l k) } vs ss)])) 8) (.stop [.code [1, 1, 1, 0, 1, 0, 0], .inLoop [1, 1, 1, 0, 1, 0, 0], .inBlock 0, .code [1, 1, 1, 1]] { n := 86, fr := [(1, .p (.lst .var vs)), (2, .p (.lst .str ss)), (6, .i (0 : Int)), (7, .i (0 : Int)), (8, .x (.c (.own 0))), (17, .p (.lst .cell l)), (18, .i (↑(List.length l) : Int)), (19, .i (IntKind.wrap .i64 ((↑k : Int) + (1 : Int))))], ck := [.own 3 .int (List.reverse st ++ [Prod.fst (leafM { op := Cell.op (ETy.get .cell l k), a := Cell.a (ETy.get .cell l k), name := Cell.name (ETy.get .cell l k) } vs ss)])] }))) (.ite (Prod.snd (leafM { op := Cell.op (ETy.get .cell l k), a := Cell.a (ETy.get .cell l k), name := Cell.name (ETy.get .cell l k) } vs ss) != (0 : Int)) (.ret (.tup [.i (0 : Int), .i (Prod.snd (leafM { op := Cell.op (ETy.get .cell l k), a := Cell.a (ETy.get .cell l k), name := Cell.name (ETy.get .cell l k) } vs ss))]) []) (.need (room (List.length (List.reverse st ++ [Prod.fst (leafM { op := Cell.op (ETy.get .cell l k), a := Cell.a (ETy.get .cell l k), name := Cell.name (ETy.get .cell l k) } vs ss)])) 8) (.stop [.code [1, 1, 1, 0, 1, 0, 0], .inLoop [1, 1, 1, 0, 1, 0, 0], .inBlock 0, .code [1, 1, 1, 1]] { n := 86, fr := [(1, .p (.lst .var vs)), (2, .p (.lst .str ss)), (6, .i (0 : Int)), (7, .i (0 : Int)), (8, .x (.c (.own 0))), (17, .p (.lst .cell l)), (18, .i (↑(List.length l) : Int)), (19, .i (IntKind.wrap .i64 ((↑k : Int) + (1 : Int))))], ck := [.own 3 .int (List.reverse st ++ [Prod.fst (leafM { op := Cell.op (ETy.get .cell l k), a := Cell.a (ETy.get .cell l k), name := Cell.name (ETy.get .cell l k) } vs ss)])] })))) (.ite (decide (Cell.op (ETy.get .cell l k) < (11 : Int))) (.need ((0 : Int) ≤ IntKind.wrap .i64 ((↑(List.length (List.reverse st)) : Int) - (1 : Int)) ∧ IntKind.wrap .i64 ((↑(List.length (List.reverse st)) : Int) - (1 : Int)) < (↑(List.length (List.reverse st)) : Int)) (.need (Int.toNat (IntKind.wrap .i64 ((↑(List.length (List.reverse st)) : Int) - (1 : Int))) < List.length (List.reverse st)) (.need ((0 : Int) ≤ IntKind.wrap .i64 ((↑(List.length (List.reverse st)) : Int) - (1 : Int)) ∧ IntKind.wrap .i64 ((↑(List.length (List.reverse st)) : Int) - (1 : Int)) ≤ (↑(List.length (List.reverse st)) : Int)) (.ite (true && madeM (Cell.op (ETy.get .cell l k)) (ETy.get .int (List.reverse st) (Int.toNat (IntKind.wrap .i64 ((↑(List.length (List.reverse st)) : Int) - (1 : Int))))) (0 : Int) == (0 : Int)) (.ite true (.ret (.tup [.i (0 : Int), .i (8 : Int)]) []) (.need (room (List.length (List.take (Int.toNat (IntKind.wrap .i64 ((↑(List.length (List.reverse st)) : Int) - (1 : Int)))) (List.reverse st) ++ [madeM (Cell.op (ETy.get .cell l k)) (ETy.get .int (List.reverse st) (Int.toNat (IntKind.wrap .i64 ((↑(List.length (List.reverse st)) : Int) - (1 : Int))))) (0 : Int)])) 8) (.stop [.code [1, 1, 1, 0, 1, 0, 0], .inLoop [1, 1, 1, 0, 1, 0, 0], .inBlock 0, .code [1, 1, 1, 1]] { n := 86, fr := [(1, .p (.lst .var vs)), (2, .p (.lst .str ss)), (6, .i (0 : Int)), (7, .i (0 : Int)), (8, .x (.c (.own 0))), (17, .p (.lst .cell l)), (18, .i (↑(List.length l) : Int)), (19, .i (IntKind.wrap .i64 ((↑k : Int) + (1 : Int))))], ck := [.own 3 .int (List.take (Int.toNat (IntKind.wrap .i64 ((↑(List.length (List.reverse st)) : Int) - (1 : Int)))) (List.reverse st) ++ [madeM (Cell.op (ETy.get .cell l k)) (ETy.get .int (List.reverse st) (Int.toNat (IntKind.wrap .i64 ((↑(List.length (List.reverse st)) : Int) - (1 : Int))))) (0 : Int)])] }))) (.ite false (.ret (.tup [.i (0 : Int), .i (0 : Int)]) []) (.need (room (List.length (List.take (Int.toNat (IntKind.wrap .i64 ((↑(List.length (List.reverse st)) : Int) - (1 : Int)))) (List.reverse st) ++ [madeM (Cell.op (ETy.get .cell l k)) (ETy.get .int (List.reverse st) (Int.toNat (IntKind.wrap .i64 ((↑(List.length (List.reverse st)) : Int) - (1 : Int))))) (0 : Int)])) 8) (.stop [.code [1, 1, 1, 0, 1, 0, 0], .inLoop [1, 1, 1, 0, 1, 0, 0], .inBlock 0, .code [1, 1, 1, 1]] { n := 86, fr := [(1, .p (.lst .var vs)), (2, .p (.lst .str ss)), (6, .i (0 : Int)), (7, .i (0 : Int)), (8, .x (.c (.own 0))), (17, .p (.lst .cell l)), (18, .i (↑(List.length l) : Int)), (19, .i (IntKind.wrap .i64 ((↑k : Int) + (1 : Int))))], ck := [.own 3 .int (List.take (Int.toNat (IntKind.wrap .i64 ((↑(List.length (List.reverse st)) : Int) - (1 : Int)))) (List.reverse st) ++ [madeM (Cell.op (ETy.get .cell l k)) (ETy.get .int (List.reverse st) (Int.toNat (IntKind.wrap .i64 ((↑(List.length (List.reverse st)) : Int) - (1 : Int))))) (0 : Int)])] }))))))) (.need ((0 : Int) ≤ IntKind.wrap .i64 ((↑(List.length (List.reverse st)) : Int) - (2 : Int)) ∧ IntKind.wrap .i64 ((↑(List.length (List.reverse st)) : Int) - (2 : Int)) < (↑(List.length (List.reverse st)) : Int)) (.need (Int.toNat (IntKind.wrap .i64 ((↑(List.length (List.reverse st)) : Int) - (2 : Int))) < List.length (List.reverse st)) (.need ((0 : Int) ≤ IntKind.wrap .i64 ((↑(List.length (List.reverse st)) : Int) - (1 : Int)) ∧ IntKind.wrap .i64 ((↑(List.length (List.reverse st)) : Int) - (1 : Int)) < (↑(List.length (List.reverse st)) : Int)) (.need (Int.toNat (IntKind.wrap .i64 ((↑(List.length (List.reverse st)) : Int) - (1 : Int))) < List.length (List.reverse st)) (.need ((0 : Int) ≤ IntKind.wrap .i64 ((↑(List.length (List.reverse st)) : Int) - (2 : Int)) ∧ IntKind.wrap .i64 ((↑(List.length (List.reverse st)) : Int) - (2 : Int)) ≤ (↑(List.length (List.reverse st)) : Int)) (.ite (true && madeM (Cell.op (ETy.get .cell l k)) (ETy.get .int (List.reverse st) (Int.toNat (IntKind.wrap .i64 ((↑(List.length (List.reverse st)) : Int) - (2 : Int))))) (ETy.get .int (List.reverse st) (Int.toNat (IntKind.wrap .i64 ((↑(List.length (List.reverse st)) : Int) - (1 : Int))))) == (0 : Int)) (.ite true (.ret (.tup [.i (0 : Int), .i (8 : Int)]) []) (.need (room (List.length (List.take (Int.toNat (IntKind.wrap .i64 ((↑(List.length (List.reverse st)) : Int) - (2 : Int)))) (List.reverse st) ++ [madeM (Cell.op (ETy.get .cell l k)) (ETy.get .int (List.reverse st) (Int.toNat (IntKind.wrap .i64 ((↑(List.length (List.reverse st)) : Int) - (2 : Int))))) (ETy.get .int (List.reverse st) (Int.toNat (IntKind.wrap .i64 ((↑(List.length (List.reverse st)) : Int) - (1 : Int)))))])) 8) (.stop [.code [1, 1, 1, 0, 1, 0, 0], .inLoop [1, 1, 1, 0, 1, 0, 0], .inBlock 0, .code [1, 1, 1, 1]] { n := 86, fr := [(1, .p (.lst .var vs)), (2, .p (.lst .str ss)), (6, .i (0 : Int)), (7, .i (0 : Int)), (8, .x (.c (.own 0))), (17, .p (.lst .cell l)), (18, .i (↑(List.length l) : Int)), (19, .i (IntKind.wrap .i64 ((↑k : Int) + (1 : Int))))], ck := [.own 3 .int (List.take (Int.toNat (IntKind.wrap .i64 ((↑(List.length (List.reverse st)) : Int) - (2 : Int)))) (List.reverse st) ++ [madeM (Cell.op (ETy.get .cell l k)) (ETy.get .int (List.reverse st) (Int.toNat (IntKind.wrap .i64 ((↑(List.length (List.reverse st)) : Int) - (2 : Int))))) (ETy.get .int (List.reverse st) (Int.toNat (IntKind.wrap .i64 ((↑(List.length (List.reverse st)) : Int) - (1 : Int)))))])] }))) (.ite false (.ret (.tup [.i (0 : Int), .i (0 : Int)]) []) (.need (room (List.length (List.take (Int.toNat (IntKind.wrap .i64 ((↑(List.length (List.reverse st)) : Int) - (2 : Int)))) (List.reverse st) ++ [madeM (Cell.op (ETy.get .cell l k)) (ETy.get .int (List.reverse st) (Int.toNat (IntKind.wrap .i64 ((↑(List.length (List.reverse st)) : Int) - (2 : Int))))) (ETy.get .int (List.reverse st) (Int.toNat (IntKind.wrap .i64 ((↑(List.length (List.reverse st)) : Int) - (1 : Int)))))])) 8) (.stop [.code [1, 1, 1, 0, 1, 0, 0], .inLoop [1, 1, 1, 0, 1, 0, 0], .inBlock 0, .code [1, 1, 1, 1]] { n := 86, fr := [(1, .p (.lst .var vs)), (2, .p (.lst .str ss)), (6, .i (0 : Int)), (7, .i (0 : Int)), (8, .x (.c (.own 0))), (17, .p (.lst .cell l)), (18, .i (↑(List.length l) : Int)), (19, .i (IntKind.wrap .i64 ((↑k : Int) + (1 : Int))))], ck := [.own 3 .int (List.take (Int.toNat (IntKind.wrap .i64 ((↑(List.length (List.reverse st)) : Int) - (2 : Int)))) (List.reverse st) ++ [madeM (Cell.op (ETy.get .cell l k)) (ETy.get .int (List.reverse st) (Int.toNat (IntKind.wrap .i64 ((↑(List.length (List.reverse st)) : Int) - (2 : Int))))) (ETy.get .int (List.reverse st) (Int.toNat (IntKind.wrap .i64 ((↑(List.length (List.reverse st)) : Int) - (1 : Int)))))])] })))))))))))) (.need ((0 : Int) ≤ (0 : Int) ∧ (0 : Int) < (↑(List.length (List.reverse st)) : Int)) (.need (0 < List.length (List.reverse st)) (.ret (.tup [.i (ETy.get .int (List.reverse st) 0), .i (0 : Int)]) []))))) (by kernel_rfl) ?_
    have next : ∀ (kd : Int) (st' : List Int) (c : Cell), st'.length ≤ k → ((st'.length : Int) + 1 = st.length + (1 - wantsC c)) → k < l.length → rightGo (l.drop (k + 1)) (st.length + (1 - wantsC c)) = true →
        J Tryz.prog 80 (bodyOf Tryz.f80) Γ (Eq2 (intP (kindGo vs ss (l.drop (k + 1)) (kd :: st'))) []) [.code [1, 1, 1, 0, 1, 0, 0], .inLoop [1, 1, 1, 0, 1, 0, 0], .inBlock 0, .code [1, 1, 1, 1]] ({ n := 86, fr := [(1, .p (.lst .var vs)), (2, .p (.lst .str ss)), (6, .i (0 : Int)), (7, .i (0 : Int)), (8, .x (.c (.own 0))), (17, .p (.lst .cell l)), (18, .i (↑(List.length l) : Int)), (19, .i (IntKind.wrap .i64 ((k : Int) + 1)))], ck := [.own 3 .int (st'.reverse ++ [kd])] }) := by
      intro kd st' c h1 h2 h3 h4
      rw [wrapK (by omega), ← List.reverse_cons]
      first
      | (exfalso; omega)
      | exact ih (k + 1) (kd :: st') (by omega) (by omega) (by simp only [List.length_cons]; omega) (by rw [← h2] at h4; simpa using h4)
    refine ⟨fun hlt => ?_, fun hge => ?_⟩
    · have hk' : k < l.length := by have := of_decide_eq_true hlt; omega
      rw [drop_get (t := .cell) hk'] at hright ⊢
      refine ⟨by omega, ?_⟩
      generalize ETy.get .cell l k = c at hright ⊢
      have hw : (decide (wantsC c < 0) || decide (wantsC c > (st.length : Int))) = false := by
        simp only [rightGo] at hright
        cases hb : (decide (wantsC c < 0) || decide (wantsC c > (st.length : Int)))
        · rfl
        · rw [hb] at hright; simp at hright
      have hrest : rightGo (l.drop (k + 1)) (st.length + (1 - wantsC c)) = true := by
        simp only [rightGo, hw, cond_false] at hright; exact hright
      have hw2 : 0 ≤ wantsC c ∧ wantsC c ≤ st.length := by
        simp only [Bool.or_eq_false_iff, decide_eq_false_iff_not] at hw; omega
      refine ⟨fun h7 => ?_, fun h7 => ⟨fun h11 => ?_, fun h11 => ?_⟩⟩
      · -- a leaf
        have hw0 : wantsC c = 0 := by rcases wants_op c hw2.1 with ⟨h, _⟩ | ⟨_, h, _⟩ | ⟨_, h⟩ <;> first | exact h | (have := of_decide_eq_true h7; omega)
        have hstep : kindStep vs ss c st = ((leafM c vs ss).1, (leafM c vs ss).2, st) := by simp only [kindStep, h7, cond_true]
        simp only [kindGo, hstep]
        show Tree.J _ _ _ _ _ (Tree.ite ((leafM c vs ss).2 == 0 && (leafM c vs ss).1 == 0) _ _)
        generalize (leafM c vs ss).1 = kd
        generalize (leafM c vs ss).2 = e
        refine ⟨fun h => ⟨fun _ => ⟨by simp only [h]; rfl, rfl⟩, fun h2 => Bool.noConfusion h2⟩, fun h => ⟨fun h2 => ⟨by simp only [h, cond_false, h2]; rfl, rfl⟩, fun h2 => ⟨room_int (by simp; omega), ?_⟩⟩⟩
        simp only [h, h2, cond_false]
        exact next kd st c (by omega) (by omega) hk' hrest
      · -- one operand
        have hw1 : wantsC c = 1 := by
          have g1 := of_decide_eq_false h7
          have g2 := of_decide_eq_true h11
          rcases wants_op c hw2.1 with ⟨_, h⟩ | ⟨h, _⟩ | ⟨_, h⟩ <;> first | exact h | omega
        obtain ⟨t, st', rfl⟩ : ∃ t st', st = t :: st' := by
          cases st with
          | nil => simp at hw2; omega
          | cons t st' => exact ⟨t, st', rfl⟩
        have hlen : (t :: st').reverse.length = st'.length + 1 := by simp
        have hl2 : (t :: st').length = st'.length + 1 := rfl
        have e1 : IntKind.wrap .i64 (((t :: st').reverse.length : Int) - 1) = (st'.length : Int) := by
          simp only [List.length_reverse, List.length_cons]; rw [wrapI (by omega) (by omega)]; omega
        have hstep : kindStep vs ss c (t :: st') = (madeM c.op t 0, 0, st') := by simp [kindStep, h7, h11]
        simp only [kindGo, hstep]
        rw [e1]
        simp only [Int.toNat_natCast]
        rw [get_last, take_last]
        refine ⟨⟨by omega, by omega⟩, by omega, ⟨by omega, by omega⟩, fun h => ⟨fun _ => ⟨?_, rfl⟩, fun h2 => Bool.noConfusion h2⟩, fun h => ⟨fun h2 => Bool.noConfusion h2, fun _ => ⟨room_int (by simp; omega), ?_⟩⟩⟩
        · have h' : ((0 : Int) == 0 && madeM c.op t 0 == 0) = true := h
          simp only [h']; rfl
        · have h' : ((0 : Int) == 0 && madeM c.op t 0 == 0) = false := h
          simp only [h', cond_false]
          exact next (madeM c.op t 0) st' c (by omega) (by omega) hk' hrest
      · -- two operands
        have hw1 : wantsC c = 2 := by
          have g1 := of_decide_eq_false h7
          have g2 := of_decide_eq_false h11
          rcases wants_op c hw2.1 with ⟨_, h⟩ | ⟨_, h, _⟩ | ⟨h, _⟩ <;> first | exact h | omega
        obtain ⟨t, t2, st', rfl⟩ : ∃ t t2 st', st = t :: t2 :: st' := by
          cases st with
          | nil => simp at hw2; omega
          | cons t st' => cases st' with
            | nil => simp at hw2; omega
            | cons t2 st' => exact ⟨t, t2, st', rfl⟩
        have hlen : (t :: t2 :: st').reverse.length = st'.length + 2 := by simp
        have hl2 : (t :: t2 :: st').length = st'.length + 2 := rfl
        have hl3 : (t2 :: st').length = st'.length + 1 := rfl
        have e1 : IntKind.wrap .i64 (((t :: t2 :: st').reverse.length : Int) - 1) = ((t2 :: st').length : Int) := by
          simp only [List.length_reverse, List.length_cons]; rw [wrapI (by omega) (by omega)]; omega
        have e2 : IntKind.wrap .i64 (((t :: t2 :: st').reverse.length : Int) - 2) = (st'.length : Int) := by
          simp only [List.length_reverse, List.length_cons]; rw [wrapI (by omega) (by omega)]; omega
        have hstep : kindStep vs ss c (t :: t2 :: st') = (madeM c.op t2 t, 0, st') := by simp [kindStep, h7, h11]
        simp only [kindGo, hstep]
        rw [e1, e2]
        simp only [Int.toNat_natCast]
        rw [get_last, get_last2, take_last2]
        refine ⟨⟨by omega, by omega⟩, by omega, ⟨by omega, by omega⟩, by omega, ⟨by omega, by omega⟩, fun h => ⟨fun _ => ⟨?_, rfl⟩, fun h2 => Bool.noConfusion h2⟩, fun h => ⟨fun h2 => Bool.noConfusion h2, fun _ => ⟨room_int (by simp; omega), ?_⟩⟩⟩
        · have h' : ((0 : Int) == 0 && madeM c.op t2 t == 0) = true := h
          simp only [h']; rfl
        · have h' : ((0 : Int) == 0 && madeM c.op t2 t == 0) = false := h
          simp only [h', cond_false]
          exact next (madeM c.op t2 t) st' c (by omega) (by omega) hk' hrest
    · have hk' : k = l.length := by have := of_decide_eq_false hge; omega
      rw [hk', List.drop_length] at hright ⊢
      simp only [rightGo] at hright
      have hone : st.length = 1 := by have h1 : (st.length : Int) = 1 := (by simpa using hright); omega
      obtain ⟨t, rfl⟩ : ∃ t, st = [t] := List.length_eq_one_iff.1 hone
      exact ⟨by simp, by simp, rfl, rfl⟩
theorem kinds_spec (l : List Cell) (vs : List Var) (ss : List Str) : Does Tryz.prog 80 [.l .cell l, .l .var vs, .l .str ss] [] (intP (kindsM l vs ss)) [] := by
  refine Does.go (cfg := cfgOf) cfgOf_ok Tryz.func80 (by kernel_rfl) (by kernel_rfl) (t := (.ite (!rightM l) (.ret (.tup [.i (0 : Int), .i (1 : Int)]) []) (.stop [.code [1, 1, 1, 0, 1, 0, 0], .inLoop [1, 1, 1, 0, 1, 0, 0], .inBlock 0, .code [1, 1, 1, 1]] { n := 86, fr := [(1, .p (.lst .var vs)), (2, .p (.lst .str ss)), (6, .i (0 : Int)), (7, .i (0 : Int)), (8, .p (.v (Value.slice none 0 0))), (17, .p (.lst .cell l)), (18, .i (↑(List.length l) : Int)), (19, .i (0 : Int))], ck := [] }))) (by kernel_rfl) fun Γ => ?_
  refine ⟨fun h => ⟨by simp only [kindsM, h, cond_true]; rfl, rfl⟩, fun h => ?_⟩
  have h' : rightM l = true := by simpa using h
  have e : kindsM l vs ss = kindGo vs ss (l.drop 0) [] := by simp [kindsM, h']
  simp only [rightM, Bool.and_eq_true] at h'
  have h32 : l.length ≤ 32 := by have h1 := h'.1; simp at h1; omega
  rw [e]
  refine J.nilOwn 8 3 .int rfl rfl ?_
  exact of_loop l vs ss Γ h32 l.length 0 [] (by omega) (by omega) (by simp) (by simpa using h'.2)
def eOf : Nat × (List SX → List Chunk → Option (Option Prop × SV × List Chunk)) := (80, fun
  | [.c (.pd (.lst .cell l)), .c (.pd (.lst .var vs)), .c (.pd (.lst .str ss))], [] => some (none, intP (kindsM l vs ss), [])
  | _, _ => none)
theorem eOf_ok (vs : List SX) (ck : List Chunk) (p : Option Prop) (ret : SV) (ck' : List Chunk) (h : eOf.2 vs ck = some (p, ret, ck')) (hp : Holds p) : Does Tryz.prog eOf.1 vs ck ret ck' := by
  unfold eOf at h
  simp only at h
  split at h
  · rename_i l vs ss
    simp only [Option.some.injEq, Prod.mk.injEq] at h
    obtain ⟨rfl, rfl, rfl⟩ := h
    exact kinds_spec l vs ss
  · simp at h
end Go.Proofs.YtcpnicfkpkonkaaGreatDoor

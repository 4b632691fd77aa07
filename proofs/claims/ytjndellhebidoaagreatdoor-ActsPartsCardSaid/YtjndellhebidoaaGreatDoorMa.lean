/- Expressions read, as a plain relation: what the program's reader does. Conditions: none. -/
import Derived.Test.YtjndellhebidoaaGreatDoorKi
namespace Go.Proofs.YtjndellhebidoaaGreatDoor
open Go Go.Ev
set_option maxRecDepth 100000
structure Rd where
  pos : Int
  out : List Cell
  bad : Int
def Rd.wrong (r : Rd) (k : Int) : Rd := ⟨r.pos, r.out, if r.bad < 0 then k else r.bad⟩
def Rd.emit (r : Rd) (c : Cell) : Rd := ⟨r.pos, r.out ++ [c], r.bad⟩
def Rd.to (r : Rd) (k : Int) : Rd := ⟨k, r.out, r.bad⟩
def byteAt (s : Str) (k : Int) : Int := ((s.getD k.toNat 0).toNat : Int)
def signM (op : Int) : Str × Int :=
  bif op == 23 then ([124], 1) else bif op == 22 then ([38], 2) else bif op == 16 then ([61], 3) else bif op == 17 then ([33, 61], 3) else bif op == 18 then ([60], 3) else bif op == 19 then ([60, 61], 3)
  else bif op == 20 then ([62], 3) else bif op == 21 then ([62, 61], 3) else bif op == 11 then ([43], 4) else bif op == 12 then ([45], 4) else bif op == 13 then ([42], 5) else bif op == 14 then ([47], 5) else bif op == 15 then ([37], 5)
  else bif op == 7 then ([45], 6) else bif op == 8 then ([33], 6) else ([], 7)
def opsL : List Int := [17, 19, 21, 18, 20, 16, 23, 22, 11, 12, 13, 14, 15]
def operGo (rest : Str) (p : Int) : List Int → Int × Int
  | [] => (0, 0)
  | op :: l => bif (signM op).2 == p && hasP rest (signM op).1 then (op, strLen (signM op).1) else operGo rest p l
def operM (rest : Str) (p : Int) : Int × Int := operGo rest p opsL
def oneOp (a : UInt8) : Int := if a = 43 then 11 else if a = 45 then 12 else if a = 42 then 13 else if a = 47 then 14 else if a = 37 then 15 else if a = 61 then 16 else if a = 60 then 18 else if a = 62 then 20 else if a = 38 then 22 else if a = 124 then 23 else 0
def twoOp (a b : UInt8) : Int := if b = 61 then (if a = 33 then 17 else if a = 60 then 19 else if a = 62 then 21 else 0) else 0
def opAt1 (a : UInt8) : Int × Int := if oneOp a = 0 then (0, 0) else (oneOp a, 1)
def opAhead : Str → Int × Int
  | [] => (0, 0)
  | [a] => opAt1 a
  | a :: b :: _ => if twoOp a b = 0 then opAt1 a else (twoOp a b, 2)
def wordB (c : UInt8) : Bool := (decide ((c.toNat : Int) ≥ 97) && decide ((c.toNat : Int) ≤ 122)) || (decide ((c.toNat : Int) ≥ 48) && decide ((c.toNat : Int) ≤ 57)) || (c.toNat : Int) == 95
def wordM (s : Str) (k : Int) : Str := (s.drop k.toNat).takeWhile wordB
def trueS : Str := [116, 114, 117, 101]
def falseS : Str := [102, 97, 108, 115, 101]
def inS : Str := [105, 110]
def reS : Str := [114, 101]
def imS : Str := [105, 109]
def callB (s : Str) (k : Int) : Bool := decide (k + strLen (wordM s k) < strLen s) && byteAt s (k + strLen (wordM s k)) == 40
def closeR (s : Str) (r : Rd) : Rd := (if r.bad < 0 ∧ (r.pos = strLen s ∨ byteAt s r.pos ≠ 41) then r.wrong r.pos else r).to (r.pos + 1)
def numEnd (s : Str) (k : Int) : Int := if byteAt s k = 48 then k + 1 else k + strLen ((s.drop k.toNat).takeWhile isD)
def numImag (s : Str) (k : Int) : Bool := decide (numEnd s k < strLen s) && byteAt s (numEnd s k) == 105
def numText (s : Str) (k : Int) : Str := (s.take (numEnd s k).toNat).drop k.toNat
def numC (s : Str) (k : Int) : Cell := ⟨if numImag s k = true then 2 else 1, (numM (numText s k)).1, []⟩
def numberR (s : Str) (r : Rd) : Rd :=
  if (numM (numText s r.pos)).2 ≠ 0 ∨ wantsC (numC s r.pos) < 0 then r.wrong r.pos
  else (r.to (if numImag s r.pos = true then numEnd s r.pos + 1 else numEnd s r.pos)).emit (numC s r.pos)
def inR (s : Str) (r : Rd) : Rd :=
  if nameM (wordM s (r.pos + 3)) = false then (r.to (r.pos + 3)).wrong (r.pos + 3)
  else (closeR s (r.to (r.pos + 3 + strLen (wordM s (r.pos + 3))))).emit ⟨6, 0, wordM s (r.pos + 3)⟩
def leafR (s : Str) (r : Rd) : Rd :=
  if isD (s.getD r.pos.toNat 0) = true then numberR s r
  else if wordM s r.pos = trueS then (r.emit ⟨3, 0, []⟩).to (r.pos + 4)
  else if wordM s r.pos = falseS then (r.emit ⟨4, 0, []⟩).to (r.pos + 5)
  else if wordM s r.pos = inS ∧ callB s r.pos = true then inR s r
  else if nameM (wordM s r.pos) = true then (r.emit ⟨5, 0, wordM s r.pos⟩).to (r.pos + strLen (wordM s r.pos))
  else r.wrong r.pos
inductive Hd where
  | fin
  | pre (op : Int)
  | par
  | call (op : Int)
  | leaf
def headM (s : Str) (k : Int) : Hd :=
  if k = strLen s then .fin else if byteAt s k = 45 then .pre 7 else if byteAt s k = 33 then .pre 8
  else if isD (s.getD k.toNat 0) = true then .leaf else if byteAt s k = 40 then .par
  else if wordM s k = reS ∧ callB s k = true then .call 9 else if wordM s k = imS ∧ callB s k = true then .call 10 else .leaf
def atEnd (s : Str) (p : Int) (r : Rd) : Prop := ¬ (r.bad < 0 ∧ (operM (s.drop r.pos.toNat) p).1 ≠ 0)
inductive Task where
  | bin (p : Int)
  | loop (p : Int)
  | una
inductive Run (s : Str) : Task → Rd → Rd → Prop where
  | six {r q : Rd} : Run s .una r q → Run s (.bin 6) r q
  | bin {p : Int} {r q o : Rd} : 1 ≤ p → p ≤ 5 → Run s (.bin (p + 1)) r q → Run s (.loop p) q o → Run s (.bin p) r o
  | done {p : Int} {r : Rd} : atEnd s p r → Run s (.loop p) r r
  | more {p : Int} {r q o : Rd} : 1 ≤ p → p ≤ 5 → p ≠ 3 → ¬ atEnd s p r → Run s (.bin (p + 1)) (r.to (r.pos + (operM (s.drop r.pos.toNat) p).2)) q → Run s (.loop p) (q.emit ⟨(operM (s.drop r.pos.toNat) p).1, 0, []⟩) o → Run s (.loop p) r o
  | once {r q : Rd} : ¬ atEnd s 3 r → Run s (.bin 4) (r.to (r.pos + (operM (s.drop r.pos.toNat) 3).2)) q → Run s (.loop 3) r (q.emit ⟨(operM (s.drop r.pos.toNat) 3).1, 0, []⟩)
  | lost {r : Rd} : 0 ≤ r.bad ∨ headM s r.pos = .fin → Run s .una r (r.wrong r.pos)
  | sign {r q : Rd} {op : Int} : r.bad < 0 → headM s r.pos = .pre op → Run s .una (r.to (r.pos + 1)) q → Run s .una r (q.emit ⟨op, 0, []⟩)
  | leaf {r : Rd} : r.bad < 0 → headM s r.pos = .leaf → Run s .una r (leafR s r)
  | par {r q : Rd} : r.bad < 0 → headM s r.pos = .par → Run s (.bin 1) (r.to (r.pos + 1)) q → Run s .una r (closeR s q)
  | call {r q : Rd} {op : Int} : r.bad < 0 → headM s r.pos = .call op → Run s (.bin 1) (r.to (r.pos + 3)) q → Run s .una r ((closeR s q).emit ⟨op, 0, []⟩)
/-! ### signs -/
theorem hasP_one (a x : UInt8) : hasP [a] [x] = (a == x) := by simp [hasP, strLen]
theorem hasP_one2 (a x y : UInt8) : hasP [a] [x, y] = false := by simp [hasP, strLen]
theorem hasP_two (a b x : UInt8) (r : Str) : hasP (a :: b :: r) [x] = (a == x) := by
  have h : decide (strLen (a :: b :: r) ≥ strLen [x]) = true := decide_eq_true (by simp [strLen]; omega)
  rw [hasP, h]
  show ([a] == [x]) = _
  simp
theorem hasP_two2 (a b x y : UInt8) (r : Str) : hasP (a :: b :: r) [x, y] = (a == x && b == y) := by
  have h : decide (strLen (a :: b :: r) ≥ strLen [x, y]) = true := decide_eq_true (by simp [strLen]; omega)
  rw [hasP, h]
  show ([a, b] == [x, y]) = _
  simp
theorem oper_one (a : UInt8) (p : Int) (h1 : 1 ≤ p) (h5 : p ≤ 5) : operM [a] p = if (signM (opAhead [a]).1).2 = p then opAhead [a] else (0, 0) := by
  have hp : p = 1 ∨ p = 2 ∨ p = 3 ∨ p = 4 ∨ p = 5 := by omega
  by_cases e0 : a = 43
  · subst e0; rcases hp with rfl | rfl | rfl | rfl | rfl <;> rfl
  by_cases e1 : a = 45
  · subst e1; rcases hp with rfl | rfl | rfl | rfl | rfl <;> rfl
  by_cases e2 : a = 42
  · subst e2; rcases hp with rfl | rfl | rfl | rfl | rfl <;> rfl
  by_cases e3 : a = 47
  · subst e3; rcases hp with rfl | rfl | rfl | rfl | rfl <;> rfl
  by_cases e4 : a = 37
  · subst e4; rcases hp with rfl | rfl | rfl | rfl | rfl <;> rfl
  by_cases e5 : a = 61
  · subst e5; rcases hp with rfl | rfl | rfl | rfl | rfl <;> rfl
  by_cases e6 : a = 60
  · subst e6; rcases hp with rfl | rfl | rfl | rfl | rfl <;> rfl
  by_cases e7 : a = 62
  · subst e7; rcases hp with rfl | rfl | rfl | rfl | rfl <;> rfl
  by_cases e8 : a = 38
  · subst e8; rcases hp with rfl | rfl | rfl | rfl | rfl <;> rfl
  by_cases e9 : a = 124
  · subst e9; rcases hp with rfl | rfl | rfl | rfl | rfl <;> rfl
  have q : ∀ x : UInt8, ¬ a = x → (a == x) = false := fun x h => beq_eq_false_iff_ne.2 h
  have e : opAhead [a] = (0, 0) := by simp only [opAhead, opAt1, oneOp, e0, e1, e2, e3, e4, e5, e6, e7, e8, e9, if_false, if_true]
  rw [e]
  have hs : (signM ((0, 0) : Int × Int).1).2 ≠ p := by show (7 : Int) ≠ p; omega
  rw [if_neg hs]
  simp [operM, opsL, operGo, signM, hasP_one, hasP_one2, q _ e0, q _ e1, q _ e2, q _ e3, q _ e4, q _ e5, q _ e6, q _ e7, q _ e8, q _ e9]
theorem oper_same (a b : UInt8) (r : Str) (p : Int) (h : (b == 61) = false ∨ (a == 33) = false ∧ (a == 60) = false ∧ (a == 62) = false) : operM (a :: b :: r) p = operM [a] p ∧ opAhead (a :: b :: r) = opAhead [a] := by
  refine ⟨?_, ?_⟩
  · rcases h with h | ⟨h1, h2, h3⟩
    · simp [operM, opsL, operGo, signM, hasP_one, hasP_one2, hasP_two, hasP_two2, h]
    · simp [operM, opsL, operGo, signM, hasP_one, hasP_one2, hasP_two, hasP_two2, h1, h2, h3]
  · have e : twoOp a b = 0 := by
      unfold twoOp
      rcases h with h | ⟨h1, h2, h3⟩
      · rw [if_neg (by simpa using h)]
      · have g1 : ¬ a = 33 := by simpa using h1
        have g2 : ¬ a = 60 := by simpa using h2
        have g3 : ¬ a = 62 := by simpa using h3
        simp [g1, g2, g3]
    simp only [opAhead, e, if_true]
theorem oper_two (a : UInt8) (r : Str) (p : Int) (h1 : 1 ≤ p) (h5 : p ≤ 5) (ha : a = 33 ∨ a = 60 ∨ a = 62) : operM (a :: 61 :: r) p = if (signM (opAhead (a :: 61 :: r)).1).2 = p then opAhead (a :: 61 :: r) else (0, 0) := by
  have hp : p = 1 ∨ p = 2 ∨ p = 3 ∨ p = 4 ∨ p = 5 := by omega
  rcases ha with rfl | rfl | rfl <;> rcases hp with rfl | rfl | rfl | rfl | rfl <;> simp [operM, opsL, operGo, signM, hasP_two, hasP_two2, opAhead, twoOp, strLen]
theorem oper_ahead (rest : Str) (p : Int) (h1 : 1 ≤ p) (h5 : p ≤ 5) : operM rest p = if (signM (opAhead rest).1).2 = p then opAhead rest else (0, 0) := by
  match rest with
  | [] =>
    have hp : p = 1 ∨ p = 2 ∨ p = 3 ∨ p = 4 ∨ p = 5 := by omega
    rcases hp with rfl | rfl | rfl | rfl | rfl <;> rfl
  | [a] => exact oper_one a p h1 h5
  | a :: b :: r =>
    by_cases h : (b == 61) = false ∨ (a == 33) = false ∧ (a == 60) = false ∧ (a == 62) = false
    · obtain ⟨e1, e2⟩ := oper_same a b r p h
      rw [e1, e2]; exact oper_one a p h1 h5
    · simp only [not_or, Bool.not_eq_false, beq_iff_eq] at h
      obtain ⟨rfl, h⟩ := h
      refine oper_two a r p h1 h5 ?_
      by_cases h3 : a = 33
      · exact .inl h3
      · by_cases h4 : a = 60
        · exact .inr (.inl h4)
        · by_cases h6 : a = 62
          · exact .inr (.inr h6)
          · exact absurd ⟨beq_eq_false_iff_ne.2 h3, beq_eq_false_iff_ne.2 h4, beq_eq_false_iff_ne.2 h6⟩ h
theorem ahead_facts (rest : Str) : opAhead rest = (0, 0) ∨ (11 ≤ (opAhead rest).1 ∧ (opAhead rest).1 ≤ 23 ∧ 1 ≤ (opAhead rest).2 ∧ (opAhead rest).2 ≤ strLen rest ∧ (opAhead rest).2 ≤ 2 ∧ 1 ≤ (signM (opAhead rest).1).2 ∧ (signM (opAhead rest).1).2 ≤ 5) := by
  have key : ∀ a : UInt8, opAt1 a = (0, 0) ∨ (11 ≤ (opAt1 a).1 ∧ (opAt1 a).1 ≤ 23 ∧ (opAt1 a).2 = 1 ∧ 1 ≤ (signM (opAt1 a).1).2 ∧ (signM (opAt1 a).1).2 ≤ 5) := by
    intro a
    unfold opAt1 oneOp
    repeat' split
    all_goals first | (left; rfl) | (right; decide) | skip
    all_goals simp at *
  match rest with
  | [] => exact .inl rfl
  | [a] =>
    rcases key a with h | ⟨h1, h2, h3, h4, h5⟩
    · exact .inl h
    · right
      have e : (opAhead [a]).2 = 1 := h3
      have hl : strLen [a] = 1 := rfl
      refine ⟨h1, h2, ?_, ?_, ?_, h4, h5⟩ <;> omega
  | a :: b :: r =>
    have hl : strLen (a :: b :: r) = (r.length : Int) + 2 := by simp [strLen]; omega
    by_cases h2 : twoOp a b = 0
    · have e : opAhead (a :: b :: r) = opAt1 a := by simp only [opAhead, h2, if_true]
      rw [e, hl]
      rcases key a with h | ⟨h1, h2, h3, h4, h5⟩
      · exact .inl h
      · right; exact ⟨h1, h2, by omega, by omega, by omega, h4, h5⟩
    · have e : opAhead (a :: b :: r) = (twoOp a b, 2) := by simp only [opAhead, h2, if_false]
      rw [e, hl]
      right
      have ht : twoOp a b = 17 ∨ twoOp a b = 19 ∨ twoOp a b = 21 := by
        unfold twoOp at h2 ⊢
        repeat' (split at h2)
        all_goals first | (exact absurd rfl h2) | skip
        · rename_i g1 g2; rw [if_pos g1, if_pos g2]; exact .inl rfl
        · rename_i g1 g2 g3; rw [if_pos g1, if_neg g2, if_pos g3]; exact .inr (.inl rfl)
        · rename_i g1 g2 g3 g4; rw [if_pos g1, if_neg g2, if_neg g3, if_pos g4]; exact .inr (.inr rfl)
      rcases ht with e | e | e <;> rw [e] <;> exact ⟨by decide, by decide, by decide, by show (2 : Int) ≤ _; omega, by decide, by decide, by decide⟩
end Go.Proofs.YtjndellhebidoaaGreatDoor

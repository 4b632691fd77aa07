/- Contracts: the document's number at a text's beginning. Conditions: texts of at most 2^47 bytes. -/
import Derived.Test.YtndkapkejmkphaaDoorRg
namespace Go.Proofs.YtndkapkejmkphaaDoor
open Go Go.Ev Go.RowKit
set_option maxRecDepth 100000
theorem wGo_stop {s : Str} {a n : Nat} (h : (decide ((a : Int) < strLen s) && decide (((s.getD a 0).toNat : Int) ≥ 48) && decide (((s.getD a 0).toNat : Int) ≤ 57) && decide ((n : Int) ≤ 1048576)) = false) (ha : a ≤ s.length) : wGo n (s.drop a) = (n, 0) := by
  have hL : strLen s = (s.length : Int) := rfl
  rcases Nat.lt_or_ge a s.length with h1 | h1
  · rw [drop_byte h1, wGo, if_neg]
    rintro ⟨h2, h3⟩
    have h4 := isD_nat h2
    rw [decide_eq_true (by omega), decide_eq_true (by omega), decide_eq_true (by omega), decide_eq_true (by omega)] at h
    cases h
  · rw [List.drop_eq_nil_of_le h1]; rfl

theorem wh_one (s : Str) (f : Nat) (ng : Bool) (Γ : Ctx) (hs : s.length ≤ 140737488355328) (hf : f ≤ s.length) (a n m : Nat) (ha : a ≤ s.length) (hm : f + m = a) (hn : n ≤ 10485769)
    (nx : a < s.length → 10 * n + ((s.getD a 0).toNat - 48) ≤ 10485769 → J Tryd.prog 14 (bodyOf Tryd.f14) Γ (Eq2 (intP (wFin s f ng ((wGo (10 * n + ((s.getD a 0).toNat - 48)) (s.drop (a + 1))).1, m + 1 + (wGo (10 * n + ((s.getD a 0).toNat - 48)) (s.drop (a + 1))).2))) []) [.code [1, 1, 1, 1, 1, 1, 0, 0, 0], .inLoop [1, 1, 1, 1, 1, 1, 0, 0, 0], .inBlock 0, .code [1, 1, 1, 1, 1, 1, 1]] ({ n := 71, fr := [(0, .p (.str s)), (2, .i (0 : Int)), (3, .i (0 : Int)), (4, .i (((a + 1 : Nat) : Int))), (5, .p (.bool (ng))), (6, .i (((10 * n + ((s.getD a 0).toNat - 48) : Nat) : Int))), (7, .i ((f : Int)))], ck := [] })) :
    J Tryd.prog 14 (bodyOf Tryd.f14) Γ (Eq2 (intP (wFin s f ng ((wGo n (s.drop a)).1, m + (wGo n (s.drop a)).2))) []) [.code [1, 1, 1, 1, 1, 1, 0, 0, 0], .inLoop [1, 1, 1, 1, 1, 1, 0, 0, 0], .inBlock 0, .code [1, 1, 1, 1, 1, 1, 1]] ({ n := 71, fr := [(0, .p (.str s)), (2, .i (0 : Int)), (3, .i (0 : Int)), (4, .i ((a : Int))), (5, .p (.bool (ng))), (6, .i ((n : Int))), (7, .i ((f : Int)))], ck := [] }) := by
  have hL : strLen s = (s.length : Int) := rfl
  refine J.go (cfg := cfg0) cfg0_ok Tryd.func14 1000 (t := (.need (decide ((↑a : Int) < strLen s) = true → (0 : Int) ≤ (↑a : Int) ∧ (↑a : Int) < strLen s) (.need ((decide ((↑a : Int) < strLen s) && decide ((↑(UInt8.toNat (List.getD s a (0 : UInt8))) : Int) ≥ (48 : Int))) = true → (0 : Int) ≤ (↑a : Int) ∧ (↑a : Int) < strLen s) (.ite (decide ((↑a : Int) < strLen s) && decide ((↑(UInt8.toNat (List.getD s a (0 : UInt8))) : Int) ≥ (48 : Int)) && decide ((↑(UInt8.toNat (List.getD s a (0 : UInt8))) : Int) ≤ (57 : Int)) && decide ((↑n : Int) ≤ (1048576 : Int))) (.need ((0 : Int) ≤ (↑a : Int) ∧ (↑a : Int) < strLen s) (.stop [.code [1, 1, 1, 1, 1, 1, 0, 0, 0], .inLoop [1, 1, 1, 1, 1, 1, 0, 0, 0], .inBlock 0, .code [1, 1, 1, 1, 1, 1, 1]] { n := 71, fr := [(0, .p (.str s)), (2, .i (0 : Int)), (3, .i (0 : Int)), (4, .i (IntKind.wrap .i64 ((↑a : Int) + (1 : Int)))), (5, .p (.bool ng)), (6, .i (IntKind.wrap .i64 (IntKind.wrap .i64 ((10 : Int) * (↑n : Int)) + IntKind.wrap .i64 (IntKind.wrap .u8 ((↑(UInt8.toNat (List.getD s a (0 : UInt8))) : Int) - (48 : Int)))))), (7, .i (↑f : Int))], ck := [] })) (.need (((↑a : Int) == (↑f : Int)) = false → (0 : Int) ≤ (↑f : Int) ∧ (↑f : Int) < strLen s) (.ite ((↑a : Int) == (↑f : Int) || (↑(UInt8.toNat (List.getD s f (0 : UInt8))) : Int) == (48 : Int) && (decide ((↑a : Int) > IntKind.wrap .i64 ((↑f : Int) + (1 : Int))) || ng)) (.ret (.tup [.i (0 : Int), .i (0 : Int)]) []) (.ite ng (.ret (.tup [.i (IntKind.wrap .i64 ((0 : Int) - (↑n : Int))), .i (↑a : Int)]) []) (.ret (.tup [.i (↑n : Int), .i (↑a : Int)]) [])))))))) (by kernel_rfl) ?_
  refine ⟨fun h => ⟨by omega, of_decide_eq_true h⟩, fun h => ?_, fun h => ?_, fun h => ?_⟩
  · rw [Bool.and_eq_true] at h; exact ⟨by omega, of_decide_eq_true h.1⟩
  · simp only [Bool.and_eq_true, decide_eq_true_eq] at h
    obtain ⟨⟨⟨h1, h2⟩, h3⟩, h4⟩ := h
    have hlt : a < s.length := by omega
    have hd : isD (s.getD a 0) = true := isD_of (by omega) (by omega)
    have e8 : IntKind.wrap .u8 (((s.getD a 0).toNat : Int) - 48) = (((s.getD a 0).toNat - 48 : Nat) : Int) := by
      show (((s.getD a 0).toNat : Int) - 48) % 256 = _; omega
    have e1 : IntKind.wrap .i64 (10 * (n : Int)) = ((10 * n : Nat) : Int) := by rw [wrapI (by omega) (by omega)]; omega
    have e2 : IntKind.wrap .i64 (((s.getD a 0).toNat - 48 : Nat) : Int) = (((s.getD a 0).toNat - 48 : Nat) : Int) := wrapI (by omega) (by omega)
    have e3 : IntKind.wrap .i64 (((10 * n : Nat) : Int) + (((s.getD a 0).toNat - 48 : Nat) : Int)) = ((10 * n + ((s.getD a 0).toNat - 48) : Nat) : Int) := by rw [wrapI (by omega) (by omega)]; omega
    have ed : wGo n (s.drop a) = ((wGo (10 * n + ((s.getD a 0).toNat - 48)) (s.drop (a + 1))).1, (wGo (10 * n + ((s.getD a 0).toNat - 48)) (s.drop (a + 1))).2 + 1) := by
      rw [drop_byte hlt, wGo, if_pos ⟨hd, by omega⟩]
    refine ⟨⟨by omega, h1⟩, ?_⟩
    rw [e8, e1, e2, e3, wrapK (by omega), ed]
    have h9 := nx hlt (by omega)
    rw [show m + 1 + (wGo (10 * n + ((s.getD a 0).toNat - 48)) (s.drop (a + 1))).2 = m + ((wGo (10 * n + ((s.getD a 0).toNat - 48)) (s.drop (a + 1))).2 + 1) by omega] at h9
    exact h9
  · rw [wGo_stop h ha]
    have e48 : (((s.getD f 0).toNat : Int) == 48) = decide ((s.getD f 0).toNat = 48) := by
      rw [Bool.eq_iff_iff]; simp; omega
    have eaf : ((a : Int) == (f : Int)) = decide (m = 0) := by
      rw [Bool.eq_iff_iff]; simp; omega
    have ew : IntKind.wrap IntKind.i64 ((f : Int) + 1) = (f : Int) + 1 := wrapI (by omega) (by omega)
    refine ⟨fun h2 => ?_, fun h2 => ?_, fun h2 => ⟨fun h3 => ?_, fun h3 => ?_⟩⟩
    · rw [eaf] at h2
      have := of_decide_eq_false h2
      exact ⟨by omega, by omega⟩
    all_goals
      rw [e48, eaf, ew] at h2
    · refine ⟨?_, rfl⟩
      have : m = 0 ∨ ((s.getD f 0).toNat = 48 ∧ (1 < m ∨ ng = true)) := by
        simp only [Bool.or_eq_true, Bool.and_eq_true, decide_eq_true_eq] at h2
        rcases h2 with h2 | ⟨h2, h3 | h3⟩
        · exact .inl h2
        · exact .inr ⟨h2, .inl (by omega)⟩
        · exact .inr ⟨h2, .inr h3⟩
      unfold wFin
      rw [if_pos (by simpa using this)]; rfl
    all_goals
      have hc : ¬ (m = 0 ∨ ((s.getD f 0).toNat = 48 ∧ (1 < m ∨ ng = true))) := by
        rintro (x | ⟨x, y⟩)
        · rw [decide_eq_true x] at h2; cases h2
        · rw [decide_eq_true x] at h2
          rcases y with y | y
          · rw [decide_eq_true (show (a : Int) > (f : Int) + 1 by omega)] at h2; simp at h2
          · rw [y] at h2; simp at h2
      unfold wFin
      rw [if_neg (by simpa using hc)]
    · refine ⟨?_, rfl⟩
      rw [if_pos h3, wrapI (by omega) (by omega)]
      show SV.tup [_, _] = SV.tup [_, _]
      rw [show (0 : Int) - (n : Int) = -(n : Int) by omega, show (a : Int) = ((f + m : Nat) : Int) by omega]; rfl
    · refine ⟨?_, rfl⟩
      rw [if_neg (by rw [h3]; simp)]
      show SV.tup [_, _] = SV.tup [_, _]
      rw [show (a : Int) = ((f + m : Nat) : Int) by omega]; rfl
theorem wh_loop (s : Str) (f : Nat) (ng : Bool) (Γ : Ctx) (hs : s.length ≤ 140737488355328) (hf : f ≤ s.length) : ∀ (k a n m : Nat), s.length - a ≤ k → a ≤ s.length → f + m = a → n ≤ 10485769 →
    J Tryd.prog 14 (bodyOf Tryd.f14) Γ (Eq2 (intP (wFin s f ng ((wGo n (s.drop a)).1, m + (wGo n (s.drop a)).2))) []) [.code [1, 1, 1, 1, 1, 1, 0, 0, 0], .inLoop [1, 1, 1, 1, 1, 1, 0, 0, 0], .inBlock 0, .code [1, 1, 1, 1, 1, 1, 1]] ({ n := 71, fr := [(0, .p (.str s)), (2, .i (0 : Int)), (3, .i (0 : Int)), (4, .i ((a : Int))), (5, .p (.bool (ng))), (6, .i ((n : Int))), (7, .i ((f : Int)))], ck := [] }) := by
  intro k
  induction k with
  | zero => intro a n m hk ha hm hn; exact wh_one s f ng Γ hs hf a n m ha hm hn (fun h => by omega)
  | succ k ih => intro a n m hk ha hm hn; exact wh_one s f ng Γ hs hf a n m ha hm hn (fun h h2 => ih (a + 1) _ (m + 1) (by omega) (by omega) (by omega) h2)
theorem wholeR_spec (s : Str) (hs : s.length ≤ 140737488355328) : Does Tryd.prog 14 [.c (.pd (.str s))] [] (intP (wholeM s)) [] := by
  have hL : strLen s = (s.length : Int) := rfl
  refine Does.go (cfg := cfg0) cfg0_ok Tryd.func14 (by kernel_rfl) (by kernel_rfl) (t := (.need (decide (strLen s > (0 : Int)) = true → (0 : Int) ≤ (0 : Int) ∧ (0 : Int) < strLen s) (.ite (decide (strLen s > (0 : Int)) && (↑(UInt8.toNat (List.getD s 0 (0 : UInt8))) : Int) == (45 : Int)) (.stop [.code [1, 1, 1, 1, 1, 1, 0, 0, 0], .inLoop [1, 1, 1, 1, 1, 1, 0, 0, 0], .inBlock 0, .code [1, 1, 1, 1, 1, 1, 1]] { n := 71, fr := [(0, .p (.str s)), (2, .i (0 : Int)), (3, .i (0 : Int)), (4, .i (1 : Int)), (5, .p (.bool (decide (strLen s > (0 : Int)) && (↑(UInt8.toNat (List.getD s 0 (0 : UInt8))) : Int) == (45 : Int)))), (6, .i (0 : Int)), (7, .i (1 : Int))], ck := [] }) (.stop [.code [1, 1, 1, 1, 1, 1, 0, 0, 0], .inLoop [1, 1, 1, 1, 1, 1, 0, 0, 0], .inBlock 0, .code [1, 1, 1, 1, 1, 1, 1]] { n := 71, fr := [(0, .p (.str s)), (2, .i (0 : Int)), (3, .i (0 : Int)), (4, .i (0 : Int)), (5, .p (.bool (decide (strLen s > (0 : Int)) && (↑(UInt8.toNat (List.getD s 0 (0 : UInt8))) : Int) == (45 : Int)))), (6, .i (0 : Int)), (7, .i (0 : Int))], ck := [] })))) (by kernel_rfl) fun Γ => ?_
  have hg : 0 < s.length → (((s.getD 0 0).toNat : Int) == 45) = hasP s [45] := fun h => by
    cases s with
    | nil => exact absurd h (by decide)
    | cons c r =>
      by_cases hc : c = 45
      · subst hc; rw [(cut_minus r).2]; rfl
      · rw [(cut_other r hc).2]
        rw [beq_eq_false_iff_ne]
        intro e
        have : c.toNat = (45 : UInt8).toNat := by
          have : ((c :: r).getD 0 0).toNat = c.toNat := rfl
          have : (45 : UInt8).toNat = 45 := rfl
          omega
        exact hc (UInt8.toNat_inj.1 this)
  refine ⟨fun h => ⟨by omega, of_decide_eq_true h⟩, fun h => ?_, fun h => ?_⟩
  · have h1 : 0 < s.length := by
      rw [Bool.and_eq_true] at h; have := of_decide_eq_true h.1; omega
    rw [Bool.and_eq_true] at h
    have hp : hasP s [45] = true := by rw [← hg h1]; exact h.2
    have e : (decide (strLen s > 0) && (((s.getD 0 0).toNat : Int) == 45)) = true := by rw [Bool.and_eq_true]; exact h
    rw [e, wholeM, if_pos hp]
    have := wh_loop s 1 true Γ hs (by omega) s.length 1 0 0 (by omega) (by omega) rfl (by omega)
    rw [Nat.zero_add] at this
    exact this
  · have hp : ¬ hasP s [45] = true := fun x => by
      have h1 : 0 < s.length := by cases s with | nil => cases x | cons _ _ => simp
      rw [hg h1, x, decide_eq_true (by omega)] at h; cases h
    rw [h, wholeM, if_neg hp]
    have := wh_loop s 0 false Γ hs (by omega) s.length 0 0 0 (by omega) (by omega) rfl (by omega)
    rw [Nat.zero_add] at this
    exact this
end Go.Proofs.YtndkapkejmkphaaDoor

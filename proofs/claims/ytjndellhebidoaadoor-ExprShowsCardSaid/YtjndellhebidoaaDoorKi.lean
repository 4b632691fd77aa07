/- Numbers read: the program's, the document's. Conditions: texts of at most 2^48 bytes. -/
import Derived.Test.YtjndellhebidoaaDoorKh
namespace Go.Proofs.YtjndellhebidoaaDoor
open Go Go.Ev
set_option maxRecDepth 100000
/-! ### plain -/
def isD (c : UInt8) : Bool := decide (48 ≤ (c.toNat : Int)) && decide ((c.toNat : Int) ≤ 57)
def valD : Nat → List UInt8 → Nat
  | a, [] => a
  | a, c :: r => valD (10 * a + (c.toNat - 48)) r
def formBad (s : Str) : Bool := cutP s [45] == [] || !(cutP s [45]).all isD || (((cutP s [45]).getD 0 0).toNat : Int) == 48 && (decide (strLen (cutP s [45]) > 1) || hasP s [45])
def numM (s : Str) : Int × Int := if formBad s = true then (0, 1) else if 1099511627776 < valD 0 (cutP s [45]) then (0, 5) else (if hasP s [45] = true then -(valD 0 (cutP s [45]) : Int) else (valD 0 (cutP s [45]) : Int), 0)
theorem isD_set (c : UInt8) : digitsS.contains c = isD c := by
  rw [Bool.eq_iff_iff]
  simp only [digitsS, isD, List.contains_eq_mem, List.mem_cons, List.not_mem_nil, or_false, decide_eq_true_eq, Bool.and_eq_true]
  constructor
  · intro h
    rcases h with rfl | rfl | rfl | rfl | rfl | rfl | rfl | rfl | rfl | rfl <;> decide
  · intro h
    have hn : c.toNat = 48 ∨ c.toNat = 49 ∨ c.toNat = 50 ∨ c.toNat = 51 ∨ c.toNat = 52 ∨ c.toNat = 53 ∨ c.toNat = 54 ∨ c.toNat = 55 ∨ c.toNat = 56 ∨ c.toNat = 57 := by omega
    have key : ∀ d : UInt8, c.toNat = d.toNat → c = d := fun d h => UInt8.toNat_inj.1 h
    rcases hn with h | h | h | h | h | h | h | h | h | h
    · exact .inl (key 48 h)
    · exact .inr (.inl (key 49 h))
    · exact .inr (.inr (.inl (key 50 h)))
    · exact .inr (.inr (.inr (.inl (key 51 h))))
    · exact .inr (.inr (.inr (.inr (.inl (key 52 h)))))
    · exact .inr (.inr (.inr (.inr (.inr (.inl (key 53 h))))))
    · exact .inr (.inr (.inr (.inr (.inr (.inr (.inl (key 54 h)))))))
    · exact .inr (.inr (.inr (.inr (.inr (.inr (.inr (.inl (key 55 h))))))))
    · exact .inr (.inr (.inr (.inr (.inr (.inr (.inr (.inr (.inl (key 56 h)))))))))
    · exact .inr (.inr (.inr (.inr (.inr (.inr (.inr (.inr (.inr (key 57 h)))))))))
theorem dropWhile_nil {p : UInt8 → Bool} : ∀ {l : List UInt8}, l.dropWhile p = [] ↔ ∀ x ∈ l, p x = true
  | [] => by simp
  | c :: r => by
    rw [List.dropWhile_cons]
    by_cases h : p c = true
    · rw [if_pos h, dropWhile_nil]; simp [h]
    · rw [if_neg h]; simp [h]
theorem dropWhile_head {p : UInt8 → Bool} {a : UInt8} {r : List UInt8} : ∀ {l : List UInt8}, l.dropWhile p = a :: r → p a = false
  | [], h => by simp at h
  | c :: l, h => by
    rw [List.dropWhile_cons] at h
    by_cases hc : p c = true
    · rw [if_pos hc] at h; exact dropWhile_head h
    · rw [if_neg hc] at h
      simp only [List.cons.injEq] at h
      rw [← h.1]; simpa using hc
theorem trim_nil (l : Str) : (trimM l == []) = l.all isD := by
  have hp : (fun c => digitsS.contains c) = isD := funext isD_set
  have e : trimM l = ((l.reverse.dropWhile isD).reverse).dropWhile isD := by
    show ((l.reverse.dropWhile (digitsS.contains ·)).reverse).dropWhile (digitsS.contains ·) = _
    rw [hp]
  rw [e, Bool.eq_iff_iff, beq_iff_eq, List.all_eq_true]
  constructor
  · intro h
    have h1 := dropWhile_nil.1 h
    have h2 : l.reverse.dropWhile isD = [] := by
      cases hx : l.reverse.dropWhile isD with
      | nil => rfl
      | cons a r =>
        exfalso
        have h3 := h1 a (by rw [hx]; simp)
        have h4 := dropWhile_head hx
        rw [h3] at h4; cases h4
    intro x hx
    exact dropWhile_nil.1 h2 x (by simpa using hx)
  · intro h
    have h2 : l.reverse.dropWhile isD = [] := dropWhile_nil.2 fun x hx => h x (by simpa using hx)
    rw [h2]; rfl
theorem valD_ge : ∀ (l : List UInt8) (a : Nat), a ≤ valD a l
  | [], a => Nat.le_refl _
  | c :: r, a => by
    have h1 := valD_ge r (10 * a + (c.toNat - 48))
    have h2 : a ≤ 10 * a + (c.toNat - 48) := by omega
    exact Nat.le_trans h2 h1
theorem parseM (M : Nat) (hM : M = 18446744073709551615) : ∀ (l : List UInt8) (a : Nat), l.all isD = true → a ≤ M → Lib.parseUintM M a l = if valD a l ≤ M then .ok (valD a l) else .range
  | [], a, _, h => by
    have e : valD a [] = a := rfl
    rw [e, if_pos h]; rfl
  | c :: r, a, h, ha => by
    simp only [List.all_cons, Bool.and_eq_true] at h
    have hd : 48 ≤ c.toNat ∧ c.toNat ≤ 57 := by
      have := h.1
      simp only [isD, Bool.and_eq_true, decide_eq_true_eq] at this
      omega
    have hge := valD_ge r (10 * a + (c.toNat - 48))
    have hc : a * 10 + (c.toNat - 48) = 10 * a + (c.toNat - 48) := by omega
    have hv : valD a (c :: r) = valD (10 * a + (c.toNat - 48)) r := rfl
    have hu : Lib.parseUintM M a (c :: r) = if 48 ≤ c.toNat ∧ c.toNat ≤ 57 then (if 1844674407370955162 ≤ a then .range else if M < a * 10 + (c.toNat - 48) then .range else Lib.parseUintM M (a * 10 + (c.toNat - 48)) r) else .syntax := rfl
    rw [hu, if_pos hd, hv, hc]
    generalize 10 * a + (c.toNat - 48) = b at *
    by_cases h1 : 1844674407370955162 ≤ a
    · rw [if_pos h1, if_neg (by omega)]
    · rw [if_neg h1]
      by_cases h2 : M < b
      · rw [if_pos h2, if_neg (by omega)]
      · rw [if_neg h2]
        exact parseM M hM r b h.2 (by omega)
theorem cut_minus (r : Str) : cutP (45 :: r) [45] = r ∧ hasP (45 :: r) [45] = true := by
  have h : hasP (45 :: r) [45] = true := by simp [hasP, strLen]; omega
  exact ⟨by rw [cutP, h]; rfl, h⟩
theorem cut_other {c : UInt8} (r : Str) (h : c ≠ 45) : cutP (c :: r) [45] = c :: r ∧ hasP (c :: r) [45] = false := by
  have h' : hasP (c :: r) [45] = false := by simp [hasP, strLen, h]
  exact ⟨by rw [cutP, h']; rfl, h'⟩
theorem cut_nil : cutP [] [45] = [] ∧ hasP [] [45] = false := by decide
/-- What the library's reading gives of a right form. -/
theorem parsed_of {s : Str} (h : formBad s = false) : (parsedOk s = true → parsedM s = if hasP s [45] = true then -(valD 0 (cutP s [45]) : Int) else (valD 0 (cutP s [45]) : Int)) ∧ (parsedOk s = false → 9223372036854775808 ≤ valD 0 (cutP s [45])) := by
  simp only [formBad, Bool.or_eq_false_iff, Bool.not_eq_false'] at h
  obtain ⟨⟨hne, hall⟩, _⟩ := h
  cases s with
  | nil => rw [cut_nil.1] at hne; simp at hne
  | cons c r =>
    by_cases hc : c = 45
    · subst hc
      rw [(cut_minus r).1] at hne hall ⊢
      rw [(cut_minus r).2]
      have hr : r ≠ [] := by simpa using hne
      have hu : Lib.parseUintB 64 r = if valD 0 r ≤ 18446744073709551615 then .ok (valD 0 r) else .range := by
        rw [Lib.parseUintB, if_neg hr]; exact parseM _ rfl r 0 hall (Nat.zero_le _)
      have hp : Lib.parseIntB 64 (45 :: r) = if valD 0 r ≤ 18446744073709551615 then (if 9223372036854775808 < valD 0 r then .range else .ok (-(valD 0 r : Int))) else .range := by
        simp only [Lib.parseIntB]
        have e1 : ((45 : UInt8).toNat = 43 ∨ (45 : UInt8).toNat = 45) := .inr rfl
        rw [if_pos e1, hu]
        by_cases hv : valD 0 r ≤ 18446744073709551615
        · rw [if_pos hv, if_pos hv]; simp
        · rw [if_neg hv, if_neg hv]
      unfold parsedOk parsedM
      rw [hp]
      by_cases hv : valD 0 r ≤ 18446744073709551615
      · rw [if_pos hv]
        by_cases h2 : 9223372036854775808 < valD 0 r
        · rw [if_pos h2]; exact ⟨fun h => absurd h (by simp), fun _ => by omega⟩
        · rw [if_neg h2]; exact ⟨fun _ => by simp, fun h => absurd h (by simp)⟩
      · rw [if_neg hv]; exact ⟨fun h => absurd h (by simp), fun _ => by omega⟩
    · rw [(cut_other r hc).1] at hne hall ⊢
      rw [(cut_other r hc).2]
      have hdig : 48 ≤ c.toNat := by
        have := hall
        simp only [List.all_cons, Bool.and_eq_true, isD, decide_eq_true_eq] at this; omega
      have hu : Lib.parseUintB 64 (c :: r) = if valD 0 (c :: r) ≤ 18446744073709551615 then .ok (valD 0 (c :: r)) else .range := by
        rw [Lib.parseUintB, if_neg (by simp)]; exact parseM _ rfl (c :: r) 0 hall (Nat.zero_le _)
      have hp : Lib.parseIntB 64 (c :: r) = if valD 0 (c :: r) ≤ 18446744073709551615 then (if 9223372036854775808 ≤ valD 0 (c :: r) then .range else .ok (valD 0 (c :: r) : Int)) else .range := by
        simp only [Lib.parseIntB]
        have e1 : ¬ (c.toNat = 43 ∨ c.toNat = 45) := by omega
        have e2 : ¬ c.toNat = 45 := by omega
        rw [if_neg e1, hu]
        by_cases hv : valD 0 (c :: r) ≤ 18446744073709551615
        · rw [if_pos hv, if_pos hv]; simp [e2]
        · rw [if_neg hv, if_neg hv]
      unfold parsedOk parsedM
      rw [hp]
      by_cases hv : valD 0 (c :: r) ≤ 18446744073709551615
      · rw [if_pos hv]
        by_cases h2 : 9223372036854775808 ≤ valD 0 (c :: r)
        · rw [if_pos h2]; exact ⟨fun h => absurd h (by simp), fun _ => by omega⟩
        · rw [if_neg h2]; exact ⟨fun _ => by simp, fun h => absurd h (by simp)⟩
      · rw [if_neg hv]; exact ⟨fun h => absurd h (by simp), fun _ => by omega⟩
/-! ### the program's -/
theorem number_spec (s : Str) (hs : s.length ≤ 281474976710656) : Does Tryd.prog 58 [.s s] [] (intP (numM s)) [] := by
  have hcl : (cutP s [45]).length ≤ s.length := by
    unfold cutP
    cases hasP s [45]
    · exact Nat.le_refl _
    · simp only [cond_true, List.length_drop]; omega
  have hL : strLen (cutP s [45]) = ((cutP s [45]).length : Int) := rfl
  have hpos : (cutP s [45] == []) = false → 0 < (cutP s [45]).length := fun h => List.length_pos_iff.2 (by simpa using h)
  cases hok : parsedOk s
  · refine Does.go (cfg := cfgNb0) cfgNb0_ok Tryd.func58 (by kernel_rfl) (by kernel_rfl) (t := (Tree.need ((cutP s [(45 : UInt8)] == []) = false → List.length (cutP s [(45 : UInt8)]) ≤ (9223372036854775807 : Nat)) (Tree.need ((cutP s [(45 : UInt8)] == [] || !trimM (cutP s [(45 : UInt8)]) == []) = false → (0 : Int) ≤ (0 : Int) ∧ (0 : Int) < strLen (cutP s [(45 : UInt8)])) (Tree.ite (cutP s [(45 : UInt8)] == [] || !trimM (cutP s [(45 : UInt8)]) == [] || (↑(UInt8.toNat (List.getD (cutP s [(45 : UInt8)]) (0 : Nat) (0 : UInt8))) : Int) == (48 : Int) && (decide (strLen (cutP s [(45 : UInt8)]) > (1 : Int)) || hasP s [(45 : UInt8)])) (Tree.ret (SV.tup [SX.c (SC.pd (PD.int IntKind.i64 (0 : Int))), SX.c (SC.pd (PD.int IntKind.i64 (1 : Int)))]) []) (Tree.need (List.length s ≤ (281474976710656 : Nat) ∧ parsedOk s = false) (Tree.ite true (Tree.ret (SV.tup [SX.c (SC.pd (PD.int IntKind.i64 (0 : Int))), SX.c (SC.pd (PD.int IntKind.i64 (5 : Int)))]) []) (Tree.ret (SV.tup [SX.c (SC.pd (PD.int IntKind.i64 (parsedM s))), SX.c (SC.pd (PD.int IntKind.i64 (0 : Int)))]) []))))))) (by kernel_rfl) fun Γ => ?_
    rw [trim_nil]
    refine ⟨fun _ => by omega, fun h => ?_, fun h => ⟨congrArg intP (a₁ := (0, 1)) ?_, rfl⟩, fun h => ⟨⟨hs, hok⟩, fun _ => ⟨congrArg intP (a₁ := (0, 5)) ?_, rfl⟩, fun h => Bool.noConfusion h⟩⟩
    · simp only [Bool.or_eq_false_iff] at h
      have := hpos h.1; omega
    · have hb : formBad s = true := h
      rw [numM, if_pos hb]
    · have hb : formBad s = false := h
      have := (parsed_of hb).2 hok
      rw [numM, if_neg (by rw [hb]; simp), if_pos (by omega)]
  · refine Does.go (cfg := cfgNb1) cfgNb1_ok Tryd.func58 (by kernel_rfl) (by kernel_rfl) (t := (Tree.need ((cutP s [(45 : UInt8)] == []) = false → List.length (cutP s [(45 : UInt8)]) ≤ (9223372036854775807 : Nat)) (Tree.need ((cutP s [(45 : UInt8)] == [] || !trimM (cutP s [(45 : UInt8)]) == []) = false → (0 : Int) ≤ (0 : Int) ∧ (0 : Int) < strLen (cutP s [(45 : UInt8)])) (Tree.ite (cutP s [(45 : UInt8)] == [] || !trimM (cutP s [(45 : UInt8)]) == [] || (↑(UInt8.toNat (List.getD (cutP s [(45 : UInt8)]) (0 : Nat) (0 : UInt8))) : Int) == (48 : Int) && (decide (strLen (cutP s [(45 : UInt8)]) > (1 : Int)) || hasP s [(45 : UInt8)])) (Tree.ret (SV.tup [SX.c (SC.pd (PD.int IntKind.i64 (0 : Int))), SX.c (SC.pd (PD.int IntKind.i64 (1 : Int)))]) []) (Tree.need (List.length s ≤ (281474976710656 : Nat) ∧ parsedOk s = true) (Tree.ite (false || decide (parsedM s > (1099511627776 : Int)) || decide (parsedM s < (-1099511627776 : Int))) (Tree.ret (SV.tup [SX.c (SC.pd (PD.int IntKind.i64 (0 : Int))), SX.c (SC.pd (PD.int IntKind.i64 (5 : Int)))]) []) (Tree.ret (SV.tup [SX.c (SC.pd (PD.int IntKind.i64 (parsedM s))), SX.c (SC.pd (PD.int IntKind.i64 (0 : Int)))]) []))))))) (by kernel_rfl) fun Γ => ?_
    rw [trim_nil]
    refine ⟨fun _ => by omega, fun h => ?_, fun h => ⟨congrArg intP (a₁ := (0, 1)) ?_, rfl⟩, fun h => ⟨⟨hs, hok⟩, fun g => ⟨congrArg intP (a₁ := (0, 5)) ?_, rfl⟩, fun g => ⟨congrArg intP (a₁ := (parsedM s, 0)) ?_, rfl⟩⟩⟩
    · simp only [Bool.or_eq_false_iff] at h
      have := hpos h.1; omega
    · have hb : formBad s = true := h
      rw [numM, if_pos hb]
    · have hb : formBad s = false := h
      have hv := (parsed_of hb).1 hok
      simp only [Bool.false_or, Bool.or_eq_true, decide_eq_true_eq] at g
      rw [numM, if_neg (by rw [hb]; simp), if_pos]
      rw [hv] at g
      split at g <;> omega
    · have hb : formBad s = false := h
      have hv := (parsed_of hb).1 hok
      simp only [Bool.false_or, Bool.or_eq_false_iff, decide_eq_false_iff_not] at g
      rw [numM, if_neg (by rw [hb]; simp), if_neg, hv]
      rw [hv] at g
      split at g <;> omega
end Go.Proofs.YtjndellhebidoaaDoor

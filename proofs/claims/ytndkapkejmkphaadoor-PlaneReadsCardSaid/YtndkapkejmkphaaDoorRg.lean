/- Plain: a number at a text's beginning. Conditions: none. -/
import Derived.Test.YtndkapkejmkphaaDoorRf
namespace Go.Proofs.YtndkapkejmkphaaDoor
open Go Go.Ev Go.RowKit
set_option maxRecDepth 100000
/-! ### plain -/
def wGo : Nat → List UInt8 → Nat × Nat
  | n, [] => (n, 0)
  | n, c :: r => if isD c = true ∧ n ≤ 1048576 then ((wGo (10 * n + (c.toNat - 48)) r).1, (wGo (10 * n + (c.toNat - 48)) r).2 + 1) else (n, 0)
def wFin (s : Str) (f : Nat) (ng : Bool) (p : Nat × Nat) : Int × Int := if p.2 = 0 ∨ ((s.getD f 0).toNat = 48 ∧ (1 < p.2 ∨ ng = true)) then (0, 0) else (if ng = true then -(p.1 : Int) else (p.1 : Int), ((f + p.2 : Nat) : Int))
def wholeM (s : Str) : Int × Int := if hasP s [45] = true then wFin s 1 true (wGo 0 (s.drop 1)) else wFin s 0 false (wGo 0 s)
theorem wGo_bounds : ∀ (l : List UInt8) (n : Nat), n ≤ 10485769 → (wGo n l).1 ≤ 10485769 ∧ (wGo n l).2 ≤ l.length
  | [], n, h => ⟨h, Nat.le_refl _⟩
  | c :: r, n, h => by
    unfold wGo
    split
    · rename_i hc
      have hd := isD_nat hc.1
      have := wGo_bounds r (10 * n + (c.toNat - 48)) (by omega)
      exact ⟨this.1, by simp only [List.length_cons]; omega⟩
    · exact ⟨h, Nat.zero_le _⟩
theorem wGo_all : ∀ (d : List UInt8) (n : Nat) (r : List UInt8), d.all isD = true → valD n d ≤ 1048576 → (∀ c q, r = c :: q → isD c = false) → wGo n (d ++ r) = (valD n d, d.length)
  | [], n, r, _, _, hr => by
    cases r with
    | nil => rfl
    | cons c q => rw [List.nil_append, wGo, if_neg (by rw [hr c q rfl]; simp)]; rfl
  | c :: d, n, r, hd, hv, hr => by
    simp only [List.all_cons, Bool.and_eq_true] at hd
    have hv' : valD (10 * n + (c.toNat - 48)) d ≤ 1048576 := hv
    have h1 := valD_ge d (10 * n + (c.toNat - 48))
    rw [List.cons_append, wGo, if_pos ⟨hd.1, by omega⟩, wGo_all d _ r hd.2 hv' hr]; rfl
theorem wGo_take : ∀ (l : List UInt8) (n : Nat), (l.take (wGo n l).2).all isD = true ∧ valD n (l.take (wGo n l).2) = (wGo n l).1 ∧ (wGo n l).2 ≤ l.length
  | [], n => ⟨rfl, rfl, Nat.le_refl _⟩
  | c :: r, n => by
    rw [wGo]
    split
    · rename_i hc
      obtain ⟨h1, h2, h3⟩ := wGo_take r (10 * n + (c.toNat - 48))
      exact ⟨by simp only [List.take_succ_cons, List.all_cons, hc.1, h1, Bool.and_self], h2, by simp only [List.length_cons]; omega⟩
    · exact ⟨rfl, rfl, Nat.zero_le _⟩
theorem whole_itoa {a : Int} {r : List UInt8} (ha : pIn a = true) (hr : ∀ c q, r = c :: q → isD c = false) : wholeM (Lib.itoa a ++ r) = (a, ((Lib.itoa a).length : Int)) := by
  have hb := pIn_num ha
  by_cases hn : a < 0
  · have e : Lib.itoa a = 45 :: Lib.decDigits a.natAbs := by unfold Lib.itoa; rw [if_pos hn]
    obtain ⟨i1, i2, i3, i4, _⟩ := dec_all a.natAbs
    have h4 := i4 (by omega)
    rw [e, List.cons_append, wholeM, if_pos (cut_minus _).2]
    have ed : (45 :: (Lib.decDigits a.natAbs ++ r)).drop 1 = Lib.decDigits a.natAbs ++ r := rfl
    rw [ed, wGo_all _ 0 r i1 (by rw [i3]; omega) hr, i3, wFin, if_neg]
    · simp only [if_true, List.length_cons]
      congr 1
      · omega
      · omega
    · rintro (h | ⟨h, _⟩)
      · exact i2 (List.length_eq_zero_iff.1 h)
      · have : ((45 :: (Lib.decDigits a.natAbs ++ r)).getD 1 0).toNat = ((Lib.decDigits a.natAbs).getD 0 0).toNat := by
          cases hd : Lib.decDigits a.natAbs with
          | nil => exact absurd hd i2
          | cons x q => rfl
        rw [this] at h; exact h4 h
  · have e : Lib.itoa a = Lib.decDigits a.toNat := by unfold Lib.itoa; rw [if_neg hn]
    obtain ⟨i1, i2, i3, i4, i5⟩ := dec_all a.toNat
    have hno : hasP (Lib.decDigits a.toNat ++ r) [45] = false := by
      cases hd : Lib.decDigits a.toNat with
      | nil => exact absurd hd i2
      | cons x q =>
        rw [hd] at i1
        simp only [List.all_cons, Bool.and_eq_true] at i1
        have := isD_nat i1.1
        exact (cut_other (q ++ r) (c := x) (by rintro rfl; simp at this)).2
    rw [e, wholeM, if_neg (by rw [hno]; simp), wGo_all _ 0 r i1 (by rw [i3]; omega) hr, i3, wFin, if_neg]
    · simp only [Bool.false_eq_true, if_false]
      congr 1
      · omega
      · omega
    · rintro (h | ⟨h, h2⟩)
      · exact i2 (List.length_eq_zero_iff.1 h)
      · have h3 : ((Lib.decDigits a.toNat ++ r).getD 0 0).toNat = ((Lib.decDigits a.toNat).getD 0 0).toNat := by
          cases hd : Lib.decDigits a.toNat with
          | nil => exact absurd hd i2
          | cons x q => rfl
        rw [h3] at h
        have h5 : a.toNat < 10 := by
          by_cases h1 : 1 ≤ a.toNat
          · exact absurd h (i4 h1)
          · omega
        rcases h2 with h2 | h2
        · have := i5 h5; omega
        · cases h2
theorem whole_back {s : Str} (h0 : (wholeM s).2 ≠ 0) (hin : pIn (wholeM s).1 = true) : 0 ≤ (wholeM s).2 ∧ (wholeM s).2 ≤ s.length ∧ s.take (wholeM s).2.toNat = Lib.itoa (wholeM s).1 := by
  have fin : ∀ (f : Nat) (ng : Bool) (t : Str), (ng = true → f = 1) → (ng = false → f = 0) → s = (if ng = true then 45 :: t else t) → wholeM s = wFin s f ng (wGo 0 t) → 0 ≤ (wholeM s).2 ∧ (wholeM s).2 ≤ s.length ∧ s.take (wholeM s).2.toNat = Lib.itoa (wholeM s).1 := fun f ng t h1 h2 hs hw => by
    have hb := wGo_take t 0
    have hbb := wGo_bounds t 0 (by omega)
    rw [hw] at h0 hin ⊢
    unfold wFin at h0 hin ⊢
    split at h0
    · exact absurd rfl h0
    · rename_i hc
      rw [if_neg hc] at hin ⊢
      generalize (wGo 0 t).1 = v at *
      generalize (wGo 0 t).2 = m at *
      have hm : m ≠ 0 := fun e => hc (.inl e)
      have hne : t.take m ≠ [] := by
        intro e
        have := congrArg List.length e
        rw [List.length_take, List.length_nil] at this
        have h8 := hb.2.2
        omega
      have hlen : (t.take m).length = m := by rw [List.length_take]; omega
      have h00 : (t.take m).getD 0 0 = t.getD 0 0 := by
        simp only [List.getD_eq_getElem?_getD, List.getElem?_take]
        rw [if_pos (by omega)]
      have hcan : (t.take m).length = 1 ∨ ((t.take m).getD 0 0).toNat ≠ 48 := by
        by_cases h9 : (s.getD f 0).toNat = 48
        · left
          have : ¬ (1 < m ∨ ng = true) := fun x => hc (.inr ⟨h9, x⟩)
          have : ¬ 1 < m := fun x => this (.inl x)
          omega
        · right
          rw [h00]
          cases ng with
          | true => rw [h1 rfl, hs] at h9; exact h9
          | false => rw [h2 rfl, hs] at h9; exact h9
      have hdb := dec_back m (t.take m) hlen hb.1 hne hcan
      rw [hb.2.1] at hdb
      cases ng with
      | true =>
        have f1 := h1 rfl
        subst f1
        simp only [if_true] at hs hin ⊢
        have hv : v ≠ 0 := by
          intro e
          subst e
          rw [Lib.decDigits_one (by omega)] at hdb
          have e2 : (t.take m).getD 0 0 = 48 := by rw [← hdb]; rfl
          have e3 : (s.getD 1 0).toNat = 48 := by rw [hs]; show (t.getD 0 0).toNat = 48; rw [← h00, e2]; rfl
          exact hc (.inr ⟨e3, .inr rfl⟩)
        refine ⟨by omega, by rw [hs]; simp only [List.length_cons]; omega, ?_⟩
        have et : (((1 + m : Nat) : Int)).toNat = m + 1 := by omega
        rw [et, hs, List.take_succ_cons]
        unfold Lib.itoa
        rw [if_pos (by omega), show (-(v : Int)).natAbs = v by omega, hdb]
      | false =>
        have f1 := h2 rfl
        subst f1
        simp only [Bool.false_eq_true, if_false] at hs hin ⊢
        refine ⟨by omega, by rw [hs]; omega, ?_⟩
        have et : (((0 + m : Nat) : Int)).toNat = m := by omega
        rw [et, hs]
        unfold Lib.itoa
        rw [if_neg (by omega), show ((v : Int)).toNat = v by omega, hdb]
  by_cases hp : hasP s [45] = true
  · obtain ⟨r, hr⟩ := hasP_split hp
    have hw : wholeM s = wFin s 1 true (wGo 0 (s.drop 1)) := by rw [wholeM, if_pos hp]
    have e : s = 45 :: s.drop 1 := by rw [hr]; rfl
    exact fin 1 true (s.drop 1) (fun _ => rfl) (fun x => by cases x) (by simpa using e) hw
  · have hw : wholeM s = wFin s 0 false (wGo 0 s) := by rw [wholeM, if_neg hp]
    exact fin 0 false s (fun x => by cases x) (fun _ => rfl) rfl hw
end Go.Proofs.YtndkapkejmkphaaDoor

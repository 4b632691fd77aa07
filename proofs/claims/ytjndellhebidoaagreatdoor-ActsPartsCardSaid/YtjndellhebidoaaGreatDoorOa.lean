/- Trees' texts; what is told is read to the tree that it was. Conditions: none. -/
import Derived.Test.YtjndellhebidoaaGreatDoorNc
import Derived.Test.YtjndellhebidoaaGreatDoorNr
import Derived.Test.YtjndellhebidoaaGreatDoorNd
namespace Go.Proofs.YtjndellhebidoaaGreatDoor
open Go Go.Ev
set_option maxRecDepth 100000
/-! ### cells -/
theorem un_cell {c : Cell} (h : wantsC c = 1) : c = ⟨7, 0, []⟩ ∨ c = ⟨8, 0, []⟩ ∨ c = ⟨9, 0, []⟩ ∨ c = ⟨10, 0, []⟩ := by
  obtain ⟨op, a, nm⟩ := c
  simp only [wantsC, wantsM, cond_eq_ite] at h
  repeat' (split at h)
  all_goals first | (exfalso; omega) | skip
  rename_i h1 h2 h3 h4 h5 h6 h7
  simp only [Bool.or_eq_true, decide_eq_true_eq, bne_iff_ne, Bool.not_eq_true', beq_eq_false_iff_ne, not_or, ne_eq, Classical.not_not, beq_iff_eq] at h1 h2 h3 h4 h5 h6 h7
  obtain ⟨⟨⟨h51, h52⟩, h53⟩, h54⟩ := h5
  subst h53 h54
  have : op = 7 ∨ op = 8 ∨ op = 9 ∨ op = 10 := by omega
  rcases this with rfl | rfl | rfl | rfl <;> simp
theorem bin_cell {c : Cell} (h : wantsC c = 2) : c = ⟨c.op, 0, []⟩ ∧ 11 ≤ c.op ∧ c.op ≤ 23 := by
  obtain ⟨op, a, nm⟩ := c
  simp only [wantsC, wantsM, cond_eq_ite] at h
  repeat' (split at h)
  all_goals first | (exfalso; omega) | skip
  rename_i h1 h2 h3 h4 h5 h6 h7
  simp only [Bool.or_eq_true, decide_eq_true_eq, bne_iff_ne, Bool.not_eq_true', beq_eq_false_iff_ne, not_or, ne_eq, Classical.not_not, beq_iff_eq] at h1 h2 h3 h4 h5 h6 h7
  obtain ⟨⟨⟨h51, h52⟩, h53⟩, h54⟩ := h5
  subst h53 h54
  exact ⟨rfl, by show 11 ≤ op; omega, by show op ≤ 23; omega⟩
theorem leaf_cell {c : Cell} (h : wantsC c = 0) : (∃ a, c = ⟨1, a, []⟩ ∧ 0 ≤ a ∧ a ≤ 1099511627776) ∨ (∃ a, c = ⟨2, a, []⟩ ∧ 0 ≤ a ∧ a ≤ 1048576) ∨ c = ⟨3, 0, []⟩ ∨ c = ⟨4, 0, []⟩ ∨ (∃ n, c = ⟨5, 0, n⟩ ∧ nameM n = true) ∨ (∃ n, c = ⟨6, 0, n⟩ ∧ nameM n = true) := by
  obtain ⟨op, a, nm⟩ := c
  simp only [wantsC, wantsM, cond_eq_ite] at h
  repeat' (split at h)
  all_goals first | (exfalso; omega) | skip
  · rename_i h1 h2
    simp only [Bool.or_eq_true, decide_eq_true_eq, Bool.not_eq_true', beq_eq_false_iff_ne, not_or, ne_eq, Classical.not_not, beq_iff_eq] at h1 h2
    obtain ⟨⟨h3, h4⟩, h5⟩ := h2
    subst h1 h5
    exact .inl ⟨a, rfl, by omega, by omega⟩
  · rename_i h0 h1 h2
    simp only [Bool.or_eq_true, decide_eq_true_eq, Bool.not_eq_true', beq_eq_false_iff_ne, not_or, ne_eq, Classical.not_not, beq_iff_eq] at h1 h2
    obtain ⟨⟨h3, h4⟩, h5⟩ := h2
    subst h1 h5
    exact .inr (.inl ⟨a, rfl, by omega, by omega⟩)
  · rename_i h1 h2 h3 h4
    simp only [Bool.or_eq_true, bne_iff_ne, Bool.not_eq_true', not_or, ne_eq, Classical.not_not, beq_iff_eq, Bool.not_eq_false] at h3 h4
    obtain ⟨h5, h6⟩ := h4
    subst h3 h5
    exact .inr (.inr (.inr (.inr (.inl ⟨nm, rfl, h6⟩))))
  · rename_i h1 h2 h3 h4 h5
    simp only [Bool.or_eq_true, bne_iff_ne, Bool.not_eq_true', not_or, ne_eq, Classical.not_not, beq_iff_eq, Bool.not_eq_false] at h4 h5
    obtain ⟨h6, h7⟩ := h5
    subst h4 h6
    exact .inr (.inr (.inr (.inr (.inr ⟨nm, rfl, h7⟩))))
  · rename_i h1 h2 h3 h4 h5 h6
    simp only [Bool.or_eq_true, decide_eq_true_eq, bne_iff_ne, Bool.not_eq_true', beq_eq_false_iff_ne, not_or, ne_eq, Classical.not_not, beq_iff_eq] at h1 h2 h3 h4 h5 h6
    obtain ⟨⟨⟨h51, h52⟩, h53⟩, h54⟩ := h5
    subst h53 h54
    have : op = 3 ∨ op = 4 := by omega
    rcases this with rfl | rfl
    · exact .inr (.inr (.inl rfl))
    · exact .inr (.inr (.inr (.inl rfl)))
/-! ### texts -/
def leafS (c : Cell) : Str := bif c.op == 1 then Lib.itoa c.a else bif c.op == 2 then Lib.itoa c.a ++ [105] else bif c.op == 3 then trueS else bif c.op == 4 then falseS else bif c.op == 6 then [105, 110, 40] ++ c.name ++ [41] else c.name
def parenS (p : Int) (b : Str) (least : Int) : Str := bif decide (p < least) then [40] ++ b ++ [41] else b
def leftP (p : Int) : Int := bif p == 3 then 4 else p
def Tm.top : Tm → Cell
  | .leaf c => c
  | .un c _ => c
  | .bin c _ _ => c
def Tm.pow (t : Tm) : Int := (signM t.top.op).2
def unS (op : Int) (b : Str) (p : Int) : Str := bif op == 9 then [114, 101, 40] ++ b ++ [41] else bif op == 10 then [105, 109, 40] ++ b ++ [41] else (signM op).1 ++ parenS p b 6
def binS (op : Int) (b : Str) (p : Int) (d : Str) (q : Int) : Str := parenS p b (leftP (signM op).2) ++ (signM op).1 ++ parenS q d ((signM op).2 + 1)
def Tm.body : Tm → Str
  | .leaf c => leafS c
  | .un c t => unS c.op t.body t.pow
  | .bin c t u => binS c.op t.body t.pow u.body u.pow
def Tm.tin (t : Tm) (p : Int) : Str := parenS t.pow t.body p
theorem sign_pow {op : Int} (h1 : 11 ≤ op) (h2 : op ≤ 23) : 1 ≤ (signM op).2 ∧ (signM op).2 ≤ 5 := by
  have h : op = 11 ∨ op = 12 ∨ op = 13 ∨ op = 14 ∨ op = 15 ∨ op = 16 ∨ op = 17 ∨ op = 18 ∨ op = 19 ∨ op = 20 ∨ op = 21 ∨ op = 22 ∨ op = 23 := by omega
  rcases h with rfl | rfl | rfl | rfl | rfl | rfl | rfl | rfl | rfl | rfl | rfl | rfl | rfl <;> decide
theorem Tm.pow_bounds {t : Tm} (h : t.ok) : 1 ≤ t.pow ∧ t.pow ≤ 7 := by
  cases t with
  | leaf c =>
    rcases leaf_cell h with ⟨a, rfl, _⟩ | ⟨a, rfl, _⟩ | rfl | rfl | ⟨n, rfl, _⟩ | ⟨n, rfl, _⟩
    all_goals first | (show 1 ≤ (7 : Int) ∧ (7 : Int) ≤ 7; omega)
  | un c u =>
    rcases un_cell h.1 with rfl | rfl | rfl | rfl
    all_goals first | (show 1 ≤ (7 : Int) ∧ (7 : Int) ≤ 7; omega) | (show 1 ≤ (6 : Int) ∧ (6 : Int) ≤ 7; omega)
  | bin c u v =>
    obtain ⟨_, h1, h2⟩ := bin_cell h.1
    have := sign_pow h1 h2
    show 1 ≤ (signM c.op).2 ∧ (signM c.op).2 ≤ 7
    omega
theorem Tm.tin_body {t : Tm} {p : Int} (h : p ≤ t.pow) : t.tin p = t.body := by
  unfold Tm.tin parenS
  rw [decide_eq_false (by omega)]; rfl
theorem Tm.tin_paren {t : Tm} {p : Int} (h : t.pow < p) : t.tin p = [40] ++ t.body ++ [41] := by
  unfold Tm.tin parenS
  rw [decide_eq_true h]; rfl
/-! ### where a text stands -/
structure At (s : Str) (k : Int) (x : Str) : Prop where
  low : 0 ≤ k
  high : k ≤ strLen s
  eq : s.drop k.toNat = x
variable {s : Str}
theorem At.len {k : Int} {x : Str} (h : At s k x) : k + strLen x = strLen s := by
  have h1 := h.low; have h2 := h.high
  have h3 : (s.drop k.toNat).length = x.length := by rw [h.eq]
  rw [List.length_drop] at h3
  simp only [strLen] at *; omega
theorem strLen_app (a b : Str) : strLen (a ++ b) = strLen a + strLen b := by simp [strLen]
theorem At.app {k : Int} {a b : Str} (h : At s k (a ++ b)) : At s (k + strLen a) b := by
  have h1 := h.low
  have h2 := h.len
  rw [strLen_app] at h2
  refine ⟨by simp only [strLen] at *; omega, by simp only [strLen] at *; omega, ?_⟩
  have e : (k + strLen a).toNat = k.toNat + a.length := by simp only [strLen]; omega
  rw [e, ← List.drop_drop, h.eq, List.drop_left]
theorem At.to {k m : Int} {a b : Str} (h : At s k (a ++ b)) (e : m = k + strLen a) : At s m b := by rw [e]; exact h.app
theorem At.cons {k : Int} {c : UInt8} {x : Str} (h : At s k (c :: x)) : k < strLen s ∧ s.getD k.toNat 0 = c ∧ byteAt s k = (c.toNat : Int) := by
  have h1 := h.len
  have h2 : strLen (c :: x) = (x.length : Int) + 1 := by simp [strLen]
  have h3 : s.getD k.toNat 0 = c := by
    have := congrArg (fun l : List UInt8 => l[0]?) h.eq
    simp only [List.getElem?_drop, Nat.add_zero, List.getElem?_cons_zero] at this
    rw [List.getD_eq_getElem?_getD, this]; rfl
  exact ⟨by omega, h3, by unfold byteAt; rw [h3]⟩
theorem At.nil {k : Int} (h : At s k []) : k = strLen s := by
  have h1 := h.len
  have : strLen ([] : Str) = 0 := rfl
  omega
def After : Str → Prop
  | [] => True
  | a :: _ => wordB a = false ∧ a ≠ 40
def Weak (p : Int) (x : Str) : Prop := (opAhead x).1 = 0 ∨ (signM (opAhead x).1).2 ≤ p
theorem Weak.mono {p q : Int} {x : Str} (h : Weak p x) (hq : p ≤ q) : Weak q x := by
  rcases h with h | h
  · exact .inl h
  · exact .inr (by omega)
theorem take_all {p : UInt8 → Bool} : ∀ {a b : List UInt8}, a.all p = true → (∀ c r, b = c :: r → p c = false) → (a ++ b).takeWhile p = a
  | [], [], _, _ => rfl
  | [], c :: r, _, h => by rw [List.nil_append, List.takeWhile_cons, if_neg (by rw [h c r rfl]; simp)]
  | c :: a, b, h1, h2 => by
    simp only [List.all_cons, Bool.and_eq_true] at h1
    rw [List.cons_append, List.takeWhile_cons, if_pos h1.1, take_all h1.2 h2]
theorem After.word {x : Str} (h : After x) : ∀ c r, x = c :: r → wordB c = false := by
  intro c r e; subst e; exact h.1
theorem At.word {k : Int} {a b : Str} (h : At s k (a ++ b)) (ha : a.all wordB = true) (hb : ∀ c r, b = c :: r → wordB c = false) : wordM s k = a := by
  unfold wordM; rw [h.eq, take_all ha hb]
theorem At.call {k : Int} {a b : Str} (h : At s k (a ++ b)) (ha : a.all wordB = true) (hb : ∀ c r, b = c :: r → wordB c = false) : callB s k = match b with | [] => false | c :: _ => c == 40 := by
  unfold callB
  rw [h.word ha hb]
  have h2 := h.app
  cases b with
  | nil => have := h2.nil; rw [decide_eq_false (by omega)]; rfl
  | cons c r =>
    obtain ⟨g1, _, g3⟩ := h2.cons
    rw [decide_eq_true g1, g3, Bool.true_and]
    show ((c.toNat : Int) == 40) = (c == 40)
    rw [Bool.eq_iff_iff, beq_iff_eq, beq_iff_eq]
    constructor
    · intro e; exact UInt8.toNat_inj.1 (by show c.toNat = 40; omega)
    · intro e; subst e; rfl
theorem isD_wordB {c : UInt8} (h : isD c = true) : wordB c = true := by
  simp only [isD, Bool.and_eq_true, decide_eq_true_eq] at h
  simp only [wordB, Bool.or_eq_true, Bool.and_eq_true, decide_eq_true_eq]
  omega
theorem not_isD {c : UInt8} (h : wordB c = false) : isD c = false := by
  cases hd : isD c with
  | false => rfl
  | true => rw [isD_wordB hd] at h; cases h
theorem nameM_word {w : Str} (h : nameM w = true) : w.all wordB = true ∧ w ≠ trueS ∧ w ≠ falseS ∧ w ≠ inS ∧ w ≠ reS ∧ w ≠ imS ∧ (∃ c r, w = c :: r ∧ 97 ≤ c.toNat ∧ c.toNat ≤ 122) ∧ strLen w ≤ 12 := by
  simp only [nameM, name0, words5, Bool.and_eq_true, Bool.not_eq_true', Bool.or_eq_false_iff, beq_eq_false_iff_ne, decide_eq_false_iff_not] at h
  obtain ⟨⟨⟨⟨⟨h1, h2⟩, h3⟩, h4⟩, h5⟩, ⟨⟨⟨⟨h6, h7⟩, h8⟩, h9⟩, h10⟩⟩ := h
  refine ⟨?_, h6, h7, h8, h9, h10, ?_, by omega⟩
  · rw [List.all_eq_true]
    intro x hx
    have := List.any_eq_false.1 h5 x hx
    simp only [badB, Bool.and_eq_true, Bool.or_eq_true, decide_eq_true_eq, bne_iff_ne, not_and, not_or, Classical.not_not, ne_eq] at this
    simp only [wordB, Bool.or_eq_true, Bool.and_eq_true, decide_eq_true_eq, beq_iff_eq]
    omega
  · cases w with
    | nil => exact absurd rfl h1
    | cons c r =>
      simp only [List.getD_cons_zero] at h3 h4
      exact ⟨c, r, rfl, by omega, by omega⟩
/-! ### operators -/
theorem sign_ahead {op : Int} (h1 : 11 ≤ op) (h2 : op ≤ 23) {b : UInt8} (hb : b ≠ 61) (x : Str) : opAhead ((signM op).1 ++ b :: x) = (op, strLen (signM op).1) ∧ (∃ c r, (signM op).1 = c :: r ∧ wordB c = false ∧ c ≠ 40) ∧ 1 ≤ strLen (signM op).1 ∧ strLen (signM op).1 ≤ 2 := by
  have h : op = 11 ∨ op = 12 ∨ op = 13 ∨ op = 14 ∨ op = 15 ∨ op = 16 ∨ op = 17 ∨ op = 18 ∨ op = 19 ∨ op = 20 ∨ op = 21 ∨ op = 22 ∨ op = 23 := by omega
  rcases h with rfl | rfl | rfl | rfl | rfl | rfl | rfl | rfl | rfl | rfl | rfl | rfl | rfl
  all_goals
    refine ⟨?_, ⟨_, _, rfl, by decide, by decide⟩, by decide, by decide⟩
    simp [signM, opAhead, twoOp, opAt1, oneOp, hb, strLen]
theorem weak_close (x : Str) (p : Int) : Weak p (41 :: x) := by
  left
  cases x with
  | nil => rfl
  | cons b l =>
    have e2 : twoOp 41 b = 0 := by unfold twoOp; split <;> rfl
    simp only [opAhead, e2, if_true]; rfl
theorem weak_end {p j : Int} {o : Rd} {x : Str} (ha : At s o.pos x) (hw : Weak p x) (hp : p < j) (h1 : 1 ≤ j) (h5 : j ≤ 5) : atEnd s j o := by
  unfold atEnd
  rintro ⟨_, h⟩
  rw [ha.eq, oper_ahead _ j h1 h5] at h
  split at h
  · rename_i e
    rcases hw with hw | hw
    · exact h hw
    · omega
  · exact h rfl
theorem down : ∀ (n : Nat) (p q : Int) (r o : Rd), q - p = (n : Int) → 1 ≤ p → q ≤ 6 → Run s (.bin q) r o → (∀ j, p ≤ j → j < q → atEnd s j o) → Run s (.bin p) r o
  | 0, p, q, r, o, hn, h1, h6, hr, he => by
    have : p = q := by omega
    rw [this]; exact hr
  | n + 1, p, q, r, o, hn, h1, h6, hr, he => by
    have h := down n (p + 1) q r o (by omega) (by omega) h6 hr fun j hj hj2 => he j (by omega) hj2
    exact .bin h1 (by omega) h (.done (he p (Int.le_refl _) (by omega)))
/-! ### what is told is read -/
def RdU (s : Str) (x : Str) (l : List Cell) : Prop := ∀ (k : Int) (out : List Cell) (y : Str), At s k (x ++ y) → After y → Run s .una ⟨k, out, -1⟩ ⟨k + strLen x, out ++ l, -1⟩
def RdB (s : Str) (x : Str) (l : List Cell) (p : Int) : Prop := ∀ (k : Int) (out : List Cell) (y : Str) (o : Rd), At s k (x ++ y) → After y → Weak p y → (p = 3 → Weak 2 y) → Run s (.loop p) ⟨k + strLen x, out ++ l, -1⟩ o → Run s (.bin p) ⟨k, out, -1⟩ o
theorem una_bin {x : Str} {l : List Cell} (h : RdU s x l) {p : Int} (h1 : 1 ≤ p) (h5 : p ≤ 5) : RdB s x l p := by
  intro k out y o ha hy hw _ hl
  refine .bin h1 h5 (down (5 - p).toNat (p + 1) 6 _ _ (by omega) (by omega) (by omega) (.six (h k out y ha hy)) fun j hj hj2 => ?_) hl
  exact weak_end (o := ⟨k + strLen x, out ++ l, -1⟩) ha.app hw (by omega) (by omega) (by omega)
theorem RdB.full {x : Str} {l : List Cell} {p : Int} (h : RdB s x l p) (h1 : 1 ≤ p) (h5 : p ≤ 5) {k : Int} {out : List Cell} {y : Str} {q : Int} (ha : At s k (x ++ y)) (hy : After y) (hw : Weak q y) (hq : q < p) : Run s (.bin p) ⟨k, out, -1⟩ ⟨k + strLen x, out ++ l, -1⟩ :=
  h k out y _ ha hy (hw.mono (by omega)) (fun e => hw.mono (by omega)) (.done (weak_end (o := ⟨k + strLen x, out ++ l, -1⟩) ha.app hw hq h1 h5))
theorem paren_una {x : Str} {l : List Cell} (h : RdB s x l 1) : RdU s ([40] ++ x ++ [41]) l := by
  intro k out y ha hy
  have ha1 : At s k (40 :: (x ++ (41 :: y))) := by have := ha; simp only [List.append_assoc, List.cons_append, List.nil_append] at this; exact this
  obtain ⟨g1, g2, g3⟩ := ha1.cons
  have ha2 : At s (k + 1) (x ++ (41 :: y)) := ha1.to (a := [40]) (by rfl)
  obtain ⟨m1, m2, m3⟩ := (ha2.app).cons
  have hh : headM s k = .par := by
    unfold headM
    rw [if_neg (by omega), if_neg (by rw [g3]; decide), if_neg (by rw [g3]; decide), if_neg (by rw [g2]; decide), if_pos (by rw [g3]; decide)]
  have hr := h.full (by omega) (by omega) (out := out) (q := 0) ha2 (show After (41 :: y) from ⟨by decide, by decide⟩) (weak_close y 0) (by omega)
  have hc : closeR s ⟨k + 1 + strLen x, out ++ l, -1⟩ = ⟨k + strLen ([40] ++ x ++ [41]), out ++ l, -1⟩ := by
    unfold closeR
    have e : k + strLen ([40] ++ x ++ [41]) = k + 1 + strLen x + 1 := by simp [strLen]; omega
    rw [if_neg, e]
    · rfl
    · rintro ⟨_, hx⟩
      simp only at hx
      rcases hx with hx | hx
      · omega
      · exact hx (by rw [m3]; decide)
  rw [← hc]
  exact .par (r := ⟨k, out, -1⟩) (by show (-1 : Int) < 0; omega) hh hr
theorem lift_tin {t : Tm} (ht : t.ok) (hB : ∀ p, 1 ≤ p → p ≤ 5 → p ≤ t.pow → RdB s t.body t.flat p) (hU : 6 ≤ t.pow → RdU s t.body t.flat) : RdU s (t.tin 6) t.flat ∧ ∀ p, 1 ≤ p → p ≤ 5 → RdB s (t.tin p) t.flat p := by
  have hp := t.pow_bounds ht
  refine ⟨?_, fun p h1 h5 => ?_⟩
  · by_cases h : t.pow < 6
    · rw [Tm.tin_paren h]; exact paren_una (hB 1 (by omega) (by omega) hp.1)
    · rw [Tm.tin_body (by omega)]; exact hU (by omega)
  · by_cases h : t.pow < p
    · rw [Tm.tin_paren h]; exact una_bin (paren_una (hB 1 (by omega) (by omega) hp.1)) h1 h5
    · rw [Tm.tin_body (by omega)]; exact hB p h1 h5 (by omega)
/-! ### leaves -/
theorem itoa_nat {a : Int} (h : 0 ≤ a) : Lib.itoa a = Lib.decDigits a.toNat := by
  unfold Lib.itoa; rw [if_neg (by omega)]
theorem num_head {k : Int} {a : Int} {x : Str} (h0 : 0 ≤ a) (ha : At s k (Lib.itoa a ++ x)) (hx : ∀ c r, x = c :: r → isD c = false) : isD (s.getD k.toNat 0) = true ∧ numEnd s k = k + strLen (Lib.itoa a) ∧ numText s k = Lib.itoa a ∧ k < strLen s := by
  obtain ⟨d1, d2, d3, d4, d5⟩ := dec_all a.toNat
  rw [itoa_nat h0] at ha ⊢
  have htk : ((Lib.decDigits a.toNat) ++ x).takeWhile isD = Lib.decDigits a.toNat := take_all d1 hx
  have hne : numEnd s k = k + strLen (Lib.decDigits a.toNat) := by
    cases hd : Lib.decDigits a.toNat with
    | nil => exact absurd hd d2
    | cons c r =>
      have hb : byteAt s k = (c.toNat : Int) := by rw [hd] at ha; exact ha.cons.2.2
      unfold numEnd
      by_cases hz : a.toNat = 0
      · have h1 := d5 (by omega)
        have e : c = 48 := by
          rw [hz] at hd
          have : Lib.decDigits 0 = [48] := by rw [Lib.decDigits_one (by omega)]; rfl
          rw [this] at hd
          exact (List.cons.inj hd).1.symm
        subst e
        rw [if_pos (by rw [hb]; rfl)]
        rw [hd] at h1
        simp only [strLen, h1]; rfl
      · have h1 := d4 (by omega)
        rw [hd] at h1
        rw [if_neg (by rw [hb]; simp only [List.getD_cons_zero] at h1; omega), ha.eq, htk, hd]
  refine ⟨?_, hne, ?_, ?_⟩
  · cases hd : Lib.decDigits a.toNat with
    | nil => exact absurd hd d2
    | cons c r =>
      rw [hd] at ha d1
      rw [ha.cons.2.1]
      simp only [List.all_cons, Bool.and_eq_true] at d1; exact d1.1
  · have h1 := ha.low
    unfold numText
    rw [hne]
    have e : (k + strLen (Lib.decDigits a.toNat)).toNat = k.toNat + (Lib.decDigits a.toNat).length := by simp only [strLen]; omega
    rw [e, List.drop_take, ha.eq, show k.toNat + (Lib.decDigits a.toNat).length - k.toNat = (Lib.decDigits a.toNat).length by omega, List.take_left]
  · cases hd : Lib.decDigits a.toNat with
    | nil => exact absurd hd d2
    | cons c r => rw [hd] at ha; exact ha.cons.1
theorem head_digit {k : Int} (h : k < strLen s) (hd : isD (s.getD k.toNat 0) = true) : headM s k = .leaf := by
  simp only [isD, Bool.and_eq_true, decide_eq_true_eq] at hd
  have hd' : isD (s.getD k.toNat 0) = true := by simp only [isD, Bool.and_eq_true, decide_eq_true_eq]; exact hd
  unfold headM
  rw [if_neg (by omega), if_neg (by unfold byteAt; omega), if_neg (by unfold byteAt; omega), if_pos hd']
theorem head_word {k : Int} {c : UInt8} (h : k < strLen s) (hb : s.getD k.toNat 0 = c) (h1 : 97 ≤ c.toNat) (hr : ¬ (wordM s k = reS ∧ callB s k = true)) (hi : ¬ (wordM s k = imS ∧ callB s k = true)) : headM s k = .leaf ∧ isD (s.getD k.toNat 0) = false := by
  have hd : isD c = false := by
    cases hx : isD c with
    | false => rfl
    | true => simp only [isD, Bool.and_eq_true, decide_eq_true_eq] at hx; omega
  have hd' : isD (s.getD k.toNat 0) = false := by rw [hb]; exact hd
  refine ⟨?_, hd'⟩
  unfold headM
  rw [if_neg (by omega), if_neg (by unfold byteAt; rw [hb]; omega), if_neg (by unfold byteAt; rw [hb]; omega), if_neg (by rw [hd']; simp), if_neg (by unfold byteAt; rw [hb]; omega), if_neg hr, if_neg hi]
theorem leaf_run {k : Int} {out : List Cell} {o : Rd} (hh : headM s k = .leaf) (h : leafR s ⟨k, out, -1⟩ = o) : Run s .una ⟨k, out, -1⟩ o := by
  rw [← h]; exact .leaf (r := ⟨k, out, -1⟩) (by show (-1 : Int) < 0; omega) hh
theorem leaf_reads {c : Cell} (hc : wantsC c = 0) : RdU s (leafS c) [c] := by
  intro k out y ha hy
  rcases leaf_cell hc with ⟨a, rfl, h0, h1⟩ | ⟨a, rfl, h0, h1⟩ | rfl | rfl | ⟨n, rfl, hn⟩ | ⟨n, rfl, hn⟩
  · have e : leafS ⟨1, a, []⟩ = Lib.itoa a := rfl
    rw [e] at ha ⊢
    obtain ⟨g1, g2, g3, g4⟩ := num_head h0 ha fun c r e => not_isD (hy.word c r e)
    refine leaf_run (head_digit g4 g1) ?_
    have hnum : numM (Lib.itoa a) = (a, 0) := by rw [num_itoa, if_neg (by omega)]
    have himg : numImag s k = false := by
      have h2 := ha.app
      unfold numImag
      rw [g2]
      cases y with
      | nil => have := h2.nil; rw [decide_eq_false (by omega)]; rfl
      | cons c r =>
        obtain ⟨m1, _, m3⟩ := h2.cons
        rw [m3, decide_eq_true m1, Bool.true_and]
        have := hy.word c r rfl
        simp only [wordB, Bool.or_eq_false_iff, Bool.and_eq_false_iff, decide_eq_false_iff_not] at this
        rw [beq_eq_false_iff_ne]; omega
    have hcell : numC s k = ⟨1, a, []⟩ := by unfold numC; rw [g3, hnum, himg]; rfl
    unfold leafR
    rw [if_pos g1]
    unfold numberR
    rw [g3, hnum, hcell, if_neg (by rw [hc]; simp)]
    simp only [himg, g2]; rfl
  · have e : leafS ⟨2, a, []⟩ = Lib.itoa a ++ [105] := rfl
    rw [e] at ha ⊢
    have ha' : At s k (Lib.itoa a ++ (105 :: y)) := by have := ha; rw [List.append_assoc] at this; exact this
    obtain ⟨g1, g2, g3, g4⟩ := num_head h0 ha' fun c r e => by rw [← (List.cons.inj e).1]; rfl
    refine leaf_run (head_digit g4 g1) ?_
    have hnum : numM (Lib.itoa a) = (a, 0) := by rw [num_itoa, if_neg (by omega)]
    have himg : numImag s k = true := by
      obtain ⟨m1, _, m3⟩ := (ha'.app).cons
      unfold numImag
      rw [g2, m3, decide_eq_true m1]; rfl
    have hcell : numC s k = ⟨2, a, []⟩ := by unfold numC; rw [g3, hnum, himg]; rfl
    unfold leafR
    rw [if_pos g1]
    unfold numberR
    rw [g3, hnum, hcell, if_neg (by rw [hc]; simp), if_pos himg, g2, strLen_app]
    show (⟨k + strLen (Lib.itoa a) + 1, out ++ [⟨2, a, []⟩], -1⟩ : Rd) = ⟨k + (strLen (Lib.itoa a) + 1), out ++ [⟨2, a, []⟩], -1⟩
    rw [Int.add_assoc]
  · have e : leafS ⟨3, 0, []⟩ = trueS := rfl
    rw [e] at ha ⊢
    have hw := ha.word (by decide) hy.word
    obtain ⟨g1, g2⟩ := head_word (c := 116) (ha.cons (c := 116)).1 (ha.cons (c := 116)).2.1 (by decide) (by rw [hw]; exact fun h => absurd h.1 (by decide)) (by rw [hw]; exact fun h => absurd h.1 (by decide))
    refine leaf_run g1 ?_
    unfold leafR
    simp only [g2, hw]
    rfl
  · have e : leafS ⟨4, 0, []⟩ = falseS := rfl
    rw [e] at ha ⊢
    have hw := ha.word (by decide) hy.word
    obtain ⟨g1, g2⟩ := head_word (c := 102) (ha.cons (c := 102)).1 (ha.cons (c := 102)).2.1 (by decide) (by rw [hw]; exact fun h => absurd h.1 (by decide)) (by rw [hw]; exact fun h => absurd h.1 (by decide))
    refine leaf_run g1 ?_
    unfold leafR
    simp only [g2, hw]
    rw [if_neg (by simp), if_neg (by decide), if_pos trivial]; rfl
  · have e : leafS ⟨5, 0, n⟩ = n := rfl
    rw [e] at ha ⊢
    obtain ⟨n1, n2, n3, n4, n5, n6, ⟨c, r, n7, n8, n9⟩, _⟩ := nameM_word hn
    have hw := ha.word n1 hy.word
    have ha' : At s k (c :: (r ++ y)) := by rw [n7] at ha; exact ha
    obtain ⟨g1, g2⟩ := head_word (c := c) ha'.cons.1 ha'.cons.2.1 n8 (by rw [hw]; exact fun h => n5 h.1) (by rw [hw]; exact fun h => n6 h.1)
    refine leaf_run g1 ?_
    unfold leafR
    simp only [g2, hw]
    rw [if_neg (by simp), if_neg n2, if_neg n3, if_neg (fun h => n4 h.1), if_pos hn]; rfl
  · have e : leafS ⟨6, 0, n⟩ = inS ++ (40 :: (n ++ [41])) := by simp [leafS, inS]
    rw [e] at ha ⊢
    obtain ⟨n1, n2, n3, n4, n5, n6, ⟨c, r, n7, n8, n9⟩, _⟩ := nameM_word hn
    have ha' : At s k (inS ++ (40 :: (n ++ (41 :: y)))) := by simpa using ha
    have hb1 : ∀ c r, (40 :: (n ++ (41 :: y)) : Str) = c :: r → wordB c = false := by
      intro c r e; rw [← (List.cons.inj e).1]; decide
    have hw := ha'.word (by decide) hb1
    have hc2 := ha'.call (by decide) hb1
    have hcall : callB s k = true := by rw [hc2]; rfl
    obtain ⟨g1, g2⟩ := head_word (c := 105) (ha'.cons (c := 105)).1 (ha'.cons (c := 105)).2.1 (by decide) (by rw [hw]; exact fun h => absurd h.1 (by decide)) (by rw [hw]; exact fun h => absurd h.1 (by decide))
    refine leaf_run g1 ?_
    have ha3 : At s (k + 3) (n ++ (41 :: y)) := ha'.to (a := inS ++ [40]) (by rfl)
    have hw3 := ha3.word n1 (by intro c r e; rw [← (List.cons.inj e).1]; decide)
    obtain ⟨m1, _, m3⟩ := (ha3.app).cons
    unfold leafR
    simp only [g2, hw]
    rw [if_neg (by simp), if_neg (by decide), if_neg (by decide), if_pos ⟨trivial, hcall⟩]
    unfold inR
    simp only [hw3]
    rw [if_neg (by rw [hn]; simp)]
    have hcl : closeR s ((⟨k, out, -1⟩ : Rd).to (k + 3 + strLen n)) = ⟨k + 3 + strLen n + 1, out, -1⟩ := by
      unfold closeR
      rw [if_neg]
      · rfl
      · rintro ⟨_, hx⟩
        simp only [Rd.to] at hx
        rcases hx with hx | hx
        · omega
        · exact hx (by rw [m3]; decide)
    rw [hcl]
    have el : k + strLen (inS ++ (40 :: (n ++ [41]))) = k + 3 + strLen n + 1 := by simp [strLen, inS]; omega
    rw [el]; rfl
/-! ### trees -/
theorem tin_head {t : Tm} (ht : t.ok) : (∃ c r, t.body = c :: r ∧ c ≠ 61) ∧ ∀ p, ∃ c r, t.tin p = c :: r ∧ c ≠ 61 := by
  have key : ∀ t : Tm, (∃ c r, t.body = c :: r ∧ c ≠ 61) → ∀ p, ∃ c r, t.tin p = c :: r ∧ c ≠ 61 := by
    intro t h p
    by_cases hp : t.pow < p
    · rw [Tm.tin_paren hp]; exact ⟨40, t.body ++ [41], rfl, by decide⟩
    · rw [Tm.tin_body (by omega)]; exact h
  have hb : ∃ c r, t.body = c :: r ∧ c ≠ 61 := by
    induction t with
    | leaf c =>
      rcases leaf_cell ht with ⟨a, rfl, h0, h1⟩ | ⟨a, rfl, h0, h1⟩ | rfl | rfl | ⟨n, rfl, hn⟩ | ⟨n, rfl, hn⟩
      · obtain ⟨d1, d2, _⟩ := dec_all a.toNat
        cases hd : Lib.decDigits a.toNat with
        | nil => exact absurd hd d2
        | cons c r =>
          rw [hd] at d1
          simp only [List.all_cons, Bool.and_eq_true, isD, decide_eq_true_eq] at d1
          refine ⟨c, r, by show Lib.itoa a = _; rw [itoa_nat h0, hd], fun e => ?_⟩
          subst e; exact absurd d1.1 (by decide)
      · obtain ⟨d1, d2, _⟩ := dec_all a.toNat
        cases hd : Lib.decDigits a.toNat with
        | nil => exact absurd hd d2
        | cons c r =>
          rw [hd] at d1
          simp only [List.all_cons, Bool.and_eq_true, isD, decide_eq_true_eq] at d1
          refine ⟨c, r ++ [105], by show Lib.itoa a ++ [105] = _; rw [itoa_nat h0, hd]; rfl, fun e => ?_⟩
          subst e; exact absurd d1.1 (by decide)
      · exact ⟨116, _, rfl, by decide⟩
      · exact ⟨102, _, rfl, by decide⟩
      · obtain ⟨_, _, _, _, _, _, ⟨c, r, n7, n8, n9⟩, _⟩ := nameM_word hn
        refine ⟨c, r, n7, fun e => ?_⟩
        subst e; revert n8; decide
      · exact ⟨105, _, rfl, by decide⟩
    | un c t ih =>
      rcases un_cell ht.1 with rfl | rfl | rfl | rfl
      · exact ⟨45, _, rfl, by decide⟩
      · exact ⟨33, _, rfl, by decide⟩
      · exact ⟨114, _, rfl, by decide⟩
      · exact ⟨105, _, rfl, by decide⟩
    | bin c t u ih1 ih2 =>
      obtain ⟨c1, r1, e1, e2⟩ := key t (ih1 ht.2.1) (leftP (signM c.op).2)
      refine ⟨c1, r1 ++ (signM c.op).1 ++ u.tin ((signM c.op).2 + 1), ?_, e2⟩
      show t.tin (leftP (signM c.op).2) ++ (signM c.op).1 ++ u.tin ((signM c.op).2 + 1) = _
      rw [e1]; simp
  exact ⟨hb, key t hb⟩
theorem tree_reads (t : Tm) (ht : t.ok) : RdU s (t.tin 6) t.flat ∧ ∀ p, 1 ≤ p → p ≤ 5 → RdB s (t.tin p) t.flat p := by
  induction t with
  | leaf c =>
    have hp : (Tm.leaf c).pow = 7 := by
      rcases leaf_cell ht with ⟨a, rfl, _⟩ | ⟨a, rfl, _⟩ | rfl | rfl | ⟨n, rfl, _⟩ | ⟨n, rfl, _⟩ <;> rfl
    have hU : RdU s (leafS c) [c] := leaf_reads ht
    exact lift_tin ht (fun p h1 h5 _ => una_bin hU h1 h5) (fun _ => hU)
  | un c t ih =>
    obtain ⟨hU, hB⟩ := ih ht.2
    have hp := t.pow_bounds ht.2
    have sgn : ∀ (op : Int) (x : UInt8), (∀ k, k < strLen s → s.getD k.toNat 0 = x → headM s k = .pre op) → RdU s (x :: t.tin 6) (t.flat ++ [⟨op, 0, []⟩]) := by
      intro op x hx k out y ha hy
      obtain ⟨g1, g2, _⟩ := ha.cons
      have ha2 : At s (k + 1) (t.tin 6 ++ y) := ha.to (a := [x]) (by rfl)
      have hr := hU (k + 1) out y ha2 hy
      have e : k + strLen (x :: t.tin 6) = k + 1 + strLen (t.tin 6) := by simp [strLen]; omega
      rw [e, ← List.append_assoc]
      exact .sign (r := ⟨k, out, -1⟩) (by show (-1 : Int) < 0; omega) (hx k g1 g2) hr
    have cal : ∀ (op : Int) (x1 x2 : UInt8), ([x1, x2] = reS ∧ op = 9 ∨ [x1, x2] = imS ∧ op = 10) → RdU s ([x1, x2, 40] ++ t.body ++ [41]) (t.flat ++ [⟨op, 0, []⟩]) := by
      intro op x1 x2 hx k out y ha hy
      have hwb : ([x1, x2] : Str).all wordB = true := by rcases hx with ⟨e, _⟩ | ⟨e, _⟩ <;> rw [e] <;> decide
      have ha' : At s k ([x1, x2] ++ (40 :: (t.body ++ (41 :: y)))) := by simpa using ha
      have hb1 : ∀ c r, (40 :: (t.body ++ (41 :: y)) : Str) = c :: r → wordB c = false := by
        intro c r e; rw [← (List.cons.inj e).1]; decide
      have hw := ha'.word hwb hb1
      have hc2 := ha'.call hwb hb1
      have hcall : callB s k = true := by rw [hc2]; rfl
      have ha3 : At s (k + 3) (t.body ++ (41 :: y)) := ha'.to (a := [x1, x2, 40]) (by rfl)
      obtain ⟨m1, _, m3⟩ := (ha3.app).cons
      have hB1 := hB 1 (by omega) (by omega)
      rw [Tm.tin_body hp.1] at hB1
      have hr := hB1.full (by omega) (by omega) (out := out) (q := 0) ha3 (show After (41 :: y) from ⟨by decide, by decide⟩) (weak_close y 0) (by omega)
      obtain ⟨g1, g2, g3⟩ := ha'.cons (c := x1)
      have hh : headM s k = .call op := by
        rcases hx with ⟨e, rfl⟩ | ⟨e, rfl⟩
        · have e1 : x1 = 114 := (List.cons.inj e).1
          subst e1
          unfold headM
          rw [if_neg (by omega), if_neg (by rw [g3]; decide), if_neg (by rw [g3]; decide), if_neg (by rw [g2]; decide), if_neg (by rw [g3]; decide), if_pos ⟨by rw [hw, e], hcall⟩]
        · have e1 : x1 = 105 := (List.cons.inj e).1
          subst e1
          unfold headM
          rw [if_neg (by omega), if_neg (by rw [g3]; decide), if_neg (by rw [g3]; decide), if_neg (by rw [g2]; decide), if_neg (by rw [g3]; decide), if_neg (fun h => by rw [hw, e] at h; exact absurd h.1 (by decide)), if_pos ⟨by rw [hw, e], hcall⟩]
      have hc : closeR s ⟨k + 3 + strLen t.body, out ++ t.flat, -1⟩ = ⟨k + strLen ([x1, x2, 40] ++ t.body ++ [41]), out ++ t.flat, -1⟩ := by
        unfold closeR
        have e : k + strLen ([x1, x2, 40] ++ t.body ++ [41]) = k + 3 + strLen t.body + 1 := by simp [strLen]; omega
        rw [if_neg, e]
        · rfl
        · rintro ⟨_, hx⟩
          simp only at hx
          rcases hx with hx | hx
          · omega
          · exact hx (by rw [m3]; decide)
      have := Run.call (s := s) (r := ⟨k, out, -1⟩) (op := op) (by show (-1 : Int) < 0; omega) hh hr
      rw [hc] at this
      rw [← List.append_assoc]; exact this
    have hUb : RdU s (Tm.un c t).body (Tm.un c t).flat := by
      rcases un_cell ht.1 with rfl | rfl | rfl | rfl
      · refine sgn 7 45 fun k h1 h2 => ?_
        unfold headM
        rw [if_neg (by omega), if_pos (by unfold byteAt; rw [h2]; decide)]
      · refine sgn 8 33 fun k h1 h2 => ?_
        unfold headM
        rw [if_neg (by omega), if_neg (by unfold byteAt; rw [h2]; decide), if_pos (by unfold byteAt; rw [h2]; decide)]
      · exact cal 9 114 101 (.inl ⟨rfl, rfl⟩)
      · exact cal 10 105 109 (.inr ⟨rfl, rfl⟩)
    exact lift_tin ht (fun p h1 h5 _ => una_bin hUb h1 h5) (fun _ => hUb)
  | bin c t u ih1 ih2 =>
    obtain ⟨hw, ht1, hu1⟩ := ht
    obtain ⟨hUt, hBt⟩ := ih1 ht1
    obtain ⟨hUu, hBu⟩ := ih2 hu1
    obtain ⟨hc, hc1, hc2⟩ := bin_cell hw
    have hq := sign_pow hc1 hc2
    have hpow : (Tm.bin c t u).pow = (signM c.op).2 := rfl
    generalize hqd : (signM c.op).2 = q at hq hpow
    have hbody : (Tm.bin c t u).body = t.tin (leftP q) ++ ((signM c.op).1 ++ u.tin (q + 1)) := by
      rw [← hqd, ← List.append_assoc]; rfl
    generalize hlpd : leftP q = lp at hbody
    have hflat : (Tm.bin c t u).flat = t.flat ++ u.flat ++ [⟨c.op, 0, []⟩] := by
      show t.flat ++ u.flat ++ [c] = _
      rw [← hc]
    refine lift_tin ⟨hw, ht1, hu1⟩ (fun p h1 h5 hpp => ?_) (fun h6 => by omega)
    rw [hpow] at hpp
    intro k out y o ha hy hwk hw3 hl
    rw [hbody] at ha hl
    rw [hflat] at hl
    have ha0 : At s k (t.tin (lp) ++ ((signM c.op).1 ++ (u.tin (q + 1) ++ y))) := by simpa [List.append_assoc] using ha
    have ha1 := ha0.app
    have ha2 := ha1.app
    obtain ⟨b, r, hbr, hb61⟩ := (tin_head hu1).2 (q + 1)
    obtain ⟨a1, ⟨a2, a3, a4, a5, a6⟩, a7, a8⟩ := sign_ahead hc1 hc2 hb61 (r ++ y)
    have hah : opAhead ((signM c.op).1 ++ (u.tin (q + 1) ++ y)) = (c.op, strLen (signM c.op).1) := by rw [hbr]; exact a1
    have hafter : After ((signM c.op).1 ++ (u.tin (q + 1) ++ y)) := by rw [a4]; exact ⟨a5, a6⟩
    have hweak : Weak q ((signM c.op).1 ++ (u.tin (q + 1) ++ y)) := .inr (by rw [hah, hqd]; exact Int.le_refl _)
    have hop : ∀ o1 : List Cell, ¬ atEnd s q ⟨k + strLen (t.tin (lp)), o1, -1⟩ ∧ operM (s.drop (k + strLen (t.tin (lp))).toNat) q = (c.op, strLen (signM c.op).1) := by
      intro o1
      have e : operM (s.drop (k + strLen (t.tin (lp))).toNat) q = (c.op, strLen (signM c.op).1) := by
        rw [ha1.eq, oper_ahead _ q (by omega) (by omega), hah, if_pos hqd]
      refine ⟨?_, e⟩
      intro hx
      apply hx
      refine ⟨by show (-1 : Int) < 0; omega, ?_⟩
      show (operM (s.drop (k + strLen (t.tin (lp))).toNat) q).1 ≠ 0
      rw [e]; show c.op ≠ 0; omega
    have hru : ∀ o1 : List Cell, Run s (.bin (q + 1)) ⟨k + strLen (t.tin (lp)) + strLen (signM c.op).1, o1, -1⟩ ⟨k + strLen (t.tin (lp)) + strLen (signM c.op).1 + strLen (u.tin (q + 1)), o1 ++ u.flat, -1⟩ := by
      intro o1
      by_cases hq5 : q + 1 = 6
      · rw [hq5] at ha2 ⊢
        exact .six (hUu _ o1 y ha2 hy)
      · exact (hBu (q + 1) (by omega) (by omega)).full (by omega) (by omega) ha2 hy hwk (by omega)
    have hend : k + strLen (t.tin (lp) ++ ((signM c.op).1 ++ u.tin (q + 1))) = k + strLen (t.tin (lp)) + strLen (signM c.op).1 + strLen (u.tin (q + 1)) := by
      rw [strLen_app, strLen_app]; omega
    rw [hend] at hl
    have hfl : out ++ (t.flat ++ u.flat ++ [⟨c.op, 0, []⟩]) = ((out ++ t.flat) ++ u.flat) ++ [⟨c.op, 0, []⟩] := by simp
    rw [hfl] at hl
    have hay := ha2.app
    have hown : ∀ o', (q = 3 → o' = ⟨k + strLen (t.tin (lp)) + strLen (signM c.op).1 + strLen (u.tin (q + 1)), ((out ++ t.flat) ++ u.flat) ++ [⟨c.op, 0, []⟩], -1⟩) → Run s (.loop q) ⟨k + strLen (t.tin (lp)) + strLen (signM c.op).1 + strLen (u.tin (q + 1)), ((out ++ t.flat) ++ u.flat) ++ [⟨c.op, 0, []⟩], -1⟩ o' → Run s (.bin q) ⟨k, out, -1⟩ o' := by
      intro o' h3 hlo
      obtain ⟨n1, n2⟩ := hop (out ++ t.flat)
      have hru' := hru (out ++ t.flat)
      by_cases hq3 : q = 3
      · subst hq3
        have el : lp = 4 := by rw [← hlpd]; rfl
        subst el
        have hb4 := (hBt 4 (by omega) (by omega)).full (by omega) (by omega) (out := out) ha0 hafter hweak (by omega)
        rw [h3 rfl]
        refine .bin (by omega) (by omega) hb4 ?_
        have := Run.once (s := s) (r := ⟨k + strLen (t.tin 4), out ++ t.flat, -1⟩) (q := ⟨k + strLen (t.tin 4) + strLen (signM c.op).1 + strLen (u.tin (3 + 1)), (out ++ t.flat) ++ u.flat, -1⟩) n1 (by simp only [n2]; exact hru')
        simp only [n2] at this
        exact this
      · have el : q = lp := (show leftP q = q by unfold leftP; rw [beq_eq_false_iff_ne.2 hq3]; rfl).symm.trans hlpd
        subst el
        refine hBt q (by omega) (by omega) k out _ o' ha0 hafter hweak (fun e => absurd e hq3) ?_
        have := Run.more (s := s) (p := q) (r := ⟨k + strLen (t.tin q), out ++ t.flat, -1⟩) (q := ⟨k + strLen (t.tin q) + strLen (signM c.op).1 + strLen (u.tin (q + 1)), (out ++ t.flat) ++ u.flat, -1⟩) (o := o') (by omega) (by omega) hq3 n1 (by simp only [n2]; exact hru') (by simp only [n2]; exact hlo)
        exact this
    by_cases hpq : p = q
    · subst hpq
      refine hown o (fun e => ?_) hl
      exact ((Run.done (weak_end (o := ⟨_, _, -1⟩) hay (hw3 e) (by omega) (by omega) (by omega))).det hl).symm
    · have hdone : Run s (.bin q) ⟨k, out, -1⟩ ⟨k + strLen (t.tin (lp)) + strLen (signM c.op).1 + strLen (u.tin (q + 1)), ((out ++ t.flat) ++ u.flat) ++ [⟨c.op, 0, []⟩], -1⟩ :=
        hown _ (fun _ => rfl) (.done (weak_end (o := ⟨_, _, -1⟩) hay hwk (by omega) (by omega) (by omega)))
      refine .bin h1 h5 (down (q - (p + 1)).toNat (p + 1) q _ _ (by omega) (by omega) (by omega) hdone fun j hj hj2 => ?_) hl
      exact weak_end (o := ⟨_, _, -1⟩) hay hwk (by omega) (by omega) (by omega)
/-! ### lengths -/
theorem leaf_len {c : Cell} (h : wantsC c = 0) : (leafS c).length ≤ 16 := by
  rcases leaf_cell h with ⟨a, rfl, h0, h1⟩ | ⟨a, rfl, h0, h1⟩ | rfl | rfl | ⟨n, rfl, hn⟩ | ⟨n, rfl, hn⟩
  · show (Lib.itoa a).length ≤ 16
    rw [itoa_nat h0]
    have := ten_digits 13 a.toNat (by omega); omega
  · show (Lib.itoa a ++ [105]).length ≤ 16
    rw [itoa_nat h0, List.length_append]
    have := ten_digits 7 a.toNat (by omega)
    simp only [List.length_cons, List.length_nil]; omega
  · decide
  · decide
  · have := (nameM_word hn).2.2.2.2.2.2.2
    show n.length ≤ 16
    simp only [strLen] at this; omega
  · have := (nameM_word hn).2.2.2.2.2.2.2
    have e : leafS ⟨6, 0, n⟩ = [105, 110, 40] ++ n ++ [41] := rfl
    rw [e]
    simp only [strLen, List.length_append, List.length_cons, List.length_nil] at *; omega
theorem sign_len (op : Int) : (signM op).1.length ≤ 2 := by
  have h2 : ∀ (b : Bool) (x y : Str × Int), x.1.length ≤ 2 → y.1.length ≤ 2 → (bif b then x else y).1.length ≤ 2 := by intro b x y hx hy; cases b <;> assumption
  unfold signM
  repeat' (first | exact (by decide) | refine h2 _ _ _ ?_ ?_)
theorem paren_len (p : Int) (b : Str) (q : Int) : (parenS p b q).length ≤ b.length + 2 := by
  unfold parenS
  cases decide (p < q)
  · show b.length ≤ _; omega
  · show ([40] ++ b ++ [41]).length ≤ _
    simp only [List.length_append, List.length_cons, List.length_nil]; omega
theorem body_len (t : Tm) (ht : t.ok) : t.body.length ≤ 16 * t.flat.length ∧ ∀ p, p ≤ 7 → (t.tin p).length ≤ 16 * t.flat.length := by
  induction t with
  | leaf c =>
    have h : (Tm.leaf c).body.length ≤ 16 * (Tm.leaf c).flat.length := by have := leaf_len ht; show (leafS c).length ≤ 16 * 1; omega
    refine ⟨h, fun p hp => ?_⟩
    have hpw : (Tm.leaf c).pow = 7 := by
      rcases leaf_cell ht with ⟨a, rfl, _⟩ | ⟨a, rfl, _⟩ | rfl | rfl | ⟨n, rfl, _⟩ | ⟨n, rfl, _⟩ <;> rfl
    rw [Tm.tin_body (by omega)]; exact h
  | un c t ih =>
    have h1 := (ih ht.2).1
    have h2 : (Tm.un c t).body.length + 2 ≤ 16 * (Tm.un c t).flat.length := by
      show (unS c.op t.body t.pow).length + 2 ≤ 16 * (t.flat ++ [c]).length
      have hs := sign_len c.op
      have hp := paren_len t.pow t.body 6
      unfold unS
      simp only [cond_eq_ite]
      repeat' split
      all_goals (simp only [List.length_append, List.length_cons, List.length_nil] at *; omega)
    exact ⟨by omega, fun p _ => by have := paren_len (Tm.un c t).pow (Tm.un c t).body p; unfold Tm.tin; omega⟩
  | bin c t u ih1 ih2 =>
    have h1 := (ih1 ht.2.1).1
    have h3 := (ih2 ht.2.2).1
    have h2 : (Tm.bin c t u).body.length + 2 ≤ 16 * (Tm.bin c t u).flat.length := by
      show (binS c.op t.body t.pow u.body u.pow).length + 2 ≤ 16 * (t.flat ++ u.flat ++ [c]).length
      have hs := sign_len c.op
      have hp := paren_len t.pow t.body (leftP (signM c.op).2)
      have hp2 := paren_len u.pow u.body ((signM c.op).2 + 1)
      unfold binS
      simp only [List.length_append, List.length_cons, List.length_nil] at *; omega
    exact ⟨by omega, fun p _ => by have := paren_len (Tm.bin c t u).pow (Tm.bin c t u).body p; unfold Tm.tin; omega⟩
theorem parse_body {t : Tm} (ht : t.ok) (hl : t.flat.length ≤ 32) : parseE t.body = (t.flat, 0, 0) := by
  have hp := t.pow_bounds ht
  have hB := (tree_reads (s := t.body) t ht).2 1 (by omega) (by omega)
  rw [Tm.tin_body hp.1] at hB
  have ha : At t.body 0 (t.body ++ []) := ⟨Int.le_refl _, by simp [strLen], by simp⟩
  have hr := hB.full (by omega) (by omega) (out := []) (q := 0) ha trivial (.inl rfl) (by omega)
  have hb := (body_len t ht).1
  unfold parseE
  rw [run_is hr]
  have hsl : strLen t.body = (t.body.length : Int) := rfl
  rw [if_neg (by omega), if_neg (by show ¬ (-1 : Int) ≥ 0; omega), if_neg (by show ¬ 0 + strLen t.body < strLen t.body; omega), if_neg (by show ¬ (([] ++ t.flat).length : Int) > 32; rw [List.nil_append]; omega)]
  rfl
end Go.Proofs.YtjndellhebidoaaGreatDoor

/- Plain laws: floats that are whole numbers, their sums and products; parts of points. Conditions: each theorem's own. -/
import Derived.Laws.ComplexArith
import Derived.Test.YtndkapkejmkphaaDoorPC
import Derived.Test.YtndkapkejmkphaaDoorPR
namespace Go.Ev
open Ieee

theorem log2_lt {a n : Nat} (h0 : a ≠ 0) (h : a < 2 ^ n) : a.log2 < n := (Nat.log2_lt h0).2 h
theorem log2_mul_pow {a : Nat} (h0 : a ≠ 0) (k : Nat) : (a * 2 ^ k).log2 = a.log2 + k := by
  have h1 := Nat.log2_self_le h0
  have h2 : a < 2 ^ (a.log2 + 1) := Nat.lt_log2_self
  have hne : a * 2 ^ k ≠ 0 := Nat.mul_ne_zero h0 (Nat.ne_of_gt (Nat.two_pow_pos k))
  have ha : 2 ^ (a.log2 + k) ≤ a * 2 ^ k := by rw [Nat.pow_add]; exact Nat.mul_le_mul_right _ h1
  have hb : a * 2 ^ k < 2 ^ (a.log2 + k + 1) := by
    rw [show a.log2 + k + 1 = a.log2 + 1 + k from by omega, Nat.pow_add]
    exact Nat.mul_lt_mul_of_pos_right h2 (Nat.two_pow_pos k)
  have g1 : a.log2 + k ≤ (a * 2 ^ k).log2 := (Nat.le_log2 hne).2 ha
  have g2 : (a * 2 ^ k).log2 < a.log2 + k + 1 := (Nat.log2_lt hne).2 hb
  omega
theorem cut_even_zero (neg : Bool) (n : Nat) : Toward.even.cut neg n 0 = n := by
  simp [Toward.cut, Nat.mod_one]
theorem cut_even_exact (neg : Bool) (b d : Nat) (hb : b ≠ 0) : Toward.even.cut neg (b * 2 ^ d) d = b := by
  have hl := log2_mul_pow hb d
  have hmin : min d ((b * 2 ^ d).log2 + 2) = d := by rw [hl]; omega
  have hg : (1 : Nat) <<< d = 2 ^ d := by rw [Nat.shiftLeft_eq, Nat.one_mul]
  have hpos := Nat.two_pow_pos d
  simp only [Toward.cut, hmin, hg, Nat.mul_div_cancel _ hpos, Nat.mul_mod_left]
  have h2 : (2 ^ d == 2 * 0) = false := by simp
  simp [h2]
theorem leastPlace_double : double.leastPlace = -1074 := by decide
theorem binade_double : double.binade = 4503599627370496 := by decide
theorem infRung_double : double.infRung = 9218868437227405312 := by decide
theorem signWeight_double : double.signWeight = 9223372036854775808 := by decide
theorem word_parts (neg : Bool) (r : Nat) (hr : r < 9223372036854775808) : double.word neg r / 9223372036854775808 % 2 = neg.toNat ∧ double.word neg r % 9223372036854775808 = r := by
  have hw : double.word neg r = if neg then 9223372036854775808 + r else r := by unfold Format.word; rw [signWeight_double]
  rw [hw]
  cases neg
  · simp only [Bool.false_eq_true, if_false, Bool.toNat_false]; omega
  · simp only [if_true, Bool.toNat_true]; omega
theorem read_eq (x : Nat) : double.read x = if x % 9223372036854775808 < 4503599627370496 then .number (x / 9223372036854775808 % 2 == 1) (x % 9223372036854775808) (-1074)
    else if x % 9223372036854775808 < 9218868437227405312 then .number (x / 9223372036854775808 % 2 == 1) (4503599627370496 + x % 9223372036854775808 % 4503599627370496) (-1074 + (x % 9223372036854775808 / 4503599627370496 - 1 : Nat))
    else if x % 9223372036854775808 = 9218868437227405312 then .infinity (x / 9223372036854775808 % 2 == 1) else .nan (x / 9223372036854775808 % 2 == 1) (x % 9223372036854775808 - 9218868437227405312) := by
  unfold Format.read
  simp only [signWeight_double, binade_double, infRung_double, leastPlace_double]
theorem read_word (neg : Bool) (q f : Nat) (hq : 1 ≤ q) (hq2 : q < 2047) (hf : f < 4503599627370496) : double.read (double.word neg (q * 4503599627370496 + f)) = .number neg (4503599627370496 + f) (-1074 + ((q - 1 : Nat) : Int)) := by
  have hr : q * 4503599627370496 + f < 9223372036854775808 := by omega
  obtain ⟨h1, h2⟩ := word_parts neg _ hr
  have c1 : ¬ (q * 4503599627370496 + f < 4503599627370496) := by omega
  have c2 : q * 4503599627370496 + f < 9218868437227405312 := by omega
  have c3 : (q * 4503599627370496 + f) % 4503599627370496 = f := by omega
  have c4 : (q * 4503599627370496 + f) / 4503599627370496 = q := by omega
  rw [read_eq, h1, h2, if_neg c1, if_pos c2, c3, c4]
  cases neg <;> rfl
theorem read_nearest (s : Bool) (a k : Nat) (h0 : a ≠ 0) (h : a < 2 ^ 53) : double.read (double.nearest s (a * 2 ^ k) (-(k : Int))) = .number s (a * 2 ^ (52 - a.log2)) ((a.log2 : Int) - 52) := by
  have hl := log2_mul_pow h0 k
  have hlt := log2_lt h0 h
  have hne : a * 2 ^ k ≠ 0 := Nat.mul_ne_zero h0 (Nat.ne_of_gt (Nat.two_pow_pos k))
  have hlast : max (-(k : Int) + ((a * 2 ^ k).log2 : Int) - (double.fractionBits : Int)) double.leastPlace = (a.log2 : Int) - 52 := by
    rw [hl, leastPlace_double]
    have : (double.fractionBits : Int) = 52 := rfl
    rw [this]; omega
  have hkept : Toward.even.cut s ((a * 2 ^ k) <<< (-(k : Int) - ((a.log2 : Int) - 52)).toNat) (((a.log2 : Int) - 52) - -(k : Int)).toNat = a * 2 ^ (52 - a.log2) := by
    rcases Nat.le_total (k + a.log2) 52 with hc | hc
    · have e1 : (-(k : Int) - ((a.log2 : Int) - 52)).toNat = 52 - a.log2 - k := by omega
      have e2 : (((a.log2 : Int) - 52) - -(k : Int)).toNat = 0 := by omega
      rw [e1, e2, cut_even_zero, Nat.shiftLeft_eq, Nat.mul_assoc, ← Nat.pow_add]
      congr 2; omega
    · have e1 : (-(k : Int) - ((a.log2 : Int) - 52)).toNat = 0 := by omega
      have e2 : (((a.log2 : Int) - 52) - -(k : Int)).toNat = k + a.log2 - 52 := by omega
      rw [e1, e2, Nat.shiftLeft_zero]
      have e3 : a * 2 ^ k = a * 2 ^ (52 - a.log2) * 2 ^ (k + a.log2 - 52) := by
        rw [Nat.mul_assoc, ← Nat.pow_add]; congr 2; omega
      rw [e3]
      exact cut_even_exact s _ _ (Nat.mul_ne_zero h0 (Nat.ne_of_gt (Nat.two_pow_pos _)))
  have hk1 : 2 ^ 52 ≤ a * 2 ^ (52 - a.log2) := by
    have h1 := Nat.log2_self_le h0
    have : 2 ^ 52 = 2 ^ a.log2 * 2 ^ (52 - a.log2) := by rw [← Nat.pow_add]; congr 1; omega
    rw [this]; exact Nat.mul_le_mul_right _ h1
  have hk2 : a * 2 ^ (52 - a.log2) < 2 ^ 53 := by
    have h2 : a < 2 ^ (a.log2 + 1) := Nat.lt_log2_self
    have : 2 ^ 53 = 2 ^ (a.log2 + 1) * 2 ^ (52 - a.log2) := by rw [← Nat.pow_add]; congr 1; omega
    rw [this]; exact Nat.mul_lt_mul_of_pos_right h2 (Nat.two_pow_pos _)
  have hn : double.nearest s (a * 2 ^ k) (-(k : Int)) = double.word s (min (((a.log2 : Int) - 52 - -1074).toNat * 4503599627370496 + a * 2 ^ (52 - a.log2)) 9218868437227405312) := by
    unfold Format.nearest
    rw [if_neg hne]
    dsimp only
    rw [hlast, hkept, leastPlace_double, binade_double, infRung_double]
  rw [hn]
  clear hn hkept hlast
  have p52 : (2 : Nat) ^ 52 = 4503599627370496 := by decide
  have p53 : (2 : Nat) ^ 53 = 9007199254740992 := by decide
  rw [p52] at hk1
  rw [p53] at hk2
  generalize a * 2 ^ (52 - a.log2) = m at hk1 hk2 ⊢
  have e4 : ((a.log2 : Int) - 52 - -1074).toNat = a.log2 + 1022 := by omega
  rw [e4]
  have e5 : min ((a.log2 + 1022) * 4503599627370496 + m) 9218868437227405312 = (a.log2 + 1023) * 4503599627370496 + (m - 4503599627370496) := by omega
  rw [e5, read_word s (a.log2 + 1023) (m - 4503599627370496) (by omega) (by omega) (by omega)]
  have e6 : 4503599627370496 + (m - 4503599627370496) = m := by omega
  have e7 : (-1074 : Int) + ((a.log2 + 1023 - 1 : Nat) : Int) = (a.log2 : Int) - 52 := by omega
  rw [e6, e7]
theorem read_nought (s : Bool) (p : Int) : double.read (double.nearest s 0 p) = .number s 0 (-1074) := by
  have : double.nearest s 0 p = double.word s 0 := by unfold Format.nearest; rw [if_pos rfl]
  obtain ⟨h1, h2⟩ := word_parts s 0 (by omega)
  rw [this, read_eq, h1, h2, if_pos (by omega)]
  cases s <;> rfl
end Go.Ev

namespace Go.Ev
open Ieee

def isI (x : Nat) (n : Int) : Prop := ∃ (s : Bool) (k : Nat), double.read x = .number s (n.natAbs * 2 ^ k) (-(k : Int)) ∧ (n < 0 → s = true) ∧ (0 < n → s = false)
theorem isI_nearest (s : Bool) (n : Int) (k : Nat) (h : n.natAbs < 2 ^ 53) (h1 : n < 0 → s = true) (h2 : 0 < n → s = false) : isI (double.nearest s (n.natAbs * 2 ^ k) (-(k : Int))) n := by
  by_cases h0 : n.natAbs = 0
  · obtain ⟨q, hq⟩ : ∃ q : Nat, (-1074 : Int) = -(q : Int) := ⟨1074, rfl⟩
    refine ⟨s, q, ?_, h1, h2⟩
    rw [h0, Nat.zero_mul, Nat.zero_mul, read_nought, hq]
  · have hlt := log2_lt h0 h
    refine ⟨s, 52 - n.natAbs.log2, ?_, h1, h2⟩
    rw [read_nearest s _ k h0 h]
    congr 1
    omega
theorem isI_ofInt (n : Int) (h : n.natAbs < 2 ^ 53) : isI (FloatKind.f64.nearest n) n := by
  have := isI_nearest (decide (n < 0)) n 0 h (fun h => by simpa using h) (fun h => by simp; omega)
  simpa [FloatKind.nearest, FloatKind.encode, FloatKind.format, Format.write] using this
theorem signed_val (s : Bool) (n : Int) (j : Nat) (h1 : n < 0 → s = true) (h2 : 0 < n → s = false) (m : Nat) (hm : m = n.natAbs * 2 ^ j) (u : Nat) : signed s m u = n * 2 ^ (j + u) := by
  subst hm
  unfold signed
  rw [Nat.shiftLeft_eq, Nat.mul_assoc, ← Nat.pow_add]
  cases s
  · have : 0 ≤ n := by
      rcases Int.lt_or_le n 0 with h | h
      · exact absurd (h1 h) (by simp)
      · exact h
    simp only [Bool.false_eq_true, if_false, Int.natCast_mul, Int.natCast_pow]
    congr 1; omega
  · have : n ≤ 0 := by
      rcases Int.lt_or_le 0 n with h | h
      · exact absurd (h2 h) (by simp)
      · exact h
    simp only [if_true, Int.natCast_mul, Int.natCast_pow]
    rw [← Int.neg_mul]
    congr 1; omega
theorem base_eq (k l : Nat) : min (-(k : Int)) (-(l : Int)) = -((max k l : Nat) : Int) := by omega
theorem isI_sum {x y : Nat} {n m : Int} (hx : isI x n) (hy : isI y m) (h : (n + m).natAbs < 2 ^ 53) : ∃ r, double.add x y = some r ∧ isI r (n + m) := by
  obtain ⟨s, k, e1, a1, a2⟩ := hx
  obtain ⟨t, l, e2, b1, b2⟩ := hy
  have g1 := signed_val s n k a1 a2 _ rfl ((-(k : Int)) - -((max k l : Nat) : Int)).toNat
  have g2 := signed_val t m l b1 b2 _ rfl ((-(l : Int)) - -((max k l : Nat) : Int)).toNat
  have u1 : k + ((-(k : Int)) - -((max k l : Nat) : Int)).toNat = max k l := by omega
  have u2 : l + ((-(l : Int)) - -((max k l : Nat) : Int)).toNat = max k l := by omega
  rw [u1] at g1
  rw [u2] at g2
  have hpos : (0 : Int) < 2 ^ (max k l) := Int.pow_pos (by decide)
  have htot : n * 2 ^ (max k l) + m * 2 ^ (max k l) = (n + m) * 2 ^ (max k l) := by rw [Int.add_mul]
  refine ⟨_, by simp only [Format.add, e1, e2, Datum.sum, base_eq, g1, g2, htot, Option.map_some, Format.write]; rfl, ?_⟩
  have hab : ((n + m) * 2 ^ (max k l)).natAbs = (n + m).natAbs * 2 ^ (max k l) := by rw [Int.natAbs_mul, Int.natAbs_pow]; rfl
  rw [hab]
  refine isI_nearest _ (n + m) (max k l) h (fun hn => ?_) (fun hn => ?_)
  · have : (n + m) * 2 ^ (max k l) < 0 := Int.mul_neg_of_neg_of_pos hn hpos
    rw [if_neg (by omega)]; simpa using this
  · have : 0 < (n + m) * 2 ^ (max k l) := Int.mul_pos hn hpos
    rw [if_neg (by omega)]; simp; omega
theorem isI_less {x y : Nat} {n m : Int} (hx : isI x n) (hy : isI y m) (h : (n - m).natAbs < 2 ^ 53) : ∃ r, double.sub x y = some r ∧ isI r (n - m) := by
  obtain ⟨s, k, e1, a1, a2⟩ := hx
  obtain ⟨t, l, e2, b1, b2⟩ := hy
  have g1 := signed_val s n k a1 a2 _ rfl ((-(k : Int)) - -((max k l : Nat) : Int)).toNat
  have g2 := signed_val (!t) (-m) l (fun h => by rw [b2 (by omega)]; rfl) (fun h => by rw [b1 (by omega)]; rfl) (m.natAbs * 2 ^ l) (by rw [Int.natAbs_neg]) ((-(l : Int)) - -((max k l : Nat) : Int)).toNat
  have u1 : k + ((-(k : Int)) - -((max k l : Nat) : Int)).toNat = max k l := by omega
  have u2 : l + ((-(l : Int)) - -((max k l : Nat) : Int)).toNat = max k l := by omega
  rw [u1] at g1
  rw [u2] at g2
  have hpos : (0 : Int) < 2 ^ (max k l) := Int.pow_pos (by decide)
  have htot : n * 2 ^ (max k l) + -m * 2 ^ (max k l) = (n - m) * 2 ^ (max k l) := by rw [← Int.add_mul]; rfl
  refine ⟨_, by simp only [Format.sub, e1, e2, Datum.opposite, Datum.sum, base_eq, g1, g2, htot, Option.map_some, Format.write]; rfl, ?_⟩
  have hab : ((n - m) * 2 ^ (max k l)).natAbs = (n - m).natAbs * 2 ^ (max k l) := by rw [Int.natAbs_mul, Int.natAbs_pow]; rfl
  rw [hab]
  refine isI_nearest _ (n - m) (max k l) h (fun hn => ?_) (fun hn => ?_)
  · have : (n - m) * 2 ^ (max k l) < 0 := Int.mul_neg_of_neg_of_pos hn hpos
    rw [if_neg (by omega)]; simpa using this
  · have : 0 < (n - m) * 2 ^ (max k l) := Int.mul_pos hn hpos
    rw [if_neg (by omega)]; simp; omega
theorem isI_product {x y : Nat} {n m : Int} (hx : isI x n) (hy : isI y m) (h : (n * m).natAbs < 2 ^ 53) : ∃ r, double.mul x y = some r ∧ isI r (n * m) := by
  obtain ⟨s, k, e1, a1, a2⟩ := hx
  obtain ⟨t, l, e2, b1, b2⟩ := hy
  refine ⟨_, by simp only [Format.mul, e1, e2, Datum.product, Option.map_some, Format.write]; rfl, ?_⟩
  have e3 : n.natAbs * 2 ^ k * (m.natAbs * 2 ^ l) = (n * m).natAbs * 2 ^ (k + l) := by
    rw [Int.natAbs_mul, Nat.pow_add]; ac_rfl
  have e4 : -(k : Int) + -(l : Int) = -((k + l : Nat) : Int) := by omega
  rw [e3, e4]
  refine isI_nearest _ (n * m) (k + l) h (fun hn => ?_) (fun hn => ?_)
  · rcases Int.lt_trichotomy n 0 with h1 | h1 | h1
    · rcases Int.lt_trichotomy m 0 with h2 | h2 | h2
      · have := Int.mul_pos_of_neg_of_neg h1 h2; omega
      · subst h2; simp at hn
      · rw [a1 h1, b2 h2]; rfl
    · subst h1; simp at hn
    · rcases Int.lt_trichotomy m 0 with h2 | h2 | h2
      · rw [a2 h1, b1 h2]; rfl
      · subst h2; simp at hn
      · have := Int.mul_pos h1 h2; omega
  · rcases Int.lt_trichotomy n 0 with h1 | h1 | h1
    · rcases Int.lt_trichotomy m 0 with h2 | h2 | h2
      · rw [a1 h1, b1 h2]; rfl
      · subst h2; simp at hn
      · have := Int.mul_neg_of_neg_of_pos h1 h2; omega
    · subst h1; simp at hn
    · rcases Int.lt_trichotomy m 0 with h2 | h2 | h2
      · have := Int.mul_neg_of_pos_of_neg h1 h2; omega
      · subst h2; simp at hn
      · rw [a2 h1, b2 h2]; rfl
end Go.Ev

namespace Go.Ev
open Ieee

theorem compare_scale (a b c : Int) (hc : 0 < c) : compare (a * c) (b * c) = compare a b := by
  rcases Int.lt_trichotomy a b with h | h | h
  · rw [Int.compare_eq_lt.2 h, Int.compare_eq_lt.2 (Int.mul_lt_mul_of_pos_right h hc)]
  · subst h; simp
  · rw [Int.compare_eq_gt.2 h, Int.compare_eq_gt.2 (Int.mul_lt_mul_of_pos_right h hc)]
theorem isI_ord {x y : Nat} {n m : Int} (hx : isI x n) (hy : isI y m) : fOrd x y = some (compare n m) := by
  obtain ⟨s, k, e1, a1, a2⟩ := hx
  obtain ⟨t, l, e2, b1, b2⟩ := hy
  have g1 := signed_val s n k a1 a2 _ rfl ((-(k : Int)) - -((max k l : Nat) : Int)).toNat
  have g2 := signed_val t m l b1 b2 _ rfl ((-(l : Int)) - -((max k l : Nat) : Int)).toNat
  have u1 : k + ((-(k : Int)) - -((max k l : Nat) : Int)).toNat = max k l := by omega
  have u2 : l + ((-(l : Int)) - -((max k l : Nat) : Int)).toNat = max k l := by omega
  rw [u1] at g1
  rw [u2] at g2
  have hpos : (0 : Int) < 2 ^ (max k l) := Int.pow_pos (by decide)
  simp only [fOrd, FloatKind.format, Format.order, e1, e2, Datum.order, base_eq, g1, g2, compare_scale _ _ _ hpos]
theorem isI_toInt {x : Nat} {n : Int} (hx : isI x n) : (FloatKind.f64.decode x).toInt .zero = some n := by
  obtain ⟨s, k, e1, a1, a2⟩ := hx
  have hcut : Toward.zero.cut s (n.natAbs * 2 ^ k) k = n.natAbs := by
    by_cases h0 : n.natAbs = 0
    · rw [h0]; simp [Toward.cut]
    · have hl := log2_mul_pow h0 k
      have hmin : min k ((n.natAbs * 2 ^ k).log2 + 2) = k := by rw [hl]; omega
      have hg : (1 : Nat) <<< k = 2 ^ k := by rw [Nat.shiftLeft_eq, Nat.one_mul]
      simp only [Toward.cut, hmin, hg, Nat.mul_div_cancel _ (Nat.two_pow_pos k)]
      simp
  have e2 : (FloatKind.f64.decode x) = .number s (n.natAbs * 2 ^ k) (-(k : Int)) := e1
  have u1 : (-(k : Int)).toNat = 0 := by omega
  have u2 : (- -(k : Int)).toNat = k := by omega
  simp only [e2, Datum.toInt, Datum.integral, u1, u2, Nat.shiftLeft_zero, hcut]
  have := signed_val s n 0 a1 a2 n.natAbs (by simp) 0
  simp only [Nat.add_zero] at this
  rw [this]; simp
theorem isI_fInt {x : Nat} {n : Int} (hx : isI x n) : fInt x = n := by simp [fInt, isI_toInt hx]
end Go.Ev

namespace Go.Ev
open Ieee

def inB (x : Nat) : Bool := (fOrd x 13920626448202203136 == some .gt || fOrd x 13920626448202203136 == some .eq) && (fOrd x 4697254411347427328 == some .lt || fOrd x 4697254411347427328 == some .eq)
def pWhole (x : Nat) : Bool := inB x && fOrd x (FloatKind.f64.nearest (fInt x)) == some .eq
def pIn (a : Int) : Bool := decide (-1048576 ≤ a) && decide (a ≤ 1048576)
theorem near_low : FloatKind.f64.nearest (-1048576) = 13920626448202203136 := by decide
theorem near_high : FloatKind.f64.nearest 1048576 = 4697254411347427328 := by decide
theorem isI_low : isI 13920626448202203136 (-1048576) := near_low ▸ isI_ofInt (-1048576) (by decide)
theorem isI_high : isI 4697254411347427328 1048576 := near_high ▸ isI_ofInt 1048576 (by decide)
theorem fOrd_number {x y : Nat} {s t : Bool} {m n : Nat} {i j : Int} (hx : double.read x = .number s m i) (hy : double.read y = .number t n j) : fOrd x y = some (compare (signed s m (i - min i j).toNat) (signed t n (j - min i j).toNat)) := by
  simp only [fOrd, FloatKind.format, Format.order, hx, hy, Datum.order]
theorem read_low : double.read 13920626448202203136 = .number true (2 ^ 52) (-32) := by decide
theorem read_high : double.read 4697254411347427328 = .number false (2 ^ 52) (-32) := by decide
theorem inB_iff {x : Nat} : inB x = true ↔ (fOrd x 13920626448202203136 = some .gt ∨ fOrd x 13920626448202203136 = some .eq) ∧ (fOrd x 4697254411347427328 = some .lt ∨ fOrd x 4697254411347427328 = some .eq) := by
  simp [inB]
theorem inB_number {x : Nat} (h : inB x = true) : ∃ s m i, double.read x = .number s m i := by
  cases hx : double.read x with
  | number s m i => exact ⟨s, m, i, rfl⟩
  | infinity s =>
    exfalso
    obtain ⟨h1, h2⟩ := inB_iff.1 h
    simp only [fOrd, FloatKind.format, Format.order, hx, read_low, read_high, Datum.order] at h1 h2
    cases s <;> simp at h1 h2
  | nan s f =>
    exfalso
    obtain ⟨h1, _⟩ := inB_iff.1 h
    simp only [fOrd, FloatKind.format, Format.order, hx, Datum.order] at h1
    simp at h1
theorem compare_ge {a b : Int} (h : compare a b = .gt ∨ compare a b = .eq) : b ≤ a := by
  rcases h with h | h
  · exact Int.le_of_lt (Int.compare_eq_gt.1 h)
  · rw [Int.compare_eq_eq.1 h]; exact Int.le_refl _
theorem compare_le {a b : Int} (h : compare a b = .lt ∨ compare a b = .eq) : a ≤ b := by
  rcases h with h | h
  · exact Int.le_of_lt (Int.compare_eq_lt.1 h)
  · rw [Int.compare_eq_eq.1 h]; exact Int.le_refl _
theorem signed_abs (s : Bool) (m u : Nat) : (signed s m u).natAbs = m * 2 ^ u := by
  rw [← Nat.shiftLeft_eq]
  unfold signed
  generalize m <<< u = q
  cases s <;> simp
theorem signed_pos (m u : Nat) : 0 ≤ signed false m u := by
  unfold signed
  rw [if_neg (by simp)]
  exact Int.natCast_nonneg _
theorem signed_neg (m u : Nat) : signed true m u ≤ 0 := by
  unfold signed
  rw [if_pos rfl]
  have := Int.natCast_nonneg (m <<< u)
  omega
theorem inB_mag {x : Nat} (h : inB x = true) {s : Bool} {m : Nat} {i : Int} (hx : double.read x = .number s m i) : m * 2 ^ i.toNat ≤ 2 ^ 20 * 2 ^ (-i).toNat := by
  obtain ⟨h1, h2⟩ := inB_iff.1 h
  rw [fOrd_number hx read_low] at h1
  rw [fOrd_number hx read_high] at h2
  have h3 := compare_ge (h1.imp Option.some.inj Option.some.inj)
  have h4 := compare_le (h2.imp Option.some.inj Option.some.inj)
  have h5 : (signed s m (i - min i (-32)).toNat).natAbs ≤ 2 ^ 52 * 2 ^ (-32 - min i (-32)).toNat := by
    have e1 : signed true (2 ^ 52) (-32 - min i (-32)).toNat = -((2 ^ 52 * 2 ^ (-32 - min i (-32)).toNat : Nat) : Int) := by
      unfold signed; rw [Nat.shiftLeft_eq]; rfl
    have e2 : signed false (2 ^ 52) (-32 - min i (-32)).toNat = ((2 ^ 52 * 2 ^ (-32 - min i (-32)).toNat : Nat) : Int) := by
      unfold signed; rw [Nat.shiftLeft_eq]; rfl
    rw [e1] at h3
    rw [e2] at h4
    generalize 2 ^ 52 * 2 ^ (-32 - min i (-32)).toNat = c at h3 h4 ⊢
    generalize signed s m (i - min i (-32)).toNat = v at h3 h4 ⊢
    omega
  rw [signed_abs] at h5
  rcases Int.le_total i (-32) with hi | hi
  · have e1 : (i - min i (-32)).toNat = 0 := by omega
    have e2 : (-32 - min i (-32)).toNat = (-i).toNat - 32 := by omega
    have e3 : i.toNat = 0 := by omega
    have e4 : 2 ^ 20 * 2 ^ (-i).toNat = 2 ^ 52 * 2 ^ ((-i).toNat - 32) := by rw [← Nat.pow_add, ← Nat.pow_add]; congr 1; omega
    rw [e3, e4]
    rw [e1, e2] at h5
    exact h5
  · have e1 : (i - min i (-32)).toNat = (i + 32).toNat := by congr 1; omega
    have e2 : (-32 - min i (-32)).toNat = 0 := by omega
    rw [e1, e2] at h5
    rcases Int.le_total 0 i with h0 | h0
    · have e3 : (-i).toNat = 0 := by omega
      have e4 : (i + 32).toNat = i.toNat + 32 := by omega
      rw [e4, Nat.pow_add, ← Nat.mul_assoc] at h5
      rw [e3]
      have : m * 2 ^ i.toNat * 2 ^ 32 ≤ 2 ^ 20 * 2 ^ 32 := by simpa [← Nat.pow_add] using h5
      have := Nat.le_of_mul_le_mul_right this (Nat.two_pow_pos 32)
      simpa using this
    · have e3 : i.toNat = 0 := by omega
      rw [e3]
      have e5 : 2 ^ 20 * 2 ^ (-i).toNat * 2 ^ (i + 32).toNat = 2 ^ 52 := by
        rw [← Nat.pow_add, ← Nat.pow_add]; congr 1; omega
      refine Nat.le_of_mul_le_mul_right (c := 2 ^ (i + 32).toNat) ?_ (Nat.two_pow_pos _)
      rw [e5]; simpa using h5
theorem cut_zero_le (s : Bool) (n d c : Nat) (h : n ≤ c * 2 ^ d) : Toward.zero.cut s n d ≤ c := by
  have hg : (1 : Nat) <<< (min d (n.log2 + 2)) = 2 ^ (min d (n.log2 + 2)) := by rw [Nat.shiftLeft_eq, Nat.one_mul]
  simp only [Toward.cut, hg]
  show n / 2 ^ min d (n.log2 + 2) + 0 ≤ c
  rw [Nat.add_zero]
  rcases Nat.le_total d (n.log2 + 2) with hd | hd
  · rw [Nat.min_eq_left hd]
    exact Nat.div_le_of_le_mul (by rw [Nat.mul_comm]; exact h)
  · rw [Nat.min_eq_right hd]
    have : n < 2 ^ (n.log2 + 2) := Nat.lt_trans Nat.lt_log2_self (Nat.pow_lt_pow_right (by decide) (by omega))
    rw [Nat.div_eq_of_lt this]; exact Nat.zero_le _
theorem inB_int {x : Nat} (h : inB x = true) : (FloatKind.f64.decode x).toInt .zero = some (fInt x) ∧ pIn (fInt x) = true := by
  obtain ⟨s, m, i, hx⟩ := inB_number h
  have hm := inB_mag h hx
  have hd : FloatKind.f64.decode x = .number s m i := hx
  have ht : (FloatKind.f64.decode x).toInt .zero = some (signed s (Toward.zero.cut s (m <<< i.toNat) (-i).toNat) 0) := by
    rw [hd]; rfl
  have hf : fInt x = signed s (Toward.zero.cut s (m <<< i.toNat) (-i).toNat) 0 := by
    unfold fInt; rw [ht]; rfl
  refine ⟨by rw [hf]; exact ht, ?_⟩
  have hc := cut_zero_le s (m <<< i.toNat) (-i).toNat (2 ^ 20) (by rw [Nat.shiftLeft_eq]; exact hm)
  have ha := signed_abs s (Toward.zero.cut s (m <<< i.toNat) (-i).toNat) 0
  rw [← hf] at ha
  simp only [pIn, Bool.and_eq_true, decide_eq_true_eq]
  have : (2 : Nat) ^ 20 = 1048576 := by decide
  omega
theorem inB_fWhole {x : Nat} (h : inB x = true) : fWhole .i64 x := by
  obtain ⟨h1, h2⟩ := inB_int h
  simp only [pIn, Bool.and_eq_true, decide_eq_true_eq] at h2
  refine ⟨h1, ?_, ?_⟩
  · have : IntKind.i64.min = -9223372036854775808 := by decide
    omega
  · have : IntKind.i64.max = 9223372036854775807 := by decide
    omega
theorem pWhole_inB {x : Nat} (h : pWhole x = true) : inB x = true := by
  simp only [pWhole, Bool.and_eq_true] at h; exact h.1
theorem pWhole_in {x : Nat} (h : pWhole x = true) : pIn (fInt x) = true := (inB_int (pWhole_inB h)).2
theorem pIn_abs {a : Int} (h : pIn a = true) : a.natAbs ≤ 1048576 := by
  simp only [pIn, Bool.and_eq_true, decide_eq_true_eq] at h; omega
theorem pWhole_isI {x : Nat} (h : pWhole x = true) : isI x (fInt x) := by
  have hB := pWhole_inB h
  have hin := pIn_abs (pWhole_in h)
  have he : fOrd x (FloatKind.f64.nearest (fInt x)) = some .eq := by
    simp only [pWhole, Bool.and_eq_true, beq_iff_eq] at h; exact h.2
  obtain ⟨s, m, i, hx⟩ := inB_number hB
  have hm := inB_mag hB hx
  obtain ⟨t, k, hy, b1, b2⟩ := isI_ofInt (fInt x) (by omega)
  generalize fInt x = n at *
  rw [fOrd_number hx hy] at he
  have hv := Int.compare_eq_eq.1 (Option.some.inj he)
  have hi : i ≤ 0 := by
    rw [read_eq] at hx
    split at hx
    · cases hx; decide
    · split at hx
      · rcases Int.le_total i 0 with h | h
        · exact h
        · exfalso
          have hmm : 4503599627370496 ≤ m := by
            simp only [Datum.number.injEq] at hx; omega
          have e : (-i).toNat = 0 := by omega
          rw [e] at hm
          have : m * 1 ≤ m * 2 ^ i.toNat := Nat.mul_le_mul_left _ (Nat.two_pow_pos _)
          have p20 : (2 : Nat) ^ 20 * 2 ^ 0 = 1048576 := by decide
          omega
      · split at hx <;> cases hx
  obtain ⟨k', rfl⟩ : ∃ k' : Nat, i = -(k' : Int) := ⟨(-i).toNat, by omega⟩
  have g2 := signed_val t n k b1 b2 _ rfl ((-(k : Int)) - min (-(k' : Int)) (-(k : Int))).toNat
  rw [g2] at hv
  have hab := congrArg Int.natAbs hv
  rw [signed_abs, Int.natAbs_mul, Int.natAbs_pow] at hab
  have e1 : (-(k' : Int) - min (-(k' : Int)) (-(k : Int))).toNat = max k' k - k' := by omega
  have e2 : k + (-(k : Int) - min (-(k' : Int)) (-(k : Int))).toNat = max k' k := by omega
  rw [e1, e2] at hab
  have hmm : m = n.natAbs * 2 ^ k' := by
    have e3 : (2 : Int).natAbs ^ max k' k = 2 ^ k' * 2 ^ (max k' k - k') := by
      rw [← Nat.pow_add]; show 2 ^ max k' k = _; congr 1; omega
    rw [e3, ← Nat.mul_assoc] at hab
    exact Nat.eq_of_mul_eq_mul_right (Nat.two_pow_pos _) hab
  rw [e2] at hv
  have hpos : (0 : Int) < 2 ^ max k' k := Int.pow_pos (by decide)
  refine ⟨s, k', by rw [hx, hmm], fun hn => ?_, fun hn => ?_⟩
  · cases s
    · exfalso
      have : n * 2 ^ max k' k < 0 := Int.mul_neg_of_neg_of_pos hn hpos
      rw [← hv] at this
      have := signed_pos m (-(k' : Int) - min (-(k' : Int)) (-(k : Int))).toNat
      omega
    · rfl
  · cases s
    · rfl
    · exfalso
      have : 0 < n * 2 ^ max k' k := Int.mul_pos hn hpos
      rw [← hv] at this
      have := signed_neg m (-(k' : Int) - min (-(k' : Int)) (-(k : Int))).toNat
      omega
theorem isI_inB {x : Nat} {n : Int} (h : isI x n) : inB x = pIn n := by
  unfold inB
  rw [isI_ord h isI_low, isI_ord h isI_high]
  rw [Bool.eq_iff_iff]
  simp only [pIn, Bool.and_eq_true, Bool.or_eq_true, beq_iff_eq, Option.some.injEq, decide_eq_true_eq, Int.compare_eq_gt, Int.compare_eq_lt, Int.compare_eq_eq]
  omega
theorem isI_pWhole {x : Nat} {n : Int} (h : isI x n) : pWhole x = pIn n := by
  unfold pWhole
  rw [isI_inB h]
  cases hp : pIn n
  · rfl
  · have := pIn_abs hp
    rw [isI_fInt h, isI_ord h (isI_ofInt n (by omega))]
    simp

/-! ### points, by the bits of their parts -/
def pRight (p : Nat × Nat) : Bool := pWhole p.1 && pWhole p.2
def rightO : Option (Nat × Nat) → Bool
  | some p => pRight p
  | none => false
def num (n : Int) : Nat := FloatKind.f64.nearest n
def cleanP (p : Nat × Nat) : Nat × Nat := (num (fInt p.1), num (fInt p.2))
def cleanO : Option (Nat × Nat) → Nat × Nat
  | some p => cleanP p
  | none => (0, 0)
def madeP (a b : Int) : Nat × Nat := if pIn a && pIn b then (num a, num b) else (0, 0)
def madeE (a b : Int) : Int := if pIn a && pIn b then 0 else 5
def partA (p : Nat × Nat) : Int := if pRight p then fInt p.1 else 0
def partB (p : Nat × Nat) : Int := if pRight p then fInt p.2 else 0
def partE (p : Nat × Nat) : Int := if pRight p then 0 else 12
def toldP (p q : Nat × Nat) (o : Option (Nat × Nat)) : Nat × Nat := if pRight p && pRight q && rightO o then cleanO o else (0, 0)
def toldE (p q : Nat × Nat) (o : Option (Nat × Nat)) : Int := if pRight p && pRight q then (if rightO o then 0 else 5) else 12
theorem pRight_whole {p : Nat × Nat} (h : pRight p = true) : fWhole .i64 p.1 ∧ fWhole .i64 p.2 := by
  simp only [pRight, Bool.and_eq_true] at h
  exact ⟨inB_fWhole (pWhole_inB h.1), inB_fWhole (pWhole_inB h.2)⟩
theorem pRight_isI {p : Nat × Nat} (h : pRight p = true) : isI p.1 (fInt p.1) ∧ isI p.2 (fInt p.2) ∧ pIn (fInt p.1) = true ∧ pIn (fInt p.2) = true := by
  simp only [pRight, Bool.and_eq_true] at h
  exact ⟨pWhole_isI h.1, pWhole_isI h.2, pWhole_in h.1, pWhole_in h.2⟩
theorem mulBits_isI {a b c d : Nat} {x y z u : Int} (ha : isI a x) (hb : isI b y) (hc : isI c z) (hd : isI d u) (h1 : x.natAbs ≤ 1048576) (h2 : y.natAbs ≤ 1048576) (h3 : z.natAbs ≤ 1048576) (h4 : u.natAbs ≤ 1048576) :
    ∃ r, cMulBits a b c d = some r ∧ isI r.1 (x * z - y * u) ∧ isI r.2 (x * u + y * z) := by
  have hm : ∀ {p q : Int}, p.natAbs ≤ 1048576 → q.natAbs ≤ 1048576 → (p * q).natAbs ≤ 1099511627776 := by
    intro p q hp hq
    rw [Int.natAbs_mul]
    calc p.natAbs * q.natAbs ≤ 1048576 * 1048576 := Nat.mul_le_mul hp hq
      _ = 1099511627776 := by decide
  have p53 : (2 : Nat) ^ 53 = 9007199254740992 := by decide
  have m1 := hm h1 h3; have m2 := hm h2 h4; have m3 := hm h1 h4; have m4 := hm h2 h3
  obtain ⟨ac, e1, g1⟩ := isI_product ha hc (by omega)
  obtain ⟨bd, e2, g2⟩ := isI_product hb hd (by omega)
  obtain ⟨re, e3, g3⟩ := isI_less g1 g2 (by omega)
  obtain ⟨ad, e4, g4⟩ := isI_product ha hd (by omega)
  obtain ⟨bc, e5, g5⟩ := isI_product hb hc (by omega)
  obtain ⟨im, e6, g6⟩ := isI_sum g4 g5 (by omega)
  refine ⟨(re, im), ?_, g3, g6⟩
  have f1 : floatBits .mul .f64 a c = some ac := e1
  have f2 : floatBits .mul .f64 b d = some bd := e2
  have f3 : floatBits .sub .f64 ac bd = some re := e3
  have f4 : floatBits .mul .f64 a d = some ad := e4
  have f5 : floatBits .mul .f64 b c = some bc := e5
  have f6 : floatBits .add .f64 ad bc = some im := e6
  simp [cMulBits, f1, f2, f3, f4, f5, f6]
theorem mul_some {p q : Nat × Nat} (hp : pRight p = true) (hq : pRight q = true) : (cMulBits p.1 p.2 q.1 q.2).isSome = true := by
  obtain ⟨a1, a2, a3, a4⟩ := pRight_isI hp
  obtain ⟨b1, b2, b3, b4⟩ := pRight_isI hq
  obtain ⟨r, hr, _⟩ := mulBits_isI a1 a2 b1 b2 (pIn_abs a3) (pIn_abs a4) (pIn_abs b3) (pIn_abs b4)
  rw [hr]; rfl
def isP (p : Nat × Nat) (a b : Int) : Prop := isI p.1 a ∧ isI p.2 b
theorem isP_right {p : Nat × Nat} {a b : Int} (h : isP p a b) : pRight p = (pIn a && pIn b) := by
  simp only [pRight, isI_pWhole h.1, isI_pWhole h.2]
theorem isP_clean {p : Nat × Nat} {a b : Int} (h : isP p a b) : cleanP p = (num a, num b) := by
  simp only [cleanP, isI_fInt h.1, isI_fInt h.2]
theorem isP_num {a b : Int} (ha : a.natAbs < 2 ^ 53) (hb : b.natAbs < 2 ^ 53) : isP (num a, num b) a b := ⟨isI_ofInt a ha, isI_ofInt b hb⟩
def turnI : Nat → Int × Int → Int × Int
  | 0, p => p
  | n + 1, p => turnI n (-p.2, p.1)
def quart (n : Int) : Int := IntKind.i64.wrap (((BitVec.ofInt 64 n &&& BitVec.ofInt 64 3).toNat : Nat) : Int)
theorem quart_nat (n : Int) : (BitVec.ofInt 64 n &&& BitVec.ofInt 64 3).toNat = (n % 4).toNat := by
  have h3 : (BitVec.ofInt 64 3).toNat = 2 ^ 2 - 1 := by decide
  rw [BitVec.toNat_and, h3, Nat.and_two_pow_sub_one_eq_mod, BitVec.toNat_ofInt]
  have p64 : (2 : Nat) ^ 64 = 18446744073709551616 := by decide
  have p2 : (2 : Nat) ^ 2 = 4 := by decide
  rw [p64, p2]
  omega
theorem quart_eq (n : Int) : quart n = n % 4 := by
  have h1 : ((n % 4).toNat : Int) = n % 4 := by omega
  unfold quart
  rw [quart_nat, h1]
  exact wrapI (by omega) (by omega)
theorem quart_range (n : Int) : 0 ≤ quart n ∧ quart n ≤ 3 := by rw [quart_eq]; omega
def turnP (p : Nat × Nat) (n : Int) : Nat × Nat := if pRight p then (num (turnI (quart n).toNat (fInt p.1, fInt p.2)).1, num (turnI (quart n).toNat (fInt p.1, fInt p.2)).2) else (0, 0)
def turnE (p : Nat × Nat) : Int := if pRight p then 0 else 12
theorem near_one : FloatKind.f64.nearest 1 = 4607182418800017408 := by decide
theorem near_zero : FloatKind.f64.nearest 0 = 0 := by decide
theorem isI_one : isI 4607182418800017408 1 := near_one ▸ isI_ofInt 1 (by decide)
theorem isI_zero : isI 0 0 := near_zero ▸ isI_ofInt 0 (by decide)
end Go.Ev

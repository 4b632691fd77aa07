/- Plain laws: whole numbers within int64, products; what operations on values come to. Conditions: each theorem's own. Contracts of the program's functions on values: numbers. Conditions: none. -/
import Derived.Test.YtjndellhebidoaaGreatDoorId
import Derived.Laws.MathBits
import Derived.Test.YtjndellhebidoaaGreatDoorJa
namespace Go.Ev

def i64 (n : Int) : Bool := decide (-9223372036854775808 ≤ n) && decide (n ≤ 9223372036854775807)
theorem i64_iff {n : Int} : i64 n = true ↔ -9223372036854775808 ≤ n ∧ n ≤ 9223372036854775807 := by simp [i64]
theorem wrap_i64 {n : Int} (h : i64 n = true) : IntKind.i64.wrap n = n := by
  have := i64_iff.1 h
  exact wrapI this.1 this.2
theorem wrap_u64 (n : Int) : IntKind.u64.wrap n = n % 18446744073709551616 := by
  simp only [IntKind.wrap, IntKind.signed, IntKind.bits]
  simp
theorem wrap_i64_eq (n : Int) : IntKind.i64.wrap n = (n + 9223372036854775808) % 18446744073709551616 - 9223372036854775808 := by
  simp only [IntKind.wrap, IntKind.signed, IntKind.bits]
  simp
  omega
def absI (n : Int) : Int := if n < 0 then -n else n
def hiOf (x y : Int) : Int := x * y / 18446744073709551616
def loOf (x y : Int) : Int := x * y % 18446744073709551616
def u64 (n : Int) : Bool := decide (0 ≤ n) && decide (n < 18446744073709551616)
theorem u64_iff {n : Int} : u64 n = true ↔ 0 ≤ n ∧ n < 18446744073709551616 := by simp [u64]
theorem absI_u64 {n : Int} (h : i64 n = true) : u64 (absI n) = true := by
  have := i64_iff.1 h
  rw [u64_iff]; unfold absI; split <;> omega
theorem and32 (n : Int) : (((BitVec.ofInt 64 n &&& BitVec.ofInt 64 4294967295).toNat : Nat) : Int) = n % 4294967296 := by
  have h3 : (BitVec.ofInt 64 4294967295).toNat = 2 ^ 32 - 1 := by decide
  rw [BitVec.toNat_and, h3, Nat.and_two_pow_sub_one_eq_mod, BitVec.toNat_ofInt]
  have p64 : (2 : Nat) ^ 64 = 18446744073709551616 := by decide
  have p2 : (2 : Nat) ^ 32 = 4294967296 := by decide
  rw [p64, p2]
  omega
theorem fdiv32 (n : Int) : Int.fdiv n (2 ^ 32) = n / 4294967296 := by
  rw [show (2 : Int) ^ 32 = 4294967296 from by decide, Int.fdiv_eq_ediv_of_nonneg _ (by decide)]
theorem mod_u32 (n : Int) : n % 4294967296 % 18446744073709551616 = n % 4294967296 := by omega
def prodV (a b : Int) : Int :=
  if hiOf (absI a) (absI b) ≠ 0 then 0
  else if decide (a < 0) != decide (b < 0) then IntKind.i64.wrap (0 - IntKind.i64.wrap (loOf (absI a) (absI b)))
  else IntKind.i64.wrap (loOf (absI a) (absI b))
theorem mul_sign (a b : Int) : a * b = if decide (a < 0) != decide (b < 0) then -(absI a * absI b) else absI a * absI b := by
  unfold absI
  by_cases ha : a < 0 <;> by_cases hb : b < 0 <;> simp [ha, hb, Int.neg_mul, Int.mul_neg]
theorem absI_mul_nonneg (a b : Int) : 0 ≤ absI a * absI b := by
  refine Int.mul_nonneg ?_ ?_ <;> (unfold absI; split <;> omega)
theorem prod_cases (a b : Int) : (hiOf (absI a) (absI b) ≠ 0 → i64 (a * b) = false) ∧
    (hiOf (absI a) (absI b) = 0 → (decide (a < 0) != decide (b < 0)) = true → (i64 (a * b) = decide (loOf (absI a) (absI b) ≤ 9223372036854775808)) ∧ (i64 (a * b) = true → prodV a b = a * b)) ∧
    (hiOf (absI a) (absI b) = 0 → (decide (a < 0) != decide (b < 0)) = false → (i64 (a * b) = decide (loOf (absI a) (absI b) < 9223372036854775808)) ∧ (i64 (a * b) = true → prodV a b = a * b)) := by
  have hs := mul_sign a b
  have hn := absI_mul_nonneg a b
  have hv : prodV a b = if hiOf (absI a) (absI b) ≠ 0 then 0
      else if decide (a < 0) != decide (b < 0) then IntKind.i64.wrap (0 - IntKind.i64.wrap (loOf (absI a) (absI b)))
      else IntKind.i64.wrap (loOf (absI a) (absI b)) := rfl
  unfold hiOf loOf at *
  generalize absI a * absI b = m at *
  refine ⟨fun h => ?_, fun h hd => ?_, fun h hd => ?_⟩
  · rw [hs]
    simp only [i64, Bool.and_eq_false_iff, decide_eq_false_iff_not]
    split <;> omega
  · rw [hd, if_pos rfl] at hs
    rw [hd, if_neg (by simpa using h), if_pos rfl] at hv
    have hm : m % 18446744073709551616 = m := by omega
    rw [hm] at hv ⊢
    constructor
    · rw [hs, Bool.eq_iff_iff]
      simp only [i64, Bool.and_eq_true, decide_eq_true_eq]
      omega
    · intro hi
      have := i64_iff.1 hi
      rw [hv, wrap_i64_eq, wrap_i64_eq]
      omega
  · rw [hd, if_neg (by simp)] at hs
    rw [hd, if_neg (by simpa using h), if_neg (by simp)] at hv
    have hm : m % 18446744073709551616 = m := by omega
    rw [hm] at hv ⊢
    constructor
    · rw [hs, Bool.eq_iff_iff]
      simp only [i64, Bool.and_eq_true, decide_eq_true_eq]
      omega
    · intro hi
      have := i64_iff.1 hi
      rw [hv, wrap_i64_eq]
      omega
def okI (n : Int) : Int × Int := if i64 n then (n, 0) else (0, 7)
def wholeM (op a b : Int) : Int × Int :=
  if op = 11 then okI (a + b) else if op = 12 then okI (a - b) else if op = 13 then okI (a * b)
  else if b = 0 then (0, 6) else if op = 14 then okI (a.tdiv b) else (a.tmod b, 0)
theorem add_over {a b : Int} (ha : i64 a = true) (hb : i64 b = true) : (decide (IntKind.i64.wrap (a + b) < a) == decide (b < 0)) = i64 (a + b) := by
  have := i64_iff.1 ha; have := i64_iff.1 hb
  rw [wrap_i64_eq, Bool.eq_iff_iff]
  simp only [i64, beq_iff_eq, Bool.and_eq_true, decide_eq_true_eq, decide_eq_decide]
  omega
theorem sub_over {a b : Int} (ha : i64 a = true) (hb : i64 b = true) : (decide (IntKind.i64.wrap (a - b) > a) == decide (b < 0)) = i64 (a - b) := by
  have := i64_iff.1 ha; have := i64_iff.1 hb
  rw [wrap_i64_eq, Bool.eq_iff_iff]
  simp only [i64, beq_iff_eq, Bool.and_eq_true, decide_eq_true_eq, decide_eq_decide]
  omega
theorem tdiv_i64 {a b : Int} (ha : i64 a = true) (h0 : b ≠ 0) (h1 : b ≠ -1) : i64 (a.tdiv b) = true := by
  have h := i64_iff.1 ha
  rw [i64_iff]
  have hb : (a.tdiv b).natAbs = a.natAbs / b.natAbs := Int.natAbs_tdiv a b
  have hle : a.natAbs / b.natAbs ≤ a.natAbs := Nat.div_le_self _ _
  by_cases hmin : a.natAbs = 9223372036854775808
  · by_cases hb1 : b = 1
    · subst hb1; simp only [Int.tdiv_one]; exact h
    · have h2 : 2 ≤ b.natAbs := by omega
      have : a.natAbs / b.natAbs ≤ a.natAbs / 2 := Nat.div_le_div_left h2 (by decide)
      omega
  · omega
theorem tmod_i64 {a b : Int} (ha : i64 a = true) : i64 (a.tmod b) = true := by
  have h := i64_iff.1 ha
  rw [i64_iff]
  have hb : (a.tmod b).natAbs = a.natAbs % b.natAbs := Int.natAbs_tmod a b
  have hle : a.natAbs % b.natAbs ≤ a.natAbs := Nat.mod_le _ _
  have hs : 0 ≤ a → 0 ≤ a.tmod b := fun h => Int.tmod_nonneg _ h
  have hs2 : a < 0 → a.tmod b ≤ 0 := fun h => by
    have h1 : 0 ≤ (-a).tmod b := Int.tmod_nonneg _ (by omega)
    rw [Int.neg_tmod] at h1; omega
  omega
theorem tdiv_neg_one (a : Int) : a.tdiv (-1) = 0 - a := by rw [Int.tdiv_neg, Int.tdiv_one]; omega
theorem tmod_neg_one (a : Int) : a.tmod (-1) = 0 := by rw [Int.tmod_neg, Int.tmod_one]
end Go.Ev

namespace Go.Ev

def vR (v : Val) : Bool := if v.kind = 1 then v.b == 0 else if v.kind = 2 then v.b == 0 && (v.a == 0 || v.a == 1) else if v.kind = 3 then pIn v.a && pIn v.b else false
def truthV (b : Bool) : Val := ⟨2, if b then 1 else 0, 0⟩
def numV (n : Int) : Val := ⟨1, n, 0⟩
def pointR (a b : Int) : Val × Int := if pIn a && pIn b then (⟨3, a, b⟩, 0) else (Val.zero, 5)
def numR (r : Int × Int) : Val × Int := if r.2 = 0 then (numV r.1, 0) else (Val.zero, r.2)
def twoM (op : Int) (u v : Val) : Val × Int :=
  if u.kind ≠ v.kind then (Val.zero, 8)
  else if op = 16 then (truthV (u.a == v.a && u.b == v.b), 0)
  else if op = 17 then (truthV (!(u.a == v.a && u.b == v.b)), 0)
  else if u.kind = 2 ∧ op = 22 then (truthV (u.a == 1 && v.a == 1), 0)
  else if u.kind = 2 ∧ op = 23 then (truthV (u.a == 1 || v.a == 1), 0)
  else if u.kind = 3 ∧ op = 11 then pointR (u.a + v.a) (u.b + v.b)
  else if u.kind = 3 ∧ op = 12 then pointR (u.a - v.a) (u.b - v.b)
  else if u.kind = 3 ∧ op = 13 then pointR (u.a * v.a - u.b * v.b) (u.a * v.b + u.b * v.a)
  else if u.kind ≠ 1 then (Val.zero, 8)
  else if op = 18 then (truthV (decide (u.a < v.a)), 0)
  else if op = 19 then (truthV (decide (u.a ≤ v.a)), 0)
  else if op = 20 then (truthV (decide (u.a > v.a)), 0)
  else if op = 21 then (truthV (decide (u.a ≥ v.a)), 0)
  else if op = 22 ∨ op = 23 then (Val.zero, 8)
  else numR (wholeM op u.a v.a)
def oneM (op : Int) (u : Val) : Val × Int :=
  if op = 7 ∧ u.kind = 1 then numR (okI (0 - u.a))
  else if op = 7 ∧ u.kind = 3 then (⟨3, -u.a, -u.b⟩, 0)
  else if op = 8 ∧ u.kind = 2 then (truthV (u.a == 0), 0)
  else if op = 9 ∧ u.kind = 3 then (numV u.a, 0)
  else if op = 10 ∧ u.kind = 3 then (numV u.b, 0)
  else (Val.zero, 8)
def vOk (v : Val) : Bool := vR v && i64 v.a

/-! ### points -/
theorem made_right {a b : Int} (ha : pIn a = true) (hb : pIn b = true) : madeP a b = (num a, num b) ∧ madeE a b = 0 ∧ isP (madeP a b) a b ∧ pRight (madeP a b) = true := by
  have e : madeP a b = (num a, num b) := by simp [madeP, ha, hb]
  have h := isP_num (a := a) (b := b) (by have := pIn_abs ha; omega) (by have := pIn_abs hb; omega)
  refine ⟨e, by simp [madeE, ha, hb], by rw [e]; exact h, ?_⟩
  rw [e, isP_right h, ha, hb]; rfl
theorem told_of {p q : Nat × Nat} {o : Option (Nat × Nat)} {r : Nat × Nat} {x y : Int} (hp : pRight p = true) (hq : pRight q = true) (ho : o = some r) (hr : isP r x y) : toldP p q o = madeP x y ∧ toldE p q o = madeE x y := by
  subst ho
  have h1 : rightO (some r) = (pIn x && pIn y) := isP_right hr
  have h2 : cleanO (some r) = (num x, num y) := isP_clean hr
  simp [toldP, toldE, madeP, madeE, hp, hq, h1, h2]
theorem part_made {x y : Int} (hx : pIn x = true) (hy : pIn y = true) : partA (madeP x y) = x ∧ partB (madeP x y) = y := by
  obtain ⟨h1, h2, h3, h4⟩ := made_right hx hy
  simp only [partA, partB, h4, if_true, isI_fInt h3.1, isI_fInt h3.2, and_self]
def pointV (p : Nat × Nat) (e : Int) : Val × Int := if e ≠ 0 then (Val.zero, e) else (⟨3, partA p, partB p⟩, 0)
theorem pointV_made (x y : Int) : pointV (madeP x y) (madeE x y) = pointR x y := by
  unfold pointV pointR
  cases h : (pIn x && pIn y)
  · have : madeE x y = 5 := by simp [madeE, h]
    rw [this]; simp
  · simp only [Bool.and_eq_true] at h
    obtain ⟨h1, h2⟩ := part_made h.1 h.2
    have : madeE x y = 0 := by simp [madeE, h]
    rw [this, h1, h2]; simp
theorem add_points {a b c d : Int} (ha : pIn a = true) (hb : pIn b = true) (hc : pIn c = true) (hd : pIn d = true) : pointV (toldP (madeP a b) (madeP c d) (cSumBits .add .f64 (madeP a b).1 (madeP a b).2 (madeP c d).1 (madeP c d).2)) (toldE (madeP a b) (madeP c d) (cSumBits .add .f64 (madeP a b).1 (madeP a b).2 (madeP c d).1 (madeP c d).2)) = pointR (a + c) (b + d) := by
  obtain ⟨_, _, p1, r1⟩ := made_right ha hb
  obtain ⟨_, _, p2, r2⟩ := made_right hc hd
  have := pIn_abs ha; have := pIn_abs hb; have := pIn_abs hc; have := pIn_abs hd
  have p53 : (2 : Nat) ^ 53 = 9007199254740992 := by decide
  obtain ⟨r, hr, g1, g2⟩ := sumBits_isI p1.1 p1.2 p2.1 p2.2 (by omega) (by omega)
  obtain ⟨t1, t2⟩ := told_of r1 r2 hr ⟨g1, g2⟩
  rw [t1, t2, pointV_made]
theorem sub_points {a b c d : Int} (ha : pIn a = true) (hb : pIn b = true) (hc : pIn c = true) (hd : pIn d = true) : pointV (toldP (madeP a b) (madeP c d) (cSumBits .sub .f64 (madeP a b).1 (madeP a b).2 (madeP c d).1 (madeP c d).2)) (toldE (madeP a b) (madeP c d) (cSumBits .sub .f64 (madeP a b).1 (madeP a b).2 (madeP c d).1 (madeP c d).2)) = pointR (a - c) (b - d) := by
  obtain ⟨_, _, p1, r1⟩ := made_right ha hb
  obtain ⟨_, _, p2, r2⟩ := made_right hc hd
  have := pIn_abs ha; have := pIn_abs hb; have := pIn_abs hc; have := pIn_abs hd
  have p53 : (2 : Nat) ^ 53 = 9007199254740992 := by decide
  obtain ⟨r, hr, g1, g2⟩ := lessBits_isI p1.1 p1.2 p2.1 p2.2 (by omega) (by omega)
  obtain ⟨t1, t2⟩ := told_of r1 r2 hr ⟨g1, g2⟩
  rw [t1, t2, pointV_made]
theorem mul_points {a b c d : Int} (ha : pIn a = true) (hb : pIn b = true) (hc : pIn c = true) (hd : pIn d = true) : pointV (toldP (madeP a b) (madeP c d) (cMulBits (madeP a b).1 (madeP a b).2 (madeP c d).1 (madeP c d).2)) (toldE (madeP a b) (madeP c d) (cMulBits (madeP a b).1 (madeP a b).2 (madeP c d).1 (madeP c d).2)) = pointR (a * c - b * d) (a * d + b * c) := by
  obtain ⟨_, _, p1, r1⟩ := made_right ha hb
  obtain ⟨_, _, p2, r2⟩ := made_right hc hd
  obtain ⟨r, hr, g1, g2⟩ := mulBits_isI p1.1 p1.2 p2.1 p2.2 (pIn_abs ha) (pIn_abs hb) (pIn_abs hc) (pIn_abs hd)
  obtain ⟨t1, t2⟩ := told_of r1 r2 hr ⟨g1, g2⟩
  rw [t1, t2, pointV_made]
theorem pIn_neg {a : Int} (h : pIn a = true) : pIn (-a) = true := by
  simp only [pIn, Bool.and_eq_true, decide_eq_true_eq] at h ⊢; omega
theorem turn_point {a b : Int} (ha : pIn a = true) (hb : pIn b = true) : pointV (turnP (madeP a b) 2) (turnE (madeP a b)) = (⟨3, -a, -b⟩, 0) := by
  obtain ⟨h1, h2, h3, h4⟩ := made_right ha hb
  have hq : (quart 2).toNat = 2 := by rw [quart_eq]; rfl
  have e1 : turnP (madeP a b) 2 = madeP (-a) (-b) := by
    simp only [turnP, h4, if_true, hq, isI_fInt h3.1, isI_fInt h3.2, turnI]
    exact (made_right (pIn_neg ha) (pIn_neg hb)).1.symm
  have e2 : turnE (madeP a b) = 0 := by simp [turnE, h4]
  obtain ⟨q1, q2⟩ := part_made (pIn_neg ha) (pIn_neg hb)
  rw [e1, e2]
  simp [pointV, q1, q2]
theorem vR_point {v : Val} (h : vR v = true) (hk : v.kind = 3) : pIn v.a = true ∧ pIn v.b = true := by
  simp [vR, hk] at h; exact h
theorem vR_bool {v : Val} (h : vR v = true) (hk : v.kind = 2) : v.b = 0 ∧ (v.a = 0 ∨ v.a = 1) := by
  simp [vR, hk] at h; exact h
theorem vOk_iff {v : Val} : vOk v = true ↔ vR v = true ∧ i64 v.a = true := by simp [vOk]
/-! ### what comes of values that may be may be, too -/
theorem truthV_ok (b : Bool) : vOk (truthV b) = true := by cases b <;> decide
theorem numV_ok {n : Int} (h : i64 n = true) : vOk (numV n) = true := by simp [vOk, vR, numV, h]
theorem pIn_i64 {n : Int} (h : pIn n = true) : i64 n = true := by
  simp only [pIn, Bool.and_eq_true, decide_eq_true_eq] at h
  rw [i64_iff]; omega
theorem pointR_ok {a b : Int} (h : (pointR a b).2 = 0) : vOk (pointR a b).1 = true := by
  unfold pointR at h ⊢
  cases hb : (pIn a && pIn b)
  · rw [hb] at h; simp at h
  · simp only [Bool.and_eq_true] at hb
    simp [vOk, vR, hb, pIn_i64 hb.1]
theorem numR_ok {r : Int × Int} (hr : r.2 = 0 → i64 r.1 = true) (h : (numR r).2 = 0) : vOk (numR r).1 = true := by
  unfold numR at h ⊢
  by_cases h0 : r.2 = 0
  · rw [if_pos h0]; exact numV_ok (hr h0)
  · rw [if_neg h0] at h; exact absurd h h0
theorem okI_ok {n : Int} : (okI n).2 = 0 → i64 (okI n).1 = true := by
  unfold okI
  cases h : i64 n
  · simp
  · simp [h]
theorem wholeM_ok {op a b : Int} (ha : i64 a = true) : (wholeM op a b).2 = 0 → i64 (wholeM op a b).1 = true := by
  unfold wholeM
  split
  · exact okI_ok
  · split
    · exact okI_ok
    · split
      · exact okI_ok
      · split
        · simp
        · split
          · exact okI_ok
          · exact fun _ => tmod_i64 ha
theorem ite_ok {c : Prop} [Decidable c] {x y : Val × Int} (hx : x.2 = 0 → vOk x.1 = true) (hy : y.2 = 0 → vOk y.1 = true) : (if c then x else y).2 = 0 → vOk (if c then x else y).1 = true := by
  by_cases h : c
  · rw [if_pos h]; exact hx
  · rw [if_neg h]; exact hy
theorem err_ok {e : Int} (he : e ≠ 0) : ((Val.zero, e) : Val × Int).2 = 0 → vOk ((Val.zero, e) : Val × Int).1 = true := fun h => absurd h he
theorem twoM_ok {op : Int} {u v : Val} (hu : vOk u = true) : (twoM op u v).2 = 0 → vOk (twoM op u v).1 = true := by
  have hu' := (vOk_iff.1 hu).2
  unfold twoM
  repeat' (with_reducible refine ite_ok ?_ ?_)
  all_goals first
    | exact fun _ => truthV_ok _
    | exact pointR_ok
    | exact numR_ok (wholeM_ok hu')
    | exact err_ok (by decide)
theorem oneM_ok {op : Int} {u : Val} (hu : vOk u = true) (h : (oneM op u).2 = 0) : vOk (oneM op u).1 = true := by
  have hu' := vOk_iff.1 hu
  unfold oneM at h ⊢
  split at h
  · rename_i hk; rw [if_pos hk]; exact numR_ok okI_ok h
  · rename_i hk; rw [if_neg hk]
    split at h
    · rename_i hk; rw [if_pos hk]
      obtain ⟨h1, h2⟩ := vR_point hu'.1 hk.2
      simp [vOk, vR, pIn_neg h1, pIn_neg h2, pIn_i64 (pIn_neg h1)]
    · rename_i hk; rw [if_neg hk]
      split at h
      · rename_i hk; rw [if_pos hk]; exact truthV_ok _
      · rename_i hk; rw [if_neg hk]
        split at h
        · rename_i hk; rw [if_pos hk]; exact numV_ok hu'.2
        · rename_i hk; rw [if_neg hk]
          split at h
          · rename_i hk; rw [if_pos hk]
            exact numV_ok (pIn_i64 (vR_point hu'.1 hk.2).2)
          · simp at h
end Go.Ev
namespace Go.Proofs.YtjndellhebidoaaGreatDoor
open Go Go.Ev
set_option maxRecDepth 100000

theorem size_spec (n : Int) (h : i64 n = true) : Does Tryz.prog 141 [.i n] [] (.x (.c (.pd (.int .u64 (absI n))))) [] := by
  refine Does.go (cfg := cfg0) cfg0_ok Tryz.func141 (by kernel_rfl) (by kernel_rfl) (t := (.ite (decide (n < (0 : Int))) (.ret (.p (.int .u64 (IntKind.wrap .u64 ((0 : Int) - IntKind.wrap .u64 n)))) []) (.ret (.p (.int .u64 (IntKind.wrap .u64 n))) []))) (by kernel_rfl) fun Γ => ?_
  have := i64_iff.1 h
  refine ⟨fun h1 => ⟨?_, rfl⟩, fun h1 => ⟨?_, rfl⟩⟩
  · have := of_decide_eq_true h1
    rw [wrap_u64, wrap_u64]
    have e : absI n = -n := by unfold absI; rw [if_pos this]
    rw [e]
    have : (0 - n % 18446744073709551616) % 18446744073709551616 = -n := by omega
    rw [this]
  · have := of_decide_eq_false h1
    rw [wrap_u64]
    have e : absI n = n := by unfold absI; rw [if_neg this]
    rw [e]
    have : n % 18446744073709551616 = n := by omega
    rw [this]
def eSize : Nat × (List SX → List Chunk → Option (Option Prop × SV × List Chunk)) := (141, fun
  | [.c (.pd (.int .i64 n))], [] => some (some (i64 n = true), .x (.c (.pd (.int .u64 (absI n)))), [])
  | _, _ => none)
theorem eSize_ok (vs : List SX) (ck : List Chunk) (p : Option Prop) (ret : SV) (ck' : List Chunk) (h : eSize.2 vs ck = some (p, ret, ck')) (hp : Holds p) : Does Tryz.prog eSize.1 vs ck ret ck' := by
  unfold eSize at h
  simp only at h
  split at h
  · rename_i n
    simp only [Option.some.injEq, Prod.mk.injEq] at h
    obtain ⟨rfl, rfl, rfl⟩ := h
    exact size_spec n hp
  · simp at h
theorem mul64_spec (x y : Int) (hx : u64 x = true) (hy : u64 y = true) : Does Tryz.prog 140 [.c (.pd (.int .u64 x)), .c (.pd (.int .u64 y))] [] (.tup [.c (.pd (.int .u64 (hiOf x y))), .c (.pd (.int .u64 (loOf x y)))]) [] := by
  refine Does.go (cfg := cfg0) cfg0_ok Tryz.func140 (by kernel_rfl) (by kernel_rfl) (t := (.need ((0 : Int) ≤ (32 : Int)) (.need ((0 : Int) ≤ (32 : Int)) (.need ((0 : Int) ≤ (32 : Int)) (.need ((0 : Int) ≤ (32 : Int)) (.need ((0 : Int) ≤ (32 : Int)) (.ret (.tup [.p (.int .u64 (IntKind.wrap .u64 (IntKind.wrap .u64 (IntKind.wrap .u64 (Int.fdiv x ((2 : Int) ^ 32) * Int.fdiv y ((2 : Int) ^ 32)) + Int.fdiv (IntKind.wrap .u64 (IntKind.wrap .u64 (Int.fdiv x ((2 : Int) ^ 32) * IntKind.wrap .u64 (↑(BitVec.toNat (BitVec.ofInt 64 y &&& BitVec.ofInt 64 (4294967295 : Int))) : Int)) + Int.fdiv (IntKind.wrap .u64 (IntKind.wrap .u64 (↑(BitVec.toNat (BitVec.ofInt 64 x &&& BitVec.ofInt 64 (4294967295 : Int))) : Int) * IntKind.wrap .u64 (↑(BitVec.toNat (BitVec.ofInt 64 y &&& BitVec.ofInt 64 (4294967295 : Int))) : Int))) ((2 : Int) ^ 32))) ((2 : Int) ^ 32)) + Int.fdiv (IntKind.wrap .u64 (IntKind.wrap .u64 (↑(BitVec.toNat (BitVec.ofInt 64 (IntKind.wrap .u64 (IntKind.wrap .u64 (Int.fdiv x ((2 : Int) ^ 32) * IntKind.wrap .u64 (↑(BitVec.toNat (BitVec.ofInt 64 y &&& BitVec.ofInt 64 (4294967295 : Int))) : Int)) + Int.fdiv (IntKind.wrap .u64 (IntKind.wrap .u64 (↑(BitVec.toNat (BitVec.ofInt 64 x &&& BitVec.ofInt 64 (4294967295 : Int))) : Int) * IntKind.wrap .u64 (↑(BitVec.toNat (BitVec.ofInt 64 y &&& BitVec.ofInt 64 (4294967295 : Int))) : Int))) ((2 : Int) ^ 32))) &&& BitVec.ofInt 64 (4294967295 : Int))) : Int) + IntKind.wrap .u64 (IntKind.wrap .u64 (↑(BitVec.toNat (BitVec.ofInt 64 x &&& BitVec.ofInt 64 (4294967295 : Int))) : Int) * Int.fdiv y ((2 : Int) ^ 32)))) ((2 : Int) ^ 32)))), .p (.int .u64 (IntKind.wrap .u64 (x * y)))]) []))))))) (by kernel_rfl) fun Γ => ?_
  have h1 := u64_iff.1 hx
  have h2 := u64_iff.1 hy
  refine ⟨by decide, by decide, by decide, by decide, by decide, ?_, rfl⟩
  have := Go.mul64_arith x y h1.1 h1.2 h2.1 h2.2
  simp only [and32, fdiv32, wrap_u64, mod_u32] at this ⊢
  rw [show hiOf x y = x * y / 18446744073709551616 from rfl, ← this]
  rfl
def eMul64 : Nat × (List SX → List Chunk → Option (Option Prop × SV × List Chunk)) := (140, fun
  | [.c (.pd (.int .u64 x)), .c (.pd (.int .u64 y))], [] => some (some (u64 x = true ∧ u64 y = true), .tup [.c (.pd (.int .u64 (hiOf x y))), .c (.pd (.int .u64 (loOf x y)))], [])
  | _, _ => none)
theorem eMul64_ok (vs : List SX) (ck : List Chunk) (p : Option Prop) (ret : SV) (ck' : List Chunk) (h : eMul64.2 vs ck = some (p, ret, ck')) (hp : Holds p) : Does Tryz.prog eMul64.1 vs ck ret ck' := by
  unfold eMul64 at h
  simp only at h
  split at h
  · rename_i x y
    simp only [Option.some.injEq, Prod.mk.injEq] at h
    obtain ⟨rfl, rfl, rfl⟩ := h
    exact mul64_spec x y hp.1 hp.2
  · simp at h
def cfgSz : Cfg := ⟨tys0, [eSize, eMul64]⟩
theorem cfgSz_ok : TabOk Tryz.prog cfgSz.tab := (TabOk.cons eSize_ok (TabOk.cons eMul64_ok TabOk.nil))
theorem product_spec (a b : Int) (ha : i64 a = true) (hb : i64 b = true) : Does Tryz.prog 123 [.i a, .i b] [] (.tup [.i (prodV a b), .c (.pd (.bool (i64 (a * b))))]) [] := by
  refine Does.go (cfg := cfgSz) cfgSz_ok Tryz.func123 (by kernel_rfl) (by kernel_rfl) (t := (.need (i64 a = true) (.need (i64 b = true) (.need (u64 (absI a) = true ∧ u64 (absI b) = true) (.ite (hiOf (absI a) (absI b) != (0 : Int)) (.ret (.tup [.i (0 : Int), .p (.bool false)]) []) (.ite (!decide (a < (0 : Int)) == decide (b < (0 : Int))) (.ret (.tup [.i (IntKind.wrap .i64 ((0 : Int) - IntKind.wrap .i64 (loOf (absI a) (absI b)))), .p (.bool (decide (loOf (absI a) (absI b) ≤ (9223372036854775808 : Int))))]) []) (.ret (.tup [.i (IntKind.wrap .i64 (loOf (absI a) (absI b))), .p (.bool (decide (loOf (absI a) (absI b) < (9223372036854775808 : Int))))]) []))))))) (by kernel_rfl) fun Γ => ?_
  obtain ⟨c1, c2, c3⟩ := prod_cases a b
  refine ⟨ha, hb, ⟨absI_u64 ha, absI_u64 hb⟩, fun h => ⟨?_, rfl⟩, fun h => ⟨fun h2 => ⟨?_, rfl⟩, fun h2 => ⟨?_, rfl⟩⟩⟩
  · have h' : hiOf (absI a) (absI b) ≠ 0 := by simpa using h
    rw [c1 h']
    have : prodV a b = 0 := by unfold prodV; rw [if_pos h']
    rw [this]
  · have h' : hiOf (absI a) (absI b) = 0 := by simpa using h
    have h2' : (decide (a < 0) != decide (b < 0)) = true := by simpa [bne] using h2
    rw [(c2 h' h2').1]
    have : prodV a b = IntKind.i64.wrap (0 - IntKind.i64.wrap (loOf (absI a) (absI b))) := by unfold prodV; rw [if_neg (by simpa using h'), if_pos h2']
    rw [this]
  · have h' : hiOf (absI a) (absI b) = 0 := by simpa using h
    have h2' : (decide (a < 0) != decide (b < 0)) = false := by simpa [bne] using h2
    rw [(c3 h' h2').1]
    have : prodV a b = IntKind.i64.wrap (loOf (absI a) (absI b)) := by unfold prodV; rw [if_neg (by simpa using h'), h2', if_neg (by simp)]
    rw [this]
def eProd : Nat × (List SX → List Chunk → Option (Option Prop × SV × List Chunk)) := (123, fun
  | [.c (.pd (.int .i64 a)), .c (.pd (.int .i64 b))], [] => some (some (i64 a = true ∧ i64 b = true), .tup [.c (.pd (.int .i64 (prodV a b))), .c (.pd (.bool (i64 (a * b))))], [])
  | _, _ => none)
theorem eProd_ok (vs : List SX) (ck : List Chunk) (p : Option Prop) (ret : SV) (ck' : List Chunk) (h : eProd.2 vs ck = some (p, ret, ck')) (hp : Holds p) : Does Tryz.prog eProd.1 vs ck ret ck' := by
  unfold eProd at h
  simp only at h
  split at h
  · rename_i a b
    simp only [Option.some.injEq, Prod.mk.injEq] at h
    obtain ⟨rfl, rfl, rfl⟩ := h
    exact product_spec a b hp.1 hp.2
  · simp at h
def cfgProd : Cfg := ⟨tys0, [eProd]⟩
theorem cfgProd_ok : TabOk Tryz.prog cfgProd.tab := (TabOk.cons eProd_ok TabOk.nil)
theorem whole_sub (a b : Int) (ha : i64 a = true) (hb : i64 b = true) : Does Tryz.prog 93 [.i 12, .i a, .i b] [] (.tup [.i (wholeM 12 a b).1, .i (wholeM 12 a b).2]) [] := by
  refine Does.go (cfg := cfgProd) cfgProd_ok Tryz.func93 (by kernel_rfl) (by kernel_rfl) (t := (.ite false (.ite (!decide (IntKind.wrap .i64 (a + b) < a) == decide (b < (0 : Int))) (.ret (.tup [.i (0 : Int), .i (7 : Int)]) []) (.ret (.tup [.i (IntKind.wrap .i64 (a + b)), .i (0 : Int)]) [])) (.ite true (.ite (!decide (IntKind.wrap .i64 (a - b) > a) == decide (b < (0 : Int))) (.ret (.tup [.i (0 : Int), .i (7 : Int)]) []) (.ret (.tup [.i (IntKind.wrap .i64 (a - b)), .i (0 : Int)]) [])) (.ite false (.need (i64 a = true ∧ i64 b = true) (.ite (!i64 (a * b)) (.ret (.tup [.i (0 : Int), .i (7 : Int)]) []) (.ret (.tup [.i (prodV a b), .i (0 : Int)]) []))) (.ite (b == (0 : Int)) (.ret (.tup [.i (0 : Int), .i (6 : Int)]) []) (.ite (b == (-1 : Int) && (12 : Int) == (15 : Int)) (.ret (.tup [.i (0 : Int), .i (0 : Int)]) []) (.ite (b == (-1 : Int)) (.stop [.ops [1, 1, 0, 1, 0, 1, 1, 1, 1, 1, 1, 0, 0, 1, 1, 1, 1, 1, 0, 0] 1, .code [1, 1, 0, 1, 0, 1, 1, 1, 1, 1, 1, 0, 0, 1, 1, 1, 1, 1, 0, 1], .inBlock 1, .code [1, 1, 0, 1, 0, 1, 1, 1, 1, 1, 1, 1], .inBlock 0, .code [1, 1, 1]] { n := 70, fr := [(1, .i a), (2, .i b), (6, .i (0 : Int)), (7, .i (0 : Int)), (8, .i (0 : Int)), (9, .p (.bool true)), (24, .i a)], ck := [], kn := [9] }) (.ite false (.need (b ≠ (0 : Int)) (.ret (.tup [.i (IntKind.wrap .i64 (Int.tdiv a b)), .i (0 : Int)]) [])) (.need (b ≠ (0 : Int)) (.ret (.tup [.i (Int.tmod a b), .i (0 : Int)]) [])))))))))) (by kernel_rfl) fun Γ => ?_
  refine ⟨fun h => absurd h (by decide), fun _ => ⟨fun _ => ⟨fun h => ?_, fun h => ?_⟩, fun h => absurd h (by decide)⟩⟩
  · have h' : i64 (a - b) = false := by rw [← sub_over ha hb]; simpa using h
    refine ⟨?_, rfl⟩; simp [wholeM, okI, h']
  · have h' : i64 (a - b) = true := by rw [← sub_over ha hb]; simpa using h
    refine ⟨?_, rfl⟩; simp [wholeM, okI, h', wrap_i64 h']
def eWhole12 : Nat × (List SX → List Chunk → Option (Option Prop × SV × List Chunk)) := (93, fun
  | [.c (.pd (.int .i64 12)), .c (.pd (.int .i64 a)), .c (.pd (.int .i64 b))], [] => some (some (i64 a = true ∧ i64 b = true), .tup [.c (.pd (.int .i64 (wholeM 12 a b).1)), .c (.pd (.int .i64 (wholeM 12 a b).2))], [])
  | _, _ => none)
theorem eWhole12_ok (vs : List SX) (ck : List Chunk) (p : Option Prop) (ret : SV) (ck' : List Chunk) (h : eWhole12.2 vs ck = some (p, ret, ck')) (hp : Holds p) : Does Tryz.prog eWhole12.1 vs ck ret ck' := by
  unfold eWhole12 at h
  simp only at h
  split at h
  · rename_i a b
    simp only [Option.some.injEq, Prod.mk.injEq] at h
    obtain ⟨rfl, rfl, rfl⟩ := h
    exact whole_sub a b hp.1 hp.2
  · simp at h
def cfgW12 : Cfg := ⟨tys0, [eProd, eWhole12]⟩
theorem cfgW12_ok : TabOk Tryz.prog cfgW12.tab := (TabOk.cons eProd_ok (TabOk.cons eWhole12_ok TabOk.nil))
theorem evwhole_spec (op a b : Int) (hop : 11 ≤ op ∧ op ≤ 15) (ha : i64 a = true) (hb : i64 b = true) : Does Tryz.prog 93 [.i op, .i a, .i b] [] (.tup [.i (wholeM op a b).1, .i (wholeM op a b).2]) [] := by
  refine Does.go (cfg := cfgW12) cfgW12_ok Tryz.func93 (by kernel_rfl) (by kernel_rfl) (t := (.ite (op == (11 : Int)) (.ite (!decide (IntKind.wrap .i64 (a + b) < a) == decide (b < (0 : Int))) (.ret (.tup [.i (0 : Int), .i (7 : Int)]) []) (.ret (.tup [.i (IntKind.wrap .i64 (a + b)), .i (0 : Int)]) [])) (.ite (op == (12 : Int)) (.ite (!decide (IntKind.wrap .i64 (a - b) > a) == decide (b < (0 : Int))) (.ret (.tup [.i (0 : Int), .i (7 : Int)]) []) (.ret (.tup [.i (IntKind.wrap .i64 (a - b)), .i (0 : Int)]) [])) (.ite (op == (13 : Int)) (.need (i64 a = true ∧ i64 b = true) (.ite (!i64 (a * b)) (.ret (.tup [.i (0 : Int), .i (7 : Int)]) []) (.ret (.tup [.i (prodV a b), .i (0 : Int)]) []))) (.ite (b == (0 : Int)) (.ret (.tup [.i (0 : Int), .i (6 : Int)]) []) (.ite (b == (-1 : Int) && op == (15 : Int)) (.ret (.tup [.i (0 : Int), .i (0 : Int)]) []) (.ite (b == (-1 : Int)) (.need (i64 (0 : Int) = true ∧ i64 a = true) (.ret (.tup [.i (Prod.fst (wholeM (12 : Int) (0 : Int) a)), .i (Prod.snd (wholeM (12 : Int) (0 : Int) a))]) [])) (.ite (op == (14 : Int)) (.need (b ≠ (0 : Int)) (.ret (.tup [.i (IntKind.wrap .i64 (Int.tdiv a b)), .i (0 : Int)]) [])) (.need (b ≠ (0 : Int)) (.ret (.tup [.i (Int.tmod a b), .i (0 : Int)]) [])))))))))) (by kernel_rfl) fun Γ => ?_
  refine ⟨fun h => ?_, fun h11 => ⟨fun h => ?_, fun h12 => ⟨fun h => ⟨⟨ha, hb⟩, ?_⟩, fun h13 => ?_⟩⟩⟩
  · have e : op = 11 := by simpa using h
    subst e
    refine ⟨fun h => ?_, fun h => ?_⟩
    · have h' : i64 (a + b) = false := by rw [← add_over ha hb]; simpa using h
      refine ⟨?_, rfl⟩; simp [wholeM, okI, h']
    · have h' : i64 (a + b) = true := by rw [← add_over ha hb]; simpa using h
      refine ⟨?_, rfl⟩; simp [wholeM, okI, h', wrap_i64 h']
  · have e : op = 12 := by simpa using h
    subst e
    refine ⟨fun h => ?_, fun h => ?_⟩
    · have h' : i64 (a - b) = false := by rw [← sub_over ha hb]; simpa using h
      refine ⟨?_, rfl⟩; simp [wholeM, okI, h']
    · have h' : i64 (a - b) = true := by rw [← sub_over ha hb]; simpa using h
      refine ⟨?_, rfl⟩; simp [wholeM, okI, h', wrap_i64 h']
  · have e : op = 13 := by simpa using h
    subst e
    refine ⟨fun h => ?_, fun h => ?_⟩
    · have h' : i64 (a * b) = false := by simpa using h
      refine ⟨?_, rfl⟩; simp [wholeM, okI, h']
    · have h' : i64 (a * b) = true := by simpa using h
      have hp : prodV a b = a * b := by
        obtain ⟨c1, c2, c3⟩ := prod_cases a b
        by_cases h0 : hiOf (absI a) (absI b) = 0
        · cases hd : (decide (a < 0) != decide (b < 0))
          · exact (c3 h0 hd).2 h'
          · exact (c2 h0 hd).2 h'
        · rw [c1 h0] at h'; cases h'
      refine ⟨?_, rfl⟩; simp [wholeM, okI, h', hp]
  · have n1 : op ≠ 11 := by simpa using h11
    have n2 : op ≠ 12 := by simpa using h12
    have n3 : op ≠ 13 := by simpa using h13
    refine ⟨fun h => ?_, fun h0 => ⟨fun h => ?_, fun h1 => ⟨fun h => ⟨⟨by decide, ha⟩, ?_⟩, fun h2 => ⟨fun h => ?_, fun h3 => ?_⟩⟩⟩⟩
    · have e : b = 0 := by simpa using h
      refine ⟨?_, rfl⟩; simp [wholeM, n1, n2, n3, e]
    · have e : b = -1 ∧ op = 15 := by simpa using h
      refine ⟨?_, rfl⟩; simp [wholeM, e.1, e.2, tmod_neg_one]
    · have e : b = -1 := by simpa using h
      have e14 : op = 14 := by
        have : ¬ (b = -1 ∧ op = 15) := by simpa using h1
        omega
      have hw : wholeM 12 0 a = wholeM op a b := by
        subst e; subst e14
        simp only [wholeM, tdiv_neg_one]
        simp
      refine ⟨?_, rfl⟩; rw [hw]
    · have e : op = 14 := by simpa using h
      have nb : b ≠ 0 := by simpa using h0
      have nb1 : b ≠ -1 := by simpa using h2
      have hd := tdiv_i64 ha nb nb1
      refine ⟨nb, ?_, rfl⟩; simp [wholeM, e, nb, okI, hd, wrap_i64 hd]
    · have e : op ≠ 14 := by simpa using h3
      have nb : b ≠ 0 := by simpa using h0
      refine ⟨nb, ?_, rfl⟩; simp [wholeM, n1, n2, n3, e, nb]
def eWholeE : Nat × (List SX → List Chunk → Option (Option Prop × SV × List Chunk)) := (93, fun
  | [.c (.pd (.int .i64 op)), .c (.pd (.int .i64 a)), .c (.pd (.int .i64 b))], [] => some (some ((11 ≤ op ∧ op ≤ 15) ∧ i64 a = true ∧ i64 b = true), .tup [.c (.pd (.int .i64 (wholeM op a b).1)), .c (.pd (.int .i64 (wholeM op a b).2))], [])
  | _, _ => none)
theorem eWholeE_ok (vs : List SX) (ck : List Chunk) (p : Option Prop) (ret : SV) (ck' : List Chunk) (h : eWholeE.2 vs ck = some (p, ret, ck')) (hp : Holds p) : Does Tryz.prog eWholeE.1 vs ck ret ck' := by
  unfold eWholeE at h
  simp only at h
  split at h
  · rename_i op a b
    simp only [Option.some.injEq, Prod.mk.injEq] at h
    obtain ⟨rfl, rfl, rfl⟩ := h
    exact evwhole_spec op a b hp.1 hp.2.1 hp.2.2
  · simp at h
def cfgMade : Cfg := ⟨tys0, [ePMade]⟩
theorem cfgMade_ok : TabOk Tryz.prog cfgMade.tab := (TabOk.cons ePMade_ok TabOk.nil)
end Go.Proofs.YtjndellhebidoaaGreatDoor

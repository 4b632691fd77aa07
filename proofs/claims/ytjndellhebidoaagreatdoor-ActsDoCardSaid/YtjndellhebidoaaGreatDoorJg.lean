/- Contracts: the document's numbers and points. Conditions: values within int64. -/
import Derived.Test.YtjndellhebidoaaGreatDoorJf
import Derived.Test.YtjndellhebidoaaGreatDoorJd
namespace Go.Proofs.YtjndellhebidoaaGreatDoor
open Go Go.Ev
set_option maxRecDepth 100000
abbrev okB (n : Int) : SV := .tup [.i (okI n).1, .b (i64 n)]
theorem okB_true {n : Int} (h : i64 n = true) : okB n = .tup [.i n, .b true] := by simp only [okB, okI_true h, h]
theorem okB_false {n : Int} (h : i64 n = false) : okB n = .tup [.i 0, .b false] := by simp only [okB, okI_false h, h]
theorem sum_spec (a b : Int) (ha : i64 a = true) (hb : i64 b = true) : Does Tryz.prog 145 [.i a, .i b] [] (okB (a + b)) [] := by
  have ha' := i64_iff.1 ha; have hb' := i64_iff.1 hb
  refine Does.go (cfg := cfg0) cfg0_ok Tryz.func145 (by kernel_rfl) (by kernel_rfl) (t := (.ite (decide (b > (0 : Int)) && decide (a > IntKind.wrap .i64 ((9223372036854775807 : Int) - b)) || decide (b < (0 : Int)) && decide (a < IntKind.wrap .i64 ((-9223372036854775808 : Int) - b))) (.ret (.tup [.i (0 : Int), .p (.bool false)]) []) (.ret (.tup [.i (IntKind.wrap .i64 (a + b)), .p (.bool true)]) []))) (by kernel_rfl) fun Γ => ?_
  refine ⟨fun h => ⟨?_, rfl⟩, fun h => ⟨?_, rfl⟩⟩
  · have e : i64 (a + b) = false := by
      simp only [Bool.or_eq_true, Bool.and_eq_true, decide_eq_true_eq] at h
      simp only [i64, Bool.and_eq_false_iff, decide_eq_false_iff_not]
      rcases h with ⟨h1, h2⟩ | ⟨h1, h2⟩
      · rw [wrapI (by omega) (by omega)] at h2; omega
      · rw [wrapI (by omega) (by omega)] at h2; omega
    rw [okB_false e]
  · have e : i64 (a + b) = true := by
      simp only [Bool.or_eq_false_iff, Bool.and_eq_false_iff, decide_eq_false_iff_not] at h
      rw [i64_iff]
      obtain ⟨h1, h2⟩ := h
      by_cases g1 : b > 0
      · have h1 := h1.resolve_left (by omega)
        rw [wrapI (by omega) (by omega)] at h1; omega
      · by_cases g2 : b < 0
        · have h2 := h2.resolve_left (by omega)
          rw [wrapI (by omega) (by omega)] at h2; omega
        · omega
    rw [okB_true e, wrap_i64 e]
def eSum : Nat × (List SX → List Chunk → Option (Option Prop × SV × List Chunk)) := (145, fun
  | [.c (.pd (.int .i64 a)), .c (.pd (.int .i64 b))], [] => some (some (i64 a = true ∧ i64 b = true), .tup [.c (.pd (.int .i64 (okI (a + b)).1)), .c (.pd (.bool (i64 (a + b))))], [])
  | _, _ => none)
theorem eSum_ok (vs : List SX) (ck : List Chunk) (p : Option Prop) (ret : SV) (ck' : List Chunk) (h : eSum.2 vs ck = some (p, ret, ck')) (hp : Holds p) : Does Tryz.prog eSum.1 vs ck ret ck' := by
  unfold eSum at h
  simp only at h
  split at h
  · rename_i a b
    simp only [Option.some.injEq, Prod.mk.injEq] at h
    obtain ⟨rfl, rfl, rfl⟩ := h
    exact sum_spec a b hp.1 hp.2
  · simp at h
theorem less_spec (a b : Int) (ha : i64 a = true) (hb : i64 b = true) : Does Tryz.prog 146 [.i a, .i b] [] (okB (a - b)) [] := by
  have ha' := i64_iff.1 ha; have hb' := i64_iff.1 hb
  refine Does.go (cfg := cfg0) cfg0_ok Tryz.func146 (by kernel_rfl) (by kernel_rfl) (t := (.ite (decide (b < (0 : Int)) && decide (a > IntKind.wrap .i64 ((9223372036854775807 : Int) + b)) || decide (b > (0 : Int)) && decide (a < IntKind.wrap .i64 ((-9223372036854775808 : Int) + b))) (.ret (.tup [.i (0 : Int), .p (.bool false)]) []) (.ret (.tup [.i (IntKind.wrap .i64 (a - b)), .p (.bool true)]) []))) (by kernel_rfl) fun Γ => ?_
  refine ⟨fun h => ⟨?_, rfl⟩, fun h => ⟨?_, rfl⟩⟩
  · have e : i64 (a - b) = false := by
      simp only [Bool.or_eq_true, Bool.and_eq_true, decide_eq_true_eq] at h
      simp only [i64, Bool.and_eq_false_iff, decide_eq_false_iff_not]
      rcases h with ⟨h1, h2⟩ | ⟨h1, h2⟩
      · rw [wrapI (by omega) (by omega)] at h2; omega
      · rw [wrapI (by omega) (by omega)] at h2; omega
    rw [okB_false e]
  · have e : i64 (a - b) = true := by
      simp only [Bool.or_eq_false_iff, Bool.and_eq_false_iff, decide_eq_false_iff_not] at h
      rw [i64_iff]
      obtain ⟨h1, h2⟩ := h
      by_cases g1 : b < 0
      · have h1 := h1.resolve_left (by omega)
        rw [wrapI (by omega) (by omega)] at h1; omega
      · by_cases g2 : b > 0
        · have h2 := h2.resolve_left (by omega)
          rw [wrapI (by omega) (by omega)] at h2; omega
        · omega
    rw [okB_true e, wrap_i64 e]
def eLess : Nat × (List SX → List Chunk → Option (Option Prop × SV × List Chunk)) := (146, fun
  | [.c (.pd (.int .i64 a)), .c (.pd (.int .i64 b))], [] => some (some (i64 a = true ∧ i64 b = true), .tup [.c (.pd (.int .i64 (okI (a - b)).1)), .c (.pd (.bool (i64 (a - b))))], [])
  | _, _ => none)
theorem eLess_ok (vs : List SX) (ck : List Chunk) (p : Option Prop) (ret : SV) (ck' : List Chunk) (h : eLess.2 vs ck = some (p, ret, ck')) (hp : Holds p) : Does Tryz.prog eLess.1 vs ck ret ck' := by
  unfold eLess at h
  simp only at h
  split at h
  · rename_i a b
    simp only [Option.some.injEq, Prod.mk.injEq] at h
    obtain ⟨rfl, rfl, rfl⟩ := h
    exact less_spec a b hp.1 hp.2
  · simp at h
/-! products, by the bound divided -/
theorem lt_ediv (a m b : Int) (hb : 0 < b) : m / b < a ↔ m < a * b := Int.ediv_lt_iff_lt_mul hb
theorem tdiv_pos_pos (b : Int) (hb : 0 < b) : Int.tdiv 9223372036854775807 b = 9223372036854775807 / b := Int.tdiv_eq_ediv_of_nonneg (by decide)
theorem tdiv_min (b : Int) : Int.tdiv (-9223372036854775808) b = -(Int.tdiv 9223372036854775808 b) := Int.neg_tdiv _ _
theorem tdiv_min_pos (b : Int) (hb : 0 < b) : Int.tdiv (-9223372036854775808) b = -(9223372036854775808 / b) := by rw [tdiv_min, Int.tdiv_eq_ediv_of_nonneg (by decide)]
theorem tdiv_max_neg (b : Int) (hb : b < 0) : Int.tdiv 9223372036854775807 b = -(9223372036854775807 / (-b)) := by
  have : b = -(-b) := by omega
  rw [this, Int.tdiv_neg, Int.tdiv_eq_ediv_of_nonneg (by decide), Int.neg_neg]
theorem ediv_bound (m b : Int) (hm : 0 ≤ m) (hb : 0 < b) : 0 ≤ m / b ∧ m / b ≤ m := ⟨Int.ediv_nonneg hm (by omega), Int.ediv_le_self _ hm⟩
theorem times_spec (a b : Int) (ha : i64 a = true) (hb : i64 b = true) : Does Tryz.prog 147 [.i a, .i b] [] (okB (a * b)) [] := by
  have ha' := i64_iff.1 ha; have hb' := i64_iff.1 hb
  have w1 : 0 < b → IntKind.i64.wrap (Int.tdiv 9223372036854775807 b) = 9223372036854775807 / b := fun h => by
    have := ediv_bound 9223372036854775807 b (by decide) h
    rw [tdiv_pos_pos b h, wrapI (by omega) (by omega)]
  have w2 : ∀ x : Int, 0 < x → IntKind.i64.wrap (Int.tdiv (-9223372036854775808) x) = -(9223372036854775808 / x) := fun x h => by
    have := ediv_bound 9223372036854775808 x (by decide) h
    rw [tdiv_min_pos x h, wrapI (by omega) (by omega)]
  have w3 : b < 0 → IntKind.i64.wrap (Int.tdiv 9223372036854775807 b) = -(9223372036854775807 / (-b)) := fun h => by
    have := ediv_bound 9223372036854775807 (-b) (by decide) (by omega)
    rw [tdiv_max_neg b h, wrapI (by omega) (by omega)]
  refine Does.go (cfg := cfg0) cfg0_ok Tryz.func147 (by kernel_rfl) (by kernel_rfl) (t := (.need ((decide (a > (0 : Int)) && decide (b > (0 : Int))) = true → b ≠ (0 : Int)) (.ite (decide (a > (0 : Int)) && decide (b > (0 : Int)) && decide (a > IntKind.wrap .i64 (Int.tdiv (9223372036854775807 : Int) b))) (.ret (.tup [.i (0 : Int), .p (.bool false)]) []) (.need ((decide (a > (0 : Int)) && decide (b < (0 : Int))) = true → a ≠ (0 : Int)) (.ite (decide (a > (0 : Int)) && decide (b < (0 : Int)) && decide (b < IntKind.wrap .i64 (Int.tdiv (-9223372036854775808 : Int) a))) (.ret (.tup [.i (0 : Int), .p (.bool false)]) []) (.need ((decide (a < (0 : Int)) && decide (b > (0 : Int))) = true → b ≠ (0 : Int)) (.ite (decide (a < (0 : Int)) && decide (b > (0 : Int)) && decide (a < IntKind.wrap .i64 (Int.tdiv (-9223372036854775808 : Int) b))) (.ret (.tup [.i (0 : Int), .p (.bool false)]) []) (.need ((decide (a < (0 : Int)) && decide (b < (0 : Int))) = true → b ≠ (0 : Int)) (.ite (decide (a < (0 : Int)) && decide (b < (0 : Int)) && decide (a < IntKind.wrap .i64 (Int.tdiv (9223372036854775807 : Int) b))) (.ret (.tup [.i (0 : Int), .p (.bool false)]) []) (.ret (.tup [.i (IntKind.wrap .i64 (a * b)), .p (.bool true)]) [])))))))))) (by kernel_rfl) fun Γ => ?_
  refine ⟨fun h => ?_, fun h1 => ⟨?_, rfl⟩, fun n1 => ⟨fun h => ?_, fun h2 => ⟨?_, rfl⟩, fun n2 => ⟨fun h => ?_, fun h3 => ⟨?_, rfl⟩, fun n3 => ⟨fun h => ?_, fun h4 => ⟨?_, rfl⟩, fun n4 => ⟨?_, rfl⟩⟩⟩⟩⟩
  · simp only [Bool.and_eq_true, decide_eq_true_eq] at h; omega
  · simp only [Bool.and_eq_true, decide_eq_true_eq] at h1
    rw [w1 (by omega)] at h1
    have := (lt_ediv a _ b (by omega)).1 h1.2
    have e : i64 (a * b) = false := by simp only [i64, Bool.and_eq_false_iff, decide_eq_false_iff_not]; omega
    rw [okB_false e]
  · simp only [Bool.and_eq_true, decide_eq_true_eq] at h; omega
  · simp only [Bool.and_eq_true, decide_eq_true_eq] at h2
    rw [w2 a (by omega)] at h2
    have := (lt_ediv (-b) 9223372036854775808 a (by omega)).1 (by omega)
    rw [Int.neg_mul, Int.mul_comm] at this
    have e : i64 (a * b) = false := by simp only [i64, Bool.and_eq_false_iff, decide_eq_false_iff_not]; omega
    rw [okB_false e]
  · simp only [Bool.and_eq_true, decide_eq_true_eq] at h; omega
  · simp only [Bool.and_eq_true, decide_eq_true_eq] at h3
    rw [w2 b (by omega)] at h3
    have := (lt_ediv (-a) 9223372036854775808 b (by omega)).1 (by omega)
    rw [Int.neg_mul] at this
    have e : i64 (a * b) = false := by simp only [i64, Bool.and_eq_false_iff, decide_eq_false_iff_not]; omega
    rw [okB_false e]
  · simp only [Bool.and_eq_true, decide_eq_true_eq] at h; omega
  · simp only [Bool.and_eq_true, decide_eq_true_eq] at h4
    rw [w3 (by omega)] at h4
    have := (lt_ediv (-a) 9223372036854775807 (-b) (by omega)).1 (by omega)
    rw [Int.neg_mul_neg] at this
    have e : i64 (a * b) = false := by simp only [i64, Bool.and_eq_false_iff, decide_eq_false_iff_not]; omega
    rw [okB_false e]
  · have e : i64 (a * b) = true := by
      simp only [Bool.and_eq_false_iff, decide_eq_false_iff_not] at n1 n2 n3 n4
      rw [i64_iff]
      by_cases a0 : a = 0
      · subst a0; rw [Int.zero_mul]; omega
      by_cases b0 : b = 0
      · subst b0; rw [Int.mul_zero]; omega
      by_cases ap : 0 < a <;> by_cases bp : 0 < b
      · have n1 := n1.resolve_left (by omega)
        rw [w1 bp] at n1
        have := (not_congr (lt_ediv a _ b bp)).1 n1
        have := Int.mul_pos ap bp
        omega
      · have n2 := n2.resolve_left (by omega)
        rw [w2 a ap] at n2
        have := (not_congr (lt_ediv (-b) 9223372036854775808 a ap)).1 (by omega)
        rw [Int.neg_mul, Int.mul_comm] at this
        have h5 := Int.mul_pos ap (show 0 < -b by omega)
        rw [Int.mul_neg] at h5
        omega
      · have n3 := n3.resolve_left (by omega)
        rw [w2 b bp] at n3
        have := (not_congr (lt_ediv (-a) 9223372036854775808 b bp)).1 (by omega)
        rw [Int.neg_mul] at this
        have h5 := Int.mul_pos (show 0 < -a by omega) bp
        rw [Int.neg_mul] at h5
        omega
      · have n4 := n4.resolve_left (by omega)
        rw [w3 (by omega)] at n4
        have := (not_congr (lt_ediv (-a) 9223372036854775807 (-b) (by omega))).1 (by omega)
        rw [Int.neg_mul_neg] at this
        have h5 := Int.mul_pos (show 0 < -a by omega) (show 0 < -b by omega)
        rw [Int.neg_mul_neg] at h5
        omega
    rw [okB_true e, wrap_i64 e]
def eTimes : Nat × (List SX → List Chunk → Option (Option Prop × SV × List Chunk)) := (147, fun
  | [.c (.pd (.int .i64 a)), .c (.pd (.int .i64 b))], [] => some (some (i64 a = true ∧ i64 b = true), .tup [.c (.pd (.int .i64 (okI (a * b)).1)), .c (.pd (.bool (i64 (a * b))))], [])
  | _, _ => none)
theorem eTimes_ok (vs : List SX) (ck : List Chunk) (p : Option Prop) (ret : SV) (ck' : List Chunk) (h : eTimes.2 vs ck = some (p, ret, ck')) (hp : Holds p) : Does Tryz.prog eTimes.1 vs ck ret ck' := by
  unfold eTimes at h
  simp only at h
  split at h
  · rename_i a b
    simp only [Option.some.injEq, Prod.mk.injEq] at h
    obtain ⟨rfl, rfl, rfl⟩ := h
    exact times_spec a b hp.1 hp.2
  · simp at h
def cfgNums : Cfg := ⟨tys0, [eSum, eLess, eTimes]⟩
theorem cfgNums_ok : TabOk Tryz.prog cfgNums.tab := (TabOk.cons eSum_ok (TabOk.cons eLess_ok (TabOk.cons eTimes_ok TabOk.nil)))
abbrev ip (r : Int × Int) : SV := .tup [.i r.1, .i r.2]
theorem numbers_spec (op a b : Int) (hop : 11 ≤ op ∧ op ≤ 15) (ha : i64 a = true) (hb : i64 b = true) : Does Tryz.prog 125 [.i op, .i a, .i b] [] (ip (wholeM op a b)) [] := by
  have ha' := i64_iff.1 ha; have hb' := i64_iff.1 hb
  have ok : ∀ n : Int, ((!i64 n) = true → okI n = (0, 7)) ∧ ((!i64 n) = false → okI n = ((okI n).1, 0)) := fun n => by
    cases h : i64 n
    · rw [okI_false h]; simp
    · rw [okI_true h]; simp
  refine Does.go (cfg := cfgNums) cfgNums_ok Tryz.func125 (by kernel_rfl) (by kernel_rfl) (t := (.ite (op == (11 : Int)) (.need (i64 a = true ∧ i64 b = true) (.ite (!i64 (a + b)) (.ret (.tup [.i (0 : Int), .i (7 : Int)]) []) (.ret (.tup [.i (Prod.fst (okI (a + b))), .i (0 : Int)]) []))) (.ite (op == (12 : Int)) (.need (i64 a = true ∧ i64 b = true) (.ite (!i64 (a - b)) (.ret (.tup [.i (0 : Int), .i (7 : Int)]) []) (.ret (.tup [.i (Prod.fst (okI (a - b))), .i (0 : Int)]) []))) (.ite (op == (13 : Int)) (.need (i64 a = true ∧ i64 b = true) (.ite (!i64 (a * b)) (.ret (.tup [.i (0 : Int), .i (7 : Int)]) []) (.ret (.tup [.i (Prod.fst (okI (a * b))), .i (0 : Int)]) []))) (.ite (op == (14 : Int)) (.ite (b == (0 : Int)) (.ret (.tup [.i (0 : Int), .i (6 : Int)]) []) (.ite (a != (-9223372036854775808 : Int) || b != (-1 : Int)) (.need (b ≠ (0 : Int)) (.ite (!(a != (-9223372036854775808 : Int) || b != (-1 : Int))) (.ret (.tup [.i (0 : Int), .i (7 : Int)]) []) (.ret (.tup [.i (IntKind.wrap .i64 (Int.tdiv a b)), .i (0 : Int)]) []))) (.ite (!(a != (-9223372036854775808 : Int) || b != (-1 : Int))) (.ret (.tup [.i (0 : Int), .i (7 : Int)]) []) (.ret (.tup [.i (0 : Int), .i (0 : Int)]) [])))) (.ite (op == (15 : Int)) (.ite (b == (0 : Int)) (.ret (.tup [.i (0 : Int), .i (6 : Int)]) []) (.ite (b != (-1 : Int)) (.need (b ≠ (0 : Int)) (.ite false (.ret (.tup [.i (0 : Int), .i (7 : Int)]) []) (.ret (.tup [.i (Int.tmod a b), .i (0 : Int)]) []))) (.ite false (.ret (.tup [.i (0 : Int), .i (7 : Int)]) []) (.ret (.tup [.i (0 : Int), .i (0 : Int)]) [])))) (.ite false (.ret (.tup [.i (0 : Int), .i (7 : Int)]) []) (.ret (.tup [.i (0 : Int), .i (0 : Int)]) [])))))))) (by kernel_rfl) fun Γ => ?_
  refine ⟨fun h => ⟨⟨ha, hb⟩, fun h' => ⟨congrArg ip (a₁ := (0, 7)) ?_, rfl⟩, fun h' => ⟨congrArg ip (a₁ := ((okI (a + b)).1, 0)) ?_, rfl⟩⟩, fun n1 => ⟨fun h => ⟨⟨ha, hb⟩, fun h' => ⟨congrArg ip (a₁ := (0, 7)) ?_, rfl⟩, fun h' => ⟨congrArg ip (a₁ := ((okI (a - b)).1, 0)) ?_, rfl⟩⟩, fun n2 => ⟨fun h => ⟨⟨ha, hb⟩, fun h' => ⟨congrArg ip (a₁ := (0, 7)) ?_, rfl⟩, fun h' => ⟨congrArg ip (a₁ := ((okI (a * b)).1, 0)) ?_, rfl⟩⟩, fun n3 => ?_⟩⟩⟩
  · have e : op = 11 := by simpa using h
    simp only [wholeM, e, if_true, (ok _).1 h']
  · have e : op = 11 := by simpa using h
    simp only [wholeM, e, if_true]; exact ((ok _).2 h').symm
  · have e : op = 12 := by simpa using h
    simp [wholeM, e, (ok _).1 h']
  · have e : op = 12 := by simpa using h
    simp only [wholeM, e, if_true, show ¬ ((12 : Int) = 11) from by decide, if_false]; exact ((ok _).2 h').symm
  · have e : op = 13 := by simpa using h
    simp [wholeM, e, (ok _).1 h']
  · have e : op = 13 := by simpa using h
    simp only [wholeM, e, if_true, show ¬ ((13 : Int) = 11) from by decide, show ¬ ((13 : Int) = 12) from by decide, if_false]; exact ((ok _).2 h').symm
  have m1 : op ≠ 11 := by simpa using n1
  have m2 : op ≠ 12 := by simpa using n2
  have m3 : op ≠ 13 := by simpa using n3
  refine ⟨fun h => ⟨fun h0 => ⟨congrArg ip (a₁ := (0, 6)) ?_, rfl⟩, fun h0 => ⟨fun h1 => ⟨?_, fun h2 => ?_, fun h2 => ⟨congrArg ip (a₁ := (IntKind.i64.wrap (Int.tdiv a b), 0)) ?_, rfl⟩⟩, fun h1 => ⟨fun h2 => ⟨congrArg ip (a₁ := (0, 7)) ?_, rfl⟩, fun h2 => ?_⟩⟩⟩, fun n4 => ⟨fun h => ⟨fun h0 => ⟨congrArg ip (a₁ := (0, 6)) ?_, rfl⟩, fun h0 => ⟨fun h1 => ⟨?_, fun h2 => Bool.noConfusion h2, fun h2 => ⟨congrArg ip (a₁ := (Int.tmod a b, 0)) ?_, rfl⟩⟩, fun h1 => ⟨fun h2 => Bool.noConfusion h2, fun h2 => ⟨congrArg ip (a₁ := (0, 0)) ?_, rfl⟩⟩⟩⟩, fun n5 => ?_⟩⟩
  · have e : op = 14 := by simpa using h
    have e0 : b = 0 := by simpa using h0
    simp [wholeM, e, e0]
  · simpa using h0
  · rw [h1] at h2; exact Bool.noConfusion h2
  · have e : op = 14 := by simpa using h
    have e0 : b ≠ 0 := by simpa using h0
    have e1 : a ≠ -9223372036854775808 ∨ b ≠ -1 := by simpa using h1
    have ei : i64 (a.tdiv b) = true := by
      by_cases hb1 : b = -1
      · have ha1 := e1.resolve_right (by simpa using hb1)
        rw [hb1, tdiv_neg_one, i64_iff]; omega
      · exact tdiv_i64 ha e0 hb1
    simp [wholeM, e, e0, okI_true ei, wrap_i64 ei]
  · have e : op = 14 := by simpa using h
    have e0 : b ≠ 0 := by simpa using h0
    have e1 : a = -9223372036854775808 ∧ b = -1 := by simpa using h1
    obtain ⟨rfl, rfl⟩ := e1
    subst e
    decide
  · rw [h1] at h2; exact Bool.noConfusion h2
  · have e : op = 15 := by simpa using h
    have e0 : b = 0 := by simpa using h0
    simp [wholeM, e, e0]
  · simpa using h0
  · have e : op = 15 := by simpa using h
    have e0 : b ≠ 0 := by simpa using h0
    simp [wholeM, e, e0]
  · have e : op = 15 := by simpa using h
    have e1 : b = -1 := by simpa using h1
    subst e1
    simp [wholeM, e, tmod_neg_one]
  · have m4 : op ≠ 14 := by simpa using n4
    have m5 : op ≠ 15 := by simpa using n5
    omega
def eNumbers : Nat × (List SX → List Chunk → Option (Option Prop × SV × List Chunk)) := (125, fun
  | [.c (.pd (.int .i64 op)), .c (.pd (.int .i64 a)), .c (.pd (.int .i64 b))], [] => some (some ((11 ≤ op ∧ op ≤ 15) ∧ i64 a = true ∧ i64 b = true), .tup [.c (.pd (.int .i64 (wholeM op a b).1)), .c (.pd (.int .i64 (wholeM op a b).2))], [])
  | _, _ => none)
theorem eNumbers_ok (vs : List SX) (ck : List Chunk) (p : Option Prop) (ret : SV) (ck' : List Chunk) (h : eNumbers.2 vs ck = some (p, ret, ck')) (hp : Holds p) : Does Tryz.prog eNumbers.1 vs ck ret ck' := by
  unfold eNumbers at h
  simp only at h
  split at h
  · rename_i op a b
    simp only [Option.some.injEq, Prod.mk.injEq] at h
    obtain ⟨rfl, rfl, rfl⟩ := h
    exact numbers_spec op a b hp.1 hp.2.1 hp.2.2
  · simp at h
abbrev pp (r : Val × Int) : SV := .tup [.agg [.i r.1.a, .i r.1.b], .i r.2]
theorem bound_spec (a b : Int) : Does Tryz.prog 156 [.i a, .i b] [] (pp (pointR a b)) [] := by
  refine Does.go (cfg := (cfgIn)) cfgIn_ok Tryz.func156 (by kernel_rfl) (by kernel_rfl) (t := (.ite (!pIn a || !pIn b) (.ret (.tup [.agg [.i (0 : Int), .i (0 : Int)], .i (5 : Int)]) []) (.ret (.tup [.agg [.i a, .i b], .i (0 : Int)]) []))) (by kernel_rfl) fun Γ => ?_
  refine ⟨fun h => ⟨congrArg pp (a₁ := (Val.zero, 5)) ?_, rfl⟩, fun h => ⟨congrArg pp (a₁ := (⟨3, a, b⟩, 0)) ?_, rfl⟩⟩
  · unfold pointR
    cases h1 : pIn a <;> cases h2 : pIn b <;> simp_all
  · unfold pointR
    cases h1 : pIn a <;> cases h2 : pIn b <;> simp_all
def eBound : Nat × (List SX → List Chunk → Option (Option Prop × SV × List Chunk)) := (156, fun
  | [.c (.pd (.int .i64 a)), .c (.pd (.int .i64 b))], [] => some (none, .tup [.agg [.pd (.int .i64 (pointR a b).1.a), .pd (.int .i64 (pointR a b).1.b)], .c (.pd (.int .i64 (pointR a b).2))], [])
  | _, _ => none)
theorem eBound_ok (vs : List SX) (ck : List Chunk) (p : Option Prop) (ret : SV) (ck' : List Chunk) (h : eBound.2 vs ck = some (p, ret, ck')) (hp : Holds p) : Does Tryz.prog eBound.1 vs ck ret ck' := by
  unfold eBound at h
  simp only at h
  split at h
  · rename_i a b
    simp only [Option.some.injEq, Prod.mk.injEq] at h
    obtain ⟨rfl, rfl, rfl⟩ := h
    exact bound_spec a b
  · simp at h
def cfgBd : Cfg := ⟨tys0, [eBound]⟩
theorem cfgBd_ok : TabOk Tryz.prog cfgBd.tab := (TabOk.cons eBound_ok TabOk.nil)
theorem pIn_iff {a : Int} : pIn a = true ↔ -1048576 ≤ a ∧ a ≤ 1048576 := by simp [pIn]
theorem pIn_mul {a b : Int} (ha : pIn a = true) (hb : pIn b = true) : -1099511627776 ≤ a * b ∧ a * b ≤ 1099511627776 := by
  have ha := pIn_iff.1 ha; have hb := pIn_iff.1 hb
  have h : (a * b).natAbs = a.natAbs * b.natAbs := Int.natAbs_mul a b
  have h2 : a.natAbs * b.natAbs ≤ 1048576 * 1048576 := Nat.mul_le_mul (by omega) (by omega)
  omega
theorem padd_spec (a b c d : Int) (ha : pIn a = true) (hb : pIn b = true) (hc : pIn c = true) (hd : pIn d = true) : Does Tryz.prog 142 [.agg [.pd (.i a), .pd (.i b)], .agg [.pd (.i c), .pd (.i d)]] [] (pp (pointR (a + c) (b + d))) [] := by
  have ha := pIn_iff.1 ha; have hb := pIn_iff.1 hb; have hc := pIn_iff.1 hc; have hd := pIn_iff.1 hd
  refine Does.go (cfg := (cfgBd)) cfgBd_ok Tryz.func142 (by kernel_rfl) (by kernel_rfl) (t := (.ret (.tup [.agg [.i (Val.a (Prod.fst (pointR (IntKind.wrap .i64 (a + c)) (IntKind.wrap .i64 (b + d))))), .i (Val.b (Prod.fst (pointR (IntKind.wrap .i64 (a + c)) (IntKind.wrap .i64 (b + d)))))], .i (Prod.snd (pointR (IntKind.wrap .i64 (a + c)) (IntKind.wrap .i64 (b + d))))]) [])) (by kernel_rfl) fun Γ => ?_
  rw [wrapI (n := a + c) (by omega) (by omega), wrapI (n := b + d) (by omega) (by omega)]
  exact ⟨rfl, rfl⟩
theorem psub_spec (a b c d : Int) (ha : pIn a = true) (hb : pIn b = true) (hc : pIn c = true) (hd : pIn d = true) : Does Tryz.prog 143 [.agg [.pd (.i a), .pd (.i b)], .agg [.pd (.i c), .pd (.i d)]] [] (pp (pointR (a - c) (b - d))) [] := by
  have ha := pIn_iff.1 ha; have hb := pIn_iff.1 hb; have hc := pIn_iff.1 hc; have hd := pIn_iff.1 hd
  refine Does.go (cfg := (cfgBd)) cfgBd_ok Tryz.func143 (by kernel_rfl) (by kernel_rfl) (t := (.ret (.tup [.agg [.i (Val.a (Prod.fst (pointR (IntKind.wrap .i64 (a - c)) (IntKind.wrap .i64 (b - d))))), .i (Val.b (Prod.fst (pointR (IntKind.wrap .i64 (a - c)) (IntKind.wrap .i64 (b - d)))))], .i (Prod.snd (pointR (IntKind.wrap .i64 (a - c)) (IntKind.wrap .i64 (b - d))))]) [])) (by kernel_rfl) fun Γ => ?_
  rw [wrapI (n := a - c) (by omega) (by omega), wrapI (n := b - d) (by omega) (by omega)]
  exact ⟨rfl, rfl⟩
theorem pmul_spec (a b c d : Int) (ha : pIn a = true) (hb : pIn b = true) (hc : pIn c = true) (hd : pIn d = true) : Does Tryz.prog 144 [.agg [.pd (.i a), .pd (.i b)], .agg [.pd (.i c), .pd (.i d)]] [] (pp (pointR (a * c - b * d) (a * d + b * c))) [] := by
  have h1 := pIn_mul ha hc; have h2 := pIn_mul hb hd; have h3 := pIn_mul ha hd; have h4 := pIn_mul hb hc
  refine Does.go (cfg := (cfgBd)) cfgBd_ok Tryz.func144 (by kernel_rfl) (by kernel_rfl) (t := (.ret (.tup [.agg [.i (Val.a (Prod.fst (pointR (IntKind.wrap .i64 (IntKind.wrap .i64 (a * c) - IntKind.wrap .i64 (b * d))) (IntKind.wrap .i64 (IntKind.wrap .i64 (a * d) + IntKind.wrap .i64 (b * c)))))), .i (Val.b (Prod.fst (pointR (IntKind.wrap .i64 (IntKind.wrap .i64 (a * c) - IntKind.wrap .i64 (b * d))) (IntKind.wrap .i64 (IntKind.wrap .i64 (a * d) + IntKind.wrap .i64 (b * c))))))], .i (Prod.snd (pointR (IntKind.wrap .i64 (IntKind.wrap .i64 (a * c) - IntKind.wrap .i64 (b * d))) (IntKind.wrap .i64 (IntKind.wrap .i64 (a * d) + IntKind.wrap .i64 (b * c)))))]) [])) (by kernel_rfl) fun Γ => ?_
  rw [wrapI (n := a * c) (by omega) (by omega), wrapI (n := b * d) (by omega) (by omega), wrapI (n := a * d) (by omega) (by omega), wrapI (n := b * c) (by omega) (by omega), wrapI (by omega) (by omega), wrapI (by omega) (by omega)]
  exact ⟨rfl, rfl⟩
def ePAdd : Nat × (List SX → List Chunk → Option (Option Prop × SV × List Chunk)) := (142, fun
  | [.agg [.pd (.int .i64 a), .pd (.int .i64 b)], .agg [.pd (.int .i64 c), .pd (.int .i64 d)]], [] => some (some (pIn a = true ∧ pIn b = true ∧ pIn c = true ∧ pIn d = true), .tup [.agg [.pd (.int .i64 (pointR (a + c) (b + d)).1.a), .pd (.int .i64 (pointR (a + c) (b + d)).1.b)], .c (.pd (.int .i64 (pointR (a + c) (b + d)).2))], [])
  | _, _ => none)
theorem ePAdd_ok (vs : List SX) (ck : List Chunk) (p : Option Prop) (ret : SV) (ck' : List Chunk) (h : ePAdd.2 vs ck = some (p, ret, ck')) (hp : Holds p) : Does Tryz.prog ePAdd.1 vs ck ret ck' := by
  unfold ePAdd at h
  simp only at h
  split at h
  · rename_i a b c d
    simp only [Option.some.injEq, Prod.mk.injEq] at h
    obtain ⟨rfl, rfl, rfl⟩ := h
    exact padd_spec a b c d hp.1 hp.2.1 hp.2.2.1 hp.2.2.2
  · simp at h
def ePSub : Nat × (List SX → List Chunk → Option (Option Prop × SV × List Chunk)) := (143, fun
  | [.agg [.pd (.int .i64 a), .pd (.int .i64 b)], .agg [.pd (.int .i64 c), .pd (.int .i64 d)]], [] => some (some (pIn a = true ∧ pIn b = true ∧ pIn c = true ∧ pIn d = true), .tup [.agg [.pd (.int .i64 (pointR (a - c) (b - d)).1.a), .pd (.int .i64 (pointR (a - c) (b - d)).1.b)], .c (.pd (.int .i64 (pointR (a - c) (b - d)).2))], [])
  | _, _ => none)
theorem ePSub_ok (vs : List SX) (ck : List Chunk) (p : Option Prop) (ret : SV) (ck' : List Chunk) (h : ePSub.2 vs ck = some (p, ret, ck')) (hp : Holds p) : Does Tryz.prog ePSub.1 vs ck ret ck' := by
  unfold ePSub at h
  simp only at h
  split at h
  · rename_i a b c d
    simp only [Option.some.injEq, Prod.mk.injEq] at h
    obtain ⟨rfl, rfl, rfl⟩ := h
    exact psub_spec a b c d hp.1 hp.2.1 hp.2.2.1 hp.2.2.2
  · simp at h
def ePMul : Nat × (List SX → List Chunk → Option (Option Prop × SV × List Chunk)) := (144, fun
  | [.agg [.pd (.int .i64 a), .pd (.int .i64 b)], .agg [.pd (.int .i64 c), .pd (.int .i64 d)]], [] => some (some (pIn a = true ∧ pIn b = true ∧ pIn c = true ∧ pIn d = true), .tup [.agg [.pd (.int .i64 (pointR (a * c - b * d) (a * d + b * c)).1.a), .pd (.int .i64 (pointR (a * c - b * d) (a * d + b * c)).1.b)], .c (.pd (.int .i64 (pointR (a * c - b * d) (a * d + b * c)).2))], [])
  | _, _ => none)
theorem ePMul_ok (vs : List SX) (ck : List Chunk) (p : Option Prop) (ret : SV) (ck' : List Chunk) (h : ePMul.2 vs ck = some (p, ret, ck')) (hp : Holds p) : Does Tryz.prog ePMul.1 vs ck ret ck' := by
  unfold ePMul at h
  simp only at h
  split at h
  · rename_i a b c d
    simp only [Option.some.injEq, Prod.mk.injEq] at h
    obtain ⟨rfl, rfl, rfl⟩ := h
    exact pmul_spec a b c d hp.1 hp.2.1 hp.2.2.1 hp.2.2.2
  · simp at h
def cfgPts : Cfg := ⟨tys0, [ePAdd, ePSub, ePMul]⟩
theorem cfgPts_ok : TabOk Tryz.prog cfgPts.tab := (TabOk.cons ePAdd_ok (TabOk.cons ePSub_ok (TabOk.cons ePMul_ok TabOk.nil)))
def ptsM (op a b c d : Int) : Val × Int := if op = 11 then pointR (a + c) (b + d) else if op = 12 then pointR (a - c) (b - d) else pointR (a * c - b * d) (a * d + b * c)
theorem pointR_zero {x y : Int} (h : (pointR x y).2 ≠ 0) : pointR x y = (Val.zero, (pointR x y).2) := by
  have := pointR_plain x y h
  rw [← this]
theorem pointR_some {x y : Int} (h : (pointR x y).2 = 0) : pointR x y = (⟨3, (pointR x y).1.a, (pointR x y).1.b⟩, 0) := by
  unfold pointR at h ⊢
  cases hb : (pIn x && pIn y)
  · rw [hb] at h; simp at h
  · simp
theorem points_spec (op k a b k' c d : Int) (ha : pIn a = true) (hb : pIn b = true) (hc : pIn c = true) (hd : pIn d = true) : Does Tryz.prog 124 [.i op, .agg [.pd (.i k), .pd (.i a), .pd (.i b)], .agg [.pd (.i k'), .pd (.i c), .pd (.i d)]] [] (rv (ptsM op a b c d)) [] := by
  refine Does.go (cfg := cfgPts) cfgPts_ok Tryz.func124 (by kernel_rfl) (by kernel_rfl) (t := (.ite (op == (11 : Int)) (.need (pIn a = true ∧ pIn b = true ∧ pIn c = true ∧ pIn d = true) (.ite (Prod.snd (pointR (a + c) (b + d)) != (0 : Int)) (.ret (.tup [.agg [.i (0 : Int), .i (0 : Int), .i (0 : Int)], .i (Prod.snd (pointR (a + c) (b + d)))]) []) (.ret (.tup [.agg [.i (3 : Int), .i (Val.a (Prod.fst (pointR (a + c) (b + d)))), .i (Val.b (Prod.fst (pointR (a + c) (b + d))))], .i (0 : Int)]) []))) (.ite (op == (12 : Int)) (.need (pIn a = true ∧ pIn b = true ∧ pIn c = true ∧ pIn d = true) (.ite (Prod.snd (pointR (a - c) (b - d)) != (0 : Int)) (.ret (.tup [.agg [.i (0 : Int), .i (0 : Int), .i (0 : Int)], .i (Prod.snd (pointR (a - c) (b - d)))]) []) (.ret (.tup [.agg [.i (3 : Int), .i (Val.a (Prod.fst (pointR (a - c) (b - d)))), .i (Val.b (Prod.fst (pointR (a - c) (b - d))))], .i (0 : Int)]) []))) (.need (pIn a = true ∧ pIn b = true ∧ pIn c = true ∧ pIn d = true) (.ite (Prod.snd (pointR (a * c - b * d) (a * d + b * c)) != (0 : Int)) (.ret (.tup [.agg [.i (0 : Int), .i (0 : Int), .i (0 : Int)], .i (Prod.snd (pointR (a * c - b * d) (a * d + b * c)))]) []) (.ret (.tup [.agg [.i (3 : Int), .i (Val.a (Prod.fst (pointR (a * c - b * d) (a * d + b * c)))), .i (Val.b (Prod.fst (pointR (a * c - b * d) (a * d + b * c))))], .i (0 : Int)]) [])))))) (by kernel_rfl) fun Γ => ?_
  refine ⟨fun h => ⟨⟨ha, hb, hc, hd⟩, fun g => ⟨congrArg rv (a₁ := (Val.zero, (pointR (a + c) (b + d)).2)) ?_, rfl⟩, fun g => ⟨congrArg rv (a₁ := (⟨3, (pointR (a + c) (b + d)).1.a, (pointR (a + c) (b + d)).1.b⟩, 0)) ?_, rfl⟩⟩, fun n1 => ⟨fun h => ⟨⟨ha, hb, hc, hd⟩, fun g => ⟨congrArg rv (a₁ := (Val.zero, (pointR (a - c) (b - d)).2)) ?_, rfl⟩, fun g => ⟨congrArg rv (a₁ := (⟨3, (pointR (a - c) (b - d)).1.a, (pointR (a - c) (b - d)).1.b⟩, 0)) ?_, rfl⟩⟩, fun n2 => ⟨⟨ha, hb, hc, hd⟩, fun g => ⟨congrArg rv (a₁ := (Val.zero, (pointR (a * c - b * d) (a * d + b * c)).2)) ?_, rfl⟩, fun g => ⟨congrArg rv (a₁ := (⟨3, (pointR (a * c - b * d) (a * d + b * c)).1.a, (pointR (a * c - b * d) (a * d + b * c)).1.b⟩, 0)) ?_, rfl⟩⟩⟩⟩
  · have e : op = 11 := by simpa using h
    rw [ptsM, if_pos e]; exact (pointR_zero (by simpa using g)).symm
  · have e : op = 11 := by simpa using h
    rw [ptsM, if_pos e]; exact (pointR_some (by simpa using g)).symm
  · have e : op = 12 := by simpa using h
    rw [ptsM, if_neg (by simpa using n1), if_pos e]; exact (pointR_zero (by simpa using g)).symm
  · have e : op = 12 := by simpa using h
    rw [ptsM, if_neg (by simpa using n1), if_pos e]; exact (pointR_some (by simpa using g)).symm
  · rw [ptsM, if_neg (by simpa using n1), if_neg (by simpa using n2)]; exact (pointR_zero (by simpa using g)).symm
  · rw [ptsM, if_neg (by simpa using n1), if_neg (by simpa using n2)]; exact (pointR_some (by simpa using g)).symm
def ePoints : Nat × (List SX → List Chunk → Option (Option Prop × SV × List Chunk)) := (124, fun
  | [.c (.pd (.int .i64 op)), .agg [.pd (.int .i64 k), .pd (.int .i64 a), .pd (.int .i64 b)], .agg [.pd (.int .i64 k'), .pd (.int .i64 c), .pd (.int .i64 d)]], [] => some (some (pIn a = true ∧ pIn b = true ∧ pIn c = true ∧ pIn d = true), .tup [.agg [.pd (.int .i64 (ptsM op a b c d).1.kind), .pd (.int .i64 (ptsM op a b c d).1.a), .pd (.int .i64 (ptsM op a b c d).1.b)], .c (.pd (.int .i64 (ptsM op a b c d).2))], [])
  | _, _ => none)
theorem ePoints_ok (vs : List SX) (ck : List Chunk) (p : Option Prop) (ret : SV) (ck' : List Chunk) (h : ePoints.2 vs ck = some (p, ret, ck')) (hp : Holds p) : Does Tryz.prog ePoints.1 vs ck ret ck' := by
  unfold ePoints at h
  simp only at h
  split at h
  · rename_i op k a b k' c d
    simp only [Option.some.injEq, Prod.mk.injEq] at h
    obtain ⟨rfl, rfl, rfl⟩ := h
    exact points_spec op k a b k' c d hp.1 hp.2.1 hp.2.2.1 hp.2.2.2
  · simp at h
end Go.Proofs.YtjndellhebidoaaGreatDoor

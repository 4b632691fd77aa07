/- Contracts: the document's one and two values. Conditions: values that may be. -/
import Derived.Test.YtjndellhebidoaaGreatDoorJg
namespace Go.Proofs.YtjndellhebidoaaGreatDoor
open Go Go.Ev
set_option maxRecDepth 100000
def cfgRt : Cfg := ⟨tys0, [eRefTruth, ePoints, eNumbers]⟩
theorem cfgRt_ok : TabOk Tryz.prog cfgRt.tab := (TabOk.cons eRefTruth_ok (TabOk.cons ePoints_ok (TabOk.cons eNumbers_ok TabOk.nil)))
theorem ref_two_spec (op k a b k' c d : Int) (hop : 11 ≤ op ∧ op ≤ 23) (hu : vOk ⟨k, a, b⟩ = true) (hv : vOk ⟨k', c, d⟩ = true) : Does Tryz.prog 100 [.i op, .agg [.pd (.i k), .pd (.i a), .pd (.i b)], .agg [.pd (.i k'), .pd (.i c), .pd (.i d)]] [] (rv (twoM op ⟨k, a, b⟩ ⟨k', c, d⟩)) [] := by
  obtain ⟨ru, iu⟩ := vOk_iff.1 hu
  obtain ⟨rw', iv⟩ := vOk_iff.1 hv
  simp only at iu iv
  refine Does.go (cfg := cfgRt) cfgRt_ok Tryz.func100 (by kernel_rfl) (by kernel_rfl) (t := (.ite (k != k') (.ret (.tup [.agg [.i (0 : Int), .i (0 : Int), .i (0 : Int)], .i (8 : Int)]) []) (.ite (op == (16 : Int) || op == (17 : Int)) (.ret (.tup [.agg [.i (Val.kind (truthV ((a == c && b == d) == (op == (16 : Int))))), .i (Val.a (truthV ((a == c && b == d) == (op == (16 : Int))))), .i (Val.b (truthV ((a == c && b == d) == (op == (16 : Int)))))], .i (0 : Int)]) []) (.ite (k == (2 : Int) && op == (22 : Int)) (.ret (.tup [.agg [.i (Val.kind (truthV (a == (1 : Int) && c == (1 : Int)))), .i (Val.a (truthV (a == (1 : Int) && c == (1 : Int)))), .i (Val.b (truthV (a == (1 : Int) && c == (1 : Int))))], .i (0 : Int)]) []) (.ite (k == (2 : Int) && op == (23 : Int)) (.ret (.tup [.agg [.i (Val.kind (truthV (a == (1 : Int) || c == (1 : Int)))), .i (Val.a (truthV (a == (1 : Int) || c == (1 : Int)))), .i (Val.b (truthV (a == (1 : Int) || c == (1 : Int))))], .i (0 : Int)]) []) (.ite (k == (3 : Int) && decide (op ≤ (13 : Int))) (.need (pIn a = true ∧ pIn b = true ∧ pIn c = true ∧ pIn d = true) (.ret (.tup [.agg [.i (Val.kind (Prod.fst (ptsM op a b c d))), .i (Val.a (Prod.fst (ptsM op a b c d))), .i (Val.b (Prod.fst (ptsM op a b c d)))], .i (Prod.snd (ptsM op a b c d))]) [])) (.ite (k == (1 : Int) && decide (op ≤ (15 : Int))) (.need (((11 : Int) ≤ op ∧ op ≤ (15 : Int)) ∧ i64 a = true ∧ i64 c = true) (.ite (Prod.snd (wholeM op a c) != (0 : Int)) (.ret (.tup [.agg [.i (0 : Int), .i (0 : Int), .i (0 : Int)], .i (Prod.snd (wholeM op a c))]) []) (.ret (.tup [.agg [.i (1 : Int), .i (Prod.fst (wholeM op a c)), .i (0 : Int)], .i (0 : Int)]) []))) (.ite (k == (1 : Int) && op == (18 : Int)) (.ret (.tup [.agg [.i (Val.kind (truthV (decide (a < c)))), .i (Val.a (truthV (decide (a < c)))), .i (Val.b (truthV (decide (a < c))))], .i (0 : Int)]) []) (.ite (k == (1 : Int) && op == (19 : Int)) (.ret (.tup [.agg [.i (Val.kind (truthV (decide (a ≤ c)))), .i (Val.a (truthV (decide (a ≤ c)))), .i (Val.b (truthV (decide (a ≤ c))))], .i (0 : Int)]) []) (.ite (k == (1 : Int) && op == (20 : Int)) (.ret (.tup [.agg [.i (Val.kind (truthV (decide (c < a)))), .i (Val.a (truthV (decide (c < a)))), .i (Val.b (truthV (decide (c < a))))], .i (0 : Int)]) []) (.ite (k == (1 : Int) && op == (21 : Int)) (.ret (.tup [.agg [.i (Val.kind (truthV (decide (c ≤ a)))), .i (Val.a (truthV (decide (c ≤ a)))), .i (Val.b (truthV (decide (c ≤ a))))], .i (0 : Int)]) []) (.ret (.tup [.agg [.i (0 : Int), .i (0 : Int), .i (0 : Int)], .i (8 : Int)]) [])))))))))))) (by kernel_rfl) fun Γ => ?_
  refine ⟨fun h => ⟨congrArg rv (a₁ := (Val.zero, 8)) ?_, rfl⟩, fun h => ?_⟩
  · have h' : k ≠ k' := by simpa using h
    simp [twoM, h']
  have hk : k = k' := by simpa using h
  subst hk
  refine ⟨fun h => ⟨congrArg rv (a₁ := (truthV ((a == c && b == d) == (op == 16)), 0)) ?_, rfl⟩, fun n16 => ⟨fun h => ⟨congrArg rv (a₁ := (truthV (a == 1 && c == 1), 0)) ?_, rfl⟩, fun n22 => ⟨fun h => ⟨congrArg rv (a₁ := (truthV (a == 1 || c == 1), 0)) ?_, rfl⟩, fun n23 => ⟨fun h => ?_, fun n3 => ?_⟩⟩⟩⟩
  · have e : op = 16 ∨ op = 17 := by simpa using h
    rcases e with e | e
    · simp [twoM, e]
    · simp [twoM, e]
  · have e : k = 2 ∧ op = 22 := by simpa using h
    simp [twoM, e.1, e.2]
  · have e : k = 2 ∧ op = 23 := by simpa using h
    simp [twoM, e.1, e.2]
  · have e : k = 3 ∧ op ≤ 13 := by simpa using h
    obtain ⟨rfl, hle⟩ := e
    obtain ⟨h1, h2⟩ := vR_point ru rfl
    obtain ⟨h3, h4⟩ := vR_point rw' rfl
    refine ⟨⟨h1, h2, h3, h4⟩, congrArg rv (a₁ := ptsM op a b c d) ?_, rfl⟩
    have hq : op = 11 ∨ op = 12 ∨ op = 13 := by omega
    rcases hq with rfl | rfl | rfl <;> simp [twoM, ptsM]
  have m16 : op ≠ 16 ∧ op ≠ 17 := by simpa using n16
  have m22 : ¬ (k = 2 ∧ op = 22) := by simpa using n22
  have m23 : ¬ (k = 2 ∧ op = 23) := by simpa using n23
  have m3 : ¬ (k = 3 ∧ op ≤ 13) := by simpa using n3
  refine ⟨fun h => ?_, fun n15 => ⟨fun h => ⟨congrArg rv (a₁ := (truthV (decide (a < c)), 0)) ?_, rfl⟩, fun n18 => ⟨fun h => ⟨congrArg rv (a₁ := (truthV (decide (a ≤ c)), 0)) ?_, rfl⟩, fun n19 => ⟨fun h => ⟨congrArg rv (a₁ := (truthV (decide (c < a)), 0)) ?_, rfl⟩, fun n20 => ⟨fun h => ⟨congrArg rv (a₁ := (truthV (decide (c ≤ a)), 0)) ?_, rfl⟩, fun n21 => ⟨congrArg rv (a₁ := (Val.zero, 8)) ?_, rfl⟩⟩⟩⟩⟩⟩
  · have e : k = 1 ∧ op ≤ 15 := by simpa using h
    obtain ⟨rfl, hle⟩ := e
    have hM : twoM op ⟨1, a, b⟩ ⟨1, c, d⟩ = numR (wholeM op a c) := by
      have hq : op = 11 ∨ op = 12 ∨ op = 13 ∨ op = 14 ∨ op = 15 := by omega
      rcases hq with rfl | rfl | rfl | rfl | rfl <;> simp [twoM]
    rw [hM]
    refine ⟨⟨⟨hop.1, hle⟩, iu, iv⟩, fun g => ⟨congrArg rv (a₁ := (Val.zero, (wholeM op a c).2)) ?_, rfl⟩, fun g => ⟨congrArg rv (a₁ := (numV (wholeM op a c).1, 0)) ?_, rfl⟩⟩
    · have e : (wholeM op a c).2 ≠ 0 := by simpa using g
      simp [numR, e]
    · have e : (wholeM op a c).2 = 0 := by simpa using g
      simp [numR, e]
  · have e : k = 1 ∧ op = 18 := by simpa using h
    simp [twoM, e.1, e.2]
  · have e : k = 1 ∧ op = 19 := by simpa using h
    simp [twoM, e.1, e.2]
  · have e : k = 1 ∧ op = 20 := by simpa using h
    simp [twoM, e.1, e.2]
  · have e : k = 1 ∧ op = 21 := by simpa using h
    simp [twoM, e.1, e.2]
  · have m15 : ¬ (k = 1 ∧ op ≤ 15) := by simpa using n15
    have m18 : ¬ (k = 1 ∧ op = 18) := by simpa using n18
    have m19 : ¬ (k = 1 ∧ op = 19) := by simpa using n19
    have m20 : ¬ (k = 1 ∧ op = 20) := by simpa using n20
    have m21 : ¬ (k = 1 ∧ op = 21) := by simpa using n21
    by_cases hk1 : k = 1
    · have hq : op = 22 ∨ op = 23 := by omega
      rcases hq with rfl | rfl <;> simp [twoM, hk1]
    · have p11 : ¬ (k = 3 ∧ op = 11) := by omega
      have p12 : ¬ (k = 3 ∧ op = 12) := by omega
      have p13 : ¬ (k = 3 ∧ op = 13) := by omega
      simp [twoM, m16.1, m16.2, m22, m23, p11, p12, p13, hk1]
def eRefTwo : Nat × (List SX → List Chunk → Option (Option Prop × SV × List Chunk)) := (100, fun
  | [.c (.pd (.int .i64 op)), .agg [.pd (.int .i64 k), .pd (.int .i64 a), .pd (.int .i64 b)], .agg [.pd (.int .i64 k'), .pd (.int .i64 c), .pd (.int .i64 d)]], [] => some (some ((11 ≤ op ∧ op ≤ 23) ∧ vOk ⟨k, a, b⟩ = true ∧ vOk ⟨k', c, d⟩ = true), .tup [.agg [.pd (.int .i64 (twoM op ⟨k, a, b⟩ ⟨k', c, d⟩).1.kind), .pd (.int .i64 (twoM op ⟨k, a, b⟩ ⟨k', c, d⟩).1.a), .pd (.int .i64 (twoM op ⟨k, a, b⟩ ⟨k', c, d⟩).1.b)], .c (.pd (.int .i64 (twoM op ⟨k, a, b⟩ ⟨k', c, d⟩).2))], [])
  | _, _ => none)
theorem eRefTwo_ok (vs : List SX) (ck : List Chunk) (p : Option Prop) (ret : SV) (ck' : List Chunk) (h : eRefTwo.2 vs ck = some (p, ret, ck')) (hp : Holds p) : Does Tryz.prog eRefTwo.1 vs ck ret ck' := by
  unfold eRefTwo at h
  simp only at h
  split at h
  · rename_i op k a b k' c d
    simp only [Option.some.injEq, Prod.mk.injEq] at h
    obtain ⟨rfl, rfl, rfl⟩ := h
    exact ref_two_spec op k a b k' c d hp.1 hp.2.1 hp.2.2
  · simp at h
def cfgRo : Cfg := ⟨tys0, [eRefTruth, eRefTwo]⟩
theorem cfgRo_ok : TabOk Tryz.prog cfgRo.tab := (TabOk.cons eRefTruth_ok (TabOk.cons eRefTwo_ok TabOk.nil))
theorem ref_one_spec (op k a b : Int) (hop : 7 ≤ op ∧ op ≤ 10) (hu : vOk ⟨k, a, b⟩ = true) : Does Tryz.prog 98 [.i op, .agg [.pd (.i k), .pd (.i a), .pd (.i b)]] [] (rv (oneM op ⟨k, a, b⟩)) [] := by
  obtain ⟨ru, iu⟩ := vOk_iff.1 hu
  simp only at iu
  refine Does.go (cfg := cfgRo) cfgRo_ok Tryz.func98 (by kernel_rfl) (by kernel_rfl) (t := (.ite (op == (8 : Int) && k == (2 : Int)) (.ret (.tup [.agg [.i (Val.kind (truthV (a == (0 : Int)))), .i (Val.a (truthV (a == (0 : Int)))), .i (Val.b (truthV (a == (0 : Int))))], .i (0 : Int)]) []) (.ite (op == (7 : Int) && k == (3 : Int)) (.ret (.tup [.agg [.i (3 : Int), .i (IntKind.wrap .i64 ((0 : Int) - a)), .i (IntKind.wrap .i64 ((0 : Int) - b))], .i (0 : Int)]) []) (.ite (op == (7 : Int) && k == (1 : Int)) (.need (((11 : Int) ≤ (12 : Int) ∧ (12 : Int) ≤ (23 : Int)) ∧ vOk { kind := (1 : Int), a := (0 : Int), b := (0 : Int) } = true ∧ vOk { kind := k, a := a, b := b } = true) (.ret (.tup [.agg [.i (Val.kind (Prod.fst (twoM (12 : Int) { kind := (1 : Int), a := (0 : Int), b := (0 : Int) } { kind := k, a := a, b := b }))), .i (Val.a (Prod.fst (twoM (12 : Int) { kind := (1 : Int), a := (0 : Int), b := (0 : Int) } { kind := k, a := a, b := b }))), .i (Val.b (Prod.fst (twoM (12 : Int) { kind := (1 : Int), a := (0 : Int), b := (0 : Int) } { kind := k, a := a, b := b })))], .i (Prod.snd (twoM (12 : Int) { kind := (1 : Int), a := (0 : Int), b := (0 : Int) } { kind := k, a := a, b := b }))]) [])) (.ite (k != (3 : Int) || op == (8 : Int)) (.ret (.tup [.agg [.i (0 : Int), .i (0 : Int), .i (0 : Int)], .i (8 : Int)]) []) (.ite (op == (9 : Int)) (.ret (.tup [.agg [.i (1 : Int), .i a, .i (0 : Int)], .i (0 : Int)]) []) (.ret (.tup [.agg [.i (1 : Int), .i b, .i (0 : Int)], .i (0 : Int)]) []))))))) (by kernel_rfl) fun Γ => ?_
  refine ⟨fun h => ⟨congrArg rv (a₁ := (truthV (a == 0), 0)) ?_, rfl⟩, fun n1 => ⟨fun h => ⟨congrArg rv (a₁ := (⟨3, IntKind.i64.wrap (0 - a), IntKind.i64.wrap (0 - b)⟩, 0)) ?_, rfl⟩, fun n2 => ⟨fun h => ⟨⟨by omega, by decide, hu⟩, congrArg rv (a₁ := twoM 12 (numV 0) ⟨k, a, b⟩) ?_, rfl⟩, fun n3 => ⟨fun h => ⟨congrArg rv (a₁ := (Val.zero, 8)) ?_, rfl⟩, fun n4 => ⟨fun h => ⟨congrArg rv (a₁ := (numV a, 0)) ?_, rfl⟩, fun n5 => ⟨congrArg rv (a₁ := (numV b, 0)) ?_, rfl⟩⟩⟩⟩⟩⟩
  · have e : op = 8 ∧ k = 2 := by simpa using h
    simp [oneM, e.1, e.2]
  · have e : op = 7 ∧ k = 3 := by simpa using h
    obtain ⟨rfl, rfl⟩ := e
    obtain ⟨h1, h2⟩ := vR_point ru rfl
    have h1 : -1048576 ≤ a ∧ a ≤ 1048576 := pIn_iff.1 h1
    have h2 : -1048576 ≤ b ∧ b ≤ 1048576 := pIn_iff.1 h2
    rw [wrapI (n := 0 - a) (by omega) (by omega), wrapI (n := 0 - b) (by omega) (by omega)]
    simp [oneM]
  · have e : op = 7 ∧ k = 1 := by simpa using h
    obtain ⟨rfl, rfl⟩ := e
    simp [oneM, twoM, numV, wholeM]
  · have m1 : ¬ (op = 8 ∧ k = 2) := by simpa using n1
    have m2 : ¬ (op = 7 ∧ k = 3) := by simpa using n2
    have m3 : ¬ (op = 7 ∧ k = 1) := by simpa using n3
    have m4 : k ≠ 3 ∨ op = 8 := by simpa using h
    have q1 : ¬ (op = 9 ∧ k = 3) := by omega
    have q2 : ¬ (op = 10 ∧ k = 3) := by omega
    simp [oneM, m1, m2, m3, q1, q2]
  · have m4 : k = 3 ∧ op ≠ 8 := by simpa using n4
    have e : op = 9 := by simpa using h
    simp [oneM, e, m4.1]
  · have m4 : k = 3 ∧ op ≠ 8 := by simpa using n4
    have m2 : ¬ (op = 7 ∧ k = 3) := by simpa using n2
    have m5 : op ≠ 9 := by simpa using n5
    have e : op = 10 := by omega
    simp [oneM, e, m4.1]
def eRefOne : Nat × (List SX → List Chunk → Option (Option Prop × SV × List Chunk)) := (98, fun
  | [.c (.pd (.int .i64 op)), .agg [.pd (.int .i64 k), .pd (.int .i64 a), .pd (.int .i64 b)]], [] => some (some ((7 ≤ op ∧ op ≤ 10) ∧ vOk ⟨k, a, b⟩ = true), .tup [.agg [.pd (.int .i64 (oneM op ⟨k, a, b⟩).1.kind), .pd (.int .i64 (oneM op ⟨k, a, b⟩).1.a), .pd (.int .i64 (oneM op ⟨k, a, b⟩).1.b)], .c (.pd (.int .i64 (oneM op ⟨k, a, b⟩).2))], [])
  | _, _ => none)
theorem eRefOne_ok (vs : List SX) (ck : List Chunk) (p : Option Prop) (ret : SV) (ck' : List Chunk) (h : eRefOne.2 vs ck = some (p, ret, ck')) (hp : Holds p) : Does Tryz.prog eRefOne.1 vs ck ret ck' := by
  unfold eRefOne at h
  simp only at h
  split at h
  · rename_i op k a b
    simp only [Option.some.injEq, Prod.mk.injEq] at h
    obtain ⟨rfl, rfl, rfl⟩ := h
    exact ref_one_spec op k a b hp.1 hp.2
  · simp at h
end Go.Proofs.YtjndellhebidoaaGreatDoor

/- Contracts of the program's functions on values. Conditions: none. -/
import Derived.Test.YtjndellhebidoaaGreatDoorJb
namespace Go.Proofs.YtjndellhebidoaaGreatDoor
open Go Go.Ev
set_option maxRecDepth 100000

abbrev rv (r : Val × Int) : SV := .tup [.agg [.pd (.i r.1.kind), .pd (.i r.1.a), .pd (.i r.1.b)], .i r.2]
abbrev vx (v : Val) : SX := .agg [.pd (.i v.kind), .pd (.i v.a), .pd (.i v.b)]
theorem evright_spec (k a b : Int) : Does Tryz.prog 52 [.agg [.pd (.i k), .pd (.i a), .pd (.i b)]] [] (.x (.b (vR ⟨k, a, b⟩))) [] := by
  refine Does.go (cfg := (cfgMade)) cfgMade_ok Tryz.func52 (by kernel_rfl) (by kernel_rfl) (t := (.ite (k == (1 : Int)) (.ret (.p (.bool (b == (0 : Int)))) []) (.ite (k == (2 : Int)) (.ret (.p (.bool (b == (0 : Int) && (a == (0 : Int) || a == (1 : Int))))) []) (.ite (k == (3 : Int)) (.ret (.p (.bool (madeE a b == (0 : Int)))) []) (.ret (.p (.bool false)) []))))) (by kernel_rfl) fun Γ => ?_
  refine ⟨fun h => ⟨?_, rfl⟩, fun h1 => ⟨fun h => ⟨?_, rfl⟩, fun h2 => ⟨fun h => ⟨?_, rfl⟩, fun h3 => ⟨?_, rfl⟩⟩⟩⟩
  · simp_all [vR]
  · simp_all [vR]
  · have e : vR ⟨k, a, b⟩ = (pIn a && pIn b) := by simp_all [vR]
    rw [e]
    cases h' : (pIn a && pIn b)
    · simp [madeE, h']
    · simp [madeE, h']
  · simp_all [vR]
def eEvRight : Nat × (List SX → List Chunk → Option (Option Prop × SV × List Chunk)) := (52, fun
  | [.agg [.pd (.int .i64 k), .pd (.int .i64 a), .pd (.int .i64 b)]], [] => some (none, .x (.c (.pd (.bool (vR ⟨k, a, b⟩)))), [])
  | _, _ => none)
theorem eEvRight_ok (vs : List SX) (ck : List Chunk) (p : Option Prop) (ret : SV) (ck' : List Chunk) (h : eEvRight.2 vs ck = some (p, ret, ck')) (hp : Holds p) : Does Tryz.prog eEvRight.1 vs ck ret ck' := by
  unfold eEvRight at h
  simp only at h
  split at h
  · rename_i k a b
    simp only [Option.some.injEq, Prod.mk.injEq] at h
    obtain ⟨rfl, rfl, rfl⟩ := h
    exact evright_spec k a b
  · simp at h
theorem evnum_spec (n : Int) : Does Tryz.prog 53 [.i n] [] (.x (vx (numV n))) [] := by
  refine Does.go (cfg := cfg0) cfg0_ok Tryz.func53 (by kernel_rfl) (by kernel_rfl) (t := (.ret (.x (.agg [.i (1 : Int), .i n, .i (0 : Int)])) [])) (by kernel_rfl) fun Γ => ?_
  exact ⟨rfl, rfl⟩
def eNumber : Nat × (List SX → List Chunk → Option (Option Prop × SV × List Chunk)) := (53, fun
  | [.c (.pd (.int .i64 n))], [] => some (none, .x (.agg [.pd (.int .i64 (numV n).kind), .pd (.int .i64 (numV n).a), .pd (.int .i64 (numV n).b)]), [])
  | _, _ => none)
theorem eNumber_ok (vs : List SX) (ck : List Chunk) (p : Option Prop) (ret : SV) (ck' : List Chunk) (h : eNumber.2 vs ck = some (p, ret, ck')) (hp : Holds p) : Does Tryz.prog eNumber.1 vs ck ret ck' := by
  unfold eNumber at h
  simp only at h
  split at h
  · rename_i n
    simp only [Option.some.injEq, Prod.mk.injEq] at h
    obtain ⟨rfl, rfl, rfl⟩ := h
    exact evnum_spec n
  · simp at h
theorem truth_spec (b : Bool) : Does Tryz.prog 54 [.b b] [] (.x (vx (truthV b))) [] := by
  refine Does.go (cfg := cfg0) cfg0_ok Tryz.func54 (by kernel_rfl) (by kernel_rfl) (t := (.ite b (.ret (.x (.agg [.i (2 : Int), .i (1 : Int), .i (0 : Int)])) []) (.ret (.x (.agg [.i (2 : Int), .i (0 : Int), .i (0 : Int)])) []))) (by kernel_rfl) fun Γ => ?_
  refine ⟨fun h => ⟨?_, rfl⟩, fun h => ⟨?_, rfl⟩⟩ <;> subst h <;> rfl
def eTruth : Nat × (List SX → List Chunk → Option (Option Prop × SV × List Chunk)) := (54, fun
  | [.c (.pd (.bool b))], [] => some (none, .x (.agg [.pd (.int .i64 (truthV b).kind), .pd (.int .i64 (truthV b).a), .pd (.int .i64 (truthV b).b)]), [])
  | _, _ => none)
theorem eTruth_ok (vs : List SX) (ck : List Chunk) (p : Option Prop) (ret : SV) (ck' : List Chunk) (h : eTruth.2 vs ck = some (p, ret, ck')) (hp : Holds p) : Does Tryz.prog eTruth.1 vs ck ret ck' := by
  unfold eTruth at h
  simp only at h
  split at h
  · rename_i b
    simp only [Option.some.injEq, Prod.mk.injEq] at h
    obtain ⟨rfl, rfl, rfl⟩ := h
    exact truth_spec b
  · simp at h
def cfgPoint : Cfg := ⟨tys0, [eParts, ePMade]⟩
theorem cfgPoint_ok : TabOk Tryz.prog cfgPoint.tab := (TabOk.cons eParts_ok (TabOk.cons ePMade_ok TabOk.nil))
theorem point_spec (p : Nat × Nat) (e : Int) : Does Tryz.prog 87 [.c (.pd (.cx (some p))), .i e] [] (rv (pointV p e)) [] := by
  refine Does.go (cfg := cfgPoint) cfgPoint_ok Tryz.func87 (by kernel_rfl) (by kernel_rfl) (t := (.ite (e != (0 : Int)) (.ret (.tup [.agg [.i (0 : Int), .i (0 : Int), .i (0 : Int)], .i e]) []) (.ret (.tup [.agg [.i (3 : Int), .i (partA p), .i (partB p)], .i (0 : Int)]) []))) (by kernel_rfl) fun Γ => ?_
  refine ⟨fun h => ⟨?_, rfl⟩, fun h => ⟨?_, rfl⟩⟩
  · have h' : e ≠ 0 := by simpa using h
    have : pointV p e = (Val.zero, e) := by simp [pointV, h']
    rw [this]; rfl
  · have h' : e = 0 := by simpa using h
    have : pointV p e = (⟨3, partA p, partB p⟩, 0) := by simp [pointV, h']
    rw [this]
def ePoint : Nat × (List SX → List Chunk → Option (Option Prop × SV × List Chunk)) := (87, fun
  | [.c (.pd (.cx (some p))), .c (.pd (.int .i64 e))], [] => some (none, .tup [.agg [.pd (.int .i64 (pointV p e).1.kind), .pd (.int .i64 (pointV p e).1.a), .pd (.int .i64 (pointV p e).1.b)], .c (.pd (.int .i64 (pointV p e).2))], [])
  | _, _ => none)
theorem ePoint_ok (vs : List SX) (ck : List Chunk) (p : Option Prop) (ret : SV) (ck' : List Chunk) (h : ePoint.2 vs ck = some (p, ret, ck')) (hp : Holds p) : Does Tryz.prog ePoint.1 vs ck ret ck' := by
  unfold ePoint at h
  simp only at h
  split at h
  · rename_i p e
    simp only [Option.some.injEq, Prod.mk.injEq] at h
    obtain ⟨rfl, rfl, rfl⟩ := h
    exact point_spec p e
  · simp at h
theorem complexed_spec (k a b : Int) : Does Tryz.prog 89 [.agg [.pd (.i k), .pd (.i a), .pd (.i b)]] [] (.x (.c (.pd (.cx (some (madeP a b)))))) [] := by
  refine Does.go (cfg := cfgPoint) cfgPoint_ok Tryz.func89 (by kernel_rfl) (by kernel_rfl) (t := (.ret (.p (.cx (some (madeP a b)))) [])) (by kernel_rfl) fun Γ => ?_
  exact ⟨rfl, rfl⟩
def eComplexed : Nat × (List SX → List Chunk → Option (Option Prop × SV × List Chunk)) := (89, fun
  | [.agg [.pd (.int .i64 k), .pd (.int .i64 a), .pd (.int .i64 b)]], [] => some (none, .x (.c (.pd (.cx (some (madeP a b))))), [])
  | _, _ => none)
theorem eComplexed_ok (vs : List SX) (ck : List Chunk) (p : Option Prop) (ret : SV) (ck' : List Chunk) (h : eComplexed.2 vs ck = some (p, ret, ck')) (hp : Holds p) : Does Tryz.prog eComplexed.1 vs ck ret ck' := by
  unfold eComplexed at h
  simp only at h
  split at h
  · rename_i k a b
    simp only [Option.some.injEq, Prod.mk.injEq] at h
    obtain ⟨rfl, rfl, rfl⟩ := h
    exact complexed_spec k a b
  · simp at h
def cfgTwo : Cfg := ⟨tys0, [eTruth, eNumber, ePoint, eComplexed, eAdd, eSub, eMul, eWholeE]⟩
theorem cfgTwo_ok : TabOk Tryz.prog cfgTwo.tab := (TabOk.cons eTruth_ok (TabOk.cons eNumber_ok (TabOk.cons ePoint_ok (TabOk.cons eComplexed_ok (TabOk.cons eAdd_ok (TabOk.cons eSub_ok (TabOk.cons eMul_ok (TabOk.cons eWholeE_ok TabOk.nil))))))))
theorem two_spec (op : Int) (u v : Val) (hop : 11 ≤ op ∧ op ≤ 23) (hu : vOk u = true) (hv : vOk v = true) : Does Tryz.prog 58 [.i op, vx u, vx v] [] (rv (twoM op u v)) [] := by
  obtain ⟨k, a, b⟩ := u
  obtain ⟨k', c, d⟩ := v
  obtain ⟨ru, iu⟩ := vOk_iff.1 hu
  obtain ⟨rw', iv⟩ := vOk_iff.1 hv
  simp only at iu iv
  refine Does.go (cfg := cfgTwo) cfgTwo_ok Tryz.func58 (by kernel_rfl) (by kernel_rfl) (t := (.ite (k != k') (.ret (.tup [.agg [.i (0 : Int), .i (0 : Int), .i (0 : Int)], .i (8 : Int)]) []) (.ite (op == (16 : Int)) (.ret (.tup [.agg [.i (Val.kind (truthV (k == k' && (a == c && b == d)))), .i (Val.a (truthV (k == k' && (a == c && b == d)))), .i (Val.b (truthV (k == k' && (a == c && b == d))))], .i (0 : Int)]) []) (.ite (op == (17 : Int)) (.ret (.tup [.agg [.i (Val.kind (truthV !(k == k' && (a == c && b == d)))), .i (Val.a (truthV !(k == k' && (a == c && b == d)))), .i (Val.b (truthV !(k == k' && (a == c && b == d))))], .i (0 : Int)]) []) (.ite (k == (2 : Int) && op == (22 : Int)) (.ret (.tup [.agg [.i (Val.kind (truthV (IntKind.wrap .i64 (a + c) == (2 : Int)))), .i (Val.a (truthV (IntKind.wrap .i64 (a + c) == (2 : Int)))), .i (Val.b (truthV (IntKind.wrap .i64 (a + c) == (2 : Int))))], .i (0 : Int)]) []) (.ite (k == (2 : Int) && op == (23 : Int)) (.ret (.tup [.agg [.i (Val.kind (truthV (decide (IntKind.wrap .i64 (a + c) > (0 : Int))))), .i (Val.a (truthV (decide (IntKind.wrap .i64 (a + c) > (0 : Int))))), .i (Val.b (truthV (decide (IntKind.wrap .i64 (a + c) > (0 : Int)))))], .i (0 : Int)]) []) (.ite (k == (3 : Int) && op == (11 : Int)) (.ret (.tup [.agg [.i (Val.kind (Prod.fst (pointV (toldP (madeP a b) (madeP c d) (cSumBits BinOp.add FloatKind.f64 (Prod.fst (madeP a b)) (Prod.snd (madeP a b)) (Prod.fst (madeP c d)) (Prod.snd (madeP c d)))) (toldE (madeP a b) (madeP c d) (cSumBits BinOp.add FloatKind.f64 (Prod.fst (madeP a b)) (Prod.snd (madeP a b)) (Prod.fst (madeP c d)) (Prod.snd (madeP c d))))))), .i (Val.a (Prod.fst (pointV (toldP (madeP a b) (madeP c d) (cSumBits BinOp.add FloatKind.f64 (Prod.fst (madeP a b)) (Prod.snd (madeP a b)) (Prod.fst (madeP c d)) (Prod.snd (madeP c d)))) (toldE (madeP a b) (madeP c d) (cSumBits BinOp.add FloatKind.f64 (Prod.fst (madeP a b)) (Prod.snd (madeP a b)) (Prod.fst (madeP c d)) (Prod.snd (madeP c d))))))), .i (Val.b (Prod.fst (pointV (toldP (madeP a b) (madeP c d) (cSumBits BinOp.add FloatKind.f64 (Prod.fst (madeP a b)) (Prod.snd (madeP a b)) (Prod.fst (madeP c d)) (Prod.snd (madeP c d)))) (toldE (madeP a b) (madeP c d) (cSumBits BinOp.add FloatKind.f64 (Prod.fst (madeP a b)) (Prod.snd (madeP a b)) (Prod.fst (madeP c d)) (Prod.snd (madeP c d)))))))], .i (Prod.snd (pointV (toldP (madeP a b) (madeP c d) (cSumBits BinOp.add FloatKind.f64 (Prod.fst (madeP a b)) (Prod.snd (madeP a b)) (Prod.fst (madeP c d)) (Prod.snd (madeP c d)))) (toldE (madeP a b) (madeP c d) (cSumBits BinOp.add FloatKind.f64 (Prod.fst (madeP a b)) (Prod.snd (madeP a b)) (Prod.fst (madeP c d)) (Prod.snd (madeP c d))))))]) []) (.ite (k == (3 : Int) && op == (12 : Int)) (.ret (.tup [.agg [.i (Val.kind (Prod.fst (pointV (toldP (madeP a b) (madeP c d) (cSumBits BinOp.sub FloatKind.f64 (Prod.fst (madeP a b)) (Prod.snd (madeP a b)) (Prod.fst (madeP c d)) (Prod.snd (madeP c d)))) (toldE (madeP a b) (madeP c d) (cSumBits BinOp.sub FloatKind.f64 (Prod.fst (madeP a b)) (Prod.snd (madeP a b)) (Prod.fst (madeP c d)) (Prod.snd (madeP c d))))))), .i (Val.a (Prod.fst (pointV (toldP (madeP a b) (madeP c d) (cSumBits BinOp.sub FloatKind.f64 (Prod.fst (madeP a b)) (Prod.snd (madeP a b)) (Prod.fst (madeP c d)) (Prod.snd (madeP c d)))) (toldE (madeP a b) (madeP c d) (cSumBits BinOp.sub FloatKind.f64 (Prod.fst (madeP a b)) (Prod.snd (madeP a b)) (Prod.fst (madeP c d)) (Prod.snd (madeP c d))))))), .i (Val.b (Prod.fst (pointV (toldP (madeP a b) (madeP c d) (cSumBits BinOp.sub FloatKind.f64 (Prod.fst (madeP a b)) (Prod.snd (madeP a b)) (Prod.fst (madeP c d)) (Prod.snd (madeP c d)))) (toldE (madeP a b) (madeP c d) (cSumBits BinOp.sub FloatKind.f64 (Prod.fst (madeP a b)) (Prod.snd (madeP a b)) (Prod.fst (madeP c d)) (Prod.snd (madeP c d)))))))], .i (Prod.snd (pointV (toldP (madeP a b) (madeP c d) (cSumBits BinOp.sub FloatKind.f64 (Prod.fst (madeP a b)) (Prod.snd (madeP a b)) (Prod.fst (madeP c d)) (Prod.snd (madeP c d)))) (toldE (madeP a b) (madeP c d) (cSumBits BinOp.sub FloatKind.f64 (Prod.fst (madeP a b)) (Prod.snd (madeP a b)) (Prod.fst (madeP c d)) (Prod.snd (madeP c d))))))]) []) (.ite (k == (3 : Int) && op == (13 : Int)) (.ret (.tup [.agg [.i (Val.kind (Prod.fst (pointV (toldP (madeP a b) (madeP c d) (cMulBits (Prod.fst (madeP a b)) (Prod.snd (madeP a b)) (Prod.fst (madeP c d)) (Prod.snd (madeP c d)))) (toldE (madeP a b) (madeP c d) (cMulBits (Prod.fst (madeP a b)) (Prod.snd (madeP a b)) (Prod.fst (madeP c d)) (Prod.snd (madeP c d))))))), .i (Val.a (Prod.fst (pointV (toldP (madeP a b) (madeP c d) (cMulBits (Prod.fst (madeP a b)) (Prod.snd (madeP a b)) (Prod.fst (madeP c d)) (Prod.snd (madeP c d)))) (toldE (madeP a b) (madeP c d) (cMulBits (Prod.fst (madeP a b)) (Prod.snd (madeP a b)) (Prod.fst (madeP c d)) (Prod.snd (madeP c d))))))), .i (Val.b (Prod.fst (pointV (toldP (madeP a b) (madeP c d) (cMulBits (Prod.fst (madeP a b)) (Prod.snd (madeP a b)) (Prod.fst (madeP c d)) (Prod.snd (madeP c d)))) (toldE (madeP a b) (madeP c d) (cMulBits (Prod.fst (madeP a b)) (Prod.snd (madeP a b)) (Prod.fst (madeP c d)) (Prod.snd (madeP c d)))))))], .i (Prod.snd (pointV (toldP (madeP a b) (madeP c d) (cMulBits (Prod.fst (madeP a b)) (Prod.snd (madeP a b)) (Prod.fst (madeP c d)) (Prod.snd (madeP c d)))) (toldE (madeP a b) (madeP c d) (cMulBits (Prod.fst (madeP a b)) (Prod.snd (madeP a b)) (Prod.fst (madeP c d)) (Prod.snd (madeP c d))))))]) []) (.ite (k != (1 : Int)) (.ret (.tup [.agg [.i (0 : Int), .i (0 : Int), .i (0 : Int)], .i (8 : Int)]) []) (.ite (op == (18 : Int)) (.ret (.tup [.agg [.i (Val.kind (truthV (decide (a < c)))), .i (Val.a (truthV (decide (a < c)))), .i (Val.b (truthV (decide (a < c))))], .i (0 : Int)]) []) (.ite (op == (19 : Int)) (.ret (.tup [.agg [.i (Val.kind (truthV (decide (a ≤ c)))), .i (Val.a (truthV (decide (a ≤ c)))), .i (Val.b (truthV (decide (a ≤ c))))], .i (0 : Int)]) []) (.ite (op == (20 : Int)) (.ret (.tup [.agg [.i (Val.kind (truthV (decide (a > c)))), .i (Val.a (truthV (decide (a > c)))), .i (Val.b (truthV (decide (a > c))))], .i (0 : Int)]) []) (.ite (op == (21 : Int)) (.ret (.tup [.agg [.i (Val.kind (truthV (decide (a ≥ c)))), .i (Val.a (truthV (decide (a ≥ c)))), .i (Val.b (truthV (decide (a ≥ c))))], .i (0 : Int)]) []) (.ite (op == (22 : Int)) (.ret (.tup [.agg [.i (0 : Int), .i (0 : Int), .i (0 : Int)], .i (8 : Int)]) []) (.ite (op == (23 : Int)) (.ret (.tup [.agg [.i (0 : Int), .i (0 : Int), .i (0 : Int)], .i (8 : Int)]) []) (.need (((11 : Int) ≤ op ∧ op ≤ (15 : Int)) ∧ i64 a = true ∧ i64 c = true) (.ite (Prod.snd (wholeM op a c) != (0 : Int)) (.ret (.tup [.agg [.i (0 : Int), .i (0 : Int), .i (0 : Int)], .i (Prod.snd (wholeM op a c))]) []) (.ret (.tup [.agg [.i (Val.kind (numV (Prod.fst (wholeM op a c)))), .i (Val.a (numV (Prod.fst (wholeM op a c)))), .i (Val.b (numV (Prod.fst (wholeM op a c))))], .i (0 : Int)]) []))))))))))))))))))) (by kernel_rfl) fun Γ => ?_
  refine ⟨fun h => ⟨congrArg rv (a₁ := (Val.zero, 8)) ?_, rfl⟩, fun h => ?_⟩
  · have h' : k ≠ k' := by simpa using h
    simp [twoM, h']
  have hk : k = k' := by simpa using h
  subst hk
  refine ⟨fun h => ⟨congrArg rv (a₁ := (truthV (k == k && (a == c && b == d)), 0)) ?_, rfl⟩, fun n16 => ⟨fun h => ⟨congrArg rv (a₁ := (truthV !(k == k && (a == c && b == d)), 0)) ?_, rfl⟩, fun n17 => ?_⟩⟩
  · have e : op = 16 := by simpa using h
    simp [twoM, e]
  · have e : op = 17 := by simpa using h
    simp [twoM, e]
  have m16 : op ≠ 16 := by simpa using n16
  have m17 : op ≠ 17 := by simpa using n17
  refine ⟨fun h => ⟨congrArg rv (a₁ := (truthV (IntKind.i64.wrap (a + c) == 2), 0)) ?_, rfl⟩, fun n22 => ⟨fun h => ⟨congrArg rv (a₁ := (truthV (decide (IntKind.i64.wrap (a + c) > 0)), 0)) ?_, rfl⟩, fun n23 => ?_⟩⟩
  · have e : k = 2 ∧ op = 22 := by simpa using h
    obtain ⟨rfl, rfl⟩ := e
    obtain ⟨_, h1⟩ := vR_bool ru rfl
    obtain ⟨_, h2⟩ := vR_bool rw' rfl
    simp only at h1 h2
    rcases h1 with rfl | rfl <;> rcases h2 with rfl | rfl <;> rfl
  · have e : k = 2 ∧ op = 23 := by simpa using h
    obtain ⟨rfl, rfl⟩ := e
    obtain ⟨_, h1⟩ := vR_bool ru rfl
    obtain ⟨_, h2⟩ := vR_bool rw' rfl
    simp only at h1 h2
    rcases h1 with rfl | rfl <;> rcases h2 with rfl | rfl <;> rfl
  have m22 : ¬ (k = 2 ∧ op = 22) := by simpa using n22
  have m23 : ¬ (k = 2 ∧ op = 23) := by simpa using n23
  refine ⟨fun h => ⟨congrArg rv (a₁ := pointV _ _) ?_, rfl⟩, fun n11 => ⟨fun h => ⟨congrArg rv (a₁ := pointV _ _) ?_, rfl⟩, fun n12 => ⟨fun h => ⟨congrArg rv (a₁ := pointV _ _) ?_, rfl⟩, fun n13 => ?_⟩⟩⟩
  · have e : k = 3 ∧ op = 11 := by simpa using h
    obtain ⟨rfl, rfl⟩ := e
    obtain ⟨h1, h2⟩ := vR_point ru rfl
    obtain ⟨h3, h4⟩ := vR_point rw' rfl
    refine (add_points h1 h2 h3 h4).trans ?_
    simp [twoM]
  · have e : k = 3 ∧ op = 12 := by simpa using h
    obtain ⟨rfl, rfl⟩ := e
    obtain ⟨h1, h2⟩ := vR_point ru rfl
    obtain ⟨h3, h4⟩ := vR_point rw' rfl
    refine (sub_points h1 h2 h3 h4).trans ?_
    simp [twoM]
  · have e : k = 3 ∧ op = 13 := by simpa using h
    obtain ⟨rfl, rfl⟩ := e
    obtain ⟨h1, h2⟩ := vR_point ru rfl
    obtain ⟨h3, h4⟩ := vR_point rw' rfl
    refine (mul_points h1 h2 h3 h4).trans ?_
    simp [twoM]
  have m11 : ¬ (k = 3 ∧ op = 11) := by simpa using n11
  have m12 : ¬ (k = 3 ∧ op = 12) := by simpa using n12
  have m13 : ¬ (k = 3 ∧ op = 13) := by simpa using n13
  refine ⟨fun h => ⟨congrArg rv (a₁ := (Val.zero, 8)) ?_, rfl⟩, fun n1 => ?_⟩
  · have e : k ≠ 1 := by simpa using h
    simp [twoM, m16, m17, m22, m23, m11, m12, m13, e]
  have e1 : k = 1 := by simpa using n1
  subst e1
  refine ⟨fun h => ⟨congrArg rv (a₁ := (truthV (decide (a < c)), 0)) ?_, rfl⟩, fun n18 => ⟨fun h => ⟨congrArg rv (a₁ := (truthV (decide (a ≤ c)), 0)) ?_, rfl⟩, fun n19 => ⟨fun h => ⟨congrArg rv (a₁ := (truthV (decide (a > c)), 0)) ?_, rfl⟩, fun n20 => ⟨fun h => ⟨congrArg rv (a₁ := (truthV (decide (a ≥ c)), 0)) ?_, rfl⟩, fun n21 => ?_⟩⟩⟩⟩
  · have e : op = 18 := by simpa using h
    simp [twoM, e]
  · have e : op = 19 := by simpa using h
    simp [twoM, e]
  · have e : op = 20 := by simpa using h
    simp [twoM, e]
  · have e : op = 21 := by simpa using h
    simp [twoM, e]
  have m18 : op ≠ 18 := by simpa using n18
  have m19 : op ≠ 19 := by simpa using n19
  have m20 : op ≠ 20 := by simpa using n20
  have m21 : op ≠ 21 := by simpa using n21
  refine ⟨fun h => ⟨congrArg rv (a₁ := (Val.zero, 8)) ?_, rfl⟩, fun l22 => ⟨fun h => ⟨congrArg rv (a₁ := (Val.zero, 8)) ?_, rfl⟩, fun l23 => ?_⟩⟩
  · have e : op = 22 := by simpa using h
    simp [twoM, e]
  · have e : op = 23 := by simpa using h
    simp [twoM, e]
  have k22 : op ≠ 22 := by simpa using l22
  have k23 : op ≠ 23 := by simpa using l23
  have hM : twoM op ⟨1, a, b⟩ ⟨1, c, d⟩ = numR (wholeM op a c) := by simp [twoM, m16, m17, m18, m19, m20, m21, k22, k23]
  rw [hM]
  refine ⟨⟨by omega, iu, iv⟩, fun h => ⟨congrArg rv (a₁ := (Val.zero, (wholeM op a c).2)) ?_, rfl⟩, fun h => ⟨congrArg rv (a₁ := (numV (wholeM op a c).1, 0)) ?_, rfl⟩⟩
  · have e : (wholeM op a c).2 ≠ 0 := by simpa using h
    simp [numR, e]
  · have e : (wholeM op a c).2 = 0 := by simpa using h
    simp [numR, e]
theorem two_spec' (op k a b k' c d : Int) (h : (11 ≤ op ∧ op ≤ 23) ∧ vOk ⟨k, a, b⟩ = true ∧ vOk ⟨k', c, d⟩ = true) : Does Tryz.prog 58 [.i op, .agg [.pd (.i k), .pd (.i a), .pd (.i b)], .agg [.pd (.i k'), .pd (.i c), .pd (.i d)]] [] (rv (twoM op ⟨k, a, b⟩ ⟨k', c, d⟩)) [] := two_spec op ⟨k, a, b⟩ ⟨k', c, d⟩ h.1 h.2.1 h.2.2
def eTwo : Nat × (List SX → List Chunk → Option (Option Prop × SV × List Chunk)) := (58, fun
  | [.c (.pd (.int .i64 op)), .agg [.pd (.int .i64 k), .pd (.int .i64 a), .pd (.int .i64 b)], .agg [.pd (.int .i64 k'), .pd (.int .i64 c), .pd (.int .i64 d)]], [] => some (some ((11 ≤ op ∧ op ≤ 23) ∧ vOk ⟨k, a, b⟩ = true ∧ vOk ⟨k', c, d⟩ = true), .tup [.agg [.pd (.int .i64 (twoM op ⟨k, a, b⟩ ⟨k', c, d⟩).1.kind), .pd (.int .i64 (twoM op ⟨k, a, b⟩ ⟨k', c, d⟩).1.a), .pd (.int .i64 (twoM op ⟨k, a, b⟩ ⟨k', c, d⟩).1.b)], .c (.pd (.int .i64 (twoM op ⟨k, a, b⟩ ⟨k', c, d⟩).2))], [])
  | _, _ => none)
theorem eTwo_ok (vs : List SX) (ck : List Chunk) (p : Option Prop) (ret : SV) (ck' : List Chunk) (h : eTwo.2 vs ck = some (p, ret, ck')) (hp : Holds p) : Does Tryz.prog eTwo.1 vs ck ret ck' := by
  unfold eTwo at h
  simp only at h
  split at h
  · rename_i op k a b k' c d
    simp only [Option.some.injEq, Prod.mk.injEq] at h
    obtain ⟨rfl, rfl, rfl⟩ := h
    exact two_spec' op k a b k' c d hp
  · simp at h
def cfgOne : Cfg := ⟨tys0, [eTruth, eNumber, ePoint, eComplexed, eTurn, eTwo]⟩
theorem cfgOne_ok : TabOk Tryz.prog cfgOne.tab := (TabOk.cons eTruth_ok (TabOk.cons eNumber_ok (TabOk.cons ePoint_ok (TabOk.cons eComplexed_ok (TabOk.cons eTurn_ok (TabOk.cons eTwo_ok TabOk.nil))))))
theorem one_spec (op k a b : Int) (hu : vOk ⟨k, a, b⟩ = true) : Does Tryz.prog 57 [.i op, .agg [.pd (.i k), .pd (.i a), .pd (.i b)]] [] (rv (oneM op ⟨k, a, b⟩)) [] := by
  obtain ⟨ru, iu⟩ := vOk_iff.1 hu
  simp only at iu
  refine Does.go (cfg := cfgOne) cfgOne_ok Tryz.func57 (by kernel_rfl) (by kernel_rfl) (t := (.ite (op == (7 : Int) && k == (1 : Int)) (.need (((11 : Int) ≤ (12 : Int) ∧ (12 : Int) ≤ (23 : Int)) ∧ vOk { kind := Val.kind (numV (0 : Int)), a := Val.a (numV (0 : Int)), b := Val.b (numV (0 : Int)) } = true ∧ vOk { kind := k, a := a, b := b } = true) (.ret (.tup [.agg [.i (Val.kind (Prod.fst (twoM (12 : Int) { kind := Val.kind (numV (0 : Int)), a := Val.a (numV (0 : Int)), b := Val.b (numV (0 : Int)) } { kind := k, a := a, b := b }))), .i (Val.a (Prod.fst (twoM (12 : Int) { kind := Val.kind (numV (0 : Int)), a := Val.a (numV (0 : Int)), b := Val.b (numV (0 : Int)) } { kind := k, a := a, b := b }))), .i (Val.b (Prod.fst (twoM (12 : Int) { kind := Val.kind (numV (0 : Int)), a := Val.a (numV (0 : Int)), b := Val.b (numV (0 : Int)) } { kind := k, a := a, b := b })))], .i (Prod.snd (twoM (12 : Int) { kind := Val.kind (numV (0 : Int)), a := Val.a (numV (0 : Int)), b := Val.b (numV (0 : Int)) } { kind := k, a := a, b := b }))]) [])) (.ite (op == (7 : Int) && k == (3 : Int)) (.ret (.tup [.agg [.i (Val.kind (Prod.fst (pointV (turnP (madeP a b) (2 : Int)) (turnE (madeP a b))))), .i (Val.a (Prod.fst (pointV (turnP (madeP a b) (2 : Int)) (turnE (madeP a b))))), .i (Val.b (Prod.fst (pointV (turnP (madeP a b) (2 : Int)) (turnE (madeP a b)))))], .i (Prod.snd (pointV (turnP (madeP a b) (2 : Int)) (turnE (madeP a b))))]) []) (.ite (op == (8 : Int) && k == (2 : Int)) (.ret (.tup [.agg [.i (Val.kind (truthV (a == (0 : Int)))), .i (Val.a (truthV (a == (0 : Int)))), .i (Val.b (truthV (a == (0 : Int))))], .i (0 : Int)]) []) (.ite (op == (9 : Int) && k == (3 : Int)) (.ret (.tup [.agg [.i (Val.kind (numV a)), .i (Val.a (numV a)), .i (Val.b (numV a))], .i (0 : Int)]) []) (.ite (op == (10 : Int) && k == (3 : Int)) (.ret (.tup [.agg [.i (Val.kind (numV b)), .i (Val.a (numV b)), .i (Val.b (numV b))], .i (0 : Int)]) []) (.ret (.tup [.agg [.i (0 : Int), .i (0 : Int), .i (0 : Int)], .i (8 : Int)]) []))))))) (by kernel_rfl) fun Γ => ?_
  refine ⟨fun h => ⟨⟨by omega, by decide, hu⟩, congrArg rv (a₁ := twoM 12 (numV 0) ⟨k, a, b⟩) ?_, rfl⟩, fun n1 => ⟨fun h => ⟨congrArg rv (a₁ := pointV _ _) ?_, rfl⟩, fun n2 => ⟨fun h => ⟨congrArg rv (a₁ := (truthV (a == 0), 0)) ?_, rfl⟩, fun n3 => ⟨fun h => ⟨congrArg rv (a₁ := (numV a, 0)) ?_, rfl⟩, fun n4 => ⟨fun h => ⟨congrArg rv (a₁ := (numV b, 0)) ?_, rfl⟩, fun n5 => ⟨congrArg rv (a₁ := (Val.zero, 8)) ?_, rfl⟩⟩⟩⟩⟩⟩
  · have e : op = 7 ∧ k = 1 := by simpa using h
    obtain ⟨rfl, rfl⟩ := e
    simp [oneM, twoM, numV, wholeM]
  · have e : op = 7 ∧ k = 3 := by simpa using h
    obtain ⟨rfl, rfl⟩ := e
    obtain ⟨h1, h2⟩ := vR_point ru rfl
    refine (turn_point h1 h2).trans ?_
    simp [oneM]
  · have e : op = 8 ∧ k = 2 := by simpa using h
    obtain ⟨rfl, rfl⟩ := e
    simp [oneM]
  · have e : op = 9 ∧ k = 3 := by simpa using h
    obtain ⟨rfl, rfl⟩ := e
    simp [oneM]
  · have e : op = 10 ∧ k = 3 := by simpa using h
    obtain ⟨rfl, rfl⟩ := e
    simp [oneM]
  · have m1 : ¬ (op = 7 ∧ k = 1) := by simpa using n1
    have m2 : ¬ (op = 7 ∧ k = 3) := by simpa using n2
    have m3 : ¬ (op = 8 ∧ k = 2) := by simpa using n3
    have m4 : ¬ (op = 9 ∧ k = 3) := by simpa using n4
    have m5 : ¬ (op = 10 ∧ k = 3) := by simpa using n5
    simp [oneM, m1, m2, m3, m4, m5]
def eOne : Nat × (List SX → List Chunk → Option (Option Prop × SV × List Chunk)) := (57, fun
  | [.c (.pd (.int .i64 op)), .agg [.pd (.int .i64 k), .pd (.int .i64 a), .pd (.int .i64 b)]], [] => some (some (vOk ⟨k, a, b⟩ = true), .tup [.agg [.pd (.int .i64 (oneM op ⟨k, a, b⟩).1.kind), .pd (.int .i64 (oneM op ⟨k, a, b⟩).1.a), .pd (.int .i64 (oneM op ⟨k, a, b⟩).1.b)], .c (.pd (.int .i64 (oneM op ⟨k, a, b⟩).2))], [])
  | _, _ => none)
theorem eOne_ok (vs : List SX) (ck : List Chunk) (p : Option Prop) (ret : SV) (ck' : List Chunk) (h : eOne.2 vs ck = some (p, ret, ck')) (hp : Holds p) : Does Tryz.prog eOne.1 vs ck ret ck' := by
  unfold eOne at h
  simp only at h
  split at h
  · rename_i op k a b
    simp only [Option.some.injEq, Prod.mk.injEq] at h
    obtain ⟨rfl, rfl, rfl⟩ := h
    exact one_spec op k a b hp
  · simp at h
end Go.Proofs.YtjndellhebidoaaGreatDoor

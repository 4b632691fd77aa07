/- Contracts of the program's functions on values: numbers. Conditions: none. -/
import Derived.Test.YtgoihhnfkoklpaaJa
import Derived.Test.YtgoihhnfkoklpaaIf
namespace Go.Proofs.Ytgoihhnfkoklpaa
open Go Go.Ev
set_option maxRecDepth 100000

theorem size_spec (n : Int) (h : i64 n = true) : Does Try.prog 80 [.i n] [] (.x (.c (.pd (.int .u64 (absI n))))) [] := by
  refine Does.go (cfg := cfg0) cfg0_ok Try.func80 (by kernel_rfl) (by kernel_rfl) (t := (Tree.ite (decide (n < (0 : Int))) (Tree.ret (SV.x (SX.c (SC.pd (PD.int IntKind.u64 (IntKind.wrap IntKind.u64 ((0 : Int) - IntKind.wrap IntKind.u64 n)))))) []) (Tree.ret (SV.x (SX.c (SC.pd (PD.int IntKind.u64 (IntKind.wrap IntKind.u64 n))))) []))) (by kernel_rfl) fun Γ => ?_
  have := i64_iff.1 h
  refine ⟨fun h1 => ⟨?_, rfl⟩, fun h1 => ⟨?_, rfl⟩⟩
  · have := of_decide_eq_true h1
    rw [wrap_u64, wrap_u64]
    have e : absI n = -n := by unfold absI; rw [if_pos this]
    rw [e]
    have : (0 - n % 18446744073709551616) % 18446744073709551616 = -n := by omega
    rw [this]
  · have := of_decide_eq_false h1
    rw [wrap_u64]
    have e : absI n = n := by unfold absI; rw [if_neg this]
    rw [e]
    have : n % 18446744073709551616 = n := by omega
    rw [this]
def eSize : Nat × (List SX → List Chunk → Option (Option Prop × SV × List Chunk)) := (80, fun
  | [.c (.pd (.int .i64 n))], [] => some (some (i64 n = true), .x (.c (.pd (.int .u64 (absI n)))), [])
  | _, _ => none)
theorem eSize_ok (vs : List SX) (ck : List Chunk) (p : Option Prop) (ret : SV) (ck' : List Chunk) (h : eSize.2 vs ck = some (p, ret, ck')) (hp : Holds p) : Does Try.prog eSize.1 vs ck ret ck' := by
  unfold eSize at h
  simp only at h
  split at h
  · rename_i n
    simp only [Option.some.injEq, Prod.mk.injEq] at h
    obtain ⟨rfl, rfl, rfl⟩ := h
    exact size_spec n hp
  · simp at h
theorem mul64_spec (x y : Int) (hx : u64 x = true) (hy : u64 y = true) : Does Try.prog 79 [.c (.pd (.int .u64 x)), .c (.pd (.int .u64 y))] [] (.tup [.c (.pd (.int .u64 (hiOf x y))), .c (.pd (.int .u64 (loOf x y)))]) [] := by
  refine Does.go (cfg := cfg0) cfg0_ok Try.func79 (by kernel_rfl) (by kernel_rfl) (t := (Tree.need ((0 : Int) ≤ (32 : Int)) (Tree.need ((0 : Int) ≤ (32 : Int)) (Tree.need ((0 : Int) ≤ (32 : Int)) (Tree.need ((0 : Int) ≤ (32 : Int)) (Tree.need ((0 : Int) ≤ (32 : Int)) (Tree.ret (SV.tup [SX.c (SC.pd (PD.int IntKind.u64 (IntKind.wrap IntKind.u64 (IntKind.wrap IntKind.u64 (IntKind.wrap IntKind.u64 (Int.fdiv x ((2 : Int) ^ (32 : Nat)) * Int.fdiv y ((2 : Int) ^ (32 : Nat))) + Int.fdiv (IntKind.wrap IntKind.u64 (IntKind.wrap IntKind.u64 (Int.fdiv x ((2 : Int) ^ (32 : Nat)) * IntKind.wrap IntKind.u64 (↑(BitVec.toNat (BitVec.ofInt (64 : Nat) y &&& BitVec.ofInt (64 : Nat) (4294967295 : Int))) : Int)) + Int.fdiv (IntKind.wrap IntKind.u64 (IntKind.wrap IntKind.u64 (↑(BitVec.toNat (BitVec.ofInt (64 : Nat) x &&& BitVec.ofInt (64 : Nat) (4294967295 : Int))) : Int) * IntKind.wrap IntKind.u64 (↑(BitVec.toNat (BitVec.ofInt (64 : Nat) y &&& BitVec.ofInt (64 : Nat) (4294967295 : Int))) : Int))) ((2 : Int) ^ (32 : Nat)))) ((2 : Int) ^ (32 : Nat))) + Int.fdiv (IntKind.wrap IntKind.u64 (IntKind.wrap IntKind.u64 (↑(BitVec.toNat (BitVec.ofInt (64 : Nat) (IntKind.wrap IntKind.u64 (IntKind.wrap IntKind.u64 (Int.fdiv x ((2 : Int) ^ (32 : Nat)) * IntKind.wrap IntKind.u64 (↑(BitVec.toNat (BitVec.ofInt (64 : Nat) y &&& BitVec.ofInt (64 : Nat) (4294967295 : Int))) : Int)) + Int.fdiv (IntKind.wrap IntKind.u64 (IntKind.wrap IntKind.u64 (↑(BitVec.toNat (BitVec.ofInt (64 : Nat) x &&& BitVec.ofInt (64 : Nat) (4294967295 : Int))) : Int) * IntKind.wrap IntKind.u64 (↑(BitVec.toNat (BitVec.ofInt (64 : Nat) y &&& BitVec.ofInt (64 : Nat) (4294967295 : Int))) : Int))) ((2 : Int) ^ (32 : Nat)))) &&& BitVec.ofInt (64 : Nat) (4294967295 : Int))) : Int) + IntKind.wrap IntKind.u64 (IntKind.wrap IntKind.u64 (↑(BitVec.toNat (BitVec.ofInt (64 : Nat) x &&& BitVec.ofInt (64 : Nat) (4294967295 : Int))) : Int) * Int.fdiv y ((2 : Int) ^ (32 : Nat))))) ((2 : Int) ^ (32 : Nat)))))), SX.c (SC.pd (PD.int IntKind.u64 (IntKind.wrap IntKind.u64 (x * y))))]) []))))))) (by kernel_rfl) fun Γ => ?_
  have h1 := u64_iff.1 hx
  have h2 := u64_iff.1 hy
  refine ⟨by decide, by decide, by decide, by decide, by decide, ?_, rfl⟩
  have := Go.mul64_arith x y h1.1 h1.2 h2.1 h2.2
  simp only [and32, fdiv32, wrap_u64, mod_u32] at this ⊢
  rw [show hiOf x y = x * y / 18446744073709551616 from rfl, ← this]
  rfl
def eMul64 : Nat × (List SX → List Chunk → Option (Option Prop × SV × List Chunk)) := (79, fun
  | [.c (.pd (.int .u64 x)), .c (.pd (.int .u64 y))], [] => some (some (u64 x = true ∧ u64 y = true), .tup [.c (.pd (.int .u64 (hiOf x y))), .c (.pd (.int .u64 (loOf x y)))], [])
  | _, _ => none)
theorem eMul64_ok (vs : List SX) (ck : List Chunk) (p : Option Prop) (ret : SV) (ck' : List Chunk) (h : eMul64.2 vs ck = some (p, ret, ck')) (hp : Holds p) : Does Try.prog eMul64.1 vs ck ret ck' := by
  unfold eMul64 at h
  simp only at h
  split at h
  · rename_i x y
    simp only [Option.some.injEq, Prod.mk.injEq] at h
    obtain ⟨rfl, rfl, rfl⟩ := h
    exact mul64_spec x y hp.1 hp.2
  · simp at h
def cfgSz : Cfg := ⟨tys0, [eSize, eMul64]⟩
theorem cfgSz_ok : TabOk Try.prog cfgSz.tab := (TabOk.cons eSize_ok (TabOk.cons eMul64_ok TabOk.nil))
theorem product_spec (a b : Int) (ha : i64 a = true) (hb : i64 b = true) : Does Try.prog 71 [.i a, .i b] [] (.tup [.i (prodV a b), .c (.pd (.bool (i64 (a * b))))]) [] := by
  refine Does.go (cfg := cfgSz) cfgSz_ok Try.func71 (by kernel_rfl) (by kernel_rfl) (t := (Tree.need (i64 a = true) (Tree.need (i64 b = true) (Tree.need (u64 (absI a) = true ∧ u64 (absI b) = true) (Tree.ite (hiOf (absI a) (absI b) != (0 : Int)) (Tree.ret (SV.tup [SX.c (SC.pd (PD.int IntKind.i64 (0 : Int))), SX.c (SC.pd (PD.bool false))]) []) (Tree.ite (!decide (a < (0 : Int)) == decide (b < (0 : Int))) (Tree.ret (SV.tup [SX.c (SC.pd (PD.int IntKind.i64 (IntKind.wrap IntKind.i64 ((0 : Int) - IntKind.wrap IntKind.i64 (loOf (absI a) (absI b)))))), SX.c (SC.pd (PD.bool (decide (loOf (absI a) (absI b) ≤ (9223372036854775808 : Int)))))]) []) (Tree.ret (SV.tup [SX.c (SC.pd (PD.int IntKind.i64 (IntKind.wrap IntKind.i64 (loOf (absI a) (absI b))))), SX.c (SC.pd (PD.bool (decide (loOf (absI a) (absI b) < (9223372036854775808 : Int)))))]) []))))))) (by kernel_rfl) fun Γ => ?_
  obtain ⟨c1, c2, c3⟩ := prod_cases a b
  refine ⟨ha, hb, ⟨absI_u64 ha, absI_u64 hb⟩, fun h => ⟨?_, rfl⟩, fun h => ⟨fun h2 => ⟨?_, rfl⟩, fun h2 => ⟨?_, rfl⟩⟩⟩
  · have h' : hiOf (absI a) (absI b) ≠ 0 := by simpa using h
    rw [c1 h']
    have : prodV a b = 0 := by unfold prodV; rw [if_pos h']
    rw [this]
  · have h' : hiOf (absI a) (absI b) = 0 := by simpa using h
    have h2' : (decide (a < 0) != decide (b < 0)) = true := by simpa [bne] using h2
    rw [(c2 h' h2').1]
    have : prodV a b = IntKind.i64.wrap (0 - IntKind.i64.wrap (loOf (absI a) (absI b))) := by unfold prodV; rw [if_neg (by simpa using h'), if_pos h2']
    rw [this]
  · have h' : hiOf (absI a) (absI b) = 0 := by simpa using h
    have h2' : (decide (a < 0) != decide (b < 0)) = false := by simpa [bne] using h2
    rw [(c3 h' h2').1]
    have : prodV a b = IntKind.i64.wrap (loOf (absI a) (absI b)) := by unfold prodV; rw [if_neg (by simpa using h'), h2', if_neg (by simp)]
    rw [this]
def eProd : Nat × (List SX → List Chunk → Option (Option Prop × SV × List Chunk)) := (71, fun
  | [.c (.pd (.int .i64 a)), .c (.pd (.int .i64 b))], [] => some (some (i64 a = true ∧ i64 b = true), .tup [.c (.pd (.int .i64 (prodV a b))), .c (.pd (.bool (i64 (a * b))))], [])
  | _, _ => none)
theorem eProd_ok (vs : List SX) (ck : List Chunk) (p : Option Prop) (ret : SV) (ck' : List Chunk) (h : eProd.2 vs ck = some (p, ret, ck')) (hp : Holds p) : Does Try.prog eProd.1 vs ck ret ck' := by
  unfold eProd at h
  simp only at h
  split at h
  · rename_i a b
    simp only [Option.some.injEq, Prod.mk.injEq] at h
    obtain ⟨rfl, rfl, rfl⟩ := h
    exact product_spec a b hp.1 hp.2
  · simp at h
def cfgProd : Cfg := ⟨tys0, [eProd]⟩
theorem cfgProd_ok : TabOk Try.prog cfgProd.tab := (TabOk.cons eProd_ok TabOk.nil)
theorem whole_sub (a b : Int) (ha : i64 a = true) (hb : i64 b = true) : Does Try.prog 64 [.i 12, .i a, .i b] [] (.tup [.i (wholeM 12 a b).1, .i (wholeM 12 a b).2]) [] := by
  refine Does.go (cfg := cfgProd) cfgProd_ok Try.func64 (by kernel_rfl) (by kernel_rfl) (t := (Tree.ite false (Tree.ite (!decide (IntKind.wrap IntKind.i64 (a + b) < a) == decide (b < (0 : Int))) (Tree.ret (SV.tup [SX.c (SC.pd (PD.int IntKind.i64 (0 : Int))), SX.c (SC.pd (PD.int IntKind.i64 (7 : Int)))]) []) (Tree.ret (SV.tup [SX.c (SC.pd (PD.int IntKind.i64 (IntKind.wrap IntKind.i64 (a + b)))), SX.c (SC.pd (PD.int IntKind.i64 (0 : Int)))]) [])) (Tree.ite true (Tree.ite (!decide (IntKind.wrap IntKind.i64 (a - b) > a) == decide (b < (0 : Int))) (Tree.ret (SV.tup [SX.c (SC.pd (PD.int IntKind.i64 (0 : Int))), SX.c (SC.pd (PD.int IntKind.i64 (7 : Int)))]) []) (Tree.ret (SV.tup [SX.c (SC.pd (PD.int IntKind.i64 (IntKind.wrap IntKind.i64 (a - b)))), SX.c (SC.pd (PD.int IntKind.i64 (0 : Int)))]) [])) (Tree.ite false (Tree.need (i64 a = true ∧ i64 b = true) (Tree.ite (!i64 (a * b)) (Tree.ret (SV.tup [SX.c (SC.pd (PD.int IntKind.i64 (0 : Int))), SX.c (SC.pd (PD.int IntKind.i64 (7 : Int)))]) []) (Tree.ret (SV.tup [SX.c (SC.pd (PD.int IntKind.i64 (prodV a b))), SX.c (SC.pd (PD.int IntKind.i64 (0 : Int)))]) []))) (Tree.ite (b == (0 : Int)) (Tree.ret (SV.tup [SX.c (SC.pd (PD.int IntKind.i64 (0 : Int))), SX.c (SC.pd (PD.int IntKind.i64 (6 : Int)))]) []) (Tree.ite (b == (-1 : Int) && (12 : Int) == (15 : Int)) (Tree.ret (SV.tup [SX.c (SC.pd (PD.int IntKind.i64 (0 : Int))), SX.c (SC.pd (PD.int IntKind.i64 (0 : Int)))]) []) (Tree.ite (b == (-1 : Int)) (Tree.stop [PI.ops [(1 : Nat), (1 : Nat), (0 : Nat), (1 : Nat), (0 : Nat), (1 : Nat), (1 : Nat), (1 : Nat), (1 : Nat), (1 : Nat), (1 : Nat), (0 : Nat), (0 : Nat), (1 : Nat), (1 : Nat), (1 : Nat), (1 : Nat), (1 : Nat), (0 : Nat), (0 : Nat)] (1 : Nat), PI.code [(1 : Nat), (1 : Nat), (0 : Nat), (1 : Nat), (0 : Nat), (1 : Nat), (1 : Nat), (1 : Nat), (1 : Nat), (1 : Nat), (1 : Nat), (0 : Nat), (0 : Nat), (1 : Nat), (1 : Nat), (1 : Nat), (1 : Nat), (1 : Nat), (0 : Nat), (1 : Nat)], PI.inBlock (1 : Nat), PI.code [(1 : Nat), (1 : Nat), (0 : Nat), (1 : Nat), (0 : Nat), (1 : Nat), (1 : Nat), (1 : Nat), (1 : Nat), (1 : Nat), (1 : Nat), (1 : Nat)], PI.inBlock (0 : Nat), PI.code [(1 : Nat), (1 : Nat), (1 : Nat)]] { n := (70 : Nat), fr := [((1 : Nat), SV.x (SX.c (SC.pd (PD.int IntKind.i64 a)))), ((2 : Nat), SV.x (SX.c (SC.pd (PD.int IntKind.i64 b)))), ((6 : Nat), SV.x (SX.c (SC.pd (PD.int IntKind.i64 (0 : Int))))), ((7 : Nat), SV.x (SX.c (SC.pd (PD.int IntKind.i64 (0 : Int))))), ((8 : Nat), SV.x (SX.c (SC.pd (PD.int IntKind.i64 (0 : Int))))), ((9 : Nat), SV.x (SX.c (SC.pd (PD.bool true)))), ((24 : Nat), SV.x (SX.c (SC.pd (PD.int IntKind.i64 a))))], ck := [], kn := [(9 : Nat)] }) (Tree.ite false (Tree.need (b ≠ (0 : Int)) (Tree.ret (SV.tup [SX.c (SC.pd (PD.int IntKind.i64 (IntKind.wrap IntKind.i64 (Int.tdiv a b)))), SX.c (SC.pd (PD.int IntKind.i64 (0 : Int)))]) [])) (Tree.need (b ≠ (0 : Int)) (Tree.ret (SV.tup [SX.c (SC.pd (PD.int IntKind.i64 (Int.tmod a b))), SX.c (SC.pd (PD.int IntKind.i64 (0 : Int)))]) [])))))))))) (by kernel_rfl) fun Γ => ?_
  refine ⟨fun h => absurd h (by decide), fun _ => ⟨fun _ => ⟨fun h => ?_, fun h => ?_⟩, fun h => absurd h (by decide)⟩⟩
  · have h' : i64 (a - b) = false := by rw [← sub_over ha hb]; simpa using h
    refine ⟨?_, rfl⟩; simp [wholeM, okI, h']
  · have h' : i64 (a - b) = true := by rw [← sub_over ha hb]; simpa using h
    refine ⟨?_, rfl⟩; simp [wholeM, okI, h', wrap_i64 h']
def eWhole12 : Nat × (List SX → List Chunk → Option (Option Prop × SV × List Chunk)) := (64, fun
  | [.c (.pd (.int .i64 12)), .c (.pd (.int .i64 a)), .c (.pd (.int .i64 b))], [] => some (some (i64 a = true ∧ i64 b = true), .tup [.c (.pd (.int .i64 (wholeM 12 a b).1)), .c (.pd (.int .i64 (wholeM 12 a b).2))], [])
  | _, _ => none)
theorem eWhole12_ok (vs : List SX) (ck : List Chunk) (p : Option Prop) (ret : SV) (ck' : List Chunk) (h : eWhole12.2 vs ck = some (p, ret, ck')) (hp : Holds p) : Does Try.prog eWhole12.1 vs ck ret ck' := by
  unfold eWhole12 at h
  simp only at h
  split at h
  · rename_i a b
    simp only [Option.some.injEq, Prod.mk.injEq] at h
    obtain ⟨rfl, rfl, rfl⟩ := h
    exact whole_sub a b hp.1 hp.2
  · simp at h
def cfgW12 : Cfg := ⟨tys0, [eProd, eWhole12]⟩
theorem cfgW12_ok : TabOk Try.prog cfgW12.tab := (TabOk.cons eProd_ok (TabOk.cons eWhole12_ok TabOk.nil))
theorem evwhole_spec (op a b : Int) (hop : 11 ≤ op ∧ op ≤ 15) (ha : i64 a = true) (hb : i64 b = true) : Does Try.prog 64 [.i op, .i a, .i b] [] (.tup [.i (wholeM op a b).1, .i (wholeM op a b).2]) [] := by
  refine Does.go (cfg := cfgW12) cfgW12_ok Try.func64 (by kernel_rfl) (by kernel_rfl) (t := (Tree.ite (op == (11 : Int)) (Tree.ite (!decide (IntKind.wrap IntKind.i64 (a + b) < a) == decide (b < (0 : Int))) (Tree.ret (SV.tup [SX.c (SC.pd (PD.int IntKind.i64 (0 : Int))), SX.c (SC.pd (PD.int IntKind.i64 (7 : Int)))]) []) (Tree.ret (SV.tup [SX.c (SC.pd (PD.int IntKind.i64 (IntKind.wrap IntKind.i64 (a + b)))), SX.c (SC.pd (PD.int IntKind.i64 (0 : Int)))]) [])) (Tree.ite (op == (12 : Int)) (Tree.ite (!decide (IntKind.wrap IntKind.i64 (a - b) > a) == decide (b < (0 : Int))) (Tree.ret (SV.tup [SX.c (SC.pd (PD.int IntKind.i64 (0 : Int))), SX.c (SC.pd (PD.int IntKind.i64 (7 : Int)))]) []) (Tree.ret (SV.tup [SX.c (SC.pd (PD.int IntKind.i64 (IntKind.wrap IntKind.i64 (a - b)))), SX.c (SC.pd (PD.int IntKind.i64 (0 : Int)))]) [])) (Tree.ite (op == (13 : Int)) (Tree.need (i64 a = true ∧ i64 b = true) (Tree.ite (!i64 (a * b)) (Tree.ret (SV.tup [SX.c (SC.pd (PD.int IntKind.i64 (0 : Int))), SX.c (SC.pd (PD.int IntKind.i64 (7 : Int)))]) []) (Tree.ret (SV.tup [SX.c (SC.pd (PD.int IntKind.i64 (prodV a b))), SX.c (SC.pd (PD.int IntKind.i64 (0 : Int)))]) []))) (Tree.ite (b == (0 : Int)) (Tree.ret (SV.tup [SX.c (SC.pd (PD.int IntKind.i64 (0 : Int))), SX.c (SC.pd (PD.int IntKind.i64 (6 : Int)))]) []) (Tree.ite (b == (-1 : Int) && op == (15 : Int)) (Tree.ret (SV.tup [SX.c (SC.pd (PD.int IntKind.i64 (0 : Int))), SX.c (SC.pd (PD.int IntKind.i64 (0 : Int)))]) []) (Tree.ite (b == (-1 : Int)) (Tree.need (i64 (0 : Int) = true ∧ i64 a = true) (Tree.ret (SV.tup [SX.c (SC.pd (PD.int IntKind.i64 (Prod.fst (wholeM (12 : Int) (0 : Int) a)))), SX.c (SC.pd (PD.int IntKind.i64 (Prod.snd (wholeM (12 : Int) (0 : Int) a))))]) [])) (Tree.ite (op == (14 : Int)) (Tree.need (b ≠ (0 : Int)) (Tree.ret (SV.tup [SX.c (SC.pd (PD.int IntKind.i64 (IntKind.wrap IntKind.i64 (Int.tdiv a b)))), SX.c (SC.pd (PD.int IntKind.i64 (0 : Int)))]) [])) (Tree.need (b ≠ (0 : Int)) (Tree.ret (SV.tup [SX.c (SC.pd (PD.int IntKind.i64 (Int.tmod a b))), SX.c (SC.pd (PD.int IntKind.i64 (0 : Int)))]) [])))))))))) (by kernel_rfl) fun Γ => ?_
  refine ⟨fun h => ?_, fun h11 => ⟨fun h => ?_, fun h12 => ⟨fun h => ⟨⟨ha, hb⟩, ?_⟩, fun h13 => ?_⟩⟩⟩
  · have e : op = 11 := by simpa using h
    subst e
    refine ⟨fun h => ?_, fun h => ?_⟩
    · have h' : i64 (a + b) = false := by rw [← add_over ha hb]; simpa using h
      refine ⟨?_, rfl⟩; simp [wholeM, okI, h']
    · have h' : i64 (a + b) = true := by rw [← add_over ha hb]; simpa using h
      refine ⟨?_, rfl⟩; simp [wholeM, okI, h', wrap_i64 h']
  · have e : op = 12 := by simpa using h
    subst e
    refine ⟨fun h => ?_, fun h => ?_⟩
    · have h' : i64 (a - b) = false := by rw [← sub_over ha hb]; simpa using h
      refine ⟨?_, rfl⟩; simp [wholeM, okI, h']
    · have h' : i64 (a - b) = true := by rw [← sub_over ha hb]; simpa using h
      refine ⟨?_, rfl⟩; simp [wholeM, okI, h', wrap_i64 h']
  · have e : op = 13 := by simpa using h
    subst e
    refine ⟨fun h => ?_, fun h => ?_⟩
    · have h' : i64 (a * b) = false := by simpa using h
      refine ⟨?_, rfl⟩; simp [wholeM, okI, h']
    · have h' : i64 (a * b) = true := by simpa using h
      have hp : prodV a b = a * b := by
        obtain ⟨c1, c2, c3⟩ := prod_cases a b
        by_cases h0 : hiOf (absI a) (absI b) = 0
        · cases hd : (decide (a < 0) != decide (b < 0))
          · exact (c3 h0 hd).2 h'
          · exact (c2 h0 hd).2 h'
        · rw [c1 h0] at h'; cases h'
      refine ⟨?_, rfl⟩; simp [wholeM, okI, h', hp]
  · have n1 : op ≠ 11 := by simpa using h11
    have n2 : op ≠ 12 := by simpa using h12
    have n3 : op ≠ 13 := by simpa using h13
    refine ⟨fun h => ?_, fun h0 => ⟨fun h => ?_, fun h1 => ⟨fun h => ⟨⟨by decide, ha⟩, ?_⟩, fun h2 => ⟨fun h => ?_, fun h3 => ?_⟩⟩⟩⟩
    · have e : b = 0 := by simpa using h
      refine ⟨?_, rfl⟩; simp [wholeM, n1, n2, n3, e]
    · have e : b = -1 ∧ op = 15 := by simpa using h
      refine ⟨?_, rfl⟩; simp [wholeM, e.1, e.2, tmod_neg_one]
    · have e : b = -1 := by simpa using h
      have e14 : op = 14 := by
        have : ¬ (b = -1 ∧ op = 15) := by simpa using h1
        omega
      have hw : wholeM 12 0 a = wholeM op a b := by
        subst e; subst e14
        simp only [wholeM, tdiv_neg_one]
        simp
      refine ⟨?_, rfl⟩; rw [hw]
    · have e : op = 14 := by simpa using h
      have nb : b ≠ 0 := by simpa using h0
      have nb1 : b ≠ -1 := by simpa using h2
      have hd := tdiv_i64 ha nb nb1
      refine ⟨nb, ?_, rfl⟩; simp [wholeM, e, nb, okI, hd, wrap_i64 hd]
    · have e : op ≠ 14 := by simpa using h3
      have nb : b ≠ 0 := by simpa using h0
      refine ⟨nb, ?_, rfl⟩; simp [wholeM, n1, n2, n3, e, nb]
def eWholeE : Nat × (List SX → List Chunk → Option (Option Prop × SV × List Chunk)) := (64, fun
  | [.c (.pd (.int .i64 op)), .c (.pd (.int .i64 a)), .c (.pd (.int .i64 b))], [] => some (some ((11 ≤ op ∧ op ≤ 15) ∧ i64 a = true ∧ i64 b = true), .tup [.c (.pd (.int .i64 (wholeM op a b).1)), .c (.pd (.int .i64 (wholeM op a b).2))], [])
  | _, _ => none)
theorem eWholeE_ok (vs : List SX) (ck : List Chunk) (p : Option Prop) (ret : SV) (ck' : List Chunk) (h : eWholeE.2 vs ck = some (p, ret, ck')) (hp : Holds p) : Does Try.prog eWholeE.1 vs ck ret ck' := by
  unfold eWholeE at h
  simp only at h
  split at h
  · rename_i op a b
    simp only [Option.some.injEq, Prod.mk.injEq] at h
    obtain ⟨rfl, rfl, rfl⟩ := h
    exact evwhole_spec op a b hp.1 hp.2.1 hp.2.2
  · simp at h
def cfgMade : Cfg := ⟨tys0, [ePMade]⟩
theorem cfgMade_ok : TabOk Try.prog cfgMade.tab := (TabOk.cons ePMade_ok TabOk.nil)
theorem in_spec (a : Int) : Does Try.prog 35 [.i a] [] (.x (.b (pIn a))) [] := by
  refine Does.go (cfg := cfg0) cfg0_ok Try.func35 (by kernel_rfl) (by kernel_rfl) (t := (Tree.ret (SV.x (SX.c (SC.pd (PD.bool (decide (a ≥ (-1048576 : Int)) && decide (a ≤ (1048576 : Int))))))) [])) (by kernel_rfl) fun Γ => ?_
  exact ⟨rfl, rfl⟩
def eIn : Nat × (List SX → List Chunk → Option (Option Prop × SV × List Chunk)) := (35, fun
  | [.c (.pd (.int .i64 a))], [] => some (none, .x (.c (.pd (.bool (pIn a)))), [])
  | _, _ => none)
theorem eIn_ok (vs : List SX) (ck : List Chunk) (p : Option Prop) (ret : SV) (ck' : List Chunk) (h : eIn.2 vs ck = some (p, ret, ck')) (hp : Holds p) : Does Try.prog eIn.1 vs ck ret ck' := by
  unfold eIn at h
  simp only at h
  split at h
  · rename_i a
    simp only [Option.some.injEq, Prod.mk.injEq] at h
    obtain ⟨rfl, rfl, rfl⟩ := h
    exact in_spec a
  · simp at h
def cfgIn : Cfg := ⟨tys0, [eIn]⟩
theorem cfgIn_ok : TabOk Try.prog cfgIn.tab := (TabOk.cons eIn_ok TabOk.nil)
end Go.Proofs.Ytgoihhnfkoklpaa

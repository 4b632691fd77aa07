/- An executor for function bodies of the model, part C: operations that only compute, and what they come to. Conditions: each operation's own, told as a proposition. -/
import Derived.Test.YtgoihhnfkoklpaaEngB
namespace Go.Sy
open Go.RowKit

def bs (l : List UInt8) : ByteArray := ⟨l.toArray⟩
theorem bs_eta (s : ByteArray) : bs s.data.toList = s := by cases s; simp [bs]
theorem bs_toList (l : List UInt8) : (bs l).data.toList = l := by simp [bs]
theorem bs_size (l : List UInt8) : (bs l).size = l.length := by simp [bs, ByteArray.size]

def intBin (op : BinOp) (k : IntKind) (a b : Int) : Option (Option Prop × Value) :=
  match op with
  | .add => some (none, .int k (k.wrap (a + b)))
  | .sub => some (none, .int k (k.wrap (a - b)))
  | .mul => some (none, .int k (k.wrap (a * b)))
  | .quo => some (some (b ≠ 0), .int k (k.wrap (a.tdiv b)))
  | .rem => some (some (b ≠ 0), .int k (a.tmod b))
  | .eql => some (none, .bool (a == b))
  | .neq => some (none, .bool (a != b))
  | .lss => some (none, .bool (decide (a < b)))
  | .leq => some (none, .bool (decide (a ≤ b)))
  | .gtr => some (none, .bool (decide (a > b)))
  | .geq => some (none, .bool (decide (a ≥ b)))
  | .and => some (none, .int k (k.wrap ((BitVec.ofInt k.bits a &&& BitVec.ofInt k.bits b).toNat)))
  | .or => some (none, .int k (k.wrap ((BitVec.ofInt k.bits a ||| BitVec.ofInt k.bits b).toNat)))
  | .xor => some (none, .int k (k.wrap ((BitVec.ofInt k.bits a ^^^ BitVec.ofInt k.bits b).toNat)))
  | _ => none
def strBin (op : BinOp) (x y : List UInt8) : Option (Option Prop × Value) :=
  match op with
  | .add => some (some (x.length + y.length ≤ 9223372036854775807), .string (bs (x ++ y)))
  | .eql => some (none, .bool (x == y))
  | .neq => some (none, .bool (!(x == y)))
  | .lss => some (none, .bool (Op.bytesLess x y))
  | .leq => some (none, .bool (Op.bytesLess x y || x == y))
  | .gtr => some (none, .bool (!(Op.bytesLess x y || x == y)))
  | .geq => some (none, .bool (!(Op.bytesLess x y)))
  | _ => none
def boolBin (op : BinOp) (x y : Bool) : Option (Option Prop × Value) :=
  match op with
  | .eql => some (none, .bool (x == y))
  | .neq => some (none, .bool (!(x == y)))
  | _ => none
def isBoolT (P : Program) (t : TypeId) : Bool := match P.underlying t with | some .bool => true | _ => false
def binV (P : Program) (op : BinOp) (t : TypeId) (x y : Value) : Option (Option Prop × Value) :=
  match x, y with
  | .int k a, .int k' b =>
    match op with
    | .shl => some (some (0 ≤ b), .int k (k.wrap (a * 2 ^ (min b.toNat k.bits))))
    | .shr => some (some (0 ≤ b), .int k (a.fdiv (2 ^ (min b.toNat k.bits))))
    | op => bif k == k' then intBin op k a b else none
  | .string a, .string b => strBin op a.data.toList b.data.toList
  | .bool a, .bool b => bif isBoolT P t then boolBin op a b else none
  | _, _ => none
def Holds : Option Prop → Prop
  | none => True
  | some p => p

theorem eqGuard_plain {P : Program} {w : World} (op : BinOp) (t : TypeId) (x y : Operand) {a b : Value} (ha : (∀ cs, a ≠ .agg cs) ∧ a ≠ .nilIface) :
    (eqGuard op t x y a b).run P w = .ok () w := by
  cases op <;> first | rfl | (cases a <;> first | rfl | (exact absurd rfl (ha.1 _)) | (exact absurd rfl ha.2) | (cases b <;> rfl))

theorem run_equalIn_bool {P : Program} {w : World} (d : Nat) {t : TypeId} (a b : Bool) (hu : P.underlying t = some .bool) :
    (Op.equalIn (d + 1) t (.bool a) (.bool b)).run P w = .ok (a == b) w := by
  simp [Op.equalIn, run_underlying hu, pure, Sem.run]
theorem run_eql_bool {P : Program} {w : World} {t : TypeId} (a b : Bool) (hu : P.underlying t = some .bool) :
    (binOp .eql t (.bool a) (.bool b)).run P w = .ok (.bool (a == b)) w := by
  simp only [binOp]
  simp [Op.equal, Op.maxDepth, run_equalIn_bool 9999 a b hu]
theorem run_neq_bool {P : Program} {w : World} {t : TypeId} (a b : Bool) (hu : P.underlying t = some .bool) :
    (binOp .neq t (.bool a) (.bool b)).run P w = .ok (.bool (!(a == b))) w := by
  simp only [binOp]
  simp [Op.equal, Op.maxDepth, run_equalIn_bool 9999 a b hu]

theorem binV_sound {P : Program} {w : World} {op : BinOp} {t : TypeId} {x y : Value} {p : Option Prop} {v : Value} (h : binV P op t x y = some (p, v)) (hp : Holds p) :
    (binOp op t x y).run P w = .ok v w ∧ ((∀ cs, x ≠ .agg cs) ∧ x ≠ .nilIface) := by
  cases x with
  | int k a =>
    cases y with
    | int k' b =>
      refine ⟨?_, by simp, by simp⟩
      cases op <;> simp only [binV] at h <;>
        first
        | (simp only [Option.some.injEq, Prod.mk.injEq] at h
           obtain ⟨rfl, rfl⟩ := h
           simp only [Holds] at hp
           have : ¬ b < 0 := by omega
           simp [binOp, Op.shift, this, go_sem, pure, Sem.run]
           done)
        | (cases hk : (k == k')
           · rw [hk] at h; simp at h
           · rw [hk] at h
             simp only [beq_iff_eq] at hk
             subst hk
             simp only [cond_true, intBin, Option.some.injEq, Prod.mk.injEq, reduceCtorEq] at h
             try (obtain ⟨rfl, rfl⟩ := h
                  simp only [Holds] at hp
                  simp [binOp, Op.intArith, Op.intDiv, Op.intBits, Op.intCmp, pure, Sem.run, hp]))
    | _ => simp [binV] at h
  | string a =>
    cases y with
    | string b =>
      refine ⟨?_, by simp, by simp⟩
      simp only [binV] at h
      have ea : a.toList = a.data.toList := ByteArray.toList_eq a
      have eb : b.toList = b.data.toList := ByteArray.toList_eq b
      cases op <;> simp only [strBin, Option.some.injEq, Prod.mk.injEq, reduceCtorEq] at h <;> obtain ⟨rfl, rfl⟩ := h
      case add =>
        simp only [Holds] at hp
        have e1 : a ++ b = bs (a.data.toList ++ b.data.toList) := by
          rw [← bs_eta (a ++ b), ByteArray.data_append, Array.toList_append]
        have e2 : ¬ (((a.size + b.size : Nat) : Int) > IntKind.i64.max) := by
          have : IntKind.i64.max = 9223372036854775807 := by decide
          rw [this]
          simp only [ByteArray.size, ← Array.length_toList]
          omega
        simp only [binOp, Op.stringOp, if_neg e2, e1]
        rfl
      all_goals
        simp only [binOp, Op.stringOp, ea, eb]
        rfl
    | _ => simp [binV] at h
  | bool a =>
    cases y with
    | bool b =>
      refine ⟨?_, by simp, by simp⟩
      simp only [binV] at h
      cases hb : isBoolT P t
      · rw [hb] at h; simp at h
      · rw [hb] at h
        have hu : P.underlying t = some .bool := by
          unfold isBoolT at hb; split at hb <;> simp_all
        simp only [cond_true] at h
        cases op <;> simp only [boolBin, Option.some.injEq, Prod.mk.injEq, reduceCtorEq] at h <;> obtain ⟨rfl, rfl⟩ := h
        · exact run_eql_bool a b hu
        · exact run_neq_bool a b hu
    | _ => simp [binV] at h
  | _ => simp [binV] at h
end Go.Sy

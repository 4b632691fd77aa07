/- An executor for function bodies of the model over data, part PB: operators, and what they come to. Conditions: each operation's own, told as a proposition. -/
import Derived.Test.YtndkapkejmkphaaDoorPA
namespace Go.Ev
open Go.RowKit

def intBin (op : BinOp) (k : IntKind) (a b : Int) : Option (Option Prop × PD) :=
  match op with
  | .add => some (none, .int k (k.wrap (a + b)))
  | .sub => some (none, .int k (k.wrap (a - b)))
  | .mul => some (none, .int k (k.wrap (a * b)))
  | .quo => some (some (b ≠ 0), .int k (k.wrap (a.tdiv b)))
  | .rem => some (some (b ≠ 0), .int k (a.tmod b))
  | .eql => some (none, .bool (a == b))
  | .neq => some (none, .bool (a != b))
  | .lss => some (none, .bool (decide (a < b)))
  | .leq => some (none, .bool (decide (a ≤ b)))
  | .gtr => some (none, .bool (decide (a > b)))
  | .geq => some (none, .bool (decide (a ≥ b)))
  | .and => some (none, .int k (k.wrap ((BitVec.ofInt k.bits a &&& BitVec.ofInt k.bits b).toNat)))
  | .or => some (none, .int k (k.wrap ((BitVec.ofInt k.bits a ||| BitVec.ofInt k.bits b).toNat)))
  | .xor => some (none, .int k (k.wrap ((BitVec.ofInt k.bits a ^^^ BitVec.ofInt k.bits b).toNat)))
  | _ => none
def strBin (op : BinOp) (x y : Str) : Option (Option Prop × PD) :=
  match op with
  | .add => some (some (x.length + y.length ≤ 9223372036854775807), .str (x ++ y))
  | .eql => some (none, .bool (x == y))
  | .neq => some (none, .bool (!(x == y)))
  | .lss => some (none, .bool (Op.bytesLess x y))
  | .leq => some (none, .bool (Op.bytesLess x y || x == y))
  | .gtr => some (none, .bool (!(Op.bytesLess x y || x == y)))
  | .geq => some (none, .bool (!(Op.bytesLess x y)))
  | _ => none
def boolBin (op : BinOp) (x y : Bool) : Option (Option Prop × PD) :=
  match op with
  | .eql => some (none, .bool (x == y))
  | .neq => some (none, .bool (!(x == y)))
  | _ => none
def isBoolT (P : Program) (t : TypeId) : Bool := match P.underlying t with | some .bool => true | _ => false
def fOrd (a b : Nat) : Option Ordering := FloatKind.f64.format.order a b
def fltBin (op : BinOp) (a b : Nat) : Option (Option Prop × PD) :=
  match op with
  | .eql => some (none, .bool (fOrd a b == some .eq))
  | .neq => some (none, .bool (!(fOrd a b == some .eq)))
  | .lss => some (none, .bool (fOrd a b == some .lt))
  | .leq => some (none, .bool (fOrd a b == some .lt || fOrd a b == some .eq))
  | .gtr => some (none, .bool (fOrd a b == some .gt))
  | .geq => some (none, .bool (fOrd a b == some .gt || fOrd a b == some .eq))
  | _ => none
def cxBin (op : BinOp) (a b c d : Nat) : Option (Option Prop × PD) :=
  match op with
  | .eql => some (none, .bool (fOrd a c == some .eq && fOrd b d == some .eq))
  | .neq => some (none, .bool (!(fOrd a c == some .eq && fOrd b d == some .eq)))
  | _ => none
def binP (P : Program) (op : BinOp) (t : TypeId) (x y : PD) : Option (Option Prop × PD) :=
  match x, y with
  | .int k a, .int k' b =>
    match op with
    | .shl => some (some (0 ≤ b), .int k (k.wrap (a * 2 ^ (min b.toNat k.bits))))
    | .shr => some (some (0 ≤ b), .int k (a.fdiv (2 ^ (min b.toNat k.bits))))
    | op => bif k == k' then intBin op k a b else none
  | .str a, .str b => strBin op a b
  | .bool a, .bool b => bif isBoolT P t then boolBin op a b else none
  | .fl (some a), .fl (some b) => fltBin op a b
  | .cx (some p), .cx (some q) => cxBin op p.1 p.2 q.1 q.2
  | _, _ => none
def Holds : Option Prop → Prop
  | none => True
  | some p => p

theorem eqGuard_plain {P : Program} {w : World} (op : BinOp) (t : TypeId) (x y : Operand) {a b : Value} (ha : (∀ cs, a ≠ .agg cs) ∧ a ≠ .nilIface) :
    (eqGuard op t x y a b).run P w = .ok () w := by
  cases op <;> first | rfl | (cases a <;> first | rfl | (exact absurd rfl (ha.1 _)) | (exact absurd rfl ha.2) | (cases b <;> rfl))

theorem run_equalIn_bool {P : Program} {w : World} (d : Nat) {t : TypeId} (a b : Bool) (hu : P.underlying t = some .bool) :
    (Op.equalIn (d + 1) t (.bool a) (.bool b)).run P w = .ok (a == b) w := by
  simp [Op.equalIn, run_underlying hu, pure, Sem.run]
theorem run_eql_bool {P : Program} {w : World} {t : TypeId} (a b : Bool) (hu : P.underlying t = some .bool) :
    (binOp .eql t (.bool a) (.bool b)).run P w = .ok (.bool (a == b)) w := by
  simp only [binOp]
  simp [Op.equal, Op.maxDepth, run_equalIn_bool 9999 a b hu]
theorem run_neq_bool {P : Program} {w : World} {t : TypeId} (a b : Bool) (hu : P.underlying t = some .bool) :
    (binOp .neq t (.bool a) (.bool b)).run P w = .ok (.bool (!(a == b))) w := by
  simp only [binOp]
  simp [Op.equal, Op.maxDepth, run_equalIn_bool 9999 a b hu]

def nilBin (P : Program) (op : BinOp) (t : TypeId) (y : Operand) (v : PD) : Option PD :=
  match y with
  | .const .nilIface => match P.underlying t with
    | some (.interface _) => match v with
      | .err => match op with
        | .eql => some (.bool false)
        | .neq => some (.bool true)
        | _ => none
      | .v .nilIface => match op with
        | .eql => some (.bool true)
        | .neq => some (.bool false)
        | _ => none
      | _ => none
    | _ => none
  | _ => none
theorem run_eql_err {P : Program} {w : World} {t : TypeId} {ms : Array (String × TypeId)} (hu : P.underlying t = some (.interface ms)) (tx : TypeId) (x : Value) :
    (binOp .eql t (.iface tx x) .nilIface).run P w = .ok (.bool false) w ∧ (binOp .neq t (.iface tx x) .nilIface).run P w = .ok (.bool true) w := by
  have e : ∀ d, (Op.equalIn (d + 1) t (.iface tx x) .nilIface).run P w = .ok false w := fun d => by
    simp [Op.equalIn, run_underlying hu, pure, Sem.run]
  constructor
  · simp only [binOp]; simp [Op.equal, Op.maxDepth, e 9999]
  · simp only [binOp]; simp [Op.equal, Op.maxDepth, e 9999]
theorem run_eql_nil {P : Program} {w : World} {t : TypeId} {ms : Array (String × TypeId)} (hu : P.underlying t = some (.interface ms)) :
    (binOp .eql t .nilIface .nilIface).run P w = .ok (.bool true) w ∧ (binOp .neq t .nilIface .nilIface).run P w = .ok (.bool false) w := by
  have e : ∀ d, (Op.equalIn (d + 1) t .nilIface .nilIface).run P w = .ok true w := fun d => by
    simp [Op.equalIn, run_underlying hu, pure, Sem.run]
  constructor
  · simp only [binOp]; simp [Op.equal, Op.maxDepth, e 9999]
  · simp only [binOp]; simp [Op.equal, Op.maxDepth, e 9999]
theorem nilBin_sound {P : Program} {w : World} {H : Mem} {op : BinOp} {t : TypeId} {x y : Operand} {v r : PD} {a : Value} (h : nilBin P op t y v = some r) (hx : PR H v a) :
    y = .const .nilIface ∧ (eqGuard op t x y a .nilIface).run P w = .ok () w ∧ ∃ u, (binOp op t a .nilIface).run P w = .ok u w ∧ PR H r u := by
  unfold nilBin at h
  split at h
  · split at h
    · rename_i ms hu
      split at h
      · cases hx with | err tx x' =>
        split at h
        · simp only [Option.some.injEq] at h; subst h
          exact ⟨rfl, rfl, _, (run_eql_err hu tx x').1, .bool _⟩
        · simp only [Option.some.injEq] at h; subst h
          exact ⟨rfl, rfl, _, (run_eql_err hu tx x').2, .bool _⟩
        · simp at h
      · cases hx
        split at h
        · simp only [Option.some.injEq] at h; subst h
          refine ⟨rfl, ?_, _, (run_eql_nil hu).1, .bool _⟩
          cases x <;> rfl
        · simp only [Option.some.injEq] at h; subst h
          refine ⟨rfl, ?_, _, (run_eql_nil hu).2, .bool _⟩
          cases x <;> rfl
        · simp at h
      · simp at h
    · simp at h
  · simp at h
theorem PR.fl_some {H : Mem} {x : Nat} {v : Value} (h : PR H (.fl (some x)) v) : v = .float .f64 x := by
  cases h with | fl _ y h => rw [h x rfl]
theorem PR.cx_some {H : Mem} {p : Nat × Nat} {v : Value} (h : PR H (.cx (some p)) v) : v = .complex .f64 p.1 p.2 := by
  cases h with | cx _ x y h => rw [h p rfl]
theorem fltBin_sound {P : Program} {w : World} {H : Mem} {op : BinOp} {t : TypeId} {a b : Nat} {r : PD} {p : Option Prop} (h : fltBin op a b = some (p, r)) :
    ∃ v, (binOp op t (.float .f64 a) (.float .f64 b)).run P w = .ok v w ∧ PR H r v := by
  cases op <;> simp only [fltBin, reduceCtorEq] at h
  all_goals
    simp only [Option.some.injEq, Prod.mk.injEq] at h
    obtain ⟨rfl, rfl⟩ := h
    refine ⟨_, ?_, .bool _⟩
    simp [binOp, Op.floatCmp, fOrd, pure, Sem.run, bne]
theorem cxBin_sound {P : Program} {w : World} {H : Mem} {op : BinOp} {t : TypeId} {a b c d : Nat} {r : PD} {p : Option Prop} (h : cxBin op a b c d = some (p, r)) :
    ∃ v, (binOp op t (.complex .f64 a b) (.complex .f64 c d)).run P w = .ok v w ∧ PR H r v := by
  cases op <;> simp only [cxBin, reduceCtorEq] at h
  all_goals
    simp only [Option.some.injEq, Prod.mk.injEq] at h
    obtain ⟨rfl, rfl⟩ := h
    refine ⟨_, ?_, .bool _⟩
    simp [binOp, Op.complexOp, Op.Complex.cmp, Op.floatCmp, asBool, fOrd, pure, Sem.run]
theorem binP_sound {P : Program} {w : World} {H : Mem} {op : BinOp} {t : TypeId} {x y r : PD} {vx vy : Value} {p : Option Prop} (h : binP P op t x y = some (p, r)) (hp : Holds p) (hx : PR H x vx) (hy : PR H y vy) :
    ∃ v, (binOp op t vx vy).run P w = .ok v w ∧ PR H r v ∧ ((∀ cs, vx ≠ .agg cs) ∧ vx ≠ .nilIface) := by
  cases x with
  | int k a =>
    cases y with
    | int k' b =>
      cases hx; cases hy
      cases op <;> simp only [binP] at h <;>
        first
        | (simp only [Option.some.injEq, Prod.mk.injEq] at h
           obtain ⟨rfl, rfl⟩ := h
           simp only [Holds] at hp
           have : ¬ b < 0 := by omega
           refine ⟨_, ?_, .int _ _, by simp, by simp⟩
           simp [binOp, Op.shift, this, go_sem, pure, Sem.run]
           done)
        | (cases hk : (k == k')
           · rw [hk] at h; simp at h
           · rw [hk] at h
             simp only [beq_iff_eq] at hk
             subst hk
             simp only [cond_true, intBin, Option.some.injEq, Prod.mk.injEq, reduceCtorEq] at h
             try (obtain ⟨rfl, rfl⟩ := h
                  simp only [Holds] at hp
                  refine ⟨_, ?_, by first | exact .int _ _ | exact .bool _, by simp, by simp⟩
                  simp [binOp, Op.intArith, Op.intDiv, Op.intBits, Op.intCmp, pure, Sem.run, hp]))
    | _ => simp [binP] at h
  | str a =>
    cases y with
    | str b =>
      cases hx; cases hy
      simp only [binP] at h
      have ea : (bs a).toList = a := by rw [ByteArray.toList_eq, bs_toList]
      have eb : (bs b).toList = b := by rw [ByteArray.toList_eq, bs_toList]
      cases op <;> simp only [strBin, Option.some.injEq, Prod.mk.injEq, reduceCtorEq] at h <;> obtain ⟨rfl, rfl⟩ := h
      case add =>
        simp only [Holds] at hp
        have e1 : bs a ++ bs b = bs (a ++ b) := by
          rw [← bs_eta (bs a ++ bs b), ByteArray.data_append, Array.toList_append, bs_toList, bs_toList]
        have e2 : ¬ ((((bs a).size + (bs b).size : Nat) : Int) > IntKind.i64.max) := by
          have : IntKind.i64.max = 9223372036854775807 := by decide
          rw [this, bs_size, bs_size]
          omega
        refine ⟨_, ?_, .str _, by simp, by simp⟩
        simp only [binOp, Op.stringOp, if_neg e2, e1]
        rfl
      all_goals
        refine ⟨_, ?_, .bool _, by simp, by simp⟩
        simp only [binOp, Op.stringOp, ea, eb]
        rfl
    | _ => simp [binP] at h
  | bool a =>
    cases y with
    | bool b =>
      cases hx; cases hy
      simp only [binP] at h
      cases hb : isBoolT P t
      · rw [hb] at h; simp at h
      · rw [hb] at h
        have hu : P.underlying t = some .bool := by
          unfold isBoolT at hb; split at hb <;> simp_all
        simp only [cond_true] at h
        cases op <;> simp only [boolBin, Option.some.injEq, Prod.mk.injEq, reduceCtorEq] at h <;> obtain ⟨rfl, rfl⟩ := h
        · exact ⟨_, run_eql_bool a b hu, .bool _, by simp, by simp⟩
        · exact ⟨_, run_neq_bool a b hu, .bool _, by simp, by simp⟩
    | _ => simp [binP] at h
  | fl o => cases o with
    | none => simp [binP] at h
    | some a => cases y with
      | fl o' => cases o' with
        | none => simp [binP] at h
        | some b =>
          rw [PR.fl_some hx, PR.fl_some hy]
          obtain ⟨v, h1, h2⟩ := fltBin_sound (P := P) (w := w) (H := H) (show fltBin op a b = some (p, r) from h)
          exact ⟨v, h1, h2, by simp, by simp⟩
      | _ => simp [binP] at h
  | cx o => cases o with
    | none => simp [binP] at h
    | some a => cases y with
      | cx o' => cases o' with
        | none => simp [binP] at h
        | some b =>
          rw [PR.cx_some hx, PR.cx_some hy]
          obtain ⟨v, h1, h2⟩ := cxBin_sound (P := P) (w := w) (H := H) (show cxBin op a.1 a.2 b.1 b.2 = some (p, r) from h)
          exact ⟨v, h1, h2, by simp, by simp⟩
      | _ => simp [binP] at h
  | _ => simp [binP] at h
end Go.Ev

/- An executor for function bodies of the model over data, part PN: a statement whose order Go leaves open, where no operation changes what another one sees. Conditions: each operation's own. -/
import Derived.Test.YtndkapkejmkphaaDoorPM
import Derived.Orders
namespace Go.Ev
open Go.RowKit

def dstOf (ops : Array Oper) (i : Nat) : Option Nat := (ops[i]?).bind (·.dst)
def bound (e : Edge) : Bool := match e.ground with | .textOnly _ => false | .gcOnly _ => false | _ => true
def directDeps (o : Oper) : List Nat := (o.after.toList.filter bound).map (·.on)
def distinctN : List Nat → Bool
  | [] => true
  | x :: r => !r.any (Nat.beq x) && distinctN r
def allDsts (ops : Array Oper) : List Nat := ops.toList.filterMap (·.dst)
def flowBase (ops : Array Oper) (st : ST) : ST := { st with fr := st.fr.filter (fun q => !(allDsts ops).any (fun d => q.2.onSlot d || Nat.beq q.1 d)), kn := [] }
theorem Agree.trans {n : Nat} {V V1 V2 : Vn} (h : Agree n V V1) (k : Agree n V1 V2) : Agree n V V2 := ⟨h.hle.trans k.hle, fun i hi => ⟨(k.same i hi).1.trans (h.same i hi).1, (k.same i hi).2.trans (h.same i hi).2⟩⟩
section
variable {Γ : Ctx} {P : Program} {st : ST} {V : Vn} {a : Act} {w : World} {ops : Array Oper}
theorem flowBase_rel (r : Rel Γ st V a w) (ops : Array Oper) : Rel Γ (flowBase ops st) V a w :=
  (r.weaken (fr' := st.fr.filter _) (fun p hp => (List.mem_filter.1 hp).1)).marks _
theorem flowBase_wf (hwf : st.wf = true) : (flowBase ops st).wf = true := by
  simp only [ST.wf, Bool.and_eq_true] at hwf ⊢
  exact ⟨List.all_eq_true.2 fun p hp => List.all_eq_true.1 hwf.1 p (List.mem_filter.1 hp).1, hwf.2⟩
end
section
variable {Γ : Ctx} {P : Program} {f : Go.Sy.Md} {R : Ending → World → Prop} {st : ST} {V : Vn} {ops : Array Oper} {kk : List Item}
def leftOf (ops : Array Oper) (listed : Array Bool) : List Nat := (List.range ops.size).filter fun i => !listed.getD i true
theorem leftOf_set {listed : Array Bool} {i : Nat} (hs : listed.size = ops.size) (hi : i ∈ leftOf ops listed) : (leftOf ops (listed.setIfInBounds i true)).length < (leftOf ops listed).length := by
  have hi2 : i < ops.size := by have := (List.mem_filter.1 hi).1; simpa using this
  have hsub : leftOf ops (listed.setIfInBounds i true) = (leftOf ops listed).filter (fun x => decide (x ≠ i)) := by
    unfold leftOf
    rw [List.filter_filter]
    apply List.filter_congr
    intro x hx
    simp only [Array.getD_eq_getD_getElem?, Array.getElem?_setIfInBounds]
    by_cases e : i = x
    · subst e; simp [hs, hi2]
    · simp [e, Ne.symm e]
  rw [hsub]
  exact List.length_filter_lt_length_iff_exists.2 ⟨i, hi, by simp⟩
end
end Go.Ev

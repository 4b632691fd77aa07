/- An executor for function bodies of the model, part I: bodies by paths, the executor, and that it is sound. Conditions: those that its tree tells. -/
import Derived.Test.YtgoihhnfkoklpaaEngHc
namespace Go.Sy
open Go.RowKit

/-! ### one operation -/
/-- What must hold for a guard's slot to hold what is wanted. -/
def guardProp (st : ST) : Nat → Nat → Bool → Option Prop
  | 0, _, _ => none
  | n + 1, s, want => match lookup st.fr s with
    | some (.c (.val (.bool b))) => some (b = want)
    | some (.grd s0 w0 (.val (.bool b))) => (guardProp st n s0 w0).map fun p => p ∧ b = want
    | _ => none
def putOpt (st : ST) (d : Option Tmp) (sv : SV) : Option ST :=
  match d with
  | none => some st
  | some t => bif Nat.blt t st.n then some { st with fr := setSlot t sv st.fr } else none
def opVB (P : Program) (st : ST) (g : Option (Nat × Bool)) (op : Op) : Option (Option Prop × SV) :=
  match opV P st g op with
  | some r => some r
  | none => (opB P st g op).map fun sv => (none, sv)
/-- What is known of functions that only compute: of its arguments the condition and the result. -/
abbrev Tab := List (Nat × (List Value → Option (Option Prop × Value)))
def tabAt : Tab → Nat → List Value → Option (Option Prop × Value)
  | [], _, _ => none
  | e :: r, f, vs => bif Nat.beq e.1 f then e.2 vs else tabAt r f vs
/-- A function that only computes, called with these arguments, hands back v and leaves memory as it was. -/
def PureC (P : Program) (g : Nat) (vs : List Value) (v : Value) : Prop := ∀ w, Calls P g vs.toArray w fun e w' => e = .returned v ∧ Below w.heap.size w w'
def TabOk (P : Program) (tab : Tab) : Prop := ∀ e ∈ tab, ∀ vs p v, e.2 vs = some (p, v) → Holds p → PureC P e.1 vs v
def callOk (P : Program) (f : Nat) : Bool := match P.funcs[f]? with
  | some fn => !(fn.name == "runtime.NumGoroutine") && fn.body.isSome
  | none => false
def valsOf : List (Option SV) → Option (List Value)
  | [] => some []
  | x :: r => match x.bind SV.toVal, valsOf r with
    | some v, some l => some (v :: l)
    | _, _ => none
def opC (P : Program) (tab : Tab) (st : ST) (g : Option (Nat × Bool)) : Op → Option (Option Prop × Nat × List Value × Value)
  | .call { callee := .value (.func f), args := args, argTypes := _ } => match valsOf (args.toList.map (evalO st g)) with
    | some vs => match tabAt tab f vs with
      | some (p, v) => bif callOk P f then some (p, f, vs, v) else none
      | none => none
    | none => none
  | _ => none
def op1 (P : Program) (tab : Tab) (ops : Array Oper) (o : Oper) (st : ST) : Option (Option Prop × ST) :=
  match o.guard with
  | none => match opVB P st none o.op with
    | some (p, sv) => (putOpt st o.dst sv).map fun s => (p, s)
    | none => match opM P st o.op with
      | some (sv, ck') => (putOpt { st with ck := ck' } o.dst sv).map fun s => (none, s)
      | none => match opS P st o.op, o.dst with
        | some ck', none => some (none, { st with ck := ck' })
        | _, _ => match opC P tab st none o.op with
          | some (p, _, _, v) => (putOpt st o.dst (.c (.val v))).map fun s => (p, s)
          | none => match opX P st o.op with
            | some (p, sv, ck') => (putOpt { st with ck := ck' } o.dst sv).map fun s => (p, s)
            | none => none
  | some (j, want) => match (ops[j]?).bind (·.dst), o.dst with
    | some s, some d => match opVB P st (some (s, want)) o.op, guardProp st 8 s want with
      | some (p, .c v), some q => bif Nat.blt d st.n && !Nat.beq s d then some (p.map (fun p => q → p), { st with fr := setSlot d (.grd s want v) st.fr }) else none
      | _, some q => match opC P tab st (some (s, want)) o.op with
        | some (p, _, _, v) => bif Nat.blt d st.n && !Nat.beq s d then some (p.map (fun p => q → p), { st with fr := setSlot d (.grd s want (.val v)) st.fr }) else none
        | none => none
      | _, _ => none
    | _, _ => none

section
variable {P : Program} {w0 : World} {H : Nat → Option Obj} {st : ST} {σ : Nat → Nat} {ov : Nat → Value} {a : Act} {w : World}
theorem opVB_sound (r : Rel P w0 H st σ ov a w) {g : Option (Nat × Bool)} (hg : GuardOn a g)
    {o : Oper} {p : Option Prop} {sv : SV} (h : opVB P st g o.op = some (p, sv)) (hp : Holds p) : (execOp a.eval o).run P w = .ok (.value (sv.den σ ov)) w ∧ (∀ s b v, sv ≠ .grd s b v) := by
  unfold opVB at h
  split at h
  · rename_i r' h1
    simp only [Option.some.injEq] at h
    subst h
    exact opV_sound r hg h1 hp
  · simp only [Option.map_eq_some_iff, Prod.mk.injEq] at h
    obtain ⟨sv', h1, rfl, rfl⟩ := h
    exact opB_sound r hg h1
theorem slotOk_of_den {a' : Act} {d : Nat} {sv : SV} (hn : ∀ s b v, sv ≠ .grd s b v) (h : a'.tmps.getD d undef = sv.den σ ov) : SlotOk σ ov a' d sv := by
  cases sv with
  | grd s b v => exact absurd rfl (hn s b v)
  | c s => exact h
  | agg cs => exact h
  | fn f x y => exact h
theorem putOpt_sound (r : Rel P w0 H st σ ov a w) {d : Option Tmp} {sv : SV} {st' : ST} (h : putOpt st d sv = some st') (hn : ∀ s b v, sv ≠ .grd s b v) : Rel P w0 H st' σ ov (a.put d (sv.den σ ov)) w := by
  cases d with
  | none => simp only [putOpt, Option.some.injEq] at h; subst h; exact r
  | some t =>
    simp only [putOpt] at h
    cases hb : Nat.blt t st.n
    · rw [hb] at h; simp at h
    · rw [hb] at h
      simp only [cond_true, Option.some.injEq] at h
      subst h
      exact r.put t sv _ (Nat.le_of_ble_eq_true hb) fun a' _ h2 => slotOk_of_den hn h2
theorem guardProp_sound (r : Rel P w0 H st σ ov a w) : ∀ (n s : Nat) (want : Bool) (q : Prop), guardProp st n s want = some q → a.tmps.getD s undef = .bool want → q
  | 0, _, _, _, h, _ => by simp [guardProp] at h
  | n + 1, s, want, q, h, hs => by
    simp only [guardProp] at h
    split at h
    · rename_i b hl
      simp only [Option.some.injEq] at h; subst h
      have : a.tmps.getD s undef = .bool b := r.slots s _ (lookup_mem hl)
      rw [this] at hs; simpa using hs
    · rename_i s0 w0' b hl
      simp only [Option.map_eq_some_iff] at h
      obtain ⟨q', h1, rfl⟩ := h
      have hk : a.tmps.getD s undef = guardVal (a.tmps.getD s0 undef) w0' (.bool b) := r.slots s _ (lookup_mem hl)
      rw [hs] at hk
      cases hv : a.tmps.getD s0 undef with
      | bool b0 =>
        rw [hv] at hk
        simp only [guardVal] at hk
        cases hbb : (b0 == w0')
        · rw [hbb] at hk; simp [undef] at hk
        · rw [hbb] at hk
          simp only [cond_true, Value.bool.injEq] at hk
          have : b0 = w0' := by simpa using hbb
          exact ⟨guardProp_sound r n s0 w0' q' h1 (by rw [hv, this]), hk.symm⟩
      | _ => rw [hv] at hk; simp [guardVal, undef] at hk
    · simp at h

theorem valsOf_sound (r : Rel P w0 H st σ ov a w) {g : Option (Nat × Bool)} (hg : GuardOn a g) : ∀ (l : List Operand) (vs : List Value), valsOf (l.map (evalO st g)) = some vs → l.map a.eval = vs
  | [], vs, h => by simp [valsOf] at h; subst h; rfl
  | x :: l, vs, h => by
    simp only [List.map_cons, valsOf] at h
    split at h
    · rename_i v l' h1 h2
      simp only [Option.some.injEq] at h; subst h
      simp only [Option.bind_eq_some_iff] at h1
      obtain ⟨sv, h3, h4⟩ := h1
      simp only [List.map_cons]
      rw [(evalO_sound r hg h3).1, toVal_den h4, valsOf_sound r hg l l' h2]
    · simp at h
theorem tabAt_mem {tab : Tab} {f : Nat} {vs : List Value} {p : Option Prop} {v : Value} (h : tabAt tab f vs = some (p, v)) : ∃ e ∈ tab, e.1 = f ∧ e.2 vs = some (p, v) := by
  induction tab with
  | nil => simp [tabAt] at h
  | cons e r ih =>
    simp only [tabAt] at h
    cases hb : Nat.beq e.1 f
    · rw [hb] at h
      obtain ⟨e', h1, h2⟩ := ih h
      exact ⟨e', List.mem_cons_of_mem _ h1, h2⟩
    · rw [hb] at h
      exact ⟨e, List.mem_cons_self, Nat.eq_of_beq_eq_true hb, h⟩
theorem run_callFunc {g : Nat} {args : Array Value} (h : callOk P g = true) : (callFunc g args).run P w = .ok (.enter g args) w := by
  unfold callOk at h
  split at h
  · rename_i fn hf
    simp only [Bool.and_eq_true, Bool.not_eq_true'] at h
    have hb : fn.body.isNone = false := by cases hbb : fn.body <;> simp_all
    simp only [callFunc, Sem.run_bind, program, Sem.run, Result.andThen_ok, hf, h.1, Bool.false_eq_true, if_false, hb]
    rfl
  · simp at h
theorem run_call (r : Rel P w0 H st σ ov a w) {o : Oper} {c : Call} {g : Nat} {vs : List Value} (ho : o.op = .call c) (hc : c.callee = .value (.func g)) (hargs : c.args.toList.map a.eval = vs) (h : callOk P g = true) :
    (execOp a.eval o).run P w = .ok (.enter g vs.toArray) w := by
  obtain ⟨callee, args, ts⟩ := c
  simp only at hc hargs
  subst hc
  have hargs' : args.map a.eval = vs.toArray := by
    apply Array.toList_inj.1
    rw [Array.toList_map, hargs]
  simp only [execOp, ho, resolve, hargs', Act.eval, Deferred.ofValue, Sem.run_bind, run_pure', Result.andThen_ok, invoke]
  simp only [Array.empty_append, Array.append_empty]
  exact run_callFunc h
theorem opC_sound {tab : Tab} (ht : TabOk P tab) (r : Rel P w0 H st σ ov a w) {g : Option (Nat × Bool)} (hg : GuardOn a g) {o : Oper} {p : Option Prop} {f : Nat} {vs : List Value} {v : Value} (h : opC P tab st g o.op = some (p, f, vs, v)) (hp : Holds p) :
    (execOp a.eval o).run P w = .ok (.enter f vs.toArray) w ∧ PureC P f vs v := by
  unfold opC at h
  split at h
  · rename_i f' args ts hop
    split at h
    · rename_i vs' hv
      split at h
      · rename_i p' v' htab
        cases hb : callOk P f'
        · rw [hb] at h; simp at h
        · rw [hb] at h
          simp only [cond_true, Option.some.injEq, Prod.mk.injEq] at h
          obtain ⟨rfl, rfl, rfl, rfl⟩ := h
          obtain ⟨e, he, rfl, h2⟩ := tabAt_mem htab
          exact ⟨run_call r hop rfl (valsOf_sound r hg _ _ hv) hb, ht e he _ _ _ h2 hp⟩
      · simp at h
    · simp at h
  · simp at h
/-- Behind a call that leaves memory as it was. -/
theorem Rel.after (r : Rel P w0 H st σ ov a w) {w' : World} (hb : Below w.heap.size w w') : Rel P w0 H st σ ov a w' := by
  have hold : ∀ (b : Nat), b < w.heap.size → w'.heap[b]? = w.heap[b]? := hb.block
  refine { size := r.size, defers := r.defers, slots := r.slots, ext := r.ext.trans (hb.mono r.ext.size), imm := ?_, own := ?_, base := r.base, inj := r.inj }
  · intro k o hk
    have := r.imm k o hk
    rw [hold k (Array.getElem?_eq_some_iff.1 this).1]; exact this
  · intro i c hc
    exact Chunk.holds_kept (r.own i c hc) fun b hbb => hold b (Chunk.blk_lt (r.own i c hc) hbb)

theorem wanted_on {ops : Array Oper} {o : Oper} {j s : Nat} {want : Bool} (hg : o.guard = some (j, want)) (hs : (ops[j]?).bind (·.dst) = some s) (hon : a.tmps.getD s undef = .bool want) : Region.wanted o (yielded ops a.tmps) = true := by
  simp only [Region.wanted, hg]
  have : yielded ops a.tmps j = some want := by
    unfold yielded
    rw [hs]
    simp only [Option.bind_some]
    have : a.tmps[s]? = some (.bool want) := by
      rw [Array.getD_eq_getD_getElem?] at hon
      cases h0 : a.tmps[s]? with
      | none => rw [h0] at hon; simp [undef] at hon
      | some x => rw [h0] at hon; simpa using hon
    rw [this]
  rw [this]; simp
theorem wanted_off {ops : Array Oper} {o : Oper} {j s : Nat} {want : Bool} (hg : o.guard = some (j, want)) (hs : (ops[j]?).bind (·.dst) = some s) (hon : ¬ a.tmps.getD s undef = .bool want) : Region.wanted o (yielded ops a.tmps) = false := by
  simp only [Region.wanted, hg]
  have : yielded ops a.tmps j ≠ some want := by
    unfold yielded
    rw [hs]
    simp only [Option.bind_some]
    intro hc
    apply hon
    rw [Array.getD_eq_getD_getElem?]
    cases h0 : a.tmps[s]? with
    | none => rw [h0] at hc; simp at hc
    | some x =>
      rw [h0] at hc
      cases x <;> simp at hc
      subst hc
      rfl
  simpa using this
theorem guard_off {s : Nat} {want : Bool} {x : Value} (hon : ¬ a.tmps.getD s undef = .bool want) : undef = guardVal (a.tmps.getD s undef) want x := by
  cases hv0 : a.tmps.getD s undef with
  | bool b =>
    have hne : (b == want) = false := by
      cases hbw : (b == want)
      · rfl
      · exact absurd (by rw [hv0, (by simpa using hbw : b = want)]) hon
    simp only [guardVal, hne, cond_false]
  | _ => rfl

/-- One operation of a region, whatever stands behind it. -/
theorem opOne_sound {f : FuncId} {R : Ending → World → Prop} {tab : Tab} (ht : TabOk P tab) (r : Rel P w0 H st σ ov a w) {ops : Array Oper} {i : Nat} {o : Oper} (ho : ops[i]? = some o) {p : Option Prop} {st' : ST} (h : op1 P tab ops o st = some (p, st')) (hp : Holds p)
    {l : List Nat} {k : List Item} (hk : ∀ σ' ov' a' w', Rel P w0 H st' σ' ov' a' w' → Fin P f R (.inRegion ops l :: k) a' w') : Fin P f R (.inRegion ops (i :: l) :: k) a w := by
  unfold op1 at h
  split at h
  · rename_i hg
    have hw : Region.wanted o (yielded ops a.tmps) = true := by simp [Region.wanted, hg]
    split at h
    · rename_i p' sv hv
      simp only [Option.map_eq_some_iff, Prod.mk.injEq] at h
      obtain ⟨s, hs, rfl, rfl⟩ := h
      obtain ⟨h1, h2⟩ := opVB_sound r (g := none) trivial hv hp
      exact Fin.op_value ho hw h1 (hk _ _ _ _ (putOpt_sound r hs h2))
    · split at h
      · rename_i sv ck' hm
        simp only [Option.map_eq_some_iff, Prod.mk.injEq] at h
        obtain ⟨s, hs, rfl, rfl⟩ := h
        obtain ⟨w', σ', ov', h1, h2, r'⟩ := opM_sound r hm
        exact Fin.op_value ho hw h1 (hk _ _ _ _ (putOpt_sound r' hs h2))
      · split at h
        · rename_i ck' hs hd
          simp only [Option.some.injEq, Prod.mk.injEq] at h
          obtain ⟨rfl, rfl⟩ := h
          obtain ⟨w', h1, r'⟩ := opS_sound r hs
          refine Fin.op_skip ho hw h1 (hk σ ov _ _ ?_)
          rw [hd]; exact r'
        · split at h
          · rename_i p' g' vs v hc
            simp only [Option.map_eq_some_iff, Prod.mk.injEq] at h
            obtain ⟨s, hs, rfl, rfl⟩ := h
            obtain ⟨h1, h2⟩ := opC_sound ht r (g := none) trivial hc hp
            refine Fin.op_call ho hw h1 ((h2 w).mono fun e w2 hq => ⟨v, hq.1, ?_⟩)
            exact hk _ _ _ _ (putOpt_sound (r.after hq.2) hs (by simp))
          · split at h
            · rename_i p' sv ck' hm
              simp only [Option.map_eq_some_iff, Prod.mk.injEq] at h
              obtain ⟨s, hs, rfl, rfl⟩ := h
              obtain ⟨w', σ', ov', h1, h2, r'⟩ := opX_sound r hm hp
              exact Fin.op_value ho hw h1 (hk _ _ _ _ (putOpt_sound r' hs h2))
            · simp at h
  · rename_i j want hg
    split at h
    · rename_i s d hs hd
      split at h
      · rename_i p' v q hv hq
        cases hb : (Nat.blt d st.n && !Nat.beq s d)
        · rw [hb] at h; simp at h
        · rw [hb] at h
          simp only [cond_true, Option.some.injEq, Prod.mk.injEq] at h
          obtain ⟨rfl, rfl⟩ := h
          simp only [Bool.and_eq_true, Bool.not_eq_true'] at hb
          have hdn : d < st.n := Nat.le_of_ble_eq_true hb.1
          have hsd : s ≠ d := fun e => by rw [e] at hb; simp at hb
          by_cases hon : a.tmps.getD s undef = .bool want
          · obtain ⟨h1, _⟩ := opVB_sound r (g := some (s, want)) hon hv (by
              cases p' with
              | none => trivial
              | some p' => exact hp (guardProp_sound r 8 s want q hq hon))
            refine Fin.op_value ho (wanted_on hg hs hon) h1 ?_
            rw [hd]
            refine hk σ ov _ _ (r.put d (.grd s want v) _ hdn fun a' ha h2 => ?_)
            show a'.tmps.getD d undef = guardVal (a'.tmps.getD s undef) want (v.den σ ov)
            rw [h2, ha s hsd, hon]
            simp [guardVal, SV.den]
          · refine Fin.op_unwanted ho (wanted_off hg hs hon) ?_
            rw [hd]
            refine hk σ ov _ _ (r.put d (.grd s want v) _ hdn fun a' ha h2 => ?_)
            show a'.tmps.getD d undef = guardVal (a'.tmps.getD s undef) want (v.den σ ov)
            rw [h2, ha s hsd]
            exact guard_off hon
      · rename_i q hq _
        split at h
        · rename_i p' g' vs v hc
          cases hb : (Nat.blt d st.n && !Nat.beq s d)
          · rw [hb] at h; simp at h
          · rw [hb] at h
            simp only [cond_true, Option.some.injEq, Prod.mk.injEq] at h
            obtain ⟨rfl, rfl⟩ := h
            simp only [Bool.and_eq_true, Bool.not_eq_true'] at hb
            have hdn : d < st.n := Nat.le_of_ble_eq_true hb.1
            have hsd : s ≠ d := fun e => by rw [e] at hb; simp at hb
            by_cases hon : a.tmps.getD s undef = .bool want
            · obtain ⟨h1, h2⟩ := opC_sound ht r (g := some (s, want)) hon hc (by
                cases p' with
                | none => trivial
                | some p' => exact hp (guardProp_sound r 8 s want q hq hon))
              refine Fin.op_call ho (wanted_on hg hs hon) h1 ((h2 w).mono fun e w2 hq => ⟨v, hq.1, ?_⟩)
              rw [hd]
              refine hk σ ov _ _ ((r.after hq.2).put d (.grd s want (.val v)) _ hdn fun a' ha h3 => ?_)
              show a'.tmps.getD d undef = guardVal (a'.tmps.getD s undef) want v
              rw [h3, ha s hsd, hon]
              simp [guardVal]
            · refine Fin.op_unwanted ho (wanted_off hg hs hon) ?_
              rw [hd]
              refine hk σ ov _ _ (r.put d (.grd s want (.val v)) _ hdn fun a' ha h3 => ?_)
              show a'.tmps.getD d undef = guardVal (a'.tmps.getD s undef) want v
              rw [h3, ha s hsd]
              exact guard_off hon
        · simp at h
      · simp at h
    · simp at h
end

/-! ### the body by paths -/
/-- A part of a body: 0: the left, the first arm, the inside; 1: the right, the second arm; n + 2: what stands behind label n. -/
def sub : Code → List Nat → Code
  | c, [] => c
  | c, s :: p => sub (match c, s with
    | .seq a _, 0 => a
    | .seq _ b, 1 => b
    | .cond _ a _, 0 => a
    | .cond _ _ b, 1 => b
    | .block _ a, 0 => a
    | .loop a, 0 => a
    | .scope a, 0 => a
    | c, n + 2 => (findLabel c n).getD .skip
    | _, _ => .skip) p
theorem sub_append (c : Code) (p q : List Nat) : sub c (p ++ q) = sub (sub c p) q := by
  induction p generalizing c with
  | nil => simp [sub]
  | cons s p ih => simp only [List.cons_append, sub]; exact ih _
inductive PI where
  | code (p : List Nat)
  | inBlock (id : Nat)
  | inLoop (p : List Nat)
  | inScope (p : List Nat)
  | ops (p : List Nat) (i : Nat)
  | opl (p : List Nat) (l : List Nat)
def opsOf : Code → Array Oper
  | .region _ ops _ => ops
  | _ => #[]
def PI.den (root : Code) : PI → Item
  | .code p => .code (sub root p)
  | .inBlock i => .inBlock i
  | .inLoop p => .inLoop (sub root p)
  | .inScope p => .inScope (sub root p)
  | .ops p i => .inRegion (opsOf (sub root p)) (List.range' i ((opsOf (sub root p)).size - i))
  | .opl p l => .inRegion (opsOf (sub root p)) l
def exitPI (id : Nat) : List PI → Option (List PI)
  | .inBlock i :: k => bif Nat.beq i id then some k else exitPI id k
  | _ :: k => exitPI id k
  | [] => none
def gotoPI (root : Code) (l : Nat) : List PI → Option (List PI)
  | .inScope p :: k => match findLabel (sub root p) l with
    | some _ => some (.code (p ++ [l + 2]) :: .inScope p :: k)
    | none => gotoPI root l k
  | _ :: k => gotoPI root l k
  | [] => none
theorem exitPI_sound {root : Code} {id : Nat} : ∀ {k k' : List PI}, exitPI id k = some k' → exitTo id (k.map (PI.den root)) = some (k'.map (PI.den root))
  | [], _, h => by simp [exitPI] at h
  | x :: k, k', h => by
    cases x with
    | inBlock i =>
      simp only [exitPI] at h
      simp only [List.map_cons, PI.den, exitTo]
      cases hb : Nat.beq i id
      · rw [hb] at h
        simp only [cond_false] at h
        have : (i == id) = false := by
          cases hc : (i == id)
          · rfl
          · have e : i = id := by simpa using hc
            subst e; simp at hb
        simp only [this, Bool.false_eq_true, if_false]
        exact exitPI_sound h
      · rw [hb] at h
        simp only [cond_true, Option.some.injEq] at h
        have : (i == id) = true := by simpa using Nat.eq_of_beq_eq_true hb
        simp only [this, if_true, h]
    | _ => simp only [exitPI] at h; simp only [List.map_cons, PI.den, exitTo]; exact exitPI_sound h
theorem gotoPI_sound {root : Code} {l : Nat} : ∀ {k k' : List PI}, gotoPI root l k = some k' → gotoIn l (k.map (PI.den root)) = some (k'.map (PI.den root))
  | [], _, h => by simp [gotoPI] at h
  | x :: k, k', h => by
    cases x with
    | inScope p =>
      simp only [gotoPI] at h
      simp only [List.map_cons, PI.den, gotoIn]
      split at h
      · rename_i c hc
        simp only [Option.some.injEq] at h
        subst h
        simp only [hc, List.map_cons, PI.den, sub_append]
        simp [sub, hc]
      · rename_i hc
        simp only [hc]
        exact gotoPI_sound h
    | _ => simp only [gotoPI] at h; simp only [List.map_cons, PI.den, gotoIn]; exact gotoPI_sound h

inductive Tree where
  | ret (v : SV) (st : ST)
  | ite (b : Bool) (t e : Tree)
  | need (p : Prop) (t : Tree)
  | stop (todo : List PI) (st : ST)
def needO : Option Prop → Tree → Tree
  | none, t => t
  | some p, t => .need p t
/-- What a function hands back, of its frame. -/
def retSV (P : Program) (st : ST) : List ResultVar → Option (List SV)
  | [] => some []
  | .tmp t :: r => match evalO st none (.tmp t), retSV P st r with
    | some sv, some l => some (sv :: l)
    | _, _ => none
  | .cell t ty :: r => match evalO st none (.tmp t), retSV P st r with
    | some (.c (.loc i off)), some l => match fieldCells st i with
      | some cs => (partOf P ty cs off).map fun sv => sv :: l
      | none => none
    | _, _ => none
/-- Several results: a tuple of values. -/
def tupV (l : List SV) : Option SV :=
  match l with
  | [sv] => some sv
  | l => (toVals l).map fun vs => .c (.val (.tuple vs.toArray))
where toVals : List SV → Option (List Value)
  | [] => some []
  | sv :: r => match sv.toVal, toVals r with
    | some v, some l => some (v :: l)
    | _, _ => none
/-! which slots are still wanted: a weakening, so nothing hangs on its being exact -/
def opSlots (o : Oper) : List Nat := o.op.operands.toList.filterMap fun | .tmp t => some t | _ => none
def ins (x : Nat) (l : List Nat) : List Nat := bif l.any (Nat.beq x) then l else x :: l
def expOps (ops : Array Oper) : List Oper → List Nat × List Nat → List Nat × List Nat
  | [], r => r
  | o :: l, (e, k) =>
    let gs := (o.guard.bind fun j => (ops[j.1]?).bind (·.dst)).toList
    let e' := (opSlots o ++ gs).foldl (fun e x => bif k.any (Nat.beq x) then e else ins x e) e
    expOps ops l (e', match o.dst with | some d => ins d k | none => k)
/-- What a code reads ahead of writing it; what it surely writes (none: it does not come to its end). -/
def expC : Code → List Nat → List Nat → List Nat × Option (List Nat)
  | .region _ ops _, e, k => let r := expOps ops ops.toList (e, k); (r.1, some r.2)
  | .seq a b, e, k => match expC a e k with
    | (e', none) => (expC b e' k).1 |> fun e2 => (e2, none)
    | (e', some k') => expC b e' k'
  | .cond c a b, e, k =>
    let e0 := match c with | .tmp t => bif k.any (Nat.beq t) then e else ins t e | _ => e
    match expC a e0 k with
    | (e1, k1) => match expC b e1 k with
      | (e2, k2) => (e2, match k1, k2 with | none, y => y | some x, none => some x | some x, some y => some (x.filter fun z => y.any (Nat.beq z)))
  | .block _ a, e, k => match expC a e k with | (e', k') => (e', some (k'.getD k))
  | .loop a, e, k => match expC a e k with | (e', k') => (e', some (k'.getD k))
  | .scope a, e, k => match expC a e k with | (e', k') => (e', some (k'.getD k))
  | .rangeFunc (.tmp t) _ x y, e, k => match expC x (ins t e) k with | (e1, _) => (expC y e1 k).1 |> fun e2 => (e2, some k)
  | .exit _, e, _ => (e, none)
  | .goto _, e, _ => (e, none)
  | .ret, e, _ => (e, none)
  | _, e, k => (e, some k)
def expT (root : Code) : List PI → List Nat → List Nat → List Nat
  | [], e, _ => e
  | .code p :: r, e, k => match expC (sub root p) e k with | (e', k') => expT root r e' (k'.getD k)
  | .ops p i :: r, e, k => match expOps (opsOf (sub root p)) ((opsOf (sub root p)).toList.drop i) (e, k) with | (e', k') => expT root r e' k'
  | .opl p _ :: r, e, k => match expOps (opsOf (sub root p)) (opsOf (sub root p)).toList (e, k) with | (e', k') => expT root r e' k'
  | .inLoop p :: r, e, k => match expC (sub root p) e k with | (e', _) => expT root r e' k
  | .inScope p :: r, e, k => match expC (sub root p) e [] with | (e', _) => expT root r e' k
  | .inBlock _ :: r, e, k => expT root r e k
def resSlots (fn : Func) : List Nat := fn.results.toList.map fun | .tmp t => t | .cell t _ => t
/-- The frame without what nobody reads any more; chunks that nobody leads to are let go. -/
def grdOf : SV → List Nat
  | .grd s _ _ => [s]
  | _ => []
def prune (fn : Func) (root : Code) (todo : List PI) (st : ST) : ST :=
  let e := (resSlots fn).foldl (fun e x => ins x e) (expT root todo [] [])
  gc { st with fr := st.fr.filter fun p => e.any (Nat.beq p.1), kn := st.kn.filter fun x => e.any (Nat.beq x) }
def refineSlot (c : Nat) (b : Bool) (fr : List (Nat × SV)) : List (Nat × SV) := fr.map fun p => bif Nat.beq p.1 c then (p.1, .c (.val (.bool b))) else p
/-- Which slots hold a truth that is written out: a mark alone. -/
def known (o : Oper) (st : ST) : ST :=
  match o.dst with
  | none => st
  | some d =>
    let l := st.kn.filter fun x => !Nat.beq x d
    { st with kn := match o.op with
      | .move (.const (.bool _)) | .assign (.const (.bool _)) => d :: l
      | .move (.tmp t) | .assign (.tmp t) => bif st.kn.any (Nat.beq t) then d :: l else l
      | _ => l }
def retST (v : SV) (st : ST) : ST := { st with fr := [], kn := [], ck := match v with | .c (.val _) => [] | _ => st.ck }
def exec (P : Program) (tab : Tab) (fn : Func) (root : Code) : Nat → List PI → ST → Tree
  | 0, todo, st => .stop todo st
  | n + 1, todo, st =>
    match todo with
    | [] => match (retSV P st fn.results.toList).bind tupV with
      | some v => .ret v (retST v st)
      | none => .stop todo st
    | .inBlock _ :: k => exec P tab fn root n k st
    | .inScope _ :: k => exec P tab fn root n k st
    | .inLoop p :: k => .stop (.code p :: .inLoop p :: k) (prune fn root (.code p :: .inLoop p :: k) st)
    | .ops p i :: k => match (opsOf (sub root p))[i]? with
      | none => exec P tab fn root n k st
      | some o => match op1 P tab (opsOf (sub root p)) o st with
        | some (q, st') => needO q (exec P tab fn root n (.ops p (i + 1) :: k) (known o st'))
        | none => .stop todo (prune fn root todo st)
    | .opl p l :: k => match l with
      | [] => exec P tab fn root n k st
      | i :: l => match (opsOf (sub root p))[i]? with
        | none => .stop todo st
        | some o => match op1 P tab (opsOf (sub root p)) o st with
          | some (q, st') => needO q (exec P tab fn root n (.opl p l :: k) (known o st'))
          | none => .stop todo (prune fn root todo st)
    | .code p :: k => match sub root p with
      | .ret => match (retSV P st fn.results.toList).bind tupV with
        | some v => .ret v (retST v st)
        | none => .stop todo st
      | .skip => exec P tab fn root n k st
      | .label _ => exec P tab fn root n k st
      | .seq _ _ => exec P tab fn root n (.code (p ++ [0]) :: .code (p ++ [1]) :: k) st
      | .cond c _ _ => match evalO st none c with
        | some (.c (.val (.bool b))) => match c with
          | .tmp t => bif st.kn.any (Nat.beq t) then (match b with | true => exec P tab fn root n (.code (p ++ [0]) :: k) st | false => exec P tab fn root n (.code (p ++ [1]) :: k) st)
            else .ite b (exec P tab fn root n (.code (p ++ [0]) :: k) { st with fr := refineSlot t true st.fr, kn := t :: st.kn }) (exec P tab fn root n (.code (p ++ [1]) :: k) { st with fr := refineSlot t false st.fr, kn := t :: st.kn })
          | _ => .ite b (exec P tab fn root n (.code (p ++ [0]) :: k) st) (exec P tab fn root n (.code (p ++ [1]) :: k) st)
        | _ => .stop todo st
      | .block id _ => exec P tab fn root n (.code (p ++ [0]) :: .inBlock id :: k) st
      | .scope _ => exec P tab fn root n (.code (p ++ [0]) :: .inScope (p ++ [0]) :: k) st
      | .loop _ => .stop (.code (p ++ [0]) :: .inLoop (p ++ [0]) :: k) (prune fn root (.code (p ++ [0]) :: .inLoop (p ++ [0]) :: k) st)
      | .exit id => match exitPI id k with
        | some k' => exec P tab fn root n k' st
        | none => .stop todo st
      | .goto l => match gotoPI root l k with
        | some k' => .stop k' (prune fn root k' st)
        | none => .stop todo st
      | .region _ _ false => exec P tab fn root n (.ops p 0 :: k) st
      | _ => .stop todo (prune fn root todo st)

/-- The rest of a call comes to an end that meets R, whatever memory is like within what the state says. -/
def J (P : Program) (f : FuncId) (root : Code) (R : Ending → World → Prop) (w0 : World) (H : Nat → Option Obj) (todo : List PI) (st : ST) : Prop :=
  ∀ σ ov a w, Rel P w0 H st σ ov a w → Fin P f R (todo.map (PI.den root)) a w
def Tree.J (P : Program) (f : FuncId) (root : Code) (R : Ending → World → Prop) (w0 : World) (H : Nat → Option Obj) : Tree → Prop
  | .ret v st => ∀ σ ov a w, Rel P w0 H st σ ov a w → R (.returned (v.den σ ov)) w
  | .ite b t e => (b = true → t.J P f root R w0 H) ∧ (b = false → e.J P f root R w0 H)
  | .need p t => p ∧ t.J P f root R w0 H
  | .stop todo st => Sy.J P f root R w0 H todo st

section
variable {P : Program} {w0 : World} {H : Nat → Option Obj} {f : FuncId} {fn : Func} {root : Code} {R : Ending → World → Prop}
theorem needO_J {q : Option Prop} {t : Tree} (h : (needO q t).J P f root R w0 H) : Holds q ∧ t.J P f root R w0 H := by
  cases q with
  | none => exact ⟨trivial, h⟩
  | some p => exact h
def resF (tmps : Array Value) : ResultVar → Sem Value
  | .tmp t => pure (tmps.getD t undef)
  | .cell x t => do loadVar t (← asAddr (tmps.getD x undef))
theorem run_asAddr {w : World} (x : Addr) : (asAddr (.pointer (some x))).run P w = .ok x w := rfl
theorem run_results {st : ST} {σ : Nat → Nat} {ov : Nat → Value} {a : Act} {w : World} (r : Rel P w0 H st σ ov a w) : ∀ (l : List ResultVar) (svs : List SV), retSV P st l = some svs →
    (l.mapM (resF a.tmps)).run P w = .ok (svs.map (SV.den σ ov)) w
  | [], svs, h => by simp [retSV] at h; subst h; rfl
  | .tmp t :: l, svs, h => by
    simp only [retSV] at h
    split at h
    · rename_i sv l' h1 h2
      simp only [Option.some.injEq] at h; subst h
      have e1 : a.tmps.getD t undef = sv.den σ ov := (evalO_sound r (g := none) trivial h1).1
      simp only [List.mapM_cons, resF, Sem.run_bind, run_pure', Result.andThen_ok, run_results r l l' h2, e1, List.map_cons]
    · simp at h
  | .cell t ty :: l, svs, h => by
    simp only [retSV] at h
    split at h
    · rename_i i off l' h1 h2
      split at h
      · rename_i cs hc
        simp only [Option.map_eq_some_iff] at h
        obtain ⟨sv, hv, rfl⟩ := h
        have e1 : a.tmps.getD t undef = .pointer (some ⟨σ i, off, none⟩) := (evalO_sound r (g := none) trivial h1).1
        unfold fieldCells at hc
        split at hc
        · rename_i cs' e hck
          simp only [Option.some.injEq] at hc
          subst hc
          have hl := (run_loadVar (P := P) (σ := σ) (ov := ov) (r.own i _ hck) rfl hv).1
          simp only [List.mapM_cons, resF, Sem.run_bind, e1, run_asAddr, run_pure', Result.andThen_ok, hl, run_results r l l' h2, List.map_cons]
        · simp at hc
      · simp at h
    · simp at h
theorem toVals_den {σ : Nat → Nat} {ov : Nat → Value} : ∀ {l : List SV} {vs : List Value}, tupV.toVals l = some vs → l.map (SV.den σ ov) = vs
  | [], vs, h => by simp [tupV.toVals] at h; subst h; rfl
  | sv :: l, vs, h => by
    simp only [tupV.toVals] at h
    split at h
    · rename_i v l' h1 h2
      simp only [Option.some.injEq] at h; subst h
      simp only [List.map_cons, toVal_den h1, toVals_den h2]
    · simp at h
theorem run_ret {st : ST} {σ : Nat → Nat} {ov : Nat → Value} {a : Act} {w : World} (r : Rel P w0 H st σ ov a w) {v : SV} (h : (retSV P st fn.results.toList).bind tupV = some v) :
    (results fn a.tmps).run P w = .ok (v.den σ ov) w := by
  simp only [Option.bind_eq_some_iff] at h
  obtain ⟨svs, h1, h2⟩ := h
  have hr := run_results r _ _ h1
  have hres : results fn a.tmps = (do let vs ← fn.results.mapM (resF a.tmps); pure (if h : vs.size = 1 then vs[0] else .tuple vs)) := rfl
  rw [hres, Array.mapM_eq_mapM_toList]
  simp only [map_eq_pure_bind, Sem.run_bind]
  rw [hr]
  simp only [Result.andThen_ok, run_pure']
  unfold tupV at h2
  split at h2
  · rename_i sv
    simp only [Option.some.injEq] at h2; subst h2
    simp
  · rename_i hne
    simp only [Option.map_eq_some_iff] at h2
    obtain ⟨vs, h3, rfl⟩ := h2
    have h4 := toVals_den (σ := σ) (ov := ov) h3
    rw [h4]
    simp only [SV.den, SC.den]
    rw [dif_neg]
    intro hsz
    have : svs.length = 1 := by rw [← h4] at hsz; simpa using hsz
    match svs, this with
    | [x], _ => exact hne x rfl
theorem Rel.marks {st : ST} {σ : Nat → Nat} {ov : Nat → Value} {a : Act} {w : World} (r : Rel P w0 H st σ ov a w) (kn : List Nat) : Rel P w0 H { st with kn := kn } σ ov a w :=
  { size := r.size, defers := r.defers, slots := r.slots, ext := r.ext, imm := r.imm, own := r.own, base := r.base, inj := r.inj }
theorem Rel.bare {v : SV} {st : ST} {σ : Nat → Nat} {ov : Nat → Value} {a : Act} {w : World} (r : Rel P w0 H st σ ov a w) : Rel P w0 H (retST v st) σ ov a w := by
  have h := (r.weaken (fr' := []) (by simp)).marks []
  unfold retST
  split
  · exact { size := h.size, defers := h.defers, slots := h.slots, ext := h.ext, imm := h.imm, own := fun i c hc => by simp at hc, base := fun i c b hc => by simp at hc, inj := fun i j c d b hc => by simp at hc }
  · exact h
theorem Rel.prune {fn : Func} {root : Code} {todo : List PI} {st : ST} {σ : Nat → Nat} {ov : Nat → Value} {a : Act} {w : World} (r : Rel P w0 H st σ ov a w) : ∃ σ' ov', Rel P w0 H (prune fn root todo st) σ' ov' a w :=
  ((r.weaken (fr' := st.fr.filter _) (fun p hp => (List.mem_filter.1 hp).1)).marks _).gc
theorem Rel.known {o : Oper} {st : ST} {σ : Nat → Nat} {ov : Nat → Value} {a : Act} {w : World} (r : Rel P w0 H st σ ov a w) : Rel P w0 H (known o st) σ ov a w := by
  unfold Sy.known; split
  · exact r
  · exact r.marks _
theorem Rel.refineSlot {st : ST} {σ : Nat → Nat} {ov : Nat → Value} {a : Act} {w : World} (r : Rel P w0 H st σ ov a w) {c : Nat} {b : Bool} (hb : a.tmps.getD c undef = .bool b) : Rel P w0 H { st with fr := refineSlot c b st.fr } σ ov a w := by
  refine { size := r.size, defers := r.defers, slots := ?_, ext := r.ext, imm := r.imm, own := r.own, base := r.base, inj := r.inj }
  intro t sv hm
  obtain ⟨⟨t', sv'⟩, h1, h2⟩ := List.mem_map.1 hm
  cases hbb : Nat.beq t' c
  · rw [hbb] at h2
    simp only [cond_false, Prod.mk.injEq] at h2
    obtain ⟨rfl, rfl⟩ := h2
    exact r.slots _ _ h1
  · rw [hbb] at h2
    simp only [cond_true, Prod.mk.injEq] at h2
    obtain ⟨rfl, rfl⟩ := h2
    rw [Nat.eq_of_beq_eq_true hbb]
    exact hb
theorem exec_sound {tab : Tab} (ht : TabOk P tab) (hf : P.funcs[f]? = some fn) : ∀ (n : Nat) (todo : List PI) (st : ST), (exec P tab fn root n todo st).J P f root R w0 H → J P f root R w0 H todo st
  | 0, todo, st, h => h
  | n + 1, todo, st, h => by
    intro σ ov a w r
    unfold exec at h
    split at h
    · split at h
      · rename_i v hv
        exact Fin.end hf r.defers (run_ret r hv) (h σ ov a w r.bare)
      · exact h σ ov a w r
    · exact Fin.inBlock (exec_sound ht hf n _ st h σ ov a w r)
    · exact Fin.inScope (exec_sound ht hf n _ st h σ ov a w r)
    · obtain ⟨σ', ov', r'⟩ := r.prune (fn := fn) (root := root)
      exact Fin.inLoop (h _ _ a w r')
    · rename_i p i k
      split at h
      · rename_i hn
        have hz : (opsOf (sub root p)).size - i = 0 := by
          have := Array.getElem?_eq_none_iff.1 hn; omega
        simp only [List.map_cons, PI.den, hz, List.range'_zero]
        exact Fin.region_end (exec_sound ht hf n _ st h σ ov a w r)
      · rename_i o ho
        split at h
        · rename_i q st' hq
          obtain ⟨hqp, hj⟩ := needO_J h
          have hi : i < (opsOf (sub root p)).size := (Array.getElem?_eq_some_iff.1 ho).1
          have hs : (opsOf (sub root p)).size - i = ((opsOf (sub root p)).size - (i + 1)) + 1 := by omega
          simp only [List.map_cons, PI.den]
          rw [hs, List.range'_succ]
          exact opOne_sound ht r ho hq hqp fun σ' ov' a' w' r' => exec_sound ht hf n (.ops p (i + 1) :: k) _ hj σ' ov' a' w' r'.known
        · obtain ⟨σ', ov', r'⟩ := r.prune (fn := fn) (root := root)
          exact h _ _ a w r'
    · rename_i p l k
      split at h
      · exact Fin.region_end (exec_sound ht hf n _ st h σ ov a w r)
      · rename_i i l
        split at h
        · exact h σ ov a w r
        · rename_i o ho
          split at h
          · rename_i q st' hq
            obtain ⟨hqp, hj⟩ := needO_J h
            exact opOne_sound ht r ho hq hqp fun σ' ov' a' w' r' => exec_sound ht hf n (.opl p l :: k) _ hj σ' ov' a' w' r'.known
          · obtain ⟨σ', ov', r'⟩ := r.prune (fn := fn) (root := root)
            exact h _ _ a w r'
    · rename_i p k
      simp only [List.map_cons, PI.den]
      split at h
      · rename_i hc
        rw [hc]
        split at h
        · rename_i v hv
          exact Fin.ret hf r.defers (run_ret r hv) (h σ ov a w r.bare)
        · have := h σ ov a w r
          simpa only [List.map_cons, PI.den, hc] using this
      · rename_i hc; rw [hc]; exact Fin.skip (exec_sound ht hf n _ st h σ ov a w r)
      · rename_i l hc; rw [hc]; exact Fin.label (exec_sound ht hf n _ st h σ ov a w r)
      · rename_i x y hc
        rw [hc]
        have := exec_sound ht hf n _ st h σ ov a w r
        simp only [List.map_cons, PI.den, sub_append, hc] at this
        exact Fin.seq this
      · rename_i c x y hc
        rw [hc]
        split at h
        · rename_i b hb
          have e1 : a.eval c = .bool b := (evalO_sound r (g := none) trivial hb).1
          refine Fin.cond e1 ?_
          have go : ∀ (st1 : ST) (j : Nat) (c' : Code), sub (sub root p) [j] = c' → Rel P w0 H st1 σ ov a w → (exec P tab fn root n (.code (p ++ [j]) :: k) st1).J P f root R w0 H → Fin P f R (.code c' :: k.map (PI.den root)) a w := by
            intro st1 j c' hc' r1 hj
            have := exec_sound ht hf n _ st1 hj σ ov a w r1
            simp only [List.map_cons, PI.den, sub_append, hc'] at this
            exact this
          have s0 : sub (sub root p) [0] = x := by rw [hc]; rfl
          have s1 : sub (sub root p) [1] = y := by rw [hc]; rfl
          split at h
          · rename_i t
            have e2 : a.tmps.getD t undef = .bool b := e1
            cases hkn : st.kn.any (Nat.beq t)
            · rw [hkn] at h
              simp only [cond_false] at h
              cases b
              · exact go _ 1 y s1 ((r.refineSlot e2).marks _) (h.2 rfl)
              · exact go _ 0 x s0 ((r.refineSlot e2).marks _) (h.1 rfl)
            · rw [hkn] at h
              simp only [cond_true] at h
              cases b
              · exact go _ 1 y s1 r h
              · exact go _ 0 x s0 r h
          · cases b
            · exact go _ 1 y s1 r (h.2 rfl)
            · exact go _ 0 x s0 r (h.1 rfl)
        · have := h σ ov a w r
          simpa only [List.map_cons, PI.den, hc] using this
      · rename_i id x hc
        rw [hc]
        have := exec_sound ht hf n _ st h σ ov a w r
        simp only [List.map_cons, PI.den, sub_append, hc] at this
        exact Fin.block this
      · rename_i x hc
        rw [hc]
        have := exec_sound ht hf n _ st h σ ov a w r
        simp only [List.map_cons, PI.den, sub_append, hc] at this
        exact Fin.scope this
      · rename_i x hc
        rw [hc]
        obtain ⟨σ', ov', r'⟩ := r.prune (fn := fn) (root := root)
        have := h _ _ a w r'
        simp only [List.map_cons, PI.den, sub_append, hc] at this
        exact Fin.loop this
      · rename_i id hc
        rw [hc]
        split at h
        · rename_i k' hk
          exact Fin.exit (exitPI_sound hk) (exec_sound ht hf n _ st h σ ov a w r)
        · have := h σ ov a w r
          simpa only [List.map_cons, PI.den, hc] using this
      · rename_i l hc
        rw [hc]
        split at h
        · rename_i k' hk
          obtain ⟨σ', ov', r'⟩ := r.prune (fn := fn) (root := root)
          exact Fin.goto (gotoPI_sound hk) (h _ _ a w r')
        · have := h σ ov a w r
          simpa only [List.map_cons, PI.den, hc] using this
      · rename_i id ops hc
        rw [hc]
        refine Fin.region ?_
        have := exec_sound ht hf n _ st h σ ov a w r
        simp only [List.map_cons, PI.den, hc, opsOf, Nat.sub_zero] at this
        rw [List.range_eq_range']
        exact this
      · obtain ⟨σ', ov', r'⟩ := r.prune (fn := fn) (root := root)
        have := h _ _ a w r'
        simpa only [List.map_cons, PI.den] using this
end
end Go.Sy

/- An executor for function bodies of the model over data, part PM: one operation, whichever. Conditions: each operation's own, told as a proposition. -/
import Derived.Test.YtndkapkejmkphaaDoorPS
namespace Go.Ev
open Go.RowKit

def guardProp (st : ST) : Nat → Nat → Bool → Option Prop
  | 0, _, _ => none
  | n + 1, s, want => match lookup st.fr s with
    | some (.x (.c (.pd (.bool b)))) => some (b = want)
    | some (.grd s0 w0 (.c (.pd (.bool b)))) => (guardProp st n s0 w0).map fun p => p ∧ b = want
    | _ => none
def putOpt (st : ST) (d : Option Tmp) (sv : SV) : Option ST :=
  match d with
  | none => some st
  | some t => bif Nat.blt t st.n then some { st with fr := setSlot t sv st.fr } else none
def opVB (P : Program) (st : ST) (g : Option (Nat × Bool)) (op : Op) : Option (Option Prop × SX) :=
  match opV P st g op with
  | some r => some r
  | none => (opB P st g op).map fun sx => (none, sx)
def opRefs (st : ST) (op : Op) : List Nat := op.operands.toList.flatMap fun x => match evalO st none x with | some sx => sx.refs | none => []
def op1a (P : Program) (cfg : Cfg) (o : Oper) (st : ST) : Option (Option Prop × ST) :=
  match opVB P st none o.op with
  | some (p, sx) => (putOpt st o.dst (.x sx)).map fun s => (p, s)
  | none => match opM P cfg.tys st o.op with
    | some (sx, ck') => (putOpt { st with ck := ck' } o.dst (.x sx)).map fun s => (none, s)
    | none => match opS P st o.op, o.dst with
      | some (p, ck'), none => some (p, { st with ck := ck' })
      | _, _ => match opX P st o.op with
        | some (p, sx, ck') => (putOpt { st with ck := ck' } o.dst (.x sx)).map fun s => (p, s)
        | none => match callee P cfg.tys st none o.op with
          | some (f, args) => match goA P cfg.tab st f args with
            | some (p, ret, ck') => (putOpt { st with ck := ck' } o.dst ret).map fun s => (p, s)
            | none => match goB P cfg st f args with
              | some (p, ret) => (putOpt st o.dst ret).map fun s => (p, s)
              | none => none
          | none => none
def op1g (P : Program) (cfg : Cfg) (ops : Array Oper) (o : Oper) (j : Nat) (want : Bool) (st : ST) : Option (Option Prop × ST) :=
  match (ops[j]?).bind (·.dst), o.dst with
  | some s, some d => match guardProp st 8 s want with
    | some q => bif Nat.blt d st.n && !Nat.beq s d then
        match opVB P st (some (s, want)) o.op with
        | some (p, v) => some (p.map (fun p => q → p), { st with fr := setSlot d (.grd s want v) st.fr })
        | none => match callee P cfg.tys st (some (s, want)) o.op with
          | some (f, args) => match goB P cfg st f args with
            | some (p, .x v) => some (p.map (fun p => q → p), { st with fr := setSlot d (.grd s want v) st.fr })
            | _ => none
          | none => none
      else none
    | none => none
  | _, _ => none
def opT (st : ST) : Op → Option (List SX)
  | .move x => evalT st x
  | .assign x => evalT st x
  | _ => none
def op1 (P : Program) (cfg : Cfg) (ops : Array Oper) (o : Oper) (st : ST) : Option (Option Prop × ST) :=
  match o.guard with
  | none => match op1a P cfg o st with
    | some r => some r
    | none => match opT st o.op with
      | some l => (putOpt st o.dst (.tup l)).map fun s => (none, s)
      | none => match opC st o.op with
        | some sx => (putOpt st o.dst (.x sx)).map fun s => (none, s)
        | none => match frzs cfg.tys st (order st.ck (opRefs st o.op)) with
          | some st' => op1a P cfg o st'
          | none => none
  | some (j, want) => op1g P cfg ops o j want st

section
variable {Γ : Ctx} {P : Program} {cfg : Cfg} {st : ST} {V : Vn} {a : Act} {w : World}
theorem opVB_sound (r : Rel Γ st V a w) {g : Option (Nat × Bool)} (hg : GuardOn a g)
    {o : Oper} {p : Option Prop} {sx : SX} (h : opVB P st g o.op = some (p, sx)) (hp : Holds p) : ∃ v, (execOp a.eval o).run P w = .ok (.value v) w ∧ sx.R V v := by
  unfold opVB at h
  split at h
  · rename_i r' h1
    simp only [Option.some.injEq] at h
    subst h
    exact opV_sound r hg h1 hp
  · simp only [Option.map_eq_some_iff, Prod.mk.injEq] at h
    obtain ⟨sv', h1, rfl, rfl⟩ := h
    exact opB_sound r hg h1
theorem slotOk_of_R {a' : Act} {d : Nat} {sv : SV} {v : Value} (h : sv.R V v) (hv : a'.tmps.getD d undef = v) : SlotOk V a' d sv := by
  cases sv with
  | x s => show s.R V _; rw [hv]; exact h
  | tup l => show ∃ us, a'.tmps.getD d undef = _ ∧ _; rw [hv]; exact h
  | grd s b v => exact h.elim
theorem putOpt_sound (r : Rel Γ st V a w) {d : Option Tmp} {sv : SV} {st' : ST} (h : putOpt st d sv = some st') {v : Value} (hv : sv.R V v) : Rel Γ st' V (a.put d v) w := by
  cases d with
  | none => simp only [putOpt, Option.some.injEq] at h; subst h; exact r
  | some t =>
    simp only [putOpt] at h
    cases hb : Nat.blt t st.n
    · rw [hb] at h; simp at h
    · rw [hb] at h
      simp only [cond_true, Option.some.injEq] at h
      subst h
      exact r.put t sv _ (Nat.le_of_ble_eq_true hb) fun a' _ h2 => slotOk_of_R hv h2
theorem guardProp_sound (r : Rel Γ st V a w) : ∀ (n s : Nat) (want : Bool) (q : Prop), guardProp st n s want = some q → a.tmps.getD s undef = .bool want → q
  | 0, _, _, _, h, _ => by simp [guardProp] at h
  | n + 1, s, want, q, h, hs => by
    simp only [guardProp] at h
    split at h
    · rename_i b hl
      simp only [Option.some.injEq] at h; subst h
      have h1 : SX.R V (.c (.pd (.bool b))) (a.tmps.getD s undef) := r.slots s _ (lookup_mem hl)
      rw [hs] at h1
      cases h1
      rfl
    · rename_i s0 w0' b hl
      simp only [Option.map_eq_some_iff] at h
      obtain ⟨q', h1, rfl⟩ := h
      have hk := r.slots s _ (lookup_mem hl)
      by_cases hon : a.tmps.getD s0 undef = .bool w0'
      · have h2 := hk.1 hon
        rw [hs] at h2
        cases h2
        exact ⟨guardProp_sound r n s0 w0' q' h1 hon, rfl⟩
      · have h2 := hk.2 hon
        rw [hs] at h2
        simp [undef] at h2
    · simp at h
theorem wanted_on {ops : Array Oper} {o : Oper} {j s : Nat} {want : Bool} (hg : o.guard = some (j, want)) (hs : (ops[j]?).bind (·.dst) = some s) (hon : a.tmps.getD s undef = .bool want) : Region.wanted o (yielded ops a.tmps) = true := by
  simp only [Region.wanted, hg]
  have : yielded ops a.tmps j = some want := by
    unfold yielded
    rw [hs]
    simp only [Option.bind_some]
    have : a.tmps[s]? = some (.bool want) := by
      rw [Array.getD_eq_getD_getElem?] at hon
      cases h0 : a.tmps[s]? with
      | none => rw [h0] at hon; simp [undef] at hon
      | some x => rw [h0] at hon; simpa using hon
    rw [this]
  rw [this]; simp
theorem wanted_off {ops : Array Oper} {o : Oper} {j s : Nat} {want : Bool} (hg : o.guard = some (j, want)) (hs : (ops[j]?).bind (·.dst) = some s) (hon : ¬ a.tmps.getD s undef = .bool want) : Region.wanted o (yielded ops a.tmps) = false := by
  simp only [Region.wanted, hg]
  have : yielded ops a.tmps j ≠ some want := by
    unfold yielded
    rw [hs]
    simp only [Option.bind_some]
    intro hc
    apply hon
    rw [Array.getD_eq_getD_getElem?]
    cases h0 : a.tmps[s]? with
    | none => rw [h0] at hc; simp at hc
    | some x =>
      rw [h0] at hc
      cases x <;> simp at hc
      subst hc
      rfl
  simpa using this
theorem wanted_none {o : Oper} {ops : Array Oper} (h : o.guard = none) : Region.wanted o (yielded ops a.tmps) = true := by simp [Region.wanted, h]
theorem Rel.after (r : Rel Γ st V a w) {w' : World} {V' : Vn} {ck' : List Chunk} (hwf : st.wf = true) (hag : Agree st.ck.length V V') (hw : WOk Γ ck' V' w') (hl : st.ck.length ≤ ck'.length) : Rel Γ { st with ck := ck' } V' a w' := r.turn hwf hag hw hl
theorem goA_wf {f : Nat} {args : List SX} {p : Option Prop} {ret : SV} {ck' : List Chunk} (h : goA P cfg.tab st f args = some (p, ret, ck')) : st.wf = true ∧ st.ck.length ≤ ck'.length := by
  unfold goA at h
  simp only at h
  split at h
  · rename_i ck0 hpk
    cases hb : (incr (reachOf st.ck (args.flatMap SX.refs)) && within (reachOf st.ck (args.flatMap SX.refs)) (args.flatMap SX.refs) && within (reachOf st.ck (args.flatMap SX.refs)) (ck0.flatMap Chunk.refs) && callOk P f && st.wf)
    · rw [hb] at h; simp at h
    · rw [hb] at h
      simp only [cond_true] at h
      simp only [Bool.and_eq_true] at hb
      split at h
      · rename_i p' ret' ck2 htab
        cases hl : (Nat.ble (reachOf st.ck (args.flatMap SX.refs)).length ck2.length && notGrd ret')
        · rw [hl] at h; simp at h
        · rw [hl] at h
          simp only [cond_true, Option.some.injEq, Prod.mk.injEq] at h
          obtain ⟨_, _, rfl⟩ := h
          exact ⟨hb.2, by rw [List.length_append, putBack_length]; omega⟩
      · simp at h
  · simp at h
theorem goA_ok {f : Nat} {args : List SX} {p : Option Prop} {ret : SV} {ck' : List Chunk} (hA : goA P cfg.tab st f args = some (p, ret, ck')) : callOk P f = true := by
  unfold goA at hA
  simp only at hA
  split at hA
  · rename_i ck0 hpk
    cases hb : (incr (reachOf st.ck (args.flatMap SX.refs)) && within (reachOf st.ck (args.flatMap SX.refs)) (args.flatMap SX.refs) && within (reachOf st.ck (args.flatMap SX.refs)) (ck0.flatMap Chunk.refs) && callOk P f && st.wf)
    · rw [hb] at hA; simp at hA
    · simp only [Bool.and_eq_true] at hb; exact hb.1.2
  · simp at hA
theorem goB_ok {f : Nat} {args : List SX} {p : Option Prop} {ret : SV} (hB : goB P cfg st f args = some (p, ret)) : callOk P f = true := by
  unfold goB at hB
  split at hB
  · rename_i st1 args1 _
    cases hn : within [] (args1.flatMap SX.refs)
    · rw [hn] at hB; simp at hB
    · rw [hn] at hB
      simp only [cond_true] at hB
      split at hB
      · rename_i p1 r1 c1 hA
        exact goA_ok hA
      · simp at hB
  · simp at hB
theorem op1a_sound {f : Go.Sy.Md} {R : Ending → World → Prop} (ht : TOk P cfg.tab Γ) (r : Rel Γ st V a w) {ops : Array Oper} {i : Nat} {o : Oper} (ho : ops[i]? = some o) (hw : Region.wanted o (yielded ops a.tmps) = true) {p : Option Prop} {st' : ST} (h : op1a P cfg o st = some (p, st')) (hp : Holds p)
    {l : List Nat} {k : List Item} (hk : ∀ V' a' w', Rel Γ st' V' a' w' → Go.Sy.Fin P f R (.inRegion ops l :: k) a' w') : Go.Sy.Fin P f R (.inRegion ops (i :: l) :: k) a w := by
  unfold op1a at h
  split at h
  · rename_i p' sx hv
    simp only [Option.map_eq_some_iff, Prod.mk.injEq] at h
    obtain ⟨s, hs, rfl, rfl⟩ := h
    obtain ⟨v, h1, h2⟩ := opVB_sound r (g := none) trivial hv hp
    exact Go.Sy.Fin.op_value ho hw h1 (hk _ _ _ (putOpt_sound r hs h2))
  · split at h
    · rename_i sx ck' hm
      simp only [Option.map_eq_some_iff, Prod.mk.injEq] at h
      obtain ⟨s, hs, rfl, rfl⟩ := h
      obtain ⟨v, w', V', h1, h2, r'⟩ := opM_sound r hm
      exact Go.Sy.Fin.op_value ho hw h1 (hk _ _ _ (putOpt_sound r' hs h2))
    · split at h
      · rename_i p' ck' hs hd
        simp only [Option.some.injEq, Prod.mk.injEq] at h
        obtain ⟨rfl, rfl⟩ := h
        obtain ⟨w', h1, r'⟩ := opS_sound r hs hp
        refine Go.Sy.Fin.op_skip ho hw h1 (hk V _ _ ?_)
        rw [hd]; exact r'
      · split at h
        · rename_i p' sx ck' hm
          simp only [Option.map_eq_some_iff, Prod.mk.injEq] at h
          obtain ⟨s, hs, rfl, rfl⟩ := h
          obtain ⟨v, w', V', h1, h2, r'⟩ := opX_sound r hm hp
          exact Go.Sy.Fin.op_value ho hw h1 (hk _ _ _ (putOpt_sound r' hs h2))
        · split at h
          · rename_i g args hc
            split at h
            · rename_i p' ret ck' hA
              simp only [Option.map_eq_some_iff, Prod.mk.injEq] at h
              obtain ⟨s, hs, rfl, rfl⟩ := h
              obtain ⟨vs, h1, h2⟩ := callee_sound (P := P) r (g := none) trivial hc (goA_ok hA)
              obtain ⟨_, _, h3⟩ := goA_sound ht r hA hp h2
              obtain ⟨hwf, hlen⟩ := goA_wf hA
              refine Go.Sy.Fin.op_call ho hw h1 (h3.mono fun e w2 hq => ?_)
              obtain ⟨v, V', rfl, hr, hag, _, _, hwok⟩ := hq
              exact ⟨v, rfl, hk _ _ _ (putOpt_sound (r.turn hwf hag hwok hlen) hs hr)⟩
            · split at h
              · rename_i p' ret hB
                simp only [Option.map_eq_some_iff, Prod.mk.injEq] at h
                obtain ⟨s, hs, rfl, rfl⟩ := h
                obtain ⟨vs, h1, h2⟩ := callee_sound (P := P) r (g := none) trivial hc (goB_ok hB)
                obtain ⟨_, _, h3⟩ := goB_sound ht r hB hp h2
                refine Go.Sy.Fin.op_call ho hw h1 (h3.mono fun e w2 hq => ?_)
                obtain ⟨v, rfl, hr, hf, hwok⟩ := hq
                exact ⟨v, rfl, hk _ _ _ (putOpt_sound (V := V) ⟨r.size, r.defers, r.slots, hwok, r.few⟩ hs hr)⟩
              · simp at h
          · simp at h
theorem op1g_sound {f : Go.Sy.Md} {R : Ending → World → Prop} (ht : TOk P cfg.tab Γ) (r : Rel Γ st V a w) {ops : Array Oper} {i : Nat} {o : Oper} (ho : ops[i]? = some o) {j : Nat} {want : Bool} (hg : o.guard = some (j, want)) {p : Option Prop} {st' : ST} (h : op1g P cfg ops o j want st = some (p, st')) (hp : Holds p)
    {l : List Nat} {k : List Item} (hk : ∀ V' a' w', Rel Γ st' V' a' w' → Go.Sy.Fin P f R (.inRegion ops l :: k) a' w') : Go.Sy.Fin P f R (.inRegion ops (i :: l) :: k) a w := by
  unfold op1g at h
  split at h
  · rename_i s d hs hd
    split at h
    · rename_i q hq
      cases hb : (Nat.blt d st.n && !Nat.beq s d)
      · rw [hb] at h; simp at h
      · rw [hb] at h
        simp only [cond_true] at h
        simp only [Bool.and_eq_true, Bool.not_eq_true'] at hb
        have hdn : d < st.n := Nat.le_of_ble_eq_true hb.1
        have hsd : s ≠ d := fun e => by rw [e] at hb; simp at hb
        have off : ∀ (v : SX) V1 w1, ¬ a.tmps.getD s undef = .bool want → Rel Γ st V1 a w1 → Rel Γ { st with fr := setSlot d (.grd s want v) st.fr } V1 (a.put (some d) undef) w1 := fun v V1 w1 hon r1 =>
          r1.put d (.grd s want v) _ hdn fun a' ha h2 => ⟨fun h3 => absurd (by rw [← ha s hsd]; exact h3) hon, fun _ => h2⟩
        have on : ∀ (v : SX) V1 w1 u, a.tmps.getD s undef = .bool want → v.R V1 u → Rel Γ st V1 a w1 → Rel Γ { st with fr := setSlot d (.grd s want v) st.fr } V1 (a.put (some d) u) w1 := fun v V1 w1 u hon hv r1 =>
          r1.put d (.grd s want v) _ hdn fun a' ha h2 => ⟨fun _ => by rw [h2]; exact hv, fun h3 => absurd (by rw [ha s hsd]; exact hon) h3⟩
        split at h
        · rename_i p' v hv
          simp only [Option.some.injEq, Prod.mk.injEq] at h
          obtain ⟨rfl, rfl⟩ := h
          by_cases hon : a.tmps.getD s undef = .bool want
          · obtain ⟨u, h1, h2⟩ := opVB_sound r (g := some (s, want)) hon hv (by
              cases p' with
              | none => trivial
              | some p' => exact hp (guardProp_sound r 8 s want q hq hon))
            refine Go.Sy.Fin.op_value ho (wanted_on hg hs hon) h1 ?_
            rw [hd]
            exact hk V _ _ (on v V w u hon h2 r)
          · refine Go.Sy.Fin.op_unwanted ho (wanted_off hg hs hon) ?_
            rw [hd]
            exact hk V _ _ (off v V w hon r)
        · split at h
          · rename_i g args hc
            split at h
            · rename_i p' v hB
              simp only [Option.some.injEq, Prod.mk.injEq] at h
              obtain ⟨rfl, rfl⟩ := h
              by_cases hon : a.tmps.getD s undef = .bool want
              · obtain ⟨vs, h1, h2⟩ := callee_sound (P := P) r (g := some (s, want)) hon hc (goB_ok hB)
                obtain ⟨_, _, h3⟩ := goB_sound ht r hB (by
                  cases p' with
                  | none => trivial
                  | some p' => exact hp (guardProp_sound r 8 s want q hq hon)) h2
                refine Go.Sy.Fin.op_call ho (wanted_on hg hs hon) h1 (h3.mono fun e w2 hq => ?_)
                obtain ⟨u, rfl, hr, hf, hwok⟩ := hq
                refine ⟨u, rfl, ?_⟩
                rw [hd]
                exact hk V _ _ (on v V w2 u hon hr ⟨r.size, r.defers, r.slots, hwok, r.few⟩)
              · refine Go.Sy.Fin.op_unwanted ho (wanted_off hg hs hon) ?_
                rw [hd]
                exact hk V _ _ (off v V w hon r)
            · simp at h
          · simp at h
    · simp at h
  · simp at h
theorem opT_sound (r : Rel Γ st V a w) {o : Oper} {l : List SX} (h : opT st o.op = some l) : ∃ v, (execOp a.eval o).run P w = .ok (.value v) w ∧ (SV.tup l).R V v := by
  obtain ⟨dst, op, ty, pos, after, guard⟩ := o
  simp only at h
  cases op <;> first | (simp [opT] at h; done) | skip
  all_goals
    obtain ⟨us, e1, e2⟩ := evalT_sound r h
    exact ⟨_, rfl, us, e1, e2⟩
theorem opOne_sound {f : Go.Sy.Md} {R : Ending → World → Prop} (ht : TOk P cfg.tab Γ) (r : Rel Γ st V a w) {ops : Array Oper} {i : Nat} {o : Oper} (ho : ops[i]? = some o) {p : Option Prop} {st' : ST} (h : op1 P cfg ops o st = some (p, st')) (hp : Holds p)
    {l : List Nat} {k : List Item} (hk : ∀ V' a' w', Rel Γ st' V' a' w' → Go.Sy.Fin P f R (.inRegion ops l :: k) a' w') : Go.Sy.Fin P f R (.inRegion ops (i :: l) :: k) a w := by
  unfold op1 at h
  split at h
  · rename_i hg
    split at h
    · rename_i x hx
      simp only [Option.some.injEq] at h
      subst h
      exact op1a_sound ht r ho (wanted_none hg) hx hp hk
    · split at h
      · rename_i l hl
        simp only [Option.map_eq_some_iff, Prod.mk.injEq] at h
        obtain ⟨s, hs, rfl, rfl⟩ := h
        obtain ⟨v, h1, h2⟩ := opT_sound (P := P) r hl
        exact Go.Sy.Fin.op_value ho (wanted_none hg) h1 (hk _ _ _ (putOpt_sound r hs h2))
      · split at h
        · rename_i sx hc
          simp only [Option.map_eq_some_iff, Prod.mk.injEq] at h
          obtain ⟨s, hs, rfl, rfl⟩ := h
          obtain ⟨v, w', h1, h2, h3⟩ := opC_sound (P := P) r hc
          exact Go.Sy.Fin.op_value ho (wanted_none hg) h1 (hk _ _ _ (putOpt_sound (V := V) ⟨r.size, r.defers, r.slots, r.wok.kept h3, r.few⟩ hs h2))
        · split at h
          · rename_i st1 hf
            obtain ⟨V1, r1⟩ := frzs_rel r hf
            exact op1a_sound ht r1 ho (wanted_none hg) h hp hk
          · simp at h
  · rename_i j want hg
    exact op1g_sound ht r ho hg h hp hk
end
end Go.Ev

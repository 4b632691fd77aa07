/- An executor for function bodies of the model, proved sound: the machine's steps as rules on a stack of what is left to do, in a function's frame or in a round's. Conditions: one goroutine. -/
import Derived.WalkKit
import Derived.WalkSmall
import Derived.RangeFuncLeaves
import Derived.RangeFuncNested
namespace Go.Sy
open Go.RowKit

structure Md where
  fn : FuncId
  rd : Option Nat := none
instance (n : Nat) : OfNat Md n := ⟨⟨n, none⟩⟩
instance : Coe Nat Md := ⟨fun n => ⟨n, none⟩⟩
def EndAt (P : Program) (m : Md) (R : Ending → World → Prop) (b : Frame) (k : List Item) (cs : List Frame) (x : Machine) : Prop :=
  match m.rd with
  | none => ∃ e w' fr, R e w' ∧ Comes P x (lone fr cs w') e ∧ fr.fn = m.fn ∧ fr.leaving P w' e
  | some _ => (∃ a' w', R (.returned (.bool true)) w' ∧ Steps P x (lone (b.atR a' k) cs w')) ∨ (∃ a' k₁ w', R (.returned (.bool false)) w' ∧ Steps P x (lone (b.atR a' (.code .ret :: k₁)) cs w')) ∨
    (∃ a' t w' id, exitTo id t = none ∧ R (.returned (.int .i64 ((id : Nat) : Int))) w' ∧ Steps P x (lone (b.atR a' (.code (.exit id) :: (t ++ k))) cs w'))
def Fin (P : Program) (m : Md) (R : Ending → World → Prop) (todo : List Item) (a : Act) (w : World) : Prop :=
  ∀ (b : Frame) (k : List Item) (cs : List Frame), b.roundOf = m.rd → (m.rd = none → b.fn = m.fn ∧ b.kind = .normal ∧ k = []) → EndAt P m R b k cs (lone (b.atR a (todo ++ k)) cs w)

section
variable {P : Program} {f : Md} {R : Ending → World → Prop} {a : Act} {w : World} {k : List Item}
theorem EndAt.of_steps {b : Frame} {cs : List Frame} {x y : Machine} (s : Steps P x y) (h : EndAt P f R b k cs y) : EndAt P f R b k cs x := by
  unfold EndAt at h ⊢
  split at h
  · obtain ⟨e, w', fr, r, c, h1⟩ := h
    exact ⟨e, w', fr, r, .of_steps s c, h1⟩
  · rcases h with ⟨a', w', r, c⟩ | ⟨a', k₁, w', r, c⟩ | ⟨a', t, w', id, ht, r, c⟩
    · exact .inl ⟨a', w', r, s.trans c⟩
    · exact .inr (.inl ⟨a', k₁, w', r, s.trans c⟩)
    · exact .inr (.inr ⟨a', t, w', id, ht, r, s.trans c⟩)
theorem Fin.of_step {todo todo' : List Item} {a' : Act} {w' : World}
    (h : ∀ (b : Frame) (k : List Item) (cs : List Frame), step P (lone (b.atR a (todo ++ k)) cs w) = .next (lone (b.atR a' (todo' ++ k)) cs w'))
    (hf : Fin P f R todo' a' w') : Fin P f R todo a w := fun b k cs hr h0 =>
  EndAt.of_steps (.one (h b k cs)) (hf b k cs hr h0)

theorem Fin.mono {R' : Ending → World → Prop} {todo : List Item} (h : ∀ e w, R e w → R' e w) (hf : Fin P f R todo a w) : Fin P f R' todo a w := fun b k cs hr h0 => by
  have := hf b k cs hr h0
  unfold EndAt at this ⊢
  split
  · rename_i hm
    rw [hm] at this
    obtain ⟨e, w', fr, r, c⟩ := this
    exact ⟨e, w', fr, h _ _ r, c⟩
  · rename_i l hm
    rw [hm] at this
    rcases this with ⟨a', w', r, c⟩ | ⟨a', k₁, w', r, c⟩ | ⟨a', t, w', id, ht, r, c⟩
    · exact .inl ⟨a', w', h _ _ r, c⟩
    · exact .inr (.inl ⟨a', k₁, w', h _ _ r, c⟩)
    · exact .inr (.inr ⟨a', t, w', id, ht, h _ _ r, c⟩)
theorem Fin.skip (h : Fin P f R k a w) : Fin P f R (.code .skip :: k) a w := .of_step (fun _ _ _ => stepR_skip) h
theorem Fin.label {l : Nat} (h : Fin P f R k a w) : Fin P f R (.code (.label l) :: k) a w := .of_step (fun _ _ _ => stepR_label) h
theorem Fin.inBlock {i : Nat} (h : Fin P f R k a w) : Fin P f R (.inBlock i :: k) a w := .of_step (fun _ _ _ => stepR_inBlock) h
theorem Fin.inScope {c : Code} (h : Fin P f R k a w) : Fin P f R (.inScope c :: k) a w :=
  .of_step (fun _ _ _ => step_lone_go (by simp [stepG, stepG.exec, Frame.atR])) h
theorem Fin.seq {x y : Code} (h : Fin P f R (.code x :: .code y :: k) a w) : Fin P f R (.code (.seq x y) :: k) a w := .of_step (fun _ _ _ => stepR_seq) h
theorem Fin.block {i : Nat} {c : Code} (h : Fin P f R (.code c :: .inBlock i :: k) a w) : Fin P f R (.code (.block i c) :: k) a w := .of_step (fun _ _ _ => stepR_block) h
theorem Fin.scope {c : Code} (h : Fin P f R (.code c :: .inScope c :: k) a w) : Fin P f R (.code (.scope c) :: k) a w :=
  .of_step (fun _ _ _ => step_lone_go (by simp [stepG, stepG.exec, Frame.atR])) h
theorem Fin.loop {c : Code} (h : Fin P f R (.code c :: .inLoop c :: k) a w) : Fin P f R (.code (.loop c) :: k) a w := .of_step (fun _ _ _ => stepR_loop) h
theorem Fin.inLoop {c : Code} (h : Fin P f R (.code c :: .inLoop c :: k) a w) : Fin P f R (.inLoop c :: k) a w := .of_step (fun _ _ _ => stepR_inLoop) h
theorem exitTo_append {i : Nat} : ∀ {k k' : List Item} (l : List Item), exitTo i k = some k' → exitTo i (k ++ l) = some (k' ++ l)
  | [], _, _, h => by simp [exitTo] at h
  | x :: k, k', l, h => by
    cases x <;> simp only [exitTo, List.cons_append] at h ⊢ <;> first
      | exact exitTo_append l h
      | (split at h
         · rename_i hi; simp only [Option.some.injEq] at h; rw [if_pos hi, h]
         · rename_i hi; rw [if_neg hi]; exact exitTo_append l h)
theorem gotoIn_append {i : Nat} : ∀ {k k' : List Item} (l : List Item), gotoIn i k = some k' → gotoIn i (k ++ l) = some (k' ++ l)
  | [], _, _, h => by simp [gotoIn] at h
  | x :: k, k', l, h => by
    cases x <;> simp only [gotoIn, List.cons_append] at h ⊢ <;> first
      | exact gotoIn_append l h
      | (split at h
         · rename_i c hc; simp only [Option.some.injEq] at h; rw [← h]; rfl
         · exact gotoIn_append l h)
theorem Fin.exit {i : Nat} {k' : List Item} (he : exitTo i k = some k') (h : Fin P f R k' a w) : Fin P f R (.code (.exit i) :: k) a w :=
  .of_step (fun _ l _ => stepR_exit (exitTo_append l he)) h
theorem Fin.goto {l : Nat} {k' : List Item} (he : gotoIn l k = some k') (h : Fin P f R k' a w) : Fin P f R (.code (.goto l) :: k) a w :=
  .of_step (fun _ l _ => stepR_goto (gotoIn_append l he)) h
theorem Fin.cond {c : Operand} {x y : Code} {t : Bool} (hc : a.eval c = .bool t) (h : Fin P f R (.code (if t then x else y) :: k) a w) : Fin P f R (.code (.cond c x y) :: k) a w :=
  .of_step (fun _ _ _ => stepR_cond hc) h
theorem Fin.region {i : Nat} {ops : Array Oper} (h : Fin P f R (.inRegion ops (List.range ops.size) :: k) a w) : Fin P f R (.code (.region i ops false) :: k) a w :=
  .of_step (fun _ _ _ => stepR_region) h
theorem Fin.region_draw {i : Nat} {ops : Array Oper} (h : ∀ t, Fin P f R (.inRegion ops (Region.schedule (P.follows .mixedOrders) ops t) :: k) a w.drew) : Fin P f R (.code (.region i ops true) :: k) a w := by
  intro b l cs hr h0
  exact EndAt.of_steps (.one stepR_region_draw) (h (w.tape w.drawn (.order b.fn i)) b l cs hr h0)
theorem Fin.region_end {ops : Array Oper} (h : Fin P f R k a w) : Fin P f R (.inRegion ops [] :: k) a w := .of_step (fun _ _ _ => stepR_region_end) h
theorem Fin.op_unwanted {ops : Array Oper} {i : Nat} {rest : List Nat} {o : Oper} (ho : ops[i]? = some o) (hw : Region.wanted o (yielded ops a.tmps) = false)
    (h : Fin P f R (.inRegion ops rest :: k) (a.put o.dst undef) w) : Fin P f R (.inRegion ops (i :: rest) :: k) a w :=
  .of_step (fun b l cs => by
    have hs := stepR_op_skip (P := P) (b := b) (a := a) (k := k ++ l) (cs := cs) (w := w) (ops := ops) (i := i) (rest := rest) (by simp [ho, hw])
    simpa only [ho, Option.bind_some, List.cons_append] using hs) h
theorem semAt_run {ro : Option Nat} {ρ : Operand → Value} {o : Oper} {x : Next} {w w' : World} (h : (execOp ρ o).run P w = .ok x w') (hx : ∀ d, x ≠ .defer d) : (o.semAt ro ρ).run P w = .ok x w' := by
  by_cases hd : ∃ c, o.op = .defer c
  · obtain ⟨c, hc⟩ := hd
    obtain ⟨dst, op, ty, pos, after, guard⟩ := o
    simp only at hc
    subst hc
    simp only [execOp, Sem.run_bind] at h
    cases hr : (resolve ρ c ty).run P w with
    | ok d w1 =>
      rw [hr] at h
      simp [Result.andThen, Sem.run_pure] at h
      exact absurd h.1.symm (hx d)
    | halt e w1 => rw [hr] at h; simp [Result.andThen] at h
  · rw [Oper.semAt_eq ro ρ o fun c hc => hd ⟨c, hc⟩]; exact h
theorem Fin.op_value {ops : Array Oper} {i : Nat} {rest : List Nat} {o : Oper} {v : Value} {w' : World} (ho : ops[i]? = some o) (hw : Region.wanted o (yielded ops a.tmps) = true)
    (hr : (execOp a.eval o).run P w = .ok (.value v) w') (h : Fin P f R (.inRegion ops rest :: k) (a.put o.dst v) w') : Fin P f R (.inRegion ops (i :: rest) :: k) a w :=
  .of_step (fun b l cs => step_lone_go (by
    have hg := stepGR_op (P := P) (b := b) (k := k ++ l) (cs := cs) (w := w) (rest := rest) ho hw
    have hfin : (b.atR a (.inRegion ops (i :: rest) :: (k ++ l))).finish v = b.atR (a.put o.dst v) (.inRegion ops rest :: (k ++ l)) := by rw [Frame.finish_atR, ho]; rfl
    rw [List.cons_append, hg, List.cons_append, ← hfin]; simp [stepG.apply, semAt_run hr (by simp)])) h
theorem Fin.op_skip {ops : Array Oper} {i : Nat} {rest : List Nat} {o : Oper} {w' : World} (ho : ops[i]? = some o) (hw : Region.wanted o (yielded ops a.tmps) = true)
    (hr : (execOp a.eval o).run P w = .ok .skip w') (h : Fin P f R (.inRegion ops rest :: k) (a.put o.dst undef) w') : Fin P f R (.inRegion ops (i :: rest) :: k) a w :=
  .of_step (fun b l cs => step_lone_go (by
    have hg := stepGR_op (P := P) (b := b) (k := k ++ l) (cs := cs) (w := w) (rest := rest) ho hw
    have hfin : (b.atR a (.inRegion ops (i :: rest) :: (k ++ l))).finish undef = b.atR (a.put o.dst undef) (.inRegion ops rest :: (k ++ l)) := by rw [Frame.finish_atR, ho]; rfl
    rw [List.cons_append, hg, List.cons_append, ← hfin]; simp [stepG.apply, semAt_run hr (by simp)])) h
theorem Fin.op_call {ops : Array Oper} {i : Nat} {rest : List Nat} {o : Oper} {g : FuncId} {args : Array Value} {w' : World} (ho : ops[i]? = some o) (hw : Region.wanted o (yielded ops a.tmps) = true)
    (hr : (execOp a.eval o).run P w = .ok (.enter g args) w')
    (h : Calls P g args w' fun e w2 => ∃ v, e = .returned v ∧ Fin P f R (.inRegion ops rest :: k) (a.put o.dst v) w2) : Fin P f R (.inRegion ops (i :: rest) :: k) a w := by
  intro b l cs hro h0
  have hg := stepGR_op (P := P) (b := b) (k := k ++ l) (cs := cs) (w := w) (rest := rest) ho hw
  have hfin : ∀ v, (b.atR a (.inRegion ops (i :: rest) :: (k ++ l))).finish v = b.atR (a.put o.dst v) (.inRegion ops rest :: (k ++ l)) := by intro v; rw [Frame.finish_atR, ho]; rfl
  obtain ⟨e, w2, fr, ⟨v, rfl, hF⟩, hsteps, _, hleave⟩ := h (b.atR a (.inRegion ops (i :: rest) :: (k ++ l)) :: cs)
  have henter : step P (lone (b.atR a (.inRegion ops (i :: rest) :: (k ++ l))) cs w) = .next (lone (Frame.enter P g args .normal) (b.atR a (.inRegion ops (i :: rest) :: (k ++ l)) :: cs) w') :=
    step_lone_go (by rw [hg]; simp [stepG.apply, semAt_run hr (by simp), Frame.atR])
  refine EndAt.of_steps (.head henter (hsteps.trans (.one ?_))) (hF b l cs hro h0)
  rw [List.cons_append, ← hfin]; exact step_leave_returned hleave
theorem Fin.ret {fn : Func} {v : Value} (hm : f.rd = none) (hf : P.funcs[f.fn]? = some fn) (hd : a.defers = []) (hr : (results fn a.tmps).run P w = .ok v w) (h : R (.returned v) w) : Fin P f R (.code .ret :: k) a w := by
  intro b l cs hro h0
  obtain ⟨hb, hk, hl⟩ := h0 hm
  unfold EndAt
  rw [hm]
  refine ⟨.returned v, w, _, h, Steps.one (stepR_ret (hro.trans hm)), hb, ?_⟩
  exact ⟨rfl, hd, hk, fn, by simpa [Frame.atR, hb] using hf, hr⟩
end

def took (w : World) : List Nat → World
  | [] => w
  | D :: ds => took (w.putObj D (.deferred none)) ds
section
variable {P : Program} {f : Md} {R : Ending → World → Prop} {a : Act} {w : World} {k : List Item}
theorem put_other {w : World} {D E : Nat} {o : Obj} (h : E ≠ D) : (w.putObj D o).heap[E]? = w.heap[E]? := World.putObj_heap_other h
theorem leave_marks : ∀ (ds : List Nat) (w : World) (fr : Frame) (cs : List Frame), fr.mode = .returning → fr.defers = ds.map (fun D => ({ target := .collected D, args := #[] } : Deferred)) → ds.Nodup → (∀ D ∈ ds, w.heap[D]? = some (.deferred (some []))) →
    Steps P (lone fr cs w) (lone { fr with defers := [] } cs (took w ds))
  | [], w, fr, cs, hm, hd, _, _ => by
    have e : { fr with defers := [] } = fr := by cases fr; simp only at hd; simp [hd]
    rw [e]; exact Steps.refl P _
  | D :: ds, w, fr, cs, hm, hd, hn, hk => by
    obtain ⟨h1, h2⟩ := List.nodup_cons.1 hn
    have s := step_collected (P := P) (fr := fr) (cs := cs) (w := w) (by rw [hm]; simp) hd rfl (run_takeDeferred (hk D List.mem_cons_self))
    refine .head s (leave_marks ds _ { fr with defers := [] ++ ds.map (fun D => ({ target := .collected D, args := #[] } : Deferred)) } cs hm rfl h2 fun E hE => ?_)
    have hne : E ≠ D := fun e => h1 (by rw [← e]; exact hE)
    exact (put_other hne).trans (hk E (List.mem_cons_of_mem _ hE))
theorem Fin.retM {fn : Func} {v : Value} {ds : List Nat} (hm : f.rd = none) (hf : P.funcs[f.fn]? = some fn) (hd : a.defers = ds.map (fun D => ({ target := .collected D, args := #[] } : Deferred))) (hn : ds.Nodup) (hk : ∀ D ∈ ds, w.heap[D]? = some (.deferred (some [])))
    (hr : (results fn a.tmps).run P (took w ds) = .ok v (took w ds)) (h : R (.returned v) (took w ds)) : Fin P f R (.code .ret :: k) a w := by
  intro b l cs hro h0
  obtain ⟨hb, hkd, hl⟩ := h0 hm
  unfold EndAt
  rw [hm]
  refine ⟨.returned v, took w ds, _, h, (Steps.one (stepR_ret (hro.trans hm))).trans (leave_marks ds w _ cs rfl hd hn hk), hb, ?_⟩
  exact ⟨rfl, rfl, hkd, fn, by simpa [Frame.atR, hb] using hf, hr⟩
theorem Fin.endM {fn : Func} {v : Value} {ds : List Nat} (hm : f.rd = none) (hf : P.funcs[f.fn]? = some fn) (hd : a.defers = ds.map (fun D => ({ target := .collected D, args := #[] } : Deferred))) (hn : ds.Nodup) (hk : ∀ D ∈ ds, w.heap[D]? = some (.deferred (some [])))
    (hr : (results fn a.tmps).run P (took w ds) = .ok v (took w ds)) (h : R (.returned v) (took w ds)) : Fin P f R [] a w := by
  intro b l cs hro h0
  obtain ⟨hb, hkd, hl⟩ := h0 hm
  subst hl
  unfold EndAt
  rw [hm]
  refine ⟨.returned v, took w ds, _, h, (Steps.one (stepR_end (hro.trans hm))).trans (leave_marks ds w _ cs rfl hd hn hk), hb, ?_⟩
  exact ⟨rfl, rfl, hkd, fn, by simpa [Frame.atR, hb] using hf, hr⟩
theorem took_other : ∀ (ds : List Nat) (w : World) (k : Nat), k ∉ ds → (took w ds).heap[k]? = w.heap[k]?
  | [], _, _, _ => rfl
  | D :: ds, w, k, h => by
    simp only [List.mem_cons, not_or] at h
    rw [took, took_other ds _ k h.2, put_other h.1]
theorem took_same : ∀ (ds : List Nat) (w : World), (took w ds).os = w.os ∧ (took w ds).tape = w.tape ∧ (took w ds).output = w.output ∧ (took w ds).heap.size = w.heap.size
  | [], _ => ⟨rfl, rfl, rfl, rfl⟩
  | D :: ds, w => by
    have := took_same ds (w.putObj D (.deferred none))
    rw [took]
    refine ⟨this.1, this.2.1, this.2.2.1, this.2.2.2.trans ?_⟩
    simp
end
theorem calls_of_fin {P : Program} {f : FuncId} {fn : Func} {c : Code} {args : Array Value} {w : World} {R : Ending → World → Prop}
    (hf : P.funcs[f]? = some fn) (hb : fn.body = some c)
    (h : Fin P (f : Md) R [.code c] { tmps := args ++ Array.replicate (fn.ntmps - args.size) undef, defers := [] } w) : Calls P f args w R := by
  intro cs
  let b : Frame := { (default : Frame) with fn := f, kind := .normal, roundOf := none }
  have henter : Frame.enter P f args .normal = b.atR { tmps := args ++ Array.replicate (fn.ntmps - args.size) undef, defers := [] } [.code c] := by
    simp [Frame.enter, Frame.atR, hf, hb, b]
  obtain ⟨e, w', fr, r, hc, h1, h2⟩ := h b [] cs rfl fun _ => ⟨rfl, rfl, rfl⟩
  rw [List.append_nil, ← henter] at hc
  exact ⟨e, w', fr, r, hc, h1, h2⟩
end Go.Sy

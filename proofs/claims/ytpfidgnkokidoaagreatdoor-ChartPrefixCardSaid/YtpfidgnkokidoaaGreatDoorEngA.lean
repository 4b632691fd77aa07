/- An executor for function bodies of the model, proved sound: part A: the machine's steps as rules on a stack of what is left to do. Conditions: one goroutine, no deferred calls. -/
import Derived.WalkKit
import Derived.WalkSmall
namespace Go.Sy
open Go.RowKit
def Fin (P : Program) (f : FuncId) (R : Ending → World → Prop) (todo : List Item) (a : Act) (w : World) : Prop :=
 ∀ (b : Frame) (cs : List Frame), b.fn = f → b.kind = .normal →
  ∃ e w' fr, R e w' ∧ Comes P (lone (b.at a todo) cs w) (lone fr cs w') e ∧ fr.fn = f ∧ fr.leaving P w' e
section
variable {P : Program} {f : FuncId} {R : Ending → World → Prop} {a : Act} {w : World} {k : List Item}
theorem Fin.of_step {todo todo' : List Item} {a' : Act} {w' : World}
 (h : ∀ (b : Frame) (cs : List Frame), b.fn = f → b.kind = .normal → step P (lone (b.at a todo) cs w) = .next (lone (b.at a' todo') cs w'))
 (hf : Fin P f R todo' a' w') : Fin P f R todo a w := by
 intro b cs hb hk
 obtain ⟨e, w2, fr, r, c, h1, h2⟩ := hf b cs hb hk
 exact ⟨e, w2, fr, r, .of_steps (.one (h b cs hb hk)) c, h1, h2⟩
theorem Fin.skip (h : Fin P f R k a w) : Fin P f R (.code .skip :: k) a w := .of_step (fun _ _ _ _ => step_skip) h
theorem Fin.label {l : Nat} (h : Fin P f R k a w) : Fin P f R (.code (.label l) :: k) a w := .of_step (fun _ _ _ _ => step_label) h
theorem Fin.inBlock {i : Nat} (h : Fin P f R k a w) : Fin P f R (.inBlock i :: k) a w := .of_step (fun _ _ _ _ => step_inBlock) h
theorem Fin.inScope {c : Code} (h : Fin P f R k a w) : Fin P f R (.inScope c :: k) a w :=
 .of_step (fun _ _ _ _ => step_lone_go (by simp [stepG, stepG.exec, Frame.at])) h
theorem Fin.seq {x y : Code} (h : Fin P f R (.code x :: .code y :: k) a w) : Fin P f R (.code (.seq x y) :: k) a w := .of_step (fun _ _ _ _ => step_seq) h
theorem Fin.block {i : Nat} {c : Code} (h : Fin P f R (.code c :: .inBlock i :: k) a w) : Fin P f R (.code (.block i c) :: k) a w := .of_step (fun _ _ _ _ => step_block) h
theorem Fin.scope {c : Code} (h : Fin P f R (.code c :: .inScope c :: k) a w) : Fin P f R (.code (.scope c) :: k) a w :=
 .of_step (fun _ _ _ _ => step_lone_go (by simp [stepG, stepG.exec, Frame.at])) h
theorem Fin.loop {c : Code} (h : Fin P f R (.code c :: .inLoop c :: k) a w) : Fin P f R (.code (.loop c) :: k) a w := .of_step (fun _ _ _ _ => step_loop) h
theorem Fin.inLoop {c : Code} (h : Fin P f R (.code c :: .inLoop c :: k) a w) : Fin P f R (.inLoop c :: k) a w := .of_step (fun _ _ _ _ => step_inLoop) h
theorem Fin.exit {i : Nat} {k' : List Item} (he : exitTo i k = some k') (h : Fin P f R k' a w) : Fin P f R (.code (.exit i) :: k) a w := .of_step (fun _ _ _ _ => step_exit he) h
theorem Fin.goto {l : Nat} {k' : List Item} (he : gotoIn l k = some k') (h : Fin P f R k' a w) : Fin P f R (.code (.goto l) :: k) a w := .of_step (fun _ _ _ _ => step_goto he) h
theorem Fin.cond {c : Operand} {x y : Code} {t : Bool} (hc : a.eval c = .bool t) (h : Fin P f R (.code (if t then x else y) :: k) a w) : Fin P f R (.code (.cond c x y) :: k) a w :=
 .of_step (fun _ _ _ _ => step_cond hc) h
theorem Fin.region {i : Nat} {ops : Array Oper} (h : Fin P f R (.inRegion ops (List.range ops.size) :: k) a w) : Fin P f R (.code (.region i ops false) :: k) a w :=
 .of_step (fun _ _ _ _ => step_region) h
theorem Fin.region_draw {i : Nat} {ops : Array Oper} (h : ∀ t, Fin P f R (.inRegion ops (Region.schedule (P.follows .mixedOrders) ops t) :: k) a w.drew) : Fin P f R (.code (.region i ops true) :: k) a w := by
 intro b cs hb hk
 obtain ⟨e, w2, fr, r, c, h1, h2⟩ := h (w.tape w.drawn (.order b.fn i)) b cs hb hk
 exact ⟨e, w2, fr, r, .of_steps (.one step_region_draw) c, h1, h2⟩
theorem Fin.region_end {ops : Array Oper} (h : Fin P f R k a w) : Fin P f R (.inRegion ops [] :: k) a w := .of_step (fun _ _ _ _ => step_region_end) h
theorem Fin.op_unwanted {ops : Array Oper} {i : Nat} {rest : List Nat} {o : Oper} (ho : ops[i]? = some o) (hw : Region.wanted o (yielded ops a.tmps) = false)
 (h : Fin P f R (.inRegion ops rest :: k) (a.put o.dst undef) w) : Fin P f R (.inRegion ops (i :: rest) :: k) a w :=
 .of_step (fun b cs _ _ => by
  have hs := step_op_skip (P := P) (b := b) (a := a) (k := k) (cs := cs) (w := w) (ops := ops) (i := i) (rest := rest) (by simp [ho, hw])
  simpa only [ho, Option.bind_some] using hs) h
theorem Fin.op_value {ops : Array Oper} {i : Nat} {rest : List Nat} {o : Oper} {v : Value} {w' : World} (ho : ops[i]? = some o) (hw : Region.wanted o (yielded ops a.tmps) = true)
 (hr : (execOp a.eval o).run P w = .ok (.value v) w') (h : Fin P f R (.inRegion ops rest :: k) (a.put o.dst v) w') : Fin P f R (.inRegion ops (i :: rest) :: k) a w :=
 .of_step (fun b cs _ _ => step_lone_go (by
  have hg := stepG_op (P := P) (b := b) (k := k) (cs := cs) (w := w) (rest := rest) ho hw
  have hfin : (b.at a (.inRegion ops (i :: rest) :: k)).finish v = b.at (a.put o.dst v) (.inRegion ops rest :: k) := by rw [Frame.finish_at, ho]; rfl
  rw [hg, ← hfin]; simp [stepG.apply, hr])) h
theorem Fin.op_skip {ops : Array Oper} {i : Nat} {rest : List Nat} {o : Oper} {w' : World} (ho : ops[i]? = some o) (hw : Region.wanted o (yielded ops a.tmps) = true)
 (hr : (execOp a.eval o).run P w = .ok .skip w') (h : Fin P f R (.inRegion ops rest :: k) (a.put o.dst undef) w') : Fin P f R (.inRegion ops (i :: rest) :: k) a w :=
 .of_step (fun b cs _ _ => step_lone_go (by
  have hg := stepG_op (P := P) (b := b) (k := k) (cs := cs) (w := w) (rest := rest) ho hw
  have hfin : (b.at a (.inRegion ops (i :: rest) :: k)).finish undef = b.at (a.put o.dst undef) (.inRegion ops rest :: k) := by rw [Frame.finish_at, ho]; rfl
  rw [hg, ← hfin]; simp [stepG.apply, hr])) h
theorem Fin.op_call {ops : Array Oper} {i : Nat} {rest : List Nat} {o : Oper} {g : FuncId} {args : Array Value} {w' : World} (ho : ops[i]? = some o) (hw : Region.wanted o (yielded ops a.tmps) = true)
 (hr : (execOp a.eval o).run P w = .ok (.enter g args) w')
 (h : Calls P g args w' fun e w2 => ∃ v, e = .returned v ∧ Fin P f R (.inRegion ops rest :: k) (a.put o.dst v) w2) : Fin P f R (.inRegion ops (i :: rest) :: k) a w := by
 intro b cs hb hk
 have hg := stepG_op (P := P) (b := b) (k := k) (cs := cs) (w := w) (rest := rest) ho hw
 have hfin : ∀ v, (b.at a (.inRegion ops (i :: rest) :: k)).finish v = b.at (a.put o.dst v) (.inRegion ops rest :: k) := by intro v; rw [Frame.finish_at, ho]; rfl
 obtain ⟨e, w2, fr, ⟨v, rfl, hF⟩, hsteps, _, hleave⟩ := h (b.at a (.inRegion ops (i :: rest) :: k) :: cs)
 have henter : step P (lone (b.at a (.inRegion ops (i :: rest) :: k)) cs w) = .next (lone (Frame.enter P g args .normal) (b.at a (.inRegion ops (i :: rest) :: k) :: cs) w') :=
  step_lone_go (by rw [hg]; simp [stepG.apply, hr, Frame.at])
 obtain ⟨e, w3, fr3, r, c, h1, h2⟩ := hF b cs hb hk
 refine ⟨e, w3, fr3, r, .of_steps (.head henter (hsteps.trans (.one ?_))) c, h1, h2⟩
 rw [← hfin]; exact step_leave_returned hleave
theorem Fin.ret {fn : Func} {v : Value} (hf : P.funcs[f]? = some fn) (hd : a.defers = []) (hr : (results fn a.tmps).run P w = .ok v w) (h : R (.returned v) w) : Fin P f R (.code .ret :: k) a w := by
 intro b cs hb hk
 refine ⟨.returned v, w, _, h, Steps.one step_ret, hb, ?_⟩
 exact ⟨rfl, hd, hk, fn, by simpa [Frame.at, hb] using hf, hr⟩
theorem Fin.end {fn : Func} {v : Value} (hf : P.funcs[f]? = some fn) (hd : a.defers = []) (hr : (results fn a.tmps).run P w = .ok v w) (h : R (.returned v) w) : Fin P f R [] a w := by
 intro b cs hb hk
 refine ⟨.returned v, w, _, h, Steps.one step_end, hb, ?_⟩
 exact ⟨rfl, hd, hk, fn, by simpa [Frame.at, hb] using hf, hr⟩
end
theorem calls_of_fin {P : Program} {f : FuncId} {fn : Func} {c : Code} {args : Array Value} {w : World} {R : Ending → World → Prop}
 (hf : P.funcs[f]? = some fn) (hb : fn.body = some c)
 (h : Fin P f R [.code c] { tmps := args ++ Array.replicate (fn.ntmps - args.size) undef, defers := [] } w) : Calls P f args w R := by
 intro cs
 let b : Frame := { (default : Frame) with fn := f, kind := .normal }
 have henter : Frame.enter P f args .normal = b.at { tmps := args ++ Array.replicate (fn.ntmps - args.size) undef, defers := [] } [.code c] := by
  simp [Frame.enter, Frame.at, hf, hb, b]
 obtain ⟨e, w', fr, r, hc, h1, h2⟩ := h b cs rfl rfl
 rw [← henter] at hc
 exact ⟨e, w', fr, r, hc, h1, h2⟩
end Go.Sy

/- An executor for function bodies of the model, part J: contracts, and the rules where the executor stops. Conditions: each rule's own. -/
import Derived.Test.YtgoihhnfkoklpaaEngI
namespace Go.Sy
open Go.RowKit

abbrev Mem := Nat → Option Obj
def HIn (H : Mem) (w : World) : Prop := ∀ k o, H k = some o → w.heap[k]? = some o
def HLe (H H' : Mem) : Prop := ∀ k o, H k = some o → H' k = some o
theorem HLe.refl (H : Mem) : HLe H H := fun _ _ h => h
theorem HLe.trans {A B C : Mem} (h : HLe A B) (k : HLe B C) : HLe A C := fun i o x => k i o (h i o x)
/-- A function of what memory holds, handing back v; memory as it was. -/
def Spec0 (P : Program) (g : Nat) (vs : List Value) (H : Mem) (v : Value) : Prop :=
  ∀ w, HIn H w → Calls P g vs.toArray w fun e w' => e = .returned v ∧ Below w.heap.size w w'
/-- The same with a result that lies in new memory. -/
def SpecM (P : Program) (g : Nat) (vs : List Value) (H : Mem) (Φ : Mem → Value → Prop) : Prop :=
  ∀ w, HIn H w → Calls P g vs.toArray w fun e w' => ∃ v H', e = .returned v ∧ Below w.heap.size w w' ∧ HLe H H' ∧ HIn H' w' ∧ (∀ k, H' k ≠ none → H k ≠ none ∨ w.heap.size ≤ k) ∧ Φ H' v
theorem PureC.spec0 {P : Program} {g : Nat} {vs : List Value} {v : Value} (h : PureC P g vs v) (H : Mem) : Spec0 P g vs H v := fun w _ => h w
theorem Spec0.pure {P : Program} {g : Nat} {vs : List Value} {v : Value} (h : Spec0 P g vs (fun _ => none) v) : PureC P g vs v := fun w => h w (fun _ _ hh => by cases hh)
theorem Spec0.mono {P : Program} {g : Nat} {vs : List Value} {v : Value} {H H' : Mem} (h : Spec0 P g vs H v) (hl : HLe H H') : Spec0 P g vs H' v := fun w hw => h w fun k o hk => hw k o (hl k o hk)

abbrev R0 (w0 : World) (v : Value) : Ending → World → Prop := fun e w' => e = .returned v ∧ Below w0.heap.size w0 w'
/-- The body of a function. -/
abbrev bodyOf (fn : Func) : Code := fn.body.getD .skip
theorem body_some {fn : Func} (h : fn.body.isSome = true) : fn.body = some (bodyOf fn) := by
  unfold bodyOf; cases hb : fn.body <;> simp_all
theorem wrapI {n : Int} (h0 : -9223372036854775808 ≤ n) (h1 : n ≤ 9223372036854775807) : IntKind.wrap .i64 n = n := by
  unfold IntKind.wrap
  simp only [IntKind.bits, IntKind.signed]
  simp
  omega
theorem wrapK {k : Nat} (h : k < 9223372036854775807) : IntKind.wrap .i64 ((k : Int) + 1) = ((k + 1 : Nat) : Int) := by
  rw [wrapI (by omega) (by omega)]; omega

/-! ### rows of cells in memory that nobody writes -/
def CellsAt (H : Mem) (b o : Nat) (row : List Value) : Prop := ∃ cells e fr, H b = some (.cells cells e fr) ∧ ∀ m u, row[m]? = some u → cells[o + m]? = some u
def RowsAt (H : Mem) (sz b off : Nat) (rows : List (List Value)) : Prop := ∀ j row, rows[j]? = some row → row.length = sz ∧ CellsAt H b (off + j * sz) row
/-- v is a slice whose elements are these rows of cells. -/
def SliceH (H : Mem) (sz : Nat) (v : Value) (rows : List (List Value)) : Prop :=
  (v = .slice none 0 0 ∧ rows = []) ∨ ∃ b off cap, v = .slice (some ⟨b, off, none⟩) rows.length cap ∧ rows.length ≤ cap ∧ cap ≤ maxLen ∧ RowsAt H sz b off rows
theorem CellsAt.mono {H H' : Mem} (h : HLe H H') {b o : Nat} {row : List Value} (k : CellsAt H b o row) : CellsAt H' b o row :=
  let ⟨c, e, f, h1, h2⟩ := k; ⟨c, e, f, h _ _ h1, h2⟩
theorem RowsAt.mono {H H' : Mem} (h : HLe H H') {sz b o : Nat} {rows : List (List Value)} (k : RowsAt H sz b o rows) : RowsAt H' sz b o rows :=
  fun j row hj => ⟨(k j row hj).1, (k j row hj).2.mono h⟩
theorem SliceH.mono {H H' : Mem} (h : HLe H H') {sz : Nat} {v : Value} {rows : List (List Value)} (k : SliceH H sz v rows) : SliceH H' sz v rows := by
  rcases k with k | ⟨b, o, c, h1, h2, h3, h4⟩
  · exact .inl k
  · exact .inr ⟨b, o, c, h1, h2, h3, h4.mono h⟩
theorem SliceH.form {H : Mem} {sz : Nat} {v : Value} {rows : List (List Value)} (k : SliceH H sz v rows) : ∃ ao cap, v = .slice ao rows.length cap := by
  rcases k with ⟨rfl, rfl⟩ | ⟨b, o, c, rfl, _⟩
  · exact ⟨_, _, rfl⟩
  · exact ⟨_, _, rfl⟩
theorem SliceH.at {H : Mem} {sz : Nat} {ao : Option Addr} {n cap : Nat} {rows : List (List Value)} (k : SliceH H sz (.slice ao n cap) rows) (h : 0 < n) : n = rows.length ∧ ∃ b off, ao = some ⟨b, off, none⟩ ∧ RowsAt H sz b off rows := by
  rcases k with ⟨k, rfl⟩ | ⟨b, o, c, h1, h2, h3, h4⟩
  · cases k; omega
  · cases h1; exact ⟨rfl, b, o, rfl, h4⟩

/-! ### a call's beginning -/
def initFr (vs : List Value) (i : Nat) : List (Nat × SV) := match vs with
  | [] => []
  | v :: r => (i, .c (.val v)) :: initFr r (i + 1)
def initST (n : Nat) (vs : List Value) : ST := { n := n, fr := initFr vs 0, ck := [] }
theorem initFr_mem : ∀ {vs : List Value} {i t : Nat} {sv : SV}, (t, sv) ∈ initFr vs i → ∃ v, sv = .c (.val v) ∧ i ≤ t ∧ vs[t - i]? = some v
  | [], _, _, _, h => by simp [initFr] at h
  | v :: r, i, t, sv, h => by
    rcases List.mem_cons.1 h with h | h
    · simp only [Prod.mk.injEq] at h; obtain ⟨rfl, rfl⟩ := h; exact ⟨v, rfl, Nat.le_refl _, by simp⟩
    · obtain ⟨u, h1, h2, h3⟩ := initFr_mem h
      exact ⟨u, h1, by omega, by rw [show t - i = (t - (i + 1)) + 1 from by omega, List.getElem?_cons_succ]; exact h3⟩
theorem calls_of_J {P : Program} {f : FuncId} {fn : Func} {root : Code} {vs : List Value} {w0 : World} {R : Ending → World → Prop} (H : Mem) (hf : P.funcs[f]? = some fn) (hb : fn.body = some root) (hn : Nat.ble vs.length fn.ntmps = true) (hH : HIn H w0)
    (h : J P f root R w0 H [.code []] (initST fn.ntmps vs)) : Calls P f vs.toArray w0 R := by
  refine calls_of_fin hf hb ?_
  have hn' := Nat.le_of_ble_eq_true hn
  refine h (fun _ => 0) (fun _ => undef) _ w0 { size := ?_, defers := rfl, slots := ?_, ext := Below.refl _ _, imm := hH, own := ?_, base := ?_, inj := ?_ }
  · simp [initST]; omega
  · intro t sv hm
    obtain ⟨v, rfl, _, h2⟩ := initFr_mem hm
    simp only [Nat.sub_zero] at h2
    have ht : t < vs.length := (List.getElem?_eq_some_iff.1 h2).1
    show (vs.toArray ++ Array.replicate (fn.ntmps - vs.toArray.size) undef).getD t undef = v
    rw [Array.getD_eq_getD_getElem?, Array.getElem?_append_left (by simpa using ht)]
    simp [h2]
  · intro i c hc; simp [initST] at hc
  · intro i c b hc; simp [initST] at hc
  · intro i j c d b hc; simp [initST] at hc
theorem Spec0.of {P : Program} {f : FuncId} {fn : Func} {root : Code} {vs : List Value} {H : Mem} {v : Value} (hf : P.funcs[f]? = some fn) (hb : fn.body = some root) (hn : Nat.ble vs.length fn.ntmps = true)
    (h : ∀ w0, J P f root (fun e w' => e = .returned v ∧ Below w0.heap.size w0 w') w0 H [.code []] (initST fn.ntmps vs)) : Spec0 P f vs H v :=
  fun w hw => calls_of_J H hf hb hn hw (h w)
def SpecEnd (w0 : World) (H : Mem) (Φ : Mem → Value → Prop) (e : Ending) (w' : World) : Prop :=
  ∃ v H', e = .returned v ∧ Below w0.heap.size w0 w' ∧ HLe H H' ∧ HIn H' w' ∧ (∀ k, H' k ≠ none → H k ≠ none ∨ w0.heap.size ≤ k) ∧ Φ H' v
theorem SpecM.of {P : Program} {f : FuncId} {fn : Func} {root : Code} {vs : List Value} {H : Mem} {Φ : Mem → Value → Prop} (hf : P.funcs[f]? = some fn) (hb : fn.body = some root) (hn : Nat.ble vs.length fn.ntmps = true)
    (h : ∀ w0, J P f root (SpecEnd w0 H Φ) w0 H [.code []] (initST fn.ntmps vs)) : SpecM P f vs H Φ :=
  fun w hw => calls_of_J H hf hb hn hw (h w)

section
variable {P : Program} {w0 : World} {H : Mem} {f : FuncId} {fn : Func} {root : Code} {R : Ending → World → Prop} {st st' : ST} {p : List Nat} {i : Nat} {k todo : List PI}

/-- The executor's run, told as a tree. -/
theorem J.go {tab : Tab} (ht : TabOk P tab) (hf : P.funcs[f]? = some fn) (n : Nat) {t : Tree} (he : exec P tab fn root n todo st = t) (h : t.J P f root R w0 H) : J P f root R w0 H todo st :=
  exec_sound ht hf n todo st (he ▸ h)
theorem TabOk.nil : TabOk P [] := by intro e he; simp at he
theorem TabOk.cons {g : Nat} {m : List Value → Option (Option Prop × Value)} {tab : Tab} (h : ∀ vs p v, m vs = some (p, v) → Holds p → PureC P g vs v) (ht : TabOk P tab) : TabOk P ((g, m) :: tab) := by
  intro e he
  rcases List.mem_cons.1 he with rfl | he
  · exact h
  · exact ht e he

/-- A slot put anew. -/
def putST (st : ST) (d : Option Tmp) (sv : SV) : ST := (putOpt st d sv).getD st
theorem putST_some {st : ST} {d : Option Tmp} {sv : SV} (h : (putOpt st d sv).isSome = true) : putOpt st d sv = some (putST st d sv) := by
  unfold putST; cases hp : putOpt st d sv <;> simp_all

/-! ### calls -/
def opAt (root : Code) (p : List Nat) (i : Nat) : Option Oper := (opsOf (sub root p))[i]?
def callAt (P : Program) (root : Code) (p : List Nat) (i : Nat) (st : ST) : Option (Option Tmp × Nat × List Value) :=
  match opAt root p i with
  | some o => match o.guard, o.op with
    | none, .call { callee := .value x, args := args, argTypes := _ } => match (evalO st none x).bind SV.toVal, valsOf (args.toList.map (evalO st none)) with
      | some (.func (.func g) first cap), some vs => some (o.dst, g, first.toList ++ vs ++ cap.toList)
      | _, _ => none
    | _, _ => none
  | none => none
theorem callAt_sound {σ : Nat → Nat} {ov : Nat → Value} {a : Act} {w : World} (r : Rel P w0 H st σ ov a w) {dst : Option Tmp} {g : Nat} {vs : List Value} (hb : callOk P g = true) (h : callAt P root p i st = some (dst, g, vs)) :
    ∃ o, opAt root p i = some o ∧ o.dst = dst ∧ o.guard = none ∧ (execOp a.eval o).run P w = .ok (.enter g vs.toArray) w := by
  unfold callAt at h
  split at h
  · rename_i o ho
    split at h
    · rename_i x args ts hg hop
      split at h
      · rename_i g' first cap vs' hx hv
        · simp only [Option.some.injEq, Prod.mk.injEq] at h
          obtain ⟨rfl, rfl, rfl⟩ := h
          refine ⟨o, ho, rfl, hg, ?_⟩
          simp only [Option.bind_eq_some_iff] at hx
          obtain ⟨sv, hx1, hx2⟩ := hx
          have ex : a.eval x = .func (.func g') first cap := by rw [(evalO_sound r (g := none) trivial hx1).1, toVal_den hx2]
          have hargs := valsOf_sound r (g := none) trivial _ _ hv
          have hargs' : args.map a.eval = vs'.toArray := by
            apply Array.toList_inj.1
            rw [Array.toList_map, hargs]
          have hall : first ++ vs'.toArray ++ cap = (first.toList ++ vs' ++ cap.toList).toArray := by
            apply Array.toList_inj.1; simp
          simp only [execOp, hop, resolve, hargs', ex, Deferred.ofValue, Sem.run_bind, run_pure', Result.andThen_ok, invoke]
          rw [hall]
          exact run_callFunc hb
      · simp at h
    · simp at h
  · simp at h
theorem ops_cons {o : Oper} (ho : opAt root p i = some o) : (PI.ops p i).den root = .inRegion (opsOf (sub root p)) (i :: List.range' (i + 1) ((opsOf (sub root p)).size - (i + 1))) := by
  have hi : i < (opsOf (sub root p)).size := (Array.getElem?_eq_some_iff.1 ho).1
  simp only [PI.den]
  rw [show (opsOf (sub root p)).size - i = ((opsOf (sub root p)).size - (i + 1)) + 1 from by omega, List.range'_succ]
theorem wanted_none {o : Oper} {ops : Array Oper} {a : Act} (h : o.guard = none) : Region.wanted o (yielded ops a.tmps) = true := by simp [Region.wanted, h]
theorem Rel.grow {σ : Nat → Nat} {ov : Nat → Value} {a : Act} {w : World} (r : Rel P w0 H st σ ov a w) {w' : World} {H' : Mem} (hb : Below w.heap.size w w') (h1 : HIn H' w') (h2 : ∀ k, H' k ≠ none → H k ≠ none ∨ w.heap.size ≤ k) : Rel P w0 H' st σ ov a w' := by
  have r2 := r.after hb
  refine { size := r.size, defers := r.defers, slots := r.slots, ext := r2.ext, imm := h1, own := r2.own, base := ?_, inj := r.inj }
  intro i c b hc hbb
  refine ⟨(r.base i c b hc hbb).1, ?_⟩
  cases hh : H' b with
  | none => rfl
  | some o =>
    rcases h2 b (by rw [hh]; simp) with h | h
    · exact absurd (r.base i c b hc hbb).2 h
    · have := Chunk.blk_lt (r.own i c hc) hbb; omega
theorem J.call0 {dst : Option Tmp} {g : Nat} {vs : List Value} {v : Value} (hi : callAt P root p i st = some (dst, g, vs)) (hb : callOk P g = true) (hs : Spec0 P g vs H v) (hp' : (putOpt st dst (.c (.val v))).isSome = true)
    (hk : J P f root R w0 H (.ops p (i + 1) :: k) (putST st dst (.c (.val v)))) : J P f root R w0 H (.ops p i :: k) st := by
  intro σ ov a w r
  obtain ⟨o, ho, rfl, hg, hr⟩ := callAt_sound r hb hi
  rw [List.map_cons, ops_cons ho]
  have hp := putST_some hp'
  refine Fin.op_call ho (wanted_none hg) hr ((hs w r.imm).mono fun e w2 hq => ⟨v, hq.1, ?_⟩)
  exact hk σ ov _ w2 (putOpt_sound (r.after hq.2) hp (by simp))
theorem J.call {dst : Option Tmp} {g : Nat} {vs : List Value} {Φ : Mem → Value → Prop} (hi : callAt P root p i st = some (dst, g, vs)) (hb : callOk P g = true) (hs : SpecM P g vs H Φ)
    (hp' : ∀ v, (putOpt st dst (.c (.val v))).isSome = true) (hk : ∀ v H', HLe H H' → Φ H' v → J P f root R w0 H' (.ops p (i + 1) :: k) (putST st dst (.c (.val v)))) : J P f root R w0 H (.ops p i :: k) st := by
  intro σ ov a w r
  obtain ⟨o, ho, rfl, hg, hr⟩ := callAt_sound r hb hi
  rw [List.map_cons, ops_cons ho]
  refine Fin.op_call ho (wanted_none hg) hr ((hs w r.imm).mono fun e w2 hq => ?_)
  obtain ⟨v, H', h1, h2, h3, h4, h5, h6⟩ := hq
  have hp := putST_some (hp' v)
  have hj := hk v H' h3 h6
  exact ⟨v, h1, hj σ ov _ w2 (putOpt_sound (r.grow h2 h4 h5) hp (by simp))⟩

/-! ### loads from memory that nobody writes, and from slices of the call's own -/
def loadAt (P : Program) (root : Code) (p : List Nat) (i : Nat) (st : ST) : Option (Option Tmp × Nat × Nat × Bool × Nat) :=
  match opAt root p i with
  | some o => match o.guard, o.op with
    | none, .load t x => match evalO st none x, aggB P t, szOf P t with
      | some (.c (.val (.pointer (some ⟨b, off, none⟩)))), some g, some n => some (o.dst, b, off, g, n)
      | _, _, _ => none
    | _, _ => none
  | none => none
def rowSV (agg : Bool) (row : List Value) : SV := match agg, row with
  | false, [v] => .c (.val v)
  | _, row => .agg (row.map .val)
theorem run_loadRow {w : World} {t : TypeId} {b off n : Nat} {g : Bool} {row : List Value} (h1 : aggB P t = some g) (h2 : szOf P t = some n) (hc : CellsAt H b off row) (hl : row.length = n) (hg : g = false → n = 1) (hH : HIn H w) (σ : Nat → Nat) (ov : Nat → Value) :
    (loadVar t ⟨b, off, none⟩).run P w = .ok ((rowSV g row).den σ ov) w ∧ (∀ s b v, rowSV g row ≠ .grd s b v) := by
  obtain ⟨cells, e, fr, hb, hcells⟩ := hc
  have hw := hH _ _ hb
  have hcell : ∀ j u, row[j]? = some u → w.cell? ⟨b, off + j, none⟩ = some u := fun j u hj => by simp [World.cell?, hw, hcells j u hj]
  cases g with
  | true =>
    have hl' := run_loadCellsFrom (P := P) (w := w) ⟨b, off, none⟩ rfl n 0 #[] row hl (fun j u hj => by rw [Nat.zero_add]; exact hcell j u hj)
    have hd : (rowSV true row).den σ ov = .agg row.toArray := by
      unfold rowSV
      simp [SV.den, Function.comp_def, SC.den]
    refine ⟨?_, by unfold rowSV; simp⟩
    simp only [loadVar, Sem.run_bind, run_isAgg h1, Result.andThen_ok, if_true, run_szOf h2, loadCells, hl', hd]
    simp [pure, Sem.run]
  | false =>
    have hn := hg rfl
    subst hn
    match row, hl with
    | [v], _ =>
      have h4 := hcell 0 v rfl
      refine ⟨?_, by simp [rowSV]⟩
      simp only [Nat.add_zero] at h4
      simp only [loadVar, Sem.run_bind, run_isAgg h1, Result.andThen_ok, Bool.false_eq_true, if_false, load, Sem.run, h4]
      rfl
theorem J.load {dst : Option Tmp} {b off n : Nat} {g : Bool} {row : List Value} (hi : loadAt P root p i st = some (dst, b, off, g, n)) (hc : CellsAt H b off row) (hl : row.length = n) (hg : (g || Nat.beq n 1) = true) (hp' : (putOpt st dst (rowSV g row)).isSome = true)
    (hk : J P f root R w0 H (.ops p (i + 1) :: k) (putST st dst (rowSV g row))) : J P f root R w0 H (.ops p i :: k) st := by
  intro σ ov a w r
  have hp := putST_some hp'
  unfold loadAt at hi
  split at hi
  · rename_i o ho
    split at hi
    · rename_i t x hgd hop
      split at hi
      · rename_i b' off' g' n' hx h1 h2
        simp only [Option.some.injEq, Prod.mk.injEq] at hi
        obtain ⟨rfl, rfl, rfl, rfl, rfl⟩ := hi
        have e1 : a.eval x = .pointer (some ⟨b', off', none⟩) := (evalO_sound r (g := none) trivial hx).1
        obtain ⟨hr, hn⟩ := run_loadRow h1 h2 hc hl (fun he => by rw [he] at hg; simpa using Nat.eq_of_beq_eq_true (by simpa using hg)) r.imm σ ov
        rw [List.map_cons, ops_cons ho]
        refine Fin.op_value ho (wanted_none hgd) (v := (rowSV g' row).den σ ov) (w' := w) ?_ (hk σ ov _ w (putOpt_sound r hp hn))
        obtain ⟨d, op, ty, pos, after, gd⟩ := o
        simp only at hop
        subst hop
        simp only [execOp, e1]
        refine run_value ?_
        simp only [Instr.loadAt, Instr.sureAddr, Sem.run_bind, run_pure', Result.andThen_ok, hr]
      · simp at hi
    · simp at hi
  · simp at hi
def loadOwnAt (P : Program) (root : Code) (p : List Nat) (i : Nat) (st : ST) : Option (Option Tmp × List Value × Nat × Bool × Nat) :=
  match opAt root p i with
  | some o => match o.guard, o.op with
    | none, .load t x => match evalO st none x, aggB P t, szOf P t with
      | some (.c (.loc j off)), some g, some n => match st.ck[j]? with
        | some (.own _ _ _ xs) => some (o.dst, xs, off, g, n)
        | _ => none
      | _, _, _ => none
    | _, _ => none
  | none => none
theorem J.loadOwn {dst : Option Tmp} {xs : List Value} {off n : Nat} {g : Bool} {row : List Value} (hi : loadOwnAt P root p i st = some (dst, xs, off, g, n)) (hc : ∀ m u, row[m]? = some u → xs[off + m]? = some u) (hl : row.length = n) (h0 : 0 < n) (hg : (g || Nat.beq n 1) = true) (hp' : (putOpt st dst (rowSV g row)).isSome = true)
    (hk : J P f root R w0 H (.ops p (i + 1) :: k) (putST st dst (rowSV g row))) : J P f root R w0 H (.ops p i :: k) st := by
  intro σ ov a w r
  have hp := putST_some hp'
  unfold loadOwnAt at hi
  split at hi
  · rename_i o ho
    split at hi
    · rename_i t x hgd hop
      split at hi
      · rename_i j off' g' n' hx h1 h2
        split at hi
        · rename_i e sz m xs' hck
          simp only [Option.some.injEq, Prod.mk.injEq] at hi
          obtain ⟨rfl, rfl, rfl, rfl, rfl⟩ := hi
          have e1 : a.eval x = .pointer (some ⟨σ j, off', none⟩) := (evalO_sound r (g := none) trivial hx).1
          have hown := r.own j _ hck
          have hcells : ∃ cells e fr, w.heap[σ j]? = some (.cells cells e fr) ∧ ∀ l u, row[l]? = some u → cells[off' + l]? = some u := by
            rcases hown.1.2 with ⟨_, rfl⟩ | ⟨g, cap, cur, q1, q2, q3, q4, q5, q6, q7⟩
            · exfalso
              have hx0 : xs' = [] := List.eq_nil_of_length_eq_zero (by simpa using hown.1.1)
              subst hx0
              cases row with
              | nil => simp at hl; omega
              | cons u row => have := hc 0 u rfl; simp at this
            · have hs : σ j = g := hown.2 g (by rw [q1]; rfl)
              refine ⟨cur, e, (0, 0), by rw [hs]; exact q3, fun l u hu => ?_⟩
              have := hc l u hu
              rw [← q7, List.getElem?_take] at this
              split at this
              · simpa using this
              · cases this
          obtain ⟨cells, e', fr, hw, hcc⟩ := hcells
          obtain ⟨hr, hn⟩ := run_loadRow (H := fun b => w.heap[b]?) h1 h2 ⟨cells, e', fr, hw, hcc⟩ hl (fun he => by rw [he] at hg; simpa using Nat.eq_of_beq_eq_true (by simpa using hg)) (fun _ _ h => h) σ ov
          rw [List.map_cons, ops_cons ho]
          refine Fin.op_value ho (wanted_none hgd) (v := (rowSV g' row).den σ ov) (w' := w) ?_ (hk σ ov _ w (putOpt_sound r hp hn))
          obtain ⟨d, op, ty, pos, after, gd⟩ := o
          simp only at hop
          subst hop
          simp only [execOp, e1]
          refine run_value ?_
          simp only [Instr.loadAt, Instr.sureAddr, Sem.run_bind, run_pure', Result.andThen_ok, hr]
        · simp at hi
      · simp at hi
    · simp at hi
  · simp at hi

/-! ### the end -/
theorem Tree.J.val {v v' : Value} (h : v' = v) : (Tree.ret (.c (.val v')) st).J P f root (fun e w' => e = .returned v ∧ Below w0.heap.size w0 w') w0 H := by
  intro σ ov a w r
  exact ⟨by rw [h]; rfl, r.ext⟩
theorem Tree.J.specVal {v : Value} {Φ : Mem → Value → Prop} (h : Φ H v) : (Tree.ret (.c (.val v)) st).J P f root (SpecEnd w0 H Φ) w0 H := by
  intro σ ov a w r
  exact ⟨v, H, rfl, r.ext, HLe.refl _, r.imm, fun _ h => .inl h, h⟩
/-- A tree without stops comes to v. -/
def Tree.V (v : Value) : Tree → Prop
  | .ret (.c (.val u)) _ => u = v
  | .ite b t e => (b = true → t.V v) ∧ (b = false → e.V v)
  | .need p t => p ∧ t.V v
  | _ => False
theorem Tree.V.j {v : Value} : ∀ {t : Tree}, t.V v → t.J P f root (R0 w0 v) w0 H
  | .ret (.c (.val _)) _, h => Tree.J.val h
  | .ret (.c (.loc _ _)) _, h => h.elim
  | .ret (.c (.own _)) _, h => h.elim
  | .ret (.agg _) _, h => h.elim
  | .ret (.fn _ _ _) _, h => h.elim
  | .ret (.grd _ _ _) _, h => h.elim
  | .ite b t e, h => ⟨fun hb => Tree.V.j (h.1 hb), fun hb => Tree.V.j (h.2 hb)⟩
  | .need p t, h => ⟨h.1, Tree.V.j h.2⟩
  | .stop _ _, h => h.elim
theorem pure_of {fn : Func} {tab : Tab} {vs : List Value} {v : Value} (ht : TabOk P tab) (hf : P.funcs[f]? = some fn) (hb : fn.body.isSome = true) (hn : Nat.ble vs.length fn.ntmps = true) {t : Tree}
    (he : exec P tab fn (bodyOf fn) 1000 [.code []] (initST fn.ntmps vs) = t) (h : t.V v) : PureC P f vs v :=
  (Spec0.of (H := fun _ => none) hf (body_some hb) hn fun _ => J.go ht hf 1000 he h.j).pure
/-- Rows that are written one behind the other. -/
theorem rows_flat {sz : Nat} : ∀ {rows : List (List Value)}, (∀ r ∈ rows, r.length = sz) → ∀ (j : Nat) row, rows[j]? = some row → ∀ m u, row[m]? = some u → rows.flatten[j * sz + m]? = some u
  | [], _, j, row, hj, m, u, hu => by simp at hj
  | r :: rows, hr, 0, row, hj, m, u, hu => by
    simp only [List.getElem?_cons_zero, Option.some.injEq] at hj
    subst hj
    rw [Nat.zero_mul, Nat.zero_add, List.flatten_cons, List.getElem?_append_left (List.getElem?_eq_some_iff.1 hu).1]; exact hu
  | r :: rows, hr, j + 1, row, hj, m, u, hu => by
    simp only [List.getElem?_cons_succ] at hj
    have ih := rows_flat (fun r h => hr r (List.mem_cons_of_mem _ h)) j row hj m u hu
    have hl := hr r List.mem_cons_self
    rw [List.flatten_cons, List.getElem?_append_right (by rw [hl, Nat.add_mul]; omega)]
    rw [show (j + 1) * sz + m - r.length = j * sz + m from by rw [hl, Nat.add_mul]; omega]; exact ih
/-- A slice of the call's own, handed out: nobody writes it any more. -/
theorem own_freeze {σ : Nat → Nat} {ov : Nat → Value} {a : Act} {w : World} (r : Rel P w0 H st σ ov a w) {j e sz n : Nat} {xs : List Value} (hck : st.ck[j]? = some (.own e sz n xs)) {rows : List (List Value)} (hx : xs = rows.flatten) (hr : ∀ r ∈ rows, r.length = sz) (hn : n = rows.length) :
    ∃ H' : Mem, HLe H H' ∧ HIn H' w ∧ (∀ k, H' k ≠ none → H k ≠ none ∨ w0.heap.size ≤ k) ∧ (∀ k, H' k ≠ none → H k ≠ none ∨ (ov j).ownBlock = some k) ∧ SliceH H' sz (ov j) rows := by
  have h := (r.own j _ hck).1
  rcases h.2 with ⟨h1, h2⟩ | ⟨g, cap, cur, q1, q2, q3, q4, q5, q6, q7⟩
  · refine ⟨H, HLe.refl _, r.imm, fun _ h => .inl h, fun _ h => .inl h, .inl ⟨h1, ?_⟩⟩
    have : rows.length = 0 := by omega
    exact List.eq_nil_of_length_eq_zero this
  · refine ⟨fun k => if k = g then some (.cells cur e (0, 0)) else H k, ?_, ?_, ?_, ?_, ?_⟩
    · intro k o hk
      have : k ≠ g := fun he => by subst he; rw [(r.base j _ k hck (by simp [Chunk.blk, q1, Value.ownBlock])).2] at hk; cases hk
      simp [this, hk]
    · intro k o hk
      by_cases he : k = g
      · subst he; simp at hk; subst hk; exact q3
      · simp [he] at hk; exact r.imm k o hk
    · intro k hk
      by_cases he : k = g
      · exact .inr (he ▸ q2)
      · simp [he] at hk; exact .inl hk
    · intro k hk
      by_cases he : k = g
      · exact .inr (by rw [q1, he]; rfl)
      · simp [he] at hk; exact .inl hk
    · refine .inr ⟨g, 0, cap, by rw [q1, hn], by omega, q5, fun i row hi => ⟨hr row (List.mem_of_getElem? hi), cur, e, (0, 0), by simp, fun m u hu => ?_⟩⟩
      have := rows_flat hr i row hi m u hu
      rw [← hx, ← q7, List.getElem?_take] at this
      split at this
      · simpa using this
      · cases this
theorem Tree.J.specOwn {j e sz n : Nat} {xs : List Value} {Φ : Mem → Value → Prop} (hck : st.ck[j]? = some (.own e sz n xs)) (rows : List (List Value)) (hx : xs = rows.flatten) (hr : ∀ r ∈ rows, r.length = sz) (hn : n = rows.length)
    (h : ∀ H' v, HLe H H' → SliceH H' sz v rows → Φ H' v) : (Tree.ret (.c (.own j)) st).J P f root (SpecEnd w0 H Φ) w0 H := by
  intro σ ov a w r
  obtain ⟨H', h1, h2, h3, _, h4⟩ := own_freeze r hck hx hr hn
  exact ⟨ov j, H', rfl, r.ext, h1, h2, h3, h H' _ h1 h4⟩
/-- An equal state. -/
theorem J.eq (h : st = st') (hk : J P f root R w0 H todo st') : J P f root R w0 H todo st := h ▸ hk
end
end Go.Sy

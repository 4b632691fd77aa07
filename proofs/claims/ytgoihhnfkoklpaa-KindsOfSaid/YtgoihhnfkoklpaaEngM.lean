/- An executor for function bodies of the model, part M: what a prover owes for calls, empty slices and copies in a region whose order is open; function values. Conditions: each rule's own. -/
import Derived.Test.YtgoihhnfkoklpaaEngL
namespace Go.Sy
open Go.RowKit

section
variable {P : Program} {w0 : World} {H : Mem} {f : FuncId} {root : Code} {R : Ending → World → Prop} {st : ST} {p : List Nat} {i : Nat} {k : List PI} {ops : Array Oper} {base : ST} {fs : List FV}
/-- A call in such a region: what it is called with is read off the state. -/
def callOp (P : Program) (st : ST) (o : Option Oper) : Option (Nat × List Value) :=
  match o with
  | some o => match o.op with
    | .call { callee := .value (.func g), args := args, argTypes := _ } => match valsOf (args.toList.map (evalO st none)) with
      | some vs => bif callOk P g then some (g, vs) else none
      | none => none
    | _ => none
  | none => none
theorem exCall {Φ : Mem → Value → Prop} (h : ∀ H1, HLe H H1 → ∀ vs : Nat → Value, (∀ j ∈ anc ops ops.size i, ∀ Ψ, fs[j]? = some (.ex Ψ) → Ψ H1 (vs j)) →
    ∃ g args, callOp P (withSlots base (slotsOf ops fs vs true (anc ops ops.size i))) (ops[i]?) = some (g, args) ∧ SpecM P g args H1 Φ) : ExDo P w0 ops base fs H i Φ := by
  intro o ho H1 hH1 vs hvs σ ov a w r
  obtain ⟨g, args, hc, hs⟩ := h H1 hH1 vs hvs
  rw [ho] at hc
  unfold callOp at hc
  simp only at hc
  split at hc
  · rename_i g' as ts hop
    split at hc
    · rename_i vs' hv
      cases hb : callOk P g'
      · rw [hb] at hc; simp at hc
      · rw [hb] at hc
        simp only [cond_true, Option.some.injEq, Prod.mk.injEq] at hc
        obtain ⟨rfl, rfl⟩ := hc
        refine .inr ⟨_, _, w, run_call r hop rfl (valsOf_sound r (g := none) trivial _ _ hv) hb, (hs w r.imm).mono fun e w2 hq => ?_⟩
        obtain ⟨v, H', h1, h2, h3, h4, h5, h6⟩ := hq
        exact ⟨v, h1, H', h3, h4, h2, h5, h6⟩
    · simp at hc
  · simp at hc
theorem Spec0.spec {g : Nat} {vs : List Value} {v : Value} (h : Spec0 P g vs H v) : SpecM P g vs H (fun _ u => u = v) := fun w hw =>
  (h w hw).mono fun e w2 hq => ⟨v, H, hq.1, hq.2, HLe.refl _, fun k o hk => by rw [hq.2.block k (Array.getElem?_eq_some_iff.1 (hw k o hk)).1]; exact hw k o hk, fun _ h => .inl h, rfl⟩
theorem SpecM.weak {g : Nat} {vs : List Value} {Φ Ψ : Mem → Value → Prop} (h : SpecM P g vs H Φ) (hi : ∀ H' v, HLe H H' → Φ H' v → Ψ H' v) : SpecM P g vs H Ψ := fun w hw =>
  (h w hw).mono fun e w2 hq => by
    obtain ⟨v, H', h1, h2, h3, h4, h5, h6⟩ := hq
    exact ⟨v, H', h1, h2, h3, h4, h5, hi H' v h3 h6⟩
theorem mono_eq (v : Value) : Mono (fun _ u => u = v) := fun _ _ _ _ h => h
theorem mono_slice (sz : Nat) (rows : List (List Value)) : Mono (fun H v => SliceH H sz v rows) := fun _ _ _ hl h => h.mono hl

/-- A load out of a slice of the call's own: what it is. -/
def exLoadOwnAt (P : Program) (st : ST) (o : Option Oper) : Option (List Value × Nat) :=
  match o with
  | some o => match o.op with
    | .load t x => match evalO st none x, aggB P t, szOf P t with
      | some (.c (.loc j off)), some false, some 1 => match st.ck[j]? with
        | some (.own _ _ _ xs) => some (xs, off)
        | _ => none
      | _, _, _ => none
    | _ => none
  | none => none
theorem exLoadOwn {xs : List Value} {off : Nat} {v : Value} (h : ∀ vs : Nat → Value, exLoadOwnAt P (withSlots base (slotsOf ops fs vs true (anc ops ops.size i))) (ops[i]?) = some (xs, off)) (hv : xs[off]? = some v) : ExDo P w0 ops base fs H i (fun _ u => u = v) := by
  intro o ho H1 hH1 vs hvs σ ov a w r
  have hc := h vs
  rw [ho] at hc
  unfold exLoadOwnAt at hc
  simp only at hc
  split at hc
  · rename_i t x hop
    split at hc
    · rename_i j off' hx h1 h2
      split at hc
      · rename_i e sz m xs' hck
        simp only [Option.some.injEq, Prod.mk.injEq] at hc
        obtain ⟨rfl, rfl⟩ := hc
        have e1 : a.eval x = .pointer (some ⟨σ j, off', none⟩) := (evalO_sound r (g := none) trivial hx).1
        have hown := r.own j _ hck
        have hcells : ∃ cells e fr, w.heap[σ j]? = some (.cells cells e fr) ∧ ∀ l u, [v][l]? = some u → cells[off' + l]? = some u := by
          rcases hown.1.2 with ⟨_, rfl⟩ | ⟨g, cap, cur, q1, q2, q3, q4, q5, q6, q7⟩
          · exfalso
            have hx0 : xs' = [] := List.eq_nil_of_length_eq_zero (by simpa using hown.1.1)
            subst hx0; simp at hv
          · have hs : σ j = g := hown.2 g (by rw [q1]; rfl)
            refine ⟨cur, e, (0, 0), by rw [hs]; exact q3, fun l u hu => ?_⟩
            cases l with
            | zero =>
              simp at hu; subst hu
              rw [← q7, List.getElem?_take] at hv
              split at hv
              · simpa using hv
              · cases hv
            | succ l => simp at hu
        obtain ⟨cells, e', fr, hw, hcc⟩ := hcells
        obtain ⟨hr, _⟩ := run_loadRow (H := fun b => w.heap[b]?) h1 h2 ⟨cells, e', fr, hw, hcc⟩ rfl (fun _ => rfl) (fun _ _ h => h) σ ov
        refine .inl ⟨v, w, ?_, H1, HLe.refl _, r.imm, Below.refl _ _, fun _ h => .inl h, rfl⟩
        obtain ⟨d, op, ty, pos, aft, gd⟩ := o
        simp only at hop
        subst hop
        simp only [execOp, e1]
        refine run_value ?_
        simp only [Instr.loadAt, Instr.sureAddr, Sem.run_bind, run_pure', Result.andThen_ok, hr]
        rfl
      · simp at hc
    · simp at hc
  · simp at hc

/-! ### []T{} and append([]T{}, x...) -/
def IsEmpty (_ : Mem) (v : Value) : Prop := ∃ b, v = .slice (some ⟨b, 0, none⟩) 0 0
theorem mono_empty : Mono IsEmpty := fun _ _ _ _ h => h
def emptyAt (P : Program) (o : Option Oper) : Bool :=
  match o with
  | some o => match o.op with
    | .buildSlice t 0 parts => match P.underlying t with
      | some (.slice e) => parts.toList.isEmpty && (szOf P e).isSome
      | _ => false
    | _ => false
  | none => false
theorem exEmpty (h : emptyAt P (ops[i]?) = true) : ExDo P w0 ops base fs H i IsEmpty := by
  intro o ho H1 hH1 vs hvs σ ov a w r
  rw [ho] at h
  unfold emptyAt at h
  simp only at h
  split at h
  · rename_i t parts hop
    split at h
    · rename_i e hu
      simp only [Bool.and_eq_true] at h
      obtain ⟨n, hn⟩ := Option.isSome_iff_exists.1 h.2
      have hp : parts = #[] := by
        have := h.1
        cases parts; simp_all
      subst hp
      obtain ⟨d, op, ty, pos, aft, gd⟩ := o
      simp only at hop
      subst hop
      refine .inl ⟨.slice (some ⟨w.heap.size, 0, none⟩) 0 0, w.alloc (.cells #[] e), ?_, H1, HLe.refl _, fun k x hk => ?_, (Below.refl _ _).alloc (Nat.le_refl _) _, fun _ h => .inl h, ⟨_, rfl⟩⟩
      · simp only [execOp]
        refine run_value ?_
        have hr : Array.range 0 = #[] := rfl
        simp only [Instr.buildSlice, Sem.run_bind, run_underlying hu, Result.andThen_ok, run_szOf hn, Nat.zero_mul, if_true, run_pure', hr, Array.map_empty, Instr.fill, List.map_toArray, List.map_nil]
        rfl
      · have := r.imm k x hk
        rw [Below.heap_alloc w _ k (Array.getElem?_eq_some_iff.1 this).1]; exact this
    · simp at h
  · simp at h
/-- append([]T{}, x...): the elements' slots in the state; x: a slice in memory that nobody writes. -/
def appAt (P : Program) (st : ST) (o : Option Oper) : Option (Value × Value × Nat × Nat) :=
  match o with
  | some o => match o.op with
    | .call { callee := .builtin .append, args := args, argTypes := ts } => match args.toList, ts.toList with
      | [x, y], [t, t'] => match evalO st none x, evalO st none y, P.underlying t with
        | some (.c (.val vx)), some (.c (.val vy)), some (.slice e) => match P.info? e with
          | some i => match i.zero with
            | some z => bif Nat.beq t t' && Nat.beq z.cells.toList.length i.size && Nat.blt 0 i.size then some (vx, vy, i.size, i.bytes) else none
            | none => none
          | none => none
        | _, _, _ => none
      | _, _ => none
    | _ => none
  | none => none
theorem append_empty {w : World} {t e : TypeId} {ty : TypeId} {inf : TypeInfo} {z : Value} (ht : P.underlying t = some (.slice e)) (hi : P.info? e = some inf) (hz : inf.zero = some z) (hzs : z.cells.size = inf.size) (hsz : 0 < inf.size)
    {b : Nat} {vy : Value} {rows : List (List Value)} {H1 : Mem} (hin : HIn H1 w) (hv : SliceH H1 inf.size vy rows) (hbytes : rows.length * inf.bytes ≤ 140737488355328) (hlen : rows.length ≤ maxLen) :
    ∃ v w', (Builtin.append_ #[t, t] ty #[.slice (some ⟨b, 0, none⟩) 0 0, vy]).run P w = .ok v w' ∧ Grows H1 w (fun H v => SliceH H inf.size v rows) v w' := by
  have hnil : ∀ (ao : Option Addr) (c : Nat), (∀ a, ao = some a → True) → rows = [] → (vy = .slice ao 0 c) → ∃ v w', (Builtin.append_ #[t, t] ty #[.slice (some ⟨b, 0, none⟩) 0 0, vy]).run P w = .ok v w' ∧ Grows H1 w (fun H v => SliceH H inf.size v rows) v w' := by
    intro ao c _ hr hy
    subst hr; subst hy
    refine ⟨.slice (some ⟨b, 0, none⟩) 0 0, w, ?_, H1, HLe.refl _, hin, Below.refl _ _, fun _ h => .inl h, .inr ⟨b, 0, 0, rfl, Nat.le_refl _, Nat.zero_le _, fun j row hj => by simp at hj⟩⟩
    cases ao with
    | none => simp [Builtin.append_, run_underlying ht, sizeOf, typeInfo, hi, Builtin.lenOf, Builtin.firstCells, storeCells]
    | some a => simp [Builtin.append_, run_underlying ht, sizeOf, typeInfo, hi, Builtin.lenOf, Builtin.firstCells, loadCells, loadCellsFrom, storeCells]
  rcases hv with ⟨rfl, hr⟩ | ⟨b', off, cap, rfl, h1, h2, h3⟩
  · exact hnil none 0 (fun _ _ => trivial) hr rfl
  · by_cases h0 : rows = []
    · exact hnil (some ⟨b', off, none⟩) cap (fun _ _ => trivial) h0 (by rw [h0]; rfl)
    · have hpos : 0 < rows.length := List.length_pos_iff.2 h0
      have hall : ∀ r ∈ rows, r.length = inf.size := by
        intro r hr
        obtain ⟨j, hj, rfl⟩ := List.getElem_of_mem hr
        exact (h3 j _ (List.getElem?_eq_getElem hj)).1
      have hflat : rows.flatten.length = rows.length * inf.size := by
        clear hnil h1 h2 h3 h0 hpos hbytes hlen
        induction rows with
        | nil => simp
        | cons r rs ih => simp only [List.flatten_cons, List.length_append, List.length_cons, hall r List.mem_cons_self, ih (fun x hx => hall x (List.mem_cons_of_mem _ hx)), Nat.add_mul]; omega
      have hcells : ∀ j u, rows.flatten[j]? = some u → w.cell? ((⟨b', off, none⟩ : Addr).add j) = some u := by
        intro j u hu
        have hj : j < rows.length * inf.size := by have := (List.getElem?_eq_some_iff.1 hu).1; omega
        have hq : j / inf.size < rows.length := Nat.div_lt_of_lt_mul (by rw [Nat.mul_comm]; exact hj)
        have hrow : rows[j / inf.size]? = some rows[j / inf.size] := List.getElem?_eq_getElem hq
        obtain ⟨hl, cells, e', fr, hb, hc⟩ := h3 _ _ hrow
        have hm : j % inf.size < inf.size := Nat.mod_lt _ hsz
        have hjj : j / inf.size * inf.size + j % inf.size = j := Nat.div_add_mod' j inf.size
        have hru : rows[j / inf.size][j % inf.size]? = some u := by
          have h5 := rows_flat hall (j / inf.size) _ hrow (j % inf.size) (rows[j / inf.size][j % inf.size]'(by rw [hl]; exact hm)) (List.getElem?_eq_getElem _)
          rw [hjj, hu] at h5
          rw [List.getElem?_eq_getElem (by rw [hl]; exact hm)]
          exact h5.symm
        have := hc _ _ hru
        rw [show off + j / inf.size * inf.size + j % inf.size = off + j from by omega] at this
        rw [addr_add]
        simp [World.cell?, hin _ _ hb, this]
      have hgr := run_append_grow (P := P) w t ty e inf z ht hi hz ⟨b, 0, none⟩ 0 0 [] (by simp) (by simp) ⟨b', off, none⟩ rows.length cap rows.flatten hflat hcells (by omega) (by unfold maxLen at hlen; omega) (growslice_fits (by omega) (by rw [Nat.zero_add]; exact hbytes))
      simp only [Nat.zero_add] at hgr
      have hcap := grownCap_ge w rows.length 0 e
      refine ⟨_, _, hgr, fun k => if k = w.heap.size then some (.cells (#[] ++ rows.flatten.toArray ++ Builtin.zeroCells z.cells (grownCap w rows.length 0 e - rows.length)) e) else H1 k, ?_, ?_, ?_, ?_, ?_⟩
      · intro k o hk
        have : k ≠ w.heap.size := by have := (Array.getElem?_eq_some_iff.1 (hin k o hk)).1; omega
        simp [this, hk]
      · intro k o hk
        by_cases he : k = w.heap.size
        · subst he
          simp only [if_true, Option.some.injEq] at hk
          subst hk
          exact heap_alloc_new w.drew _
        · simp only [he, if_false] at hk
          have := hin k o hk
          have hlt := (Array.getElem?_eq_some_iff.1 this).1
          rw [Below.heap_alloc w.drew _ k hlt]; exact this
      · exact ((Below.refl _ _).drew).alloc (Nat.le_refl _) _
      · intro k hk
        by_cases he : k = w.heap.size
        · exact .inr (by omega)
        · simp only [he, if_false] at hk; exact .inl hk
      · refine .inr ⟨w.heap.size, 0, _, rfl, hcap, grownCap_le_maxLen w _ _ _ hlen, fun j row hj => ⟨(h3 j row hj).1, _, e, (0, 0), if_pos rfl, fun m u hu => ?_⟩⟩
        have h5 := rows_flat hall j row hj m u hu
        have hlt := (List.getElem?_eq_some_iff.1 h5).1
        rw [Nat.zero_add, Array.getElem?_append_left (by simp; simpa using hlt)]
        simpa using h5
theorem exAppend {rows : List (List Value)} {sz bytes : Nat} (h : ∀ H1, HLe H H1 → ∀ vs : Nat → Value, (∀ j ∈ anc ops ops.size i, ∀ Ψ, fs[j]? = some (.ex Ψ) → Ψ H1 (vs j)) →
    ∃ vx vy, appAt P (withSlots base (slotsOf ops fs vs true (anc ops ops.size i))) (ops[i]?) = some (vx, vy, sz, bytes) ∧ IsEmpty H1 vx ∧ SliceH H1 sz vy rows ∧ rows.length * bytes ≤ 140737488355328 ∧ rows.length ≤ maxLen) :
    ExDo P w0 ops base fs H i (fun H v => SliceH H sz v rows) := by
  intro o ho H1 hH1 vs hvs σ ov a w r
  obtain ⟨vx, vy, hc, ⟨b, rfl⟩, hs, hb, hl⟩ := h H1 hH1 vs hvs
  rw [ho] at hc
  unfold appAt at hc
  simp only at hc
  split at hc
  · rename_i args ts hop
    split at hc
    · rename_i x y t t' hargs hts
      split at hc
      · rename_i vx' vy' e hx hy hu
        split at hc
        · rename_i inf hi
          split at hc
          · rename_i z hz
            cases hbb : (Nat.beq t t' && Nat.beq z.cells.toList.length inf.size && Nat.blt 0 inf.size)
            · rw [hbb] at hc; simp at hc
            · rw [hbb] at hc
              simp only [cond_true, Option.some.injEq, Prod.mk.injEq] at hc
              obtain ⟨rfl, rfl, rfl, rfl⟩ := hc
              simp only [Bool.and_eq_true] at hbb
              have q1 := Nat.eq_of_beq_eq_true hbb.1.1
              have q2 := Nat.eq_of_beq_eq_true hbb.1.2
              have q3 : 0 < inf.size := Nat.le_of_ble_eq_true hbb.2
              subst q1
              have ea : args = #[x, y] := by cases args; simp_all
              have et : ts = #[t, t] := by cases ts; simp_all
              subst ea; subst et
              have e1 : a.eval x = .slice (some ⟨b, 0, none⟩) 0 0 := (evalO_sound r (g := none) trivial hx).1
              have e2 : a.eval y = vy' := (evalO_sound r (g := none) trivial hy).1
              obtain ⟨d, op, ty, pos, aft, gd⟩ := o
              simp only at hop
              subst hop
              obtain ⟨v, w', hr, hg⟩ := append_empty (P := P) (ty := ty) (b := b) hu hi hz (by rw [← Array.length_toList]; exact q2) q3 r.imm hs hb hl
              exact .inl ⟨v, w', run_append_call e1 e2 hr, hg⟩
          · simp at hc
        · simp at hc
      · simp at hc
    · simp at hc
  · simp at hc
end
end Go.Sy

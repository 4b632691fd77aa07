/- An executor for function bodies of the model, part H: one operation, whichever. Conditions: each operation's own, told as a proposition. -/
import Derived.Test.YtgoihhnfkoklpaaEngG
namespace Go.Sy
open Go.RowKit

def ownOk (st : ST) : SC → Bool
  | .own i => match st.ck[i]? with | some (.own _ _ _ _) => true | _ => false
  | _ => true
def oneC : SC → Bool
  | .val (.agg _) => false
  | .val (.tuple _) => false
  | _ => true
/-- The parts of a struct or a slice that is written out, as values. -/
def partVals (st : ST) (g : Option (Nat × Bool)) : List (Nat × Operand) → Option (List (Nat × Value))
  | [] => some []
  | (i, x) :: r => match (evalO st g x).bind SV.toVal, partVals st g r with
    | some v, some l => some ((i, v) :: l)
    | _, _ => none
/-- 'Instr.fill' on lists: what the kernel reckons with. -/
def fillL (place : Nat → Option (Nat × Nat)) (cells : List Value) : List (Nat × Value) → Option (List Value)
  | [] => some cells
  | (i, v) :: rest => match place i with
    | none => none
    | some (off, size) => bif Nat.beq v.cells.toList.length size && Nat.ble (off + v.cells.toList.length) cells.length then fillL place (cells.take off ++ v.cells.toList ++ cells.drop (off + v.cells.toList.length)) rest else none
theorem splice_fold : ∀ (cs : List Value) (k off : Nat) (cells : Array Value), off + k + cs.length ≤ cells.size →
    ((cs.zipIdx k).foldl (fun (acc : Array Value) (p : Value × Nat) => acc.setIfInBounds (off + p.2) p.1) cells).toList = cells.toList.take (off + k) ++ cs ++ cells.toList.drop (off + k + cs.length)
  | [], k, off, cells, h => by simp
  | c :: cs, k, off, cells, h => by
    simp only [List.length_cons] at h
    simp only [List.zipIdx_cons, List.foldl_cons]
    rw [splice_fold cs (k + 1) off _ (by rw [Array.size_setIfInBounds]; omega)]
    simp only [Array.toList_setIfInBounds, List.length_cons]
    have hlt : off + k < cells.toList.length := by rw [Array.length_toList]; omega
    rw [List.take_set, List.drop_set]
    rw [show off + (k + 1) = off + k + 1 from by omega]
    rw [List.take_succ_eq_append_getElem hlt]
    rw [List.set_append_right _ _ (by simp only [List.length_take]; omega)]
    have hl : (List.take (off + k) cells.toList).length = off + k := by rw [List.length_take]; omega
    simp only [hl, Nat.sub_self, List.set_cons_zero]
    rw [if_pos (by omega)]
    have e3 : off + k + 1 + cs.length = off + k + (cs.length + 1) := by omega
    rw [e3]
    simp
theorem fill_eq (place : Nat → Option (Nat × Nat)) : ∀ (ps : List (Nat × Value)) (cells r : List Value), fillL place cells ps = some r → Instr.fill place cells.toArray ps = some r.toArray
  | [], cells, r, h => by simp [fillL] at h; subst h; rfl
  | (i, v) :: ps, cells, r, h => by
    simp only [fillL] at h
    split at h
    · simp at h
    · rename_i off size hp
      cases hb : (Nat.beq v.cells.toList.length size && Nat.ble (off + v.cells.toList.length) cells.length)
      · rw [hb] at h; simp at h
      · rw [hb] at h
        simp only [cond_true] at h
        simp only [Bool.and_eq_true] at hb
        have h1 := Nat.eq_of_beq_eq_true hb.1
        have h2 := Nat.le_of_ble_eq_true hb.2
        rw [Array.length_toList] at h1 h2
        have ih := fill_eq place ps _ r h
        unfold Instr.fill
        simp only [hp]
        have hc : (decide (v.cells.size ≠ size) || decide (off + v.cells.size > cells.toArray.size)) = false := by
          simp [h1]; omega
        simp only [List.size_toArray] at hc ⊢
        rw [if_neg (by simp [h1]; omega)]
        rw [← ih]
        congr 1
        apply Array.toList_inj.1
        rw [← Array.foldl_toList, Array.toList_zipIdx]
        have := splice_fold v.cells.toList 0 off cells.toArray (by simp [Array.length_toList]; omega)
        simpa using this
def zerosL (len : Nat) (z : List Value) : List Value := (List.range len).map fun i => (z[i % z.length]?).getD default
theorem zerosL_eq (len : Nat) (z : List Value) : (Array.range len).map (z.toArray[· % z.length]!) = (zerosL len z).toArray := by
  apply Array.toList_inj.1
  simp [zerosL]
def zerosOf (P : Program) (t : TypeId) : Option (List Value) := (P.info? t).bind fun i => i.zero.map fun z => z.cells.toList
/-- Memory operations of the call's own: the result's value, the chunks behind. -/
def opM (P : Program) (st : ST) : Op → Option (SV × List Chunk)
  | .box e x => match (evalO st none x), szOf P e with
    | some sv, some n => match sv.toCells with
      | some cs => bif Nat.beq cs.length n && st.wf && cs.all (SC.lt st.ck.length) && cs.all (ownOk st) then some (.c (.loc st.ck.length 0), st.ck ++ [.cells cs e]) else none
      | none => none
    | _, _ => none
  | .alloc e => match zerosOf P e with
    | some z => bif st.wf then some (.c (.loc st.ck.length 0), st.ck ++ [.cells (z.map .val) e]) else none
    | none => none
  | .buildSlice t len parts => match P.underlying t with
    | some (.slice e) => match szOf P e, zerosOf P e, partVals st none parts.toList with
      | some n, some z, some ps =>
        match fillL (fun i => some (i * n, n)) (zerosL (len * n) z) ps with
        | some cells => bif st.wf && Nat.ble (len * n) 16777216 && Nat.beq cells.length (len * n) && Nat.blt 0 n then some (.c (.own st.ck.length), st.ck ++ [.own e n len cells]) else none
        | none => none
      | _, _, _ => none
    | _ => none
  | _ => none
/-- A store into a block of the call's own. -/
def opS (P : Program) (st : ST) : Op → Option (List Chunk)
  | .store t ad x => match evalO st none ad, evalO st none x, szOf P t with
    | some (.c (.loc i off)), some sv, some n => match sv.toCells, st.ck[i]? with
      | some vs, some (.cells cs e) =>
        bif Nat.beq vs.length n && Nat.ble (off + n) cs.length && vs.all oneC && vs.all (ownOk st) then some (st.ck.set i (.cells (cs.take off ++ vs ++ cs.drop (off + n)) e)) else none
      | _, _ => none
    | _, _, _ => none
  | _ => none
/-- How values are put together: a struct whose parts are values. -/
def opB (P : Program) (st : ST) (g : Option (Nat × Bool)) : Op → Option SV
  | .build t parts => match P.underlying t, zerosOf P t, partVals st g parts.toList with
    | some (.struct fs), some z, some ps => match szList P fs.toList with
      | some places => match fillL (places[·]?) z ps with
        | some cells => some (.c (.val (.agg cells.toArray)))
        | none => none
      | none => none
    | some (.array _ e), some z, some ps => match szOf P e with
      | some n => match fillL (fun i => some (i * n, n)) z ps with
        | some cells => some (.c (.val (.agg cells.toArray)))
        | none => none
      | none => none
    | _, _, _ => none
  | _ => none
where szList (P : Program) : List Field → Option (List (Nat × Nat))
  | [] => some []
  | f :: r => match szOf P f.type, szList P r with
    | some n, some l => some ((f.offset, n) :: l)
    | _, _ => none

section
variable {P : Program} {w0 : World} {H : Nat → Option Obj} {st : ST} {σ : Nat → Nat} {ov : Nat → Value} {a : Act} {w : World}
theorem partVals_sound (r : Rel P w0 H st σ ov a w) {g : Option (Nat × Bool)} (hg : GuardOn a g) : ∀ (l : List (Nat × Operand)) (ps : List (Nat × Value)), partVals st g l = some ps → l.map (fun p => (p.1, a.eval p.2)) = ps
  | [], ps, h => by simp [partVals] at h; subst h; rfl
  | (i, x) :: l, ps, h => by
    simp only [partVals] at h
    split at h
    · rename_i v l' h1 h2
      simp only [Option.some.injEq] at h
      subst h
      simp only [Option.bind_eq_some_iff] at h1
      obtain ⟨sv, h3, h4⟩ := h1
      simp only [List.map_cons, List.cons.injEq, Prod.mk.injEq, true_and]
      exact ⟨by rw [(evalO_sound r hg h3).1, toVal_den h4], partVals_sound r hg l l' h2⟩
    · simp at h
theorem run_zero {P : Program} {w : World} {t : TypeId} {z : List Value} (h : zerosOf P t = some z) : ∃ v, (zeroValue t).run P w = .ok v w ∧ v.cells.toList = z := by
  unfold zerosOf at h
  simp only [Option.bind_eq_some_iff, Option.map_eq_some_iff] at h
  obtain ⟨i, hi, v, hv, rfl⟩ := h
  refine ⟨v, ?_, rfl⟩
  simp [zeroValue, typeInfo, hi, hv, go_sem]
theorem run_szList {P : Program} {w : World} : ∀ (fs : List Field) (l : List (Nat × Nat)), opB.szList P fs = some l → (fs.mapM (m := Sem) fun f => do pure (f.offset, ← sizeOf f.type)).run P w = .ok l w
  | [], l, h => by simp [opB.szList] at h; subst h; rfl
  | f :: fs, l, h => by
    simp only [opB.szList] at h
    split at h
    · rename_i n l' h1 h2
      simp only [Option.some.injEq] at h; subst h
      simp only [List.mapM_cons, Sem.run_bind, run_szOf h1, Result.andThen_ok, run_pure', run_szList fs l' h2]
    · simp at h
theorem opB_sound (r : Rel P w0 H st σ ov a w) {g : Option (Nat × Bool)} (hg : GuardOn a g)
    {o : Oper} {sv : SV} (h : opB P st g o.op = some sv) : (execOp a.eval o).run P w = .ok (.value (sv.den σ ov)) w ∧ (∀ s b v, sv ≠ .grd s b v) := by
  obtain ⟨dst, op, ty, pos, after, guard⟩ := o
  simp only at h
  cases op <;> first | (simp [opB] at h; done) | skip
  rename_i t parts
  simp only [opB] at h
  have hparts : ∀ ps, partVals st g parts.toList = some ps → (parts.map fun p => (p.1, a.eval p.2)).toList = ps := fun ps hp => by
    rw [Array.toList_map]; exact partVals_sound r hg _ _ hp
  split at h
  · rename_i fs z ps hu hz hp
    split at h
    · rename_i places hpl
      split at h
      · rename_i cells hf
        simp only [Option.some.injEq] at h; subst h
        refine ⟨?_, by simp⟩
        obtain ⟨v, hv, hvz⟩ := run_zero (w := w) hz
        simp only [execOp]
        refine run_value ?_
        have hz' : v.cells = z.toArray := by rw [← hvz]
        have hmm : (fs.mapM (m := Sem) fun f => do pure (f.offset, ← sizeOf f.type)).run P w = .ok places.toArray w := by
          have := run_szList (w := w) fs.toList places hpl
          rw [Array.mapM_eq_mapM_toList]
          simp only [map_eq_pure_bind, Sem.run_bind, this, Result.andThen_ok]
          rfl
        simp only [Instr.build, Sem.run_bind, hv, Result.andThen_ok, run_underlying hu, hmm, hparts ps hp, hz']
        have : (fun i : Nat => places.toArray[i]?) = (fun i : Nat => places[i]?) := by funext i; simp
        rw [this, fill_eq _ _ _ _ hf]; rfl
      · simp at h
    · simp at h
  · rename_i n' e z ps hu hz hp
    split at h
    · rename_i n hn
      split at h
      · rename_i cells hf
        simp only [Option.some.injEq] at h; subst h
        refine ⟨?_, by simp⟩
        obtain ⟨v, hv, hvz⟩ := run_zero (w := w) hz
        simp only [execOp]
        refine run_value ?_
        have hz' : v.cells = z.toArray := by rw [← hvz]
        simp only [Instr.build, Sem.run_bind, hv, Result.andThen_ok, run_underlying hu, run_szOf hn, hparts ps hp, hz', fill_eq _ _ _ _ hf]
        rfl
      · simp at h
    · simp at h
  · simp at h

theorem opM_sound (r : Rel P w0 H st σ ov a w) {o : Oper} {sv : SV} {ck' : List Chunk} (h : opM P st o.op = some (sv, ck')) :
    ∃ w' σ' ov', (execOp a.eval o).run P w = .ok (.value (sv.den σ' ov')) w' ∧ (∀ s b v, sv ≠ .grd s b v) ∧ Rel P w0 H { st with ck := ck' } σ' ov' a w' := by
  obtain ⟨dst, op, ty, pos, after, guard⟩ := o
  simp only at h
  cases op <;> first | (simp [opM] at h; done) | skip
  case alloc e =>
    simp only [opM] at h
    split at h
    · rename_i z hz
      cases hwf : st.wf
      · rw [hwf] at h; simp at h
      · rw [hwf] at h
        simp only [cond_true, Option.some.injEq, Prod.mk.injEq] at h
        obtain ⟨rfl, rfl⟩ := h
        obtain ⟨v, hv, hvz⟩ := run_zero (w := w) hz
        obtain ⟨σ', ov', hag, e1, e2, r'⟩ := r.alloc hwf (.cells (z.map .val) e) (.cells v.cells e) undef (fun σ' ov' _ h1 _ => by
          refine ⟨?_, by simp [Chunk.blk, h1]⟩
          show (w.alloc _).heap[σ' _]? = _
          rw [h1, heap_alloc_new]
          simp [Function.comp_def, SC.den, ← hvz])
        refine ⟨_, σ', ov', ?_, by simp, r'⟩
        simp only [execOp]
        refine run_value ?_
        simp only [Instr.alloc, Sem.run_bind, hv, Result.andThen_ok]
        show Result.ok _ _ = _
        simp only [SV.den, SC.den, e1]
        rfl
    · simp at h
  case box e x =>
    simp only [opM] at h
    split at h
    · rename_i sv' n hx hn
      split at h
      · rename_i cs hcs
        cases hwf : (Nat.beq cs.length n && st.wf && cs.all (SC.lt st.ck.length) && cs.all (ownOk st))
        · rw [hwf] at h; simp at h
        · rw [hwf] at h
          simp only [cond_true, Option.some.injEq, Prod.mk.injEq] at h
          obtain ⟨rfl, rfl⟩ := h
          simp only [Bool.and_eq_true] at hwf
          have hown : ∀ i, sv' = .c (.own i) → ∃ e size n xs, st.ck[i]? = some (Chunk.own e size n xs) := by
            intro i he
            subst he
            simp only [SV.toCells, Option.some.injEq] at hcs
            subst hcs
            have := hwf.2
            simp only [List.all_cons, List.all_nil, Bool.and_true, ownOk] at this
            split at this
            · rename_i hck; exact ⟨_, _, _, _, hck⟩
            · cases this
          have hcells := toCells_den r hcs hown
          obtain ⟨σ', ov', hag, e1, e2, r'⟩ := r.alloc hwf.1.1.2 (.cells cs e) (.cells (sv'.den σ ov).cells e) undef (fun σ' ov' hag h1 _ => by
            refine ⟨?_, by simp [Chunk.blk, h1]⟩
            show (w.alloc _).heap[σ' _]? = _
            rw [h1, heap_alloc_new, hcells, map_den_agree hag hwf.1.2])
          refine ⟨_, σ', ov', ?_, by simp, r'⟩
          simp only [execOp]
          refine run_value ?_
          rw [(evalO_sound r (g := none) trivial hx).1]
          show Result.ok _ _ = _
          simp only [SV.den, SC.den, e1]
          rfl
      · simp at h
    · simp at h
  case buildSlice t len parts =>
    simp only [opM] at h
    split at h
    · rename_i e hu
      split at h
      · rename_i n z ps hn hz hp
        split at h
        · rename_i cells hf
          cases hwf : (st.wf && Nat.ble (len * n) 16777216 && Nat.beq cells.length (len * n) && Nat.blt 0 n)
          · rw [hwf] at h; simp at h
          · rw [hwf] at h
            simp only [cond_true, Option.some.injEq, Prod.mk.injEq] at h
            obtain ⟨rfl, rfl⟩ := h
            simp only [Bool.and_eq_true] at hwf
            have h1 := Nat.le_of_ble_eq_true hwf.1.1.2
            have h2 := Nat.eq_of_beq_eq_true hwf.1.2
            have h3 : 0 < n := Nat.le_of_ble_eq_true hwf.2
            obtain ⟨σ', ov', hag, e1, e2, r'⟩ := r.alloc hwf.1.1.1 (.own e n len cells) (.cells cells.toArray e) (.slice (some ⟨w.heap.size, 0, none⟩) len len) (fun σ' ov' hag g1 g2 => by
              refine ⟨?_, by simp [Chunk.blk, g2, Value.ownBlock]⟩
              refine ⟨⟨h2, .inr ⟨w.heap.size, len, cells.toArray, g2, r.ext.size, heap_alloc_new w _, Nat.le_refl _, ?_, by simpa using h2, ?_⟩⟩, fun b hb => by rw [g2] at hb; simp only [Value.ownBlock, Option.some.injEq] at hb; rw [g1, hb]⟩
              · have : len ≤ len * n := Nat.le_mul_of_pos_right _ h3
                unfold maxLen; omega
              · rw [List.take_of_length_le (by simp; omega)])
            refine ⟨_, σ', ov', ?_, by simp, r'⟩
            simp only [execOp]
            refine run_value ?_
            have hparts : (parts.map fun p => (p.1, a.eval p.2)).toList = ps := by rw [Array.toList_map]; exact partVals_sound r (g := none) trivial _ _ hp
            obtain ⟨v, hv, hvz⟩ := run_zero (w := w) hz
            have hz' : v.cells = z.toArray := by rw [← hvz]
            have hnot : ¬ (len * n > 2 ^ 24) := by omega
            simp only [Instr.buildSlice, Sem.run_bind, run_underlying hu, Result.andThen_ok, run_szOf hn, if_neg hnot, run_pure']
            have hfe := fill_eq _ _ _ _ hf
            by_cases h0 : len * n = 0
            · simp only [h0, if_true, run_pure', Result.andThen_ok, Sem.run_bind] at hfe ⊢
              rw [hparts]
              have hz0 : (Array.map (fun x => (#[] : Array Value)[x % (#[] : Array Value).size]!) (Array.range 0)) = (zerosL 0 z).toArray := by simp [zerosL, Array.range]
              rw [hz0, hfe]
              show Result.ok _ _ = _
              simp only [SV.den, SC.den, e2]
              rfl
            · simp only [if_neg h0, Sem.run_bind, hv, Result.andThen_ok, run_pure', hparts, hz']
              have hzl : z.toArray.size = z.length := by simp
              rw [hzl, zerosL_eq, hfe]
              show Result.ok _ _ = _
              simp only [SV.den, SC.den, e2]
              rfl
        · simp at h
      · simp at h
    · simp at h

theorem opS_sound (r : Rel P w0 H st σ ov a w) {o : Oper} {ck' : List Chunk} (h : opS P st o.op = some ck') :
    ∃ w', (execOp a.eval o).run P w = .ok .skip w' ∧ Rel P w0 H { st with ck := ck' } σ ov a w' := by
  obtain ⟨dst, op, ty, pos, after, guard⟩ := o
  simp only at h
  cases op <;> first | (simp [opS] at h; done) | skip
  rename_i t ad x
  simp only [opS] at h
  split at h
  · rename_i i off sv n ha hx hn
    split at h
    · rename_i vs cs e hvs hck
      cases hb : (Nat.beq vs.length n && Nat.ble (off + n) cs.length && vs.all oneC && vs.all (ownOk st))
      · rw [hb] at h; simp at h
      · rw [hb] at h
        simp only [cond_true, Option.some.injEq] at h
        subst h
        simp only [Bool.and_eq_true] at hb
        have h1 := Nat.eq_of_beq_eq_true hb.1.1.1
        have h2 := Nat.le_of_ble_eq_true hb.1.1.2
        have hown : ∀ i, sv = .c (.own i) → ∃ e size n xs, st.ck[i]? = some (Chunk.own e size n xs) := by
          intro i he
          subst he
          simp only [SV.toCells, Option.some.injEq] at hvs
          subst hvs
          have := hb.2
          simp only [List.all_cons, List.all_nil, Bool.and_true, ownOk] at this
          split at this
          · rename_i hck; exact ⟨_, _, _, _, hck⟩
          · cases this
        have hcells := toCells_den r hvs hown
        have e1 : a.eval ad = .pointer (some ⟨σ i, off, none⟩) := (evalO_sound r (g := none) trivial ha).1
        have e2 : a.eval x = sv.den σ ov := (evalO_sound r (g := none) trivial hx).1
        have hblk : w.heap[σ i]? = some (.cells (cs.map (SC.den σ ov)).toArray e (0, 0)) := r.own i _ hck
        have hst := run_storeCells_at (P := P) (σ i) off e (vs.map (SC.den σ ov)) 0 _ w hblk (by simp; omega) (by
          intro v hv
          obtain ⟨s, hs, rfl⟩ := List.mem_map.1 hv
          have g1 := List.all_eq_true.1 hb.1.2 s hs
          have g2 := List.all_eq_true.1 hb.2 s hs
          cases s with
          | val v => cases v <;> first | rfl | (simp [oneC] at g1)
          | loc i o => rfl
          | own j =>
            simp only [ownOk] at g2
            split at g2
            · rename_i hck'
              obtain ⟨p, q, hpq⟩ := ownsRow_slice (r.own j _ hck').1
              simp [SC.den, hpq, Value.oneCell']
            · cases g2)
        refine ⟨_, ?_, r.write hck (cs.take off ++ vs ++ cs.drop (off + n)) rfl⟩
        simp only [execOp, e1, e2]
        have hsz : (sv.den σ ov).cells.size = n := by rw [hcells]; simp [h1]
        have hrun : (Instr.storeAt t (.pointer (some ⟨σ i, off, none⟩)) (sv.den σ ov)).run P w = .ok () (w.setRow (σ i) ((cs.take off ++ vs ++ cs.drop (off + n)).map (SC.den σ ov)).toArray) := by
          simp only [Instr.storeAt, Instr.sureAddr, Sem.run_bind, run_pure', Result.andThen_ok, storeVar, run_szOf hn, hsz, ne_eq, not_true_eq_false, if_false]
          rw [hcells]
          rw [hst]
          simp [h1]
        simp only [Sem.run_bind, hrun, Result.andThen_ok]
        rfl
    · simp at h
  · simp at h
end
end Go.Sy

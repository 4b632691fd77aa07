/- An executor for function bodies of the model over data, part PG: operations that make or write the call's own blocks. Conditions: each operation's own, told as a proposition. -/
import Derived.Test.YtndkapkejmkphaaDoorPF
namespace Go.Ev
open Go.RowKit

abbrev Tys := List (Nat × ETy)
def tyAt : Tys → Nat → Option ETy
  | [], _ => none
  | p :: r, e => bif Nat.beq p.1 e then some p.2 else tyAt r e
def oneS (ck : List Chunk) : SC → Bool
  | .own i => match ck[i]? with | some (.own _ _ _) => true | _ => false
  | _ => true
def cellsX (ck : List Chunk) : SX → Option (List SC)
  | .c s => bif oneS ck s then some [s] else none
  | .agg cs => bif cs.all (oneS ck) then some cs else none
def partsX (st : ST) (g : Option (Nat × Bool)) : List (Nat × Operand) → Option (List (Nat × List SC))
  | [] => some []
  | (i, x) :: r => match (evalO st g x).bind (cellsX st.ck), partsX st g r with
    | some v, some l => some ((i, v) :: l)
    | _, _ => none
def fillS (place : Nat → Option (Nat × Nat)) (cells : List SC) : List (Nat × List SC) → Option (List SC)
  | [] => some cells
  | (i, v) :: rest => match place i with
    | none => none
    | some (off, size) => bif Nat.beq v.length size && Nat.ble (off + v.length) cells.length then fillS place (cells.take off ++ v ++ cells.drop (off + v.length)) rest else none
def zerosS (P : Program) (t : TypeId) : Option (List SC) := (P.info? t).bind fun i => i.zero.bind fun z => bif z.cells.toList.all (fun v => v.oneCell') then some (z.cells.toList.map fun v => .pd (ofC v)) else none
def repS (z : List SC) : Nat → List SC
  | 0 => []
  | n + 1 => z ++ repS z n
def pdList : List SC → Option (List PD)
  | [] => some []
  | .pd p :: r => (pdList r).map (p :: ·)
  | _ :: _ => none
def decRows (t : ETy) : Nat → List SC → Option (List t.den)
  | 0, cs => match cs with | [] => some [] | _ => none
  | n + 1, cs => match (pdList (cs.take t.size)).bind t.dec, decRows t n (cs.drop t.size) with
    | some x, some l => some (x :: l)
    | _, _ => none
def opM (P : Program) (tys : Tys) (st : ST) : Op → Option (SX × List Chunk)
  | .box e x => match (evalO st none x), szOf P e with
    | some sv, some n => match cellsX st.ck sv with
      | some cs => bif Nat.beq cs.length n && st.wf && cs.all (SC.lt st.ck.length) then some (.c (.loc st.ck.length 0), st.ck ++ [.cells cs e]) else none
      | none => none
    | _, _ => none
  | .alloc e => match zerosS P e with
    | some z => bif st.wf then some (.c (.loc st.ck.length 0), st.ck ++ [.cells z e]) else none
    | none => none
  | .makeMap t none => match P.underlying t with
    | some (.map kt _) => match P.underlying kt with
      | some (.int _) => bif st.wf then some (.c (.own st.ck.length), st.ck ++ [.obj (.set [] 0)]) else none
      | _ => none
    | _ => none
  | .range t x => match evalO st none x, P.underlying t with
    | some (.c (.own j)), some (.map _ _) => match st.ck[j]? with
      | some (.obj (.set _ clk)) => bif st.wf && Nat.blt j st.ck.length then some (.c (.loc st.ck.length 0), st.ck ++ [.obj (.it j [] clk)]) else none
      | _ => none
    | _, _ => none
  | .buildSlice t len parts => match P.underlying t with
    | some (.slice e) => match szOf P e, zerosS P e, partsX st none parts.toList, tyAt tys e with
      | some n, some z, some ps, some ty =>
        match (fillS (fun i => some (i * n, n)) (repS z len) ps).bind (decRows ty len) with
        | some l => bif st.wf && Nat.ble (len * n) 16777216 && Nat.beq n ty.size && Nat.beq z.length n && Nat.beq l.length len then some (.c (.own st.ck.length), st.ck ++ [.own e ty l]) else none
        | none => none
      | _, _, _, _ => none
    | _ => none
  | _ => none
def opS (P : Program) (st : ST) : Op → Option (Option Prop × List Chunk)
  | .mapUpdate t m k v => match evalO st none m, evalO st none k, evalO st none v, P.underlying t with
    | some (.c (.own j)), some (.c (.pd (.int .i64 n))), some (.c (.pd (.bool true))), some (.map kt _) => match st.ck[j]?, P.underlying kt with
      | some (.obj (.set es clk)), some (.int _) => some (none, st.ck.set j (.obj (.set (addL es clk n) (addC es clk n))))
      | _, _ => none
    | _, _, _, _ => none
  | .store t ad x => match evalO st none ad, (evalO st none x).bind (cellsX st.ck), szOf P t with
    | some (.c (.loc i off)), some vs, some n => match st.ck[i]? with
      | some (.cells cs e) => bif Nat.beq vs.length n && Nat.ble (off + n) cs.length then some (none, st.ck.set i (.cells (cs.take off ++ vs ++ cs.drop (off + n)) e)) else none
      | _ => none
    | some (.c (.oat i j sz off)), some vs, some n => match st.ck[i]? with
      | some (.own e ty l) => match (pdList (((ty.enc (ty.get l j)).map SC.pd).take off ++ vs ++ ((ty.enc (ty.get l j)).map SC.pd).drop (off + n))).bind ty.dec with
        | some x => bif Nat.beq vs.length n && Nat.ble (off + n) ty.size && Nat.beq sz ty.size then some (some (j < l.length), st.ck.set i (.own e ty (l.set j x))) else none
        | none => none
      | _ => none
    | _, _, _ => none
  | _ => none
def opB (P : Program) (st : ST) (g : Option (Nat × Bool)) : Op → Option SX
  | .build t parts => match P.underlying t, zerosS P t, partsX st g parts.toList with
    | some (.struct fs), some z, some ps => match szList P fs.toList with
      | some places => (fillS (places[·]?) z ps).map .agg
      | none => none
    | some (.array _ e), some z, some ps => match szOf P e with
      | some n => (fillS (fun i => some (i * n, n)) z ps).map .agg
      | none => none
    | _, _, _ => none
  | _ => none
where szList (P : Program) : List Field → Option (List (Nat × Nat))
  | [] => some []
  | f :: r => match szOf P f.type, szList P r with
    | some n, some l => some ((f.offset, n) :: l)
    | _, _ => none

section
variable {Γ : Ctx} {P : Program} {st : ST} {V : Vn} {a : Act} {w : World}
theorem oneS_sound {ck : List Chunk} (r : WOk Γ ck V w) {s : SC} (h : oneS ck s = true) {u : Value} (hr : s.R V u) : u.oneCell' = true := by
  cases s with
  | pd p => exact PR.one hr
  | loc i o => have : u = _ := hr; subst this; rfl
  | oat i j sz o => have : u = _ := hr; subst this; rfl
  | fn f x y => obtain ⟨ua, ub, e, _⟩ := hr; subst e; rfl
  | own i =>
    simp only [oneS] at h
    split at h
    · rename_i e t l hck
      obtain ⟨xs, h1, _⟩ := r.own i _ hck
      obtain ⟨ad, c, h2, _⟩ := own_form h1
      have : u = _ := hr
      rw [this, h2]; rfl
    · cases h
theorem cells_one {u : Value} (h : u.oneCell' = true) : u.cells.toList = [u] := by
  cases u <;> first | rfl | (simp [Value.oneCell'] at h)
theorem cellsX_sound {ck : List Chunk} (r : WOk Γ ck V w) {sx : SX} {cs : List SC} (h : cellsX ck sx = some cs) {u : Value} (hr : sx.R V u) : All2 (SC.R V) cs u.cells.toList ∧ ∀ v ∈ u.cells.toList, v.oneCell' = true := by
  cases sx with
  | c s =>
    simp only [cellsX] at h
    cases hb : oneS ck s
    · rw [hb] at h; simp at h
    · rw [hb] at h
      simp only [cond_true, Option.some.injEq] at h
      subst h
      have h1 := oneS_sound r hb hr
      rw [cells_one h1]
      exact ⟨.cons hr .nil, by simp [h1]⟩
  | agg cs' =>
    simp only [cellsX] at h
    cases hb : cs'.all (oneS ck)
    · rw [hb] at h; simp at h
    · rw [hb] at h
      simp only [cond_true, Option.some.injEq] at h
      subst h
      obtain ⟨us, e, h1⟩ := hr
      subst e
      have e2 : (Value.agg us.toArray).cells.toList = us := rfl
      rw [e2]
      refine ⟨h1, fun v hv => ?_⟩
      obtain ⟨i, hi⟩ := List.getElem?_of_mem hv
      obtain ⟨s, h2, h3⟩ := h1.get' hi
      exact oneS_sound r (List.all_eq_true.1 hb s (List.mem_of_getElem? h2)) h3
def PartOk (V : Vn) (p : Nat × List SC) (q : Nat × Value) : Prop := p.1 = q.1 ∧ All2 (SC.R V) p.2 q.2.cells.toList ∧ ∀ v ∈ q.2.cells.toList, v.oneCell' = true
theorem partsX_sound (r : Rel Γ st V a w) {g : Option (Nat × Bool)} (hg : GuardOn a g) : ∀ (l : List (Nat × Operand)) (ps : List (Nat × List SC)), partsX st g l = some ps → All2 (PartOk V) ps (l.map fun p => (p.1, a.eval p.2))
  | [], ps, h => by simp [partsX] at h; subst h; exact .nil
  | (i, x) :: l, ps, h => by
    simp only [partsX] at h
    split at h
    · rename_i v l' h1 h2
      simp only [Option.some.injEq] at h
      subst h
      simp only [Option.bind_eq_some_iff] at h1
      obtain ⟨sx, h3, h4⟩ := h1
      obtain ⟨h5, h6⟩ := cellsX_sound r.wok h4 (evalO_sound r hg h3)
      exact .cons ⟨rfl, h5, h6⟩ (partsX_sound r hg l l' h2)
    · simp at h
theorem splice_fold : ∀ (cs : List Value) (k off : Nat) (cells : Array Value), off + k + cs.length ≤ cells.size →
    ((cs.zipIdx k).foldl (fun (acc : Array Value) (p : Value × Nat) => acc.setIfInBounds (off + p.2) p.1) cells).toList = cells.toList.take (off + k) ++ cs ++ cells.toList.drop (off + k + cs.length)
  | [], k, off, cells, h => by simp
  | c :: cs, k, off, cells, h => by
    simp only [List.length_cons] at h
    simp only [List.zipIdx_cons, List.foldl_cons]
    rw [splice_fold cs (k + 1) off _ (by rw [Array.size_setIfInBounds]; omega)]
    simp only [Array.toList_setIfInBounds, List.length_cons]
    have hlt : off + k < cells.toList.length := by rw [Array.length_toList]; omega
    rw [List.take_set, List.drop_set]
    rw [show off + (k + 1) = off + k + 1 from by omega]
    rw [List.take_succ_eq_append_getElem hlt]
    rw [List.set_append_right _ _ (by simp only [List.length_take]; omega)]
    have hl : (List.take (off + k) cells.toList).length = off + k := by rw [List.length_take]; omega
    simp only [hl, Nat.sub_self, List.set_cons_zero]
    rw [if_pos (by omega)]
    have e3 : off + k + 1 + cs.length = off + k + (cs.length + 1) := by omega
    rw [e3]
    simp
theorem fillS_sound (place : Nat → Option (Nat × Nat)) {qs : List (Nat × Value)} {ps : List (Nat × List SC)} (hp : All2 (PartOk V) ps qs) : ∀ {cells r : List SC} {us : List Value}, fillS place cells ps = some r → All2 (SC.R V) cells us →
    (∀ v ∈ us, v.oneCell' = true) → ∃ rs, Instr.fill place us.toArray qs = some rs.toArray ∧ All2 (SC.R V) r rs ∧ ∀ v ∈ rs, v.oneCell' = true := by
  induction hp with
  | nil => intro cells r us h hu h1; simp [fillS] at h; subst h; exact ⟨us, rfl, hu, h1⟩
  | @cons p q ps qs h0 _ ih =>
    intro cells r us h hu h1
    obtain ⟨i, v⟩ := p
    obtain ⟨i', v'⟩ := q
    obtain ⟨e, h2, h3⟩ := h0
    simp only at e h2 h3
    subst e
    simp only [fillS] at h
    split at h
    · simp at h
    · rename_i off size hpl
      cases hb : (Nat.beq v.length size && Nat.ble (off + v.length) cells.length)
      · rw [hb] at h; simp at h
      · rw [hb] at h
        simp only [cond_true] at h
        simp only [Bool.and_eq_true] at hb
        have h4 := Nat.eq_of_beq_eq_true hb.1
        have h5 := Nat.le_of_ble_eq_true hb.2
        have hvl := h2.length
        have hcl := hu.length
        have hsz : v'.cells.toList.length = v'.cells.size := Array.length_toList
        obtain ⟨rs, g1, g2, g3⟩ := ih (us := us.take off ++ v'.cells.toList ++ us.drop (off + v'.cells.toList.length)) h (((hu.take off).append h2).append (by rw [h2.length]; exact hu.drop _)) (by
          intro x hx
          rcases List.mem_append.1 hx with hx | hx
          · rcases List.mem_append.1 hx with hx | hx
            · exact h1 x (List.mem_of_mem_take hx)
            · exact h3 x hx
          · exact h1 x (List.mem_of_mem_drop hx))
        refine ⟨rs, ?_, g2, g3⟩
        rw [← g1]
        conv => lhs; unfold Instr.fill
        simp only [hpl]
        rw [if_neg (by simp only [List.size_toArray, ne_eq, Bool.or_eq_true, decide_eq_true_eq, gt_iff_lt, not_or, Decidable.not_not, Nat.not_lt]; omega)]
        congr 1
        apply Array.toList_inj.1
        rw [← Array.foldl_toList, Array.toList_zipIdx]
        have := splice_fold v'.cells.toList 0 off us.toArray (by simp [Array.length_toList]; omega)
        simpa using this
theorem run_zero {w : World} {t : TypeId} {z : List SC} (h : zerosS P t = some z) : ∃ v, (zeroValue t).run P w = .ok v w ∧ All2 (SC.R V) z v.cells.toList ∧ ∀ u ∈ v.cells.toList, u.oneCell' = true := by
  unfold zerosS at h
  simp only [Option.bind_eq_some_iff] at h
  obtain ⟨i, hi, v, hv, h⟩ := h
  cases hb : v.cells.toList.all fun v => v.oneCell'
  · rw [hb] at h; simp at h
  · rw [hb] at h
    simp only [cond_true, Option.some.injEq] at h
    subst h
    have h1 := List.all_eq_true.1 hb
    refine ⟨v, by simp [zeroValue, typeInfo, hi, hv, go_sem], All2.of (by simp) fun i p u hp hu => ?_, fun u hu => h1 u hu⟩
    simp only [List.getElem?_map, hu, Option.map_some, Option.some.injEq] at hp
    subst hp
    exact ofC_PR (h1 u (List.mem_of_getElem? hu))
theorem run_szList {w : World} : ∀ (fs : List Field) (l : List (Nat × Nat)), opB.szList P fs = some l → (fs.mapM (m := Sem) fun f => do pure (f.offset, ← sizeOf f.type)).run P w = .ok l w
  | [], l, h => by simp [opB.szList] at h; subst h; rfl
  | f :: fs, l, h => by
    simp only [opB.szList] at h
    split at h
    · rename_i n l' h1 h2
      simp only [Option.some.injEq] at h; subst h
      simp only [List.mapM_cons, Sem.run_bind, run_szOf h1, Result.andThen_ok, run_pure', run_szList fs l' h2]
    · simp at h
theorem opB_sound (r : Rel Γ st V a w) {g : Option (Nat × Bool)} (hg : GuardOn a g)
    {o : Oper} {sx : SX} (h : opB P st g o.op = some sx) : ∃ v, (execOp a.eval o).run P w = .ok (.value v) w ∧ sx.R V v := by
  obtain ⟨dst, op, ty, pos, after, guard⟩ := o
  simp only at h
  cases op <;> first | (simp [opB] at h; done) | skip
  rename_i t parts
  simp only [opB] at h
  have hparts : ∀ ps, partsX st g parts.toList = some ps → All2 (PartOk V) ps (parts.map fun p => (p.1, a.eval p.2)).toList := fun ps hp => by
    rw [Array.toList_map]; exact partsX_sound r hg _ _ hp
  split at h
  · rename_i fs z ps hu hz hp
    split at h
    · rename_i places hpl
      simp only [Option.map_eq_some_iff] at h
      obtain ⟨cells, hf, rfl⟩ := h
      obtain ⟨v, hv, hvz, hv1⟩ := run_zero (V := V) (w := w) hz
      obtain ⟨rs, g1, g2, _⟩ := fillS_sound _ (hparts ps hp) hf hvz hv1
      refine ⟨.agg rs.toArray, ?_, rs, rfl, g2⟩
      simp only [execOp]
      refine run_value ?_
      have hmm : (fs.mapM (m := Sem) fun f => do pure (f.offset, ← sizeOf f.type)).run P w = .ok places.toArray w := by
        have := run_szList (w := w) fs.toList places hpl
        rw [Array.mapM_eq_mapM_toList]
        simp only [map_eq_pure_bind, Sem.run_bind, this, Result.andThen_ok]
        rfl
      have e : (fun i : Nat => places.toArray[i]?) = (fun i : Nat => places[i]?) := by funext i; simp
      rw [Array.toArray_toList] at g1
      simp only [Instr.build, Sem.run_bind, hv, Result.andThen_ok, run_underlying hu, hmm]
      rw [e, g1]; rfl
    · simp at h
  · rename_i n' e z ps hu hz hp
    split at h
    · rename_i n hn
      simp only [Option.map_eq_some_iff] at h
      obtain ⟨cells, hf, rfl⟩ := h
      obtain ⟨v, hv, hvz, hv1⟩ := run_zero (V := V) (w := w) hz
      obtain ⟨rs, g1, g2, _⟩ := fillS_sound _ (hparts ps hp) hf hvz hv1
      refine ⟨.agg rs.toArray, ?_, rs, rfl, g2⟩
      simp only [execOp]
      refine run_value ?_
      rw [Array.toArray_toList] at g1
      simp only [Instr.build, Sem.run_bind, hv, Result.andThen_ok, run_underlying hu, run_szOf hn, g1]
      rfl
    · simp at h
  · simp at h
theorem repS_all2 {z : List SC} {us : List Value} (h : All2 (SC.R V) z us) : ∀ n, ∃ vs, All2 (SC.R V) (repS z n) vs ∧ vs.length = n * us.length ∧ ∀ i, i < n * us.length → vs[i]? = us[i % us.length]?
  | 0 => ⟨[], .nil, by simp, by simp⟩
  | n + 1 => by
    obtain ⟨vs, h1, h2, h3⟩ := repS_all2 h n
    refine ⟨us ++ vs, h.append h1, by rw [List.length_append, h2, Nat.add_mul]; omega, fun i hi => ?_⟩
    by_cases hlt : i < us.length
    · rw [List.getElem?_append_left hlt, Nat.mod_eq_of_lt hlt]
    · rw [List.getElem?_append_right (by omega), h3 _ (by rw [Nat.add_mul] at hi; omega), ← Nat.mod_eq_sub_mod (by omega)]
theorem pdList_sound : ∀ {cs : List SC} {ps : List PD}, pdList cs = some ps → ∀ {us : List Value}, All2 (SC.R V) cs us → All2 (PR V.H) ps us
  | [], ps, h, us, hu => by simp [pdList] at h; subst h; cases hu; exact .nil
  | .pd p :: cs, ps, h, us, hu => by
    simp only [pdList, Option.map_eq_some_iff] at h
    obtain ⟨l, h1, rfl⟩ := h
    cases hu with | cons g1 g2 => exact .cons g1 (pdList_sound h1 g2)
  | .loc _ _ :: cs, ps, h, us, hu => by simp [pdList] at h
  | .own _ :: cs, ps, h, us, hu => by simp [pdList] at h
  | .oat _ _ _ _ :: cs, ps, h, us, hu => by simp [pdList] at h
  | .fn _ _ _ :: cs, ps, h, us, hu => by simp [pdList] at h
theorem decRows_sound {t : ETy} : ∀ {n : Nat} {cs : List SC} {l : List t.den}, decRows t n cs = some l → ∀ {us : List Value}, All2 (SC.R V) cs us → All2 (PR V.H) (l.flatMap t.enc) us
  | 0, cs, l, h, us, hu => by
    simp only [decRows] at h
    split at h
    · simp only [Option.some.injEq] at h; subst h; cases hu; exact .nil
    · simp at h
  | n + 1, cs, l, h, us, hu => by
    simp only [decRows] at h
    split at h
    · rename_i x l' h1 h2
      simp only [Option.some.injEq] at h; subst h
      simp only [Option.bind_eq_some_iff] at h1
      obtain ⟨ps, h3, h4⟩ := h1
      rw [List.flatMap_cons, ← List.take_append_drop t.size us]
      exact (ETy.dec_PR h4 (pdList_sound h3 (hu.take _))).append (decRows_sound h2 (hu.drop _))
    · simp at h
end
end Go.Ev

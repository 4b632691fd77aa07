/- An executor for function bodies of the model, part O: a slice in memory that nobody writes is appended to a slice of the call's own. Conditions: each rule's own. -/
import Derived.Test.YtgoihhnfkoklpaaEngN
namespace Go.Sy
open Go.RowKit

theorem SliceH.source {H : Mem} {w : World} {sz : Nat} {v : Value} {rows : List (List Value)} (hin : HIn H w) (hsz : 0 < sz) (h : SliceH H sz v rows) :
    ∃ ao c, v = .slice ao rows.length c ∧ (ao = none → rows.length = 0 ∧ c = 0) ∧ rows.flatten.length = rows.length * sz ∧ ∀ ad, ao = some ad → ∀ l u, rows.flatten[l]? = some u → w.cell? (ad.add l) = some u := by
  rcases h with ⟨rfl, rfl⟩ | ⟨b', off, cap, rfl, h1, h2, h3⟩
  · exact ⟨none, 0, rfl, fun _ => ⟨rfl, rfl⟩, by simp, fun _ h => by cases h⟩
  · have hall : ∀ r ∈ rows, r.length = sz := by
      intro r hr
      obtain ⟨j, hj, rfl⟩ := List.getElem_of_mem hr
      exact (h3 j _ (List.getElem?_eq_getElem hj)).1
    have hflat : rows.flatten.length = rows.length * sz := by
      clear h1 h2 h3
      induction rows with
      | nil => simp
      | cons r rs ih => simp only [List.flatten_cons, List.length_append, List.length_cons, hall r List.mem_cons_self, ih (fun x hx => hall x (List.mem_cons_of_mem _ hx)), Nat.add_mul]; omega
    refine ⟨some ⟨b', off, none⟩, cap, rfl, (fun h => by cases h), hflat, fun ad had j u hu => ?_⟩
    simp only [Option.some.injEq] at had
    subst had
    have hj : j < rows.length * sz := by have := (List.getElem?_eq_some_iff.1 hu).1; omega
    have hq : j / sz < rows.length := Nat.div_lt_of_lt_mul (by rw [Nat.mul_comm]; exact hj)
    have hrow : rows[j / sz]? = some rows[j / sz] := List.getElem?_eq_getElem hq
    obtain ⟨hl, cells, e', fr, hb, hc⟩ := h3 _ _ hrow
    have hm : j % sz < sz := Nat.mod_lt _ hsz
    have hjj : j / sz * sz + j % sz = j := Nat.div_add_mod' j sz
    have hru : rows[j / sz][j % sz]? = some u := by
      have h5 := rows_flat hall (j / sz) _ hrow (j % sz) (rows[j / sz][j % sz]'(by rw [hl]; exact hm)) (List.getElem?_eq_getElem _)
      rw [hjj, hu] at h5
      rw [List.getElem?_eq_getElem (by rw [hl]; exact hm)]
      exact h5.symm
    have := hc _ _ hru
    rw [show off + j / sz * sz + j % sz = off + j from by omega] at this
    rw [addr_add]
    simp [World.cell?, hin _ _ hb, this]

def appOwnAt (P : Program) (root : Code) (p : List Nat) (i : Nat) (st : ST) : Option (Option Tmp × Nat × TypeId × Nat × Nat × List Value × Value × Nat) :=
  match opAt root p i with
  | some o => match o.guard, o.op with
    | none, .call { callee := .builtin .append, args := args, argTypes := ts } => match args.toList, ts.toList with
      | [x, y], [t, t'] => match evalO st none x, evalO st none y, P.underlying t with
        | some (.c (.own k)), some (.c (.val vy)), some (.slice e) => match st.ck[k]?, P.info? e with
          | some (.own ek sk n xs), some inf => match inf.zero with
            | some z => bif Nat.beq t t' && st.wf && Nat.beq ek e && Nat.beq sk inf.size && Nat.beq z.cells.toList.length inf.size && Nat.blt 0 inf.size then some (o.dst, k, e, inf.size, n, xs, vy, inf.bytes) else none
            | none => none
          | _, _ => none
        | _, _, _ => none
      | _, _ => none
    | _, _ => none
  | none => none
section
variable {P : Program} {w0 : World} {H : Mem} {f : FuncId} {root : Code} {R : Ending → World → Prop} {st : ST} {p : List Nat} {i : Nat} {k : List PI}
def appST (kk : Nat) (e : TypeId) (sz n : Nat) (xs : List Value) (st : ST) : ST := { st with ck := killCk (some kk) st.ck ++ [.own e sz n xs] }
theorem J.appendH {dst : Option Tmp} {kk : Nat} {e : TypeId} {sz n bytes : Nat} {xs : List Value} {vy : Value} {rows : List (List Value)}
    (hi : appOwnAt P root p i st = some (dst, kk, e, sz, n, xs, vy, bytes)) (hv : SliceH H sz vy rows) (h1 : ∀ r ∈ rows, ∀ u ∈ r, u.oneCell' = true)
    (h63 : n + rows.length ≤ maxLen) (hb : (n + rows.length) * bytes ≤ 140737488355328)
    (hp' : (putOpt (appST kk e sz (n + rows.length) (xs ++ rows.flatten) st) dst (.c (.own st.ck.length))).isSome = true)
    (hk : J P f root R w0 H (.ops p (i + 1) :: k) (putST (appST kk e sz (n + rows.length) (xs ++ rows.flatten) st) dst (.c (.own st.ck.length)))) : J P f root R w0 H (.ops p i :: k) st := by
  intro σ ov a w r
  have hp := putST_some hp'
  unfold appOwnAt at hi
  split at hi
  · rename_i o ho
    split at hi
    · rename_i args ts hgd hop
      split at hi
      · rename_i x y t t' hargs hts
        split at hi
        · rename_i k' vy' e' hx hy hu
          split at hi
          · rename_i ek sk n' xs' inf hck hinf
            split at hi
            · rename_i z hz
              cases hbb : (Nat.beq t t' && st.wf && Nat.beq ek e' && Nat.beq sk inf.size && Nat.beq z.cells.toList.length inf.size && Nat.blt 0 inf.size)
              · rw [hbb] at hi; simp at hi
              · rw [hbb] at hi
                simp only [cond_true, Option.some.injEq, Prod.mk.injEq] at hi
                obtain ⟨rfl, rfl, rfl, rfl, rfl, rfl, rfl, rfl⟩ := hi
                simp only [Bool.and_eq_true] at hbb
                have q1 := Nat.eq_of_beq_eq_true hbb.1.1.1.1.1
                have hwf := hbb.1.1.1.1.2
                have q2 := Nat.eq_of_beq_eq_true hbb.1.1.1.2
                have q3 := Nat.eq_of_beq_eq_true hbb.1.1.2
                have q4 := Nat.eq_of_beq_eq_true hbb.1.2
                have q5 : 0 < inf.size := Nat.le_of_ble_eq_true hbb.2
                have ea : args = #[x, y] := by cases args; simp_all
                have et : ts = #[t, t'] := by cases ts; simp_all
                subst ea; subst et; subst q1; subst q2; subst q3
                have e1 : a.eval x = ov k' := (evalO_sound r (g := none) trivial hx).1
                have e2 : a.eval y = vy' := (evalO_sound r (g := none) trivial hy).1
                obtain ⟨ao, c, e3, hn, hl, hcells⟩ := hv.source r.imm q5
                rw [e3] at e2
                obtain ⟨d, op, ty, pos, aft, gd⟩ := o
                simp only at hop hgd
                subst hop
                have h1' : ∀ u ∈ rows.flatten, u.oneCell' = true := fun u hu => by
                  obtain ⟨r', hr', hu'⟩ := List.mem_flatten.1 hu
                  exact h1 r' hr' u hu'
                obtain ⟨v', w', hr, hown, hg, hw'⟩ := append_where (P := P) (ty := ty) hu hinf hz rfl (by rw [← Array.length_toList]; exact q4) q5 (r.own k' _ hck).1 hl hn hcells h1' h63 hb r.ext.size
                obtain ⟨σ', ov', hag, g2, r'⟩ := r.regrow hwf (some k') (fun b hb => ⟨k', _, rfl, hck, hb⟩) hg hown hw'
                rw [List.map_cons, ops_cons ho]
                have hs := putOpt_sound r' hp (by simp)
                have g3 : (SV.c (SC.own st.ck.length)).den σ' ov' = v' := g2
                rw [g3] at hs
                exact Fin.op_value ho (wanted_none hgd) (run_append_call e1 e2 hr) (hk σ' ov' _ w' hs)
            · simp at hi
          · simp at hi
        · simp at hi
      · simp at hi
    · simp at hi
  · simp at hi

/-! ### a slice of the call's own that is written no more -/
def SC.freeze (i : Nat) (v : Value) : SC → SC
  | .own j => bif Nat.beq j i then .val v else .own j
  | s => s
def SV.freeze (i : Nat) (v : Value) : SV → SV
  | .c s => .c (s.freeze i v)
  | .agg cs => .agg (cs.map (SC.freeze i v))
  | .fn f x y => .fn f (x.map (SC.freeze i v)) (y.map (SC.freeze i v))
  | .grd s w u => .grd s w (u.freeze i v)
def Chunk.freeze (i : Nat) (v : Value) : Chunk → Chunk
  | .cells cs e => .cells (cs.map (SC.freeze i v)) e
  | c => c
def freezeST (i : Nat) (v : Value) (st : ST) : ST := { st with fr := st.fr.map (fun p => (p.1, p.2.freeze i v)), ck := (st.ck.set i .dead).map (Chunk.freeze i v) }
def ownAt (st : ST) (i : Nat) : Option (Nat × Nat × List Value) := match st.ck[i]? with
  | some (.own _ sz n xs) => some (sz, n, xs)
  | _ => none
theorem SC.freeze_den {σ : Nat → Nat} {ov : Nat → Value} {i : Nat} {v : Value} (hb : ov i = v) (s : SC) : (s.freeze i v).den σ ov = s.den σ ov := by
  cases s with
  | own j =>
    simp only [SC.freeze]
    cases h : Nat.beq j i
    · rfl
    · have := Nat.eq_of_beq_eq_true h
      subst this
      simp only [cond_true, SC.den, hb]
  | _ => rfl
theorem freeze_map {σ : Nat → Nat} {ov : Nat → Value} {i : Nat} {v : Value} (hb : ov i = v) (cs : List SC) : (cs.map (SC.freeze i v)).map (SC.den σ ov) = cs.map (SC.den σ ov) := by
  rw [List.map_map]; exact List.map_congr_left fun s _ => SC.freeze_den hb s
theorem J.freeze {todo : List PI} {i sz n : Nat} {xs : List Value} (hc : ownAt st i = some (sz, n, xs)) {rows : List (List Value)} (hx : xs = rows.flatten) (hr : ∀ r ∈ rows, r.length = sz) (hn : n = rows.length)
    (hk : ∀ v H', HLe H H' → SliceH H' sz v rows → J P f root R w0 H' todo (freezeST i v st)) : J P f root R w0 H todo st := by
  intro σ ov a w r
  unfold ownAt at hc
  split at hc
  · rename_i e sz' n' xs' hck
    simp only [Option.some.injEq, Prod.mk.injEq] at hc
    obtain ⟨rfl, rfl, rfl⟩ := hc
    obtain ⟨H', h1, h2, h3, h3', h4⟩ := own_freeze r hck hx hr hn
    refine hk (ov i) H' h1 h4 σ ov a w ?_
    have hi : i < st.ck.length := (List.getElem?_eq_some_iff.1 hck).1
    have hget : ∀ (j : Nat) d, (freezeST i (ov i) st).ck[j]? = some d → d = .dead ∨ (j ≠ i ∧ ∃ c, st.ck[j]? = some c ∧ d = c.freeze i (ov i)) := by
      intro j d hd
      simp only [freezeST, List.getElem?_map, Option.map_eq_some_iff] at hd
      obtain ⟨c, hc1, rfl⟩ := hd
      by_cases hj : j = i
      · subst hj; rw [List.getElem?_set_self hi] at hc1; simp at hc1; subst hc1; exact .inl rfl
      · rw [List.getElem?_set_ne (Ne.symm hj)] at hc1; exact .inr ⟨hj, c, hc1, rfl⟩
    have hblk : ∀ (j : Nat) (c : Chunk), (c.freeze i (ov i)).blk σ ov j = c.blk σ ov j := by intro j c; cases c <;> rfl
    refine { size := r.size, defers := r.defers, slots := ?_, ext := r.ext, imm := h2, own := ?_, base := ?_, inj := ?_ }
    · intro t sv hm
      obtain ⟨⟨t', sv'⟩, m1, m2⟩ := List.mem_map.1 hm
      simp only [Prod.mk.injEq] at m2
      obtain ⟨rfl, rfl⟩ := m2
      have hs := r.slots _ _ m1
      cases sv' with
      | c s => show _ = (s.freeze i (ov i)).den σ ov; rw [SC.freeze_den rfl]; exact hs
      | agg cs' => show _ = Value.agg ((cs'.map _).map (SC.den σ ov)).toArray; rw [freeze_map rfl]; exact hs
      | fn f x y => show _ = Value.func f ((x.map _).map (SC.den σ ov)).toArray ((y.map _).map (SC.den σ ov)).toArray; rw [freeze_map rfl, freeze_map rfl]; exact hs
      | grd s b v => show _ = guardVal _ b ((v.freeze i (ov i)).den σ ov); rw [SC.freeze_den rfl]; exact hs
    · intro j d hd
      rcases hget j d hd with rfl | ⟨_, c, hc1, rfl⟩
      · trivial
      · have := r.own j c hc1
        cases c with
        | cells cs' e' => show w.heap[σ j]? = some (.cells ((cs'.map _).map (SC.den σ ov)).toArray e' (0, 0)); rw [freeze_map rfl]; exact this
        | _ => exact this
    · intro j d b hd hb
      rcases hget j d hd with rfl | ⟨hj, c, hc1, rfl⟩
      · simp [Chunk.blk] at hb
      · rw [hblk] at hb
        have q := r.base j c b hc1 hb
        refine ⟨q.1, ?_⟩
        refine Classical.byContradiction fun hne => ?_
        rcases h3' b hne with h | h
        · exact h q.2
        · exact hj (r.inj j i c _ b hc1 hck hb h)
    · intro j l d d' b hd hd' hb1 hb2
      rcases hget j d hd with rfl | ⟨_, c, hc1, rfl⟩
      · simp [Chunk.blk] at hb1
      · rcases hget l d' hd' with rfl | ⟨_, c', hc2, rfl⟩
        · simp [Chunk.blk] at hb2
        · rw [hblk] at hb1 hb2
          exact r.inj j l c c' b hc1 hc2 hb1 hb2
  · simp at hc
/-- The same slots, or fewer, in another order. -/
theorem J.sub {todo : List PI} {st' : ST} (hn : st'.n = st.n) (hc : st'.ck = st.ck) (h : ∀ q ∈ st'.fr, q ∈ st.fr) (hk : J P f root R w0 H todo st') : J P f root R w0 H todo st := by
  intro σ ov a w r
  refine hk σ ov a w { size := ?_, defers := r.defers, slots := fun t sv hm => r.slots t sv (h _ hm), ext := r.ext, imm := r.imm, own := ?_, base := ?_, inj := ?_ }
  · rw [hn]; exact r.size
  · rw [hc]; exact r.own
  · rw [hc]; exact r.base
  · rw [hc]; exact r.inj
/-! ### a load behind a condition -/
def loadGAt (P : Program) (root : Code) (p : List Nat) (i : Nat) (st : ST) : Option (Nat × Bool × Nat × Nat × Nat × Prop) :=
  match opAt root p i with
  | some o => match o.guard, o.op with
    | some (j, want), .load t x => match ((opsOf (sub root p))[j]?).bind (·.dst), o.dst with
      | some s, some d => match evalO st (some (s, want)) x, aggB P t, szOf P t with
        | some (.c (.val (.pointer (some ⟨b, off, none⟩)))), some false, some 1 => match guardProp st 8 s want with
          | some q => bif Nat.blt d st.n && !Nat.beq s d then some (s, want, d, b, off, q) else none
          | none => none
        | _, _, _ => none
      | _, _ => none
    | _, _ => none
  | none => none
def grdST (s : Nat) (want : Bool) (d : Nat) (v : Value) (st : ST) : ST := { st with fr := setSlot d (.grd s want (.val v)) st.fr }
theorem J.loadG {s : Nat} {want : Bool} {d b off : Nat} {q : Prop} {v : Value} (hi : loadGAt P root p i st = some (s, want, d, b, off, q)) (hc : q → CellsAt H b off [v])
    (hk : J P f root R w0 H (.ops p (i + 1) :: k) (grdST s want d v st)) : J P f root R w0 H (.ops p i :: k) st := by
  intro σ ov a w r
  unfold loadGAt at hi
  split at hi
  · rename_i o ho
    split at hi
    · rename_i j want' t x hg hop
      split at hi
      · rename_i s' d' hs hd
        split at hi
        · rename_i b' off' hx h1 h2
          split at hi
          · rename_i q' hq
            cases hb : (Nat.blt d' st.n && !Nat.beq s' d')
            · rw [hb] at hi; simp at hi
            · rw [hb] at hi
              simp only [cond_true, Option.some.injEq, Prod.mk.injEq] at hi
              obtain ⟨rfl, rfl, rfl, rfl, rfl, rfl⟩ := hi
              simp only [Bool.and_eq_true, Bool.not_eq_true'] at hb
              have hdn : d' < st.n := Nat.le_of_ble_eq_true hb.1
              have hsd : s' ≠ d' := fun e => by rw [e] at hb; simp at hb
              rw [List.map_cons, ops_cons ho]
              by_cases hon : a.tmps.getD s' undef = .bool want'
              · have hc' := hc (guardProp_sound r 8 s' want' _ hq hon)
                obtain ⟨hr, hn⟩ := run_loadRow h1 h2 hc' rfl (fun _ => rfl) r.imm σ ov
                have e1 : a.eval x = .pointer (some ⟨b', off', none⟩) := (evalO_sound r (g := some (s', want')) hon hx).1
                refine Fin.op_value ho (wanted_on hg hs hon) (v := v) (w' := w) ?_ ?_
                · obtain ⟨d0, op, ty, pos, after, gd⟩ := o
                  simp only at hop
                  subst hop
                  simp only [execOp, e1]
                  refine run_value ?_
                  simp only [Instr.loadAt, Instr.sureAddr, Sem.run_bind, run_pure', Result.andThen_ok, hr]
                  rfl
                · rw [hd]
                  refine hk σ ov _ _ (r.put d' (.grd s' want' (.val v)) _ hdn fun a' ha h3 => ?_)
                  show a'.tmps.getD d' undef = guardVal (a'.tmps.getD s' undef) want' v
                  rw [h3, ha s' hsd, hon]
                  simp [guardVal]
              · refine Fin.op_unwanted ho (wanted_off hg hs hon) ?_
                rw [hd]
                refine hk σ ov _ _ (r.put d' (.grd s' want' (.val v)) _ hdn fun a' ha h3 => ?_)
                show a'.tmps.getD d' undef = guardVal (a'.tmps.getD s' undef) want' v
                rw [h3, ha s' hsd]
                exact guard_off hon
          · simp at hi
        · simp at hi
      · simp at hi
    · simp at hi
  · simp at hi
end
end Go.Sy

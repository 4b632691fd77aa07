/- An executor for function bodies of the model over data, part PP: a statement whose order Go leaves open is sound. Conditions: each operation's own. -/
import Derived.Test.YtcpnicfkpkonkaaGreatDoorPO
namespace Go.Ev
open Go.RowKit
section
variable {Γ : Ctx} {P : Program} {cfg : Cfg} {st base : ST} {V : Vn} {a : Act} {w : World} {ops : Array Oper} {fs : List FO}
theorem within_nil {l : List Nat} (h : within [] l = true) : l = [] := by
  cases l with
  | nil => rfl
  | cons x l => simp [within] at h
theorem goF_sound (ht : TOk P cfg.tab Γ) (r : Rel Γ st V a w) (hwf : ckWf st.ck = true) {f : Nat} {args : List SX} {p : Option Prop} {ret : SV} (h : goF P cfg st f args = some (p, ret)) (hp : Holds p) {vs : List Value} (hv : All2 (SX.R V) args vs) :
    callOk P f = true ∧ Calls P f vs.toArray w fun e w' => ∃ v, e = .returned v ∧ Grows Γ st.ck V (fun V2 v => ret.R V2 v) v w' := by
  unfold goF at h
  cases hn : within [] (args.flatMap SX.refs)
  · rw [hn] at h
    simp only [cond_false] at h
    obtain ⟨h1, _, h3⟩ := goB_sound ht r h hp hv
    exact ⟨h1, h3.mono fun e w' hq => by obtain ⟨v, rfl, hr, _, hw⟩ := hq; exact ⟨v, rfl, V, Agree.refl _ _, hw, hr⟩⟩
  · rw [hn] at h
    simp only [cond_true] at h
    have hnil := within_nil hn
    split at h
    · rename_i p' ret' ck' hA
      obtain ⟨h1, h2, h3⟩ := goA_sound (cfg := cfg) ht r hA (by
        split at h
        · cases hb : within [] ret'.refs
          · rw [hb] at h; simp at h
          · rw [hb] at h; simp only [cond_true, Option.some.injEq, Prod.mk.injEq] at h; rw [h.1]; exact hp
        · rename_i t l _
          cases hb : within [] (ret'.frz (.own st.ck.length t l)).refs
          · rw [hb] at h; simp at h
          · rw [hb] at h; simp only [cond_true, Option.some.injEq, Prod.mk.injEq] at h; rw [h.1]; exact hp
        · simp at h) hv
      have hck' : ck' = st.ck ++ ck'.drop st.ck.length := by
        unfold goA at hA
        simp only [hnil, reachOf_nil] at hA
        split at hA
        · rename_i ck0 hpk
          simp only [pickCk, Option.some.injEq] at hpk
          subst hpk
          cases hb : (incr [] && within [] [] && within [] (([] : List Chunk).flatMap Chunk.refs) && callOk P f && st.wf)
          · rw [hb] at hA; simp at hA
          · rw [hb] at hA
            simp only [cond_true] at hA
            split at hA
            · rename_i p1 r1 ck2 _
              cases hb2 : (Nat.ble ([] : List Nat).length ck2.length && notGrd r1)
              · rw [hb2] at hA; simp at hA
              · rw [hb2] at hA
                simp only [cond_true, Option.some.injEq, Prod.mk.injEq] at hA
                obtain ⟨_, _, rfl⟩ := hA
                have : putBack st.ck [] (ck2.map (Chunk.map (back [] st.ck.length))) = st.ck := by cases ck2 <;> rfl
                rw [this]; simp
            · simp at hA
        · simp at hA
      refine ⟨h1, h3.mono fun e w' hq => ?_⟩
      obtain ⟨v, V2, rfl, hr, hag, _, _, hw⟩ := hq
      refine ⟨v, rfl, ?_⟩
      split at h
      · rename_i hd
        cases hb : within [] ret'.refs
        · rw [hb] at h; simp at h
        · rw [hb] at h
          simp only [cond_true, Option.some.injEq, Prod.mk.injEq] at h
          obtain ⟨_, rfl⟩ := h
          rw [hd, List.append_nil] at hck'
          rw [hck'] at hw
          exact ⟨V2, hag, hw, hr⟩
      · rename_i e t l hd
        cases hb : within [] (ret'.frz (.own st.ck.length t l)).refs
        · rw [hb] at h; simp at h
        · rw [hb] at h
          simp only [cond_true, Option.some.injEq, Prod.mk.injEq] at h
          obtain ⟨_, rfl⟩ := h
          rw [hd] at hck'
          rw [hck'] at hw
          obtain ⟨H', m1, m2, m3⟩ := hw.freezeOwn (i := st.ck.length) (e := e) (t := t) (l := l) (by simp)
          have hset : (st.ck ++ [Chunk.own e t l]).set st.ck.length .dead = st.ck ++ [.dead] := by simp
          rw [hset] at m2
          refine ⟨⟨H', V2.σ, V2.ov⟩, ⟨hag.hle.trans m1, hag.same⟩, m2.chop, ?_⟩
          have hr2 : ret'.R ⟨H', V2.σ, V2.ov⟩ v := by
            cases ret' with
            | x s => exact SX.R_mono (V := V2) (V' := ⟨H', V2.σ, V2.ov⟩) rfl rfl m1 hr
            | tup l => obtain ⟨us, e, g1⟩ := hr; exact ⟨us, e, g1.mono fun _ _ _ hab => SX.R_mono (V := V2) (V' := ⟨H', V2.σ, V2.ov⟩) rfl rfl m1 hab⟩
            | grd _ _ _ => exact hr
          exact SV.R_frz (V := ⟨H', V2.σ, V2.ov⟩) (z := .own st.ck.length t l) m3 hr2
      · simp at h
    · simp at h
theorem opM_own {tys : Tys} {op : Op} {k : Nat} {ck' : List Chunk} (h : opM P tys st op = some (.c (.own k), ck')) : ∃ t len parts, op = .buildSlice t len parts := by
  cases op <;> first | exact ⟨_, _, _, rfl⟩ | (simp [opM] at h; done) | skip
  all_goals
    exfalso
    simp only [opM, cond_eq_ite] at h
    (repeat' split at h) <;> simp at h
theorem moveT_sound {i : Nat} {o : Oper} {e : TypeId} {s : Src} (h : moveT ops fs i o.op = some (e, s)) (hw : WOk Γ base.ck V w)
    (hanc : ∀ j ∈ anc ops ops.size i, ∀ d fo, dstOf ops j = some d → fs[j]? = some fo → fo.R V (a.tmps.getD d undef)) : OpDo P o a w (Grows Γ base.ck V fun V2 v => (⟨.x (.c (.pd (.lst s.t s.l))), some e⟩ : FO).R V2 v) := by
  obtain ⟨od, oop, oty, opos, oaft, og⟩ := o
  simp only at h
  cases oop <;> first | (simp [moveT] at h; done) | skip
  all_goals
    have htg := tightOf_sound (V := V) (a := a) h hanc
    exact .inl ⟨_, w, rfl, V, Agree.refl _ _, hw, Tight.lst htg, fun e' he => by cases he; exact htg⟩
theorem sliceT_sound {tys : Tys} {o : Oper} {fo : FO} (r : Rel Γ st V a w) (hwf : ckWf st.ck = true) (h : sliceT P tys st o.op = some fo) : OpDo P o a w (Grows Γ st.ck V fun V2 v => fo.R V2 v) := by
  unfold sliceT at h
  split at h
  · rename_i k ck' hm
    split at h
    · rename_i e t l hd
      cases hb : Nat.beq k st.ck.length
      · rw [hb] at h; simp at h
      · rw [hb] at h
        simp only [cond_true, Option.some.injEq] at h
        subst h
        obtain ⟨t', len, parts, hop⟩ := opM_own hm
        obtain ⟨od, oop, oty, opos, oaft, og⟩ := o
        simp only at hop hm
        subst hop
        obtain ⟨e2, ty2, l2, rs', _, hck2, hwf3, hrows, hrl, hmx, hrun⟩ := buildSlice_run (w := w) r hm
        subst hck2
        rw [List.drop_left] at hd
        simp only [List.cons.injEq, Chunk.own.injEq, and_true] at hd
        obtain ⟨rfl, rfl, hll⟩ := hd
        have hll := eq_of_heq hll
        subst hll
        obtain ⟨V1, k1, k2, k3, k4, k5⟩ := r.wok.regrow hwf (Nat.le_trans r.few.1 r.few.2) none (c := .cells ((l2.flatMap ty2.enc).map .pd) e2) (v' := undef) (s' := w.heap.size) (row := none) (by simp) (grown_alloc w (.cells rs'.toArray e2)) (fun V1 hag hH f1 f2 => by
          refine ⟨⟨rs', by rw [f1, heap_alloc_new], ?_⟩, fun b hb => .inr ?_⟩
          · rw [All2.map_left]; exact hrows.mono fun _ _ _ hab => by show PR V1.H _ _; rw [hH]; exact hab
          · simp only [Chunk.blk, f1, Option.some.injEq] at hb; omega)
        simp only [killCk] at k5
        have hnew : (w.alloc (.cells rs'.toArray e2)).heap[w.heap.size]? = some (.cells rs'.toArray e2 (0, 0)) := heap_alloc_new w _
        obtain ⟨m1, m2, m3⟩ := k5.freeze (i := st.ck.length) (g := w.heap.size) (o := .cells rs'.toArray e2 (0, 0)) (c := .cells ((l2.flatMap ty2.enc).map .pd) e2) (by simp) (by simp [Chunk.blk, k3]) hnew
        have hset : (st.ck ++ [Chunk.cells ((l2.flatMap ty2.enc).map .pd) e2]).set st.ck.length .dead = st.ck ++ [.dead] := by simp
        rw [hset] at m3
        have htg : Tight ⟨fun k => if k = w.heap.size then some (.cells rs'.toArray e2 (0, 0)) else V1.H k, V1.σ, V1.ov⟩ e2 ty2 l2 (.slice (some ⟨w.heap.size, 0, none⟩) l2.length l2.length) :=
          ⟨w.heap.size, rs'.toArray, rfl, by simp, by simpa using hrl, hmx, by simpa using hrows.mono fun _ _ _ hab => hab.mono (k1.hle.trans m1)⟩
        exact .inl ⟨_, _, run_value hrun, ⟨fun k => if k = w.heap.size then some (.cells rs'.toArray e2 (0, 0)) else V1.H k, V1.σ, V1.ov⟩, ⟨k1.hle.trans m1, k1.same⟩, m3.chop, Tight.lst htg, fun e' he => by cases he; exact htg⟩
    · simp at h
  · simp at h
theorem appT_sound {i : Nat} {o : Oper} {p : Option Prop} {fo : FO} (rs : Rel Γ st V a w) (hwf : ckWf st.ck = true) (h : appT P st ops fs i o.op = some (p, fo)) (hp : Holds p)
    (hanc : ∀ j ∈ anc ops ops.size i, ∀ d fo, dstOf ops j = some d → fs[j]? = some fo → fo.R V (a.tmps.getD d undef)) : OpDo P o a w (Grows Γ st.ck V fun V2 v => fo.R V2 v) := by
  obtain ⟨od, oop, oty, opos, oaft, og⟩ := o
  simp only at h
  unfold appT at h
  split at h
  · rename_i args ts
    split at h
    · rename_i x y t t' hargs hts
      split at h
      · rename_i e0 so tx lx so2 ty' ly e htx hy hu
        split at h
        · rename_i inf hi
          split at h
          · rename_i z hz
            cases hb : (Nat.beq t t' && Nat.beq e0 e && Nat.beq tx.size inf.size && Nat.beq z.cells.toList.length inf.size)
            · rw [hb] at h; simp at h
            · rw [hb] at h
              simp only [cond_true] at h
              split at h
              · rename_i het
                subst het
                simp only [Option.some.injEq, Prod.mk.injEq] at h
                obtain ⟨rfl, rfl⟩ := h
                simp only [Bool.and_eq_true] at hb
                have q1 := Nat.eq_of_beq_eq_true hb.1.1.1
                have q2 := Nat.eq_of_beq_eq_true hb.1.1.2
                have q3 := Nat.eq_of_beq_eq_true hb.1.2
                have q4 := Nat.eq_of_beq_eq_true hb.2
                have ea : args = #[x, y] := by cases args; simp_all
                have et : ts = #[t, t'] := by cases ts; simp_all
                subst ea; subst et; subst q1; subst q2
                simp only [Option.bind_eq_some_iff] at hy
                obtain ⟨sy, hy1, hy2⟩ := hy
                obtain ⟨ao, c, us, e2, hn, hrows, hcells⟩ := srcX_sound rs hy2 (evalO_sound rs (g := none) trivial hy1)
                have htg := tightOf_sound (V := V) (a := a) htx hanc
                simp only at htg e2 hn hrows
                obtain ⟨v', w', V', g1, g2, g3, g4⟩ := append_tight (ty := oty) hu hi hz (by rw [← Array.length_toList]; exact q4) q3 rs.wok hwf (Nat.le_trans rs.few.1 rs.few.2) htg hn hrows hcells hp
                exact .inl ⟨v', w', run_append_call rfl e2 g1, V', g2, g3, fo_plain g4⟩
              · simp at h
          · simp at h
        · simp at h
      · simp at h
    · simp at h
  · simp at h
theorem flowOp_sound (ht : TOk P cfg.tab Γ) {i : Nat} {o : Oper} {p : Option Prop} {fo : FO} (hwf : base.wf = true) (h : flowOp P cfg base ops fs i o = some (p, fo)) (hp : Holds p) (r : Rel Γ base V a w)
    (hanc : ∀ j ∈ anc ops ops.size i, ∀ d fo, dstOf ops j = some d → fs[j]? = some fo → fo.R V (a.tmps.getD d undef)) : OpDo P o a w (Grows Γ base.ck V fun V2 v => fo.R V2 v) := by
  have rs : Rel Γ (stAt base ops fs (anc ops ops.size i)) V a w := rel_slots r fun j hj d fo hd hf => (hanc j hj d fo hd hf).1
  have hwf2 : ckWf base.ck = true := by simp only [ST.wf, Bool.and_eq_true] at hwf; exact hwf.2
  unfold flowOp at h
  split at h
  · rename_i e src hmv
    simp only [Option.some.injEq, Prod.mk.injEq] at h
    obtain ⟨rfl, rfl⟩ := h
    exact moveT_sound hmv r.wok hanc
  · split at h
    · rename_i p' sx hv
      simp only [Option.some.injEq, Prod.mk.injEq] at h
      obtain ⟨rfl, rfl⟩ := h
      obtain ⟨v, h1, h2⟩ := opVB_sound rs (g := none) trivial hv hp
      exact .inl ⟨v, w, h1, V, Agree.refl _ _, r.wok, fo_plain h2⟩
    · split at h
      · rename_i f args hc
        simp only [Option.map_eq_some_iff, Prod.mk.injEq] at h
        obtain ⟨⟨p', ret⟩, hF, rfl, rfl⟩ := h
        have hok : callOk P f = true := by
          unfold goF at hF
          cases hn : within [] (args.flatMap SX.refs)
          · rw [hn] at hF; exact goB_ok hF
          · rw [hn] at hF
            simp only [cond_true] at hF
            split at hF
            · rename_i hA; exact goA_ok (cfg := cfg) hA
            · simp at hF
        obtain ⟨vs, h1, h2⟩ := callee_sound (P := P) rs (g := none) trivial hc hok
        obtain ⟨_, h3⟩ := goF_sound ht rs hwf2 hF hp h2
        refine .inr ⟨_, _, w, h1, h3.mono fun e w2 hq => ?_⟩
        obtain ⟨v, rfl, V2, g1, g2, g3⟩ := hq
        exact ⟨v, rfl, V2, g1, g2, fo_plain g3⟩
      · split at h
        · rename_i l hl
          simp only [Option.some.injEq, Prod.mk.injEq] at h
          obtain ⟨rfl, rfl⟩ := h
          obtain ⟨v, h1, h2⟩ := opT_sound (P := P) rs hl
          exact .inl ⟨v, w, h1, V, Agree.refl _ _, r.wok, fo_plain h2⟩
        split at h
        · rename_i sx hl
          simp only [Option.some.injEq, Prod.mk.injEq] at h
          obtain ⟨rfl, rfl⟩ := h
          obtain ⟨v, w', h1, h2, h3⟩ := opC_sound (P := P) rs hl
          exact .inl ⟨v, w', h1, V, Agree.refl _ _, r.wok.kept h3, fo_plain h2⟩
        split at h
        · rename_i fo' hs
          simp only [Option.some.injEq, Prod.mk.injEq] at h
          obtain ⟨rfl, rfl⟩ := h
          exact sliceT_sound (st := stAt base ops fs (anc ops ops.size i)) rs hwf2 hs
        · exact appT_sound (st := stAt base ops fs (anc ops ops.size i)) rs hwf2 h hp hanc
theorem flowRun_entries {Ps : Program} {fr0 : List (Nat × SV)} : ∀ (l : List Oper) (fs0 : List FO) {ps : List Prop} {fs : List FO}, flowRun Ps cfg base ops fr0 l fs0 = some (ps, fs) → (∀ q ∈ ps, q) →
    fs.length = fs0.length + l.length ∧ fs.take fs0.length = fs0 ∧ ∀ (j : Nat) o, l[j]? = some o → o.guard = none ∧ ∃ p fo, flowOp Ps cfg { base with fr := base.fr ++ olds ops fr0 (fs0.length + j) } ops (fs.take (fs0.length + j)) (fs0.length + j) o = some (p, fo) ∧ Holds p ∧ fs[fs0.length + j]? = some fo ∧ fo.sv.lt base.ck.length = true
  | [], fs0, ps, fs, h, _ => by
    simp only [flowRun, Option.some.injEq, Prod.mk.injEq] at h
    obtain ⟨rfl, rfl⟩ := h
    exact ⟨by simp, by simp, fun j o hj => by simp at hj⟩
  | o :: l, fs0, ps, fs, h, hps => by
    simp only [flowRun] at h
    cases hg : o.guard.isNone
    · rw [hg] at h; simp at h
    · rw [hg] at h
      simp only [cond_true] at h
      have hg' : o.guard = none := by simpa using hg
      split at h
      · rename_i p fo hop
        cases hb : (fo.sv.lt base.ck.length && notGrd fo.sv)
        · rw [hb] at h; simp at h
        · rw [hb] at h
          simp only [cond_true] at h
          simp only [Bool.and_eq_true] at hb
          split at h
          · rename_i ps' fs' hr
            simp only [Option.some.injEq, Prod.mk.injEq] at h
            obtain ⟨rfl, rfl⟩ := h
            have hq : Holds p := by
              cases p with
              | none => trivial
              | some q => exact hps q List.mem_cons_self
            have hps' : ∀ x ∈ ps', x := by
              cases p with
              | none => exact hps
              | some q => exact fun x hx => hps x (List.mem_cons_of_mem _ hx)
            obtain ⟨h1, h2, h3⟩ := flowRun_entries l (fs0 ++ [fo]) hr hps'
            simp only [List.length_append, List.length_cons, List.length_nil] at h1 h2 h3
            have h4 : fs'.take fs0.length = fs0 := by
              have := congrArg (List.take fs0.length) h2
              rw [List.take_take, Nat.min_eq_left (by omega)] at this
              simpa using this
            have h5 : fs'[fs0.length]? = some fo := by
              have := congrArg (fun l => l[fs0.length]?) h2
              simp only [List.getElem?_take] at this
              rw [if_pos (by omega)] at this
              simpa using this
            refine ⟨by simp only [List.length_cons]; omega, h4, fun j o' hj => ?_⟩
            cases j with
            | zero =>
              simp only [List.getElem?_cons_zero, Option.some.injEq] at hj
              subst hj
              exact ⟨hg', p, fo, by rw [Nat.add_zero, h4]; exact hop, hq, by rw [Nat.add_zero]; exact h5, hb.1⟩
            | succ j =>
              simp only [List.getElem?_cons_succ] at hj
              have := h3 j o' hj
              rw [show fs0.length + (0 + 1) + j = fs0.length + (j + 1) from by omega] at this
              exact this
          · simp at h
      · simp at h
theorem anc_lt (hok : flowOk ops = true) : ∀ (n i j : Nat), j ∈ anc ops n i → j < i
  | 0, i, j, h => by simp [anc] at h
  | n + 1, i, j, h => by
    unfold anc at h
    split at h
    · rename_i o ho
      obtain ⟨x, hx, hjx⟩ := List.mem_flatMap.1 h
      have hxi : x < i := by
        simp only [flowOk, Bool.and_eq_true] at hok
        have h1 := List.all_eq_true.1 hok.2 (o, i) (by rw [List.mem_zipIdx_iff_getElem?]; simpa using ho)
        exact Nat.le_of_ble_eq_true (List.all_eq_true.1 h1 x hx)
      rcases List.mem_cons.1 hjx with rfl | hjx
      · exact hxi
      · have := anc_lt hok n x j hjx; omega
    · cases h
theorem flow_sound {f : Go.Sy.Md} {R : Ending → World → Prop} (ht : TOk P cfg.tab Γ) (hm : P.follows .mixedOrders = true) (hok : (flowOk ops && (allDsts ops).all (fun d => Nat.blt d st.n) && st.wf) = true)
    {ps : List Prop} (hrun : flowRun P cfg (flowBase ops st) ops st.fr ops.toList [] = some (ps, fs)) (hps : ∀ q ∈ ps, q) {id : Nat} {k : List Item} (r : Rel Γ st V a w)
    (hk : ∀ V' a' w', Rel Γ (stAt (flowBase ops st) ops fs (List.range ops.size)) V' a' w' → Go.Sy.Fin P f R k a' w') : Go.Sy.Fin P f R (.code (.region id ops true) :: k) a w := by
  simp only [Bool.and_eq_true] at hok
  obtain ⟨⟨hfo, hds⟩, hwf⟩ := hok
  obtain ⟨hlen, _, hent⟩ := flowRun_entries ops.toList [] hrun hps
  simp only [List.length_nil, Nat.zero_add, Array.length_toList] at hlen hent
  refine Go.Sy.Fin.region_draw fun t => ?_
  simp only [Region.schedule, hm, Bool.true_or, if_true]
  have rd : Rel Γ st V a w.drew := ⟨r.size, r.defers, r.slots, r.wok.kept ⟨rfl, rfl, rfl, Nat.le_refl _, fun _ _ _ => rfl⟩, r.few⟩
  let Φ : Nat → Vn → Value → Prop := fun i V1 v => match fs[i]? with | some fo => fo.R V1 v | none => False
  have hΦ : ∀ {i : Nat} {fo : FO} {V1 : Vn} {v : Value}, fs[i]? = some fo → (Φ i V1 v ↔ fo.R V1 v) := by
    intro i fo V1 v h
    show (match fs[i]? with | some fo => fo.R V1 v | none => False) ↔ _
    rw [h]
  have hlt : ∀ (i : Nat) fo, fs[i]? = some fo → fo.sv.lt st.ck.length = true := by
    intro i fo hfo'
    have hi : i < ops.size := by have := (List.getElem?_eq_some_iff.1 hfo').1; omega
    obtain ⟨_, p, fo2, _, _, h3, h4⟩ := hent i ops[i] (by simp [hi])
    rw [hfo'] at h3
    simp only [Option.some.injEq] at h3
    subst h3; exact h4
  refine flow_go (V := V) (st := st) Φ ?_ hfo hds hwf ?_ ?_ ops.size t (Array.replicate ops.size false) V (Agree.refl _ _) (by simp) ?_ a w.drew (flowBase_rel rd ops) (fun p hp _ _ => rd.slots p.1 p.2 hp) ?_ ?_
  · intro i V1 V2 v hag h
    cases hf : fs[i]? with
    | none => have : (match fs[i]? with | some fo => fo.R V1 v | none => False) := h; rw [hf] at this; exact this.elim
    | some fo => exact (hΦ hf).2 (FO.R_agree hag (hlt i fo hf) ((hΦ hf).1 h))
  · intro i o ho V1 hV1 a1 w1 r1 hold hanc
    obtain ⟨hg, p, fo, h1, h2, h3, h4⟩ := hent i o (by rw [Array.getElem?_toList]; exact ho)
    have hwt : Region.wanted o (yielded ops a1.tmps) = true := wanted_none hg
    refine ⟨fun _ => ?_, fun hw => by rw [hwt] at hw; cases hw⟩
    have e : (fun V2 v => fo.R V2 v) = Φ i := by
      funext V2 v
      exact propext (hΦ h3).symm
    have r2 : Rel Γ { flowBase ops st with fr := (flowBase ops st).fr ++ olds ops st.fr i } V1 a1 w1 := ⟨r1.size, r1.defers, fun t' sv hm => by
      rcases List.mem_append.1 hm with hm | hm
      · exact r1.slots t' sv hm
      · obtain ⟨hm1, hm2⟩ := List.mem_filter.1 hm
        simp only [Bool.and_eq_true] at hm2
        refine hold (t', sv) hm1 hm2.1 fun j hjd => ?_
        have hjs : j < ops.size := by
          unfold dstOf at hjd
          simp only [Option.bind_eq_some_iff] at hjd
          obtain ⟨o', h5, _⟩ := hjd
          exact (Array.getElem?_eq_some_iff.1 h5).1
        have h6 := List.all_eq_true.1 hm2.2.2 j (List.mem_range.2 hjs)
        rw [hjd] at h6
        simp only [Bool.or_eq_true, Bool.not_eq_true'] at h6
        rcases h6 with h6 | h6
        · exact absurd (Nat.beq_refl t') (by rw [h6]; simp)
        · obtain ⟨x, hx, hxe⟩ := List.any_eq_true.1 h6
          rw [Nat.eq_of_beq_eq_true hxe]; exact hx, r1.wok, r1.few⟩
    have hwf3 : ({ flowBase ops st with fr := (flowBase ops st).fr ++ olds ops st.fr i } : ST).wf = true := by
      have h5 := flowBase_wf (ops := ops) hwf
      simp only [ST.wf, Bool.and_eq_true] at h5 hwf ⊢
      refine ⟨?_, h5.2⟩
      rw [List.all_append, Bool.and_eq_true]
      refine ⟨h5.1, List.all_eq_true.2 fun p hp => ?_⟩
      exact List.all_eq_true.1 hwf.1 p (List.mem_filter.1 hp).1
    have := flowOp_sound (a := a1) ht hwf3 h1 h2 r2 fun j hj d fo' hd hf => by
      have hji := anc_lt hfo _ _ _ hj
      rw [List.getElem?_take, if_pos hji] at hf
      exact (hΦ hf).1 (hanc j hj d hd)
    rw [← e]
    exact this
  · intro V1 hV1 a1 w1 r1 hall
    exact hk V1 a1 w1 (rel_slots r1 fun j _ d fo hd hf => ((hΦ hf).1 (hall j d hd)).1)
  · unfold leftOf
    refine Nat.le_trans (List.length_filter_le _ _) (by simp)
  · intro i d hi
    simp [Array.getD_eq_getD_getElem?, Array.getElem?_replicate] at hi
    split at hi <;> simp at hi
  · intro i o hi
    simp [Array.getD_eq_getD_getElem?, Array.getElem?_replicate] at hi
    split at hi <;> simp at hi
end
end Go.Ev

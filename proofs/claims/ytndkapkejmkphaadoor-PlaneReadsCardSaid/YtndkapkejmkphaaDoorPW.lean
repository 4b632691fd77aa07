/- An executor for function bodies of the model over data, part PW: a statement whose order Go leaves open, with operations that write, is sound. Conditions: each operation's own. -/
import Derived.Test.YtndkapkejmkphaaDoorPV
namespace Go.Ev
open Go.RowKit

section
variable {Γ : Ctx} {P : Program} {cfg : Cfg} {st base : ST} {V : Vn} {a : Act} {w : World} {ops : Array Oper} {fs : List FX} {A : List (List Nat)} {T : List (Nat × Nat)} {n0 : Nat}
theorem onBy_iff {b want : Bool} {on : Option (Nat × Nat × Bool × Prop)} {u : Value} (h : (⟨.x (.c (.pd (.bool b))), on⟩ : FX).R V u) : u = .bool want ↔ onBy want b on := by
  have hb : ∀ {u : Value}, SV.R V (.x (.c (.pd (.bool b)))) u → u = .bool b := by
    intro u hu
    have : PR V.H (.bool b) u := hu
    cases this; rfl
  cases on with
  | none =>
    have := hb h
    subst this
    simp [onBy]
  | some q =>
    obtain ⟨h1, h2⟩ := h
    simp only [onBy]
    by_cases hq : q.2.2.2
    · have := hb (h1 hq)
      subst this
      simp [hq]
    · have := h2 hq
      subst this
      simp [hq, undef]
def OnOk (ops : Array Oper) (fs : List FX) : Prop := ∀ (j : Nat) fo g s want q, fs[j]? = some fo → fo.on = some (g, s, want, q) → dstOf ops g = some s ∧ ∃ b on, fs[g]? = some ⟨.x (.c (.pd (.bool b))), on⟩ ∧ q = onBy want b on
theorem slotsX_ok (hon : OnOk ops fs) {all : List Nat} (hall : ∀ j ∈ all, ∀ d fo, dstOf ops j = some d → fs[j]? = some fo → fo.R V (a.tmps.getD d undef)) : ∀ (l : List Nat), (∀ j ∈ l, j ∈ all) → ∀ t sv, (t, sv) ∈ slotsX ops fs all l → SlotOk V a t sv
  | [], _, t, sv, h => by simp [slotsX] at h
  | j :: l, hl, t, sv, h => by
    have ih := slotsX_ok hon hall l fun x hx => hl x (List.mem_cons_of_mem _ hx)
    simp only [slotsX] at h
    split at h
    · rename_i sv' d hfo hd
      rcases List.mem_cons.1 h with h | h
      · simp only [Prod.mk.injEq] at h
        obtain ⟨rfl, rfl⟩ := h
        exact slotOk_of_R (hall j (hl j List.mem_cons_self) t _ hd hfo) rfl
      · exact ih t sv h
    · rename_i v g s want q d hfo hd
      cases hb : all.any (Nat.beq g)
      · rw [hb] at h; exact ih t sv h
      · rw [hb] at h
        simp only [cond_true] at h
        rcases List.mem_cons.1 h with h | h
        · simp only [Prod.mk.injEq] at h
          obtain ⟨rfl, rfl⟩ := h
          obtain ⟨hgd, b, on, hgf, rfl⟩ := hon j _ g s want q hfo rfl
          have hgR := hall g (mem_any hb) s _ hgd hgf
          have hR := hall j (hl j List.mem_cons_self) t _ hd hfo
          have hiff := onBy_iff (want := want) hgR
          exact ⟨fun he => hR.1 (hiff.1 he), fun he => hR.2 fun hq => he (hiff.2 hq)⟩
        · exact ih t sv h
    · exact ih t sv h
theorem relX {X ckv : List Chunk} (r : Rel Γ { flowBase ops st with ck := X } V a w) (hb : base.fr = (flowBase ops st).fr ∧ base.n = st.n ∧ base.m = st.m) (hlen : st.m ≤ ckv.length) (hck : ∀ (x : Nat) c, ckv[x]? = some c → c = .dead ∨ X[x]? = some c) {l : List Nat}
    (hon : OnOk ops fs) (hall : ∀ j ∈ l, ∀ d fo, dstOf ops j = some d → fs[j]? = some fo → fo.R V (a.tmps.getD d undef)) : Rel Γ (stX base ckv ops fs l) V a w := by
  refine { size := by rw [r.size]; exact hb.2.1.symm, defers := r.defers, slots := ?_, wok := r.wok.sub hck, few := ⟨by show Γ.m ≤ base.m; rw [hb.2.2]; exact r.few.1, by show base.m ≤ _; rw [hb.2.2]; exact hlen⟩ }
  intro t sv hm
  rcases List.mem_append.1 hm with hm | hm
  · exact slotsX_ok hon hall l (fun _ h => h) t sv hm
  · rw [hb.1] at hm; exact r.slots t sv hm
theorem grdX_spec {lit : Bool} {An : List Nat} {o : Oper} {g s : Nat} {want : Bool} {q : Prop} (h : grdX lit ops fs An o = some (some (g, s, want, q))) : o.guard = some (g, want) ∧ g ∈ An ∧ dstOf ops g = some s ∧ ∃ b on, fs[g]? = some ⟨.x (.c (.pd (.bool b))), on⟩ ∧ q = onBy want b on := by
  unfold grdX at h
  split at h
  · simp at h
  · rename_i j want' hgd
    cases hb : An.any (Nat.beq j)
    · rw [hb] at h; simp at h
    · rw [hb] at h
      simp only [cond_true] at h
      split at h
      · rename_i b on s' hf hs
        cases lit
        · simp only [cond_false, Option.some.injEq, Prod.mk.injEq] at h
          obtain ⟨rfl, rfl, rfl, rfl⟩ := h
          exact ⟨hgd, mem_any hb, hs, b, on, hf, rfl⟩
        · simp only [cond_true] at h
          split at h
          · cases hbw : (b == want')
            · rw [hbw] at h
              simp only [cond_false, Option.some.injEq, Prod.mk.injEq] at h
              obtain ⟨rfl, rfl, rfl, rfl⟩ := h
              exact ⟨hgd, mem_any hb, hs, b, none, hf, rfl⟩
            · rw [hbw] at h; simp at h
          · rename_i q'
            simp only [Option.some.injEq, Prod.mk.injEq] at h
            obtain ⟨rfl, rfl, rfl, rfl⟩ := h
            exact ⟨hgd, mem_any hb, hs, b, some q', hf, rfl⟩
      · simp at h
theorem grdX_none {lit : Bool} {An : List Nat} {o : Oper} (h : grdX lit ops fs An o = some none) : o.guard = none ∨ ∃ g s want, o.guard = some (g, want) ∧ g ∈ An ∧ dstOf ops g = some s ∧ fs[g]? = some ⟨.x (.c (.pd (.bool want))), none⟩ := by
  unfold grdX at h
  split at h
  · exact .inl (by assumption)
  · rename_i j want' hgd
    cases hb : An.any (Nat.beq j)
    · rw [hb] at h; simp at h
    · rw [hb] at h
      simp only [cond_true] at h
      split at h
      · rename_i b on s' hf hs
        cases lit
        · simp at h
        · simp only [cond_true] at h
          split at h
          · cases hbw : (b == want')
            · rw [hbw] at h; simp at h
            · have e : b = want' := eq_of_beq hbw
              subst e
              exact .inr ⟨j, s', b, hgd, mem_any hb, hs, hf⟩
          · simp at h
      · simp at h
def OkQ (n0 sz : Nat) (A : List (List Nat)) (T : List (Nat × Nat)) (q : Nat × Nat × Chunk) : Prop := refsOk n0 sz A q.1 q.2.2.refs = true ∧ vis A q.1 q.2.1 T = true ∧ refsOk n0 sz A q.1 [q.2.1] = true
theorem flowRun2_entries {fr0 : List (Nat × SV)} : ∀ (l : List Oper) (fs0 : List FX) (E0 : Eff) {ps : List Prop} {fs : List FX} {E : Eff}, flowRun2 P cfg base ops A T n0 fr0 l fs0 E0 = some (ps, fs, E) → (∀ q ∈ ps, q) → (∀ q ∈ E0, q.1 < fs0.length) →
    fs.length = fs0.length + l.length ∧ fs.take fs0.length = fs0 ∧ (∃ F, E = F ++ E0 ∧ ∀ q ∈ F, fs0.length ≤ q.1 ∧ q.1 < fs.length ∧ OkQ n0 ops.size A T q) ∧
    ∀ (j : Nat) o, l[j]? = some o → ∃ p fo ef Ej F, flowOp2 P cfg base ops A T n0 fr0 (fs.take (fs0.length + j)) Ej (fs0.length + j) o = some (p, fo, ef) ∧ Holds p ∧ fs[fs0.length + j]? = some fo ∧ okFX n0 ops.size A T (fs0.length + j) fo ef = true ∧
      E = F ++ (ef.map (fun q => (fs0.length + j, q.1, q.2)) ++ Ej) ∧ (∀ q ∈ F, fs0.length + j < q.1) ∧ (∀ q ∈ Ej, q.1 < fs0.length + j)
  | [], fs0, E0, ps, fs, E, h, _, _ => by
    simp only [flowRun2, Option.some.injEq, Prod.mk.injEq] at h
    obtain ⟨rfl, rfl, rfl⟩ := h
    exact ⟨by simp, by simp, ⟨[], rfl, by simp⟩, fun j o hj => by simp at hj⟩
  | o :: l, fs0, E0, ps, fs, E, h, hps, hE0 => by
    simp only [flowRun2] at h
    split at h
    · rename_i p fo ef hop
      cases hb : okFX n0 ops.size A T fs0.length fo ef
      · rw [hb] at h; simp at h
      · rw [hb] at h
        simp only [cond_true] at h
        split at h
        · rename_i ps' fs' E' hr
          simp only [Option.some.injEq, Prod.mk.injEq] at h
          obtain ⟨rfl, rfl, rfl⟩ := h
          have hq : Holds p := by
            cases p with
            | none => trivial
            | some q => exact hps q List.mem_cons_self
          have hps' : ∀ x ∈ ps', x := by
            cases p with
            | none => exact hps
            | some q => exact fun x hx => hps x (List.mem_cons_of_mem _ hx)
          have hE1 : ∀ q ∈ ef.map (fun q => (fs0.length, q.1, q.2)) ++ E0, q.1 < (fs0 ++ [fo]).length := by
            intro q hq
            simp only [List.length_append, List.length_cons, List.length_nil]
            rcases List.mem_append.1 hq with hq | hq
            · obtain ⟨q', _, rfl⟩ := List.mem_map.1 hq
              show fs0.length < _
              omega
            · have := hE0 q hq; omega
          obtain ⟨h1, h2, ⟨F, hF, hFk⟩, h3⟩ := flowRun2_entries l (fs0 ++ [fo]) _ hr hps' hE1
          simp only [List.length_append, List.length_cons, List.length_nil] at h1 h2 h3 hFk
          have h4 : fs'.take fs0.length = fs0 := by
            have := congrArg (List.take fs0.length) h2
            rw [List.take_take, Nat.min_eq_left (by omega)] at this
            simpa using this
          have h5 : fs'[fs0.length]? = some fo := by
            have := congrArg (fun l => l[fs0.length]?) h2
            simp only [List.getElem?_take] at this
            rw [if_pos (by omega)] at this
            simpa using this
          refine ⟨by simp only [List.length_cons]; omega, h4, ⟨F ++ ef.map (fun q => (fs0.length, q.1, q.2)), by rw [hF, List.append_assoc], fun q hq => ?_⟩, fun j o' hj => ?_⟩
          · rcases List.mem_append.1 hq with hq | hq
            · obtain ⟨k1, k2, k3⟩ := hFk q hq
              exact ⟨by omega, k2, k3⟩
            · obtain ⟨q', hq', rfl⟩ := List.mem_map.1 hq
              simp only [okFX, Bool.and_eq_true] at hb
              have := List.all_eq_true.1 hb.2 q' hq'
              simp only [Bool.and_eq_true] at this
              exact ⟨Nat.le_refl _, by show fs0.length < _; omega, this.1.1, this.1.2, this.2⟩
          · cases j with
            | zero =>
              simp only [List.getElem?_cons_zero, Option.some.injEq] at hj
              subst hj
              exact ⟨p, fo, ef, E0, F, by rw [Nat.add_zero, h4]; exact hop, hq, by rw [Nat.add_zero]; exact h5, by rw [Nat.add_zero]; exact hb, by rw [Nat.add_zero]; exact hF, fun q hq => by have := (hFk q hq).1; omega, fun q hq => by rw [Nat.add_zero]; exact hE0 q hq⟩
            | succ j =>
              simp only [List.getElem?_cons_succ] at hj
              have := h3 j o' hj
              rw [show fs0.length + (0 + 1) + j = fs0.length + (j + 1) from by omega] at this
              exact this
        · simp at h
    · simp at h
end

theorem effOf_some {x : Nat} {c : Chunk} : ∀ {ef : List (Nat × Chunk)}, effOf ef x = some c → (x, c) ∈ ef
  | [], h => by simp [effOf] at h
  | q :: ef, h => by
    simp only [effOf] at h
    cases hb : Nat.beq q.1 x
    · rw [hb] at h; exact List.mem_cons_of_mem _ (effOf_some h)
    · rw [hb] at h
      simp only [cond_true, Option.some.injEq] at h
      rw [← Nat.eq_of_beq_eq_true hb, ← h]
      exact List.mem_cons_self
theorem inT_mem {T : List (Nat × Nat)} {E : Eff} (h : inT T E = true) {q : Nat × Nat × Chunk} (hq : q ∈ E) : (q.1, q.2.1) ∈ T := by
  obtain ⟨t, ht, hb⟩ := List.any_eq_true.1 (List.all_eq_true.1 h q hq)
  simp only [Bool.and_eq_true] at hb
  have e1 := Nat.eq_of_beq_eq_true hb.1
  have e2 := Nat.eq_of_beq_eq_true hb.2
  rw [← e1, ← e2]; exact ht
theorem vis_mem {A : List (List Nat)} {i x : Nat} {T : List (Nat × Nat)} (h : vis A i x T = true) {k : Nat} (hk : (k, x) ∈ T) : k = i ∨ k ∈ ancL A i ∨ i ∈ ancL A k := by
  have := List.all_eq_true.1 h (k, x) hk
  simp only [Nat.beq_refl, Bool.not_true, Bool.false_or, Bool.or_eq_true] at this
  rcases this with (h | h) | h
  · exact .inl (Nat.eq_of_beq_eq_true h)
  · exact .inr (.inl (mem_any h))
  · exact .inr (.inr (mem_any h))
theorem refsOk_mem {n0 sz : Nat} {A : List (List Nat)} {i : Nat} {l : List Nat} (h : refsOk n0 sz A i l = true) {y : Nat} (hy : y ∈ l) : y < n0 ∨ (y < n0 + sz * 3 ∧ ow n0 sz y = i) ∨ ∃ k ∈ ancL A i, y < n0 + sz * 3 ∧ ow n0 sz y = k := by
  have := List.all_eq_true.1 h y hy
  simp only [Bool.or_eq_true, Bool.and_eq_true] at this
  rcases this with h | ⟨h0, h | h⟩
  · exact .inl (Nat.le_of_ble_eq_true h)
  · exact .inr (.inl ⟨Nat.le_of_ble_eq_true h0, Nat.eq_of_beq_eq_true h⟩)
  · obtain ⟨k, hk, hb⟩ := List.any_eq_true.1 h
    exact .inr (.inr ⟨k, hk, Nat.le_of_ble_eq_true h0, Nat.eq_of_beq_eq_true hb⟩)
theorem ow_new {n0 sz i : Nat} (j : Nat) (hi : i < sz) : ow n0 sz (n0 + i + j * sz) = i := by
  unfold ow
  have : n0 + i + j * sz - n0 = i + j * sz := by omega
  rw [this, Nat.add_mul_mod_self_right, Nat.mod_eq_of_lt hi]
section
variable {Γ : Ctx} {P : Program} {cfg : Cfg} {st : ST} {V : Vn} {a : Act} {w : World} {ops : Array Oper} {fs : List FX} {T : List (Nat × Nat)} {E : Eff}
def CD (st : ST) (ops : Array Oper) (E : Eff) (D : Nat → Bool) : List Chunk := ckAux E D (base2 ops st).ck 0
theorem CD_length (D : Nat → Bool) : (CD st ops E D).length = st.ck.length + ops.size * 3 := by
  simp only [CD]; rw [ckAux_length]; simp [base2]
theorem CD_get (D : Nat → Bool) (x : Nat) : (CD st ops E D)[x]? = ((base2 ops st).ck[x]?).map fun c => (effAt D E x).getD c := by
  simp only [CD]; rw [ckAux_get]; simp
theorem effAt_mem {D : Nat → Bool} {x : Nat} {c : Chunk} : ∀ {E : Eff}, effAt D E x = some c → ∃ k, (k, x, c) ∈ E ∧ D k = true
  | [], h => by simp [effAt] at h
  | q :: r, h => by
    simp only [effAt] at h
    cases hb : (Nat.beq q.2.1 x && D q.1)
    · rw [hb] at h
      obtain ⟨k, h1, h2⟩ := effAt_mem h
      exact ⟨k, List.mem_cons_of_mem _ h1, h2⟩
    · rw [hb] at h
      simp only [cond_true, Option.some.injEq] at h
      simp only [Bool.and_eq_true] at hb
      have e := Nat.eq_of_beq_eq_true hb.1
      subst e; subst h
      exact ⟨q.1, List.mem_cons_self, hb.2⟩
theorem base2_get {x : Nat} {c : Chunk} (h : (base2 ops st).ck[x]? = some c) : (x < st.ck.length ∧ st.ck[x]? = some c) ∨ (st.ck.length ≤ x ∧ c = .dead) := by
  simp only [base2] at h
  by_cases hx : x < st.ck.length
  · rw [List.getElem?_append_left hx] at h; exact .inl ⟨hx, h⟩
  · rw [List.getElem?_append_right (by omega)] at h
    exact .inr ⟨by omega, (List.eq_of_mem_replicate (List.mem_of_getElem? h))⟩
theorem chunk_lt_refs {c : Chunk} {n : Nat} (h : ∀ z ∈ c.refs, z < n) : c.lt n = true := by
  have hb : ∀ z, z < n → Nat.blt z n = true := fun z hz => Nat.ble_eq_true_of_le hz
  have hrl : ∀ r : RC, (∀ z ∈ r.refs, z < n) → r.lt n = true := by
    intro r hr
    cases r with
    | pd p => rfl
    | loc i o => exact hb i (hr i (by simp [RC.refs]))
  have hsl : ∀ c : SC, (∀ z ∈ c.refs, z < n) → c.lt n = true := by
    intro c hc
    cases c with
    | pd p => rfl
    | loc i o => exact hb i (hc i (by simp [SC.refs]))
    | own i => exact hb i (hc i (by simp [SC.refs]))
    | oat i j sz o => exact hb i (hc i (by simp [SC.refs]))
    | fn f a b =>
      simp only [SC.lt, Bool.and_eq_true]
      exact ⟨List.all_eq_true.2 fun r hr => hrl r fun z hz => hc z (List.mem_append_left _ (List.mem_flatMap.2 ⟨r, hr, hz⟩)), List.all_eq_true.2 fun r hr => hrl r fun z hz => hc z (List.mem_append_right _ (List.mem_flatMap.2 ⟨r, hr, hz⟩))⟩
  cases c with
  | dead => rfl
  | own _ _ _ => rfl
  | obj o =>
    cases o with
    | set => rfl
    | it j d c => exact hb j (h j (by simp [Chunk.refs, Ob.refs]))
  | cells cs e => exact List.all_eq_true.2 fun c hc => hsl c fun z hz => h z (List.mem_flatMap.2 ⟨c, hc, hz⟩)
theorem flowOp2_next (ht : TOk P cfg.tab Γ) (hok : flowOk2 ops = true) (hwf : st.wf = true) (hst : st.m ≤ st.ck.length) {ps : List Prop} (hrun : flowRun2 P cfg (base2 ops st) ops (ancT ops.toList []) T st.ck.length st.fr ops.toList [] [] = some (ps, fs, E)) (hps : ∀ q ∈ ps, q) (hT : inT T E = true)
    {i : Nat} {o : Oper} (ho : ops[i]? = some o) {D : Nat → Bool} (hDi : D i = false) (hD : ∀ k o', D k = true → ops[k]? = some o' → ∀ j ∈ directDeps o', D j = true) (hdeps : ∀ j ∈ directDeps o, D j = true)
    (r : Rel Γ { flowBase ops st with ck := CD st ops E D } V a w) (hΦ : ∀ j d fo, D j = true → dstOf ops j = some d → fs[j]? = some fo → fo.R V (a.tmps.getD d undef)) (hold : ∀ d sv, (d, SV.x sv) ∈ st.fr → (∀ j, dstOf ops j = some d → D j = false) → sv.R V (a.tmps.getD d undef)) :
    (Region.wanted o (yielded ops a.tmps) = true → OpDo2 P o a w (Next2 Γ (CD st ops E) st.ck.length (fun j V v => ∀ d fo, dstOf ops j = some d → fs[j]? = some fo → fo.R V v) D i V)) ∧
    (Region.wanted o (yielded ops a.tmps) = false → Next2 Γ (CD st ops E) st.ck.length (fun j V v => ∀ d fo, dstOf ops j = some d → fs[j]? = some fo → fo.R V v) D i V undef w) := by
  have hedge := flowOk2_edge hok
  obtain ⟨hlen, _, ⟨F0, hF0, hEk⟩, hent⟩ := flowRun2_entries ops.toList [] [] hrun hps (by simp)
  simp only [List.length_nil, Nat.zero_add, Array.length_toList, List.append_nil] at hlen hent hF0 hEk
  subst hF0
  have hi : i < ops.size := (Array.getElem?_eq_some_iff.1 ho).1
  have hanc : ∀ j, j ∈ ancL (ancT ops.toList []) i → D j = true := ancL_done hedge hD i fun o' ho' d hd => by rw [ho] at ho'; cases ho'; exact hdeps d hd
  have hancD : ∀ k, D k = true → ∀ j, j ∈ ancL (ancT ops.toList []) k → D j = true := fun k hk => ancL_done hedge hD k fun o' ho' d hd => hD k o' hk ho' d hd
  have hlt := ancL_lt hedge
  obtain ⟨p, fo, ef, Ei, F, hop, hp, hfo, hokx, hEq, hFk, hEik⟩ := hent i o (by simpa using ho)
  simp only [okFX, Bool.and_eq_true] at hokx
  obtain ⟨⟨hng, hfr⟩, hefok⟩ := hokx
  have hrel : ∀ q ∈ E, vis (ancT ops.toList []) i q.2.1 T = true → q.1 ≠ i → (q.1 ∈ ancL (ancT ops.toList []) i ∧ D q.1 = true ∧ q.1 < i) ∨ (D q.1 = false ∧ q.1 ∉ ancL (ancT ops.toList []) i ∧ i < q.1) := by
    intro q hq hv hne
    rcases vis_mem hv (inT_mem hT hq) with h | h | h
    · exact absurd h hne
    · exact .inl ⟨h, hanc _ h, hlt _ _ h⟩
    · right
      have h1 := hlt _ _ h
      refine ⟨?_, fun h2 => by have := hlt _ _ h2; omega, h1⟩
      cases hDq : D q.1
      · rfl
      · have := hancD q.1 hDq i h; rw [hDi] at this; cases this
  have hview : ∀ x, vis (ancT ops.toList []) i x T = true → effAt (fun k => (ancL (ancT ops.toList []) i).any (Nat.beq k)) Ei x = effAt D E x := by
    intro x hv
    rw [hEq, effAt_skip, effAt_skip]
    · refine effAt_congr fun q hq hqx => ?_
      have hqE : q ∈ E := by rw [hEq]; exact List.mem_append_right _ (List.mem_append_right _ hq)
      have hqi := hEik q hq
      rcases hrel q hqE (by rw [hqx]; exact hv) (by omega) with ⟨h1, h2, _⟩ | ⟨_, _, h3⟩
      · rw [h2]; exact List.any_eq_true.2 ⟨q.1, h1, by simp⟩
      · omega
    · intro q hq _
      obtain ⟨q', _, rfl⟩ := List.mem_map.1 hq
      exact hDi
    · intro q hq hqx
      have hqE : q ∈ E := by rw [hEq]; exact List.mem_append_left _ hq
      have hqi := hFk q hq
      rcases hrel q hqE (by rw [hqx]; exact hv) (by omega) with ⟨_, _, h3⟩ | ⟨h1, _, _⟩
      · omega
      · exact h1
  have hviewget : ∀ (x : Nat), vis (ancT ops.toList []) i x T = true → (viewAux (ancT ops.toList []) T Ei i (base2 ops st).ck 0)[x]? = (CD st ops E D)[x]? := by
    intro x hv
    rw [viewAux_get, CD_get, Nat.zero_add, hv, hview x hv]
    rfl
  have hviewsub : ∀ (x : Nat) c, (viewAux (ancT ops.toList []) T Ei i (base2 ops st).ck 0)[x]? = some c → c = .dead ∨ (CD st ops E D)[x]? = some c := by
    intro x c hc
    cases hv : vis (ancT ops.toList []) i x T
    · rw [viewAux_get, Nat.zero_add, hv] at hc
      simp only [cond_false, Option.map_eq_some_iff] at hc
      obtain ⟨_, _, rfl⟩ := hc
      exact .inl rfl
    · rw [hviewget x hv] at hc; exact .inr hc
  have hvlen : (viewAux (ancT ops.toList []) T Ei i (base2 ops st).ck 0).length = st.ck.length + ops.size * 3 := by rw [viewAux_length]; simp [base2]
  have honF : OnOk ops fs := by
    intro j fo' g s want q hfj hon'
    have hj : j < ops.size := by have := (List.getElem?_eq_some_iff.1 hfj).1; omega
    obtain ⟨p', fo2, ef', Ej, F', hop', _, hfo2, _⟩ := hent j ops[j] (by simp [hj])
    rw [hfj] at hfo2
    simp only [Option.some.injEq] at hfo2
    subst hfo2
    have hgx : grdX (litOn cfg) ops (fs.take j) (ancL (ancT ops.toList []) j) ops[j] = some (some (g, s, want, q)) := by
      unfold flowOp2 at hop'
      split at hop'
      · exfalso
        split at hop'
        · simp only [Option.some.injEq, Prod.mk.injEq] at hop'
          obtain ⟨_, rfl, _⟩ := hop'
          cases hon'
        · split at hop'
          · simp only [Option.some.injEq, Prod.mk.injEq] at hop'
            obtain ⟨_, rfl, _⟩ := hop'
            cases hon'
          · split at hop'
            · simp only [Option.some.injEq, Prod.mk.injEq] at hop'
              obtain ⟨_, rfl, _⟩ := hop'
              cases hon'
            · simp at hop'
      · rename_i g' hg'
        split at hop'
        · simp only [Option.some.injEq, Prod.mk.injEq] at hop'
          obtain ⟨_, rfl, _⟩ := hop'
          simp only [Option.some.injEq] at hon'
          rw [← hon']; exact hg'
        · simp at hop'
      · simp at hop'
    obtain ⟨_, h2, h3, b, on, h4, h5⟩ := grdX_spec hgx
    refine ⟨h3, b, on, ?_, h5⟩
    rw [List.getElem?_take] at h4
    split at h4
    · exact h4
    · cases h4
  have honT : OnOk ops (fs.take i) := by
    intro j fo' g s want q hfj hon'
    rw [List.getElem?_take] at hfj
    split at hfj
    · rename_i hji
      obtain ⟨h1, b, on, h2, h3⟩ := honF j fo' g s want q hfj hon'
      refine ⟨h1, b, on, ?_, h3⟩
      rw [List.getElem?_take]
      have hj : j < ops.size := by have := (List.getElem?_eq_some_iff.1 hfj).1; omega
      obtain ⟨p', fo2, ef', Ej, F', hop', _, hfo2, _⟩ := hent j ops[j] (by simp [hj])
      rw [hfj] at hfo2
      simp only [Option.some.injEq] at hfo2
      subst hfo2
      have hgx : ∃ q', grdX (litOn cfg) ops (fs.take j) (ancL (ancT ops.toList []) j) ops[j] = some (some (g, s, want, q')) := by
        unfold flowOp2 at hop'
        split at hop'
        · exfalso
          split at hop'
          · simp only [Option.some.injEq, Prod.mk.injEq] at hop'
            obtain ⟨_, rfl, _⟩ := hop'
            cases hon'
          · split at hop'
            · simp only [Option.some.injEq, Prod.mk.injEq] at hop'
              obtain ⟨_, rfl, _⟩ := hop'
              cases hon'
            · split at hop'
              · simp only [Option.some.injEq, Prod.mk.injEq] at hop'
                obtain ⟨_, rfl, _⟩ := hop'
                cases hon'
              · simp at hop'
        · rename_i g' hg'
          split at hop'
          · simp only [Option.some.injEq, Prod.mk.injEq] at hop'
            obtain ⟨_, rfl, _⟩ := hop'
            simp only [Option.some.injEq] at hon'
            exact ⟨q, by rw [← hon']; exact hg'⟩
          · simp at hop'
        · simp at hop'
      obtain ⟨q', hgx⟩ := hgx
      have := hlt _ _ (grdX_spec hgx).2.1
      rw [if_pos (by omega)]; exact h2
    · cases hfj
  have hallT : ∀ j ∈ ancL (ancT ops.toList []) i, ∀ d fo, dstOf ops j = some d → (fs.take i)[j]? = some fo → fo.R V (a.tmps.getD d undef) := by
    intro j hj d fo' hd hf
    rw [List.getElem?_take, if_pos (hlt _ _ hj)] at hf
    exact hΦ j d fo' (hanc j hj) hd hf
  have rs : Rel Γ (stX (base2 ops st) (viewAux (ancT ops.toList []) T Ei i (base2 ops st).ck 0) ops (fs.take i) (ancL (ancT ops.toList []) i)) V a w :=
    relX r ⟨rfl, rfl, rfl⟩ (by rw [hvlen]; omega) hviewsub honT hallT
  have hD'F : ∀ q ∈ F, vis (ancT ops.toList []) i q.2.1 T = true → (D q.1 || Nat.beq q.1 i) = false := by
    intro q hq hv
    have hqi := hFk q hq
    rcases hrel q (by rw [hEq]; exact List.mem_append_left _ hq) hv (by omega) with ⟨_, _, h3⟩ | ⟨h1, _, _⟩
    · omega
    · rw [h1]
      cases hb : Nat.beq q.1 i
      · rfl
      · have := Nat.eq_of_beq_eq_true hb; omega
  have hCD : ∀ L, Upd (CD st ops E D) ef L → ∀ (x : Nat) c, (CD st ops E fun k => D k || Nat.beq k i)[x]? = some c → L[x]? = some c := by
    intro L ⟨hL1, hL2⟩ x c hc
    have hx : x < L.length := by
      rw [hL1, CD_length]; have := (List.getElem?_eq_some_iff.1 hc).1; rwa [CD_length] at this
    have hLx := List.getElem?_eq_getElem hx
    rw [CD_get] at hc
    obtain ⟨c0, hc0, hcc⟩ := Option.map_eq_some_iff.1 hc
    rcases hL2 x _ hLx with h | ⟨h1, h2⟩
    · have hv : vis (ancT ops.toList []) i x T = true := by
        have : ∃ c', (x, c') ∈ ef := ⟨_, effOf_some h⟩
        obtain ⟨c', hc'⟩ := this
        have := List.all_eq_true.1 hefok _ hc'
        simp only [Bool.and_eq_true] at this
        exact this.1.2
      have he : effAt (fun k => D k || Nat.beq k i) E x = some L[x] := by
        rw [hEq, effAt_skip fun q hq hqx => hD'F q hq (by rw [hqx]; exact hv), effAt_own (by simp), h]
      rw [he] at hcc
      rw [hLx, ← hcc]; rfl
    · have he : effAt (fun k => D k || Nat.beq k i) E x = effAt D E x := by
        refine effAt_congr fun q hq hqx => ?_
        by_cases e : q.1 = i
        · exfalso
          rw [hEq] at hq
          rcases List.mem_append.1 hq with hq | hq
          · have := hFk q hq; omega
          · rcases List.mem_append.1 hq with hq | hq
            · obtain ⟨q', hq', e'⟩ := List.mem_map.1 hq
              have hq2 : (i, x, q'.2) ∈ ef.map (fun q => (i, q.1, q.2)) := List.mem_map.2 ⟨q', hq', by rw [← hqx, ← e']⟩
              exact effOf_mem hq2 h1
            · have := hEik q hq; omega
        · have : Nat.beq q.1 i = false := by
            cases hb : Nat.beq q.1 i
            · rfl
            · exact absurd (Nat.eq_of_beq_eq_true hb) e
          rw [this, Bool.or_false]
      rw [he] at hcc
      rw [CD_get, hc0] at h2
      simp only [Option.map_some, Option.some.injEq] at h2
      rw [hLx, ← h2, hcc]
  have hkeep : ∀ V2 : Vn, HLe V.H V2.H → (∀ y, y < st.ck.length + ops.size * 3 → (st.ck.length ≤ y → ow st.ck.length ops.size y ≠ i) → V2.σ y = V.σ y ∧ V2.ov y = V.ov y) → ∀ j, D j = true → ∀ u, (∀ d fo, dstOf ops j = some d → fs[j]? = some fo → fo.R V u) → ∀ d fo, dstOf ops j = some d → fs[j]? = some fo → fo.R V2 u := by
    intro V2 hH hV j hj u hu d fo' hd hf
    have hjn : j < ops.size := by have := (List.getElem?_eq_some_iff.1 hf).1; omega
    obtain ⟨_, fo2, _, _, _, _, _, hfo2, hok2, _⟩ := hent j ops[j] (by simp [hjn])
    rw [hf] at hfo2
    simp only [Option.some.injEq] at hfo2
    subst hfo2
    simp only [okFX, Bool.and_eq_true] at hok2
    have hrefs : ∀ y ∈ fo'.sv.refs, V2.σ y = V.σ y ∧ V2.ov y = V.ov y := by
      intro y hy
      rcases refsOk_mem hok2.1.2 hy with h | ⟨h0, h⟩ | ⟨k, hk, h0, h⟩
      · exact hV y (by omega) fun h2 => by omega
      · refine hV y h0 fun _ e => ?_
        have : j = i := by omega
        rw [this, hDi] at hj; cases hj
      · have := hlt _ _ hk
        refine hV y h0 fun _ e => ?_
        have hki : k = i := by omega
        have := hancD j hj k hk
        rw [hki, hDi] at this; cases this
    have h1 := hu d fo' hd hf
    unfold FX.R at h1 ⊢
    split
    · rename_i he; rw [he] at h1; exact SV.R_on hH hrefs h1
    · rename_i q he; rw [he] at h1; exact ⟨fun hq => SV.R_on hH hrefs (h1.1 hq), h1.2⟩
  have hΦi : ∀ {V2 : Vn} {v : Value}, (o.dst ≠ none → fo.R V2 v) → ∀ d fo', dstOf ops i = some d → fs[i]? = some fo' → fo'.R V2 v := by
    intro V2 v h d fo' hd hf
    rw [hfo] at hf
    simp only [Option.some.injEq] at hf
    subst hf
    refine h fun hn => ?_
    simp [dstOf, ho, hn] at hd
  have hsame : ef = [] → ∀ {w' : World}, Fr (fun _ => False) w w' → WOk Γ (CD st ops E fun k => D k || Nat.beq k i) V w' := by
    intro he w' hf
    refine (r.wok.kept hf).sub fun x c hc => .inr (hCD _ ⟨rfl, fun y c hy => .inr ⟨by rw [he]; rfl, hy⟩⟩ x c hc)
  have hnext0 : ef = [] → ∀ {w' : World} {v : Value}, Fr (fun _ => False) w w' → (o.dst ≠ none → fo.R V v) → Next2 Γ (CD st ops E) st.ck.length (fun j V v => ∀ d fo, dstOf ops j = some d → fs[j]? = some fo → fo.R V v) D i V v w' := by
    intro he w' v hf hv
    exact ⟨V, Agree.refl _ _, hsame he hf, fun j _ u hu => hu, hΦi hv⟩
  have mono : ∀ {Ψ Ψ' : Value → World → Prop}, OpDo2 P o a w Ψ → (∀ v w', Ψ v w' → Ψ' v w') → OpDo2 P o a w Ψ' := by
    intro Ψ Ψ' h hm
    rcases h with ⟨v, w', h1, h2⟩ | ⟨w', h1, h2, h3⟩ | ⟨g, args, w', h1, h2⟩
    · exact .inl ⟨v, w', h1, hm _ _ h2⟩
    · exact .inr (.inl ⟨w', h1, h2, hm _ _ h3⟩)
    · exact .inr (.inr ⟨g, args, w', h1, h2.mono fun e w2 hq => by obtain ⟨v, rfl, hq⟩ := hq; exact ⟨v, rfl, hm _ _ hq⟩⟩)
  unfold flowOp2 at hop
  split at hop
  · -- unguarded
    rename_i hgx
    have hwt : Region.wanted o (yielded ops a.tmps) = true := by
      rcases grdX_none hgx with hg0 | ⟨gj, gs, gw, hg1, hg2, hg3, hg4⟩
      · exact wanted_none hg0
      · have hgR := hallT gj hg2 gs _ hg3 hg4
        exact wanted_on (a := a) hg1 hg3 ((onBy_iff (want := gw) hgR).2 rfl)
    refine ⟨fun _ => ?_, fun hw => by rw [hwt] at hw; cases hw⟩
    split at hop
    · rename_i p' sv hrd
      simp only [Option.some.injEq, Prod.mk.injEq] at hop
      obtain ⟨rfl, rfl, rfl⟩ := hop
      obtain ⟨hp, hsv⟩ := askW_ok hp
      simp only [hsv] at *
      exact mono (rdOp_sound ht rs (g := none) trivial hrd hp) fun v w' hq => hnext0 trivial hq.1 fun _ => hq.2
    · split at hop
      · rename_i v hold'
        simp only [Option.some.injEq, Prod.mk.injEq] at hop
        obtain ⟨rfl, rfl, rfl⟩ := hop
        obtain ⟨d, h1, h2, h3⟩ := oldW_spec hold'
        have hv := hold d v h2 fun j hj => by
          cases hDj : D j
          · rfl
          · have := hancD j hDj i (h3 j hj); rw [hDi] at this; cases this
        exact .inl ⟨_, w, by rw [show o = { o with op := .move (.tmp d) } from by rw [← h1]]; rfl, hnext0 rfl (Fr.refl _ _) fun _ => hv⟩
      · split at hop
        · rename_i p' sv ef' hfw
          simp only [Option.some.injEq, Prod.mk.injEq] at hop
          obtain ⟨rfl, rfl, rfl⟩ := hop
          obtain ⟨hp, hsv⟩ := askW_ok hp
          simp only [hsv] at *
          generalize hm : reachOf (viewAux (ancT ops.toList []) T Ei i (base2 ops st).ck 0) (opRefs (stX (base2 ops st) (viewAux (ancT ops.toList []) T Ei i (base2 ops st).ck 0) ops (fs.take i) (ancL (ancT ops.toList []) i)) o.op) = m at hfw
          unfold flowW at hfw
          cases hmv : m.all (fun x => vis (ancT ops.toList []) i x T && !(Nat.ble st.ck.length x && Nat.beq (ow st.ck.length ops.size x) i) && Nat.blt x (stX (base2 ops st) (viewAux (ancT ops.toList []) T Ei i (base2 ops st).ck 0) ops (fs.take i) (ancL (ancT ops.toList []) i)).ck.length)
          · rw [hmv] at hfw; simp at hfw
          · rw [hmv] at hfw
            simp only [cond_true] at hfw
            have hmall := List.all_eq_true.1 hmv
            split at hfw
            · rename_i s' hs'
              unfold subST at hs'
              split at hs'
              · rename_i ck0 hpk
                cases hbb : (incr m && within m (ck0.flatMap Chunk.refs))
                · rw [hbb] at hs'; simp at hs'
                · rw [hbb] at hs'
                  simp only [cond_true, Option.some.injEq] at hs'
                  simp only [Bool.and_eq_true] at hbb
                  obtain ⟨hinc, hwin⟩ := hbb
                  have hpkF : pickCk (CD st ops E D) m = some ck0 := by
                    rw [← hpk]
                    exact pickCk_congr fun x hx => by
                      have := hmall x hx
                      simp only [Bool.and_eq_true] at this
                      exact (hviewget x this.1.1).symm
                  have rsub := sub_rel r.wok rs hpkF hwin hinc
                  split at hfw
                  · rename_i p2 ret ck2 hwr
                    cases hle : (Nat.ble m.length ck2.length && notGrd ret)
                    · rw [hle] at hfw; simp at hfw
                    · rw [hle] at hfw
                      simp only [cond_true, Option.map_eq_some_iff, Prod.mk.injEq] at hfw
                      obtain ⟨⟨sv2, ef2⟩, hput, rfl, rfl, rfl⟩ := hfw
                      simp only [Bool.and_eq_true] at hle
                      rw [← hs'] at hwr
                      refine mono (wrOp_sound ⟨ht.ok, ht.tabs.mono r.wok.hle⟩ rsub hwr hp) fun v w' hq => ?_
                      obtain ⟨V2, hw2, hret⟩ := hq
                      have hCl : (CD st ops E D).length = st.ck.length + ops.size * 3 := CD_length D
                      have hchunk : ∀ (x : Nat) c, (CD st ops E D)[x]? = some c → (∀ z ∈ c.refs, z < st.ck.length + ops.size * 3 ∧ (st.ck.length ≤ z → ow st.ck.length ops.size z ≠ i)) ∧ (st.ck.length ≤ x → ow st.ck.length ops.size x = i → c = .dead) := by
                        intro x c hc
                        rw [CD_get] at hc
                        obtain ⟨c0, hc0, hcc⟩ := Option.map_eq_some_iff.1 hc
                        cases he : effAt D E x with
                        | none =>
                          rw [he] at hcc
                          simp only [Option.getD_none] at hcc
                          subst hcc
                          rcases base2_get hc0 with ⟨h1, h2⟩ | ⟨h1, rfl⟩
                          · have hwf2 : ckWf st.ck = true := by simp only [ST.wf, Bool.and_eq_true] at hwf; exact hwf.2
                            exact ⟨fun z hz => by have := chunk_refs_lt (ck_lt hwf2 h2).2 z hz; exact ⟨by omega, fun h3 => by omega⟩, fun h3 => by omega⟩
                          · exact ⟨fun z hz => by simp [Chunk.refs] at hz, fun _ _ => rfl⟩
                        | some c1 =>
                          rw [he] at hcc
                          simp only [Option.getD_some] at hcc
                          subst hcc
                          obtain ⟨k, hk1, hk2⟩ := effAt_mem he
                          obtain ⟨_, hkn, hq1, hq2, hq3⟩ := hEk _ hk1
                          have hgen : ∀ z, (z < st.ck.length ∨ (z < st.ck.length + ops.size * 3 ∧ ow st.ck.length ops.size z = k) ∨ ∃ k' ∈ ancL (ancT ops.toList []) k, z < st.ck.length + ops.size * 3 ∧ ow st.ck.length ops.size z = k') → z < st.ck.length + ops.size * 3 ∧ (st.ck.length ≤ z → ow st.ck.length ops.size z ≠ i) := by
                            intro z hz
                            simp only at hkn
                            rcases hz with h | ⟨h0, h⟩ | ⟨k', hk', h0, h⟩
                            · exact ⟨by omega, fun h3 => by omega⟩
                            · refine ⟨h0, fun _ e => ?_⟩
                              have : k = i := by omega
                              rw [this, hDi] at hk2; cases hk2
                            · have h1 := hlt _ _ hk'
                              refine ⟨h0, fun _ e => ?_⟩
                              have h2 : k' = i := by omega
                              have := hancD k hk2 k' hk'
                              rw [h2, hDi] at this; cases this
                          refine ⟨fun z hz => hgen z (refsOk_mem hq1 hz), fun h3 e => ?_⟩
                          exact absurd e ((hgen x (refsOk_mem hq3 (by simp))).2 h3)
                      have hCwf : ckWf (CD st ops E D) = true := by
                        refine List.all_eq_true.2 fun c hc => ?_
                        obtain ⟨x, hx⟩ := List.getElem?_of_mem hc
                        exact chunk_lt_refs fun z hz => by rw [hCl]; exact ((hchunk x c hx).1 z hz).1
                      have hjs : ∀ j, j < 3 → j * ops.size ≤ 2 * ops.size := fun j hj => Nat.mul_le_mul_right _ (by omega)
                      have hdead : ∀ j, j < 3 → (CD st ops E D)[st.ck.length + i + j * ops.size]? = some .dead := by
                        intro j hj
                        have hlt2 : st.ck.length + i + j * ops.size < (CD st ops E D).length := by rw [hCl]; have := hjs j hj; omega
                        rw [List.getElem?_eq_getElem hlt2, (hchunk _ _ (List.getElem?_eq_getElem hlt2)).2 (by omega) (ow_new j hi)]
                      have hslen : (stX (base2 ops st) (viewAux (ancT ops.toList []) T Ei i (base2 ops st).ck 0) ops (fs.take i) (ancL (ancT ops.toList []) i)).ck.length = st.ck.length + ops.size * 3 := hvlen
                      rw [hslen] at hput
                      have hΓm : Γ.m ≤ st.ck.length := Nat.le_trans r.few.1 hst
                      obtain ⟨V', L, k1, k2, k3, k4, k5⟩ := putW_sound r.wok hCwf hCl (by omega) hpkF hwin hinc hdead (by omega) (fun j hj hxm => by
                          have := hmall _ hxm
                          rw [ow_new j hi, show Nat.ble st.ck.length (st.ck.length + i + j * ops.size) = true from Nat.ble_eq_true_of_le (by omega)] at this
                          simp only [Nat.beq_refl, Bool.and_self, Bool.not_true, Bool.and_false, Bool.false_and] at this
                          cases this) (fun j hj d hd hz => by
                          obtain ⟨x, hx⟩ := List.getElem?_of_mem hd
                          exact ((hchunk x d hx).1 _ hz).2 (by omega) (ow_new j hi)) hw2 (Nat.le_of_ble_eq_true hle.1) hput hle.2 hret
                      have k2' : ∀ y, y < st.ck.length + ops.size * 3 → (st.ck.length ≤ y → ow st.ck.length ops.size y ≠ i) → V'.σ y = V.σ y ∧ V'.ov y = V.ov y := fun y hy hne => k2 y hy fun j hj e => by
                        rw [e] at hne; exact hne (by omega) (ow_new j hi)
                      exact ⟨V', ⟨k1, fun y hy => k2' y (by omega) (fun h3 => by omega)⟩, k3.sub fun x c hc => .inr (hCD L k4 x c hc), hkeep V' k1 k2', hΦi k5⟩
                  · simp at hfw
              · simp at hs'
            · simp at hfw
        · simp at hop
  · -- guarded
    rename_i g hgx
    obtain ⟨gj, gs, gw, gq⟩ := g
    obtain ⟨hg1, hg2, hg3, b, on, hg4, hg5⟩ := grdX_spec hgx
    have hgR := hallT gj hg2 gs _ hg3 hg4
    have hiff := onBy_iff (want := gw) hgR
    rw [← hg5] at hiff
    split at hop
    · rename_i p' v hrd
      simp only [Option.some.injEq, Prod.mk.injEq] at hop
      obtain ⟨rfl, rfl, rfl⟩ := hop
      have hs : (ops[gj]?).bind (·.dst) = some gs := hg3
      by_cases hon : a.tmps.getD gs undef = .bool gw
      · have hwt := wanted_on (a := a) hg1 hs hon
        refine ⟨fun _ => ?_, fun hw => by rw [hwt] at hw; cases hw⟩
        have hq : gq := hiff.1 hon
        refine mono (rdOp_sound ht rs (g := some (gs, gw)) hon hrd (by
          cases p' with
          | none => trivial
          | some p' => exact hp hq)) fun u w' hq2 => hnext0 rfl hq2.1 fun _ => ⟨fun _ => hq2.2, fun hn => absurd hq hn⟩
      · have hwf2 := wanted_off (a := a) hg1 hs hon
        refine ⟨fun hw => (by rw [hwf2] at hw; cases hw), fun _ => ?_⟩
        have hnq : ¬ gq := fun hq => hon (hiff.2 hq)
        exact hnext0 rfl (Fr.refl _ _) fun _ => ⟨fun hq => absurd hq hnq, fun _ => rfl⟩
    · simp at hop
  · simp at hop
theorem flow2_run {P : Program} {cfg : Cfg} {base : ST} {A : List (List Nat)} {n0 : Nat} {fr0 : List (Nat × SV)} {ps : List Prop} (h : flow2 P cfg base ops A n0 fr0 = some (ps, fs, E)) : ∃ T, flowRun2 P cfg base ops A T n0 fr0 ops.toList [] [] = some (ps, fs, E) ∧ inT T E = true := by
  unfold flow2 at h
  split at h
  · rename_i ps1 fs1 E1 h1
    split at h
    · simp only [Option.some.injEq, Prod.mk.injEq] at h
      obtain ⟨rfl, rfl, rfl⟩ := h
      exact ⟨[], h1, rfl⟩
    · split at h
      · rename_i q E2 _ ps2 fs2 E3 h2
        cases hb : inT (keysE (q :: E2)) E3
        · rw [hb] at h; simp at h
        · rw [hb] at h
          simp only [cond_true, Option.some.injEq, Prod.mk.injEq] at h
          obtain ⟨rfl, rfl, rfl⟩ := h
          exact ⟨_, h2, hb⟩
      · simp at h
  · simp at h
theorem flow2_sound {f : Go.Sy.Md} {R : Ending → World → Prop} (ht : TOk P cfg.tab Γ) (hm : P.follows .mixedOrders = true) (hok : (flowOk2 ops && (allDsts ops).all (fun d => Nat.blt d st.n) && st.wf) = true)
    {ps : List Prop} (hrun : flow2 P cfg (base2 ops st) ops (ancT ops.toList []) st.ck.length st.fr = some (ps, fs, E)) (hps : ∀ q ∈ ps, q) {id : Nat} {k : List Item} (r : Rel Γ st V a w)
    (hk : ∀ V' a' w', Rel Γ (flowEnd ops st fs E) V' a' w' → Go.Sy.Fin P f R k a' w') : Go.Sy.Fin P f R (.code (.region id ops true) :: k) a w := by
  simp only [Bool.and_eq_true] at hok
  obtain ⟨⟨hfo, hds⟩, hwf⟩ := hok
  obtain ⟨T, hrun2, hT⟩ := flow2_run hrun
  obtain ⟨hlen, _, ⟨F0, hF0, hEk⟩, hent⟩ := flowRun2_entries ops.toList [] [] hrun2 hps (by simp)
  simp only [List.length_nil, Nat.zero_add, Array.length_toList, List.append_nil] at hlen hent hF0 hEk
  subst hF0
  refine Go.Sy.Fin.region_draw fun t => ?_
  simp only [Region.schedule, hm, Bool.true_or, if_true]
  have hbase : ∀ (x : Nat) c, (CD st ops E fun k => (Array.replicate ops.size false).getD k false)[x]? = some c → c = .dead ∨ st.ck[x]? = some c := by
    intro x c hc
    rw [CD_get] at hc
    obtain ⟨c0, hc0, hcc⟩ := Option.map_eq_some_iff.1 hc
    have he : effAt (fun k => (Array.replicate ops.size false).getD k false) E x = none := by
      cases he : effAt (fun k => (Array.replicate ops.size false).getD k false) E x with
      | none => rfl
      | some c1 =>
        obtain ⟨k, _, hk2⟩ := effAt_mem he
        simp [Array.getD_eq_getD_getElem?, Array.getElem?_replicate] at hk2
        split at hk2 <;> simp at hk2
    rw [he] at hcc
    simp only [Option.getD_none] at hcc
    subst hcc
    rcases base2_get hc0 with ⟨_, h⟩ | ⟨_, h⟩
    · exact .inr h
    · exact .inl h
  have rd : Rel Γ { flowBase ops st with ck := CD st ops E fun k => (Array.replicate ops.size false).getD k false } V a w.drew := by
    have rb := flowBase_rel r ops
    refine { size := rb.size, defers := rb.defers, slots := rb.slots, wok := WOk.sub (ck := st.ck) (w := w.drew) (r.wok.kept ⟨rfl, rfl, rfl, Nat.le_refl _, fun _ _ _ => rfl⟩) hbase, few := ⟨r.few.1, ?_⟩ }
    show st.m ≤ (CD st ops E _).length
    rw [CD_length]; have := r.few.2; omega
  refine flow_go2 (V := V) (st := st) (CD st ops E) (fun j V v => ∀ d fo, dstOf ops j = some d → fs[j]? = some fo → fo.R V v) hfo hds hwf r.few.2 (fun D => by rw [CD_length]; omega) ?_ ?_ ops.size t (Array.replicate ops.size false) V (Agree.refl _ _) (by simp) ?_ a w.drew rd (fun d sv hp _ => r.slots d _ hp) ?_ ?_
  · intro i o ho D hDi hD hdeps V1 _ a1 w1 r1 hΦ hold
    exact flowOp2_next ht hfo hwf r.few.2 hrun2 hps hT ho hDi hD hdeps r1 (fun j d fo hj hd hf => hΦ j d hj hd d fo hd hf) hold
  · intro D hall V1 _ a1 w1 r1 hΦ
    refine hk V1 a1 w1 ?_
    have honF : OnOk ops fs := by
      intro j fo' g s want q hfj hon'
      have hj : j < ops.size := by have := (List.getElem?_eq_some_iff.1 hfj).1; omega
      obtain ⟨p', fo2, ef', Ej, F', hop', _, hfo2, _⟩ := hent j ops[j] (by simp [hj])
      rw [hfj] at hfo2
      simp only [Option.some.injEq] at hfo2
      subst hfo2
      have hgx : grdX (litOn cfg) ops (fs.take j) (ancL (ancT ops.toList []) j) ops[j] = some (some (g, s, want, q)) := by
        unfold flowOp2 at hop'
        split at hop'
        · exfalso
          split at hop'
          · simp only [Option.some.injEq, Prod.mk.injEq] at hop'
            obtain ⟨_, rfl, _⟩ := hop'
            cases hon'
          · split at hop'
            · simp only [Option.some.injEq, Prod.mk.injEq] at hop'
              obtain ⟨_, rfl, _⟩ := hop'
              cases hon'
            · split at hop'
              · simp only [Option.some.injEq, Prod.mk.injEq] at hop'
                obtain ⟨_, rfl, _⟩ := hop'
                cases hon'
              · simp at hop'
        · rename_i g' hg'
          split at hop'
          · simp only [Option.some.injEq, Prod.mk.injEq] at hop'
            obtain ⟨_, rfl, _⟩ := hop'
            simp only [Option.some.injEq] at hon'
            rw [← hon']; exact hg'
          · simp at hop'
        · simp at hop'
      obtain ⟨_, h2, h3, b, on, h4, h5⟩ := grdX_spec hgx
      refine ⟨h3, b, on, ?_, h5⟩
      rw [List.getElem?_take] at h4
      split at h4
      · exact h4
      · cases h4
    have hEall : CD st ops E D = ckAux E (fun _ => true) (base2 ops st).ck 0 := by
      refine List.ext_getElem? fun x => ?_
      rw [CD_get, ckAux_get, Nat.zero_add]
      rw [effAt_congr (D := D) (D' := fun _ => true) fun q hq _ => hall q.1 (by have := (hEk q hq).2.1; omega)]
    have htrim : ∀ (x : Nat) c, (trimCk st.ck.length (ckAux E (fun _ => true) (base2 ops st).ck 0))[x]? = some c → c = .dead ∨ (CD st ops E D)[x]? = some c := by
      intro x c hc
      rw [hEall]
      unfold trimCk at hc
      cases hb : ((ckAux E (fun _ => true) (base2 ops st).ck 0).drop st.ck.length).all isDead
      · rw [hb] at hc; exact .inr hc
      · rw [hb] at hc
        simp only [cond_true, List.getElem?_take] at hc
        split at hc
        · exact .inr hc
        · cases hc
    have htl : st.m ≤ (trimCk st.ck.length (ckAux E (fun _ => true) (base2 ops st).ck 0)).length := by
      have h1 : (ckAux E (fun _ => true) (base2 ops st).ck 0).length = st.ck.length + ops.size * 3 := by rw [ckAux_length]; simp [base2]
      have h2 := r.few.2
      unfold trimCk
      cases ((ckAux E (fun _ => true) (base2 ops st).ck 0).drop st.ck.length).all isDead
      · simp only [cond_false]; omega
      · simp only [cond_true, List.length_take]; omega
    have rx := relX (base := base2 ops st) r1 ⟨rfl, rfl, rfl⟩ htl htrim (l := List.range ops.size) honF fun j _ d fo hd hf => hΦ j d hd d fo hd hf
    exact rx.weaken fun p hp => (List.mem_filter.1 hp).1
  · unfold leftOf
    refine Nat.le_trans (List.length_filter_le _ _) (by simp)
  · intro i d hi
    simp [Array.getD_eq_getD_getElem?, Array.getElem?_replicate] at hi
    split at hi <;> simp at hi
  · intro i o hi
    simp [Array.getD_eq_getD_getElem?, Array.getElem?_replicate] at hi
    split at hi <;> simp at hi
end
end Go.Ev

/- An executor for function bodies of the model over data, part PU: statements whose order Go leaves open, with operations that write: how such a statement comes to its end. Conditions: each operation's own. -/
import Derived.Test.YtndkapkejmkphaaDoorPT
namespace Go.Ev
open Go.RowKit

/-! ### what the operations that are done have left -/
theorem ckAux_get {E : Eff} {D : Nat → Bool} : ∀ (l : List Chunk) (x0 j : Nat), (ckAux E D l x0)[j]? = (l[j]?).map fun c => (effAt D E (x0 + j)).getD c
  | [], x0, j => by simp [ckAux]
  | c :: r, x0, j => by
    cases j with
    | zero => simp [ckAux]
    | succ j =>
      simp only [ckAux, List.getElem?_cons_succ]
      rw [ckAux_get r (x0 + 1) j, show x0 + 1 + j = x0 + (j + 1) from by omega]
theorem ckAux_length {E : Eff} {D : Nat → Bool} : ∀ (l : List Chunk) (x0 : Nat), (ckAux E D l x0).length = l.length
  | [], x0 => rfl
  | c :: r, x0 => by simp only [ckAux, List.length_cons]; rw [ckAux_length r]
theorem viewAux_get {A : List (List Nat)} {T : List (Nat × Nat)} {E : Eff} {i : Nat} : ∀ (l : List Chunk) (x0 j : Nat), (viewAux A T E i l x0)[j]? = (l[j]?).map fun c => bif vis A i (x0 + j) T then (effAt (fun k => (ancL A i).any (Nat.beq k)) E (x0 + j)).getD c else .dead
  | [], x0, j => by simp [viewAux]
  | c :: r, x0, j => by
    cases j with
    | zero => simp [viewAux]
    | succ j =>
      simp only [viewAux, List.getElem?_cons_succ]
      rw [viewAux_get r (x0 + 1) j, show x0 + 1 + j = x0 + (j + 1) from by omega]
theorem viewAux_length {A : List (List Nat)} {T : List (Nat × Nat)} {E : Eff} {i : Nat} : ∀ (l : List Chunk) (x0 : Nat), (viewAux A T E i l x0).length = l.length
  | [], x0 => rfl
  | c :: r, x0 => by simp only [viewAux, List.length_cons]; rw [viewAux_length r]
theorem effAt_congr {D D' : Nat → Bool} {x : Nat} : ∀ {E : Eff}, (∀ q ∈ E, q.2.1 = x → D q.1 = D' q.1) → effAt D E x = effAt D' E x
  | [], _ => rfl
  | q :: r, h => by
    simp only [effAt]
    rw [effAt_congr fun q hq => h q (List.mem_cons_of_mem _ hq)]
    cases hb : Nat.beq q.2.1 x
    · simp
    · rw [h q List.mem_cons_self (Nat.eq_of_beq_eq_true hb)]
theorem effAt_skip {D : Nat → Bool} {x : Nat} {E : Eff} : ∀ {F : Eff}, (∀ q ∈ F, q.2.1 = x → D q.1 = false) → effAt D (F ++ E) x = effAt D E x
  | [], _ => rfl
  | q :: r, h => by
    simp only [List.cons_append, effAt]
    rw [effAt_skip fun q hq => h q (List.mem_cons_of_mem _ hq)]
    cases hb : Nat.beq q.2.1 x
    · simp
    · rw [h q List.mem_cons_self (Nat.eq_of_beq_eq_true hb)]; simp
theorem effAt_own {D : Nat → Bool} {i x : Nat} {E : Eff} (hi : D i = true) : ∀ {ef : List (Nat × Chunk)}, effAt D (ef.map (fun q => (i, q.1, q.2)) ++ E) x = match effOf ef x with | some c => some c | none => effAt D E x
  | [] => rfl
  | q :: r => by
    simp only [List.map_cons, List.cons_append, effAt, effOf, hi, Bool.and_true]
    rw [effAt_own hi]
    cases Nat.beq q.1 x <;> rfl

/-! ### ancestors -/
theorem insN_mem {x y : Nat} {l : List Nat} (h : y ∈ insN x l) : y = x ∨ y ∈ l := by
  unfold insN at h
  cases hb : l.any (Nat.beq x)
  · rw [hb] at h; simpa using h
  · rw [hb] at h; exact .inr h
theorem foldl_insN {y : Nat} : ∀ {l acc : List Nat}, y ∈ l.foldl (fun l x => insN x l) acc → y ∈ l ∨ y ∈ acc
  | [], acc, h => .inr h
  | x :: l, acc, h => by
    rw [List.foldl_cons] at h
    rcases foldl_insN h with h | h
    · exact .inl (List.mem_cons_of_mem _ h)
    · rcases insN_mem h with rfl | h
      · exact .inl List.mem_cons_self
      · exact .inr h
theorem anc1_mem {t : List (List Nat)} {o : Oper} {y : Nat} (h : y ∈ anc1 t o) : ∃ d ∈ directDeps o, y = d ∨ y ∈ t.getD d [] := by
  have aux : ∀ (l acc : List Nat), y ∈ l.foldl (fun l j => (j :: t.getD j []).foldl (fun l x => insN x l) l) acc → y ∈ acc ∨ ∃ d ∈ l, y = d ∨ y ∈ t.getD d [] := by
    intro l
    induction l with
    | nil => intro acc h; exact .inl h
    | cons j l ih =>
      intro acc h
      rw [List.foldl_cons] at h
      rcases ih _ h with h | ⟨d, hd, h⟩
      · rcases foldl_insN h with h | h
        · exact .inr ⟨j, List.mem_cons_self, List.mem_cons.1 h⟩
        · exact .inl h
      · exact .inr ⟨d, List.mem_cons_of_mem _ hd, h⟩
  rcases aux _ _ h with h | h
  · cases h
  · exact h
theorem ancT_get : ∀ (l : List Oper) (t : List (List Nat)), (ancT l t).length = t.length + l.length ∧ (ancT l t).take t.length = t ∧ ∀ (j : Nat) o, l[j]? = some o → (ancT l t)[t.length + j]? = some (anc1 ((ancT l t).take (t.length + j)) o)
  | [], t => by simp [ancT]
  | o :: r, t => by
    obtain ⟨h1, h2, h3⟩ := ancT_get r (t ++ [anc1 t o])
    simp only [List.length_append, List.length_cons, List.length_nil] at h1 h2 h3
    simp only [ancT, List.length_cons]
    have h4 : (ancT r (t ++ [anc1 t o])).take t.length = t := by
      have := congrArg (List.take t.length) h2
      rw [List.take_take, Nat.min_eq_left (by omega)] at this
      simpa using this
    refine ⟨by omega, h4, fun j o' hj => ?_⟩
    cases j with
    | zero =>
      simp only [List.getElem?_cons_zero, Option.some.injEq] at hj
      subst hj
      rw [Nat.add_zero, h4]
      have := congrArg (fun l => l[t.length]?) h2
      simp only [List.getElem?_take] at this
      rw [if_pos (by omega)] at this
      simpa using this
    | succ j =>
      have := h3 j o' (by simpa using hj)
      rw [show t.length + (0 + 1) + j = t.length + (j + 1) from by omega] at this
      exact this
theorem ancL_mem {ops : Array Oper} (hedge : ∀ i o, ops[i]? = some o → ∀ j ∈ directDeps o, j < i) {i j : Nat} (h : j ∈ ancL (ancT ops.toList []) i) : ∃ o, ops[i]? = some o ∧ ∃ d ∈ directDeps o, j = d ∨ j ∈ ancL (ancT ops.toList []) d := by
  obtain ⟨h1, _, h3⟩ := ancT_get ops.toList []
  simp only [List.length_nil, Nat.zero_add] at h1 h3
  have hi : i < ops.size := by
    unfold ancL at h
    by_cases hi : i < ops.size
    · exact hi
    · rw [List.getD_eq_getElem?_getD, List.getElem?_eq_none (by rw [h1]; simpa using hi)] at h
      simp at h
  have ho : ops[i]? = some ops[i] := Array.getElem?_eq_getElem hi
  have hg := h3 i ops[i] (by simp [hi])
  unfold ancL at h
  rw [List.getD_eq_getElem?_getD, hg] at h
  obtain ⟨d, hd, hj⟩ := anc1_mem h
  have hdi := hedge i _ ho d hd
  refine ⟨_, ho, d, hd, hj.imp id fun hj => ?_⟩
  unfold ancL
  rw [List.getD_eq_getElem?_getD, List.getElem?_take, if_pos hdi, ← List.getD_eq_getElem?_getD] at hj
  exact hj
theorem ancL_lt {ops : Array Oper} (hedge : ∀ i o, ops[i]? = some o → ∀ j ∈ directDeps o, j < i) (i : Nat) : ∀ j, j ∈ ancL (ancT ops.toList []) i → j < i := by
  induction i using Nat.strongRecOn with
  | _ i ih =>
    intro j hj
    obtain ⟨o, ho, d, hd, h⟩ := ancL_mem hedge hj
    have hdi := hedge i o ho d hd
    rcases h with rfl | h
    · exact hdi
    · exact Nat.lt_trans (ih d hdi j h) hdi
theorem ancL_done {ops : Array Oper} (hedge : ∀ i o, ops[i]? = some o → ∀ j ∈ directDeps o, j < i) {D : Nat → Bool} (hD : ∀ k o', D k = true → ops[k]? = some o' → ∀ j ∈ directDeps o', D j = true) (i : Nat) :
    (∀ o, ops[i]? = some o → ∀ d ∈ directDeps o, D d = true) → ∀ j, j ∈ ancL (ancT ops.toList []) i → D j = true := by
  induction i using Nat.strongRecOn with
  | _ i ih =>
    intro h j hj
    obtain ⟨o, ho, d, hd, hj⟩ := ancL_mem hedge hj
    have hdd := h o ho d hd
    rcases hj with rfl | hj
    · exact hdd
    · exact ih d (hedge i o ho d hd) (fun o' ho' => hD d o' hdd ho') j hj
theorem filterMap_inj {α : Type} {f : α → Option Nat} : ∀ {l : List α}, distinctN (l.filterMap f) = true → ∀ (i j : Nat) x y d, l[i]? = some x → f x = some d → l[j]? = some y → f y = some d → i = j
  | [], _, i, j, x, y, d, h, _, _, _ => by simp at h
  | a :: r, h, i, j, x, y, d, hi, hx, hj, hy => by
    cases hfa : f a with
    | none =>
      rw [List.filterMap_cons_none hfa] at h
      cases i with
      | zero => simp only [List.getElem?_cons_zero, Option.some.injEq] at hi; subst hi; rw [hx] at hfa; cases hfa
      | succ i =>
        cases j with
        | zero => simp only [List.getElem?_cons_zero, Option.some.injEq] at hj; subst hj; rw [hy] at hfa; cases hfa
        | succ j =>
          simp only [List.getElem?_cons_succ] at hi hj
          rw [filterMap_inj h i j x y d hi hx hj hy]
    | some e =>
      rw [List.filterMap_cons_some hfa] at h
      simp only [distinctN, Bool.and_eq_true, Bool.not_eq_true', List.any_eq_false] at h
      have hno : ∀ (k : Nat) z, r[k]? = some z → f z ≠ some e := by
        intro k z hz hfz
        exact h.1 e (List.mem_filterMap.2 ⟨z, List.mem_of_getElem? hz, hfz⟩) (by simp)
      cases i with
      | zero =>
        cases j with
        | zero => rfl
        | succ j =>
          simp only [List.getElem?_cons_zero, Option.some.injEq, List.getElem?_cons_succ] at hi hj
          subst hi
          rw [hfa] at hx; cases hx
          exact absurd hy (hno j y hj)
      | succ i =>
        cases j with
        | zero =>
          simp only [List.getElem?_cons_zero, Option.some.injEq, List.getElem?_cons_succ] at hi hj
          subst hj
          rw [hfa] at hy; cases hy
          exact absurd hx (hno i x hi)
        | succ j =>
          simp only [List.getElem?_cons_succ] at hi hj
          rw [filterMap_inj h.2 i j x y d hi hx hj hy]
theorem dst_inj2 {ops : Array Oper} (h : flowOk2 ops = true) {i j d : Nat} (hi : dstOf ops i = some d) (hj : dstOf ops j = some d) : i = j := by
  simp only [flowOk2, Bool.and_eq_true] at h
  unfold dstOf at hi hj
  simp only [Option.bind_eq_some_iff] at hi hj
  obtain ⟨o, h1, h2⟩ := hi
  obtain ⟨o', h3, h4⟩ := hj
  exact filterMap_inj h.1 i j o o' d (by simpa using h1) h2 (by simpa using h3) h4
theorem flowOk2_edge {ops : Array Oper} (hok : flowOk2 ops = true) : ∀ i o, ops[i]? = some o → ∀ j ∈ directDeps o, j < i := by
  intro i o ho j hj
  simp only [flowOk2, Bool.and_eq_true] at hok
  have h1 := List.all_eq_true.1 hok.2 (o, i) (by
    rw [List.mem_zipIdx_iff_getElem?]; simpa using ho)
  exact Nat.le_of_ble_eq_true (List.all_eq_true.1 h1 j hj)

/-! ### the statement, operation by operation -/
def OpDo2 (P : Program) (o : Oper) (a : Act) (w : World) (Ψ : Value → World → Prop) : Prop :=
  (∃ v w', (execOp a.eval o).run P w = .ok (.value v) w' ∧ Ψ v w') ∨
  (∃ w', (execOp a.eval o).run P w = .ok .skip w' ∧ o.dst = none ∧ Ψ undef w') ∨
  (∃ g args w', (execOp a.eval o).run P w = .ok (.enter g args) w' ∧ Calls P g args w' fun e w2 => ∃ v, e = .returned v ∧ Ψ v w2)
def Next2 (Γ : Ctx) (C : (Nat → Bool) → List Chunk) (n0 : Nat) (Φ : Nat → Vn → Value → Prop) (D : Nat → Bool) (i : Nat) (V1 : Vn) (v : Value) (w' : World) : Prop :=
  ∃ V2, Agree n0 V1 V2 ∧ WOk Γ (C fun k => D k || Nat.beq k i) V2 w' ∧ (∀ j, D j = true → ∀ u, Φ j V1 u → Φ j V2 u) ∧ Φ i V2 v
section
variable {Γ : Ctx} {P : Program} {f : Go.Sy.Md} {R : Ending → World → Prop} {st : ST} {V : Vn} {ops : Array Oper} {kk : List Item}
theorem flowBase_put2 {a : Act} {w : World} {X : List Chunk} (r : Rel Γ { flowBase ops st with ck := X } V a w) {d : Nat} (hd : d ∈ allDsts ops) (v : Value) (hn : d < st.n) : Rel Γ { flowBase ops st with ck := X } V (a.put (some d) v) w := by
  have h := r.forget d v hn
  have he : dropSlot d (flowBase ops st).fr = (flowBase ops st).fr := by
    unfold dropSlot
    apply List.filter_eq_self.2
    intro q hq
    have hq2 := (List.mem_filter.1 hq).2
    simp only [Bool.not_eq_true', List.any_eq_false, Bool.or_eq_true, not_or] at hq2
    have := hq2 d hd
    simp only [Bool.not_eq_true] at this
    simp [this.1, this.2]
  have he2 : dropSlot d ({ flowBase ops st with ck := X } : ST).fr = (flowBase ops st).fr := he
  rw [he2] at h
  exact h
theorem flow_go2 (C : (Nat → Bool) → List Chunk) (Φ : Nat → Vn → Value → Prop) (hok : flowOk2 ops = true) (hn : (allDsts ops).all (fun d => Nat.blt d st.n) = true) (hwf : st.wf = true) (hst : st.m ≤ st.ck.length) (hC : ∀ D, st.ck.length ≤ (C D).length)
    (hobl : ∀ i o, ops[i]? = some o → ∀ D : Nat → Bool, D i = false → (∀ k o', D k = true → ops[k]? = some o' → ∀ j ∈ directDeps o', D j = true) → (∀ j ∈ directDeps o, D j = true) →
      ∀ V1, Agree st.ck.length V V1 → ∀ a w, Rel Γ { flowBase ops st with ck := C D } V1 a w → (∀ j d, D j = true → dstOf ops j = some d → Φ j V1 (a.tmps.getD d undef)) → (∀ d sv, (d, SV.x sv) ∈ st.fr → (∀ j, dstOf ops j = some d → D j = false) → sv.R V1 (a.tmps.getD d undef)) →
      (Region.wanted o (yielded ops a.tmps) = true → OpDo2 P o a w (Next2 Γ C st.ck.length Φ D i V1)) ∧ (Region.wanted o (yielded ops a.tmps) = false → Next2 Γ C st.ck.length Φ D i V1 undef w))
    (hk : ∀ D : Nat → Bool, (∀ i, i < ops.size → D i = true) → ∀ V1, Agree st.ck.length V V1 → ∀ a w, Rel Γ { flowBase ops st with ck := C D } V1 a w → (∀ i d, dstOf ops i = some d → Φ i V1 (a.tmps.getD d undef)) → Go.Sy.Fin P f R kk a w) :
    ∀ (fuel t : Nat) (listed : Array Bool) V1, Agree st.ck.length V V1 → listed.size = ops.size → (leftOf ops listed).length ≤ fuel → ∀ a w, Rel Γ { flowBase ops st with ck := C fun k => listed.getD k false } V1 a w → (∀ d sv, (d, SV.x sv) ∈ st.fr → (∀ j, dstOf ops j = some d → listed.getD j false = false) → sv.R V1 (a.tmps.getD d undef)) →
      (∀ i d, listed.getD i false = true → dstOf ops i = some d → Φ i V1 (a.tmps.getD d undef)) → (∀ i o, listed.getD i false = true → ops[i]? = some o → ∀ j ∈ directDeps o, listed.getD j false = true) →
      Go.Sy.Fin P f R (.inRegion ops (Region.linearise.go .any ops fuel t listed []) :: kk) a w := by
  have hedge := flowOk2_edge hok
  have hbinds : ∀ e : Edge, Region.binds .any e = bound e := by intro e; unfold Region.binds bound; cases e.ground <;> rfl
  have hall : ∀ listed : Array Bool, listed.size = ops.size → (∀ i, i < ops.size → listed.getD i false = true) → ∀ i d, dstOf ops i = some d → listed.getD i false = true := by
    intro listed hs h i d hd
    unfold dstOf at hd
    simp only [Option.bind_eq_some_iff] at hd
    obtain ⟨o, h1, _⟩ := hd
    exact h i (Array.getElem?_eq_some_iff.1 h1).1
  have hfinish : ∀ (listed : Array Bool) V1, Agree st.ck.length V V1 → listed.size = ops.size → leftOf ops listed = [] → ∀ a w, Rel Γ { flowBase ops st with ck := C fun k => listed.getD k false } V1 a w →
      (∀ i d, listed.getD i false = true → dstOf ops i = some d → Φ i V1 (a.tmps.getD d undef)) → Go.Sy.Fin P f R (.inRegion ops [] :: kk) a w := by
    intro listed V1 hH hs hl a w r hd
    have hdone : ∀ i, i < ops.size → listed.getD i false = true := fun i hi => ?_
    · exact Go.Sy.Fin.region_end (hk _ hdone V1 hH a w r fun i d hid => hd i d (hall listed hs hdone i d hid) hid)
    have := List.filter_eq_nil_iff.1 hl i (by simpa using hi)
    simp only [Bool.not_eq_true, Bool.not_eq_false'] at this
    rw [Array.getD_eq_getD_getElem?, Array.getElem?_eq_getElem (by omega)] at this ⊢
    simpa using this
  intro fuel
  induction fuel with
  | zero =>
    intro t listed V1 hH hs hl a w r _ hd _
    simp only [Region.linearise.go, List.reverse_nil]
    exact hfinish listed V1 hH hs (List.eq_nil_of_length_eq_zero (by omega)) a w r hd
  | succ fuel ih =>
    intro t listed V1 hH hs hl a w r hold hd hcl
    simp only [Region.linearise.go]
    change Go.Sy.Fin P f R (.inRegion ops (match (Region.ready .any ops listed)[t % (Region.ready .any ops listed).length]? with
      | some i => Region.linearise.go .any ops fuel (t / (Region.ready .any ops listed).length) (listed.setIfInBounds i true) [i]
      | none => [].reverse) :: kk) a w
    cases hi : (Region.ready .any ops listed)[t % (Region.ready .any ops listed).length]? with
    | none =>
      have hnil : Region.ready .any ops listed = [] := by
        cases hr : Region.ready .any ops listed with
        | nil => rfl
        | cons x xs =>
          rw [hr] at hi
          have hlt : t % (x :: xs).length < (x :: xs).length := Nat.mod_lt _ (by simp)
          rw [List.getElem?_eq_none_iff] at hi
          omega
      refine hfinish listed V1 hH hs ?_ a w r hd
      cases hleft : leftOf ops listed with
      | nil => rfl
      | cons x xs =>
        exfalso
        have hex : ∃ m, m ∈ leftOf ops listed ∧ ∀ y, y < m → y ∉ leftOf ops listed := by
          have : ∃ m, m ∈ leftOf ops listed := ⟨x, by rw [hleft]; exact List.mem_cons_self⟩
          obtain ⟨m, hm⟩ := this
          induction m using Nat.strongRecOn with
          | _ m ihm =>
            by_cases h : ∃ y, y < m ∧ y ∈ leftOf ops listed
            · obtain ⟨y, h1, h2⟩ := h; exact ihm y h1 h2
            · exact ⟨m, hm, fun y hy hy2 => h ⟨y, hy, hy2⟩⟩
        obtain ⟨m, hm, hmin⟩ := hex
        have hm2 : m < ops.size := by have := (List.mem_filter.1 hm).1; simpa using this
        have : m ∈ Region.ready .any ops listed := by
          unfold Region.ready
          refine List.mem_filter.2 ⟨by simpa using hm2, ?_⟩
          have hmo := (List.mem_filter.1 hm).2
          simp only [Bool.and_eq_true]
          refine ⟨hmo, ?_⟩
          have ho : ops[m]? = some ops[m] := Array.getElem?_eq_getElem hm2
          rw [ho]
          simp only [Option.map_some, Option.getD_some]
          rw [← Array.all_toList]
          refine List.all_eq_true.2 fun e he => ?_
          simp only [Bool.or_eq_true, Bool.not_eq_true']
          by_cases hb : bound e = true
          · right
            have hj : e.on ∈ directDeps ops[m] := List.mem_map.2 ⟨e, List.mem_filter.2 ⟨he, hb⟩, rfl⟩
            have hlt := hedge m _ ho e.on hj
            have := hmin e.on hlt
            have hno : ¬ (e.on ∈ leftOf ops listed) := this
            unfold leftOf at hno
            rw [List.mem_filter] at hno
            simp only [List.mem_range, not_and, Bool.not_eq_true, Bool.not_eq_false'] at hno
            have := hno (by omega)
            rw [Array.getD_eq_getD_getElem?, Array.getElem?_eq_getElem (by omega)] at this ⊢
            simpa using this
          · left; rw [hbinds]; simpa using hb
        rw [hnil] at this
        cases this
    | some i =>
      simp only []
      have hmem := List.mem_of_getElem? hi
      unfold Region.ready at hmem
      obtain ⟨h1, h2⟩ := List.mem_filter.1 hmem
      simp only [Bool.and_eq_true] at h2
      have hi2 : i < ops.size := by simpa using h1
      have ho : ops[i]? = some ops[i] := Array.getElem?_eq_getElem hi2
      rw [ho] at h2
      simp only [Option.map_some, Option.getD_some] at h2
      have hdeps : ∀ j ∈ directDeps ops[i], listed.getD j false = true := by
        intro j hj
        obtain ⟨e, he, rfl⟩ := List.mem_map.1 hj
        obtain ⟨he1, he2⟩ := List.mem_filter.1 he
        have h3 := h2.2
        rw [← Array.all_toList] at h3
        have := List.all_eq_true.1 h3 e he1
        rw [hbinds, he2] at this
        simpa using this
      have hDi : listed.getD i false = false := by
        have := h2.1
        rw [Array.getD_eq_getD_getElem?, Array.getElem?_eq_getElem (by omega)] at this ⊢
        simpa using this
      have hgo := hobl i _ ho (fun k => listed.getD k false) hDi hcl hdeps V1 hH a w r hd hold
      have hleft : i ∈ leftOf ops listed := List.mem_filter.2 ⟨h1, h2.1⟩
      have hcnt := leftOf_set hs hleft
      have hlist : ∀ x, (listed.setIfInBounds i true).getD x false = true → x = i ∨ listed.getD x false = true := by
        intro x hx
        by_cases e : x = i
        · exact .inl e
        · right
          rw [Array.getD_eq_getD_getElem?, Array.getElem?_setIfInBounds_ne (Ne.symm e)] at hx
          rw [Array.getD_eq_getD_getElem?]; exact hx
      have hlist2 : ∀ x, listed.getD x false = true → (listed.setIfInBounds i true).getD x false = true := by
        intro x hx
        by_cases e : x = i
        · subst e; rw [Array.getD_eq_getD_getElem?, Array.getElem?_setIfInBounds_self_of_lt (by omega)]; rfl
        · rw [Array.getD_eq_getD_getElem?, Array.getElem?_setIfInBounds_ne (Ne.symm e)]
          rw [Array.getD_eq_getD_getElem?] at hx; exact hx
      have hfun : (fun k => listed.getD k false || Nat.beq k i) = fun k => (listed.setIfInBounds i true).getD k false := by
        funext k
        by_cases e : k = i
        · subst e
          have : (listed.setIfInBounds k true).getD k false = true := by rw [Array.getD_eq_getD_getElem?, Array.getElem?_setIfInBounds_self_of_lt (by omega)]; rfl
          rw [this]; simp
        · have hb : Nat.beq k i = false := by
            cases hb : Nat.beq k i
            · rfl
            · exact absurd (Nat.eq_of_beq_eq_true hb) e
          have : (listed.setIfInBounds i true).getD k false = listed.getD k false := by rw [Array.getD_eq_getD_getElem?, Array.getElem?_setIfInBounds_ne (Ne.symm e), ← Array.getD_eq_getD_getElem?]
          rw [this, hb, Bool.or_false]
      have hnext : ∀ v w', Next2 Γ C st.ck.length Φ (fun k => listed.getD k false) i V1 v w' →
          Go.Sy.Fin P f R (.inRegion ops (Region.linearise.go .any ops fuel (t / (Region.ready .any ops listed).length) (listed.setIfInBounds i true) []) :: kk) (a.put ops[i].dst v) w' := by
        rintro v w' ⟨V2, g1, g2, g3, g4⟩
        rw [hfun] at g2
        have r2 : Rel Γ { flowBase ops st with ck := C fun k => (listed.setIfInBounds i true).getD k false } V2 a w' := by
          have hwf2 := flowBase_wf (ops := ops) hwf
          simp only [ST.wf, Bool.and_eq_true] at hwf2
          refine { size := r.size, defers := r.defers, slots := fun t sv hm => (r.slots t sv hm).agree g1 (List.all_eq_true.1 hwf2.1 _ hm), wok := g2, few := ⟨r.few.1, ?_⟩ }
          exact Nat.le_trans hst (hC _)
        have hcl2 : ∀ x o', (listed.setIfInBounds i true).getD x false = true → ops[x]? = some o' → ∀ j ∈ directDeps o', (listed.setIfInBounds i true).getD j false = true := by
          intro x o' hx hxo j hj
          rcases hlist x hx with rfl | hx
          · rw [ho] at hxo
            simp only [Option.some.injEq] at hxo
            subst hxo
            exact hlist2 j (hdeps j hj)
          · exact hlist2 j (hcl x o' hx hxo j hj)
        have hold2 : ∀ d sv, (d, SV.x sv) ∈ st.fr → (∀ j, dstOf ops j = some d → (listed.setIfInBounds i true).getD j false = false) → sv.R V2 (a.tmps.getD d undef) := by
          intro d sv hp hj
          have hwf0 := hwf
          simp only [ST.wf, Bool.and_eq_true] at hwf0
          refine SX.R_agree g1 (List.all_eq_true.1 hwf0.1 _ hp) (hold d sv hp fun j hjd => ?_)
          cases hl : listed.getD j false with
          | false => rfl
          | true => have h5 := hlist2 j hl; rw [hj j hjd] at h5; cases h5
        cases hdd : ops[i].dst with
        | none =>
          refine ih _ _ V2 (hH.trans g1) (by rw [Array.size_setIfInBounds]; exact hs) (by omega) _ w' r2 hold2 ?_ hcl2
          intro x e hx hxe
          rcases hlist x hx with rfl | hx
          · simp [dstOf, ho, hdd] at hxe
          · exact g3 x hx _ (hd x e hx hxe)
        | some d =>
          have hid : dstOf ops i = some d := by simp [dstOf, ho, hdd]
          have hdm : d ∈ allDsts ops := List.mem_filterMap.2 ⟨ops[i], by simp, hdd⟩
          have hdn : d < st.n := Nat.le_of_ble_eq_true (List.all_eq_true.1 hn d hdm)
          have hput : ∀ x, (a.put (some d) v).tmps.getD x undef = if x = d then v else a.tmps.getD x undef := fun x => getD_set _ _ _ _ (by rw [r2.size]; exact hdn)
          refine ih _ _ V2 (hH.trans g1) (by rw [Array.size_setIfInBounds]; exact hs) (by omega) _ w' (flowBase_put2 r2 hdm v hdn) (fun x sv hp hj => ?_) ?_ hcl2
          · have hself : (listed.setIfInBounds i true).getD i false = true := by rw [Array.getD_eq_getD_getElem?, Array.getElem?_setIfInBounds_self_of_lt (by omega)]; rfl
            have hne : x ≠ d := fun e => by have := hj i (by rw [hid, e]); rw [hself] at this; cases this
            rw [hput, if_neg hne]
            exact hold2 x sv hp hj
          intro x e hx hxe
          rw [hput]
          rcases hlist x hx with rfl | hx
          · rw [hid] at hxe
            simp only [Option.some.injEq] at hxe
            subst hxe
            rw [if_pos rfl]; exact g4
          · by_cases hed : e = d
            · subst hed
              have := dst_inj2 hok hxe hid
              subst this
              rw [if_pos rfl]; exact g4
            · rw [if_neg hed]; exact g3 x hx _ (hd x e hx hxe)
      rw [linearise_go_acc, List.reverse_singleton, List.singleton_append]
      by_cases hw : Region.wanted ops[i] (yielded ops a.tmps) = true
      · rcases hgo.1 hw with ⟨v, w', hr, hN⟩ | ⟨w', hr, hdn, hN⟩ | ⟨g, args, w', hr, hc⟩
        · exact Go.Sy.Fin.op_value ho hw hr (hnext v w' hN)
        · exact Go.Sy.Fin.op_skip ho hw hr (hnext undef w' hN)
        · -- a call is entered in the world as it stands
          refine Go.Sy.Fin.op_call ho hw hr (hc.mono fun e w2 hq => ?_)
          obtain ⟨v, rfl, hN⟩ := hq
          exact ⟨v, rfl, hnext v w2 hN⟩
      · have hw' : Region.wanted ops[i] (yielded ops a.tmps) = false := by simpa using hw
        exact Go.Sy.Fin.op_unwanted ho hw' (hnext undef w (hgo.2 hw'))
end
end Go.Ev

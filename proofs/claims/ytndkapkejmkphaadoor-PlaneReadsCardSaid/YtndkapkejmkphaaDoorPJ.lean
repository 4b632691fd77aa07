/- An executor for function bodies of the model over data, part PJ: blocks numbered anew; blocks given to those that only read. Conditions: none. -/
import Derived.Test.YtndkapkejmkphaaDoorPI
namespace Go.Ev
open Go.RowKit

/-! ### numbers turned by a function -/
def RC.map (ρ : Nat → Nat) : RC → RC
  | .pd p => .pd p
  | .loc i off => .loc (ρ i) off
def SC.map (ρ : Nat → Nat) : SC → SC
  | .pd p => .pd p
  | .loc i off => .loc (ρ i) off
  | .own i => .own (ρ i)
  | .oat i j sz off => .oat (ρ i) j sz off
  | .fn f a b => .fn f (a.map (RC.map ρ)) (b.map (RC.map ρ))
def SX.map (ρ : Nat → Nat) : SX → SX
  | .c s => .c (s.map ρ)
  | .agg cs => .agg (cs.map (SC.map ρ))
def SV.map (ρ : Nat → Nat) : SV → SV
  | .x s => .x (s.map ρ)
  | .tup l => .tup (l.map (SX.map ρ))
  | .grd s w v => .grd s w (v.map ρ)
def Ob.map (ρ : Nat → Nat) : Ob → Ob
  | .it j d c => .it (ρ j) d c
  | o => o
def Chunk.map (ρ : Nat → Nat) : Chunk → Chunk
  | .obj o => .obj (o.map ρ)
  | .dead => .dead
  | .cells cs e => .cells (cs.map (SC.map ρ)) e
  | .own e t l => .own e t l
/-! which blocks are led to -/
def RC.refs : RC → List Nat
  | .pd _ => []
  | .loc i _ => [i]
def SC.refs : SC → List Nat
  | .pd _ => []
  | .loc i _ => [i]
  | .own i => [i]
  | .oat i _ _ _ => [i]
  | .fn _ a b => a.flatMap RC.refs ++ b.flatMap RC.refs
def SX.refs : SX → List Nat
  | .c s => s.refs
  | .agg cs => cs.flatMap SC.refs
def SV.refs : SV → List Nat
  | .x s => s.refs
  | .tup l => l.flatMap SX.refs
  | .grd _ _ v => v.refs
def Ob.refs : Ob → List Nat
  | .it j _ _ => [j]
  | _ => []
def Chunk.refs : Chunk → List Nat
  | .obj o => o.refs
  | .cells cs _ => cs.flatMap SC.refs
  | _ => []
structure Turned (ρ : Nat → Nat) (V V' : Vn) (s : List Nat) : Prop where
  hle : HLe V.H V'.H
  same : ∀ i ∈ s, V'.σ (ρ i) = V.σ i ∧ V'.ov (ρ i) = V.ov i
section
variable {ρ : Nat → Nat} {V V' : Vn}
theorem Turned.sub {s s' : List Nat} (h : Turned ρ V V' s) (hs : ∀ i ∈ s', i ∈ s) : Turned ρ V V' s' := ⟨h.hle, fun i hi => h.same i (hs i hi)⟩
theorem RC.R_map {s : RC} (h : Turned ρ V V' s.refs) {u : Value} (hr : s.R V u) : (s.map ρ).R V' u := by
  cases s with
  | pd p => exact PR.mono h.hle hr
  | loc i o => show u = _; rw [(h.same i (by simp [RC.refs])).1]; exact hr
theorem rcs_map {l : List RC} (h : Turned ρ V V' (l.flatMap RC.refs)) {us : List Value} (hr : All2 (RC.R V) l us) : All2 (RC.R V') (l.map (RC.map ρ)) us := by
  rw [All2.map_left]
  exact hr.mono fun a b ha hab => RC.R_map (h.sub fun i hi => List.mem_flatMap.2 ⟨a, ha, hi⟩) hab
theorem SC.R_map {s : SC} (h : Turned ρ V V' s.refs) {u : Value} (hr : s.R V u) : (s.map ρ).R V' u := by
  cases s with
  | pd p => exact PR.mono h.hle hr
  | loc i o => show u = _; rw [(h.same i (by simp [SC.refs])).1]; exact hr
  | own i => show u = _; rw [(h.same i (by simp [SC.refs])).2]; exact hr
  | oat i j sz o => show u = _; rw [(h.same i (by simp [SC.refs])).1]; exact hr
  | fn f x y =>
    obtain ⟨ua, ub, e, h1, h2⟩ := hr
    exact ⟨ua, ub, e, rcs_map (h.sub fun i hi => by simp only [SC.refs]; exact List.mem_append_left _ hi) h1, rcs_map (h.sub fun i hi => by simp only [SC.refs]; exact List.mem_append_right _ hi) h2⟩
theorem scs_map {l : List SC} (h : Turned ρ V V' (l.flatMap SC.refs)) {us : List Value} (hr : All2 (SC.R V) l us) : All2 (SC.R V') (l.map (SC.map ρ)) us := by
  rw [All2.map_left]
  exact hr.mono fun a b ha hab => SC.R_map (h.sub fun i hi => List.mem_flatMap.2 ⟨a, ha, hi⟩) hab
theorem SX.R_map {s : SX} (h : Turned ρ V V' s.refs) {u : Value} (hr : s.R V u) : (s.map ρ).R V' u := by
  cases s with
  | c s => exact SC.R_map h hr
  | agg cs => obtain ⟨us, e, h1⟩ := hr; exact ⟨us, e, scs_map h h1⟩
theorem sxs_map {l : List SX} (h : Turned ρ V V' (l.flatMap SX.refs)) {us : List Value} (hr : All2 (SX.R V) l us) : All2 (SX.R V') (l.map (SX.map ρ)) us := by
  rw [All2.map_left]
  exact hr.mono fun a b ha hab => SX.R_map (h.sub fun i hi => List.mem_flatMap.2 ⟨a, ha, hi⟩) hab
theorem SlotOk.map {a : Act} {t : Nat} {sv : SV} (h : Turned ρ V V' sv.refs) (hk : SlotOk V a t sv) : SlotOk V' a t (sv.map ρ) := by
  cases sv with
  | x s => exact SX.R_map h hk
  | tup l => obtain ⟨us, e, h1⟩ := hk; exact ⟨us, e, sxs_map h h1⟩
  | grd s b v => exact ⟨fun hb => SX.R_map h (hk.1 hb), hk.2⟩
theorem Ob.mem_map {o : Ob} (h : Turned ρ V V' o.refs) : (o.map ρ).mem V' = o.mem V := by
  cases o with
  | set => rfl
  | it j d c => simp [Ob.map, Ob.mem, (h.same j (by simp [Ob.refs])).1]
theorem Chunk.holds_map {w : World} {i : Nat} {c : Chunk} (h : Turned ρ V V' (i :: c.refs)) (hk : c.holds V w i) : (c.map ρ).holds V' w (ρ i) := by
  have hi := h.same i List.mem_cons_self
  cases c with
  | dead => trivial
  | cells cs e =>
    obtain ⟨us, h1, h2⟩ := hk
    exact ⟨us, by rw [hi.1]; exact h1, scs_map (h.sub fun j hj => List.mem_cons_of_mem _ hj) h2⟩
  | own e t l =>
    obtain ⟨xs, h1, h2, h3⟩ := hk
    exact ⟨xs, by rw [hi.2]; exact h1, h2.mono fun _ _ _ hp => hp.mono h.hle, by rw [hi.1, hi.2]; exact h3⟩
  | obj o =>
    refine ⟨?_, by rw [hi.1, hi.2]; exact hk.2⟩
    show _ = some ((o.map ρ).mem V')
    rw [hi.1, Ob.mem_map (h.sub fun j hj => List.mem_cons_of_mem _ hj)]; exact hk.1
theorem Chunk.blk_map {i : Nat} {c : Chunk} (h : Turned ρ V V' [i]) : (c.map ρ).blk V' (ρ i) = c.blk V i := by
  have hi := h.same i List.mem_cons_self
  cases c with
  | dead => rfl
  | cells cs e => simp [Chunk.map, Chunk.blk, hi.1]
  | own e t l => simp [Chunk.map, Chunk.blk, hi.2]
  | obj o => simp [Chunk.map, Chunk.blk, hi.1]
end
/-! ### numbers turned by a list: the j-th new one is the old m[j] -/
def idxIn (i : Nat) : List Nat → Nat → Nat
  | [], k => k
  | x :: r, k => bif Nat.beq x i then k else idxIn i r (k + 1)
def within (m : List Nat) (l : List Nat) : Bool := l.all fun i => m.any (Nat.beq i)
def incr : List Nat → Bool
  | a :: b :: r => Nat.blt a b && incr (b :: r)
  | _ => true
def pickCk (ck : List Chunk) : List Nat → Option (List Chunk)
  | [] => some []
  | i :: r => match ck[i]?, pickCk ck r with
    | some c, some l => some (c :: l)
    | _, _ => none
def reach (ck : List Chunk) : Nat → List Nat → List Nat
  | 0, l => l
  | n + 1, l => reach ck n (l ++ (l.flatMap fun i => ((ck[i]?).map Chunk.refs).getD []).filter fun x => !l.any (Nat.beq x))
def reachOf (ck : List Chunk) (l : List Nat) : List Nat := let r := reach ck 4 l; (List.range ck.length).filter fun i => r.any (Nat.beq i)
theorem mem_any {i : Nat} {m : List Nat} (h : m.any (Nat.beq i) = true) : i ∈ m := by
  obtain ⟨x, hx, hb⟩ := List.any_eq_true.1 h
  rw [Nat.eq_of_beq_eq_true hb]; exact hx
theorem idxIn_sound {i : Nat} : ∀ {m : List Nat} {k : Nat}, i ∈ m → k ≤ idxIn i m k ∧ m[idxIn i m k - k]? = some i
  | [], _, h => by cases h
  | x :: r, k, h => by
    simp only [idxIn]
    cases hb : Nat.beq x i
    · simp only [cond_false]
      have hne : i ≠ x := fun e => by rw [e] at hb; simp at hb
      obtain ⟨h1, h2⟩ := idxIn_sound (k := k + 1) ((List.mem_cons.1 h).resolve_left hne)
      refine ⟨by omega, ?_⟩
      rw [show idxIn i r (k + 1) - k = (idxIn i r (k + 1) - (k + 1)) + 1 from by omega, List.getElem?_cons_succ]; exact h2
    · simp only [cond_true]
      have := Nat.eq_of_beq_eq_true hb
      subst this
      simp
theorem incr_inj : ∀ {m : List Nat}, incr m = true → ∀ (i j : Nat) x, m[i]? = some x → m[j]? = some x → i = j := by
  have lt : ∀ {m : List Nat} {a : Nat}, incr (a :: m) = true → ∀ (j : Nat) x, m[j]? = some x → a < x := by
    intro m
    induction m with
    | nil => intro a _ j x h; simp at h
    | cons b r ih =>
      intro a h j x hj
      simp only [incr, Bool.and_eq_true] at h
      have hab : a < b := Nat.le_of_ble_eq_true h.1
      cases j with
      | zero => simp only [List.getElem?_cons_zero, Option.some.injEq] at hj; omega
      | succ j => have := ih h.2 j x (by simpa using hj); omega
  intro m
  induction m with
  | nil => intro _ i j x h; simp at h
  | cons b r ih =>
    intro h i j x hi hj
    have hr : incr r = true := by cases r with | nil => rfl | cons c r => simp only [incr, Bool.and_eq_true] at h; exact h.2
    cases i with
    | zero =>
      cases j with
      | zero => rfl
      | succ j =>
        simp only [List.getElem?_cons_zero, Option.some.injEq, List.getElem?_cons_succ] at hi hj
        have := lt h j x hj; omega
    | succ i =>
      cases j with
      | zero =>
        simp only [List.getElem?_cons_zero, Option.some.injEq, List.getElem?_cons_succ] at hi hj
        have := lt h i x hi; omega
      | succ j => simp only [List.getElem?_cons_succ] at hi hj; rw [ih hr i j x hi hj]
theorem pickCk_get {ck : List Chunk} : ∀ {l : List Nat} {ck' : List Chunk}, pickCk ck l = some ck' → ck'.length = l.length ∧ ∀ (j : Nat) c, ck'[j]? = some c → ∃ i, l[j]? = some i ∧ ck[i]? = some c
  | [], ck', h => by simp [pickCk] at h; subst h; simp
  | i :: r, ck', h => by
    simp only [pickCk] at h
    split at h
    · rename_i x y h1 h2
      simp only [Option.some.injEq] at h; subst h
      obtain ⟨h3, h4⟩ := pickCk_get h2
      refine ⟨by simp [h3], fun j c hj => ?_⟩
      cases j with
      | zero => simp only [List.getElem?_cons_zero, Option.some.injEq] at hj; subst hj; exact ⟨i, by simp, h1⟩
      | succ j => simp only [List.getElem?_cons_succ] at hj ⊢; exact h4 j c hj
    · simp at h
def subV (m : List Nat) (V : Vn) : Vn := ⟨V.H, fun j => V.σ (m.getD j 0), fun j => V.ov (m.getD j 0)⟩
theorem subV_turned {m : List Nat} {V : Vn} {l : List Nat} (h : within m l = true) : Turned (fun i => idxIn i m 0) V (subV m V) l := by
  refine ⟨HLe.refl _, fun i hi => ?_⟩
  have h1 := (idxIn_sound (k := 0) (mem_any (List.all_eq_true.1 h i hi))).2
  simp only [Nat.sub_zero] at h1
  simp [subV, List.getD_eq_getElem?_getD, h1]
theorem within_flat {α : Type} {m : List Nat} {l : List α} {f : α → List Nat} (h : within m (l.flatMap f) = true) {x : α} (hx : x ∈ l) : within m (f x) = true :=
  List.all_eq_true.2 fun i hi => List.all_eq_true.1 h i (List.mem_flatMap.2 ⟨x, hx, hi⟩)

theorem pick_own {ck : List Chunk} {V : Vn} {w : World} {m : List Nat} {ck' : List Chunk} (hown : ∀ (i : Nat) (c : Chunk), ck[i]? = some c → c.holds V w i) (hp : pickCk ck m = some ck') (hin : within m (ck'.flatMap Chunk.refs) = true) (hm : incr m = true) :
    ∀ (j : Nat) (c : Chunk), (ck'.map (Chunk.map fun i => idxIn i m 0))[j]? = some c → c.holds (subV m V) w j ∧ ∃ i c0, m[j]? = some i ∧ ck[i]? = some c0 ∧ c.blk (subV m V) j = c0.blk V i := by
  intro j c hc
  rw [List.getElem?_map, Option.map_eq_some_iff] at hc
  obtain ⟨c0, h1, rfl⟩ := hc
  obtain ⟨i, h2, h3⟩ := (pickCk_get hp).2 j c0 h1
  have hi : idxIn i m 0 = j := by
    have := (idxIn_sound (k := 0) (List.mem_of_getElem? h2)).2
    exact incr_inj hm _ _ i (by simpa using this) h2
  have hw : within m (i :: c0.refs) = true := List.all_eq_true.2 fun x hx => by
    rcases List.mem_cons.1 hx with rfl | hx
    · exact List.any_eq_true.2 ⟨x, List.mem_of_getElem? h2, by simp⟩
    · exact List.all_eq_true.1 hin x (List.mem_flatMap.2 ⟨c0, List.mem_of_getElem? h1, hx⟩)
  have h4 := Chunk.holds_map (subV_turned (V := V) hw) (hown i c0 h3)
  have h5 := Chunk.blk_map (c := c0) (subV_turned (V := V) (m := m) (l := [i]) (List.all_eq_true.2 fun x hx => List.all_eq_true.1 hw x (by simp at hx; subst hx; exact List.mem_cons_self)))
  simp only [hi] at h4 h5
  exact ⟨h4, i, c0, h2, h3, h5⟩

def renST (m : List Nat) (st : ST) : ST :=
  match pickCk st.ck m with
  | some ck' => bif incr m && within m (st.fr.flatMap fun p => p.2.refs) && within m (ck'.flatMap Chunk.refs) && (m.take st.m == List.range st.m) then
      { n := st.n, fr := st.fr.map (fun p => (p.1, p.2.map fun i => idxIn i m 0)), ck := ck'.map (Chunk.map fun i => idxIn i m 0), kn := st.kn, m := st.m }
    else st
  | none => st
def gc (st : ST) : ST := renST (reachOf st.ck (List.range st.m ++ st.fr.flatMap fun p => p.2.refs)) st
theorem Rel.renST {Γ : Ctx} {st : ST} {V : Vn} {a : Act} {w : World} {m : List Nat} (r : Rel Γ st V a w) : ∃ V', Rel Γ (renST m st) V' a w := by
  unfold Ev.renST
  split
  · rename_i ck' hp
    cases hb : (incr m && within m (st.fr.flatMap fun p => p.2.refs) && within m (ck'.flatMap Chunk.refs) && (m.take st.m == List.range st.m))
    · exact ⟨V, r⟩
    · simp only [cond_true]
      simp only [Bool.and_eq_true, beq_iff_eq] at hb
      obtain ⟨⟨⟨h1, h2⟩, h3⟩, h4⟩ := hb
      have hpo := pick_own (ck := st.ck) (V := V) (w := w) r.wok.own hp h3 h1
      refine ⟨subV m V, { size := r.size, defers := r.defers, slots := ?_, wok := { ext := r.wok.ext, imm := r.wok.imm, hle := r.wok.hle, frz := r.wok.frz, agr := ?_, own := fun j c hc => (hpo j c hc).1, base := ?_, inj := ?_ }, few := ⟨r.few.1, ?_⟩ }⟩
      · intro t sv hm
        obtain ⟨⟨t', sv'⟩, h5, h6⟩ := List.mem_map.1 hm
        simp only [Prod.mk.injEq] at h6
        obtain ⟨rfl, rfl⟩ := h6
        exact SlotOk.map (subV_turned (within_flat h2 h5)) (r.slots _ _ h5)
      · intro i hi
        have hi2 : i < st.m := Nat.lt_of_lt_of_le hi r.few.1
        have : m[i]? = some i := by
          have h6 : (m.take st.m)[i]? = some i := by rw [h4]; simp [hi2]
          rw [List.getElem?_take, if_pos hi2] at h6; exact h6
        have h7 : m.getD i 0 = i := by simp [List.getD_eq_getElem?_getD, this]
        simp only [subV, h7]
        exact r.wok.agr i hi
      · intro j c b hc hb
        obtain ⟨_, i, c0, h5, h6, h7⟩ := hpo j c hc
        rw [h7] at hb
        exact r.wok.base i c0 b h6 hb
      · intro j k c d b hc hd hb1 hb2
        obtain ⟨_, i, c0, h5, h6, h7⟩ := hpo j c hc
        obtain ⟨_, i', d0, g5, g6, g7⟩ := hpo k d hd
        rw [h7] at hb1
        rw [g7] at hb2
        have := r.wok.inj i i' c0 d0 b h6 g6 hb1 hb2
        subst this
        exact incr_inj h1 j k i h5 g5
      · have : (m.take st.m).length = st.m := by rw [h4]; simp
        rw [List.length_take] at this
        show st.m ≤ (ck'.map _).length
        rw [List.length_map, (pickCk_get hp).1]; omega
  · exact ⟨V, r⟩
theorem Rel.gc {Γ : Ctx} {st : ST} {V : Vn} {a : Act} {w : World} (r : Rel Γ st V a w) : ∃ V', Rel Γ (gc st) V' a w := r.renST
end Go.Ev

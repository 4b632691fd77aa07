/- An executor for function bodies of the model over data, part PN: a statement whose order Go leaves open, where no operation changes what another one sees. Conditions: each operation's own. -/
import Derived.Test.YtpfidgnkokidoaaGreatDoorPM
import Derived.Orders
namespace Go.Ev
open Go.RowKit
def bF (ops : Array Oper) (i : Nat) : Option Nat := (ops[i]?).bind (·.dst)
def bound (e : Edge) : Bool := match e.ground with | .textOnly _ => false | .gcOnly _ => false | _ => true
def bH (o : Oper) : List Nat := (o.after.toList.filter bound).map (·.on)
def anc (ops : Array Oper) : Nat → Nat → List Nat
 | 0, _ => []
 | n + 1, i => match ops[i]? with
   | some o => (bH o).flatMap fun j => j :: anc ops n j
   | none => []
def fN : List Nat → Bool
 | [] => true
 | x :: r => !r.any (Nat.beq x) && fN r
def dX (ops : Array Oper) : List Nat := ops.toList.filterMap (·.dst)
def gi (ops : Array Oper) : Bool :=
 ops.toList.all (fun o => o.dst.isSome) && fN (dX ops) && (ops.toList.zipIdx.all fun p => (bH p.1).all fun j => Nat.blt j p.2)
def bw (ops : Array Oper) (st : ST) : ST := { st with fr := st.fr.filter (fun q => !(dX ops).any (fun d => q.2.onSlot d || Nat.beq q.1 d)), kn := [] }
theorem Agree.trans {n : Nat} {V V1 V2 : Vn} (h : Agree n V V1) (k : Agree n V1 V2) : Agree n V V2 := ⟨h.hle.trans k.hle, fun i hi => ⟨(k.same i hi).1.trans (h.same i hi).1, (k.same i hi).2.trans (h.same i hi).2⟩⟩
def mS (Γ : Ctx) (ck : List Chunk) (V1 : Vn) (Φ : Vn → Value → Prop) (v : Value) (w' : World) : Prop := ∃ V2, Agree ck.length V1 V2 ∧ WOk Γ ck V2 w' ∧ Φ V2 v
def tm (P : Program) (o : Oper) (a : Act) (w : World) (Ψ : Value → World → Prop) : Prop :=
 (∃ v w', (execOp a.eval o).run P w = .ok (.value v) w' ∧ Ψ v w') ∨
 (∃ g args w', (execOp a.eval o).run P w = .ok (.enter g args) w' ∧ Calls P g args w' fun e w2 => ∃ v, e = .returned v ∧ Ψ v w2)
def G7 (P : Program) (Γ : Ctx) (ck : List Chunk) (ops : Array Oper) (o : Oper) (a : Act) (w : World) (V1 : Vn) (Φ : Vn → Value → Prop) : Prop :=
 (Region.wanted o (yielded ops a.tmps) = true → tm P o a w (mS Γ ck V1 Φ)) ∧ (Region.wanted o (yielded ops a.tmps) = false → Φ V1 undef)
section
variable {Γ : Ctx} {P : Program} {st : ST} {V : Vn} {a : Act} {w : World} {ops : Array Oper}
theorem lR (r : Rel Γ st V a w) (ops : Array Oper) : Rel Γ (bw ops st) V a w :=
 (r.weaken (fr' := st.fr.filter _) (fun p hp => (aL.1 hp).1)).marks _
theorem ti (r : Rel Γ (bw ops st) V a w) {d : Nat} (hd : d ∈ dX ops) (v : Value) (hn : d < st.n) : Rel Γ (bw ops st) V (a.put (some d) v) w := by
 have h := r.forget d v hn
 have he : gu d (bw ops st).fr = (bw ops st).fr := by
  unfold gu
  apply List.filter_eq_self.2
  intro q hq
  have hq2 := (aL.1 hq).2
  simp only [aC, cT, aF, not_or] at hq2
  have := hq2 d hd
  simp only [da] at this
  simp [this.1, this.2]
 rw [he] at h
 exact h
theorem kb (hwf : st.wf = true) : (bw ops st).wf = true := by
 simp only [ST.wf, af] at hwf ⊢
 exact ⟨ai.2 fun p hp => ai.1 hwf.1 p (aL.1 hp).1, hwf.2⟩
theorem ll (r : Rel Γ (bw ops st) V a w) (hwf : st.wf = true) {V' : Vn} {w' : World} (hag : Agree st.ck.length V V') (hw : WOk Γ st.ck V' w') : Rel Γ (bw ops st) V' a w' :=
 r.turn (kb hwf) hag hw (ay _)
end
theorem lu : ∀ {l : List Nat}, fN l = true → ∀ (i j : Nat) x, l[i]? = some x → l[j]? = some x → i = j
 | [], _, i, j, x, h, _ => by simp at h
 | y :: r, h, i, j, x, hi, hj => by
   simp only [fN, af, aC, cT] at h
   have hno : ∀ (k : Nat), r[k]? ≠ some y := by
    intro k hk
    exact h.1 y (List.mem_of_getElem? hk) (by simp)
   cases i with
   | zero =>
     cases j with
     | zero => rfl
     | succ j =>
       simp only [List.getElem?_cons_zero, aa, List.getElem?_cons_succ] at hi hj
       subst hi; exact absurd hj (hno j)
   | succ i =>
     cases j with
     | zero =>
       simp only [List.getElem?_cons_zero, aa, List.getElem?_cons_succ] at hi hj
       subst hj; exact absurd hi (hno i)
     | succ j =>
       simp only [List.getElem?_cons_succ] at hi hj
       rw [lu h.2 i j x hi hj]
theorem iL {α : Type} {f : α → Option Nat} : ∀ {l : List α}, (∀ x ∈ l, (f x).isSome = true) → ∀ (i : Nat) x d, l[i]? = some x → f x = some d → (l.filterMap f)[i]? = some d
 | [], _, i, x, d, h, _ => by simp at h
 | y :: r, hs, i, x, d, hi, hf => by
   have hy := hs y aG
   cases hfy : f y with
   | none => rw [hfy] at hy; cases hy
   | some e =>
     rw [List.filterMap_cons_some hfy]
     cases i with
     | zero =>
       simp only [List.getElem?_cons_zero, aa] at hi
       subst hi; rw [hf] at hfy; simpa using hfy.symm
     | succ i =>
       simp only [List.getElem?_cons_succ] at hi ⊢
       exact iL (fun x hx => hs x (aO _ hx)) i x d hi hf
theorem DR {ops : Array Oper} (h : gi ops = true) {i j d : Nat} (hi : bF ops i = some d) (hj : bF ops j = some d) : i = j := by
 simp only [gi, af] at h
 have hs : ∀ x ∈ ops.toList, (x.dst).isSome = true := ai.1 h.1.1
 unfold bF at hi hj
 simp only [aM] at hi hj
 obtain ⟨o, h1, h2⟩ := hi
 obtain ⟨o', h3, h4⟩ := hj
 exact lu h.1.2 i j d (iL hs i o d (by simpa using h1) h2) (iL hs j o' d (by simpa using h3) h4)
section
variable {Γ : Ctx} {P : Program} {f : FuncId} {R : Ending → World → Prop} {st : ST} {V : Vn} {ops : Array Oper} {kk : List Item}
def leftOf (ops : Array Oper) (listed : Array Bool) : List Nat := (List.range ops.size).filter fun i => !listed.getD i true
theorem o7 {listed : Array Bool} {i : Nat} (hs : listed.size = ops.size) (hi : i ∈ leftOf ops listed) : (leftOf ops (listed.setIfInBounds i true)).length < (leftOf ops listed).length := by
 have hi2 : i < ops.size := by have := (aL.1 hi).1; simpa using this
 have hsub : leftOf ops (listed.setIfInBounds i true) = (leftOf ops listed).filter (fun x => decide (x ≠ i)) := by
  unfold leftOf
  rw [List.filter_filter]
  apply List.filter_congr
  intro x hx
  simp only [Array.getD_eq_getD_getElem?, Array.getElem?_setIfInBounds]
  by_cases e : i = x
  · subst e; simp [hs, hi2]
  · simp [e, Ne.symm e]
 rw [hsub]
 exact List.length_filter_lt_length_iff_exists.2 ⟨i, hi, by simp⟩
def yd : SV → Bool
 | .x (.c (.pd _)) => true
 | _ => false
theorem El (Φ : Nat → Vn → Value → Prop) (hmono : ∀ i V1 V2 v, Agree st.ck.length V1 V2 → Φ i V1 v → Φ i V2 v) (hok : gi ops = true) (hn : (dX ops).all (fun d => Nat.blt d st.n) = true) (hwf : st.wf = true)
 (hobl : ∀ i o, ops[i]? = some o → ∀ V1, Agree st.ck.length V V1 → ∀ a w, Rel Γ (bw ops st) V1 a w → (∀ p ∈ st.fr, yd p.2 = true → (∀ j, bF ops j = some p.1 → i ∈ anc ops ops.size j) → cJ V1 a p.1 p.2) → (∀ j ∈ anc ops ops.size i, ∀ d, bF ops j = some d → Φ j V1 (a.tmps.getD d undef)) → G7 P Γ st.ck ops o a w V1 (Φ i))
 (hk : ∀ V1, Agree st.ck.length V V1 → ∀ a w, Rel Γ (bw ops st) V1 a w → (∀ i d, bF ops i = some d → Φ i V1 (a.tmps.getD d undef)) → Go.Sy.Fin P f R kk a w) :
 ∀ (fuel t : Nat) (listed : Array Bool) V1, Agree st.ck.length V V1 → listed.size = ops.size → (leftOf ops listed).length ≤ fuel → ∀ a w, Rel Γ (bw ops st) V1 a w → (∀ p ∈ st.fr, yd p.2 = true → (∀ j, bF ops j = some p.1 → listed.getD j false = false) → cJ V1 a p.1 p.2) →
  (∀ i d, listed.getD i false = true → bF ops i = some d → Φ i V1 (a.tmps.getD d undef)) → (∀ i o, listed.getD i false = true → ops[i]? = some o → ∀ j ∈ bH o, listed.getD j false = true) →
  Go.Sy.Fin P f R (.inRegion ops (Region.linearise.go .any ops fuel t listed []) :: kk) a w := by
 have hedge : ∀ i o, ops[i]? = some o → ∀ j ∈ bH o, j < i := by
  intro i o ho j hj
  simp only [gi, af] at hok
  have h1 := ai.1 hok.2 (o, i) (by
   rw [List.mem_zipIdx_iff_getElem?]; simpa using ho)
  exact av (ai.1 h1 j hj)
 have hbinds : ∀ e : Edge, Region.binds .any e = bound e := by intro e; unfold Region.binds bound; cases e.ground <;> rfl
 have hall : ∀ listed : Array Bool, listed.size = ops.size → (∀ i, i < ops.size → listed.getD i false = true) → ∀ i d, bF ops i = some d → listed.getD i false = true := by
  intro listed hs h i d hd
  unfold bF at hd
  simp only [aM] at hd
  obtain ⟨o, h1, _⟩ := hd
  exact h i (Array.getElem?_eq_some_iff.1 h1).1
 have hfinish : ∀ (listed : Array Bool) V1, Agree st.ck.length V V1 → listed.size = ops.size → leftOf ops listed = [] → ∀ a w, Rel Γ (bw ops st) V1 a w →
  (∀ i d, listed.getD i false = true → bF ops i = some d → Φ i V1 (a.tmps.getD d undef)) → Go.Sy.Fin P f R (.inRegion ops [] :: kk) a w := by
  intro listed V1 hH hs hl a w r hd
  refine Go.Sy.Fin.region_end (hk V1 hH a w r fun i d hid => hd i d ?_ hid)
  refine hall listed hs (fun i hi => ?_) i d hid
  have := List.filter_eq_nil_iff.1 hl i (by simpa using hi)
  simp only [da, cY] at this
  rw [Array.getD_eq_getD_getElem?, Array.getElem?_eq_getElem (by omega)] at this ⊢
  simpa using this
 intro fuel
 induction fuel with
 | zero =>
   intro t listed V1 hH hs hl a w r _ hd _
   simp only [Region.linearise.go, List.reverse_nil]
   exact hfinish listed V1 hH hs (bj (by omega)) a w r hd
 | succ fuel ih =>
   intro t listed V1 hH hs hl a w r hold hd hcl
   simp only [Region.linearise.go]
   change Go.Sy.Fin P f R (.inRegion ops (match (Region.ready .any ops listed)[t % (Region.ready .any ops listed).length]? with
    | some i => Region.linearise.go .any ops fuel (t / (Region.ready .any ops listed).length) (listed.setIfInBounds i true) [i]
    | none => [].reverse) :: kk) a w
   cases hi : (Region.ready .any ops listed)[t % (Region.ready .any ops listed).length]? with
   | none =>
     have hnil : Region.ready .any ops listed = [] := by
      cases hr : Region.ready .any ops listed with
      | nil => rfl
      | cons x xs =>
        rw [hr] at hi
        have hlt : t % (x :: xs).length < (x :: xs).length := Nat.mod_lt _ (by simp)
        rw [List.getElem?_eq_none_iff] at hi
        omega
     refine hfinish listed V1 hH hs ?_ a w r hd
     cases hleft : leftOf ops listed with
     | nil => rfl
     | cons x xs =>
       exfalso
       have hex : ∃ m, m ∈ leftOf ops listed ∧ ∀ y, y < m → y ∉ leftOf ops listed := by
        have : ∃ m, m ∈ leftOf ops listed := ⟨x, by rw [hleft]; exact aG⟩
        obtain ⟨m, hm⟩ := this
        induction m using Nat.strongRecOn with
        | _ m ihm =>
          by_cases h : ∃ y, y < m ∧ y ∈ leftOf ops listed
          · obtain ⟨y, h1, h2⟩ := h; exact ihm y h1 h2
          · exact ⟨m, hm, fun y hy hy2 => h ⟨y, hy, hy2⟩⟩
       obtain ⟨m, hm, hmin⟩ := hex
       have hm2 : m < ops.size := by have := (aL.1 hm).1; simpa using this
       have : m ∈ Region.ready .any ops listed := by
        unfold Region.ready
        refine aL.2 ⟨by simpa using hm2, ?_⟩
        have hmo := (aL.1 hm).2
        simp only [af]
        refine ⟨hmo, ?_⟩
        have ho : ops[m]? = some ops[m] := Array.getElem?_eq_getElem hm2
        rw [ho]
        simp only [bQ, dA]
        rw [← Array.all_toList]
        refine ai.2 fun e he => ?_
        simp only [aF, aC]
        by_cases hb : bound e = true
        · right
          have hj : e.on ∈ bH ops[m] := bp.2 ⟨e, aL.2 ⟨he, hb⟩, rfl⟩
          have hlt := hedge m _ ho e.on hj
          have := hmin e.on hlt
          have hno : ¬ (e.on ∈ leftOf ops listed) := this
          unfold leftOf at hno
          rw [aL] at hno
          simp only [List.mem_range, not_and, da, cY] at hno
          have := hno (by omega)
          rw [Array.getD_eq_getD_getElem?, Array.getElem?_eq_getElem (by omega)] at this ⊢
          simpa using this
        · left; rw [hbinds]; simpa using hb
       rw [hnil] at this
       cases this
   | some i =>
     simp only []
     have hmem := List.mem_of_getElem? hi
     unfold Region.ready at hmem
     obtain ⟨h1, h2⟩ := aL.1 hmem
     simp only [af] at h2
     have hi2 : i < ops.size := by simpa using h1
     have ho : ops[i]? = some ops[i] := Array.getElem?_eq_getElem hi2
     rw [ho] at h2
     simp only [bQ, dA] at h2
     have hdeps : ∀ j ∈ bH ops[i], listed.getD j false = true := by
      intro j hj
      obtain ⟨e, he, rfl⟩ := bp.1 hj
      obtain ⟨he1, he2⟩ := aL.1 he
      have h3 := h2.2
      rw [← Array.all_toList] at h3
      have := ai.1 h3 e he1
      rw [hbinds, he2] at this
      simpa using this
     have aux : ∀ n i', listed.getD i' false = true → ∀ j, j ∈ anc ops n i' → listed.getD j false = true := by
      intro n
      induction n with
      | zero => intro i' _ j hj; simp [anc] at hj
      | succ n ihn =>
        intro i' hi' j hj
        unfold anc at hj
        split at hj
        · rename_i o' ho'
          obtain ⟨x, hx, hjx⟩ := aN.1 hj
          have hlx := hcl i' o' hi' ho' x hx
          rcases aS.1 hjx with rfl | hjx
          · exact hlx
          · exact ihn x hlx j hjx
        · cases hj
     have hnl : listed.getD i false = false := by
      have h3 := h2.1
      simp only [aC] at h3
      rw [Array.getD_eq_getD_getElem?] at h3 ⊢
      cases h4 : listed[i]? with
      | none => rfl
      | some b => rw [h4] at h3; exact h3
     have hanc : ∀ n j, j ∈ anc ops n i → listed.getD j false = true := by
      intro n j hj
      cases n with
      | zero => simp [anc] at hj
      | succ n =>
        unfold anc at hj
        rw [ho] at hj
        obtain ⟨x, hx, hjx⟩ := aN.1 hj
        rcases aS.1 hjx with rfl | hjx
        · exact hdeps _ hx
        · exact aux n x (hdeps x hx) j hjx
     have hgo := hobl i _ ho V1 hH a w r (fun p hp hpd hj => hold p hp hpd fun j hjd => by
      cases hl : listed.getD j false with
      | false => rfl
      | true => have := aux _ j hl i (hj j hjd); rw [hnl] at this; cases this) fun j hj d hjd => hd j d (hanc _ j hj) hjd
     have hsome : ∃ d, ops[i].dst = some d := by
      simp only [gi, af] at hok
      have := ai.1 hok.1.1 ops[i] (by simp)
      exact cL.1 this
     obtain ⟨d, hdd⟩ := hsome
     have hid : bF ops i = some d := by simp [bF, ho, hdd]
     have hdm : d ∈ dX ops := List.mem_filterMap.2 ⟨ops[i], by simp, hdd⟩
     have hdn : d < st.n := av (ai.1 hn d hdm)
     have hleft : i ∈ leftOf ops listed := aL.2 ⟨h1, h2.1⟩
     have hcnt := o7 hs hleft
     have hnext : ∀ V2 v w', Agree st.ck.length V1 V2 → Rel Γ (bw ops st) V2 a w' → Φ i V2 v →
      Go.Sy.Fin P f R (.inRegion ops (Region.linearise.go .any ops fuel (t / (Region.ready .any ops listed).length) (listed.setIfInBounds i true) []) :: kk) (a.put ops[i].dst v) w' := by
      intro V2 v w' hH2 r2 hΦ
      rw [hdd]
      have hput : ∀ x, (a.put (some d) v).tmps.getD x undef = if x = d then v else a.tmps.getD x undef := fun x => jB _ _ _ _ (by rw [r2.size]; exact hdn)
      have hlist : ∀ x, (listed.setIfInBounds i true).getD x false = true → x = i ∨ listed.getD x false = true := by
       intro x hx
       by_cases e : x = i
       · exact .inl e
       · right
         rw [Array.getD_eq_getD_getElem?, Array.getElem?_setIfInBounds_ne (Ne.symm e)] at hx
         rw [Array.getD_eq_getD_getElem?]; exact hx
      have hlist2 : ∀ x, listed.getD x false = true → (listed.setIfInBounds i true).getD x false = true := by
       intro x hx
       by_cases e : x = i
       · subst e; rw [Array.getD_eq_getD_getElem?, Array.getElem?_setIfInBounds_self_of_lt (by omega)]; rfl
       · rw [Array.getD_eq_getD_getElem?, Array.getElem?_setIfInBounds_ne (Ne.symm e)]
         rw [Array.getD_eq_getD_getElem?] at hx; exact hx
      refine ih _ _ V2 (hH.trans hH2) (by rw [cj]; exact hs) (by omega) _ w' (ti r2 hdm v hdn) ?_ ?_ ?_
      · intro p hp hpd hj
        have hself : (listed.setIfInBounds i true).getD i false = true := by rw [Array.getD_eq_getD_getElem?, Array.getElem?_setIfInBounds_self_of_lt (by omega)]; rfl
        have hne : p.1 ≠ d := fun e => by have := hj i (by rw [hid, e]); rw [hself] at this; cases this
        have hso := hold p hp hpd fun j hjd => by
         cases hl : listed.getD j false with
         | false => rfl
         | true => have h5 := hlist2 j hl; rw [hj j hjd] at h5; cases h5
        obtain ⟨t', sv⟩ := p
        match sv, hpd, hso with
        | .x (.c (.pd q)), _, hso =>
          have hso' : PR V1.H q (a.tmps.getD t' undef) := hso
          show PR V2.H q ((a.put (some d) v).tmps.getD t' undef)
          rw [hput, if_neg hne]
          exact hso'.mono hH2.hle
      · intro x e hx hxe
        rw [hput]
        rcases hlist x hx with rfl | hx
        · rw [hid] at hxe
          simp only [aa] at hxe
          subst hxe
          rw [if_pos rfl]; exact hΦ
        · by_cases hed : e = d
          · subst hed
            have := DR hok hxe hid
            subst this
            rw [if_pos rfl]; exact hΦ
          · rw [if_neg hed]; exact hmono x V1 V2 _ hH2 (hd x e hx hxe)
      · intro x o' hx hxo j hj
        rcases hlist x hx with rfl | hx
        · rw [ho] at hxo
          simp only [aa] at hxo
          subst hxo
          exact hlist2 j (hdeps j hj)
        · exact hlist2 j (hcl x o' hx hxo j hj)
     rw [linearise_go_acc, List.reverse_singleton, List.singleton_append]
     by_cases hw : Region.wanted ops[i] (yielded ops a.tmps) = true
     · rcases hgo.1 hw with ⟨v, w', hr, V2, g1, g2, g3⟩ | ⟨g, args, w', hr, hc⟩
       · exact Go.Sy.Fin.op_value ho hw hr (hnext V2 v w' g1 (ll r hwf g1 g2) g3)
       · -- a call is entered in the world as it stands
         refine Go.Sy.Fin.op_call ho hw hr (hc.mono fun e w2 hq => ?_)
         obtain ⟨v, rfl, V2, g1, g2, g3⟩ := hq
         exact ⟨v, rfl, hnext V2 v w2 g1 (ll r hwf g1 g2) g3⟩
     · have hw' : Region.wanted ops[i] (yielded ops a.tmps) = false := by simpa using hw
       exact Go.Sy.Fin.op_unwanted ho hw' (hnext V1 undef w (Agree.refl _ _) r (hgo.2 hw'))
end
end Go.Ev

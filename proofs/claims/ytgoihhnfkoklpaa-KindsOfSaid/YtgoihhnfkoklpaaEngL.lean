/- An executor for function bodies of the model, part L: a region whose order is open, as one step. Conditions: each operation's own. -/
import Derived.Test.YtgoihhnfkoklpaaEngK
namespace Go.Sy
open Go.RowKit

/-- What is known of an operation's result: the very value; or what the prover says of it. -/
inductive FV where
  | sv (s : SV)
  | ex (Φ : Mem → Value → Prop)
def slotsOf (ops : Array Oper) (fs : List FV) (vs : Nat → Value) (useEx : Bool) : List Nat → List (Nat × SV)
  | [] => []
  | j :: r => match fs[j]?, dstOf ops j with
    | some (.sv s), some d => (d, s) :: slotsOf ops fs vs useEx r
    | some (.ex _), some d => bif useEx then (d, .c (.val (vs j))) :: slotsOf ops fs vs useEx r else slotsOf ops fs vs useEx r
    | _, _ => slotsOf ops fs vs useEx r
def withSlots (st : ST) (l : List (Nat × SV)) : ST := { st with fr := l ++ st.fr }
def notGrd : SV → Bool
  | .grd _ _ _ => false
  | _ => true
/-- What the prover says of an operation of hers: the very value, or a predicate. -/
inductive Ex where
  | val (v : Value)
  | pred (Φ : Mem → Value → Prop)
def Ex.says : Ex → Mem → Value → Prop
  | .val v => fun _ u => u = v
  | .pred Φ => Φ
def Ex.fs : Ex → FV
  | .val v => .sv (.c (.val v))
  | .pred Φ => .ex Φ
def exAt : List (Nat × Ex) → Nat → Option Ex
  | [], _ => none
  | e :: r, i => bif Nat.beq e.1 i then some e.2 else exAt r i
/-- which operation writes a slot -/
def writer (ops : Array Oper) (t : Nat) : Option Nat := (List.range ops.size).find? fun j => match dstOf ops j with | some d => Nat.beq d t | none => false
def native (P : Program) (tab : Tab) (st : ST) (op : Op) : Option (Option Prop × SV) :=
  match opVB P st none op with
  | some (p, s) => bif notGrd s then some (p, s) else none
  | none => match opC P tab st none op with
    | some (p, _, _, v) => some (p, .c (.val v))
    | none => none
def moved (ops : Array Oper) (fs : List FV) (i : Nat) (op : Op) : Option (Mem → Value → Prop) :=
  match op with
  | .move (.tmp t) | .assign (.tmp t) => match writer ops t with
    | some j => bif (anc ops ops.size i).any (Nat.beq j) then (match fs[j]? with | some (.ex Φ) => some Φ | _ => none) else none
    | none => none
  | _ => none
def flowRun (P : Program) (tab : Tab) (base : ST) (ops : Array Oper) (ex : List (Nat × Ex)) : List Oper → List FV → Option (List Prop × List FV)
  | [], fs => some ([], fs)
  | o :: r, fs =>
    bif o.guard.isNone then
      match exAt ex fs.length with
      | some x => flowRun P tab base ops ex r (fs ++ [x.fs])
      | none => match native P tab (withSlots base (slotsOf ops fs (fun _ => undef) false (anc ops ops.size fs.length))) o.op with
        | some (p, s) => match flowRun P tab base ops ex r (fs ++ [.sv s]) with
          | some (ps, fs') => some (match p with | some p => p :: ps | none => ps, fs')
          | none => none
        | none => match moved ops fs fs.length o.op with
          | some Φ => flowRun P tab base ops ex r (fs ++ [.ex Φ])
          | none => none
    else none
def flowGo (P : Program) (tab : Tab) (root : Code) (p : List Nat) (st : ST) (ex : List (Nat × Ex)) : Option (List Prop × List FV) :=
  flowRun P tab (flowBase (opsOf (sub root p)) st) (opsOf (sub root p)) ex (opsOf (sub root p)).toList []
def flowEnd (root : Code) (p : List Nat) (st : ST) (fs : List FV) (vs : Nat → Value) : ST :=
  withSlots (flowBase (opsOf (sub root p)) st) (slotsOf (opsOf (sub root p)) fs vs true (List.range (opsOf (sub root p)).size))
def flowAt (root : Code) (p : List Nat) (st : ST) (fs : List FV) (vs : Nat → Value) (i : Nat) : ST :=
  withSlots (flowBase (opsOf (sub root p)) st) (slotsOf (opsOf (sub root p)) fs vs true (anc (opsOf (sub root p)) (opsOf (sub root p)).size i))
def isDraw : Code → Bool
  | .region _ _ true => true
  | _ => false

section
variable {P : Program} {w0 : World} {H : Mem} {f : FuncId} {root : Code} {R : Ending → World → Prop} {st : ST} {p : List Nat} {k : List PI} {tab : Tab}
def FSden (σ : Nat → Nat) (ov : Nat → Value) (fs : List FV) (i : Nat) (H1 : Mem) (v : Value) : Prop :=
  match fs[i]? with
  | some (.sv s) => v = s.den σ ov ∧ notGrd s = true
  | some (.ex Φ) => Φ H1 v
  | none => False
theorem rel_slots {σ : Nat → Nat} {ov : Nat → Value} {a : Act} {w : World} {base : ST} {H1 : Mem} (r : Rel P w0 H1 base σ ov a w) {ops : Array Oper} {fs : List FV} (vs : Nat → Value) (useEx : Bool) {l : List Nat}
    (h : ∀ j ∈ l, ∀ d, dstOf ops j = some d → FSden σ ov fs j H1 (a.tmps.getD d undef) ∧ (useEx = true → ∀ Φ, fs[j]? = some (.ex Φ) → a.tmps.getD d undef = vs j)) :
    Rel P w0 H1 (withSlots base (slotsOf ops fs vs useEx l)) σ ov a w := by
  refine { size := r.size, defers := r.defers, slots := ?_, ext := r.ext, imm := r.imm, own := r.own, base := r.base, inj := r.inj }
  intro t sv hm0
  have aux : ∀ l : List Nat, (∀ j ∈ l, ∀ d, dstOf ops j = some d → FSden σ ov fs j H1 (a.tmps.getD d undef) ∧ (useEx = true → ∀ Φ, fs[j]? = some (.ex Φ) → a.tmps.getD d undef = vs j)) → (t, sv) ∈ slotsOf ops fs vs useEx l → SlotOk σ ov a t sv := by
    intro l
    induction l with
    | nil => intro _ hm; simp [slotsOf] at hm
    | cons j l ih =>
      intro h hm
      have ih' := ih (fun j hj => h j (List.mem_cons_of_mem _ hj))
      simp only [slotsOf] at hm
      split at hm
      · rename_i s d h1 h2
        rcases List.mem_cons.1 hm with hm | hm
        · simp only [Prod.mk.injEq] at hm
          obtain ⟨rfl, rfl⟩ := hm
          have := (h j List.mem_cons_self t h2).1
          unfold FSden at this
          rw [h1] at this
          exact slotOk_of_den (fun s b v e => by rw [e] at this; simp [notGrd] at this) this.1
        · exact ih' hm
      · rename_i Φ d h1 h2
        cases hu : useEx with
        | false => rw [hu] at hm ih'; exact ih' hm
        | true =>
          rw [hu] at hm ih'
          simp only [cond_true] at hm
          rcases List.mem_cons.1 hm with hm | hm
          · simp only [Prod.mk.injEq] at hm
            obtain ⟨rfl, rfl⟩ := hm
            exact (h j List.mem_cons_self t h2).2 hu Φ h1
          · exact ih' hm
      · exact ih' hm
  rcases List.mem_append.1 hm0 with hm | hm
  · exact aux l h hm
  · exact r.slots t sv hm

/-- Each entry of a run is a native operation's, the prover's, or a moved one of the prover's. -/
def EntryOk (P : Program) (tab : Tab) (base : ST) (ops : Array Oper) (ex : List (Nat × Ex)) (fs : List FV) (i : Nat) (o : Oper) : Prop :=
  o.guard = none ∧ match fs[i]? with
  | some (.sv s) => (∃ q, native P tab (withSlots base (slotsOf ops (fs.take i) (fun _ => undef) false (anc ops ops.size i))) o.op = some (q, s) ∧ Holds q) ∨ (∃ v, exAt ex i = some (.val v) ∧ s = .c (.val v))
  | some (.ex Φ) => exAt ex i = some (.pred Φ) ∨ (exAt ex i = none ∧ moved ops (fs.take i) i o.op = some Φ)
  | none => False
theorem flowRun_entries {base : ST} {ops : Array Oper} {ex : List (Nat × Ex)} : ∀ (l : List Oper) (fs0 : List FV) {ps : List Prop} {fs : List FV}, flowRun P tab base ops ex l fs0 = some (ps, fs) → (∀ q ∈ ps, q) →
    fs.length = fs0.length + l.length ∧ fs.take fs0.length = fs0 ∧ ∀ (j : Nat) o, l[j]? = some o → EntryOk P tab base ops ex fs (fs0.length + j) o
  | [], fs0, ps, fs, h, _ => by
    simp only [flowRun, Option.some.injEq, Prod.mk.injEq] at h
    obtain ⟨rfl, rfl⟩ := h
    exact ⟨by simp, by simp, fun j o hj => by simp at hj⟩
  | o :: l, fs0, ps, fs, h, hps => by
    have key : ∀ (e : FV) (ps' : List Prop), flowRun P tab base ops ex l (fs0 ++ [e]) = some (ps', fs) → (∀ q ∈ ps', q) → o.guard = none → (∀ fs2 : List FV, fs2[fs0.length]? = some e → fs2.take fs0.length = fs0 → EntryOk P tab base ops ex fs2 fs0.length o) →
        fs.length = fs0.length + (o :: l).length ∧ fs.take fs0.length = fs0 ∧ ∀ (j : Nat) o', (o :: l)[j]? = some o' → EntryOk P tab base ops ex fs (fs0.length + j) o' := by
      intro e ps' h' hps' hg hE
      obtain ⟨h1, h2, h3⟩ := flowRun_entries l (fs0 ++ [e]) h' hps'
      simp only [List.length_append, List.length_cons, List.length_nil] at h1 h2 h3
      have h4 : fs.take fs0.length = fs0 := by
        have := congrArg (List.take fs0.length) h2
        rw [List.take_take, Nat.min_eq_left (by omega)] at this
        simpa using this
      have h5 : fs[fs0.length]? = some e := by
        have := congrArg (fun l => l[fs0.length]?) h2
        simp only [List.getElem?_take] at this
        rw [if_pos (by omega)] at this
        simpa using this
      refine ⟨by simp only [List.length_cons]; omega, h4, fun j o' hj => ?_⟩
      cases j with
      | zero =>
        simp only [List.getElem?_cons_zero, Option.some.injEq] at hj
        subst hj
        exact hE fs h5 h4
      | succ j =>
        simp only [List.getElem?_cons_succ] at hj
        have := h3 j o' hj
        rw [show fs0.length + (0 + 1) + j = fs0.length + (j + 1) from by omega] at this
        exact this
    simp only [flowRun] at h
    cases hg : o.guard.isNone
    · rw [hg] at h; simp at h
    · rw [hg] at h
      simp only [cond_true] at h
      have hg' : o.guard = none := by simpa using hg
      split at h
      · rename_i x hex
        refine key _ ps h hps hg' fun fs2 g1 g2 => ⟨hg', ?_⟩
        rw [g1]
        cases x with
        | val v => exact .inr ⟨v, hex, rfl⟩
        | pred Φ => exact .inl hex
      · rename_i hex
        split at h
        · rename_i q s hn
          split at h
          · rename_i ps' fs' hr
            simp only [Option.some.injEq, Prod.mk.injEq] at h
            obtain ⟨rfl, rfl⟩ := h
            have hq : Holds q := by
              cases q with
              | none => trivial
              | some q => exact hps q List.mem_cons_self
            have hps' : ∀ x ∈ ps', x := by
              cases q with
              | none => exact hps
              | some q => exact fun x hx => hps x (List.mem_cons_of_mem _ hx)
            exact key _ ps' hr hps' hg' fun fs2 g1 g2 => ⟨hg', by rw [g1]; exact .inl ⟨q, by rw [g2]; exact hn, hq⟩⟩
          · simp at h
        · split at h
          · rename_i Φ hm
            exact key _ ps h hps hg' fun fs2 g1 g2 => ⟨hg', by rw [g1]; exact .inr ⟨hex, by rw [g2]; exact hm⟩⟩
          · simp at h

theorem slotsOf_take {ops : Array Oper} {fs : List FV} {vs : Nat → Value} {b : Bool} {i : Nat} : ∀ {l : List Nat}, (∀ j ∈ l, j < i) → slotsOf ops (fs.take i) vs b l = slotsOf ops fs vs b l
  | [], _ => rfl
  | j :: l, h => by
    have hj : j < i := h j List.mem_cons_self
    have ih := slotsOf_take (ops := ops) (fs := fs) (vs := vs) (b := b) (i := i) (l := l) fun x hx => h x (List.mem_cons_of_mem _ hx)
    simp only [slotsOf, List.getElem?_take, if_pos hj, ih]
theorem anc_lt {ops : Array Oper} (hok : flowOk ops = true) : ∀ (n i j : Nat), j ∈ anc ops n i → j < i
  | 0, i, j, h => by simp [anc] at h
  | n + 1, i, j, h => by
    unfold anc at h
    split at h
    · rename_i o ho
      obtain ⟨x, hx, hjx⟩ := List.mem_flatMap.1 h
      have hxi : x < i := by
        simp only [flowOk, Bool.and_eq_true] at hok
        have h1 := List.all_eq_true.1 hok.2 (o, i) (by rw [List.mem_zipIdx_iff_getElem?]; simpa using ho)
        exact Nat.le_of_ble_eq_true (List.all_eq_true.1 h1 x hx)
      rcases List.mem_cons.1 hjx with rfl | hjx
      · exact hxi
      · have := anc_lt hok n x j hjx; omega
    · cases h
theorem writer_dst {ops : Array Oper} {t j : Nat} (h : writer ops t = some j) : dstOf ops j = some t := by
  unfold writer at h
  have := List.find?_some h
  split at this
  · rename_i d hd
    rw [hd, Nat.eq_of_beq_eq_true this]
  · cases this
/-- What the prover owes for an operation of her own. -/
def ExDo (P : Program) (w0 : World) (ops : Array Oper) (base : ST) (fs : List FV) (H : Mem) (i : Nat) (Φ : Mem → Value → Prop) : Prop :=
  ∀ o, ops[i]? = some o → ∀ H1, HLe H H1 → ∀ vs : Nat → Value, (∀ j ∈ anc ops ops.size i, ∀ Ψ, fs[j]? = some (.ex Ψ) → Ψ H1 (vs j)) →
    ∀ σ ov a w, Rel P w0 H1 (withSlots base (slotsOf ops fs vs true (anc ops ops.size i))) σ ov a w → OpDo P o a w (Grows H1 w Φ)
def Mono (Φ : Mem → Value → Prop) : Prop := ∀ H1 H2 v, HLe H1 H2 → Φ H1 v → Φ H2 v

set_option maxHeartbeats 400000 in
theorem J.flow (ht : TabOk P tab) (hm : P.follows .mixedOrders = true) (hd : isDraw (sub root p) = true) (hok : (flowOk (opsOf (sub root p)) && (allDsts (opsOf (sub root p))).all (fun d => Nat.blt d st.n)) = true)
    (ex : List (Nat × Ex)) {ps : List Prop} {fs : List FV} (hrun : flowGo P tab root p st ex = some (ps, fs)) (hps : ∀ q ∈ ps, q)
    (hmono : ∀ e ∈ ex, Mono e.2.says) (hex : ∀ e ∈ ex, ExDo P w0 (opsOf (sub root p)) (flowBase (opsOf (sub root p)) st) fs H e.1 e.2.says)
    (hk : ∀ H1, HLe H H1 → ∀ vs : Nat → Value, (∀ (j : Nat) Ψ, fs[j]? = some (FV.ex Ψ) → Ψ H1 (vs j)) →
      J P f root R w0 H1 k (flowEnd root p st fs vs)) :
    J P f root R w0 H (.code p :: k) st := by
  intro σ ov a w r
  rw [Bool.and_eq_true] at hok
  unfold flowEnd at hk
  unfold flowGo at hrun
  generalize hops : opsOf (sub root p) = ops at *
  have hregion : ∃ id, sub root p = .region id ops true := by
    cases hc : sub root p with
    | region id ops' b =>
      rw [hc] at hd hops
      cases b with
      | true => exact ⟨id, by simp only [opsOf] at hops; rw [hops]⟩
      | false => simp [isDraw] at hd
    | _ => rw [hc] at hd; simp [isDraw] at hd
  obtain ⟨id, hc⟩ := hregion
  obtain ⟨hlen, _, hent⟩ := flowRun_entries ops.toList [] hrun hps
  simp only [List.length_nil, Nat.zero_add, Array.length_toList] at hlen hent
  have hexmem : ∀ i (Φ : Ex), exAt ex i = some Φ → ∃ e ∈ ex, e.1 = i ∧ e.2 = Φ := by
    intro i Φ h
    clear hrun hmono hex hent
    induction ex with
    | nil => simp [exAt] at h
    | cons e r ih =>
      simp only [exAt] at h
      cases hb : Nat.beq e.1 i
      · rw [hb] at h; obtain ⟨e', h1, h2⟩ := ih h; exact ⟨e', List.mem_cons_of_mem _ h1, h2⟩
      · rw [hb] at h
        simp only [cond_true, Option.some.injEq] at h
        exact ⟨e, List.mem_cons_self, Nat.eq_of_beq_eq_true hb, h⟩
  have hmonoAll : ∀ (n i : Nat), i ≤ n → ∀ Φ, fs[i]? = some (.ex Φ) → Mono Φ := by
    intro n
    induction n with
    | zero =>
      intro i hi Φ hΦ
      have hi2 : i < ops.size := by have := (List.getElem?_eq_some_iff.1 hΦ).1; omega
      have he := (hent i ops[i] (by simp [hi2])).2
      rw [hΦ] at he
      rcases he with he | ⟨_, he⟩
      · obtain ⟨e, h1, _, h3⟩ := hexmem i _ he; have := hmono e h1; rw [h3] at this; exact this
      · have : i = 0 := by omega
        subst this
        unfold moved at he
        split at he <;> first | (split at he; (cases hb : (anc ops ops.size 0).any (Nat.beq _) <;> rw [hb] at he <;> first | (simp at he; done) | (simp [List.take] at he; done)); simp at he) | (simp at he)
    | succ n ihn =>
      intro i hi Φ hΦ
      have hi2 : i < ops.size := by have := (List.getElem?_eq_some_iff.1 hΦ).1; omega
      have he := (hent i ops[i] (by simp [hi2])).2
      rw [hΦ] at he
      rcases he with he | ⟨_, he⟩
      · obtain ⟨e, h1, _, h3⟩ := hexmem i _ he; have := hmono e h1; rw [h3] at this; exact this
      · have hmv : ∃ j, j < i ∧ fs[j]? = some (.ex Φ) := by
          unfold moved at he
          have aux : ∀ t, (match writer ops t with | some j => bif (anc ops ops.size i).any (Nat.beq j) then (match (fs.take i)[j]? with | some (.ex Φ) => some Φ | _ => none) else none | none => none) = some Φ → ∃ j, j < i ∧ fs[j]? = some (.ex Φ) := by
            intro t he
            split at he
            · rename_i j hw
              cases hb : (anc ops ops.size i).any (Nat.beq j)
              · rw [hb] at he; simp at he
              · rw [hb] at he
                simp only [cond_true] at he
                split at he
                · rename_i Ψ hΨ
                  simp only [Option.some.injEq] at he; subst he
                  rw [List.getElem?_take] at hΨ
                  split at hΨ
                  · rename_i hji; exact ⟨j, hji, hΨ⟩
                  · cases hΨ
                · simp at he
            · simp at he
          split at he
          · exact aux _ he
          · exact aux _ he
          · simp at he
        obtain ⟨j, hj, hjΦ⟩ := hmv
        exact ihn j (by omega) Φ hjΦ
  have hFmono : ∀ i H1 H2 v, HLe H1 H2 → FSden σ ov fs i H1 v → FSden σ ov fs i H2 v := by
    intro i H1 H2 v hl h
    unfold FSden at h ⊢
    split
    · rename_i s hs; rw [hs] at h; exact h
    · rename_i Φ hΦ; rw [hΦ] at h; exact hmonoAll i i (Nat.le_refl _) Φ hΦ H1 H2 v hl h
    · rename_i hn; rw [hn] at h; exact h
  simp only [List.map_cons, PI.den, hc]
  refine Fin.region_draw fun t => ?_
  simp only [Region.schedule, hm, Bool.true_or, if_true]
  have rd : Rel P w0 H st σ ov a w.drew := r.after ⟨rfl, rfl, rfl, Nat.le_refl _, fun _ _ => rfl⟩
  have exGo : ∀ e ∈ ex, ∀ o, ops[e.1]? = some o → ∀ H1, HLe H H1 → ∀ a1 w1, Rel P w0 H1 (flowBase ops st) σ ov a1 w1 → (∀ j ∈ anc ops ops.size e.1, ∀ d, dstOf ops j = some d → FSden σ ov fs j H1 (a1.tmps.getD d undef)) → OpDo P o a1 w1 (Grows H1 w1 e.2.says) := by
    intro e h1 o ho H1 hH1 a1 w1 r1 hanc
    let vs : Nat → Value := fun j => a1.tmps.getD ((dstOf ops j).getD 0) undef
    have hvs : ∀ j d, dstOf ops j = some d → a1.tmps.getD d undef = vs j := by intro j d hd; show _ = a1.tmps.getD ((dstOf ops j).getD 0) undef; rw [hd]; rfl
    have r2 := rel_slots (ops := ops) (fs := fs) r1 vs true (l := anc ops ops.size e.1) (fun j hj d hd => ⟨hanc j hj d hd, fun _ _ _ => hvs j d hd⟩)
    exact hex e h1 o ho H1 hH1 vs (fun j hj Ψ hΨ => by
      have hj2 : j < ops.size := by have := (List.getElem?_eq_some_iff.1 hΨ).1; omega
      have hsome : ∃ d, dstOf ops j = some d := by
        have h5 := hok.1
        simp only [flowOk, Bool.and_eq_true] at h5
        have := List.all_eq_true.1 h5.1.1 ops[j] (by simp)
        obtain ⟨d, hd⟩ := Option.isSome_iff_exists.1 this
        exact ⟨d, by simp [dstOf, hj2, hd]⟩
      obtain ⟨d, hd⟩ := hsome
      have h6 := hanc j hj d hd
      unfold FSden at h6
      rw [hΨ, hvs j d hd] at h6
      exact h6) σ ov a1 w1 r2
  refine flow_go (H := H) (st := st) σ ov (FSden σ ov fs) hFmono hok.1 hok.2 ?_ ?_ ops.size t (Array.replicate ops.size false) H (HLe.refl _) (by simp) ?_ a w.drew (flowBase_rel rd ops) ?_ ?_
  · intro i o ho H1 hH1 a1 w1 r1 hanc
    have hi2 : i < ops.size := (Array.getElem?_eq_some_iff.1 ho).1
    obtain ⟨hg, he⟩ := hent i o (by rw [Array.getElem?_toList]; exact ho)
    have hwt : Region.wanted o (yielded ops a1.tmps) = true := wanted_none hg
    refine ⟨fun _ => ?_, fun hw => by rw [hwt] at hw; cases hw⟩
    cases hfi : fs[i]? with
    | none => rw [hfi] at he; exact he.elim
    | some e =>
      rw [hfi] at he
      cases e with
      | sv s =>
        rcases he with ⟨q, hn, hq⟩ | ⟨v, he, rfl⟩
        case inr =>
          obtain ⟨e, h1, h2, h3⟩ := hexmem i _ he
          subst h2
          have hFv : FSden σ ov fs e.1 = e.2.says := by
            funext H1 u; rw [h3]; unfold FSden; rw [hfi]; simp [Ex.says, SV.den, SC.den, notGrd]
          rw [hFv]
          exact exGo e h1 o ho H1 hH1 a1 w1 r1 hanc
        rw [slotsOf_take (fun j hj => anc_lt hok.1 _ _ _ hj)] at hn
        have r2 := rel_slots (ops := ops) (fs := fs) r1 (fun _ => undef) false (l := anc ops ops.size i) (fun j hj d hd => ⟨hanc j hj d hd, fun h => by cases h⟩)
        unfold native at hn
        split at hn
        · rename_i q' s' hv
          cases hng : notGrd s'
          · rw [hng] at hn; simp at hn
          · rw [hng] at hn
            simp only [cond_true, Option.some.injEq, Prod.mk.injEq] at hn
            obtain ⟨rfl, rfl⟩ := hn
            obtain ⟨h1, _⟩ := opVB_sound r2 (g := none) trivial hv hq
            exact .inl ⟨_, w1, h1, H1, HLe.refl _, r1.imm, Below.refl _ _, fun _ h => .inl h, by unfold FSden; rw [hfi]; exact ⟨rfl, hng⟩⟩
        · split at hn
          · rename_i q' g' vs' v' hcc
            simp only [Option.some.injEq, Prod.mk.injEq] at hn
            obtain ⟨rfl, rfl⟩ := hn
            obtain ⟨h1, h2⟩ := opC_sound ht r2 (g := none) trivial hcc hq
            refine .inr ⟨_, _, w1, h1, (h2 w1).mono fun e w2 hq2 => ⟨v', hq2.1, H1, HLe.refl _, fun b o hb => ?_, hq2.2, fun _ h => .inl h, by unfold FSden; rw [hfi]; exact ⟨rfl, rfl⟩⟩⟩
            have := r1.imm b o hb
            rw [hq2.2.block b (Array.getElem?_eq_some_iff.1 this).1]; exact this
          · simp at hn
      | ex Φ =>
        have hFΦ : FSden σ ov fs i = fun H1 v => Φ H1 v := by funext H1 v; unfold FSden; rw [hfi]
        rcases he with he | ⟨_, he⟩
        · obtain ⟨e, h1, h2, h3⟩ := hexmem i _ he
          subst h2
          have := exGo e h1 o ho H1 hH1 a1 w1 r1 hanc
          rw [h3] at this
          rw [hFΦ]
          exact this
        · -- a move of one of the prover's
          have aux : ∀ t, (match writer ops t with | some j => bif (anc ops ops.size i).any (Nat.beq j) then (match (fs.take i)[j]? with | some (.ex Φ) => some Φ | _ => none) else none | none => none) = some Φ → Φ H1 (a1.tmps.getD t undef) := by
            intro t he
            split at he
            · rename_i j hw
              cases hb : (anc ops ops.size i).any (Nat.beq j)
              · rw [hb] at he; simp at he
              · rw [hb] at he
                simp only [cond_true] at he
                split at he
                · rename_i Ψ hΨ
                  simp only [Option.some.injEq] at he; subst he
                  rw [List.getElem?_take] at hΨ
                  split at hΨ
                  · obtain ⟨x, hx, hxj⟩ := List.any_eq_true.1 hb
                    have hxj' := Nat.eq_of_beq_eq_true hxj
                    subst hxj'
                    have h6 := hanc j hx t (writer_dst hw)
                    unfold FSden at h6
                    rw [hΨ] at h6
                    exact h6
                  · cases hΨ
                · simp at he
            · simp at he
          obtain ⟨od, oop, oty, opos, oaft, og⟩ := o
          unfold moved at he
          simp only at he
          rw [hFΦ]
          split at he
          · exact .inl ⟨_, w1, rfl, H1, HLe.refl _, r1.imm, Below.refl _ _, fun _ h => .inl h, aux _ he⟩
          · exact .inl ⟨_, w1, rfl, H1, HLe.refl _, r1.imm, Below.refl _ _, fun _ h => .inl h, aux _ he⟩
          · simp at he
  · intro H1 hH1 a1 w1 r1 hall
    let vs : Nat → Value := fun j => a1.tmps.getD ((dstOf ops j).getD 0) undef
    have hvs : ∀ j d, dstOf ops j = some d → a1.tmps.getD d undef = vs j := by intro j d hd; show _ = a1.tmps.getD ((dstOf ops j).getD 0) undef; rw [hd]; rfl
    refine hk H1 hH1 vs (fun j Ψ hΨ => ?_) σ ov a1 w1 (rel_slots r1 vs true fun j _ d hd => ⟨hall j d hd, fun _ _ _ => hvs j d hd⟩)
    have hj2 : j < ops.size := by have := (List.getElem?_eq_some_iff.1 hΨ).1; omega
    have hsome : ∃ d, dstOf ops j = some d := by
      have h5 := hok.1
      simp only [flowOk, Bool.and_eq_true] at h5
      have := List.all_eq_true.1 h5.1.1 ops[j] (by simp)
      obtain ⟨d, hd⟩ := Option.isSome_iff_exists.1 this
      exact ⟨d, by simp [dstOf, hj2, hd]⟩
    obtain ⟨d, hd⟩ := hsome
    have h6 := hall j d hd
    unfold FSden at h6
    rw [hΨ, hvs j d hd] at h6
    exact h6
  · unfold leftOf
    refine Nat.le_trans (List.length_filter_le _ _) (by simp)
  · intro i d hi
    simp [Array.getD_eq_getD_getElem?, Array.getElem?_replicate] at hi
    split at hi <;> simp at hi
  · intro i o hi
    simp [Array.getD_eq_getD_getElem?, Array.getElem?_replicate] at hi
    split at hi <;> simp at hi
end
end Go.Sy

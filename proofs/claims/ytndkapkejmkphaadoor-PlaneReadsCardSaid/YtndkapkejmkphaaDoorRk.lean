/- An executor for function bodies of the model over data, part PK: contracts, and calls by them. Conditions: those that a contract tells. -/
import Derived.Lib.ItoaNum
import Derived.Lib.DecodeN
import Derived.Test.YtndkapkejmkphaaDoorPJ
namespace Go.Ev
open Go.RowKit

/-! ### contracts -/
def entry (ck : List Chunk) (V : Vn) (w : World) : Ctx := { w0 := w, M := fun b => ∃ (i : Nat) (c : Chunk), ck[i]? = some c ∧ c.blk V i = some b, H0 := V.H, m := ck.length, σ0 := V.σ, ov0 := V.ov }
def SV.R (V : Vn) : SV → Value → Prop
  | .x s, v => s.R V v
  | .tup l, v => ∃ us, v = .tuple us.toArray ∧ All2 (SX.R V) l us
  | .grd _ _ _, _ => False
def Post (Γ : Ctx) (ret : SV) (ck' : List Chunk) (e : Ending) (w' : World) : Prop := ∃ v V', e = .returned v ∧ ret.R V' v ∧ WOk Γ ck' V' w'
/-! ### what the program's own variables hold -/
def MVar (P : Program) (H : Mem) (name : String) (cs : Array Value) : Prop := ∃ g e fr, P.globalNamed name = some g ∧ H g = some (.cells cs e fr)
theorem MVar.mono {P : Program} {H H' : Mem} (h : HLe H H') {name : String} {cs : Array Value} : MVar P H name cs → MVar P H' name cs
  | ⟨g, e, fr, h1, h2⟩ => ⟨g, e, fr, h1, h _ _ h2⟩
theorem MVar.world {P : Program} {H : Mem} {w : World} (h : HIn H w) {name : String} {cs : Array Value} : MVar P H name cs → w.var? P name = some cs
  | ⟨g, e, fr, h1, h2⟩ => by simp only [World.var?, h1, Option.bind_some, h _ _ h2]
def MErr (P : Program) (H : Mem) (name : String) : Prop := (P.globalNamed name).isSome = true → ∃ tp p, MVar P H name #[.iface tp p]
def MInt (P : Program) (H : Mem) (name : String) : Prop := (P.globalNamed name).isSome = true → ∃ g cs e fr m, P.globalNamed name = some g ∧ H g = some (.cells cs e fr) ∧ cs[0]? = some (.int .i64 m)
theorem MInt.mono {P : Program} {H H' : Mem} (h : HLe H H') {name : String} (t : MInt P H name) : MInt P H' name := fun g => by
  obtain ⟨g, cs, e, fr, m, h1, h2, h3⟩ := t g
  exact ⟨g, cs, e, fr, m, h1, h _ _ h2, h3⟩
def MU8 (P : Program) (H : Mem) : Prop := (P.globalNamed "unicode/utf8.first").isSome = true → ∃ g3 cs e fr g4 cs' e' fr', P.globalNamed "unicode/utf8.first" = some g3 ∧ H g3 = some (.cells cs e fr) ∧ P.globalNamed "unicode/utf8.acceptRanges" = some g4 ∧ H g4 = some (.cells cs' e' fr') ∧ (∀ c, c < 256 → cs[c]? = some (.int .u8 (Lib.firstT c))) ∧ (∀ i, i < 16 → cs'[2 * i]? = some (.int .u8 (Lib.accLo i)) ∧ cs'[2 * i + 1]? = some (.int .u8 (Lib.accHi i)))
theorem MU8.mono {P : Program} {H H' : Mem} (h : HLe H H') (t : MU8 P H) : MU8 P H' := fun g => by
  obtain ⟨g3, cs, e, fr, g4, cs', e', fr', h1, h2, h3, h4, h5⟩ := t g
  exact ⟨g3, cs, e, fr, g4, cs', e', fr', h1, h _ _ h2, h3, h _ _ h4, h5⟩
def Tabs (P : Program) (H : Mem) : Prop :=
  ((P.globalNamed "internal/strconv.uint64pow10").isSome = true → MVar P H "internal/strconv.uint64pow10" (Lib.pow10Tab.map fun z => Value.int .u64 z).toArray) ∧ MErr P H "strconv.ErrSyntax" ∧ MErr P H "strconv.ErrRange" ∧ MInt P H "internal/bytealg.MaxLen" ∧ MU8 P H
theorem Tabs.mono {P : Program} {H H' : Mem} (t : Tabs P H) (h : HLe H H') : Tabs P H' :=
  ⟨fun g => (t.1 g).mono h, fun g => (t.2.1 g).imp fun _ ⟨a, q⟩ => ⟨a, q.mono h⟩, fun g => (t.2.2.1 g).imp fun _ ⟨a, q⟩ => ⟨a, q.mono h⟩, t.2.2.2.1.mono h, t.2.2.2.2.mono h⟩
def Does (P : Program) (f : FuncId) (args : List SX) (ck : List Chunk) (ret : SV) (ck' : List Chunk) : Prop :=
  ∀ (w : World) (V : Vn) (vs : List Value), WOk (entry ck V w) ck V w → Tabs P V.H → All2 (SX.R V) args vs → Calls P f vs.toArray w (Post (entry ck V w) ret ck')
abbrev Tab := List (Nat × (List SX → List Chunk → Option (Option Prop × SV × List Chunk)))
def tabAt : Tab → Nat → List SX → List Chunk → Option (Option Prop × SV × List Chunk)
  | [], _, _, _ => none
  | e :: r, f, vs, ck => bif Nat.beq e.1 f then (match e.2 vs ck with | some x => some x | none => tabAt r f vs ck) else tabAt r f vs ck
def TabOk (P : Program) (tab : Tab) : Prop := ∀ e ∈ tab, ∀ vs ck p ret ck', e.2 vs ck = some (p, ret, ck') → Holds p → Does P e.1 vs ck ret ck'
structure TOk (P : Program) (tab : Tab) (Γ : Ctx) : Prop where
  ok : TabOk P tab
  tabs : Tabs P Γ.H0
theorem TabOk.nil {P : Program} : TabOk P [] := by intro e he; simp at he
theorem TabOk.cons {P : Program} {g : Nat} {m : List SX → List Chunk → Option (Option Prop × SV × List Chunk)} {tab : Tab} (h : ∀ vs ck p ret ck', m vs ck = some (p, ret, ck') → Holds p → Does P g vs ck ret ck') (ht : TabOk P tab) : TabOk P ((g, m) :: tab) := by
  intro e he
  rcases List.mem_cons.1 he with rfl | he
  · exact h
  · exact ht e he
theorem TabOk.append {P : Program} {t1 t2 : Tab} (h1 : TabOk P t1) (h2 : TabOk P t2) : TabOk P (t1 ++ t2) := by
  intro e he
  rcases List.mem_append.1 he with he | he
  · exact h1 e he
  · exact h2 e he
theorem tabAt_mem {P : Program} {tab : Tab} (ht : TabOk P tab) {f : Nat} {vs : List SX} {ck : List Chunk} {p : Option Prop} {ret : SV} {ck' : List Chunk} (h : tabAt tab f vs ck = some (p, ret, ck')) (hp : Holds p) : Does P f vs ck ret ck' := by
  induction tab with
  | nil => simp [tabAt] at h
  | cons e r ih =>
    have ih' := ih (fun x hx => ht x (List.mem_cons_of_mem _ hx))
    simp only [tabAt] at h
    cases hb : Nat.beq e.1 f
    · rw [hb] at h; exact ih' h
    · rw [hb] at h
      simp only [cond_true] at h
      split at h
      · rename_i x hx
        simp only [Option.some.injEq] at h
        subst h
        rw [← Nat.eq_of_beq_eq_true hb]
        exact ht e List.mem_cons_self _ _ _ _ _ hx hp
      · exact ih' h
def callOk (P : Program) (f : Nat) : Bool := match P.funcs[f]? with
  | some fn => !(fn.name == "runtime.NumGoroutine") && fn.body.isSome
  | none => false

/-! ### back from a call -/
def back (m : List Nat) (n j : Nat) : Nat := match m[j]? with
  | some i => i
  | none => n + (j - m.length)
def putBack : List Chunk → List Nat → List Chunk → List Chunk
  | ck, i :: m, c :: cs => putBack (ck.set i c) m cs
  | ck, _, _ => ck
theorem putBack_length : ∀ (m : List Nat) (ck cs : List Chunk), (putBack ck m cs).length = ck.length
  | [], ck, cs => by cases cs <;> rfl
  | i :: m, ck, [] => rfl
  | i :: m, ck, c :: cs => by simp only [putBack]; rw [putBack_length m, List.length_set]
theorem putBack_get : ∀ (m : List Nat) (ck cs : List Chunk), (∀ (i j : Nat) x, m[i]? = some x → m[j]? = some x → i = j) → m.length ≤ cs.length → ∀ (i : Nat) c, (putBack ck m cs)[i]? = some c →
    (∃ j : Nat, m[j]? = some i ∧ cs[j]? = some c) ∨ ((∀ j : Nat, m[j]? ≠ some i) ∧ ck[i]? = some c)
  | [], ck, cs, _, _, i, c, h => by
    have : putBack ck [] cs = ck := by cases cs <;> rfl
    rw [this] at h
    exact .inr ⟨fun j => by simp, h⟩
  | x :: m, ck, [], _, hl, i, c, h => by simp at hl
  | x :: m, ck, d :: cs, hi, hl, i, c, h => by
    simp only [putBack] at h
    rcases putBack_get m _ cs (fun a b y ha hb => by have := hi (a + 1) (b + 1) y (by simpa using ha) (by simpa using hb); omega) (by simpa using hl) i c h with ⟨j, h1, h2⟩ | ⟨h1, h2⟩
    · exact .inl ⟨j + 1, by simpa using h1, by simpa using h2⟩
    · by_cases hx : x = i
      · subst hx
        have : x < ck.length := by have := (List.getElem?_eq_some_iff.1 h2).1; simpa using this
        rw [List.getElem?_set_self this] at h2
        exact .inl ⟨0, rfl, h2⟩
      · rw [List.getElem?_set_ne hx] at h2
        refine .inr ⟨fun j => ?_, h2⟩
        cases j with
        | zero => simpa using hx
        | succ j => simpa using h1 j
section
variable {Γ : Ctx} {ck : List Chunk} {V : Vn} {w : World}
theorem WOk.lend (r : WOk Γ ck V w) {m : List Nat} {ck0 : List Chunk} (hp : pickCk ck m = some ck0) (hin : within m (ck0.flatMap Chunk.refs) = true) (hm : incr m = true) :
    WOk (entry (ck0.map (Chunk.map fun i => idxIn i m 0)) (subV m V) w) (ck0.map (Chunk.map fun i => idxIn i m 0)) (subV m V) w := by
  have hpo := pick_own (V := V) (w := w) r.own hp hin hm
  refine { ext := Fr.refl _ _, imm := r.imm, hle := HLe.refl _, frz := fun k hk => .inl hk, agr := fun i _ => ⟨rfl, rfl⟩, own := fun j c hc => (hpo j c hc).1, base := ?_, inj := ?_ }
  · intro j c b hc hb
    refine ⟨.inr ⟨j, c, hc, hb⟩, ?_⟩
    obtain ⟨_, i, c0, h1, h2, h3⟩ := hpo j c hc
    rw [h3] at hb
    exact (r.base i c0 b h2 hb).2
  · intro j k c d b hc hd hb1 hb2
    obtain ⟨_, i, c0, h5, h6, h7⟩ := hpo j c hc
    obtain ⟨_, i', d0, g5, g6, g7⟩ := hpo k d hd
    rw [h7] at hb1
    rw [g7] at hb2
    have := r.inj i i' c0 d0 b h6 g6 hb1 hb2
    subst this
    exact incr_inj hm j k i h5 g5
theorem WOk.back (r : WOk Γ ck V w) (hwf : ckWf ck = true) (hΓ : Γ.m ≤ ck.length) {m : List Nat} {ck0 : List Chunk} (hp : pickCk ck m = some ck0) (hin : within m (ck0.flatMap Chunk.refs) = true) (hm : incr m = true)
    {ck2 : List Chunk} {V2 : Vn} {w2 : World} (r2 : WOk (entry (ck0.map (Chunk.map fun i => idxIn i m 0)) (subV m V) w) ck2 V2 w2) (hl : m.length ≤ ck2.length) :
    ∃ V3, Agree ck.length V V3 ∧ (∀ s, Turned (back m ck.length) V2 V3 s) ∧ WOk Γ (putBack ck m (ck2.map (Chunk.map (back m ck.length))) ++ (ck2.drop m.length).map (Chunk.map (back m ck.length))) V3 w2 := by
  have hpo := pick_own (V := V) (w := w) r.own hp hin hm
  have hpk := pickCk_get hp
  have hmlt : ∀ (j i : Nat), m[j]? = some i → i < ck.length ∧ ∃ c, ck[i]? = some c ∧ ck0[j]? = some c := by
    intro j i hj
    have hjl : j < ck0.length := by rw [hpk.1]; exact (List.getElem?_eq_some_iff.1 hj).1
    obtain ⟨i', h1, h2⟩ := hpk.2 j _ (List.getElem?_eq_getElem hjl)
    rw [hj] at h1
    simp only [Option.some.injEq] at h1
    subst h1
    exact ⟨(List.getElem?_eq_some_iff.1 h2).1, _, h2, List.getElem?_eq_getElem hjl⟩
  let V3 : Vn := ⟨V2.H, fun i => if i < ck.length then V.σ i else V2.σ (m.length + (i - ck.length)), fun i => if i < ck.length then V.ov i else V2.ov (m.length + (i - ck.length))⟩
  have hag : Agree ck.length V V3 := ⟨r2.hle, fun i hi => ⟨if_pos hi, if_pos hi⟩⟩
  have hcm : (ck0.map (Chunk.map fun i => idxIn i m 0)).length = m.length := by rw [List.length_map, hpk.1]
  have hback : ∀ j, V3.σ (Ev.back m ck.length j) = V2.σ j ∧ V3.ov (Ev.back m ck.length j) = V2.ov j := by
    intro j
    unfold Ev.back
    cases hj : m[j]? with
    | some i =>
      have hi := (hmlt j i hj).1
      have hjl : j < m.length := (List.getElem?_eq_some_iff.1 hj).1
      have h1 := r2.agr j (by show j < (ck0.map (Chunk.map fun i => idxIn i m 0)).length; rw [hcm]; exact hjl)
      have hg : m.getD j 0 = i := by simp [List.getD_eq_getElem?_getD, hj]
      have e1 : V2.σ j = V.σ i := by rw [h1.1]; show V.σ (m.getD j 0) = _; rw [hg]
      have e2 : V2.ov j = V.ov i := by rw [h1.2]; show V.ov (m.getD j 0) = _; rw [hg]
      simp only [V3, if_pos hi, e1, e2, and_self]
    | none =>
      have hjl : m.length ≤ j := by simpa using hj
      have h2 : ¬ ck.length + (j - m.length) < ck.length := by omega
      have h3 : m.length + (ck.length + (j - m.length) - ck.length) = j := by omega
      simp only [V3, if_neg h2, h3, and_self]
  have hT : ∀ s, Turned (Ev.back m ck.length) V2 V3 s := fun s => ⟨HLe.refl _, fun j _ => hback j⟩
  have hM : ∀ b, (entry (ck0.map (Chunk.map fun i => idxIn i m 0)) (subV m V) w).M b → ∃ (j i : Nat) (c : Chunk), m[j]? = some i ∧ ck[i]? = some c ∧ c.blk V i = some b := by
    rintro b ⟨j, c, hc, hb⟩
    obtain ⟨_, i, c0, h1, h2, h3⟩ := hpo j c hc
    rw [h3] at hb
    exact ⟨j, i, c0, h1, h2, hb⟩
  have hfree : ∀ (i : Nat) (c : Chunk) (b : Nat), (∀ j : Nat, m[j]? ≠ some i) → ck[i]? = some c → c.blk V i = some b → ¬ (entry (ck0.map (Chunk.map fun i => idxIn i m 0)) (subV m V) w).M b := by
    intro i c b hn hc hb hMb
    obtain ⟨j, i', c', h1, h2, h3⟩ := hM b hMb
    have := r.inj i i' c c' b hc h2 hb h3
    subst this
    exact hn j h1
  have hold : ∀ (i : Nat) (c : Chunk), (∀ j : Nat, m[j]? ≠ some i) → ck[i]? = some c → c.holds V3 w2 i ∧ c.blk V3 i = c.blk V i := by
    intro i c hn hc
    have hi := ck_lt hwf hc
    refine ⟨Chunk.holds_kept (Chunk.holds_agree hag hi.1 hi.2 (r.own i c hc)) fun b hb => ?_, Chunk.blk_agree hag hi.1 c⟩
    rw [Chunk.blk_agree hag hi.1] at hb
    exact r2.ext.block b (Chunk.blk_lt (r.own i c hc) hb) (hfree i c b hn hc hb)
  have hnew : ∀ (j : Nat) (c : Chunk), ck2[j]? = some c → (c.map (Ev.back m ck.length)).holds V3 w2 (Ev.back m ck.length j) ∧ (c.map (Ev.back m ck.length)).blk V3 (Ev.back m ck.length j) = c.blk V2 j :=
    fun j c hc => ⟨Chunk.holds_map (hT _) (r2.own j c hc), Chunk.blk_map (hT _)⟩
  have hbackd : ∀ k, Ev.back m ck.length (m.length + k) = ck.length + k := by
    intro k; unfold Ev.back
    rw [List.getElem?_eq_none (by omega)]
    simp only; omega
  have hget : ∀ (i : Nat) (c : Chunk), (putBack ck m (ck2.map (Chunk.map (Ev.back m ck.length))) ++ (ck2.drop m.length).map (Chunk.map (Ev.back m ck.length)))[i]? = some c →
      (∃ (j : Nat) (c2 : Chunk), ck2[j]? = some c2 ∧ i = Ev.back m ck.length j ∧ c = c2.map (Ev.back m ck.length)) ∨ ((∀ j : Nat, m[j]? ≠ some i) ∧ ck[i]? = some c) := by
    intro i c hc
    by_cases hi : i < ck.length
    · rw [List.getElem?_append_left (by rw [putBack_length]; exact hi)] at hc
      rcases putBack_get m ck _ (incr_inj hm) (by rw [List.length_map]; exact hl) i c hc with ⟨j, h1, h2⟩ | h
      · rw [List.getElem?_map, Option.map_eq_some_iff] at h2
        obtain ⟨c2, h3, rfl⟩ := h2
        exact .inl ⟨j, c2, h3, by unfold Ev.back; rw [h1], rfl⟩
      · exact .inr h
    · rw [List.getElem?_append_right (by rw [putBack_length]; omega), putBack_length, List.getElem?_map, Option.map_eq_some_iff] at hc
      obtain ⟨c2, h3, rfl⟩ := hc
      rw [List.getElem?_drop] at h3
      exact .inl ⟨_, c2, h3, by rw [hbackd]; omega, rfl⟩
  have hnb : ∀ (j : Nat) (c : Chunk) (b : Nat), ck2[j]? = some c → c.blk V2 j = some b → (w.heap.size ≤ b ∨ (entry (ck0.map (Chunk.map fun i => idxIn i m 0)) (subV m V) w).M b) ∧ V2.H b = none := fun j c b hc hb => r2.base j c b hc hb
  refine ⟨V3, hag, hT, { ext := ?_, imm := r2.imm, hle := r.hle.trans r2.hle, frz := ?_, agr := ?_, own := ?_, base := ?_, inj := ?_ }⟩
  · refine ⟨r2.ext.os.trans r.ext.os, r2.ext.tape.trans r.ext.tape, r2.ext.output.trans r.ext.output, Nat.le_trans r.ext.size r2.ext.size, fun k hk hn => ?_⟩
    rw [← r.ext.block k hk hn]
    refine r2.ext.block k (Nat.lt_of_lt_of_le hk r.ext.size) fun hMk => ?_
    obtain ⟨j, i, c, h1, h2, h3⟩ := hM k hMk
    rcases (r.base i c k h2 h3).1 with h | h
    · omega
    · exact hn h
  · intro k hk
    rcases r2.frz k hk with h | h | h
    · exact r.frz k h
    · exact .inr (.inl (Nat.le_trans r.ext.size h))
    · obtain ⟨j, i, c, h1, h2, h3⟩ := hM k h
      exact .inr (r.base i c k h2 h3).1
  · intro i hi
    have h1 := hag.same i (by omega)
    rw [h1.1, h1.2]; exact r.agr i hi
  · intro i c hc
    rcases hget i c hc with ⟨j, c2, h1, rfl, rfl⟩ | ⟨h1, h2⟩
    · exact (hnew j c2 h1).1
    · exact (hold i c h1 h2).1
  · intro i c b hc hb
    rcases hget i c hc with ⟨j, c2, h1, rfl, rfl⟩ | ⟨h1, h2⟩
    · rw [(hnew j c2 h1).2] at hb
      obtain ⟨h3, h4⟩ := hnb j c2 b h1 hb
      refine ⟨?_, h4⟩
      rcases h3 with h3 | h3
      · exact .inl (Nat.le_trans r.ext.size h3)
      · obtain ⟨j', i', c', g1, g2, g3⟩ := hM b h3
        exact (r.base i' c' b g2 g3).1
    · rw [(hold i c h1 h2).2] at hb
      have h3 := r.base i c b h2 hb
      refine ⟨h3.1, ?_⟩
      cases hH : V2.H b with
      | none => rfl
      | some x =>
        exfalso
        rcases r2.frz b (by rw [hH]; simp) with h | h | h
        · exact h h3.2
        · have h' : w.heap.size ≤ b := h; have := Chunk.blk_lt (r.own i c h2) hb; omega
        · exact hfree i c b h1 h2 hb h
  · intro i k c d b hc hd hb1 hb2
    rcases hget i c hc with ⟨j, c2, h1, rfl, rfl⟩ | ⟨h1, h2⟩ <;> rcases hget k d hd with ⟨j', d2, g1, rfl, rfl⟩ | ⟨g1, g2⟩
    · rw [(hnew j c2 h1).2] at hb1
      rw [(hnew j' d2 g1).2] at hb2
      rw [r2.inj j j' c2 d2 b h1 g1 hb1 hb2]
    · rw [(hnew j c2 h1).2] at hb1
      rw [(hold k d g1 g2).2] at hb2
      exfalso
      rcases (hnb j c2 b h1 hb1).1 with h | h
      · have := Chunk.blk_lt (r.own k d g2) hb2; omega
      · exact hfree k d b g1 g2 hb2 h
    · rw [(hold i c h1 h2).2] at hb1
      rw [(hnew j' d2 g1).2] at hb2
      exfalso
      rcases (hnb j' d2 b g1 hb2).1 with h | h
      · have := Chunk.blk_lt (r.own i c h2) hb1; omega
      · exact hfree i c b h1 h2 hb1 h
    · rw [(hold i c h1 h2).2] at hb1
      rw [(hold k d g1 g2).2] at hb2
      exact r.inj i k c d b h2 g2 hb1 hb2
end
end Go.Ev

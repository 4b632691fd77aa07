/- An executor for function bodies of the model over data, part PF: the call's own blocks: made, written, given up, put into memory that nobody writes. Conditions: none. -/
import Derived.Test.YtndkapkejmkphaaDoorPE
namespace Go.Ev
open Go.RowKit

/-! ### references stay within the chunks that there are -/
def RC.lt (n : Nat) : RC → Bool
  | .pd _ => true
  | .loc i _ => Nat.blt i n
def SC.lt (n : Nat) : SC → Bool
  | .pd _ => true
  | .loc i _ => Nat.blt i n
  | .own i => Nat.blt i n
  | .oat i _ _ _ => Nat.blt i n
  | .fn _ a b => a.all (RC.lt n) && b.all (RC.lt n)
def SX.lt (n : Nat) : SX → Bool
  | .c s => s.lt n
  | .agg cs => cs.all (SC.lt n)
def SV.lt (n : Nat) : SV → Bool
  | .x s => s.lt n
  | .tup l => l.all (SX.lt n)
  | .grd _ _ v => v.lt n
def Ob.lt (n : Nat) : Ob → Bool
  | .it j _ _ => Nat.blt j n
  | _ => true
def Chunk.lt (n : Nat) : Chunk → Bool
  | .obj o => o.lt n
  | .cells cs _ => cs.all (SC.lt n)
  | _ => true
def ckWf (ck : List Chunk) : Bool := ck.all (Chunk.lt ck.length)
def ST.wf (st : ST) : Bool := st.fr.all (fun p => p.2.lt st.ck.length) && ckWf st.ck
structure Agree (n : Nat) (V V' : Vn) : Prop where
  hle : HLe V.H V'.H
  same : ∀ i, i < n → V'.σ i = V.σ i ∧ V'.ov i = V.ov i
theorem Agree.refl (n : Nat) (V : Vn) : Agree n V V := ⟨HLe.refl _, fun _ _ => ⟨rfl, rfl⟩⟩
section
variable {n : Nat} {V V' : Vn}
theorem RC.R_agree (h : Agree n V V') {s : RC} (hs : s.lt n = true) {u : Value} (hr : s.R V u) : s.R V' u := by
  cases s with
  | pd p => exact PR.mono h.hle hr
  | loc i o => simp [RC.lt] at hs; show u = _; rw [(h.same i hs).1]; exact hr
theorem rcs_agree (h : Agree n V V') {l : List RC} (hs : l.all (RC.lt n) = true) {us : List Value} (hr : All2 (RC.R V) l us) : All2 (RC.R V') l us :=
  hr.mono fun a b ha hab => RC.R_agree h (List.all_eq_true.1 hs a ha) hab
theorem SC.R_agree (h : Agree n V V') {s : SC} (hs : s.lt n = true) {u : Value} (hr : s.R V u) : s.R V' u := by
  cases s with
  | pd p => exact PR.mono h.hle hr
  | loc i o => simp [SC.lt] at hs; show u = _; rw [(h.same i hs).1]; exact hr
  | own i => simp [SC.lt] at hs; show u = _; rw [(h.same i hs).2]; exact hr
  | oat i j sz o => simp [SC.lt] at hs; show u = _; rw [(h.same i hs).1]; exact hr
  | fn f x y =>
    simp only [SC.lt, Bool.and_eq_true] at hs
    obtain ⟨ua, ub, e, h1, h2⟩ := hr
    exact ⟨ua, ub, e, rcs_agree h hs.1 h1, rcs_agree h hs.2 h2⟩
theorem scs_agree (h : Agree n V V') {l : List SC} (hs : l.all (SC.lt n) = true) {us : List Value} (hr : All2 (SC.R V) l us) : All2 (SC.R V') l us :=
  hr.mono fun a b ha hab => SC.R_agree h (List.all_eq_true.1 hs a ha) hab
theorem SX.R_agree (h : Agree n V V') {s : SX} (hs : s.lt n = true) {u : Value} (hr : s.R V u) : s.R V' u := by
  cases s with
  | c s => exact SC.R_agree h hs hr
  | agg cs => obtain ⟨us, e, h1⟩ := hr; exact ⟨us, e, scs_agree h hs h1⟩
theorem SlotOk.agree (h : Agree n V V') {a : Act} {t : Nat} {sv : SV} (hs : sv.lt n = true) (hk : SlotOk V a t sv) : SlotOk V' a t sv := by
  cases sv with
  | x s => exact SX.R_agree h hs hk
  | tup l => obtain ⟨us, e, h1⟩ := hk; exact ⟨us, e, h1.mono fun a b ha hab => SX.R_agree h (List.all_eq_true.1 hs a ha) hab⟩
  | grd s b v => exact ⟨fun hb => SX.R_agree h hs (hk.1 hb), hk.2⟩
theorem Ob.mem_agree (h : Agree n V V') {o : Ob} (hs : o.lt n = true) : o.mem V' = o.mem V := by
  cases o with
  | set => rfl
  | it j d c => simp [Ob.lt] at hs; simp [Ob.mem, (h.same j hs).1]
theorem Chunk.holds_agree (h : Agree n V V') {w : World} {i : Nat} (hi : i < n) {c : Chunk} (hs : c.lt n = true) (hk : c.holds V w i) : c.holds V' w i := by
  cases c with
  | dead => trivial
  | cells cs e =>
    obtain ⟨us, h1, h2⟩ := hk
    exact ⟨us, by rw [(h.same i hi).1]; exact h1, scs_agree h hs h2⟩
  | own e t l =>
    obtain ⟨xs, h1, h2, h3⟩ := hk
    exact ⟨xs, by rw [(h.same i hi).2]; exact h1, h2.mono fun _ _ _ hp => hp.mono h.hle, by rw [(h.same i hi).2, (h.same i hi).1]; exact h3⟩
  | obj o => exact ⟨by rw [(h.same i hi).1, Ob.mem_agree h hs]; exact hk.1, by rw [(h.same i hi).1, (h.same i hi).2]; exact hk.2⟩
theorem Chunk.blk_agree (h : Agree n V V') {i : Nat} (hi : i < n) (c : Chunk) : c.blk V' i = c.blk V i := by
  cases c with
  | dead => rfl
  | cells cs e => simp [Chunk.blk, (h.same i hi).1]
  | own e t l => simp [Chunk.blk, (h.same i hi).2]
  | obj o => simp [Chunk.blk, (h.same i hi).1]
theorem ck_lt {ck : List Chunk} (hwf : ckWf ck = true) {i : Nat} {c : Chunk} (hc : ck[i]? = some c) : i < ck.length ∧ c.lt ck.length = true :=
  ⟨(List.getElem?_eq_some_iff.1 hc).1, List.all_eq_true.1 hwf c (List.mem_of_getElem? hc)⟩
theorem Chunk.blk_lt {i b : Nat} {c : Chunk} {w : World} (hk : c.holds V w i) (hb : c.blk V i = some b) : b < w.heap.size := by
  cases c with
  | dead => simp [Chunk.blk] at hb
  | cells cs e =>
    simp only [Chunk.blk, Option.some.injEq] at hb
    subst hb
    obtain ⟨us, h1, _⟩ := hk
    exact (Array.getElem?_eq_some_iff.1 h1).1
  | own e t l => obtain ⟨xs, h1, _⟩ := hk; exact (World.ownsRow.lt h1 b hb).2
  | obj o =>
    simp only [Chunk.blk, Option.some.injEq] at hb
    subst hb
    exact (Array.getElem?_eq_some_iff.1 hk.1).1
theorem Chunk.holds_kept {i : Nat} {c : Chunk} {w w' : World} (hk : c.holds V w i) (hb : ∀ b, c.blk V i = some b → w'.heap[b]? = w.heap[b]?) : c.holds V w' i := by
  cases c with
  | dead => trivial
  | cells cs e =>
    obtain ⟨us, h1, h2⟩ := hk
    exact ⟨us, by rw [hb _ rfl]; exact h1, h2⟩
  | own e t l =>
    obtain ⟨xs, h1, h2, h3⟩ := hk
    refine ⟨xs, ⟨h1.1, ?_⟩, h2, h3⟩
    rcases h1.2 with h | ⟨g, cap, cur, q1, q2, q3, q4⟩
    · exact .inl h
    · exact .inr ⟨g, cap, cur, q1, q2, by rw [hb g (by simp [Chunk.blk, q1, Value.ownBlock])]; exact q3, q4⟩
  | obj o => exact ⟨by rw [hb _ rfl]; exact hk.1, hk.2⟩
end

def killCk : Option Nat → List Chunk → List Chunk
  | some i, ck => ck.set i .dead
  | none, ck => ck
theorem killCk_length (k : Option Nat) (ck : List Chunk) : (killCk k ck).length = ck.length := by cases k <;> simp [killCk]
theorem killCk_get {k : Option Nat} {ck : List Chunk} {i : Nat} {c : Chunk} (hc : (killCk k ck)[i]? = some c) : c = .dead ∨ (ck[i]? = some c ∧ k ≠ some i) := by
  cases k with
  | none => exact .inr ⟨hc, by simp⟩
  | some j =>
    simp only [killCk] at hc
    by_cases hij : i = j
    · subst hij
      have hi : i < ck.length := by have := (List.getElem?_eq_some_iff.1 hc).1; simpa using this
      rw [List.getElem?_set_self hi] at hc
      exact .inl (by simpa using hc.symm)
    · rw [List.getElem?_set_ne (Ne.symm hij)] at hc
      exact .inr ⟨hc, by simp [Ne.symm hij]⟩
section
variable {Γ : Ctx} {ck : List Chunk} {V : Vn} {w : World}
theorem WOk.regrow (r : WOk Γ ck V w) (hwf : ckWf ck = true) (hm : Γ.m ≤ ck.length) (k : Option Nat) {c : Chunk} {v' : Value} {s' : Nat} {w' : World} {row : Option Nat}
    (hrow : ∀ b, row = some b → ∃ i c, k = some i ∧ ck[i]? = some c ∧ c.blk V i = some b) (hg : w.grownBy w' row)
    (hc : ∀ V', Agree ck.length V V' → V'.H = V.H → V'.σ ck.length = s' → V'.ov ck.length = v' → c.holds V' w' ck.length ∧ ∀ b, c.blk V' ck.length = some b → row = some b ∨ w.heap.size ≤ b) :
    ∃ V', Agree ck.length V V' ∧ V'.H = V.H ∧ V'.σ ck.length = s' ∧ V'.ov ck.length = v' ∧ WOk Γ (killCk k ck ++ [c]) V' w' := by
  let V' : Vn := ⟨V.H, fun i => if i = ck.length then s' else V.σ i, fun i => if i = ck.length then v' else V.ov i⟩
  have hag : Agree ck.length V V' := ⟨HLe.refl _, fun i hi => ⟨if_neg (by omega), if_neg (by omega)⟩⟩
  have e1 : V'.σ ck.length = s' := if_pos rfl
  have e2 : V'.ov ck.length = v' := if_pos rfl
  obtain ⟨hh, hblk⟩ := hc V' hag rfl e1 e2
  have hlen := killCk_length k ck
  have hrow' : ∀ b, row = some b → (Γ.w0.heap.size ≤ b ∨ Γ.M b) ∧ V.H b = none ∧ b < w.heap.size ∧ ∀ (i : Nat) c, ck[i]? = some c → k ≠ some i → c.blk V' i ≠ some b := by
    intro b hb
    obtain ⟨i, c, hk, hc, hcb⟩ := hrow b hb
    have hb' := r.base i c b hc hcb
    refine ⟨hb'.1, hb'.2, Chunk.blk_lt (r.own i c hc) hcb, fun j d hd hkj hdb => ?_⟩
    rw [Chunk.blk_agree hag (ck_lt hwf hd).1] at hdb
    have := r.inj i j c d b hc hd hcb hdb
    subst this
    exact hkj hk
  have hold : ∀ b, b < w.heap.size → row ≠ some b → w'.heap[b]? = w.heap[b]? := fun b hb hne => hg.block b hb (fun e => hne e.symm)
  have hget : ∀ (i : Nat) d, (killCk k ck ++ [c])[i]? = some d → (i < ck.length ∧ (killCk k ck)[i]? = some d) ∨ (i = ck.length ∧ d = c) := by
    intro i d hd
    rcases Nat.lt_trichotomy i (killCk k ck).length with hi | hi | hi
    · rw [List.getElem?_append_left hi] at hd; exact .inl ⟨by omega, hd⟩
    · subst hi; simp at hd; exact .inr ⟨hlen, hd.symm⟩
    · rw [List.getElem?_eq_none (by simp; omega)] at hd; cases hd
  have hB : Γ.w0.heap.size ≤ w.heap.size := r.ext.size
  have hold' : ∀ (i : Nat) d, ck[i]? = some d → d.holds V' w i ∧ d.blk V' i = d.blk V i := fun i d hd => ⟨Chunk.holds_agree hag (ck_lt hwf hd).1 (ck_lt hwf hd).2 (r.own i d hd), Chunk.blk_agree hag (ck_lt hwf hd).1 d⟩
  have hnewH : ∀ b, w.heap.size ≤ b → V.H b = none := by
    intro b hb
    cases hH : V.H b with
    | none => rfl
    | some x => have := (Array.getElem?_eq_some_iff.1 (r.imm _ _ hH)).1; omega
  refine ⟨V', hag, rfl, e1, e2, { ext := ?_, imm := ?_, hle := r.hle, frz := r.frz, agr := ?_, own := ?_, base := ?_, inj := ?_ }⟩
  · refine ⟨hg.os.trans r.ext.os, hg.tape.trans r.ext.tape, hg.output.trans r.ext.output, Nat.le_trans hB hg.size, fun b hb hM => ?_⟩
    rw [← r.ext.block b hb hM]
    refine hold b (by omega) fun he => ?_
    rcases (hrow' b he).1 with h | h
    · omega
    · exact hM h
  · intro b x hb
    have := r.imm b x hb
    rw [hold b (Array.getElem?_eq_some_iff.1 this).1 (fun he => by have h2 : V.H b = some x := hb; rw [(hrow' b he).2.1] at h2; cases h2)]; exact this
  · intro i hi
    have h1 := hag.same i (by omega)
    rw [h1.1, h1.2]; exact r.agr i hi
  · intro i d hd
    rcases hget i d hd with ⟨hi, hd⟩ | ⟨rfl, rfl⟩
    · rcases killCk_get hd with rfl | ⟨hd, hk⟩
      · trivial
      · exact Chunk.holds_kept (hold' i d hd).1 fun b hb => hold b (Chunk.blk_lt (hold' i d hd).1 hb) (fun he => (hrow' b he).2.2.2 i d hd hk hb)
    · exact hh
  · intro i d b hd hb
    rcases hget i d hd with ⟨hi, hd⟩ | ⟨rfl, rfl⟩
    · rcases killCk_get hd with rfl | ⟨hd, hk⟩
      · simp [Chunk.blk] at hb
      · rw [(hold' i d hd).2] at hb; exact r.base i d b hd hb
    · rcases hblk b hb with h | h
      · exact ⟨(hrow' b h).1, (hrow' b h).2.1⟩
      · exact ⟨.inl (by omega), hnewH b h⟩
  · intro i j d d' b hd hd' hb1 hb2
    rcases hget i d hd with ⟨hi, hd1⟩ | ⟨hi, hd1⟩ <;> rcases hget j d' hd' with ⟨hj, hd2⟩ | ⟨hj, hd2⟩
    · rcases killCk_get hd1 with rfl | ⟨hd1, hk1⟩
      · simp [Chunk.blk] at hb1
      · rcases killCk_get hd2 with rfl | ⟨hd2, hk2⟩
        · simp [Chunk.blk] at hb2
        · rw [(hold' i d hd1).2] at hb1; rw [(hold' j d' hd2).2] at hb2
          exact r.inj i j d d' b hd1 hd2 hb1 hb2
    · subst hj; subst hd2
      rcases killCk_get hd1 with rfl | ⟨hd1, hk1⟩
      · simp [Chunk.blk] at hb1
      · rcases hblk b hb2 with h | h
        · exact absurd hb1 ((hrow' b h).2.2.2 i d hd1 hk1)
        · have := Chunk.blk_lt (hold' i d hd1).1 hb1; omega
    · subst hi; subst hd1
      rcases killCk_get hd2 with rfl | ⟨hd2, hk2⟩
      · simp [Chunk.blk] at hb2
      · rcases hblk b hb1 with h | h
        · exact absurd hb2 ((hrow' b h).2.2.2 j d' hd2 hk2)
        · have := Chunk.blk_lt (hold' j d' hd2).1 hb2; omega
    · rw [hi, hj]
theorem grown_alloc (w : World) (o : Obj) : w.grownBy (w.alloc o) none := ⟨rfl, rfl, rfl, by simp, fun k hk _ => Below.heap_alloc w o k hk⟩
theorem WOk.rewrite (r : WOk Γ ck V w) {i : Nat} {c : Chunk} (hc : ck[i]? = some c) (c' : Chunk) {w' : World} (h1 : w'.os = w.os ∧ w'.tape = w.tape ∧ w'.output = w.output ∧ w'.heap.size = w.heap.size)
    (hoth : ∀ b, c.blk V i ≠ some b → w'.heap[b]? = w.heap[b]?) (hb : c'.blk V i = c.blk V i) (hh : c'.holds V w' i) : WOk Γ (ck.set i c') V w' := by
  have hi : i < ck.length := (List.getElem?_eq_some_iff.1 hc).1
  have hget : ∀ (j : Nat) d, (ck.set i c')[j]? = some d → (j ≠ i ∧ ck[j]? = some d) ∨ (j = i ∧ d = c') := by
    intro j d hd
    by_cases hj : j = i
    · subst hj; rw [List.getElem?_set_self hi] at hd; exact .inr ⟨rfl, by simpa using hd.symm⟩
    · rw [List.getElem?_set_ne (Ne.symm hj)] at hd; exact .inl ⟨hj, hd⟩
  refine { ext := ?_, imm := ?_, hle := r.hle, frz := r.frz, agr := r.agr, own := ?_, base := ?_, inj := ?_ }
  · refine ⟨h1.1.trans r.ext.os, h1.2.1.trans r.ext.tape, h1.2.2.1.trans r.ext.output, by rw [h1.2.2.2]; exact r.ext.size, fun b hb' hM => ?_⟩
    rw [← r.ext.block b hb' hM]
    refine hoth b fun he => ?_
    rcases (r.base i c b hc he).1 with h | h
    · omega
    · exact hM h
  · intro b x hx
    rw [hoth b (fun he => by rw [(r.base i c b hc he).2] at hx; cases hx)]; exact r.imm b x hx
  · intro j d hd
    rcases hget j d hd with ⟨hj, hd⟩ | ⟨rfl, rfl⟩
    · exact Chunk.holds_kept (r.own j d hd) fun b hb' => hoth b fun e => hj (r.inj j i d c b hd hc hb' e)
    · exact hh
  · intro j d b hd hb'
    rcases hget j d hd with ⟨hj, hd⟩ | ⟨rfl, rfl⟩
    · exact r.base j d b hd hb'
    · exact r.base j c b hc (by rw [← hb]; exact hb')
  · intro j k d d' b hd hd' hb1 hb2
    rcases hget j d hd with ⟨hj, hd1⟩ | ⟨hj, hd1⟩ <;> rcases hget k d' hd' with ⟨hk, hd2⟩ | ⟨hk, hd2⟩
    · exact r.inj j k d d' b hd1 hd2 hb1 hb2
    · subst hk; subst hd2; exact r.inj j k d c b hd1 hc hb1 (by rw [← hb]; exact hb2)
    · subst hj; subst hd1; exact r.inj j k c d' b hc hd2 (by rw [← hb]; exact hb1) hb2
    · rw [hj, hk]
theorem WOk.freeze (r : WOk Γ ck V w) {i g : Nat} {c : Chunk} {o : Obj} (hc : ck[i]? = some c) (hb : c.blk V i = some g) (ho : w.heap[g]? = some o) :
    HLe V.H (fun k => if k = g then some o else V.H k) ∧ (∀ k, k ≠ g → (if k = g then some o else V.H k) = V.H k) ∧ WOk Γ (ck.set i .dead) ⟨fun k => if k = g then some o else V.H k, V.σ, V.ov⟩ w := by
  have hi : i < ck.length := (List.getElem?_eq_some_iff.1 hc).1
  have hbase := r.base i c g hc hb
  have hle : HLe V.H (fun k => if k = g then some o else V.H k) := by
    intro k x hk
    have : k ≠ g := fun he => by subst he; rw [hbase.2] at hk; cases hk
    simp [this, hk]
  have hget : ∀ (j : Nat) d, (ck.set i .dead)[j]? = some d → (j ≠ i ∧ ck[j]? = some d) ∨ (j = i ∧ d = .dead) := by
    intro j d hd
    by_cases hj : j = i
    · subst hj; rw [List.getElem?_set_self hi] at hd; exact .inr ⟨rfl, by simpa using hd.symm⟩
    · rw [List.getElem?_set_ne (Ne.symm hj)] at hd; exact .inl ⟨hj, hd⟩
  have hblk : ∀ (j : Nat) (d : Chunk), d.blk ⟨fun k => if k = g then some o else V.H k, V.σ, V.ov⟩ j = d.blk V j := by intro j d; cases d <;> rfl
  refine ⟨hle, fun k hk => if_neg hk, { ext := r.ext, imm := ?_, hle := r.hle.trans hle, frz := ?_, agr := r.agr, own := ?_, base := ?_, inj := ?_ }⟩
  · intro k x hk
    by_cases he : k = g
    · subst he; simp at hk; subst hk; exact ho
    · simp [he] at hk; exact r.imm k x hk
  · intro k hk
    by_cases he : k = g
    · subst he; exact .inr hbase.1
    · simp [he] at hk; exact r.frz k hk
  · intro j d hd
    rcases hget j d hd with ⟨hj, hd⟩ | ⟨rfl, rfl⟩
    · have h := r.own j d hd
      have hag : ∀ n, Agree n V ⟨fun k => if k = g then some o else V.H k, V.σ, V.ov⟩ := fun n => ⟨hle, fun _ _ => ⟨rfl, rfl⟩⟩
      cases d with
      | dead => trivial
      | cells cs e =>
        obtain ⟨us, h1, h2⟩ := h
        refine ⟨us, h1, h2.mono fun s u _ hs => ?_⟩
        cases s with
        | pd p => exact PR.mono hle hs
        | loc i o => exact hs
        | own i => exact hs
        | oat i j sz o => exact hs
        | fn f x y =>
          obtain ⟨ua, ub, q1, q2, q3⟩ := hs
          refine ⟨ua, ub, q1, q2.mono fun a b _ hab => ?_, q3.mono fun a b _ hab => ?_⟩ <;> cases a <;> first | exact PR.mono hle hab | exact hab
      | own e t l =>
        obtain ⟨xs, h1, h2, h3⟩ := h
        exact ⟨xs, h1, h2.mono fun _ _ _ hp => hp.mono hle, h3⟩
      | obj o => cases o <;> exact h
    · trivial
  · intro j d b hd hb'
    rw [hblk] at hb'
    rcases hget j d hd with ⟨hj, hd⟩ | ⟨rfl, rfl⟩
    · have h := r.base j d b hd hb'
      refine ⟨h.1, ?_⟩
      have : b ≠ g := fun he => hj (r.inj j i d c b hd hc hb' (by rw [he]; exact hb))
      simp [this, h.2]
    · simp [Chunk.blk] at hb'
  · intro j k d d' b hd hd' hb1 hb2
    rw [hblk] at hb1 hb2
    rcases hget j d hd with ⟨hj, hd1⟩ | ⟨hj, hd1⟩ <;> rcases hget k d' hd' with ⟨hk, hd2⟩ | ⟨hk, hd2⟩
    · exact r.inj j k d d' b hd1 hd2 hb1 hb2
    · subst hd2; simp [Chunk.blk] at hb2
    · subst hd1; simp [Chunk.blk] at hb1
    · rw [hj, hk]
theorem WOk.kill (r : WOk Γ ck V w) (i : Nat) : WOk Γ (ck.set i .dead) V w := by
  have hget : ∀ (j : Nat) d, (ck.set i .dead)[j]? = some d → ck[j]? = some d ∨ d = .dead := by
    intro j d hd
    rcases killCk_get (k := some i) hd with h | h
    · exact .inr h
    · exact .inl h.1
  refine { ext := r.ext, imm := r.imm, hle := r.hle, frz := r.frz, agr := r.agr, own := ?_, base := ?_, inj := ?_ }
  · intro j d hd
    rcases hget j d hd with h | rfl
    · exact r.own j d h
    · trivial
  · intro j d b hd hb
    rcases hget j d hd with h | rfl
    · exact r.base j d b h hb
    · simp [Chunk.blk] at hb
  · intro j k d d' b hd hd' hb1 hb2
    rcases hget j d hd with h | rfl
    · rcases hget k d' hd' with h' | rfl
      · exact r.inj j k d d' b h h' hb1 hb2
      · simp [Chunk.blk] at hb2
    · simp [Chunk.blk] at hb1
theorem WOk.freezeOwn (r : WOk Γ ck V w) {i : Nat} {e : TypeId} {t : ETy} {l : List t.den} (hc : ck[i]? = some (.own e t l)) :
    ∃ H', HLe V.H H' ∧ WOk Γ (ck.set i .dead) ⟨H', V.σ, V.ov⟩ w ∧ PR H' (.lst t l) (V.ov i) := by
  obtain ⟨xs, h1, h2, h3⟩ := r.own i _ hc
  rcases h1.2 with ⟨q1, q2⟩ | ⟨g, cap, cur, q1, q2, q3, q4, q5, q6, q7⟩
  · have : l = [] := List.eq_nil_of_length_eq_zero q2
    subst this
    exact ⟨V.H, HLe.refl _, r.kill i, by rw [q1]; exact .emp t none 0 (fun _ => rfl)⟩
  · obtain ⟨g1, g2, g3⟩ := r.freeze hc (by simp [Chunk.blk, q1, Value.ownBlock]) q3
    refine ⟨_, g1, g3, ?_⟩
    rw [q1]
    refine .lst t l g 0 cap cur e (0, 0) (by simp) q4 q5 (by rw [q6, Nat.zero_add]; exact Nat.mul_le_mul_right _ q4) fun j x hx k p hp u hu => ?_
    have h5 := flat_get hx hp
    obtain ⟨u', h6, h7⟩ := h2.get h5
    rw [← q7, List.getElem?_take] at h6
    split at h6
    · rw [Nat.zero_add] at hu
      have : cur[j * t.size + k]? = some u' := by simpa using h6
      rw [this] at hu
      simp only [Option.some.injEq] at hu
      subst hu
      exact h7.mono g1
    · cases h6
end
section
variable {Γ : Ctx} {st : ST} {V : Vn} {a : Act} {w : World}
theorem Rel.turn (r : Rel Γ st V a w) (hwf : st.wf = true) {V' : Vn} {ck' : List Chunk} {w' : World} (hag : Agree st.ck.length V V') (hw : WOk Γ ck' V' w') (hl : st.ck.length ≤ ck'.length) : Rel Γ { st with ck := ck' } V' a w' := by
  simp only [ST.wf, Bool.and_eq_true] at hwf
  exact { size := r.size, defers := r.defers, slots := fun t sv hm => (r.slots t sv hm).agree hag (List.all_eq_true.1 hwf.1 _ hm), wok := hw, few := ⟨r.few.1, Nat.le_trans r.few.2 hl⟩ }
end
end Go.Ev

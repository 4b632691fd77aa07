/- An executor for function bodies of the model, part G: operations that make or write the call's own blocks. Conditions: each operation's own, told as a proposition. -/
import Derived.Test.YtgoihhnfkoklpaaEngF
namespace Go.Sy
open Go.RowKit

/-! ### references stay within the chunks that there are -/
def SC.lt (n : Nat) : SC → Bool
  | .val _ => true
  | .loc i _ => Nat.blt i n
  | .own i => Nat.blt i n
def SV.lt (n : Nat) : SV → Bool
  | .c s => s.lt n
  | .agg cs => cs.all (SC.lt n)
  | .fn _ a b => a.all (SC.lt n) && b.all (SC.lt n)
  | .grd _ _ v => v.lt n
def Chunk.lt (n : Nat) : Chunk → Bool
  | .cells cs _ => cs.all (SC.lt n)
  | _ => true
def ST.wf (st : ST) : Bool := st.fr.all (fun p => p.2.lt st.ck.length) && st.ck.all (Chunk.lt st.ck.length)
def Agree (n : Nat) (σ : Nat → Nat) (ov : Nat → Value) (σ' : Nat → Nat) (ov' : Nat → Value) : Prop := ∀ i, i < n → σ' i = σ i ∧ ov' i = ov i

theorem SC.den_agree {n : Nat} {σ σ' : Nat → Nat} {ov ov' : Nat → Value} (h : Agree n σ ov σ' ov') {s : SC} (hs : s.lt n = true) : s.den σ' ov' = s.den σ ov := by
  cases s with
  | val v => rfl
  | loc i o => simp [SC.lt] at hs; simp [SC.den, (h i hs).1]
  | own i => simp [SC.lt] at hs; simp [SC.den, (h i hs).2]
theorem map_den_agree {n : Nat} {σ σ' : Nat → Nat} {ov ov' : Nat → Value} (h : Agree n σ ov σ' ov') {cs : List SC} (hs : cs.all (SC.lt n) = true) : cs.map (SC.den σ' ov') = cs.map (SC.den σ ov) := by
  refine List.map_congr_left fun s hm => ?_
  exact SC.den_agree h (List.all_eq_true.1 hs s hm)
theorem SlotOk.agree {n : Nat} {σ σ' : Nat → Nat} {ov ov' : Nat → Value} (h : Agree n σ ov σ' ov') {a : Act} {t : Nat} {sv : SV} (hs : sv.lt n = true) (hk : SlotOk σ ov a t sv) : SlotOk σ' ov' a t sv := by
  cases sv with
  | c s => show _ = s.den σ' ov'; rw [SC.den_agree h hs]; exact hk
  | agg cs => show _ = Value.agg (cs.map (SC.den σ' ov')).toArray; rw [map_den_agree h hs]; exact hk
  | fn f x y =>
    simp only [SV.lt, Bool.and_eq_true] at hs
    show _ = Value.func f (x.map (SC.den σ' ov')).toArray (y.map (SC.den σ' ov')).toArray
    rw [map_den_agree h hs.1, map_den_agree h hs.2]; exact hk
  | grd s b v => show _ = guardVal _ b (v.den σ' ov'); rw [SC.den_agree h hs]; exact hk
theorem Chunk.holds_agree {n B : Nat} {σ σ' : Nat → Nat} {ov ov' : Nat → Value} (h : Agree n σ ov σ' ov') {w : World} {i : Nat} (hi : i < n) {c : Chunk} (hs : c.lt n = true) (hk : c.holds B σ ov w i) : c.holds B σ' ov' w i := by
  cases c with
  | dead => trivial
  | cells cs e =>
    show w.heap[σ' i]? = some (.cells (cs.map (SC.den σ' ov')).toArray e (0, 0))
    rw [map_den_agree h hs, (h i hi).1]; exact hk
  | own e size m xs => show w.ownsRow B e size (ov' i) m xs ∧ ∀ b, (ov' i).ownBlock = some b → σ' i = b; rw [(h i hi).2, (h i hi).1]; exact hk
theorem Chunk.blk_agree {n : Nat} {σ σ' : Nat → Nat} {ov ov' : Nat → Value} (h : Agree n σ ov σ' ov') {i : Nat} (hi : i < n) (c : Chunk) : c.blk σ' ov' i = c.blk σ ov i := by
  cases c with
  | dead => rfl
  | cells cs e => simp [Chunk.blk, (h i hi).1]
  | own e size m xs => simp [Chunk.blk, (h i hi).2]

section
variable {P : Program} {w0 : World} {H : Nat → Option Obj} {st : ST} {σ : Nat → Nat} {ov : Nat → Value} {a : Act} {w : World}
theorem Rel.agree (r : Rel P w0 H st σ ov a w) {σ' : Nat → Nat} {ov' : Nat → Value} (hwf : st.wf = true) (h : Agree st.ck.length σ ov σ' ov') : Rel P w0 H st σ' ov' a w := by
  simp only [ST.wf, Bool.and_eq_true] at hwf
  have hck : ∀ (i : Nat) c, st.ck[i]? = some c → i < st.ck.length ∧ c.lt st.ck.length = true := fun i c hc =>
    ⟨(List.getElem?_eq_some_iff.1 hc).1, List.all_eq_true.1 hwf.2 c (List.mem_of_getElem? hc)⟩
  refine { size := r.size, defers := r.defers, slots := ?_, ext := r.ext, imm := r.imm, own := ?_, base := ?_, inj := ?_ }
  · intro t sv hm
    exact (r.slots t sv hm).agree h (List.all_eq_true.1 hwf.1 _ hm)
  · intro i c hc
    exact Chunk.holds_agree h (hck i c hc).1 (hck i c hc).2 (r.own i c hc)
  · intro i c b hc hb
    rw [Chunk.blk_agree h (hck i c hc).1] at hb
    exact r.base i c b hc hb
  · intro i j c d b hc hd hbc hbd
    rw [Chunk.blk_agree h (hck i c hc).1] at hbc
    rw [Chunk.blk_agree h (hck j d hd).1] at hbd
    exact r.inj i j c d b hc hd hbc hbd

theorem Chunk.blk_lt {B : Nat} {i b : Nat} {c : Chunk} (hk : c.holds B σ ov w i) (hb : c.blk σ ov i = some b) : b < w.heap.size := by
  cases c with
  | dead => simp [Chunk.blk] at hb
  | cells cs e => simp only [Chunk.blk, Option.some.injEq] at hb; subst hb; exact (Array.getElem?_eq_some_iff.1 hk).1
  | own e size m xs => exact (World.ownsRow.lt hk.1 b hb).2
/-- What holds of a chunk holds in any world that has the chunk's block as it was. -/
theorem Chunk.holds_kept {B : Nat} {i : Nat} {c : Chunk} {w' : World} (hk : c.holds B σ ov w i) (hb : ∀ b, c.blk σ ov i = some b → w'.heap[b]? = w.heap[b]?) : c.holds B σ ov w' i := by
  cases c with
  | dead => trivial
  | cells cs e => show w'.heap[σ i]? = _; rw [hb _ rfl]; exact hk
  | own e size m xs =>
    refine ⟨⟨hk.1.1, ?_⟩, hk.2⟩
    rcases hk.1.2 with h | ⟨g, cap, cur, h1, h2, h3, h4⟩
    · exact .inl h
    · exact .inr ⟨g, cap, cur, h1, h2, by rw [hb g (by simp [Chunk.blk, h1, Value.ownBlock])]; exact h3, h4⟩

/-- A new block, held by a new chunk. -/
theorem Rel.alloc (r : Rel P w0 H st σ ov a w) (hwf : st.wf = true) (c : Chunk) (o : Obj) (v : Value)
    (hb : ∀ σ' ov', Agree st.ck.length σ ov σ' ov' → σ' st.ck.length = w.heap.size → ov' st.ck.length = v → c.holds w0.heap.size σ' ov' (w.alloc o) st.ck.length ∧ c.blk σ' ov' st.ck.length = some w.heap.size) :
    ∃ σ' ov', Agree st.ck.length σ ov σ' ov' ∧ σ' st.ck.length = w.heap.size ∧ ov' st.ck.length = v ∧ Rel P w0 H { st with ck := st.ck ++ [c] } σ' ov' a (w.alloc o) := by
  let σ' : Nat → Nat := fun i => if i = st.ck.length then w.heap.size else σ i
  let ov' : Nat → Value := fun i => if i = st.ck.length then v else ov i
  have hag : Agree st.ck.length σ ov σ' ov' := fun i hi => ⟨if_neg (by omega), if_neg (by omega)⟩
  have e1 : σ' st.ck.length = w.heap.size := if_pos rfl
  have e2 : ov' st.ck.length = v := if_pos rfl
  have r' := r.agree hwf hag
  obtain ⟨h1, h2⟩ := hb σ' ov' hag e1 e2
  have hB : w0.heap.size ≤ w.heap.size := r.ext.size
  have hget : ∀ (i : Nat) d, (st.ck ++ [c])[i]? = some d → (i < st.ck.length ∧ st.ck[i]? = some d) ∨ (i = st.ck.length ∧ d = c) := by
    intro i d hd
    rcases Nat.lt_trichotomy i st.ck.length with hi | hi | hi
    · rw [List.getElem?_append_left hi] at hd; exact .inl ⟨hi, hd⟩
    · subst hi; simp at hd; exact .inr ⟨rfl, hd.symm⟩
    · rw [List.getElem?_eq_none (by simp; omega)] at hd; cases hd
  have hold : ∀ (b : Nat), b < w.heap.size → (w.alloc o).heap[b]? = w.heap[b]? := fun b h => Below.heap_alloc w o b h
  refine ⟨σ', ov', hag, e1, e2, { size := r.size, defers := r.defers, slots := r'.slots, ext := r.ext.alloc hB o, imm := ?_, own := ?_, base := ?_, inj := ?_ }⟩
  · intro k x hk
    have := r.imm k x hk
    rw [hold k (Array.getElem?_eq_some_iff.1 this).1]; exact this
  · intro i d hd
    rcases hget i d hd with ⟨hi, hd⟩ | ⟨rfl, rfl⟩
    · exact Chunk.holds_kept (r'.own i d hd) fun b hb => hold b (Chunk.blk_lt (r'.own i d hd) hb)
    · exact h1
  · intro i d b hd hbd
    rcases hget i d hd with ⟨hi, hd⟩ | ⟨rfl, rfl⟩
    · exact r'.base i d b hd hbd
    · rw [h2] at hbd
      simp only [Option.some.injEq] at hbd
      subst hbd
      refine ⟨hB, ?_⟩
      cases hH : H w.heap.size with
      | none => rfl
      | some x =>
        have := (Array.getElem?_eq_some_iff.1 (r.imm _ _ hH)).1
        omega
  · intro i j d d' b hd hd' hb1 hb2
    rcases hget i d hd with ⟨hi, hd1⟩ | ⟨hi, hd1⟩ <;> rcases hget j d' hd' with ⟨hj, hd2⟩ | ⟨hj, hd2⟩
    · exact r'.inj i j d d' b hd1 hd2 hb1 hb2
    · subst hj; subst hd2
      rw [h2] at hb2
      simp only [Option.some.injEq] at hb2
      have := Chunk.blk_lt (r'.own i d hd1) hb1
      omega
    · subst hi; subst hd1
      rw [h2] at hb1
      simp only [Option.some.injEq] at hb1
      have := Chunk.blk_lt (r'.own j d' hd2) hb2
      omega
    · rw [hi, hj]

/-- A chunk's content written anew. -/
theorem Rel.write (r : Rel P w0 H st σ ov a w) {i : Nat} {cs : List SC} {e : TypeId} (hc : st.ck[i]? = some (.cells cs e)) (cs' : List SC) {w' : World}
    (hw : w' = w.setRow (σ i) (cs'.map (SC.den σ ov)).toArray) : Rel P w0 H { st with ck := st.ck.set i (.cells cs' e) } σ ov a w' := by
  subst hw
  have hown : w.heap[σ i]? = some (.cells (cs.map (SC.den σ ov)).toArray e (0, 0)) := r.own i _ hc
  have hbase := r.base i _ (σ i) hc rfl
  have hi : i < st.ck.length := (List.getElem?_eq_some_iff.1 hc).1
  have hoth : ∀ b, b ≠ σ i → (w.setRow (σ i) (cs'.map (SC.den σ ov)).toArray).heap[b]? = w.heap[b]? := fun b hb => setRow_other w (σ i) b _ hb
  have hget : ∀ (j : Nat) d, (st.ck.set i (.cells cs' e))[j]? = some d → (j ≠ i ∧ st.ck[j]? = some d) ∨ (j = i ∧ d = .cells cs' e) := by
    intro j d hd
    by_cases hj : j = i
    · subst hj; rw [List.getElem?_set_self hi] at hd; exact .inr ⟨rfl, by simpa using hd.symm⟩
    · rw [List.getElem?_set_ne (Ne.symm hj)] at hd; exact .inl ⟨hj, hd⟩
  refine { size := r.size, defers := r.defers, slots := r.slots, ext := ?_, imm := ?_, own := ?_, base := ?_, inj := ?_ }
  · exact r.ext.trans ⟨rfl, rfl, rfl, by simp, fun k hk => hoth k (by omega)⟩
  · intro k x hk
    by_cases hks : k = σ i
    · subst hks; rw [hbase.2] at hk; cases hk
    · rw [hoth k hks]; exact r.imm k x hk
  · intro j d hd
    rcases hget j d hd with ⟨hj, hd⟩ | ⟨rfl, rfl⟩
    · refine Chunk.holds_kept (r.own j d hd) fun b hb => hoth b fun e => ?_
      exact hj (r.inj j i d _ b hd hc hb (by rw [e]; rfl))
    · exact setRow_heap w (σ j) _ _ e (0, 0) hown
  · intro j d b hd hb
    rcases hget j d hd with ⟨hj, hd⟩ | ⟨rfl, rfl⟩
    · exact r.base j d b hd hb
    · exact r.base j _ b hc hb
  · intro j k d d' b hd hd' hb1 hb2
    rcases hget j d hd with ⟨hj, hd1⟩ | ⟨hj, hd1⟩ <;> rcases hget k d' hd' with ⟨hk, hd2⟩ | ⟨hk, hd2⟩
    · exact r.inj j k d d' b hd1 hd2 hb1 hb2
    · subst hk; subst hd2; exact r.inj j k d _ b hd1 hc hb1 hb2
    · subst hj; subst hd1; exact r.inj j k _ d' b hc hd2 hb1 hb2
    · rw [hj, hk]
end
end Go.Sy

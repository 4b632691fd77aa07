/- An executor for function bodies of the model, part Hc: blocks to which nothing leads any more are let go, the others numbered anew. Conditions: none. -/
import Derived.Test.YtgoihhnfkoklpaaEngHb
namespace Go.Sy
open Go.RowKit

def idxIn (i : Nat) : List Nat → Nat → Option Nat
  | [], _ => none
  | x :: r, k => bif Nat.beq x i then some k else idxIn i r (k + 1)
def SC.ren (m : List Nat) : SC → Option SC
  | .val v => some (.val v)
  | .loc i off => (idxIn i m 0).map fun j => .loc j off
  | .own i => (idxIn i m 0).map fun j => .own j
def renL (m : List Nat) : List SC → Option (List SC)
  | [] => some []
  | s :: r => match s.ren m, renL m r with
    | some a, some b => some (a :: b)
    | _, _ => none
def SV.ren (m : List Nat) : SV → Option SV
  | .c s => (s.ren m).map .c
  | .agg cs => (renL m cs).map .agg
  | .fn f a b => match renL m a, renL m b with
    | some x, some y => some (.fn f x y)
    | _, _ => none
  | .grd s w v => (v.ren m).map (.grd s w)
def Chunk.ren (m : List Nat) : Chunk → Option Chunk
  | .dead => some .dead
  | .cells cs e => (renL m cs).map fun l => .cells l e
  | .own e sz n xs => some (.own e sz n xs)
def renFr (m : List Nat) : List (Nat × SV) → Option (List (Nat × SV))
  | [] => some []
  | p :: r => match p.2.ren m, renFr m r with
    | some a, some b => some ((p.1, a) :: b)
    | _, _ => none
def renCk (m : List Nat) (ck : List Chunk) : List Nat → Option (List Chunk)
  | [] => some []
  | i :: r => match (ck[i]?).bind (Chunk.ren m), renCk m ck r with
    | some a, some b => some (a :: b)
    | _, _ => none
def incr : List Nat → Bool
  | a :: b :: r => Nat.blt a b && incr (b :: r)
  | _ => true
def renST (m : List Nat) (st : ST) : ST :=
  bif incr m then
    match renFr m st.fr, renCk m st.ck m with
    | some fr, some ck => { n := st.n, fr := fr, ck := ck, kn := st.kn }
    | _, _ => st
  else st
/-! which blocks are led to -/
def SC.refs : SC → List Nat
  | .val _ => []
  | .loc i _ => [i]
  | .own i => [i]
def SV.refs : SV → List Nat
  | .c s => s.refs
  | .agg cs => cs.flatMap SC.refs
  | .fn _ a b => a.flatMap SC.refs ++ b.flatMap SC.refs
  | .grd _ _ v => v.refs
def Chunk.refs : Chunk → List Nat
  | .cells cs _ => cs.flatMap SC.refs
  | _ => []
def reach (ck : List Chunk) : Nat → List Nat → List Nat
  | 0, l => l
  | n + 1, l => reach ck n (l ++ (l.flatMap fun i => ((ck[i]?).map Chunk.refs).getD []).filter fun x => !l.any (Nat.beq x))
def gc (st : ST) : ST :=
  let l := reach st.ck 4 (st.fr.flatMap fun p => p.2.refs)
  renST ((List.range st.ck.length).filter fun i => l.any (Nat.beq i)) st

section
variable {P : Program} {w0 : World} {H : Nat → Option Obj} {st : ST} {σ : Nat → Nat} {ov : Nat → Value} {a : Act} {w : World}
theorem idxIn_sound {i : Nat} : ∀ {m : List Nat} {k j : Nat}, idxIn i m k = some j → k ≤ j ∧ m[j - k]? = some i
  | [], _, _, h => by simp [idxIn] at h
  | x :: r, k, j, h => by
    simp only [idxIn] at h
    cases hb : Nat.beq x i
    · rw [hb] at h
      simp only [cond_false] at h
      obtain ⟨h1, h2⟩ := idxIn_sound h
      refine ⟨by omega, ?_⟩
      rw [show j - k = (j - (k + 1)) + 1 from by omega, List.getElem?_cons_succ]; exact h2
    · rw [hb] at h
      simp only [cond_true, Option.some.injEq] at h
      subst h
      have := Nat.eq_of_beq_eq_true hb
      subst this
      simp
variable {m : List Nat}
theorem SC.ren_den {s s' : SC} (h : s.ren m = some s') : s'.den (fun j => σ (m.getD j 0)) (fun j => ov (m.getD j 0)) = s.den σ ov := by
  cases s with
  | val v => simp [SC.ren] at h; subst h; rfl
  | loc i off =>
    simp only [SC.ren, Option.map_eq_some_iff] at h
    obtain ⟨j, hj, rfl⟩ := h
    have := (idxIn_sound hj).2
    simp only [Nat.sub_zero] at this
    simp [SC.den, List.getD_eq_getElem?_getD, this]
  | own i =>
    simp only [SC.ren, Option.map_eq_some_iff] at h
    obtain ⟨j, hj, rfl⟩ := h
    have := (idxIn_sound hj).2
    simp only [Nat.sub_zero] at this
    simp [SC.den, List.getD_eq_getElem?_getD, this]
theorem renL_den : ∀ {cs cs' : List SC}, renL m cs = some cs' → cs'.map (SC.den (fun j => σ (m.getD j 0)) (fun j => ov (m.getD j 0))) = cs.map (SC.den σ ov)
  | [], cs', h => by simp [renL] at h; subst h; rfl
  | s :: r, cs', h => by
    simp only [renL] at h
    split at h
    · rename_i x y h1 h2
      simp only [Option.some.injEq] at h; subst h
      simp only [List.map_cons, SC.ren_den h1, renL_den h2]
    · simp at h
theorem SlotOk.ren {t : Nat} {sv sv' : SV} (h : sv.ren m = some sv') (hk : SlotOk σ ov a t sv) : SlotOk (fun j => σ (m.getD j 0)) (fun j => ov (m.getD j 0)) a t sv' := by
  cases sv with
  | c s =>
    simp only [SV.ren, Option.map_eq_some_iff] at h
    obtain ⟨s', h1, rfl⟩ := h
    show _ = s'.den _ _; rw [SC.ren_den h1]; exact hk
  | agg cs =>
    simp only [SV.ren, Option.map_eq_some_iff] at h
    obtain ⟨s', h1, rfl⟩ := h
    show _ = Value.agg _; rw [renL_den h1]; exact hk
  | fn f x y =>
    simp only [SV.ren] at h
    split at h
    · rename_i x' y' h1 h2
      simp only [Option.some.injEq] at h; subst h
      show _ = Value.func f _ _; rw [renL_den h1, renL_den h2]; exact hk
    · simp at h
  | grd s b v =>
    simp only [SV.ren, Option.map_eq_some_iff] at h
    obtain ⟨s', h1, rfl⟩ := h
    show _ = guardVal _ b (s'.den _ _); rw [SC.ren_den h1]; exact hk
theorem renFr_mem : ∀ {fr fr' : List (Nat × SV)}, renFr m fr = some fr' → ∀ t sv', (t, sv') ∈ fr' → ∃ sv, (t, sv) ∈ fr ∧ sv.ren m = some sv'
  | [], fr', h, t, sv', hm => by simp [renFr] at h; subst h; simp at hm
  | p :: r, fr', h, t, sv', hm => by
    simp only [renFr] at h
    split at h
    · rename_i x y h1 h2
      simp only [Option.some.injEq] at h; subst h
      rcases List.mem_cons.1 hm with hm | hm
      · simp only [Prod.mk.injEq] at hm
        obtain ⟨rfl, rfl⟩ := hm
        exact ⟨p.2, List.mem_cons_self, h1⟩
      · obtain ⟨sv, h3, h4⟩ := renFr_mem h2 t sv' hm
        exact ⟨sv, List.mem_cons_of_mem _ h3, h4⟩
    · simp at h
theorem renCk_get : ∀ {l : List Nat} {ck' : List Chunk}, renCk m st.ck l = some ck' → ∀ (j : Nat) c', ck'[j]? = some c' → ∃ i c, l[j]? = some i ∧ st.ck[i]? = some c ∧ c.ren m = some c'
  | [], ck', h, j, c', hj => by simp [renCk] at h; subst h; simp at hj
  | i :: r, ck', h, j, c', hj => by
    simp only [renCk] at h
    split at h
    · rename_i x y h1 h2
      simp only [Option.some.injEq] at h; subst h
      simp only [Option.bind_eq_some_iff] at h1
      obtain ⟨c, h3, h4⟩ := h1
      cases j with
      | zero => simp only [List.getElem?_cons_zero, Option.some.injEq] at hj; subst hj; exact ⟨i, c, by simp, h3, h4⟩
      | succ j => simp only [List.getElem?_cons_succ] at hj ⊢; exact renCk_get h2 j c' hj
    · simp at h
theorem incr_inj : ∀ {m : List Nat}, incr m = true → ∀ (i j : Nat) x, m[i]? = some x → m[j]? = some x → i = j := by
  have lt : ∀ {m : List Nat} {a : Nat}, incr (a :: m) = true → ∀ (j : Nat) x, m[j]? = some x → a < x := by
    intro m
    induction m with
    | nil => intro a _ j x h; simp at h
    | cons b r ih =>
      intro a h j x hj
      simp only [incr, Bool.and_eq_true] at h
      have hab : a < b := Nat.le_of_ble_eq_true h.1
      cases j with
      | zero => simp only [List.getElem?_cons_zero, Option.some.injEq] at hj; omega
      | succ j => have := ih h.2 j x (by simpa using hj); omega
  intro m
  induction m with
  | nil => intro _ i j x h; simp at h
  | cons b r ih =>
    intro h i j x hi hj
    have hr : incr r = true := by cases r with | nil => rfl | cons c r => simp only [incr, Bool.and_eq_true] at h; exact h.2
    cases i with
    | zero =>
      cases j with
      | zero => rfl
      | succ j =>
        simp only [List.getElem?_cons_zero, Option.some.injEq, List.getElem?_cons_succ] at hi hj
        have := lt h j x hj; omega
    | succ i =>
      cases j with
      | zero =>
        simp only [List.getElem?_cons_zero, Option.some.injEq, List.getElem?_cons_succ] at hi hj
        have := lt h i x hi; omega
      | succ j => simp only [List.getElem?_cons_succ] at hi hj; rw [ih hr i j x hi hj]
theorem Rel.renST (r : Rel P w0 H st σ ov a w) : ∃ σ' ov', Rel P w0 H (renST m st) σ' ov' a w := by
  unfold Sy.renST
  cases hi : incr m
  · exact ⟨σ, ov, r⟩
  · simp only [cond_true]
    split
    · rename_i fr ck h1 h2
      have hget := fun j c' hj => renCk_get (st := st) h2 j c' hj
      have hblk : ∀ (i j : Nat) (c c' : Chunk), m[j]? = some i → c.ren m = some c' → c'.blk (fun j => σ (m.getD j 0)) (fun j => ov (m.getD j 0)) j = c.blk σ ov i := by
        intro i j c c' hj hc
        have hg : m.getD j 0 = i := by simp [List.getD_eq_getElem?_getD, hj]
        cases c with
        | dead => simp [Chunk.ren] at hc; subst hc; rfl
        | cells cs e =>
          simp only [Chunk.ren, Option.map_eq_some_iff] at hc
          obtain ⟨l, _, rfl⟩ := hc
          simp only [Chunk.blk, hg]
        | own e sz n xs => simp [Chunk.ren] at hc; subst hc; simp only [Chunk.blk, hg]
      refine ⟨fun j => σ (m.getD j 0), fun j => ov (m.getD j 0), { size := r.size, defers := r.defers, slots := ?_, ext := r.ext, imm := r.imm, own := ?_, base := ?_, inj := ?_ }⟩
      · intro t sv' hm
        obtain ⟨sv, h3, h4⟩ := renFr_mem h1 t sv' hm
        exact (r.slots t sv h3).ren h4
      · intro j c' hj
        obtain ⟨i, c, h3, h4, h5⟩ := hget j c' hj
        have hg : m.getD j 0 = i := by simp [List.getD_eq_getElem?_getD, h3]
        have hk := r.own i c h4
        cases c with
        | dead => simp [Chunk.ren] at h5; subst h5; trivial
        | cells cs e =>
          simp only [Chunk.ren, Option.map_eq_some_iff] at h5
          obtain ⟨l, h6, rfl⟩ := h5
          show w.heap[σ (m.getD j 0)]? = some (.cells (l.map _).toArray e (0, 0))
          rw [renL_den h6, hg]; exact hk
        | own e sz n xs =>
          simp [Chunk.ren] at h5; subst h5
          show w.ownsRow _ e sz (ov (m.getD j 0)) n xs ∧ ∀ b, (ov (m.getD j 0)).ownBlock = some b → σ (m.getD j 0) = b
          rw [hg]; exact hk
      · intro j c' b hj hb
        obtain ⟨i, c, h3, h4, h5⟩ := hget j c' hj
        rw [hblk i j c c' h3 h5] at hb
        exact r.base i c b h4 hb
      · intro j k c' d' b hj hk hb1 hb2
        obtain ⟨i, c, h3, h4, h5⟩ := hget j c' hj
        obtain ⟨i2, d, g3, g4, g5⟩ := hget k d' hk
        rw [hblk i j c c' h3 h5] at hb1
        rw [hblk i2 k d d' g3 g5] at hb2
        have := r.inj i i2 c d b h4 g4 hb1 hb2
        subst this
        exact incr_inj hi j k i h3 g3
    · exact ⟨σ, ov, r⟩
theorem Rel.gc (r : Rel P w0 H st σ ov a w) : ∃ σ' ov', Rel P w0 H (gc st) σ' ov' a w := r.renST
end
end Go.Sy

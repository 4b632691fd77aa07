/- An executor for function bodies of the model, part N: a block of the call's own that is written no more is memory that nobody writes. Conditions: each rule's own. -/
import Derived.Test.YtgoihhnfkoklpaaEngM
namespace Go.Sy
open Go.RowKit

def SC.share (i b : Nat) : SC → SC
  | .loc j off => bif Nat.beq j i then .val (.pointer (some ⟨b, off, none⟩)) else .loc j off
  | s => s
def SV.share (i b : Nat) : SV → SV
  | .c s => .c (s.share i b)
  | .agg cs => .agg (cs.map (SC.share i b))
  | .fn f x y => .fn f (x.map (SC.share i b)) (y.map (SC.share i b))
  | .grd s w v => .grd s w (v.share i b)
def Chunk.share (i b : Nat) : Chunk → Chunk
  | .cells cs e => .cells (cs.map (SC.share i b)) e
  | c => c
def shareST (i b : Nat) (st : ST) : ST := { st with fr := st.fr.map (fun p => (p.1, p.2.share i b)), ck := (st.ck.set i .dead).map (Chunk.share i b) }
def cellsAt (st : ST) (i : Nat) : Option (List Value) := match st.ck[i]? with
  | some (.cells cs _) => scVals cs
  | _ => none
def flowFV (r : Option (List Prop × List FV)) : List FV := (r.map (·.2)).getD []
section
variable {P : Program} {w0 : World} {H : Mem} {f : FuncId} {root : Code} {R : Ending → World → Prop} {st : ST} {todo : List PI}
theorem SC.share_den {σ : Nat → Nat} {ov : Nat → Value} {i b : Nat} (hb : σ i = b) (s : SC) : (s.share i b).den σ ov = s.den σ ov := by
  cases s with
  | loc j off =>
    simp only [SC.share]
    cases h : Nat.beq j i
    · rfl
    · have := Nat.eq_of_beq_eq_true h
      subst this
      simp only [cond_true, SC.den, hb]
  | _ => rfl
theorem share_map {σ : Nat → Nat} {ov : Nat → Value} {i b : Nat} (hb : σ i = b) (cs : List SC) : (cs.map (SC.share i b)).map (SC.den σ ov) = cs.map (SC.den σ ov) := by
  rw [List.map_map]; exact List.map_congr_left fun s _ => SC.share_den hb s
theorem J.share {i : Nat} {vals : List Value} (hc : cellsAt st i = some vals) (hk : ∀ b H', HLe H H' → CellsAt H' b 0 vals → J P f root R w0 H' todo (shareST i b st)) : J P f root R w0 H todo st := by
  intro σ ov a w r
  unfold cellsAt at hc
  split at hc
  · rename_i cs e hck
    have hown : w.heap[σ i]? = some (.cells (cs.map (SC.den σ ov)).toArray e (0, 0)) := r.own i _ hck
    have hbase := r.base i _ (σ i) hck rfl
    let H' : Mem := fun k => if k = σ i then some (.cells (cs.map (SC.den σ ov)).toArray e (0, 0)) else H k
    have hle : HLe H H' := fun k o hk => by
      have : k ≠ σ i := fun he => by subst he; rw [hbase.2] at hk; cases hk
      show (if k = σ i then _ else H k) = _
      rw [if_neg this]; exact hk
    refine hk (σ i) H' hle ⟨_, e, (0, 0), if_pos rfl, fun m u hu => ?_⟩ σ ov a w ?_
    · rw [Nat.zero_add, scVals_map hc]; simpa using hu
    · have hi : i < st.ck.length := (List.getElem?_eq_some_iff.1 hck).1
      have hget : ∀ (j : Nat) d, (shareST i (σ i) st).ck[j]? = some d → d = .dead ∨ (j ≠ i ∧ ∃ c, st.ck[j]? = some c ∧ d = c.share i (σ i)) := by
        intro j d hd
        simp only [shareST, List.getElem?_map, Option.map_eq_some_iff] at hd
        obtain ⟨c, hc1, rfl⟩ := hd
        by_cases hj : j = i
        · subst hj; rw [List.getElem?_set_self hi] at hc1; simp at hc1; subst hc1; exact .inl rfl
        · rw [List.getElem?_set_ne (Ne.symm hj)] at hc1; exact .inr ⟨hj, c, hc1, rfl⟩
      have hblk : ∀ (j : Nat) (c : Chunk), (c.share i (σ i)).blk σ ov j = c.blk σ ov j := by intro j c; cases c <;> rfl
      refine { size := r.size, defers := r.defers, slots := ?_, ext := r.ext, imm := ?_, own := ?_, base := ?_, inj := ?_ }
      · intro t sv hm
        obtain ⟨⟨t', sv'⟩, h1, h2⟩ := List.mem_map.1 hm
        simp only [Prod.mk.injEq] at h2
        obtain ⟨rfl, rfl⟩ := h2
        have hs := r.slots _ _ h1
        cases sv' with
        | c s => show _ = (s.share i (σ i)).den σ ov; rw [SC.share_den rfl]; exact hs
        | agg cs' => show _ = Value.agg ((cs'.map _).map (SC.den σ ov)).toArray; rw [share_map rfl]; exact hs
        | fn f x y => show _ = Value.func f ((x.map _).map (SC.den σ ov)).toArray ((y.map _).map (SC.den σ ov)).toArray; rw [share_map rfl, share_map rfl]; exact hs
        | grd s b v => show _ = guardVal _ b ((v.share i (σ i)).den σ ov); rw [SC.share_den rfl]; exact hs
      · intro k o hk
        by_cases he : k = σ i
        · subst he
          have : (if σ i = σ i then some (Obj.cells (cs.map (SC.den σ ov)).toArray e (0, 0)) else H (σ i)) = some o := hk
          rw [if_pos rfl] at this
          simp only [Option.some.injEq] at this
          rw [← this]; exact hown
        · have : (if k = σ i then some (Obj.cells (cs.map (SC.den σ ov)).toArray e (0, 0)) else H k) = some o := hk
          rw [if_neg he] at this
          exact r.imm k o this
      · intro j d hd
        rcases hget j d hd with rfl | ⟨_, c, hc1, rfl⟩
        · trivial
        · have := r.own j c hc1
          cases c with
          | cells cs' e' => show w.heap[σ j]? = some (.cells ((cs'.map _).map (SC.den σ ov)).toArray e' (0, 0)); rw [share_map rfl]; exact this
          | _ => exact this
      · intro j d b hd hb
        rcases hget j d hd with rfl | ⟨hj, c, hc1, rfl⟩
        · simp [Chunk.blk] at hb
        · rw [hblk] at hb
          have h1 := r.base j c b hc1 hb
          refine ⟨h1.1, ?_⟩
          show (if b = σ i then _ else H b) = none
          rw [if_neg (fun he => hj (r.inj j i c _ b hc1 hck hb (by rw [he]; rfl)))]
          exact h1.2
      · intro j l d d' b hd hd' hb1 hb2
        rcases hget j d hd with rfl | ⟨_, c, hc1, rfl⟩
        · simp [Chunk.blk] at hb1
        · rcases hget l d' hd' with rfl | ⟨_, c', hc2, rfl⟩
          · simp [Chunk.blk] at hb2
          · rw [hblk] at hb1 hb2
            exact r.inj j l c c' b hc1 hc2 hb1 hb2
  · simp at hc
/-- nil, as a slice of the call's own. -/
def ownNil (d : Nat) (e : TypeId) (sz : Nat) (st : ST) : ST := { st with fr := setSlot d (.c (.own st.ck.length)) st.fr, ck := st.ck ++ [.own e sz 0 []] }
def isNilAt (d : Nat) (st : ST) : Bool := st.wf && match lookup st.fr d with | some (.c (.val (.slice none 0 0))) => true | _ => false
theorem J.ownNil {d : Nat} {e : TypeId} {sz : Nat} (h : isNilAt d st = true) (hk : J P f root R w0 H todo (ownNil d e sz st)) : J P f root R w0 H todo st := by
  intro σ ov a w r
  unfold isNilAt at h
  rw [Bool.and_eq_true] at h
  obtain ⟨hwf, h⟩ := h
  split at h
  · rename_i hl
    have hv : a.tmps.getD d undef = .slice none 0 0 := r.slots d _ (lookup_mem hl)
    obtain ⟨σ', ov', hag, g2, r'⟩ := r.regrow hwf none (row := none) (v' := .slice none 0 0) (w' := w) (e := e) (size := sz) (n := 0) (xs := []) (by simp) (World.grownBy.refl _ _) (World.ownsRow_nil _ _ _ _) (by simp [Value.ownBlock])
    refine hk σ' ov' a w { size := r'.size, defers := r'.defers, slots := ?_, ext := r'.ext, imm := r'.imm, own := r'.own, base := r'.base, inj := r'.inj }
    intro t sv hm
    rcases setSlot_mem hm with ⟨rfl, rfl⟩ | ⟨h1, _, _⟩
    · show a.tmps.getD t undef = ov' st.ck.length
      rw [hv, g2]
    · exact r'.slots t sv h1
  · cases h
end
end Go.Sy

/- An executor for function bodies of the model over data, part PY: blocks renumbered behind a call; a nil slice in a block of the call's own. Conditions: none. -/
import Derived.Test.YtjndellhebidoaaDoorPX
namespace Go.Ev
open Go.RowKit

/-- The same blocks, under other numbers. -/
def RnW (ρ ρ' : Nat → Nat) (m : Nat) (c c' : List Chunk) : Prop :=
  (∀ (j : Nat) (x' : Chunk), c'[j]? = some x' → x' = .dead ∨ ∃ x, c[ρ' j]? = some x ∧ x' = x.map ρ ∧ ρ (ρ' j) = j ∧ ∀ i ∈ x.refs, ρ' (ρ i) = i) ∧
  (∀ j, j < m → ρ' j = j)
def Rn (m : Nat) (c c' : List Chunk) : Prop := ∃ ρ ρ' : Nat → Nat, RnW ρ ρ' m c c'
theorem Rn.refl (m : Nat) (c : List Chunk) : Rn m c c := by
  refine ⟨id, id, fun j x' h => .inr ⟨x', h, ?_, rfl, fun i _ => rfl⟩, fun j _ => rfl⟩
  have hR : ∀ r : RC, r.map id = r := fun r => by cases r <;> rfl
  have hS : ∀ s : SC, s.map id = s := fun s => by
    cases s with
    | fn f a b =>
      have e : ∀ l : List RC, l.map (RC.map id) = l := fun l => (List.map_congr_left fun r _ => hR r).trans (List.map_id l)
      show SC.fn f (a.map (RC.map id)) (b.map (RC.map id)) = _
      rw [e, e]
    | _ => rfl
  cases x' with
  | cells cs e =>
    show _ = Chunk.cells (cs.map (SC.map id)) e
    have e2 : cs.map (SC.map id) = cs := (List.map_congr_left fun s _ => hS s).trans (List.map_id cs)
    rw [e2]
  | _ => rfl
section
variable {P : Program} {f : FuncId} {root : Code} {Γ : Ctx} {Q : Out} {st : ST} {todo : List PI}
theorem WOk.renum {ck ck' : List Chunk} {V : Vn} {w : World} (r : WOk Γ ck V w) {m : Nat} (hm : Γ.m ≤ m) {ρ ρ' : Nat → Nat} (h : RnW ρ ρ' m ck ck') : ∃ V' : Vn, HLe V.H V'.H ∧ WOk Γ ck' V' w ∧ ∀ l : List Nat, (∀ i ∈ l, ρ' (ρ i) = i) → Turned ρ V V' l := by
  obtain ⟨h1, h2⟩ := h
  let V2 : Vn := ⟨V.H, fun j => V.σ (ρ' j), fun j => V.ov (ρ' j)⟩
  have hlive : ∀ (j : Nat) (x' : Chunk), ck'[j]? = some x' → x' ≠ .dead → ∃ x, ck[ρ' j]? = some x ∧ x' = x.map ρ ∧ ρ (ρ' j) = j ∧ Turned ρ V V2 (ρ' j :: x.refs) := by
    intro j x' hj hne
    rcases h1 j x' hj with e | ⟨x, g1, g2, g3, g4⟩
    · exact absurd e hne
    · refine ⟨x, g1, g2, g3, HLe.refl _, fun i hi => ?_⟩
      have e : ρ' (ρ i) = i := by
        rcases List.mem_cons.1 hi with rfl | hi
        · rw [g3]
        · exact g4 i hi
      exact ⟨congrArg V.σ e, congrArg V.ov e⟩
  have hblk : ∀ (j : Nat) (x' : Chunk) (b : Nat), ck'[j]? = some x' → x'.blk V2 j = some b → ∃ x, ck[ρ' j]? = some x ∧ x.blk V (ρ' j) = some b ∧ ρ (ρ' j) = j := by
    intro j x' b hj hb
    obtain ⟨x, g1, g2, g3, g4⟩ := hlive j x' hj (fun e => by subst e; cases hb)
    refine ⟨x, g1, ?_, g3⟩
    rw [g2] at hb
    have := Chunk.blk_map (c := x) (i := ρ' j) (g4.sub fun i hi => by rcases List.mem_singleton.1 hi with rfl; exact List.mem_cons_self)
    rw [g3] at this
    rw [← this]; exact hb
  refine ⟨V2, HLe.refl _, { ext := r.ext, imm := r.imm, hle := r.hle, frz := r.frz, agr := ?_, own := ?_, base := ?_, inj := ?_ }, fun l hl => ⟨HLe.refl _, fun i hi => ⟨congrArg V.σ (hl i hi), congrArg V.ov (hl i hi)⟩⟩⟩
  · intro i hi
    have e := h2 i (by omega)
    have h3 := r.agr i hi
    exact ⟨(congrArg V.σ e).trans h3.1, (congrArg V.ov e).trans h3.2⟩
  · intro j x' hj
    by_cases hd : x' = .dead
    · subst hd; trivial
    · obtain ⟨x, g1, g2, g3, g4⟩ := hlive j x' hj hd
      have := Chunk.holds_map g4 (r.own _ _ g1)
      rw [g3] at this
      rw [g2]; exact this
  · intro j x' b hj hb
    obtain ⟨x, g1, g2, _⟩ := hblk j x' b hj hb
    exact r.base _ x b g1 g2
  · intro i j c d b hc hd hb hb2
    obtain ⟨x, g1, g2, g3⟩ := hblk i c b hc hb
    obtain ⟨y, k1, k2, k3⟩ := hblk j d b hd hb2
    have := r.inj _ _ x y b g1 k1 g2 k2
    rw [← g3, ← k3, this]
/-- A contract whose blocks stand under one of several numberings at the end. -/
theorem Does.renum {fn : Func} {args : List SX} {ck ck' : List Chunk} {ret : SV} (hf : P.funcs[f]? = some fn) (hb : fn.body.isSome = true) (hn : Nat.ble args.length fn.ntmps = true) (hr : flatV ret = true)
    (h : ∀ Γ, J P f (bodyOf fn) Γ (fun v c => v = ret ∧ Rn ck.length c ck') [.code []] (initST fn.ntmps args ck)) : Does P f args ck ret ck' := by
  intro w V vs hw hT hv
  refine (calls_of_J hf (body_some hb) hn (Γ := entry ck V w) rfl (h _) hw hT hv).mono fun en w' hq => ?_
  obtain ⟨v, V', r, c, rfl, ⟨rfl, hc⟩, h1, h2⟩ := hq
  obtain ⟨ρ, ρ', hc⟩ := hc
  obtain ⟨V2, _, h3, _⟩ := h2.renum (m := ck.length) (Nat.le_refl _) hc
  exact ⟨v, V2, rfl, flatV_any hr h1, h3⟩
/-- Blocks renumbered within a call. -/
theorem J.renum (ρ ρ' : Nat → Nat) {ck' : List Chunk} (h : RnW ρ ρ' st.m st.ck ck') (hl : st.m ≤ ck'.length) (hs : ∀ p ∈ st.fr, ∀ i ∈ p.2.refs, ρ' (ρ i) = i)
    (hk : J P f root Γ Q todo { st with fr := st.fr.map (fun p => (p.1, p.2.map ρ)), ck := ck' }) : J P f root Γ Q todo st := by
  intro hT V a w r
  obtain ⟨V2, _, h3, h4⟩ := r.wok.renum r.few.1 h
  refine hk hT V2 a w { size := r.size, defers := r.defers, slots := ?_, wok := h3, few := ⟨r.few.1, hl⟩ }
  intro s sv hm
  obtain ⟨⟨s', sv'⟩, h5, h6⟩ := List.mem_map.1 hm
  simp only [Prod.mk.injEq] at h6
  obtain ⟨rfl, rfl⟩ := h6
  exact (r.slots _ _ h5).map (h4 _ (hs _ h5))
/-- A nil slice in a block of the call's own: an empty slice that the call owns. -/
theorem J.nilCk (i k : Nat) (e : TypeId) (t : ETy) {cs : List SC} {E : TypeId} (hc : st.ck[i]? = some (.cells cs E)) (hk : cs[k]? = some (.pd (.v (.slice none 0 0)))) (hwf : st.wf = true)
    (hj : J P f root Γ Q todo { st with ck := st.ck.set i (.cells (cs.set k (.own st.ck.length)) E) ++ [.own e t []] }) : J P f root Γ Q todo st := by
  intro hT V a w r
  have hwf2 : ckWf st.ck = true := by simp only [ST.wf, Bool.and_eq_true] at hwf; exact hwf.2
  have hwf1 := hwf
  simp only [ST.wf, Bool.and_eq_true] at hwf1
  obtain ⟨V', hag, _, _, e2, hw⟩ := r.wok.regrow hwf2 (Nat.le_trans r.few.1 r.few.2) none (c := .own e t []) (v' := .slice none 0 0) (s' := 0) (w' := w) (row := none) (by simp) (World.grownBy.refl _ _) (fun V' hag hH f1 f2 => by
    refine ⟨⟨[], ?_, .nil, fun b hb => by rw [f2] at hb; simp [Value.ownBlock] at hb⟩, fun b hb => by simp [Chunk.blk, f2, Value.ownBlock] at hb⟩
    rw [f2]; exact World.ownsRow_nil w 0 e t.size)
  have hi : i < st.ck.length := (List.getElem?_eq_some_iff.1 hc).1
  have hck : (killCk none st.ck ++ [Chunk.own e t []])[i]? = some (.cells cs E) := by
    show (st.ck ++ [Chunk.own e t []])[i]? = _
    rw [List.getElem?_append_left hi]; exact hc
  have hset : st.ck.set i (.cells (cs.set k (.own st.ck.length)) E) ++ [.own e t []] = (killCk none st.ck ++ [Chunk.own e t []]).set i (.cells (cs.set k (.own st.ck.length)) E) := by
    show _ = (st.ck ++ [Chunk.own e t []]).set i _
    rw [List.set_append_left _ _ hi]
  have hlen : i < (killCk none st.ck ++ [Chunk.own e t []]).length := (List.getElem?_eq_some_iff.1 hck).1
  have hget : ∀ (j : Nat) (c : Chunk), ((killCk none st.ck ++ [Chunk.own e t []]).set i (.cells (cs.set k (.own st.ck.length)) E))[j]? = some c → (j = i ∧ c = .cells (cs.set k (.own st.ck.length)) E) ∨ (j ≠ i ∧ (killCk none st.ck ++ [Chunk.own e t []])[j]? = some c) := by
    intro j c hj
    by_cases hji : i = j
    · subst hji
      rw [List.getElem?_set_self hlen] at hj
      simp only [Option.some.injEq] at hj
      exact .inl ⟨rfl, hj.symm⟩
    · rw [List.getElem?_set_ne hji] at hj
      exact .inr ⟨fun e => hji e.symm, hj⟩
  have hblk : ∀ (j : Nat) (c : Chunk) (b : Nat), ((killCk none st.ck ++ [Chunk.own e t []]).set i (.cells (cs.set k (.own st.ck.length)) E))[j]? = some c → c.blk V' j = some b → ∃ c0, (killCk none st.ck ++ [Chunk.own e t []])[j]? = some c0 ∧ c0.blk V' j = some b := by
    intro j c b hj hb
    rcases hget j c hj with ⟨rfl, rfl⟩ | ⟨_, h2⟩
    · exact ⟨_, hck, hb⟩
    · exact ⟨c, h2, hb⟩
  refine hj hT V' a w { size := r.size, defers := r.defers, slots := ?_, wok := ?_, few := ⟨r.few.1, ?_⟩ }
  · intro s sv hm
    exact (r.slots s sv hm).agree hag (List.all_eq_true.1 hwf1.1 _ hm)
  · show WOk Γ (st.ck.set i (.cells (cs.set k (.own st.ck.length)) E) ++ [.own e t []]) V' w
    rw [hset]
    refine { ext := hw.ext, imm := hw.imm, hle := hw.hle, frz := hw.frz, agr := hw.agr, own := ?_, base := ?_, inj := ?_ }
    · intro j c hj
      rcases hget j c hj with ⟨rfl, rfl⟩ | ⟨_, h2⟩
      · obtain ⟨us, q1, q2⟩ := hw.own j _ hck
        refine ⟨us, q1, ?_⟩
        obtain ⟨u, h6, h7⟩ := q2.get hk
        have hu : u = .slice none 0 0 := by
          have h8 : PR V'.H (.v (.slice none 0 0)) u := h7
          cases h8; rfl
        have h9 := q2.set (a := SC.own st.ck.length) (b := u) (show u = V'.ov st.ck.length by rw [hu, e2]) k
        have h10 : us.set k u = us := by
          apply List.ext_getElem?
          intro x
          rw [List.getElem?_set]
          split
          · rename_i hx; subst hx
            split
            · exact h6.symm
            · rename_i hlt; rw [List.getElem?_eq_none (by omega)]
          · rfl
        rw [h10] at h9
        exact h9
      · exact hw.own j c h2
    · intro j c b hj hb
      obtain ⟨c0, h1, h2⟩ := hblk j c b hj hb
      exact hw.base j c0 b h1 h2
    · intro x y c d b hc' hd hb hb2
      obtain ⟨c0, h1, h2⟩ := hblk x c b hc' hb
      obtain ⟨d0, g1, g2⟩ := hblk y d b hd hb2
      exact hw.inj x y c0 d0 b h1 g1 h2 g2
  · show st.m ≤ (st.ck.set i (.cells (cs.set k (SC.own st.ck.length)) E) ++ [Chunk.own e t []]).length
    rw [List.length_append, List.length_set]; have := r.few.2; omega
end
end Go.Ev

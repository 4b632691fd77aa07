/- An executor for function bodies of the model over data, part PY: blocks renumbered behind a call; a nil slice in a block of the call's own. Conditions: none. An executor for function bodies of the model over data, part PZ: a slice set against nil; a contract told otherwise. Conditions: none. -/
import Derived.Test.YtjndellhebidoaaGreatDoorPX
import Derived.Lib.SliceRun
namespace Go.Ev
open Go.RowKit

section
variable {P : Program} {f : FuncId} {root : Code} {Γ : Ctx} {Q : Out} {st : ST} {todo : List PI}
theorem Does.renum {fn : Func} {args : List SX} {ck ck' : List Chunk} {ret : SV} (hf : P.funcs[f]? = some fn) (hb : fn.body.isSome = true) (hn : Nat.ble args.length fn.ntmps = true) (hr : flatV ret = true)
    (h : ∀ Γ, J P f (bodyOf fn) Γ (fun v c => v = ret ∧ Rn ck.length c ck') [.code []] (initST fn.ntmps args ck)) : Does P f args ck ret ck' := by
  intro w V vs hw hT hv
  refine (calls_of_J hf (body_some hb) hn (Γ := entry ck V w) rfl (h _) hw hT hv).mono fun en w' hq => ?_
  obtain ⟨v, V', r, c, rfl, ⟨rfl, hc⟩, h1, h2⟩ := hq
  obtain ⟨ρ, ρ', hc⟩ := hc
  obtain ⟨V2, _, h3, _⟩ := h2.renum (m := ck.length) (Nat.le_refl _) hc
  exact ⟨v, V2, rfl, flatV_any hr h1, h3⟩
theorem J.renum (ρ ρ' : Nat → Nat) {ck' : List Chunk} (h : RnW ρ ρ' st.m st.ck ck') (hl : st.m ≤ ck'.length) (hs : ∀ p ∈ st.fr, ∀ i ∈ p.2.refs, ρ' (ρ i) = i)
    (hk : J P f root Γ Q todo { st with fr := st.fr.map (fun p => (p.1, p.2.map ρ)), ck := ck' }) : J P f root Γ Q todo st := by
  intro hT V a w r
  obtain ⟨V2, _, h3, h4⟩ := r.wok.renum r.few.1 h
  refine hk hT V2 a w { size := r.size, defers := r.defers, slots := ?_, wok := h3, few := ⟨r.few.1, hl⟩ }
  intro s sv hm
  obtain ⟨⟨s', sv'⟩, h5, h6⟩ := List.mem_map.1 hm
  simp only [Prod.mk.injEq] at h6
  obtain ⟨rfl, rfl⟩ := h6
  exact (r.slots _ _ h5).map (h4 _ (hs _ h5))
theorem J.nilCk (i k : Nat) (e : TypeId) (t : ETy) {cs : List SC} {E : TypeId} (hc : st.ck[i]? = some (.cells cs E)) (hk : cs[k]? = some (.pd (.v (.slice none 0 0)))) (hwf : st.wf = true)
    (hj : J P f root Γ Q todo { st with ck := st.ck.set i (.cells (cs.set k (.own st.ck.length)) E) ++ [.own e t []] }) : J P f root Γ Q todo st := by
  intro hT V a w r
  have hwf2 : ckWf st.ck = true := by simp only [ST.wf, Bool.and_eq_true] at hwf; exact hwf.2
  have hwf1 := hwf
  simp only [ST.wf, Bool.and_eq_true] at hwf1
  obtain ⟨V', hag, _, _, e2, hw⟩ := r.wok.regrow hwf2 (Nat.le_trans r.few.1 r.few.2) none (c := .own e t []) (v' := .slice none 0 0) (s' := 0) (w' := w) (row := none) (by simp) (World.grownBy.refl _ _) (fun V' hag hH f1 f2 => by
    refine ⟨⟨[], ?_, .nil, fun b hb => by rw [f2] at hb; simp [Value.ownBlock] at hb⟩, fun b hb => by simp [Chunk.blk, f2, Value.ownBlock] at hb⟩
    rw [f2]; exact World.ownsRow_nil w 0 e t.size)
  have hi : i < st.ck.length := (List.getElem?_eq_some_iff.1 hc).1
  have hck : (killCk none st.ck ++ [Chunk.own e t []])[i]? = some (.cells cs E) := by
    show (st.ck ++ [Chunk.own e t []])[i]? = _
    rw [List.getElem?_append_left hi]; exact hc
  have hset : st.ck.set i (.cells (cs.set k (.own st.ck.length)) E) ++ [.own e t []] = (killCk none st.ck ++ [Chunk.own e t []]).set i (.cells (cs.set k (.own st.ck.length)) E) := by
    show _ = (st.ck ++ [Chunk.own e t []]).set i _
    rw [List.set_append_left _ _ hi]
  have hlen : i < (killCk none st.ck ++ [Chunk.own e t []]).length := (List.getElem?_eq_some_iff.1 hck).1
  have hget : ∀ (j : Nat) (c : Chunk), ((killCk none st.ck ++ [Chunk.own e t []]).set i (.cells (cs.set k (.own st.ck.length)) E))[j]? = some c → (j = i ∧ c = .cells (cs.set k (.own st.ck.length)) E) ∨ (j ≠ i ∧ (killCk none st.ck ++ [Chunk.own e t []])[j]? = some c) := by
    intro j c hj
    by_cases hji : i = j
    · subst hji
      rw [List.getElem?_set_self hlen] at hj
      simp only [Option.some.injEq] at hj
      exact .inl ⟨rfl, hj.symm⟩
    · rw [List.getElem?_set_ne hji] at hj
      exact .inr ⟨fun e => hji e.symm, hj⟩
  have hblk : ∀ (j : Nat) (c : Chunk) (b : Nat), ((killCk none st.ck ++ [Chunk.own e t []]).set i (.cells (cs.set k (.own st.ck.length)) E))[j]? = some c → c.blk V' j = some b → ∃ c0, (killCk none st.ck ++ [Chunk.own e t []])[j]? = some c0 ∧ c0.blk V' j = some b := by
    intro j c b hj hb
    rcases hget j c hj with ⟨rfl, rfl⟩ | ⟨_, h2⟩
    · exact ⟨_, hck, hb⟩
    · exact ⟨c, h2, hb⟩
  refine hj hT V' a w { size := r.size, defers := r.defers, slots := ?_, wok := ?_, few := ⟨r.few.1, ?_⟩ }
  · intro s sv hm
    exact (r.slots s sv hm).agree hag (List.all_eq_true.1 hwf1.1 _ hm)
  · show WOk Γ (st.ck.set i (.cells (cs.set k (.own st.ck.length)) E) ++ [.own e t []]) V' w
    rw [hset]
    refine { ext := hw.ext, imm := hw.imm, hle := hw.hle, frz := hw.frz, agr := hw.agr, own := ?_, base := ?_, inj := ?_ }
    · intro j c hj
      rcases hget j c hj with ⟨rfl, rfl⟩ | ⟨_, h2⟩
      · obtain ⟨us, q1, q2⟩ := hw.own j _ hck
        refine ⟨us, q1, ?_⟩
        obtain ⟨u, h6, h7⟩ := q2.get hk
        have hu : u = .slice none 0 0 := by
          have h8 : PR V'.H (.v (.slice none 0 0)) u := h7
          cases h8; rfl
        have h9 := q2.set (a := SC.own st.ck.length) (b := u) (show u = V'.ov st.ck.length by rw [hu, e2]) k
        have h10 : us.set k u = us := by
          apply List.ext_getElem?
          intro x
          rw [List.getElem?_set]
          split
          · rename_i hx; subst hx
            split
            · exact h6.symm
            · rename_i hlt; rw [List.getElem?_eq_none (by omega)]
          · rfl
        rw [h10] at h9
        exact h9
      · exact hw.own j c h2
    · intro j c b hj hb
      obtain ⟨c0, h1, h2⟩ := hblk j c b hj hb
      exact hw.base j c0 b h1 h2
    · intro x y c d b hc' hd hb hb2
      obtain ⟨c0, h1, h2⟩ := hblk x c b hc' hb
      obtain ⟨d0, g1, g2⟩ := hblk y d b hd hb2
      exact hw.inj x y c0 d0 b h1 g1 h2 g2
  · show st.m ≤ (st.ck.set i (.cells (cs.set k (SC.own st.ck.length)) E) ++ [Chunk.own e t []]).length
    rw [List.length_append, List.length_set]; have := r.few.2; omega
end
end Go.Ev
namespace Go.Ev
open Go.RowKit

def nilRun (P : Program) (root : Code) (p : List Nat) (i : Nat) (st : ST) : Option (Nat × Nat) :=
  match (opsOf (sub root p))[i]? with
  | some o => match o.guard, o.dst, o.op with
    | none, some d, .binOp .eql ty (.tmp s) (.const (.slice none 0 0)) _ => match P.underlying ty, lookup st.fr s with
      | some (.slice _), some (.x (.c (.pd (.lst _ _)))) => bif Nat.blt d st.n then some (d, s) else none
      | _, _ => none
    | _, _, _ => none
  | none => none
section
variable {P : Program} {f : FuncId} {root : Code} {Γ : Ctx} {Q : Out} {st : ST} {k : List PI}
theorem J.isNil {p : List Nat} {i d s : Nat} {t : ETy} {l : List t.den} (h : nilRun P root p i st = some (d, s)) (hl : lookup st.fr s = some (.x (.c (.pd (.lst t l)))))
    (h0 : l = [] → J P f root Γ Q (.ops p (i + 1) :: k) { st with fr := setSlot d (.x (.b true)) st.fr })
    (h1 : J P f root Γ Q (.ops p (i + 1) :: k) { st with fr := setSlot d (.x (.b false)) st.fr }) : J P f root Γ Q (.ops p i :: k) st := by
  unfold nilRun at h
  split at h
  · rename_i o ho
    split at h
    · rename_i d' ty s' yt hg hd hop
      split at h
      · rename_i e t' l' hu hlk
        cases hb : Nat.blt d' st.n
        · rw [hb] at h; cases h
        · rw [hb] at h
          simp only [cond_true, Option.some.injEq, Prod.mk.injEq] at h
          obtain ⟨rfl, rfl⟩ := h
          intro hT V a w r
          have hi : i < (opsOf (sub root p)).size := (Array.getElem?_eq_some_iff.1 ho).1
          have hsz : (opsOf (sub root p)).size - i = ((opsOf (sub root p)).size - (i + 1)) + 1 := by omega
          simp only [List.map_cons, PI.den]
          rw [hsz, List.range'_succ]
          have hv : PR V.H (.lst t l) (a.tmps.getD s' undef) := r.slots s' _ (lookup_mem hl)
          have hput : ∀ b : Bool, putOpt st (some d') (.x (.b b)) = some { st with fr := setSlot d' (.x (.b b)) st.fr } := fun b => by
            simp only [putOpt, hb, cond_true]
          have run : ∀ (ao : Option Addr) (n c : Nat), a.tmps.getD s' undef = .slice ao n c → (execOp a.eval o).run P w = .ok (.value (.bool ao.isNone)) w := by
            intro ao n c hs
            obtain ⟨dst, op, ty', pos, after, guard⟩ := o
            simp only at hop
            subst hop
            simp only [execOp]
            refine run_value ?_
            have e1 : a.eval (.tmp s') = .slice ao n c := hs
            have e2 : a.eval (.const (.slice none 0 0)) = .slice none 0 0 := rfl
            rw [e1, e2]
            simp only [Sem.run_bind, eqGuard_plain .eql ty (.tmp s') (.const (.slice none 0 0)) (a := .slice ao n c) (b := .slice none 0 0) ⟨fun _ e => (by cases e), (by intro e; cases e)⟩, Result.andThen_ok]
            rw [Lib.run_eql_slice_nil w ty e ao n c 0 0 hu]
          have hw : Region.wanted o (yielded (opsOf (sub root p)) a.tmps) = true := by simp only [Region.wanted, hg]
          have go : ∀ b : Bool, (execOp a.eval o).run P w = .ok (.value (.bool b)) w → (J P f root Γ Q (.ops p (i + 1) :: k) { st with fr := setSlot d' (.x (.b b)) st.fr }) → _ := fun b hr hj =>
            Go.Sy.Fin.op_value ho hw hr (by
              rw [hd]
              exact hj hT V _ _ (putOpt_sound r (hput b) (v := .bool b) (.bool b)))
          generalize hus : a.tmps.getD s' undef = u at hv run
          cases hv with
          | emp _ ao cap he =>
            cases ao with
            | none => exact go true (run none 0 cap rfl) (h0 rfl)
            | some x => exact go false (run (some x) 0 cap rfl) h1
          | lst _ _ b off cap cells e' fr hb' hc hm hs hh => exact go false (run _ _ cap rfl) h1
      · cases h
    · cases h
  · cases h
theorem Does.ret {args : List SX} {ck ck' : List Chunk} {ret ret' : SV} (h : Does P f args ck ret ck') (hr : ∀ (V : Vn) (v : Value), ret.R V v → ret'.R V v) : Does P f args ck ret' ck' := by
  intro w V vs hw hT hv
  refine (h w V vs hw hT hv).mono fun e w' hq => ?_
  obtain ⟨v, V', rfl, h1, h2⟩ := hq
  exact ⟨v, V', rfl, hr _ _ h1, h2⟩
theorem Does.nilOwn {fn : Func} {args : List SX} {e : TypeId} {t : ETy} {l : List t.den} (hf : P.funcs[f]? = some fn) (hb : fn.body.isSome = true) (hn : Nat.ble args.length fn.ntmps = true)
    (h : ∀ Γ, J P f (bodyOf fn) Γ (fun v ck => (v = .x (.c (.own 0)) ∧ ck = [.own e t l]) ∨ (l = [] ∧ v = .x (.c (.pd (.v (.slice none 0 0)))) ∧ ck = [])) [.code []] (initST fn.ntmps args [])) : Does P f args [] (.x (.c (.own 0))) [.own e t l] := by
  intro w V vs hw hT hv
  refine (calls_of_J hf (body_some hb) hn (Γ := entry [] V w) rfl (h _) hw hT hv).mono fun en w' hq => ?_
  obtain ⟨v, V', r, c, rfl, hc, h1, h2⟩ := hq
  rcases hc with ⟨rfl, rfl⟩ | ⟨rfl, rfl, rfl⟩
  · exact ⟨v, V', rfl, h1, h2⟩
  · have hv : v = .slice none 0 0 := by
      have h3 : PR V'.H (.v (.slice none 0 0)) v := h1
      cases h3; rfl
    obtain ⟨V2, hag, _, _, e2, hw2⟩ := h2.regrow (ck := []) rfl (Nat.zero_le _) none (c := .own e t []) (v' := .slice none 0 0) (s' := 0) (w' := w') (row := none) (by simp) (World.grownBy.refl _ _) (fun V' hag hH f1 f2 => by
      have f3 : V'.ov 0 = .slice none 0 0 := f2
      refine ⟨⟨[], ?_, .nil, fun b hb => by rw [f2] at hb; simp [Value.ownBlock] at hb⟩, fun b hb => by simp [Chunk.blk, f3, Value.ownBlock] at hb⟩
      rw [f2]; exact World.ownsRow_nil w' 0 e t.size)
    refine ⟨v, V2, rfl, ?_, hw2⟩
    show v = V2.ov 0
    rw [hv]; exact e2.symm
/-! ### blocks in another order -/
def distinct : List Nat → Bool
  | [] => true
  | a :: r => !r.any (Nat.beq a) && distinct r
theorem distinct_inj : ∀ {m : List Nat}, distinct m = true → ∀ (i j : Nat) x, m[i]? = some x → m[j]? = some x → i = j
  | [], _, i, j, x, h, _ => by simp at h
  | a :: r, hd, i, j, x, hi, hj => by
    simp only [distinct, Bool.and_eq_true, Bool.not_eq_true'] at hd
    have hn : ∀ k : Nat, r[k]? ≠ some a := fun k hk => by
      have h1 := List.any_eq_false.1 hd.1 a (List.mem_of_getElem? hk)
      simp at h1
    cases i with
    | zero =>
      simp only [List.getElem?_cons_zero, Option.some.injEq] at hi
      subst hi
      cases j with
      | zero => rfl
      | succ j => exact absurd (by simpa using hj) (hn j)
    | succ i =>
      cases j with
      | zero =>
        simp only [List.getElem?_cons_zero, Option.some.injEq] at hj
        subst hj
        exact absurd (by simpa using hi) (hn i)
      | succ j => rw [distinct_inj hd.2 i j x (by simpa using hi) (by simpa using hj)]
theorem permRn {m : List Nat} {n : Nat} {ck ck' : List Chunk} (hp : pickCk ck m = some ck') (h1 : distinct m = true) (h3 : within m (ck'.flatMap Chunk.refs) = true) (h4 : m.take n = List.range n) :
    RnW (fun i => idxIn i m 0) (fun j => m.getD j 0) n ck (ck'.map (Chunk.map fun i => idxIn i m 0)) ∧ n ≤ (ck'.map (Chunk.map fun i => idxIn i m 0)).length ∧ ∀ l, within m l = true → ∀ i ∈ l, (fun j => m.getD j 0) ((fun i => idxIn i m 0) i) = i := by
  have hpk := pickCk_get hp
  have hround : ∀ i, i ∈ m → m.getD (idxIn i m 0) 0 = i := fun i hi => by
    have := (idxIn_sound (k := 0) hi).2
    rw [Nat.sub_zero] at this
    simp [List.getD_eq_getElem?_getD, this]
  have hin : ∀ {l : List Nat}, within m l = true → ∀ i ∈ l, i ∈ m := fun hw i hi => mem_any (List.all_eq_true.1 hw i hi)
  refine ⟨⟨?_, ?_⟩, ?_, fun l hl i hi => hround i (hin hl i hi)⟩
  · intro j x' hx
    rw [List.getElem?_map, Option.map_eq_some_iff] at hx
    obtain ⟨c, hc, rfl⟩ := hx
    obtain ⟨i, hi, hci⟩ := hpk.2 j c hc
    have hgi : m.getD j 0 = i := by simp [List.getD_eq_getElem?_getD, hi]
    refine .inr ⟨c, by show ck[m.getD j 0]? = some c; rw [hgi]; exact hci, rfl, ?_, fun r hr => hround r (hin (within_flat h3 (List.mem_of_getElem? hc)) r hr)⟩
    show idxIn (m.getD j 0) m 0 = j
    rw [hgi]
    have := (idxIn_sound (k := 0) (List.mem_of_getElem? hi)).2
    rw [Nat.sub_zero] at this
    exact distinct_inj h1 _ _ i this hi
  · intro j hj
    have : (m.take n)[j]? = (List.range n)[j]? := by rw [h4]
    rw [List.getElem?_take_of_lt hj, List.getElem?_range hj] at this
    simp [List.getD_eq_getElem?_getD, this]
  · have : (m.take n).length = n := by rw [h4]; simp
    rw [List.length_take] at this
    rw [List.length_map, hpk.1]; omega
def permST (m : List Nat) (st : ST) : Option ST := match pickCk st.ck m with
  | some ck' => bif distinct m && within m (st.fr.flatMap fun p => p.2.refs) && within m (ck'.flatMap Chunk.refs) && (m.take st.m == List.range st.m) then
      some { st with fr := st.fr.map (fun p => (p.1, p.2.map fun i => idxIn i m 0)), ck := ck'.map (Chunk.map fun i => idxIn i m 0) } else none
  | none => none
theorem J.perm {todo : List PI} {st' : ST} (m : List Nat) (h : permST m st = some st') (hk : J P f root Γ Q todo st') : J P f root Γ Q todo st := by
  unfold permST at h
  split at h
  · rename_i ck' hp
    cases hb : (distinct m && within m (st.fr.flatMap fun p => p.2.refs) && within m (ck'.flatMap Chunk.refs) && (m.take st.m == List.range st.m))
    · rw [hb] at h; cases h
    · rw [hb] at h
      simp only [cond_true, Option.some.injEq] at h
      subst h
      simp only [Bool.and_eq_true, beq_iff_eq] at hb
      obtain ⟨⟨⟨h1, h2⟩, h3⟩, h4⟩ := hb
      obtain ⟨g1, g2, g3⟩ := permRn hp h1 h3 h4
      exact J.renum _ _ g1 g2 (fun p hp i hi => g3 _ h2 i (List.mem_flatMap.2 ⟨p, hp, hi⟩)) hk
  · cases h
def permV (n : Nat) (m : List Nat) (v : SV) (ck : List Chunk) : Option (SV × List Chunk) := match pickCk ck m with
  | some ck' => bif distinct m && within m v.refs && within m (ck'.flatMap Chunk.refs) && (m.take n == List.range n) then
      some (v.map fun i => idxIn i m 0, ck'.map (Chunk.map fun i => idxIn i m 0)) else none
  | none => none
theorem svR_map_in {ρ : Nat → Nat} {V V' : Vn} {sv : SV} (h : Turned ρ V V' sv.refs) {v : Value} (hr : sv.R V v) : (sv.map ρ).R V' v := by
  cases sv with
  | x s => exact SX.R_map h hr
  | tup l =>
    obtain ⟨us, rfl, h2⟩ := hr
    exact ⟨us, rfl, sxs_map h h2⟩
  | grd _ _ _ => exact hr.elim
theorem Does.perm {fn : Func} {args : List SX} {ck ck' : List Chunk} {ret : SV} (hf : P.funcs[f]? = some fn) (hb : fn.body.isSome = true) (hn : Nat.ble args.length fn.ntmps = true)
    (h : ∀ Γ, J P f (bodyOf fn) Γ (fun v c => ∃ m, permV ck.length m v c = some (ret, ck')) [.code []] (initST fn.ntmps args ck)) : Does P f args ck ret ck' := by
  intro w V vs hw hT hv
  refine (calls_of_J hf (body_some hb) hn (Γ := entry ck V w) rfl (h _) hw hT hv).mono fun en w' hq => ?_
  obtain ⟨v, V', r, c, rfl, ⟨m, hm⟩, h1, h2⟩ := hq
  unfold permV at hm
  split at hm
  · rename_i c' hp
    cases hb : (distinct m && within m r.refs && within m (c'.flatMap Chunk.refs) && (m.take ck.length == List.range ck.length))
    · rw [hb] at hm; cases hm
    · rw [hb] at hm
      simp only [cond_true, Option.some.injEq, Prod.mk.injEq] at hm
      obtain ⟨rfl, rfl⟩ := hm
      simp only [Bool.and_eq_true, beq_iff_eq] at hb
      obtain ⟨⟨⟨g1, g2⟩, g3⟩, g4⟩ := hb
      obtain ⟨k1, k2, k3⟩ := permRn hp g1 g3 g4
      obtain ⟨V2, _, k4, k5⟩ := h2.renum (m := ck.length) (Nat.le_refl _) k1
      exact ⟨v, V2, rfl, svR_map_in (k5 _ (k3 _ g2)) h1, k4⟩
  · cases hm
end
end Go.Ev

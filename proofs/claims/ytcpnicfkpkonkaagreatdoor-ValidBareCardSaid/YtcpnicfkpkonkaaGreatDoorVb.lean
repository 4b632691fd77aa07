/- An executor for function bodies of the model over data, part PY: blocks renumbered behind a call; a nil slice in a block of the call's own. Conditions: none. An executor for function bodies of the model over data, part PZ: a slice set against nil; a contract told otherwise. Conditions: none. An executor for function bodies of the model over data, part VA: a slice of the caller's own, lent to one that only reads. Conditions: each rule's own. An executor for function bodies of the model over data, part VB: a function looked up in a map that nobody writes. Conditions: each rule's own. -/
import Derived.Test.YtcpnicfkpkonkaaGreatDoorPX
import Derived.Lib.SliceRun
import Derived.MapKept
namespace Go.Ev
open Go.RowKit

section
variable {P : Program} {f : Go.Sy.Md} {root : Code} {Γ : Ctx} {Q : Out} {st : ST} {todo : List PI}
theorem Does.renum {f : FuncId} {fn : Func} {args : List SX} {ck ck' : List Chunk} {ret : SV} (hf : P.funcs[f]? = some fn) (hb : fn.body.isSome = true) (hn : Nat.ble args.length fn.ntmps = true) (hr : flatV ret = true)
    (h : ∀ Γ, J P f (bodyOf fn) Γ (fun v c => v = ret ∧ Rn ck.length c ck') [.code []] (initST fn.ntmps args ck)) : Does P f args ck ret ck' := by
  intro w V vs hw hT hv
  refine (calls_of_J hf (body_some hb) hn (Γ := entry ck V w) rfl (h _) hw hT hv).mono fun en w' hq => ?_
  obtain ⟨v, V', r, c, rfl, ⟨rfl, hc⟩, h1, h2⟩ := hq
  obtain ⟨ρ, ρ', hc⟩ := hc
  obtain ⟨V2, _, h3, _⟩ := h2.renum (m := ck.length) (Nat.le_refl _) hc
  exact ⟨v, V2, rfl, flatV_any hr h1, h3⟩
theorem J.renum (ρ ρ' : Nat → Nat) {ck' : List Chunk} (h : RnW ρ ρ' st.m st.ck ck') (hl : st.m ≤ ck'.length) (hs : ∀ p ∈ st.fr, ∀ i ∈ p.2.refs, ρ' (ρ i) = i)
    (hk : J P f root Γ Q todo { st with fr := st.fr.map (fun p => (p.1, p.2.map ρ)), ck := ck' }) : J P f root Γ Q todo st := by
  intro hT V a w r
  obtain ⟨V2, _, h3, h4⟩ := r.wok.renum r.few.1 h
  refine hk hT V2 a w { size := r.size, defers := r.defers, slots := ?_, wok := h3, few := ⟨r.few.1, hl⟩ }
  intro s sv hm
  obtain ⟨⟨s', sv'⟩, h5, h6⟩ := List.mem_map.1 hm
  simp only [Prod.mk.injEq] at h6
  obtain ⟨rfl, rfl⟩ := h6
  exact (r.slots _ _ h5).map (h4 _ (hs _ h5))
theorem J.nilCk (i k : Nat) (e : TypeId) (t : ETy) {cs : List SC} {E : TypeId} (hc : st.ck[i]? = some (.cells cs E)) (hk : cs[k]? = some (.pd (.v (.slice none 0 0)))) (hwf : st.wf = true)
    (hj : J P f root Γ Q todo { st with ck := st.ck.set i (.cells (cs.set k (.own st.ck.length)) E) ++ [.own e t []] }) : J P f root Γ Q todo st := by
  intro hT V a w r
  have hwf2 : ckWf st.ck = true := by simp only [ST.wf, Bool.and_eq_true] at hwf; exact hwf.2
  have hwf1 := hwf
  simp only [ST.wf, Bool.and_eq_true] at hwf1
  obtain ⟨V', hag, _, _, e2, hw⟩ := r.wok.regrow hwf2 (Nat.le_trans r.few.1 r.few.2) none (c := .own e t []) (v' := .slice none 0 0) (s' := 0) (w' := w) (row := none) (by simp) (World.grownBy.refl _ _) (fun V' hag hH f1 f2 => by
    refine ⟨⟨[], ?_, .nil, fun b hb => by rw [f2] at hb; simp [Value.ownBlock] at hb⟩, fun b hb => by simp [Chunk.blk, f2, Value.ownBlock] at hb⟩
    rw [f2]; exact World.ownsRow_nil w 0 e t.size)
  have hi : i < st.ck.length := (List.getElem?_eq_some_iff.1 hc).1
  have hck : (killCk none st.ck ++ [Chunk.own e t []])[i]? = some (.cells cs E) := by
    show (st.ck ++ [Chunk.own e t []])[i]? = _
    rw [List.getElem?_append_left hi]; exact hc
  have hset : st.ck.set i (.cells (cs.set k (.own st.ck.length)) E) ++ [.own e t []] = (killCk none st.ck ++ [Chunk.own e t []]).set i (.cells (cs.set k (.own st.ck.length)) E) := by
    show _ = (st.ck ++ [Chunk.own e t []]).set i _
    rw [List.set_append_left _ _ hi]
  have hlen : i < (killCk none st.ck ++ [Chunk.own e t []]).length := (List.getElem?_eq_some_iff.1 hck).1
  have hget : ∀ (j : Nat) (c : Chunk), ((killCk none st.ck ++ [Chunk.own e t []]).set i (.cells (cs.set k (.own st.ck.length)) E))[j]? = some c → (j = i ∧ c = .cells (cs.set k (.own st.ck.length)) E) ∨ (j ≠ i ∧ (killCk none st.ck ++ [Chunk.own e t []])[j]? = some c) := by
    intro j c hj
    by_cases hji : i = j
    · subst hji
      rw [List.getElem?_set_self hlen] at hj
      simp only [Option.some.injEq] at hj
      exact .inl ⟨rfl, hj.symm⟩
    · rw [List.getElem?_set_ne hji] at hj
      exact .inr ⟨fun e => hji e.symm, hj⟩
  have hblk : ∀ (j : Nat) (c : Chunk) (b : Nat), ((killCk none st.ck ++ [Chunk.own e t []]).set i (.cells (cs.set k (.own st.ck.length)) E))[j]? = some c → c.blk V' j = some b → ∃ c0, (killCk none st.ck ++ [Chunk.own e t []])[j]? = some c0 ∧ c0.blk V' j = some b := by
    intro j c b hj hb
    rcases hget j c hj with ⟨rfl, rfl⟩ | ⟨_, h2⟩
    · exact ⟨_, hck, hb⟩
    · exact ⟨c, h2, hb⟩
  refine hj hT V' a w { size := r.size, defers := r.defers, slots := ?_, wok := ?_, few := ⟨r.few.1, ?_⟩ }
  · intro s sv hm
    exact (r.slots s sv hm).agree hag (List.all_eq_true.1 hwf1.1 _ hm)
  · show WOk Γ (st.ck.set i (.cells (cs.set k (.own st.ck.length)) E) ++ [.own e t []]) V' w
    rw [hset]
    refine { ext := hw.ext, imm := hw.imm, hle := hw.hle, frz := hw.frz, agr := hw.agr, own := ?_, base := ?_, inj := ?_ }
    · intro j c hj
      rcases hget j c hj with ⟨rfl, rfl⟩ | ⟨_, h2⟩
      · obtain ⟨us, q1, q2⟩ := hw.own j _ hck
        refine ⟨us, q1, ?_⟩
        obtain ⟨u, h6, h7⟩ := q2.get hk
        have hu : u = .slice none 0 0 := by
          have h8 : PR V'.H (.v (.slice none 0 0)) u := h7
          cases h8; rfl
        have h9 := q2.set (a := SC.own st.ck.length) (b := u) (show u = V'.ov st.ck.length by rw [hu, e2]) k
        have h10 : us.set k u = us := by
          apply List.ext_getElem?
          intro x
          rw [List.getElem?_set]
          split
          · rename_i hx; subst hx
            split
            · exact h6.symm
            · rename_i hlt; rw [List.getElem?_eq_none (by omega)]
          · rfl
        rw [h10] at h9
        exact h9
      · exact hw.own j c h2
    · intro j c b hj hb
      obtain ⟨c0, h1, h2⟩ := hblk j c b hj hb
      exact hw.base j c0 b h1 h2
    · intro x y c d b hc' hd hb hb2
      obtain ⟨c0, h1, h2⟩ := hblk x c b hc' hb
      obtain ⟨d0, g1, g2⟩ := hblk y d b hd hb2
      exact hw.inj x y c0 d0 b h1 g1 h2 g2
  · show st.m ≤ (st.ck.set i (.cells (cs.set k (SC.own st.ck.length)) E) ++ [Chunk.own e t []]).length
    rw [List.length_append, List.length_set]; have := r.few.2; omega
end
end Go.Ev
namespace Go.Ev
open Go.RowKit

def nilRun (P : Program) (root : Code) (p : List Nat) (i : Nat) (st : ST) : Option (Nat × Nat) :=
  match (opsOf (sub root p))[i]? with
  | some o => match o.guard, o.dst, o.op with
    | none, some d, .binOp .eql ty (.tmp s) (.const (.slice none 0 0)) _ => match P.underlying ty, lookup st.fr s with
      | some (.slice _), some (.x (.c (.pd (.lst _ _)))) => bif Nat.blt d st.n then some (d, s) else none
      | _, _ => none
    | _, _, _ => none
  | none => none
section
variable {P : Program} {f : Go.Sy.Md} {root : Code} {Γ : Ctx} {Q : Out} {st : ST} {k : List PI}
theorem J.isNil {p : List Nat} {i d s : Nat} {t : ETy} {l : List t.den} (h : nilRun P root p i st = some (d, s)) (hl : lookup st.fr s = some (.x (.c (.pd (.lst t l)))))
    (h0 : l = [] → J P f root Γ Q (.ops p (i + 1) :: k) { st with fr := setSlot d (.x (.b true)) st.fr })
    (h1 : J P f root Γ Q (.ops p (i + 1) :: k) { st with fr := setSlot d (.x (.b false)) st.fr }) : J P f root Γ Q (.ops p i :: k) st := by
  unfold nilRun at h
  split at h
  · rename_i o ho
    split at h
    · rename_i d' ty s' yt hg hd hop
      split at h
      · rename_i e t' l' hu hlk
        cases hb : Nat.blt d' st.n
        · rw [hb] at h; cases h
        · rw [hb] at h
          simp only [cond_true, Option.some.injEq, Prod.mk.injEq] at h
          obtain ⟨rfl, rfl⟩ := h
          intro hT V a w r
          have hi : i < (opsOf (sub root p)).size := (Array.getElem?_eq_some_iff.1 ho).1
          have hsz : (opsOf (sub root p)).size - i = ((opsOf (sub root p)).size - (i + 1)) + 1 := by omega
          simp only [List.map_cons, PI.den]
          rw [hsz, List.range'_succ]
          have hv : PR V.H (.lst t l) (a.tmps.getD s' undef) := r.slots s' _ (lookup_mem hl)
          have hput : ∀ b : Bool, putOpt st (some d') (.x (.b b)) = some { st with fr := setSlot d' (.x (.b b)) st.fr } := fun b => by
            simp only [putOpt, hb, cond_true]
          have run : ∀ (ao : Option Addr) (n c : Nat), a.tmps.getD s' undef = .slice ao n c → (execOp a.eval o).run P w = .ok (.value (.bool ao.isNone)) w := by
            intro ao n c hs
            obtain ⟨dst, op, ty', pos, after, guard⟩ := o
            simp only at hop
            subst hop
            simp only [execOp]
            refine run_value ?_
            have e1 : a.eval (.tmp s') = .slice ao n c := hs
            have e2 : a.eval (.const (.slice none 0 0)) = .slice none 0 0 := rfl
            rw [e1, e2]
            simp only [Sem.run_bind, eqGuard_plain .eql ty (.tmp s') (.const (.slice none 0 0)) (a := .slice ao n c) (b := .slice none 0 0) ⟨fun _ e => (by cases e), (by intro e; cases e)⟩, Result.andThen_ok]
            rw [Lib.run_eql_slice_nil w ty e ao n c 0 0 hu]
          have hw : Region.wanted o (yielded (opsOf (sub root p)) a.tmps) = true := by simp only [Region.wanted, hg]
          have go : ∀ b : Bool, (execOp a.eval o).run P w = .ok (.value (.bool b)) w → (J P f root Γ Q (.ops p (i + 1) :: k) { st with fr := setSlot d' (.x (.b b)) st.fr }) → _ := fun b hr hj =>
            Go.Sy.Fin.op_value ho hw hr (by
              rw [hd]
              exact hj hT V _ _ (putOpt_sound r (hput b) (v := .bool b) (.bool b)))
          generalize hus : a.tmps.getD s' undef = u at hv run
          cases hv with
          | emp _ ao cap he =>
            cases ao with
            | none => exact go true (run none 0 cap rfl) (h0 rfl)
            | some x => exact go false (run (some x) 0 cap rfl) h1
          | lst _ _ b off cap cells e' fr hb' hc hm hs hh => exact go false (run _ _ cap rfl) h1
      · cases h
    · cases h
  · cases h
theorem Does.ret {f : FuncId} {args : List SX} {ck ck' : List Chunk} {ret ret' : SV} (h : Does P f args ck ret ck') (hr : ∀ (V : Vn) (v : Value), ret.R V v → ret'.R V v) : Does P f args ck ret' ck' := by
  intro w V vs hw hT hv
  refine (h w V vs hw hT hv).mono fun e w' hq => ?_
  obtain ⟨v, V', rfl, h1, h2⟩ := hq
  exact ⟨v, V', rfl, hr _ _ h1, h2⟩
theorem Does.nilOwn {f : FuncId} {fn : Func} {args : List SX} {e : TypeId} {t : ETy} {l : List t.den} (hf : P.funcs[f]? = some fn) (hb : fn.body.isSome = true) (hn : Nat.ble args.length fn.ntmps = true)
    (h : ∀ Γ, J P f (bodyOf fn) Γ (fun v ck => (v = .x (.c (.own 0)) ∧ ck = [.own e t l]) ∨ (l = [] ∧ v = .x (.c (.pd (.v (.slice none 0 0)))) ∧ ck = [])) [.code []] (initST fn.ntmps args [])) : Does P f args [] (.x (.c (.own 0))) [.own e t l] := by
  intro w V vs hw hT hv
  refine (calls_of_J hf (body_some hb) hn (Γ := entry [] V w) rfl (h _) hw hT hv).mono fun en w' hq => ?_
  obtain ⟨v, V', r, c, rfl, hc, h1, h2⟩ := hq
  rcases hc with ⟨rfl, rfl⟩ | ⟨rfl, rfl, rfl⟩
  · exact ⟨v, V', rfl, h1, h2⟩
  · have hv : v = .slice none 0 0 := by
      have h3 : PR V'.H (.v (.slice none 0 0)) v := h1
      cases h3; rfl
    obtain ⟨V2, hag, _, _, e2, hw2⟩ := h2.regrow (ck := []) rfl (Nat.zero_le _) none (c := .own e t []) (v' := .slice none 0 0) (s' := 0) (w' := w') (row := none) (by simp) (World.grownBy.refl _ _) (fun V' hag hH f1 f2 => by
      have f3 : V'.ov 0 = .slice none 0 0 := f2
      refine ⟨⟨[], ?_, .nil, fun b hb => by rw [f2] at hb; simp [Value.ownBlock] at hb⟩, fun b hb => by simp [Chunk.blk, f3, Value.ownBlock] at hb⟩
      rw [f2]; exact World.ownsRow_nil w' 0 e t.size)
    refine ⟨v, V2, rfl, ?_, hw2⟩
    show v = V2.ov 0
    rw [hv]; exact e2.symm
/-! ### blocks in another order -/
end
end Go.Ev
namespace Go.Ev
open Go.RowKit

section
variable {P : Program} {f : FuncId}
theorem Does.mark {args : List SX} {ck ck' : List Chunk} {ret : SV} (h : Does P f args ck ret ck') : Does P f args ck ret (ck' ++ [.dead]) := by
  intro w V vs hw hT hv
  refine (h w V vs hw hT hv).mono fun en w' hq => ?_
  obtain ⟨v, V', rfl, h1, h2⟩ := hq
  refine ⟨v, V', rfl, h1, h2.sub fun x c hc => ?_⟩
  by_cases hx : x < ck'.length
  · right; rwa [List.getElem?_append_left hx] at hc
  · left
    rw [List.getElem?_append_right (by omega)] at hc
    exact (List.mem_singleton.1 (List.mem_of_getElem? hc))
end
end Go.Ev
namespace Go.Ev
open Go.RowKit

def tblGet : List (Str × Nat) → Str → Option Nat
  | [], _ => none
  | p :: r, s => bif p.1 == s then some p.2 else tblGet r s
theorem bs_inj {a b : Str} (h : bs a = bs b) : a = b := by
  have := congrArg (fun x : ByteArray => x.data.toList) h
  simpa [bs_toList] using this
theorem findNow_tbl (s : Str) : ∀ (l : List (Str × Nat)) (es : List MapEntry) (i : Nat), es.map (fun e => (e.key, e.val)) = l.map (fun p => (Value.string (bs p.1), Value.func (.func p.2) #[] #[])) →
    ∃ r, Instr.findNow .string (.string (bs s)) es i = some r ∧ r.map (·.2) = (tblGet l s).map fun f => Value.func (.func f) #[] #[]
  | [], es, i, h => by
    have : es = [] := by simpa using h
    subst this
    exact ⟨none, rfl, rfl⟩
  | p :: l, es, i, h => by
    cases es with
    | nil => simp at h
    | cons e es =>
      simp only [List.map_cons, List.cons.injEq, Prod.mk.injEq] at h
      obtain ⟨⟨h1, h2⟩, h3⟩ := h
      have hs : Instr.sameNow .string (.string (bs s)) e.key = some (p.1 == s) := by
        rw [h1]
        show some (bs s == bs p.1) = _
        congr 1
        cases hb : p.1 == s
        · cases hc : (bs s == bs p.1)
          · rfl
          · rw [beq_eq_false_iff_ne] at hb
            exact absurd (bs_inj ((MapKept.bytes_beq _ _).1 hc)).symm hb
        · rw [eq_of_beq hb]; exact (MapKept.bytes_beq _ _).2 rfl
      cases hb : p.1 == s
      · obtain ⟨r, g1, g2⟩ := findNow_tbl s l es (i + 1) h3
        refine ⟨r, ?_, ?_⟩
        · simp only [Instr.findNow, hs, hb]; exact g1
        · simp only [tblGet, hb, cond_false]; exact g2
      · refine ⟨some (i, e.val), ?_, ?_⟩
        · simp only [Instr.findNow, hs, hb]
        · simp only [tblGet, hb, cond_true, Option.map_some, h2]
theorem run_lookup_tbl {P : Program} {w : World} {t kt et : TypeId} {r clock : Nat} {es : Array MapEntry} {l : List (Str × Nat)} (ht : P.underlying t = some (.map kt et)) (hk : P.underlying kt = some .string) (hb : w.heap[r]? = some (.map es clock))
    (h : es.toList.map (fun e => (e.key, e.val)) = l.map fun p => (Value.string (bs p.1), Value.func (.func p.2) #[] #[])) (s : Str) {z : Value} (hz : tblGet l s = none → (zeroValue et).run P w = .ok z w) :
    (Instr.lookup t (.map (some r)) (.string (bs s)) false).run P w = .ok (match tblGet l s with | some f => .func (.func f) #[] #[] | none => z) w := by
  obtain ⟨q, h1, h2⟩ := findNow_tbl s l es.toList 0 h
  have hc : ∀ b, (Instr.checkKey b 10000 kt (.string (bs s))).run P w = .ok () w := fun b => by
    rw [show (10000 : Nat) = 9999 + 1 from rfl, Instr.checkKey]
    simp only [Sem.run_bind, run_underlying hk, Result.andThen_ok]
    rfl
  have hf : (Instr.findKey kt (.string (bs s)) es.toList).run P w = .ok q w := by
    simp [Instr.findKey, run_underlying hk, h1, Result.andThen]
  cases hg : tblGet l s with
  | none =>
    rw [hg] at h2
    have hq : q = none := by cases q with | none => rfl | some x => simp at h2
    subst hq
    simp [Instr.lookup, run_underlying ht, MapKept.run_getObj_map hb, hc, hf, hz hg, Result.andThen]
  | some f =>
    rw [hg] at h2
    cases q with
    | none => simp at h2
    | some x =>
      obtain ⟨i, v⟩ := x
      simp only [Option.map_some, Option.some.injEq] at h2
      subst h2
      simp [Instr.lookup, run_underlying ht, MapKept.run_getObj_map hb, hc, hf, Result.andThen]
def lookRun (P : Program) (root : Code) (p : List Nat) (i : Nat) (st : ST) : Option (Nat × Nat × Operand × TypeId) :=
  match (opsOf (sub root p))[i]? with
  | some o => match o.guard, o.dst, o.op with
    | none, some d, .lookup ty (.tmp m) k false => match P.underlying ty with
      | some (.map kt et) => match P.underlying kt with
        | some .string => bif Nat.blt d st.n then some (d, m, k, et) else none
        | _ => none
      | _ => none
    | _, _, _ => none
  | none => none
section
variable {P : Program} {f : Go.Sy.Md} {root : Code} {Γ : Ctx} {Q : Out} {st : ST} {k : List PI}
theorem J.lookup {p : List Nat} {i d m : Nat} {kx : Operand} {et : TypeId} {l : List (Str × Nat)} {s : Str} (h : lookRun P root p i st = some (d, m, kx, et)) (hm : lookup st.fr m = some (.x (.c (.pd (.tbl l))))) (hs : evalO st none kx = some (.c (.pd (.str s)))) {z : PD} {zv : Value} (hz : constX zv = some (.c (.pd z)))
    (hzr : tblGet l s = none → ∀ w : World, (zeroValue et).run P w = .ok zv w)
    (hk : J P f root Γ Q (.ops p (i + 1) :: k) { st with fr := setSlot d (.x (match tblGet l s with | some g => .c (.fn (.func g) [] []) | none => .c (.pd z))) st.fr }) : J P f root Γ Q (.ops p i :: k) st := by
  unfold lookRun at h
  split at h
  · rename_i o ho
    split at h
    · rename_i d' ty m' k' hg hd hop
      split at h
      · rename_i kt et' hu
        split at h
        · rename_i hus
          cases hb : Nat.blt d' st.n
          · rw [hb] at h; cases h
          · rw [hb] at h
            simp only [cond_true, Option.some.injEq, Prod.mk.injEq] at h
            obtain ⟨rfl, rfl, rfl, rfl⟩ := h
            intro hT V a w r
            have hi : i < (opsOf (sub root p)).size := (Array.getElem?_eq_some_iff.1 ho).1
            have hsz : (opsOf (sub root p)).size - i = ((opsOf (sub root p)).size - (i + 1)) + 1 := by omega
            simp only [List.map_cons, PI.den]
            rw [hsz, List.range'_succ]
            have hv : PR V.H (.tbl l) (a.tmps.getD m' undef) := r.slots m' _ (lookup_mem hm)
            have hs2 : PR V.H (.str s) (a.eval k') := evalO_sound r (g := none) trivial hs
            have hw : Region.wanted o (yielded (opsOf (sub root p)) a.tmps) = true := by simp only [Region.wanted, hg]
            have hput : ∀ sx : SX, putOpt st (some d') (.x sx) = some { st with fr := setSlot d' (.x sx) st.fr } := fun sx => by simp only [putOpt, hb, cond_true]
            have e1 : a.eval (.tmp m') = a.tmps.getD m' undef := rfl
            generalize hus2 : a.tmps.getD m' undef = u at hv e1
            generalize hks : a.eval k' = ks at hs2
            cases hs2
            cases hv with
            | tbl _ b es clock hbk hes =>
              have hrun := run_lookup_tbl (P := P) (w := w) (t := ty) (kt := kt) (et := et') hu hus (r.wok.imm _ _ hbk) hes s (z := zv) (fun hn => hzr hn w)
              have hr : (execOp a.eval o).run P w = .ok (.value (match tblGet l s with | some f => .func (.func f) #[] #[] | none => zv)) w := by
                obtain ⟨dst, op, ty', pos, after, guard⟩ := o
                simp only at hop
                subst hop
                simp only [execOp]
                refine run_value ?_
                rw [e1, hks]; exact hrun
              refine Go.Sy.Fin.op_value ho hw hr ?_
              rw [hd]
              refine hk hT V _ _ (putOpt_sound r (hput _) ?_)
              cases tblGet l s with
              | none => exact constX_R hz
              | some g => exact ⟨[], [], rfl, .nil, .nil⟩
        · cases h
      · cases h
    · cases h
  · cases h
end
end Go.Ev

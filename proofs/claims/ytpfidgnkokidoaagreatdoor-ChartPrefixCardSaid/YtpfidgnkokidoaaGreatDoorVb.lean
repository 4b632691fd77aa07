/- An executor for function bodies of the model over data, part PY: blocks renumbered behind a call; a nil slice in a block of the call's own. Conditions: none. An executor for function bodies of the model over data, part PZ: a slice set against nil; a contract told otherwise. Conditions: none. An executor for function bodies of the model over data, part VB: a function looked up in a map that nobody writes. Conditions: each rule's own. -/
import Derived.Test.YtpfidgnkokidoaaGreatDoorPX
import Derived.Lib.SliceRun
import Derived.MapKept
namespace Go.Ev
open Go.RowKit
section
variable {P : Program} {f : FuncId} {root : Code} {Γ : Ctx} {Q : Out} {st : ST} {todo : List PI}
theorem ah.renum {fn : Func} {args : List SX} {ck ck' : List Chunk} {ret : SV} (hf : P.funcs[f]? = some fn) (hb : fn.body.isSome = true) (hn : Nat.ble args.length fn.ntmps = true) (hr : p8 ret = true)
 (h : ∀ Γ, J P f (aE fn) Γ (fun v c => v = ret ∧ Rn ck.length c ck') [.code []] (b6 fn.ntmps args ck)) : ah P f args ck ret ck' := by
 intro w V vs hw hT hv
 refine (gN hf (iA hb) hn (Γ := entry ck V w) rfl (h _) hw hT hv).mono fun en w' hq => ?_
 obtain ⟨v, V', r, c, rfl, ⟨rfl, hc⟩, h1, h2⟩ := hq
 obtain ⟨ρ, ρ', hc⟩ := hc
 obtain ⟨V2, _, h3, _⟩ := h2.renum (m := ck.length) (ay _) hc
 exact ⟨v, V2, rfl, rC hr h1, h3⟩
theorem J.renum (ρ ρ' : Nat → Nat) {ck' : List Chunk} (h : RnW ρ ρ' st.m st.ck ck') (hl : st.m ≤ ck'.length) (hs : ∀ p ∈ st.fr, ∀ i ∈ p.2.refs, ρ' (ρ i) = i)
 (hk : J P f root Γ Q todo { st with fr := st.fr.map (fun p => (p.1, p.2.map ρ)), ck := ck' }) : J P f root Γ Q todo st := by
 intro hT V a w r
 obtain ⟨V2, _, h3, h4⟩ := r.wok.renum r.few.1 h
 refine hk hT V2 a w { size := r.size, defers := r.defers, slots := ?_, wok := h3, few := ⟨r.few.1, hl⟩ }
 intro s sv hm
 obtain ⟨⟨s', sv'⟩, h5, h6⟩ := bp.1 hm
 simp only [ab] at h6
 obtain ⟨rfl, rfl⟩ := h6
 exact (r.slots _ _ h5).map (h4 _ (hs _ h5))
theorem J.nilCk (i k : Nat) (e : TypeId) (t : ETy) {cs : List SC} {E : TypeId} (hc : st.ck[i]? = some (.cells cs E)) (hk : cs[k]? = some (.pd (.v (.slice none 0 0)))) (hwf : st.wf = true)
 (hj : J P f root Γ Q todo { st with ck := st.ck.set i (.cells (cs.set k (.own st.ck.length)) E) ++ [.own e t []] }) : J P f root Γ Q todo st := by
 intro hT V a w r
 have hwf2 : fK st.ck = true := by simp only [ST.wf, af] at hwf; exact hwf.2
 have hwf1 := hwf
 simp only [ST.wf, af] at hwf1
 obtain ⟨V', hag, _, _, e2, hw⟩ := r.wok.regrow hwf2 (a6 r.few.1 r.few.2) none (c := .own e t []) (v' := .slice none 0 0) (s' := 0) (w' := w) (row := none) (by simp) (World.grownBy.refl _ _) (fun V' hag hH f1 f2 => by
  refine ⟨⟨[], ?_, .nil, fun b hb => by rw [f2] at hb; simp [Value.ownBlock] at hb⟩, fun b hb => by simp [Chunk.blk, f2, Value.ownBlock] at hb⟩
  rw [f2]; exact World.ownsRow_nil w 0 e t.size)
 have hi : i < st.ck.length := (List.getElem?_eq_some_iff.1 hc).1
 have hck : (dw none st.ck ++ [Chunk.own e t []])[i]? = some (.cells cs E) := by
  show (st.ck ++ [Chunk.own e t []])[i]? = _
  rw [List.getElem?_append_left hi]; exact hc
 have hset : st.ck.set i (.cells (cs.set k (.own st.ck.length)) E) ++ [.own e t []] = (dw none st.ck ++ [Chunk.own e t []]).set i (.cells (cs.set k (.own st.ck.length)) E) := by
  show _ = (st.ck ++ [Chunk.own e t []]).set i _
  rw [List.set_append_left _ _ hi]
 have hlen : i < (dw none st.ck ++ [Chunk.own e t []]).length := (List.getElem?_eq_some_iff.1 hck).1
 have hget : ∀ (j : Nat) (c : Chunk), ((dw none st.ck ++ [Chunk.own e t []]).set i (.cells (cs.set k (.own st.ck.length)) E))[j]? = some c → (j = i ∧ c = .cells (cs.set k (.own st.ck.length)) E) ∨ (j ≠ i ∧ (dw none st.ck ++ [Chunk.own e t []])[j]? = some c) := by
  intro j c hj
  by_cases hji : i = j
  · subst hji
    rw [List.getElem?_set_self hlen] at hj
    simp only [aa] at hj
    exact .inl ⟨rfl, hj.symm⟩
  · rw [List.getElem?_set_ne hji] at hj
    exact .inr ⟨fun e => hji e.symm, hj⟩
 have hblk : ∀ (j : Nat) (c : Chunk) (b : Nat), ((dw none st.ck ++ [Chunk.own e t []]).set i (.cells (cs.set k (.own st.ck.length)) E))[j]? = some c → c.blk V' j = some b → ∃ c0, (dw none st.ck ++ [Chunk.own e t []])[j]? = some c0 ∧ c0.blk V' j = some b := by
  intro j c b hj hb
  rcases hget j c hj with ⟨rfl, rfl⟩ | ⟨_, h2⟩
  · exact ⟨_, hck, hb⟩
  · exact ⟨c, h2, hb⟩
 refine hj hT V' a w { size := r.size, defers := r.defers, slots := ?_, wok := ?_, few := ⟨r.few.1, ?_⟩ }
 · intro s sv hm
   exact (r.slots s sv hm).agree hag (ai.1 hwf1.1 _ hm)
 · show WOk Γ (st.ck.set i (.cells (cs.set k (.own st.ck.length)) E) ++ [.own e t []]) V' w
   rw [hset]
   refine { ext := hw.ext, imm := hw.imm, hle := hw.hle, frz := hw.frz, agr := hw.agr, own := ?_, base := ?_, inj := ?_ }
   · intro j c hj
     rcases hget j c hj with ⟨rfl, rfl⟩ | ⟨_, h2⟩
     · obtain ⟨us, q1, q2⟩ := hw.own j _ hck
       refine ⟨us, q1, ?_⟩
       obtain ⟨u, h6, h7⟩ := q2.get hk
       have hu : u = .slice none 0 0 := by
        have h8 : PR V'.H (.v (.slice none 0 0)) u := h7
        cases h8; rfl
       have h9 := q2.set (a := SC.own st.ck.length) (b := u) (show u = V'.ov st.ck.length by rw [hu, e2]) k
       have h10 : us.set k u = us := by
        apply List.ext_getElem?
        intro x
        rw [List.getElem?_set]
        split
        · rename_i hx; subst hx
          split
          · exact h6.symm
          · rename_i hlt; rw [List.getElem?_eq_none (by omega)]
        · rfl
       rw [h10] at h9
       exact h9
     · exact hw.own j c h2
   · intro j c b hj hb
     obtain ⟨c0, h1, h2⟩ := hblk j c b hj hb
     exact hw.base j c0 b h1 h2
   · intro x y c d b hc' hd hb hb2
     obtain ⟨c0, h1, h2⟩ := hblk x c b hc' hb
     obtain ⟨d0, g1, g2⟩ := hblk y d b hd hb2
     exact hw.inj x y c0 d0 b h1 g1 h2 g2
 · show st.m ≤ (st.ck.set i (.cells (cs.set k (SC.own st.ck.length)) E) ++ [Chunk.own e t []]).length
   rw [aj, ct]; have := r.few.2; omega
end
section
variable {P : Program} {f : FuncId} {root : Code} {Γ : Ctx} {Q : Out} {st : ST} {k : List PI}
theorem ah.ret {args : List SX} {ck ck' : List Chunk} {ret ret' : SV} (h : ah P f args ck ret ck') (hr : ∀ (V : Vn) (v : Value), ret.R V v → ret'.R V v) : ah P f args ck ret' ck' := by
 intro w V vs hw hT hv
 refine (h w V vs hw hT hv).mono fun e w' hq => ?_
 obtain ⟨v, V', rfl, h1, h2⟩ := hq
 exact ⟨v, V', rfl, hr _ _ h1, h2⟩
theorem ah.nilOwn {fn : Func} {args : List SX} {e : TypeId} {t : ETy} {l : List t.den} (hf : P.funcs[f]? = some fn) (hb : fn.body.isSome = true) (hn : Nat.ble args.length fn.ntmps = true)
 (h : ∀ Γ, J P f (aE fn) Γ (fun v ck => (v = .x (.c (.own 0)) ∧ ck = [.own e t l]) ∨ (l = [] ∧ v = .x (.c (.pd (.v (.slice none 0 0)))) ∧ ck = [])) [.code []] (b6 fn.ntmps args [])) : ah P f args [] (.x (.c (.own 0))) [.own e t l] := by
 intro w V vs hw hT hv
 refine (gN hf (iA hb) hn (Γ := entry [] V w) rfl (h _) hw hT hv).mono fun en w' hq => ?_
 obtain ⟨v, V', r, c, rfl, hc, h1, h2⟩ := hq
 rcases hc with ⟨rfl, rfl⟩ | ⟨rfl, rfl, rfl⟩
 · exact ⟨v, V', rfl, h1, h2⟩
 · have hv : v = .slice none 0 0 := by
    have h3 : PR V'.H (.v (.slice none 0 0)) v := h1
    cases h3; rfl
   obtain ⟨V2, hag, _, _, e2, hw2⟩ := h2.regrow (ck := []) rfl (bA _) none (c := .own e t []) (v' := .slice none 0 0) (s' := 0) (w' := w') (row := none) (by simp) (World.grownBy.refl _ _) (fun V' hag hH f1 f2 => by
    have f3 : V'.ov 0 = .slice none 0 0 := f2
    refine ⟨⟨[], ?_, .nil, fun b hb => by rw [f2] at hb; simp [Value.ownBlock] at hb⟩, fun b hb => by simp [Chunk.blk, f3, Value.ownBlock] at hb⟩
    rw [f2]; exact World.ownsRow_nil w' 0 e t.size)
   refine ⟨v, V2, rfl, ?_, hw2⟩
   show v = V2.ov 0
   rw [hv]; exact e2.symm
/-! ### blocks in another order -/
end
def ee : List (Str × Nat) → Str → Option Nat
 | [], _ => none
 | p :: r, s => bif p.1 == s then some p.2 else ee r s
theorem Gq {a b : Str} (h : bs a = bs b) : a = b := by
 have := congrArg (fun x : ByteArray => x.data.toList) h
 simpa [bX] using this
theorem nJ (s : Str) : ∀ (l : List (Str × Nat)) (es : List MapEntry) (i : Nat), es.map (fun e => (e.key, e.val)) = l.map (fun p => (Value.string (bs p.1), Value.func (.func p.2) #[] #[])) →
 ∃ r, Instr.findNow .string (.string (bs s)) es i = some r ∧ r.map (·.2) = (ee l s).map fun f => Value.func (.func f) #[] #[]
 | [], es, i, h => by
   have : es = [] := by simpa using h
   subst this
   exact ⟨none, rfl, rfl⟩
 | p :: l, es, i, h => by
   cases es with
   | nil => simp at h
   | cons e es =>
     simp only [ax, ez, ab] at h
     obtain ⟨⟨h1, h2⟩, h3⟩ := h
     have hs : Instr.sameNow .string (.string (bs s)) e.key = some (p.1 == s) := by
      rw [h1]
      show some (bs s == bs p.1) = _
      congr 1
      cases hb : p.1 == s
      · cases hc : (bs s == bs p.1)
        · rfl
        · rw [beq_eq_false_iff_ne] at hb
          exact absurd (Gq ((MapKept.bytes_beq _ _).1 hc)).symm hb
      · rw [eq_of_beq hb]; exact (MapKept.bytes_beq _ _).2 rfl
     cases hb : p.1 == s
     · obtain ⟨r, g1, g2⟩ := nJ s l es (i + 1) h3
       refine ⟨r, ?_, ?_⟩
       · simp only [Instr.findNow, hs, hb]; exact g1
       · simp only [ee, hb, cond_false]; exact g2
     · refine ⟨some (i, e.val), ?_, ?_⟩
       · simp only [Instr.findNow, hs, hb]
       · simp only [ee, hb, cond_true, bQ, h2]
theorem p9 {P : Program} {w : World} {t kt et : TypeId} {r clock : Nat} {es : Array MapEntry} {l : List (Str × Nat)} (ht : P.underlying t = some (.map kt et)) (hk : P.underlying kt = some .string) (hb : w.heap[r]? = some (.map es clock))
 (h : es.toList.map (fun e => (e.key, e.val)) = l.map fun p => (Value.string (bs p.1), Value.func (.func p.2) #[] #[])) (s : Str) {z : Value} (hz : ee l s = none → (zeroValue et).run P w = .ok z w) :
 (Instr.lookup t (.map (some r)) (.string (bs s)) false).run P w = .ok (match ee l s with | some f => .func (.func f) #[] #[] | none => z) w := by
 obtain ⟨q, h1, h2⟩ := nJ s l es.toList 0 h
 have hc : ∀ b, (Instr.checkKey b 10000 kt (.string (bs s))).run P w = .ok () w := fun b => by
  rw [show (10000 : Nat) = 9999 + 1 from rfl, Instr.checkKey]
  simp only [Sem.run_bind, run_underlying hk, Result.andThen_ok]
  rfl
 have hf : (Instr.findKey kt (.string (bs s)) es.toList).run P w = .ok q w := by
  simp [Instr.findKey, run_underlying hk, h1, Result.andThen]
 cases hg : ee l s with
 | none =>
   rw [hg] at h2
   have hq : q = none := by cases q with | none => rfl | some x => simp at h2
   subst hq
   simp [Instr.lookup, run_underlying ht, MapKept.run_getObj_map hb, hc, hf, hz hg, Result.andThen]
 | some f =>
   rw [hg] at h2
   cases q with
   | none => simp at h2
   | some x =>
     obtain ⟨i, v⟩ := x
     simp only [bQ, aa] at h2
     subst h2
     simp [Instr.lookup, run_underlying ht, MapKept.run_getObj_map hb, hc, hf, Result.andThen]
def vG (P : Program) (root : Code) (p : List Nat) (i : Nat) (st : ST) : Option (Nat × Nat × Operand × TypeId) :=
 match (opsOf (sub root p))[i]? with
 | some o => match o.guard, o.dst, o.op with
   | none, some d, .lookup ty (.tmp m) k false => match P.underlying ty with
     | some (.map kt et) => match P.underlying kt with
       | some .string => bif Nat.blt d st.n then some (d, m, k, et) else none
       | _ => none
     | _ => none
   | _, _, _ => none
 | none => none
section
variable {P : Program} {f : FuncId} {root : Code} {Γ : Ctx} {Q : Out} {st : ST} {k : List PI}
theorem J.lookup {p : List Nat} {i d m : Nat} {kx : Operand} {et : TypeId} {l : List (Str × Nat)} {s : Str} (h : vG P root p i st = some (d, m, kx, et)) (hm : lookup st.fr m = some (.x (.c (.pd (.tbl l))))) (hs : bu st none kx = some (.c (.pd (.str s)))) {z : PD} {zv : Value} (hz : fx zv = some (.c (.pd z)))
 (hzr : ee l s = none → ∀ w : World, (zeroValue et).run P w = .ok zv w)
 (hk : J P f root Γ Q (.ops p (i + 1) :: k) { st with fr := cZ d (.x (match ee l s with | some g => .c (.fn (.func g) [] []) | none => .c (.pd z))) st.fr }) : J P f root Γ Q (.ops p i :: k) st := by
 unfold vG at h
 split at h
 · rename_i o ho
   split at h
   · rename_i d' ty m' k' hg hd hop
     split at h
     · rename_i kt et' hu
       split at h
       · rename_i hus
         cases hb : Nat.blt d' st.n
         · rw [hb] at h; cases h
         · rw [hb] at h
           simp only [cond_true, aa, ab] at h
           obtain ⟨rfl, rfl, rfl, rfl⟩ := h
           intro hT V a w r
           have hi : i < (opsOf (sub root p)).size := (Array.getElem?_eq_some_iff.1 ho).1
           have hsz : (opsOf (sub root p)).size - i = ((opsOf (sub root p)).size - (i + 1)) + 1 := by omega
           simp only [ax, PI.den]
           rw [hsz, bM]
           have hv : PR V.H (.tbl l) (a.tmps.getD m' undef) := r.slots m' _ (cE hm)
           have hs2 : PR V.H (.str s) (a.eval k') := aB r (g := none) trivial hs
           have hw : Region.wanted o (yielded (opsOf (sub root p)) a.tmps) = true := by simp only [Region.wanted, hg]
           have hput : ∀ sx : SX, dZ st (some d') (.x sx) = some { st with fr := cZ d' (.x sx) st.fr } := fun sx => by simp only [dZ, hb, cond_true]
           have e1 : a.eval (.tmp m') = a.tmps.getD m' undef := rfl
           generalize hus2 : a.tmps.getD m' undef = u at hv e1
           generalize hks : a.eval k' = ks at hs2
           cases hs2
           cases hv with
           | tbl _ b es clock hbk hes =>
             have hrun := p9 (P := P) (w := w) (t := ty) (kt := kt) (et := et') hu hus (r.wok.imm _ _ hbk) hes s (z := zv) (fun hn => hzr hn w)
             have hr : (execOp a.eval o).run P w = .ok (.value (match ee l s with | some f => .func (.func f) #[] #[] | none => zv)) w := by
              obtain ⟨dst, op, ty', pos, after, guard⟩ := o
              simp only at hop
              subst hop
              simp only [execOp]
              refine bo ?_
              rw [e1, hks]; exact hrun
             refine Go.Sy.Fin.op_value ho hw hr ?_
             rw [hd]
             refine hk hT V _ _ (dm r (hput _) ?_)
             cases ee l s with
             | none => exact tc hz
             | some g => exact ⟨[], [], rfl, .nil, .nil⟩
       · cases h
     · cases h
   · cases h
 · cases h
end
end Go.Ev

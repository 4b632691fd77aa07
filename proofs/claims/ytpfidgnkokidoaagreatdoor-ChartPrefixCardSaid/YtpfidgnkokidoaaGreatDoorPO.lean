/- An executor for function bodies of the model over data, part PO: a statement whose order Go leaves open, as one step. Conditions: each operation's own. -/
import Derived.Test.YtpfidgnkokidoaaGreatDoorPN
namespace Go.Ev
open Go.RowKit
structure FO where
 sv : SV
 tight : Option TypeId
def ja (ops : Array Oper) (fs : List FO) : List Nat → List (Nat × SV)
 | [] => []
 | j :: r => match fs[j]?, bF ops j with
   | some fo, some d => (d, fo.sv) :: ja ops fs r
   | _, _ => ja ops fs r
def gV (base : ST) (ops : Array Oper) (fs : List FO) (l : List Nat) : ST := { base with fr := ja ops fs l ++ base.fr }
def writer (ops : Array Oper) (t : Nat) : Option Nat := (List.range ops.size).find? fun j => match bF ops j with | some d => Nat.beq d t | none => false
def km (ops : Array Oper) (fs : List FO) (i : Nat) : Operand → Option (TypeId × Src)
 | .tmp t => match writer ops t with
   | some j => bif (anc ops ops.size i).any (Nat.beq j) then match fs[j]? with
      | some ⟨.x (.c (.pd (.lst ty l))), some e⟩ => some (e, ⟨none, ty, l⟩)
      | _ => none
     else none
   | none => none
 | _ => none
def goF (P : Program) (cfg : Cfg) (s : ST) (f : Nat) (args : List SX) : Option (Option Prop × SV) :=
 bif within [] (args.flatMap SX.refs) then
  match goA P cfg.tab s f args with
  | some (p, ret, ck') => match ck'.drop s.ck.length with
    | [] => bif within [] ret.refs then some (p, ret) else none
    | [.own _ t l] => bif within [] (ret.frz (.own s.ck.length t l)).refs then some (p, ret.frz (.own s.ck.length t l)) else none
    | _ => none
  | none => none
 else goB P cfg s f args
def xL (ops : Array Oper) (fs : List FO) (i : Nat) : Op → Option (TypeId × Src)
 | .move x => km ops fs i x
 | .assign x => km ops fs i x
 | _ => none
def ug (P : Program) (tys : Tys) (s : ST) (op : Op) : Option FO :=
 match opM P tys s op with
 | some (.c (.own k), ck') => match ck'.drop s.ck.length with
   | [.own e t l] => bif Nat.beq k s.ck.length then some ⟨.x (.c (.pd (.lst t l))), some e⟩ else none
   | _ => none
 | _ => none
def BB (P : Program) (s : ST) (ops : Array Oper) (fs : List FO) (i : Nat) : Op → Option (Option Prop × FO)
 | .call { callee := .builtin .append, args := args, argTypes := ts } => match args.toList, ts.toList with
   | [x, y], [t, t'] => match km ops fs i x, (bu s none y).bind (tU s), P.underlying t with
     | some (e0, ⟨_, tx, lx⟩), some ⟨_, ty, ly⟩, some (.slice e) => match P.info? e with
       | some inf => match inf.zero with
         | some z => bif Nat.beq t t' && Nat.beq e0 e && Nat.beq tx.size inf.size && Nat.beq z.cells.toList.length inf.size then
            if h : ty = tx then some (some (room (lx ++ (h ▸ ly : List tx.den)).length inf.bytes), ⟨.x (.c (.pd (.lst tx (lx ++ (h ▸ ly : List tx.den))))), none⟩) else none
           else none
         | none => none
       | none => none
     | _, _, _ => none
   | _, _ => none
 | _ => none
def oM (P : Program) (cfg : Cfg) (base : ST) (ops : Array Oper) (fs : List FO) (i : Nat) (o : Oper) : Option (Option Prop × FO) :=
 match xL ops fs i o.op with
 | some (e, src) => some (none, ⟨.x (.c (.pd (.lst src.t src.l))), some e⟩)
 | none => match qc P (gV base ops fs (anc ops ops.size i)) none o.op with
   | some (p, sx) => some (p, ⟨.x sx, none⟩)
   | none => match callee P cfg.tys (gV base ops fs (anc ops ops.size i)) none o.op with
     | some (f, args) => (goF P cfg (gV base ops fs (anc ops ops.size i)) f args).map fun r => (r.1, ⟨r.2, none⟩)
     | none => match opT (gV base ops fs (anc ops ops.size i)) o.op with
       | some l => some (none, ⟨.tup l, none⟩)
       | none => match opC (gV base ops fs (anc ops ops.size i)) o.op with
         | some sx => some (none, ⟨.x sx, none⟩)
         | none => match ug P cfg.tys (gV base ops fs (anc ops ops.size i)) o.op with
           | some fo => some (none, fo)
           | none => BB P (gV base ops fs (anc ops ops.size i)) ops fs i o.op
def v7 (ops : Array Oper) (fr : List (Nat × SV)) (i : Nat) : List (Nat × SV) :=
 fr.filter fun p => yd p.2 && ((dX ops).any (Nat.beq p.1) && (List.range ops.size).all fun j => match bF ops j with | some d => !Nat.beq d p.1 || (anc ops ops.size j).any (Nat.beq i) | none => true)
def iW (P : Program) (cfg : Cfg) (base : ST) (ops : Array Oper) (fr0 : List (Nat × SV)) : List Oper → List FO → Option (List Prop × List FO)
 | [], fs => some ([], fs)
 | o :: r, fs => bif o.guard.isNone then
    match oM P cfg { base with fr := base.fr ++ v7 ops fr0 fs.length } ops fs fs.length o with
    | some (p, fo) => bif fo.sv.lt base.ck.length && fq fo.sv then
       match iW P cfg base ops fr0 r (fs ++ [fo]) with
       | some (ps, fs') => some (match p with | some p => p :: ps | none => ps, fs')
       | none => none
      else none
    | none => none
   else none
def fY (V : Vn) (e : TypeId) (t : ETy) (l : List t.den) (v : Value) : Prop :=
 ∃ g cur, v = .slice (some ⟨g, 0, none⟩) l.length l.length ∧ V.H g = some (.cells cur e (0, 0)) ∧ cur.size = l.length * t.size ∧ l.length ≤ maxLen ∧ All2 (PR V.H) (l.flatMap t.enc) cur.toList
def FO.R (V : Vn) (fo : FO) (v : Value) : Prop := fo.sv.R V v ∧ ∀ e, fo.tight = some e → match fo.sv with
 | .x (.c (.pd (.lst t l))) => fY V e t l v
 | _ => False
theorem fY.lst {V : Vn} {e : TypeId} {t : ETy} {l : List t.den} {v : Value} (h : fY V e t l v) : PR V.H (.lst t l) v := by
 obtain ⟨g, cur, rfl, h1, h2, h3, h4⟩ := h
 refine .lst t l g 0 l.length cur e (0, 0) h1 (ay _) h3 (by omega) fun i x hx j p hp u hu => ?_
 obtain ⟨u', h5, h6⟩ := h4.get (je hx hp)
 rw [a8] at hu
 have : cur[i * t.size + j]? = some u' := by simpa using h5
 rw [hu] at this
 simp only [aa] at this
 subst this; exact h6
theorem SV.R_agree {n : Nat} {V V' : Vn} (h : Agree n V V') {sv : SV} (hs : sv.lt n = true) {v : Value} (hr : sv.R V v) : sv.R V' v := by
 cases sv with
 | x s => exact SX.R_agree h hs hr
 | tup l => obtain ⟨us, e, h1⟩ := hr; exact ⟨us, e, h1.mono fun a b ha hab => SX.R_agree h (ai.1 hs a ha) hab⟩
 | grd _ _ _ => exact hr
theorem fY.mono {V V' : Vn} (hle : HLe V.H V'.H) {e : TypeId} {t : ETy} {l : List t.den} {v : Value} (h : fY V e t l v) : fY V' e t l v := by
 obtain ⟨g, cur, h0, h1, h2, h3, h4⟩ := h
 exact ⟨g, cur, h0, hle _ _ h1, h2, h3, h4.mono fun _ _ _ hp => hp.mono hle⟩
theorem FO.R_agree {n : Nat} {V V' : Vn} (h : Agree n V V') {fo : FO} (hs : fo.sv.lt n = true) {v : Value} (hr : fo.R V v) : fo.R V' v := by
 refine ⟨SV.R_agree h hs hr.1, fun e he => ?_⟩
 have h2 := hr.2 e he
 split
 · rename_i hsv; rw [hsv] at h2; exact fY.mono h.hle h2
 · rename_i hsv
   split at h2
   · rename_i t l hsv2; exact absurd hsv2 (hsv t l)
   · exact h2
theorem jC {V : Vn} {sv : SV} {v : Value} (h : sv.R V v) : (⟨sv, none⟩ : FO).R V v := ⟨h, fun e he => by cases he⟩
theorem SV.R_frz {V : Vn} {z : Frz} (hz : z.ok V) {sv : SV} {v : Value} (h : sv.R V v) : (sv.frz z).R V v := by
 cases sv with
 | x s => exact SX.R_frz hz h
 | tup l => obtain ⟨us, e, h1⟩ := h; exact ⟨us, e, by rw [All2.map_left]; exact h1.mono fun _ _ _ hab => SX.R_frz hz hab⟩
 | grd _ _ _ => exact h
section
variable {Γ : Ctx} {P : Program} {cfg : Cfg} {st : ST} {V : Vn} {a : Act} {w : World} {ops : Array Oper} {fs : List FO} {ck : List Chunk}
theorem WOk.chop (r : WOk Γ (ck ++ [.dead]) V w) : WOk Γ ck V w := by
 have hget : ∀ (i : Nat) (c : Chunk), ck[i]? = some c → (ck ++ [.dead])[i]? = some c := fun i c h => by rw [List.getElem?_append_left (List.getElem?_eq_some_iff.1 h).1]; exact h
 exact { ext := r.ext, imm := r.imm, hle := r.hle, frz := r.frz, agr := r.agr, own := fun i c h => r.own i c (hget i c h), base := fun i c b h hb => r.base i c b (hget i c h) hb, inj := fun i j c d b hc hd hb1 hb2 => r.inj i j c d b (hget i c hc) (hget j d hd) hb1 hb2 }
theorem rK (r : Rel Γ st V a w) {l : List Nat} (h : ∀ j ∈ l, ∀ d fo, bF ops j = some d → fs[j]? = some fo → fo.sv.R V (a.tmps.getD d undef)) : Rel Γ (gV st ops fs l) V a w := by
 refine { size := r.size, defers := r.defers, slots := ?_, wok := r.wok, few := r.few }
 intro t sv hm0
 have aux : ∀ l : List Nat, (∀ j ∈ l, ∀ d fo, bF ops j = some d → fs[j]? = some fo → fo.sv.R V (a.tmps.getD d undef)) → (t, sv) ∈ ja ops fs l → cJ V a t sv := by
  intro l
  induction l with
  | nil => intro _ hm; simp [ja] at hm
  | cons j l ih =>
    intro h hm
    have ih' := ih (fun j hj => h j (aO _ hj))
    simp only [ja] at hm
    split at hm
    · rename_i fo d h1 h2
      rcases aS.1 hm with hm | hm
      · simp only [ab] at hm
        obtain ⟨rfl, rfl⟩ := hm
        exact j5 (h j aG t fo h2 h1) rfl
      · exact ih' hm
    · exact ih' hm
 rcases bb.1 hm0 with hm | hm
 · exact aux l h hm
 · exact r.slots t sv hm
theorem xW {t j : Nat} (h : writer ops t = some j) : bF ops j = some t := by
 unfold writer at h
 have := List.find?_some h
 split at this
 · rename_i d hd
   rw [hd, an this]
 · cases this
theorem lz {i : Nat} {x : Operand} {e : TypeId} {s : Src} (h : km ops fs i x = some (e, s)) (hanc : ∀ j ∈ anc ops ops.size i, ∀ d fo, bF ops j = some d → fs[j]? = some fo → fo.R V (a.tmps.getD d undef)) : fY V e s.t s.l (a.eval x) := by
 unfold km at h
 split at h
 · rename_i t
   split at h
   · rename_i j hw
     cases hb : (anc ops ops.size i).any (Nat.beq j)
     · rw [hb] at h; simp at h
     · rw [hb] at h
       simp only [cond_true] at h
       split at h
       · rename_i ty l e' hfo
         simp only [aa, ab] at h
         obtain ⟨rfl, rfl⟩ := h
         exact (hanc j (iY hb) t _ (xW hw) hfo).2 e' rfl
       · simp at h
   · simp at h
 · simp at h
theorem sP {t ty e : TypeId} {inf : TypeInfo} {z : Value} (ht : P.underlying t = some (.slice e)) (hi : P.info? e = some inf) (hz : inf.zero = some z) (hzs : z.cells.size = inf.size)
 {tt : ETy} {l ly : List tt.den} (hsz : tt.size = inf.size) (r : WOk Γ ck V w) (hwf : fK ck = true) (hΓ : Γ.m ≤ ck.length) {v : Value} (htg : fY V e tt l v)
 {ao : Option Addr} {c : Nat} {us : List Value} (hn : ao = none → ly.length = 0 ∧ c = 0) (hrows : All2 (PR V.H) (ly.flatMap tt.enc) us) (hcells : ∀ ad, ao = some ad → ∀ (j : Nat) u, us[j]? = some u → w.cell? (ad.add j) = some u)
 (hr : room (l ++ ly).length inf.bytes) :
 ∃ v' w' V', (Builtin.append_ #[t, t] ty #[v, .slice ao ly.length c]).run P w = .ok v' w' ∧ Agree ck.length V V' ∧ WOk Γ ck V' w' ∧ PR V'.H (.lst tt (l ++ ly)) v' := by
 have hpos : 0 < inf.size := by rw [← hsz]; exact tt.size_pos
 have hyl : us.length = ly.length * inf.size := by rw [← hrows.length, gd, hsz]
 obtain ⟨g, cur, rfl, q1, q2, q3, q4⟩ := htg
 have hw := r.imm _ _ q1
 have hown : w.ownsRow 0 e inf.size (.slice (some ⟨g, 0, none⟩) l.length l.length) l.length cur.toList :=
  ⟨by rw [br, q2, hsz], .inr ⟨g, l.length, cur, rfl, bA _, hw, ay _, q3, by rw [q2, hsz], by rw [dM (by rw [br, q2, hsz]; exact ay _)]⟩⟩
 rw [aj] at hr
 by_cases hm : ly.length = 0
 · have hly : ly = [] := bj hm
   subst hly
   have hus : us = [] := bj (by simpa using hyl)
   subst hus
   rw [bB]
   refine ⟨_, w, V, ?_, Agree.refl _ _, r, fY.lst ⟨g, cur, rfl, q1, q2, q3, q4⟩⟩
   cases ao with
   | none =>
     obtain ⟨_, rfl⟩ := hn rfl
     exact run_append_owned_none (P := P) w 0 t ty e inf inf.size ht hi _ _ _ hown
   | some ad =>
     obtain ⟨w2, hr2, ho2, hg2⟩ := run_append_fits (P := P) w 0 t ty e inf inf.size ht hi rfl g l.length l.length cur.toList hown ad 0 c [] (by simp) (by simp) (by simp) (ay _)
     have hst := run_storeCells_at (P := P) g (l.length * inf.size) e [] 0 cur w hw (by simp [q2, hsz]) (by simp)
     have : (Builtin.append_ #[t, t] ty #[.slice (some ⟨g, 0, none⟩) l.length l.length, .slice (some ad) 0 c]).run P w = .ok (.slice (some ⟨g, 0, none⟩) l.length l.length) w := by
      have hf := run_firstCells_some (P := P) w inf.size 0 ad 0 c [] (by simp) (by simp)
      simp [Builtin.append_, run_underlying ht, sizeOf, typeInfo, hi, Builtin.lenOf, hf, storeCells]
     simpa using this
 · have hsome : ∃ ad, ao = some ad := by
    cases ao with
    | none => exact absurd (hn rfl).1 hm
    | some ad => exact ⟨ad, rfl⟩
   obtain ⟨ad, rfl⟩ := hsome
   obtain ⟨v', w', hr1, ho, _, _⟩ := run_append_own (P := P) w 0 t ty e inf z inf.size inf.bytes ht hi hz rfl rfl hzs hpos _ _ _ hown ad ly.length c us hyl (hcells ad rfl) (qy hrows) hr.2 hr.1 (bA _)
   have h64 : ((l.length + ly.length : Nat) : Int) ≤ 9223372036854775807 := by have := hr.2; unfold maxLen at this; omega
   have hr2 := run_append_grow (P := P) w t ty e inf z ht hi hz ⟨g, 0, none⟩ l.length l.length cur.toList hown.1 (hown.cells (g := g) rfl) ad ly.length c us hyl (hcells ad rfl) (by omega) h64 (growslice_fits (by omega) hr.1)
   rw [hr1] at hr2
   simp only [Result.ok.injEq] at hr2
   obtain ⟨e1, e2⟩ := hr2
   have hgrow : w.grownBy w' none := by
    rw [e2]
    exact ⟨rfl, rfl, rfl, by simp, fun k hk _ => by have := Below.heap_alloc w.drew (.cells (cur.toList.toArray ++ us.toArray ++ Builtin.zeroCells z.cells (grownCap w (l.length + ly.length) l.length e - (l.length + ly.length))) e) k hk; exact this⟩
   have hlen : (l ++ ly).length = l.length + ly.length := aj
   obtain ⟨V1, k1, k2, k3, k4, k5⟩ := r.regrow hwf hΓ none (c := .own e tt (l ++ ly)) (v' := v') (s' := w.heap.size) (row := none) (by simp) hgrow (fun V1 hag hH f1 f2 => by
    refine ⟨⟨cur.toList ++ us, by rw [f2, hlen, hsz]; exact ho, by rw [hH, eu]; exact q4.append hrows, fun b hb => ?_⟩, fun b hb => .inr ?_⟩
    · rw [f2, e1] at hb; simp only [Value.ownBlock, aa] at hb; rw [f1, hb]
    · simp only [Chunk.blk, f2, e1, Value.ownBlock, aa] at hb; omega)
   simp only [dw] at k5
   obtain ⟨H', m1, m2, m3⟩ := k5.freezeOwn (i := ck.length) (e := e) (t := tt) (l := l ++ ly) (by simp)
   have hset : (ck ++ [Chunk.own e tt (l ++ ly)]).set ck.length .dead = ck ++ [.dead] := by simp
   rw [hset] at m2
   refine ⟨v', w', ⟨H', V1.σ, V1.ov⟩, hr1, ⟨k1.hle.trans m1, k1.same⟩, m2.chop, ?_⟩
   rw [← k4]; exact m3
end
end Go.Ev

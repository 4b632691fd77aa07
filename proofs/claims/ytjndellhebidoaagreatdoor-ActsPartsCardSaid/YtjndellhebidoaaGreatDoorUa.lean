/- An executor for function bodies of the model over data, part PY: blocks renumbered behind a call; a nil slice in a block of the call's own. Conditions: none. An executor for function bodies of the model over data, part PZ: a slice set against nil; a contract told otherwise. Conditions: none. Contracts: actions that may be, values that fit. Conditions: none. -/
import Derived.Test.YtjndellhebidoaaGreatDoorPX
import Derived.Lib.SliceRun
import Derived.Test.YtjndellhebidoaaGreatDoorJf
import Derived.Test.YtjndellhebidoaaGreatDoorJd
namespace Go.Ev
open Go.RowKit

section
variable {P : Program} {f : FuncId} {root : Code} {Γ : Ctx} {Q : Out} {st : ST} {todo : List PI}
theorem Does.renum {fn : Func} {args : List SX} {ck ck' : List Chunk} {ret : SV} (hf : P.funcs[f]? = some fn) (hb : fn.body.isSome = true) (hn : Nat.ble args.length fn.ntmps = true) (hr : flatV ret = true)
    (h : ∀ Γ, J P f (bodyOf fn) Γ (fun v c => v = ret ∧ Rn ck.length c ck') [.code []] (initST fn.ntmps args ck)) : Does P f args ck ret ck' := by
  intro w V vs hw hT hv
  refine (calls_of_J hf (body_some hb) hn (Γ := entry ck V w) rfl (h _) hw hT hv).mono fun en w' hq => ?_
  obtain ⟨v, V', r, c, rfl, ⟨rfl, hc⟩, h1, h2⟩ := hq
  obtain ⟨ρ, ρ', hc⟩ := hc
  obtain ⟨V2, _, h3, _⟩ := h2.renum (m := ck.length) (Nat.le_refl _) hc
  exact ⟨v, V2, rfl, flatV_any hr h1, h3⟩
theorem J.renum (ρ ρ' : Nat → Nat) {ck' : List Chunk} (h : RnW ρ ρ' st.m st.ck ck') (hl : st.m ≤ ck'.length) (hs : ∀ p ∈ st.fr, ∀ i ∈ p.2.refs, ρ' (ρ i) = i)
    (hk : J P f root Γ Q todo { st with fr := st.fr.map (fun p => (p.1, p.2.map ρ)), ck := ck' }) : J P f root Γ Q todo st := by
  intro hT V a w r
  obtain ⟨V2, _, h3, h4⟩ := r.wok.renum r.few.1 h
  refine hk hT V2 a w { size := r.size, defers := r.defers, slots := ?_, wok := h3, few := ⟨r.few.1, hl⟩ }
  intro s sv hm
  obtain ⟨⟨s', sv'⟩, h5, h6⟩ := List.mem_map.1 hm
  simp only [Prod.mk.injEq] at h6
  obtain ⟨rfl, rfl⟩ := h6
  exact (r.slots _ _ h5).map (h4 _ (hs _ h5))
end
end Go.Ev
namespace Go.Ev
open Go.RowKit

def nilRun (P : Program) (root : Code) (p : List Nat) (i : Nat) (st : ST) : Option (Nat × Nat) :=
  match (opsOf (sub root p))[i]? with
  | some o => match o.guard, o.dst, o.op with
    | none, some d, .binOp .eql ty (.tmp s) (.const (.slice none 0 0)) _ => match P.underlying ty, lookup st.fr s with
      | some (.slice _), some (.x (.c (.pd (.lst _ _)))) => bif Nat.blt d st.n then some (d, s) else none
      | _, _ => none
    | _, _, _ => none
  | none => none
section
variable {P : Program} {f : FuncId} {root : Code} {Γ : Ctx} {Q : Out} {st : ST} {k : List PI}
theorem J.isNil {p : List Nat} {i d s : Nat} {t : ETy} {l : List t.den} (h : nilRun P root p i st = some (d, s)) (hl : lookup st.fr s = some (.x (.c (.pd (.lst t l)))))
    (h0 : l = [] → J P f root Γ Q (.ops p (i + 1) :: k) { st with fr := setSlot d (.x (.b true)) st.fr })
    (h1 : J P f root Γ Q (.ops p (i + 1) :: k) { st with fr := setSlot d (.x (.b false)) st.fr }) : J P f root Γ Q (.ops p i :: k) st := by
  unfold nilRun at h
  split at h
  · rename_i o ho
    split at h
    · rename_i d' ty s' yt hg hd hop
      split at h
      · rename_i e t' l' hu hlk
        cases hb : Nat.blt d' st.n
        · rw [hb] at h; cases h
        · rw [hb] at h
          simp only [cond_true, Option.some.injEq, Prod.mk.injEq] at h
          obtain ⟨rfl, rfl⟩ := h
          intro hT V a w r
          have hi : i < (opsOf (sub root p)).size := (Array.getElem?_eq_some_iff.1 ho).1
          have hsz : (opsOf (sub root p)).size - i = ((opsOf (sub root p)).size - (i + 1)) + 1 := by omega
          simp only [List.map_cons, PI.den]
          rw [hsz, List.range'_succ]
          have hv : PR V.H (.lst t l) (a.tmps.getD s' undef) := r.slots s' _ (lookup_mem hl)
          have hput : ∀ b : Bool, putOpt st (some d') (.x (.b b)) = some { st with fr := setSlot d' (.x (.b b)) st.fr } := fun b => by
            simp only [putOpt, hb, cond_true]
          have run : ∀ (ao : Option Addr) (n c : Nat), a.tmps.getD s' undef = .slice ao n c → (execOp a.eval o).run P w = .ok (.value (.bool ao.isNone)) w := by
            intro ao n c hs
            obtain ⟨dst, op, ty', pos, after, guard⟩ := o
            simp only at hop
            subst hop
            simp only [execOp]
            refine run_value ?_
            have e1 : a.eval (.tmp s') = .slice ao n c := hs
            have e2 : a.eval (.const (.slice none 0 0)) = .slice none 0 0 := rfl
            rw [e1, e2]
            simp only [Sem.run_bind, eqGuard_plain .eql ty (.tmp s') (.const (.slice none 0 0)) (a := .slice ao n c) (b := .slice none 0 0) ⟨fun _ e => (by cases e), (by intro e; cases e)⟩, Result.andThen_ok]
            rw [Lib.run_eql_slice_nil w ty e ao n c 0 0 hu]
          have hw : Region.wanted o (yielded (opsOf (sub root p)) a.tmps) = true := by simp only [Region.wanted, hg]
          have go : ∀ b : Bool, (execOp a.eval o).run P w = .ok (.value (.bool b)) w → (J P f root Γ Q (.ops p (i + 1) :: k) { st with fr := setSlot d' (.x (.b b)) st.fr }) → _ := fun b hr hj =>
            Go.Sy.Fin.op_value ho hw hr (by
              rw [hd]
              exact hj hT V _ _ (putOpt_sound r (hput b) (v := .bool b) (.bool b)))
          generalize hus : a.tmps.getD s' undef = u at hv run
          cases hv with
          | emp _ ao cap he =>
            cases ao with
            | none => exact go true (run none 0 cap rfl) (h0 rfl)
            | some x => exact go false (run (some x) 0 cap rfl) h1
          | lst _ _ b off cap cells e' fr hb' hc hm hs hh => exact go false (run _ _ cap rfl) h1
      · cases h
    · cases h
  · cases h
theorem Does.ret {args : List SX} {ck ck' : List Chunk} {ret ret' : SV} (h : Does P f args ck ret ck') (hr : ∀ (V : Vn) (v : Value), ret.R V v → ret'.R V v) : Does P f args ck ret' ck' := by
  intro w V vs hw hT hv
  refine (h w V vs hw hT hv).mono fun e w' hq => ?_
  obtain ⟨v, V', rfl, h1, h2⟩ := hq
  exact ⟨v, V', rfl, hr _ _ h1, h2⟩
theorem Does.nilOwn {fn : Func} {args : List SX} {e : TypeId} {t : ETy} {l : List t.den} (hf : P.funcs[f]? = some fn) (hb : fn.body.isSome = true) (hn : Nat.ble args.length fn.ntmps = true)
    (h : ∀ Γ, J P f (bodyOf fn) Γ (fun v ck => (v = .x (.c (.own 0)) ∧ ck = [.own e t l]) ∨ (l = [] ∧ v = .x (.c (.pd (.v (.slice none 0 0)))) ∧ ck = [])) [.code []] (initST fn.ntmps args [])) : Does P f args [] (.x (.c (.own 0))) [.own e t l] := by
  intro w V vs hw hT hv
  refine (calls_of_J hf (body_some hb) hn (Γ := entry [] V w) rfl (h _) hw hT hv).mono fun en w' hq => ?_
  obtain ⟨v, V', r, c, rfl, hc, h1, h2⟩ := hq
  rcases hc with ⟨rfl, rfl⟩ | ⟨rfl, rfl, rfl⟩
  · exact ⟨v, V', rfl, h1, h2⟩
  · have hv : v = .slice none 0 0 := by
      have h3 : PR V'.H (.v (.slice none 0 0)) v := h1
      cases h3; rfl
    obtain ⟨V2, hag, _, _, e2, hw2⟩ := h2.regrow (ck := []) rfl (Nat.zero_le _) none (c := .own e t []) (v' := .slice none 0 0) (s' := 0) (w' := w') (row := none) (by simp) (World.grownBy.refl _ _) (fun V' hag hH f1 f2 => by
      have f3 : V'.ov 0 = .slice none 0 0 := f2
      refine ⟨⟨[], ?_, .nil, fun b hb => by rw [f2] at hb; simp [Value.ownBlock] at hb⟩, fun b hb => by simp [Chunk.blk, f3, Value.ownBlock] at hb⟩
      rw [f2]; exact World.ownsRow_nil w' 0 e t.size)
    refine ⟨v, V2, rfl, ?_, hw2⟩
    show v = V2.ov 0
    rw [hv]; exact e2.symm
/-! ### blocks in another order -/
def distinct : List Nat → Bool
  | [] => true
  | a :: r => !r.any (Nat.beq a) && distinct r
theorem distinct_inj : ∀ {m : List Nat}, distinct m = true → ∀ (i j : Nat) x, m[i]? = some x → m[j]? = some x → i = j
  | [], _, i, j, x, h, _ => by simp at h
  | a :: r, hd, i, j, x, hi, hj => by
    simp only [distinct, Bool.and_eq_true, Bool.not_eq_true'] at hd
    have hn : ∀ k : Nat, r[k]? ≠ some a := fun k hk => by
      have h1 := List.any_eq_false.1 hd.1 a (List.mem_of_getElem? hk)
      simp at h1
    cases i with
    | zero =>
      simp only [List.getElem?_cons_zero, Option.some.injEq] at hi
      subst hi
      cases j with
      | zero => rfl
      | succ j => exact absurd (by simpa using hj) (hn j)
    | succ i =>
      cases j with
      | zero =>
        simp only [List.getElem?_cons_zero, Option.some.injEq] at hj
        subst hj
        exact absurd (by simpa using hi) (hn i)
      | succ j => rw [distinct_inj hd.2 i j x (by simpa using hi) (by simpa using hj)]
theorem permRn {m : List Nat} {n : Nat} {ck ck' : List Chunk} (hp : pickCk ck m = some ck') (h1 : distinct m = true) (h3 : within m (ck'.flatMap Chunk.refs) = true) (h4 : m.take n = List.range n) :
    RnW (fun i => idxIn i m 0) (fun j => m.getD j 0) n ck (ck'.map (Chunk.map fun i => idxIn i m 0)) ∧ n ≤ (ck'.map (Chunk.map fun i => idxIn i m 0)).length ∧ ∀ l, within m l = true → ∀ i ∈ l, (fun j => m.getD j 0) ((fun i => idxIn i m 0) i) = i := by
  have hpk := pickCk_get hp
  have hround : ∀ i, i ∈ m → m.getD (idxIn i m 0) 0 = i := fun i hi => by
    have := (idxIn_sound (k := 0) hi).2
    rw [Nat.sub_zero] at this
    simp [List.getD_eq_getElem?_getD, this]
  have hin : ∀ {l : List Nat}, within m l = true → ∀ i ∈ l, i ∈ m := fun hw i hi => mem_any (List.all_eq_true.1 hw i hi)
  refine ⟨⟨?_, ?_⟩, ?_, fun l hl i hi => hround i (hin hl i hi)⟩
  · intro j x' hx
    rw [List.getElem?_map, Option.map_eq_some_iff] at hx
    obtain ⟨c, hc, rfl⟩ := hx
    obtain ⟨i, hi, hci⟩ := hpk.2 j c hc
    have hgi : m.getD j 0 = i := by simp [List.getD_eq_getElem?_getD, hi]
    refine .inr ⟨c, by show ck[m.getD j 0]? = some c; rw [hgi]; exact hci, rfl, ?_, fun r hr => hround r (hin (within_flat h3 (List.mem_of_getElem? hc)) r hr)⟩
    show idxIn (m.getD j 0) m 0 = j
    rw [hgi]
    have := (idxIn_sound (k := 0) (List.mem_of_getElem? hi)).2
    rw [Nat.sub_zero] at this
    exact distinct_inj h1 _ _ i this hi
  · intro j hj
    have : (m.take n)[j]? = (List.range n)[j]? := by rw [h4]
    rw [List.getElem?_take_of_lt hj, List.getElem?_range hj] at this
    simp [List.getD_eq_getElem?_getD, this]
  · have : (m.take n).length = n := by rw [h4]; simp
    rw [List.length_take] at this
    rw [List.length_map, hpk.1]; omega
def permST (m : List Nat) (st : ST) : Option ST := match pickCk st.ck m with
  | some ck' => bif distinct m && within m (st.fr.flatMap fun p => p.2.refs) && within m (ck'.flatMap Chunk.refs) && (m.take st.m == List.range st.m) then
      some { st with fr := st.fr.map (fun p => (p.1, p.2.map fun i => idxIn i m 0)), ck := ck'.map (Chunk.map fun i => idxIn i m 0) } else none
  | none => none
theorem J.perm {todo : List PI} {st' : ST} (m : List Nat) (h : permST m st = some st') (hk : J P f root Γ Q todo st') : J P f root Γ Q todo st := by
  unfold permST at h
  split at h
  · rename_i ck' hp
    cases hb : (distinct m && within m (st.fr.flatMap fun p => p.2.refs) && within m (ck'.flatMap Chunk.refs) && (m.take st.m == List.range st.m))
    · rw [hb] at h; cases h
    · rw [hb] at h
      simp only [cond_true, Option.some.injEq] at h
      subst h
      simp only [Bool.and_eq_true, beq_iff_eq] at hb
      obtain ⟨⟨⟨h1, h2⟩, h3⟩, h4⟩ := hb
      obtain ⟨g1, g2, g3⟩ := permRn hp h1 h3 h4
      exact J.renum _ _ g1 g2 (fun p hp i hi => g3 _ h2 i (List.mem_flatMap.2 ⟨p, hp, hi⟩)) hk
  · cases h
def permV (n : Nat) (m : List Nat) (v : SV) (ck : List Chunk) : Option (SV × List Chunk) := match pickCk ck m with
  | some ck' => bif distinct m && within m v.refs && within m (ck'.flatMap Chunk.refs) && (m.take n == List.range n) then
      some (v.map fun i => idxIn i m 0, ck'.map (Chunk.map fun i => idxIn i m 0)) else none
  | none => none
theorem svR_map_in {ρ : Nat → Nat} {V V' : Vn} {sv : SV} (h : Turned ρ V V' sv.refs) {v : Value} (hr : sv.R V v) : (sv.map ρ).R V' v := by
  cases sv with
  | x s => exact SX.R_map h hr
  | tup l =>
    obtain ⟨us, rfl, h2⟩ := hr
    exact ⟨us, rfl, sxs_map h h2⟩
  | grd _ _ _ => exact hr.elim
theorem Does.perm {fn : Func} {args : List SX} {ck ck' : List Chunk} {ret : SV} (hf : P.funcs[f]? = some fn) (hb : fn.body.isSome = true) (hn : Nat.ble args.length fn.ntmps = true)
    (h : ∀ Γ, J P f (bodyOf fn) Γ (fun v c => ∃ m, permV ck.length m v c = some (ret, ck')) [.code []] (initST fn.ntmps args ck)) : Does P f args ck ret ck' := by
  intro w V vs hw hT hv
  refine (calls_of_J hf (body_some hb) hn (Γ := entry ck V w) rfl (h _) hw hT hv).mono fun en w' hq => ?_
  obtain ⟨v, V', r, c, rfl, ⟨m, hm⟩, h1, h2⟩ := hq
  unfold permV at hm
  split at hm
  · rename_i c' hp
    cases hb : (distinct m && within m r.refs && within m (c'.flatMap Chunk.refs) && (m.take ck.length == List.range ck.length))
    · rw [hb] at hm; cases hm
    · rw [hb] at hm
      simp only [cond_true, Option.some.injEq, Prod.mk.injEq] at hm
      obtain ⟨rfl, rfl⟩ := hm
      simp only [Bool.and_eq_true, beq_iff_eq] at hb
      obtain ⟨⟨⟨g1, g2⟩, g3⟩, g4⟩ := hb
      obtain ⟨k1, k2, k3⟩ := permRn hp g1 g3 g4
      obtain ⟨V2, _, k4, k5⟩ := h2.renum (m := ck.length) (Nat.le_refl _) k1
      exact ⟨v, V2, rfl, svR_map_in (k5 _ (k3 _ g2)) h1, k4⟩
  · cases hm
end
end Go.Ev
namespace Go.Proofs.YtjndellhebidoaaGreatDoor
open Go Go.Ev
set_option maxRecDepth 100000
theorem nt {b : Bool} (h : (!b) = true) : b = false := by cases b <;> simp_all
theorem nf {b : Bool} (h : (!b) = false) : b = true := by cases b <;> simp_all
/-! ### plain -/
def asksM (l : List Cell) : Bool := l.any fun c => c.op == 6
def plainM (l : List Cell) : Bool := rightM l && !asksM l
def raiseS : Str := [114, 97, 105, 115, 101, 58]
def sendS : Str := [115, 101, 110, 100, 58]
def deedOk (d : Deed) : Bool := bif d.kind == 1 then nameM d.name && plainM d.expr else bif d.kind == 2 || d.kind == 3 then eventM d.name && ((d.expr.length : Int) == 0) else false
def blockOk (l : List Deed) : Bool := l.all deedOk && (decide ((l.length : Int) > 0) && decide ((l.length : Int) ≤ 8))
def fitsM (v : Var) (x : Val) : Bool := v.kind == x.kind && (decide (x.a ≥ v.lo) && decide (x.a ≤ v.hi) && (x.kind != 3 || (decide (x.b ≥ v.lo) && decide (x.b ≤ v.hi))))
/-! ### the program's -/

theorem clone_spec (l : List Val) (h : room l.length 24) : Does Tryz.prog 28 [.l .val l] [] (.x (.c (.own 0))) [.own 49 .val l] := by
  refine Does.nilOwn Tryz.func28 (by kernel_rfl) (by kernel_rfl) fun Γ => ?_
  refine J.go (cfg := cfg0) cfg0_ok Tryz.func28 1000 (t := (.stop [.ops [1, 0, 0] 1, .code [1, 0, 1], .code [1, 1]] { n := 8, fr := [(0, .p (.lst .val l)), (2, .p (.v (Value.slice none 0 0))), (3, .p (.lst .val l))], ck := [] })) (by kernel_rfl) ?_
  refine J.isNil (d := 4) (s := 3) (t := .val) (l := l) (by kernel_rfl) rfl (fun h0 => ?_) ?_
  · refine J.go (cfg := cfg0) cfg0_ok Tryz.func28 1000 (t := (.ite true (.ret (.p (.v (Value.slice none 0 0))) []) (.need (room (List.length ([] ++ l)) 24) (.ret (.x (.c (.own 0))) [.own 49 .val ([] ++ l)])))) (by kernel_rfl) ?_
    exact ⟨fun _ => .inr ⟨h0, rfl, rfl⟩, fun h => Bool.noConfusion h⟩
  · refine J.go (cfg := cfg0) cfg0_ok Tryz.func28 1000 (t := (.ite false (.ret (.p (.v (Value.slice none 0 0))) []) (.need (room (List.length ([] ++ l)) 24) (.ret (.x (.c (.own 0))) [.own 49 .val ([] ++ l)])))) (by kernel_rfl) ?_
    exact ⟨fun h => Bool.noConfusion h, fun _ => ⟨h, .inl ⟨rfl, rfl⟩⟩⟩
def eClone : Nat × (List SX → List Chunk → Option (Option Prop × SV × List Chunk)) := (28, fun
  | [.c (.pd (.lst .val l))], [] => some (some (room l.length 24), .x (.c (.own 0)), [.own 49 .val l])
  | _, _ => none)
theorem eClone_ok (vs : List SX) (ck : List Chunk) (p : Option Prop) (ret : SV) (ck' : List Chunk) (h : eClone.2 vs ck = some (p, ret, ck')) (hp : Holds p) : Does Tryz.prog eClone.1 vs ck ret ck' := by
  unfold eClone at h
  simp only at h
  split at h
  · rename_i l
    simp only [Option.some.injEq, Prod.mk.injEq] at h
    obtain ⟨rfl, rfl, rfl⟩ := h
    exact clone_spec l hp
  · simp at h
theorem fits_spec (v : Var) (x : Val) : Does Tryz.prog 32 [.e .var v, .e .val x] [] (.x (.b (fitsM v x))) [] := by
  refine Does.go (cfg := cfg0) cfg0_ok Tryz.func32 (by kernel_rfl) (by kernel_rfl) (t := (.ite (Val.kind x == (3 : Int)) (.ret (.p (.bool (Var.kind v == Val.kind x && decide ((if Val.b x < Val.a x then Val.b x else Val.a x) ≥ Var.lo v) && decide ((if Val.b x > Val.a x then Val.b x else Val.a x) ≤ Var.hi v)))) []) (.ret (.p (.bool (Var.kind v == Val.kind x && decide (Val.a x ≥ Var.lo v) && decide (Val.a x ≤ Var.hi v)))) []))) (by kernel_rfl) fun Γ => ?_
  refine ⟨fun h => ⟨?_, rfl⟩, fun h => ⟨?_, rfl⟩⟩
  all_goals
    have e : fitsM v x = _ := rfl
    refine congrArg (fun b : Bool => SV.x (SX.b b)) ?_
    unfold fitsM
    have h' := h
    simp only [bne, h', Bool.not_true, Bool.not_false, Bool.false_or, Bool.true_or, Bool.and_true]
  · cases v.kind == x.kind <;> simp only [Bool.false_and, Bool.true_and]
    rw [Bool.eq_iff_iff]
    simp only [Bool.and_eq_true, decide_eq_true_eq]
    split <;> split <;> omega
  · rw [Bool.and_assoc]
def eFits : Nat × (List SX → List Chunk → Option (Option Prop × SV × List Chunk)) := (32, fun
  | [.agg [.pd (.str n), .pd (.int .i64 k), .pd (.int .i64 lo), .pd (.int .i64 hi), .pd (.int .i64 ik), .pd (.int .i64 ia), .pd (.int .i64 ib)], .agg [.pd (.int .i64 xk), .pd (.int .i64 xa), .pd (.int .i64 xb)]], [] => some (none, .x (.c (.pd (.bool (fitsM ⟨n, k, lo, hi, ⟨ik, ia, ib⟩⟩ ⟨xk, xa, xb⟩)))), [])
  | _, _ => none)
theorem eFits_ok (vs : List SX) (ck : List Chunk) (p : Option Prop) (ret : SV) (ck' : List Chunk) (h : eFits.2 vs ck = some (p, ret, ck')) (hp : Holds p) : Does Tryz.prog eFits.1 vs ck ret ck' := by
  unfold eFits at h
  simp only at h
  split at h
  · rename_i n k lo hi ik ia ib xk xa xb
    simp only [Option.some.injEq, Prod.mk.injEq] at h
    obtain ⟨rfl, rfl, rfl⟩ := h
    exact fits_spec ⟨n, k, lo, hi, ⟨ik, ia, ib⟩⟩ ⟨xk, xa, xb⟩
  · simp at h
theorem dofn_spec (v : Var) (d : Deed) : Does Tryz.prog 30 [.e .var v, .p (.ref .deed d 0)] [] (.x (.b (v.name == d.name))) [] := by
  refine Does.go (cfg := cfg0) cfg0_ok Tryz.func30 (by kernel_rfl) (by kernel_rfl) (t := (.ret (.p (.bool (Var.name v == Deed.name d))) [])) (by kernel_rfl) fun Γ => ⟨rfl, rfl⟩
def eDofn : Nat × (List SX → List Chunk → Option (Option Prop × SV × List Chunk)) := (30, fun
  | [.agg [.pd (.str a), .pd (.int .i64 b), .pd (.int .i64 d), .pd (.int .i64 e), .pd (.int .i64 f), .pd (.int .i64 g), .pd (.int .i64 h)], .c (.pd (.ref .deed c 0))], [] => some (none, .x (.c (.pd (.bool (a == c.name)))), [])
  | _, _ => none)
theorem eDofn_ok (vs : List SX) (ck : List Chunk) (p : Option Prop) (ret : SV) (ck' : List Chunk) (h : eDofn.2 vs ck = some (p, ret, ck')) (hp : Holds p) : Does Tryz.prog eDofn.1 vs ck ret ck' := by
  unfold eDofn at h
  simp only at h
  split at h
  · rename_i a b d e f g h c
    simp only [Option.some.injEq, Prod.mk.injEq] at h
    obtain ⟨rfl, rfl, rfl⟩ := h
    exact dofn_spec ⟨a, b, d, e, ⟨f, g, h⟩⟩ c
  · simp at h
def cfgDofn : Cfg := ⟨tys0, [eDofn]⟩
theorem cfgDofn_ok : TabOk Tryz.prog cfgDofn.tab := (TabOk.cons eDofn_ok TabOk.nil)

theorem ixd_loop (vs : List Var) (c : Deed) (Γ : Ctx) (hl : vs.length ≤ maxLen)  : ∀ (n k : Nat), vs.length - k ≤ n → k ≤ vs.length →
    J Tryz.prog 29 (bodyOf Tryz.f29) Γ (Eq2 (.x (.i (firstAt (fun v : Var => v.name == c.name) (vs.drop k) k))) []) [.code [1, 0, 1, 0, 0], .inLoop [1, 0, 1, 0, 0], .inBlock 0, .code [1, 1]] ({ n := 19, fr := [(0, .p (.lst .var vs)), (1, .x (.c (.fn (.func 30) [] [.pd (.ref .deed c 0)]))), (4, .i (0 : Int)), (7, .i (↑(List.length vs) : Int)), (8, .i (k))], ck := [] }) := by
  intro n
  induction n with
  | zero => ?_
  | succ n ih => ?_
  all_goals
    intro k hn hk
    refine J.go (cfg := cfgDofn) cfgDofn_ok Tryz.func29 1000 (t := (.ite (decide ((↑k : Int) < (↑(List.length vs) : Int))) (.need ((0 : Int) ≤ (↑k : Int) ∧ (↑k : Int) < (↑(List.length vs) : Int)) (.ite (Var.name (ETy.get .var vs k) == Deed.name c) (.ret (.i (↑k : Int)) []) (.stop [.code [1, 0, 1, 0, 0], .inLoop [1, 0, 1, 0, 0], .inBlock 0, .code [1, 1]] { n := 19, fr := [(0, .p (.lst .var vs)), (1, .x (.c (.fn (.func 30) [] [.pd (.ref .deed c 0)]))), (4, .i (0 : Int)), (7, .i (↑(List.length vs) : Int)), (8, .i (IntKind.wrap .i64 ((↑k : Int) + (1 : Int))))], ck := [] }))) (.ret (.i (-1 : Int)) []))) (by kernel_rfl) ?_
    refine ⟨fun hlt => ?_, fun hge => ?_⟩
    · have hk' : k < vs.length := by have := of_decide_eq_true hlt; omega
      rw [drop_get (t := .var) (l := vs) hk']
      refine ⟨by omega, ?_⟩
      generalize ETy.get .var vs k = v
      refine ⟨fun hb => ⟨?_, rfl⟩, fun hb => ?_⟩
      · simp only [firstAt, hb, cond_true]
      · simp only [firstAt, hb, cond_false]; (rw [wrapK (maxLen_lt hk' hl)]; first | (exfalso; omega) | exact ih (k + 1) (by omega) (by omega))
    · rw [drop_end (l := vs) (by have := of_decide_eq_false hge; omega)]
      exact ⟨rfl, rfl⟩
theorem ixd_spec (vs : List Var) (c : Deed) : Does Tryz.prog 29 [.l .var (vs), SX.c (SC.fn (Fn.func 30) [] [RC.pd (PD.ref ETy.deed c 0)])] [] (.x (.i (firstAt (fun v : Var => v.name == c.name) vs 0))) [] := by
  refine Does.go (cfg := cfgDofn) cfgDofn_ok Tryz.func29 (by kernel_rfl) (by kernel_rfl) (t := (.stop [.code [1, 0, 1, 0, 0], .inLoop [1, 0, 1, 0, 0], .inBlock 0, .code [1, 1]] { n := 19, fr := [(0, .p (.lst .var vs)), (1, .x (.c (.fn (.func 30) [] [.pd (.ref .deed c 0)]))), (4, .i (0 : Int)), (7, .i (↑(List.length vs) : Int)), (8, .i (0 : Int))], ck := [] })) (by kernel_rfl) fun Γ => ?_
  exact J.len 0 rfl fun hl => ixd_loop vs c Γ hl vs.length 0 (by omega) (by omega)
def eIxd : Nat × (List SX → List Chunk → Option (Option Prop × SV × List Chunk)) := (29, fun
  | [.c (.pd (.lst .var vs)), .c (.fn (.func 30) [] [.pd (.ref .deed c 0)])], [] => some (none, .x (.c (.pd (.int .i64 (firstAt (fun v : Var => v.name == c.name) vs 0)))), [])
  | _, _ => none)
theorem eIxd_ok (vs : List SX) (ck : List Chunk) (p : Option Prop) (ret : SV) (ck' : List Chunk) (h : eIxd.2 vs ck = some (p, ret, ck')) (hp : Holds p) : Does Tryz.prog eIxd.1 vs ck ret ck' := by
  unfold eIxd at h
  simp only at h
  split at h
  · rename_i vs c
    simp only [Option.some.injEq, Prod.mk.injEq] at h
    obtain ⟨rfl, rfl, rfl⟩ := h
    exact ixd_spec vs c
  · simp at h
theorem plfn_spec (c : Cell) : Does Tryz.prog 81 [.e .cell c] [] (.x (.b (c.op == 6))) [] := by
  refine Does.go (cfg := cfg0) cfg0_ok Tryz.func81 (by kernel_rfl) (by kernel_rfl) (t := (.ret (.p (.bool (Cell.op c == (6 : Int)))) [])) (by kernel_rfl) fun Γ => ⟨rfl, rfl⟩
def ePlfn : Nat × (List SX → List Chunk → Option (Option Prop × SV × List Chunk)) := (81, fun
  | [.agg [.pd (.int .i64 a), .pd (.int .i64 b), .pd (.str d)]], [] => some (none, .x (.c (.pd (.bool (a == 6)))), [])
  | _, _ => none)
theorem ePlfn_ok (vs : List SX) (ck : List Chunk) (p : Option Prop) (ret : SV) (ck' : List Chunk) (h : ePlfn.2 vs ck = some (p, ret, ck')) (hp : Holds p) : Does Tryz.prog ePlfn.1 vs ck ret ck' := by
  unfold ePlfn at h
  simp only at h
  split at h
  · rename_i a b d
    simp only [Option.some.injEq, Prod.mk.injEq] at h
    obtain ⟨rfl, rfl, rfl⟩ := h
    exact plfn_spec ⟨a, b, d⟩
  · simp at h
def cfgPlfn : Cfg := ⟨tys0, [ePlfn]⟩
theorem cfgPlfn_ok : TabOk Tryz.prog cfgPlfn.tab := (TabOk.cons ePlfn_ok TabOk.nil)

theorem ixc_loop (l : List Cell) (Γ : Ctx) (hl : l.length ≤ maxLen)  : ∀ (n k : Nat), l.length - k ≤ n → k ≤ l.length →
    J Tryz.prog 114 (bodyOf Tryz.f114) Γ (Eq2 (.x (.i (firstAt (fun c : Cell => c.op == 6) (l.drop k) k))) []) [.code [1, 0, 1, 0, 0], .inLoop [1, 0, 1, 0, 0], .inBlock 0, .code [1, 1]] ({ n := 19, fr := [(0, .p (.lst .cell l)), (1, .x (.c (.fn (.func 81) [] []))), (4, .i (0 : Int)), (7, .i (↑(List.length l) : Int)), (8, .i (k))], ck := [] }) := by
  intro n
  induction n with
  | zero => ?_
  | succ n ih => ?_
  all_goals
    intro k hn hk
    refine J.go (cfg := cfgPlfn) cfgPlfn_ok Tryz.func114 1000 (t := (.ite (decide ((↑k : Int) < (↑(List.length l) : Int))) (.need ((0 : Int) ≤ (↑k : Int) ∧ (↑k : Int) < (↑(List.length l) : Int)) (.ite (Cell.op (ETy.get .cell l k) == (6 : Int)) (.ret (.i (↑k : Int)) []) (.stop [.code [1, 0, 1, 0, 0], .inLoop [1, 0, 1, 0, 0], .inBlock 0, .code [1, 1]] { n := 19, fr := [(0, .p (.lst .cell l)), (1, .x (.c (.fn (.func 81) [] []))), (4, .i (0 : Int)), (7, .i (↑(List.length l) : Int)), (8, .i (IntKind.wrap .i64 ((↑k : Int) + (1 : Int))))], ck := [] }))) (.ret (.i (-1 : Int)) []))) (by kernel_rfl) ?_
    refine ⟨fun hlt => ?_, fun hge => ?_⟩
    · have hk' : k < l.length := by have := of_decide_eq_true hlt; omega
      rw [drop_get (t := .cell) (l := l) hk']
      refine ⟨by omega, ?_⟩
      generalize ETy.get .cell l k = v
      refine ⟨fun hb => ⟨?_, rfl⟩, fun hb => ?_⟩
      · simp only [firstAt, hb, cond_true]
      · simp only [firstAt, hb, cond_false]; (rw [wrapK (maxLen_lt hk' hl)]; first | (exfalso; omega) | exact ih (k + 1) (by omega) (by omega))
    · rw [drop_end (l := l) (by have := of_decide_eq_false hge; omega)]
      exact ⟨rfl, rfl⟩
theorem ixc_spec (l : List Cell) : Does Tryz.prog 114 [.l .cell (l), SX.c (SC.fn (Fn.func 81) [] [])] [] (.x (.i (firstAt (fun c : Cell => c.op == 6) l 0))) [] := by
  refine Does.go (cfg := cfgPlfn) cfgPlfn_ok Tryz.func114 (by kernel_rfl) (by kernel_rfl) (t := (.stop [.code [1, 0, 1, 0, 0], .inLoop [1, 0, 1, 0, 0], .inBlock 0, .code [1, 1]] { n := 19, fr := [(0, .p (.lst .cell l)), (1, .x (.c (.fn (.func 81) [] []))), (4, .i (0 : Int)), (7, .i (↑(List.length l) : Int)), (8, .i (0 : Int))], ck := [] })) (by kernel_rfl) fun Γ => ?_
  exact J.len 0 rfl fun hl => ixc_loop l Γ hl l.length 0 (by omega) (by omega)
def eIxc : Nat × (List SX → List Chunk → Option (Option Prop × SV × List Chunk)) := (114, fun
  | [.c (.pd (.lst .cell l)), .c (.fn (.func 81) [] [])], [] => some (none, .x (.c (.pd (.int .i64 (firstAt (fun c : Cell => c.op == 6) l 0)))), [])
  | _, _ => none)
theorem eIxc_ok (vs : List SX) (ck : List Chunk) (p : Option Prop) (ret : SV) (ck' : List Chunk) (h : eIxc.2 vs ck = some (p, ret, ck')) (hp : Holds p) : Does Tryz.prog eIxc.1 vs ck ret ck' := by
  unfold eIxc at h
  simp only at h
  split at h
  · rename_i l
    simp only [Option.some.injEq, Prod.mk.injEq] at h
    obtain ⟨rfl, rfl, rfl⟩ := h
    exact ixc_spec l
  · simp at h
def cfgIxc : Cfg := ⟨tys0, [eIxc]⟩
theorem cfgIxc_ok : TabOk Tryz.prog cfgIxc.tab := (TabOk.cons eIxc_ok TabOk.nil)
theorem cfc_spec (l : List Cell) : Does Tryz.prog 80 [.l .cell l, .c (.fn (.func 81) [] [])] [] (.x (.b (asksM l))) [] := by
  refine Does.go (cfg := cfgIxc) cfgIxc_ok Tryz.func80 (by kernel_rfl) (by kernel_rfl) (t := (.ret (.p (.bool (decide (firstAt (fun c => Cell.op c == (6 : Int)) l (0 : Int) ≥ (0 : Int))))) [])) (by kernel_rfl) fun Γ => ⟨?_, rfl⟩
  rw [firstAt_any _ _ _ (by omega)]; rfl
def eCfc : Nat × (List SX → List Chunk → Option (Option Prop × SV × List Chunk)) := (80, fun
  | [.c (.pd (.lst .cell l)), .c (.fn (.func 81) [] [])], [] => some (none, .x (.c (.pd (.bool (asksM l)))), [])
  | _, _ => none)
theorem eCfc_ok (vs : List SX) (ck : List Chunk) (p : Option Prop) (ret : SV) (ck' : List Chunk) (h : eCfc.2 vs ck = some (p, ret, ck')) (hp : Holds p) : Does Tryz.prog eCfc.1 vs ck ret ck' := by
  unfold eCfc at h
  simp only at h
  split at h
  · rename_i l
    simp only [Option.some.injEq, Prod.mk.injEq] at h
    obtain ⟨rfl, rfl, rfl⟩ := h
    exact cfc_spec l
  · simp at h
def cfgPlain : Cfg := ⟨tys0, [eRight, eCfc]⟩
theorem cfgPlain_ok : TabOk Tryz.prog cfgPlain.tab := (TabOk.cons eRight_ok (TabOk.cons eCfc_ok TabOk.nil))
theorem plainA_spec (l : List Cell) : Does Tryz.prog 46 [.l .cell l] [] (.x (.b (plainM l))) [] := by
  refine Does.go (cfg := cfgPlain) cfgPlain_ok Tryz.func46 (by kernel_rfl) (by kernel_rfl) (t := (.ret (.p (.bool (rightM l && !asksM l))) [])) (by kernel_rfl) fun Γ => ?_
  exact ⟨rfl, rfl⟩
def ePlainA : Nat × (List SX → List Chunk → Option (Option Prop × SV × List Chunk)) := (46, fun
  | [.c (.pd (.lst .cell l))], [] => some (none, .x (.c (.pd (.bool (plainM l)))), [])
  | _, _ => none)
theorem ePlainA_ok (vs : List SX) (ck : List Chunk) (p : Option Prop) (ret : SV) (ck' : List Chunk) (h : ePlainA.2 vs ck = some (p, ret, ck')) (hp : Holds p) : Does Tryz.prog ePlainA.1 vs ck ret ck' := by
  unfold ePlainA at h
  simp only at h
  split at h
  · rename_i l
    simp only [Option.some.injEq, Prod.mk.injEq] at h
    obtain ⟨rfl, rfl, rfl⟩ := h
    exact plainA_spec l
  · simp at h
def cfgDeed : Cfg := ⟨tys0, [eName, ePlainA, eEvent]⟩
theorem cfgDeed_ok : TabOk Tryz.prog cfgDeed.tab := (TabOk.cons eName_ok (TabOk.cons ePlainA_ok (TabOk.cons eEvent_ok TabOk.nil)))
theorem deed_spec (d : Deed) : Does Tryz.prog 38 [.e .deed d] [] (.x (.b (deedOk d))) [] := by
  refine Does.go (cfg := cfgDeed) cfgDeed_ok Tryz.func38 (by kernel_rfl) (by kernel_rfl) (t := (.ite (Deed.kind d == (1 : Int)) (.ret (.p (.bool (nameM (Deed.name d) && plainM (Deed.expr d)))) []) (.ite (Deed.kind d == (2 : Int)) (.ret (.p (.bool (eventM (Deed.name d) && (↑(List.length (Deed.expr d)) : Int) == (0 : Int)))) []) (.ite (Deed.kind d == (3 : Int)) (.ret (.p (.bool (eventM (Deed.name d) && (↑(List.length (Deed.expr d)) : Int) == (0 : Int)))) []) (.ret (.p (.bool false)) []))))) (by kernel_rfl) fun Γ => ?_
  unfold deedOk
  refine ⟨fun h => ?_, fun h1 => ⟨fun h => ?_, fun h2 => ⟨fun h => ?_, fun h3 => ?_⟩⟩⟩
  · rw [h]; exact ⟨rfl, rfl⟩
  · rw [h1, h]; exact ⟨rfl, rfl⟩
  · rw [h1, h2, h]; exact ⟨rfl, rfl⟩
  · rw [h1, h2, h3]; exact ⟨rfl, rfl⟩
def eDeed : Nat × (List SX → List Chunk → Option (Option Prop × SV × List Chunk)) := (38, fun
  | [.agg [.pd (.int .i64 a), .pd (.str b), .pd (.lst .cell d)]], [] => some (none, .x (.c (.pd (.bool (deedOk ⟨a, b, d⟩)))), [])
  | _, _ => none)
theorem eDeed_ok (vs : List SX) (ck : List Chunk) (p : Option Prop) (ret : SV) (ck' : List Chunk) (h : eDeed.2 vs ck = some (p, ret, ck')) (hp : Holds p) : Does Tryz.prog eDeed.1 vs ck ret ck' := by
  unfold eDeed at h
  simp only at h
  split at h
  · rename_i a b d
    simp only [Option.some.injEq, Prod.mk.injEq] at h
    obtain ⟨rfl, rfl, rfl⟩ := h
    exact deed_spec ⟨a, b, d⟩
  · simp at h
def cfgBlock : Cfg := ⟨tys0, [eDeed]⟩
theorem cfgBlock_ok : TabOk Tryz.prog cfgBlock.tab := (TabOk.cons eDeed_ok TabOk.nil)

theorem ri_loop (l : List Deed) (Γ : Ctx) (hl : l.length ≤ maxLen)  : ∀ (n k : Nat), l.length - k ≤ n → k ≤ l.length →
    J Tryz.prog 22 (bodyOf Tryz.f22) Γ (Eq2 (.x (.b ((l.drop k).all deedOk && (decide ((l.length : Int) > 0) && decide ((l.length : Int) ≤ 8))))) []) [.code [1, 0, 1, 0, 0], .inLoop [1, 0, 1, 0, 0], .inBlock 0, .code [1, 1]] ({ n := 23, fr := [(0, .p (.lst .deed l)), (2, .p (.bool false)), (5, .p (.lst .deed l)), (6, .i (↑(List.length l) : Int)), (7, .i (k))], ck := [], kn := [2] }) := by
  intro n
  induction n with
  | zero => ?_
  | succ n ih => ?_
  all_goals
    intro k hn hk
    refine J.go (cfg := cfgBlock) cfgBlock_ok Tryz.func22 1000 (t := (.ite (decide ((↑k : Int) < (↑(List.length l) : Int))) (.need ((0 : Int) ≤ (↑k : Int) ∧ (↑k : Int) < (↑(List.length l) : Int)) (.ite (!deedOk { kind := Deed.kind (ETy.get .deed l k), name := Deed.name (ETy.get .deed l k), expr := Deed.expr (ETy.get .deed l k) }) (.ret (.p (.bool false)) []) (.stop [.code [1, 0, 1, 0, 0], .inLoop [1, 0, 1, 0, 0], .inBlock 0, .code [1, 1]] { n := 23, fr := [(0, .p (.lst .deed l)), (2, .p (.bool false)), (5, .p (.lst .deed l)), (6, .i (↑(List.length l) : Int)), (7, .i (IntKind.wrap .i64 ((↑k : Int) + (1 : Int))))], ck := [], kn := [2] }))) (.ret (.p (.bool (decide ((↑(List.length l) : Int) > (0 : Int)) && decide ((↑(List.length l) : Int) ≤ (8 : Int))))) []))) (by kernel_rfl) ?_
    refine ⟨fun hlt => ?_, fun hge => ?_⟩
    · have hk' : k < l.length := by have := of_decide_eq_true hlt; omega
      rw [drop_get (t := .deed) (l := l) hk']
      refine ⟨by omega, ?_⟩
      generalize ETy.get .deed l k = v
      rw [List.all_cons]
      refine ⟨fun hb => ⟨?_, rfl⟩, fun hb => ?_⟩
      · have hb' : deedOk v = false := nt hb
        rw [hb']; rfl
      · have hb' : deedOk v = true := nf hb
        rw [hb', Bool.true_and]; (rw [wrapK (maxLen_lt hk' hl)]; first | (exfalso; omega) | exact ih (k + 1) (by omega) (by omega))
    · rw [drop_end (l := l) (by have := of_decide_eq_false hge; omega)]
      exact ⟨rfl, rfl⟩
theorem ri_spec (l : List Deed) : Does Tryz.prog 22 [.l .deed (l)] [] (.x (.b (blockOk l))) [] := by
  refine Does.go (cfg := cfgBlock) cfgBlock_ok Tryz.func22 (by kernel_rfl) (by kernel_rfl) (t := (.stop [.code [1, 0, 1, 0, 0], .inLoop [1, 0, 1, 0, 0], .inBlock 0, .code [1, 1]] { n := 23, fr := [(0, .p (.lst .deed l)), (2, .p (.bool false)), (5, .p (.lst .deed l)), (6, .i (↑(List.length l) : Int)), (7, .i (0 : Int))], ck := [], kn := [2] })) (by kernel_rfl) fun Γ => ?_
  exact J.len 0 rfl fun hl => ri_loop l Γ hl l.length 0 (by omega) (by omega)
def eBlock : Nat × (List SX → List Chunk → Option (Option Prop × SV × List Chunk)) := (22, fun
  | [.c (.pd (.lst .deed l))], [] => some (none, .x (.c (.pd (.bool (blockOk l)))), [])
  | _, _ => none)
theorem eBlock_ok (vs : List SX) (ck : List Chunk) (p : Option Prop) (ret : SV) (ck' : List Chunk) (h : eBlock.2 vs ck = some (p, ret, ck')) (hp : Holds p) : Does Tryz.prog eBlock.1 vs ck ret ck' := by
  unfold eBlock at h
  simp only at h
  split at h
  · rename_i l
    simp only [Option.some.injEq, Prod.mk.injEq] at h
    obtain ⟨rfl, rfl, rfl⟩ := h
    exact ri_spec l
  · simp at h
end Go.Proofs.YtjndellhebidoaaGreatDoor

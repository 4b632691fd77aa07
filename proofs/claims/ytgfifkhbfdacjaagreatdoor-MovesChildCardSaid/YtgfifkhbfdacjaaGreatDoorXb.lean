/- Contracts: the document's kinds. Conditions: none. Contracts: texts' beginnings, events' names; behind the kinds' texts. Conditions: none. Contracts: names, events' names. Conditions: none. Contracts: the kinds of lines, a map. Conditions: none. -/
import Derived.Test.YtgfifkhbfdacjaaGreatDoorFe
import Derived.Test.YtgfifkhbfdacjaaGreatDoorKb
import Derived.Lib.AppendIntMem
import Derived.Test.YtgfifkhbfdacjaaGreatDoorVe
namespace Go.Proofs.YtgfifkhbfdacjaaGreatDoor
open Go Go.Ev
set_option maxRecDepth 100000
def eK (K : Int → Int × Int) : Ent := (171, fun
 | [.c (.pd (.lst .cell l)), .c (.pd (.int .i64 e)), .c (.pd (.lst .var vs)), .c (.pd (.lst .str ss))], [] => some (some (ah Tryz.prog 171 [SX.l .cell l, SX.i e, SX.l .var vs, SX.l .str ss] [] (cq (K e)) []), cq (K e), [])
 | _, _ => none)
def eB (B : Int → Int) : Ent := (203, fun
 | [.c (.pd (.lst .cell l)), .c (.pd (.int .i64 e))], [] => some (some (ah Tryz.prog 203 [SX.l .cell l, SX.i e] [] (.x (.i (B e))) []), .x (.i (B e)), [])
 | _, _ => none)
def Dz (K : Int → Int × Int) (B : Int → Int) : Cfg := ⟨aX, [wM, sb, eJn, eK K, eB B]⟩
def KI (K : Int → Int × Int) : Cfg := ⟨aX, [mu, eK K]⟩
theorem KB {K : Int → Int × Int} (vs : List SX) (ck : List Chunk) (p : Option Prop) (ret : SV) (ck' : List Chunk) (h : (eK K).2 vs ck = some (p, ret, ck')) (hp : Holds p) : ah Tryz.prog (eK K).1 vs ck ret ck' := by
 unfold eK at h
 simp only at h
 split at h
 · simp only [Option.some.injEq, Prod.mk.injEq] at h
   obtain ⟨rfl, rfl, rfl⟩ := h
   exact hp
 · simp at h
theorem N2 {B : Int → Int} (vs : List SX) (ck : List Chunk) (p : Option Prop) (ret : SV) (ck' : List Chunk) (h : (eB B).2 vs ck = some (p, ret, ck')) (hp : Holds p) : ah Tryz.prog (eB B).1 vs ck ret ck' := by
 unfold eB at h
 simp only at h
 split at h
 · simp only [Option.some.injEq, Prod.mk.injEq] at h
   obtain ⟨rfl, rfl, rfl⟩ := h
   exact hp
 · simp at h
theorem tz {K : Int → Int × Int} {B : Int → Int} : ag Tryz.prog (Dz K B).tab := ag.cons AV (ag.cons FP (ag.cons MX (ag.cons KB (ag.cons N2 ag.nil))))
theorem Jo {K : Int → Int × Int} : ag Tryz.prog (KI K).tab := ag.cons rG (ag.cons KB ag.nil)
theorem oF {l pre post : List Cell} {c : Cell} {front : List Cell} (hq : l = pre ++ (front ++ [c]) ++ post) : pre.length + front.length < l.length ∧ ETy.get .cell l (pre.length + front.length) = c := by
 have he : pre.length + front.length < l.length := by rw [hq]; simp
 refine ⟨he, ETy.get_eq (t := .cell) ?_⟩
 have hx : pre.length + front.length = (pre ++ front).length := by simp
 rw [hx, hq, ← List.append_assoc, List.append_assoc, List.getElem?_append_right (Nat.le_refl _), Nat.sub_self]; rfl
theorem GL (c : Cell) (h : 0 ≤ bm c) : c.op ≤ 23 := by
 unfold bm cH at h
 simp only [cond_eq_ite] at h
 repeat' split at h
 all_goals simp_all
 all_goals omega
theorem lQ (l : List Cell) (vs : List Var) (ss : List Str) (hl : l.length ≤ 32) : ∀ (t : Tm), t.ok → ∀ (pre post : List Cell), l = pre ++ t.flat ++ post →
 ah Tryz.prog 171 [.l .cell l, .i ((pre.length : Int) + t.flat.length - 1), .l .var vs, .l .str ss] [] (cq (t.kind vs ss)) []
 | .leaf c, h, pre, post, hq => by
   obtain ⟨he, hc⟩ := oF (front := []) (pre := pre) (post := post) (c := c) (l := l) (by rw [hq]; simp [Tm.flat])
   have e1 : (pre.length : Int) + ((Tm.leaf c).flat.length : Int) - 1 = ((pre.length + ([] : List Cell).length : Nat) : Int) := by simp [Tm.flat]
   rw [e1]
   generalize pre.length + ([] : List Cell).length = e at *
   let K : Int → Int × Int := fun _ => (0, 0)
   let B : Int → Int := fun _ => 0
   refine dg (cfg := (Dz K B)) tz Tryz.func171 (.need (inRg e l.length) (.ite (cH (Cell.op (ETy.get .cell l e)) (Cell.a (ETy.get .cell l e)) (Cell.name (ETy.get .cell l e)) == (0 : Int)) (.ret (.tup [.i (Prod.fst (bW (ETy.get .cell l e) vs ss)), .i (Prod.snd (bW (ETy.get .cell l e) vs ss))]) []) (.ite (cH (Cell.op (ETy.get .cell l e)) (Cell.a (ETy.get .cell l e)) (Cell.name (ETy.get .cell l e)) == (1 : Int)) (.need (ah Tryz.prog (171 : FuncId) [SX.l .cell l, SX.i (IntKind.wrap .i64 ((e : Int) - 1)), SX.l .var vs, SX.l .str ss] [] (cq (K (IntKind.wrap .i64 ((e : Int) - 1)))) []) (.ite (Prod.snd (K (IntKind.wrap .i64 ((e : Int) - 1))) != (0 : Int)) (.ret (.tup [.i 0, .i (Prod.snd (K (IntKind.wrap .i64 ((e : Int) - 1))))]) []) (.ite (Cell.op (ETy.get .cell l e) == (7 : Int) && Prod.fst (K (IntKind.wrap .i64 ((e : Int) - 1))) != (2 : Int)) (.ret (.tup [.i (Prod.fst (K (IntKind.wrap .i64 ((e : Int) - 1)))), .i 0]) []) (.ite (Cell.op (ETy.get .cell l e) == (8 : Int) && Prod.fst (K (IntKind.wrap .i64 ((e : Int) - 1))) == (2 : Int)) (.ret (.tup [.i (Prod.fst (K (IntKind.wrap .i64 ((e : Int) - 1)))), .i 0]) []) (.ite (decide (Cell.op (ETy.get .cell l e) > (8 : Int)) && Prod.fst (K (IntKind.wrap .i64 ((e : Int) - 1))) == (3 : Int)) (.ret (.tup [.i 1, .i 0]) []) (.ret (.tup [.i 0, .i 8]) [])))))) (.need (ah Tryz.prog (203 : FuncId) [SX.l .cell l, SX.i (IntKind.wrap .i64 ((e : Int) - 1))] [] (.x (SX.i (B (IntKind.wrap .i64 ((e : Int) - 1))))) []) (.need (ah Tryz.prog (171 : FuncId) [SX.l .cell l, SX.i (IntKind.wrap .i64 (B (IntKind.wrap .i64 ((e : Int) - 1)) - (1 : Int))), SX.l .var vs, SX.l .str ss] [] (cq (K (IntKind.wrap .i64 (B (IntKind.wrap .i64 ((e : Int) - 1)) - (1 : Int))))) []) (.ite (Prod.snd (K (IntKind.wrap .i64 (B (IntKind.wrap .i64 ((e : Int) - 1)) - (1 : Int)))) != (0 : Int)) (.ret (.tup [.i 0, .i (Prod.snd (K (IntKind.wrap .i64 (B (IntKind.wrap .i64 ((e : Int) - 1)) - (1 : Int)))))]) []) (.need (ah Tryz.prog (171 : FuncId) [SX.l .cell l, SX.i (IntKind.wrap .i64 ((e : Int) - 1)), SX.l .var vs, SX.l .str ss] [] (cq (K (IntKind.wrap .i64 ((e : Int) - 1)))) []) (.ite (Prod.snd (K (IntKind.wrap .i64 ((e : Int) - 1))) != (0 : Int)) (.ret (.tup [.i 0, .i (Prod.snd (K (IntKind.wrap .i64 ((e : Int) - 1))))]) []) (.ite (Prod.fst (K (IntKind.wrap .i64 (B (IntKind.wrap .i64 ((e : Int) - 1)) - (1 : Int)))) != Prod.fst (K (IntKind.wrap .i64 ((e : Int) - 1)))) (.ret (.tup [.i 0, .i 8]) []) (.ret (.tup [.i (Prod.fst (gy (Cell.op (ETy.get .cell l e)) (Prod.fst (K (IntKind.wrap .i64 (B (IntKind.wrap .i64 ((e : Int) - 1)) - (1 : Int))))))), .i (Prod.snd (gy (Cell.op (ETy.get .cell l e)) (Prod.fst (K (IntKind.wrap .i64 (B (IntKind.wrap .i64 ((e : Int) - 1)) - (1 : Int)))))))]) [])))))))))) fun Γ => ?_
   rw [hc]
   have hw : cH c.op c.a c.name = 0 := h
   rw [hw]
   exact ⟨⟨by omega, by omega⟩, fun _ => ⟨rfl, rfl⟩, fun h => Bool.noConfusion h⟩
 | .un c t, ⟨hw, ht⟩, pre, post, hq => by
   obtain ⟨he, hc⟩ := oF (front := t.flat) (pre := pre) (post := post) (c := c) (l := l) hq
   have e1 : (pre.length : Int) + ((Tm.un c t).flat.length : Int) - 1 = ((pre.length + t.flat.length : Nat) : Int) := by simp only [Tm.flat, List.length_append, List.length_cons, List.length_nil]; omega
   rw [e1]
   have hop := gB c (by omega)
   have hw' : cH c.op c.a c.name = 1 := hw
   have e2 : IntKind.wrap .i64 (((pre.length + t.flat.length : Nat) : Int) - 1) = (pre.length : Int) + t.flat.length - 1 := by
    have := t.flat_pos
    rw [cn (by omega) (by omega)]; omega
   have ih := lQ l vs ss hl t ht pre ([c] ++ post) (by rw [hq]; simp [Tm.flat])
   rw [← e2] at ih
   generalize pre.length + t.flat.length = e at *
   let K : Int → Int × Int := fun _ => t.kind vs ss
   let B : Int → Int := fun _ => 0
   refine dg (cfg := (Dz K B)) tz Tryz.func171 (.need (inRg e l.length) (.ite (cH (Cell.op (ETy.get .cell l e)) (Cell.a (ETy.get .cell l e)) (Cell.name (ETy.get .cell l e)) == (0 : Int)) (.ret (.tup [.i (Prod.fst (bW (ETy.get .cell l e) vs ss)), .i (Prod.snd (bW (ETy.get .cell l e) vs ss))]) []) (.ite (cH (Cell.op (ETy.get .cell l e)) (Cell.a (ETy.get .cell l e)) (Cell.name (ETy.get .cell l e)) == (1 : Int)) (.need (ah Tryz.prog (171 : FuncId) [SX.l .cell l, SX.i (IntKind.wrap .i64 ((e : Int) - 1)), SX.l .var vs, SX.l .str ss] [] (cq (K (IntKind.wrap .i64 ((e : Int) - 1)))) []) (.ite (Prod.snd (K (IntKind.wrap .i64 ((e : Int) - 1))) != (0 : Int)) (.ret (.tup [.i 0, .i (Prod.snd (K (IntKind.wrap .i64 ((e : Int) - 1))))]) []) (.ite (Cell.op (ETy.get .cell l e) == (7 : Int) && Prod.fst (K (IntKind.wrap .i64 ((e : Int) - 1))) != (2 : Int)) (.ret (.tup [.i (Prod.fst (K (IntKind.wrap .i64 ((e : Int) - 1)))), .i 0]) []) (.ite (Cell.op (ETy.get .cell l e) == (8 : Int) && Prod.fst (K (IntKind.wrap .i64 ((e : Int) - 1))) == (2 : Int)) (.ret (.tup [.i (Prod.fst (K (IntKind.wrap .i64 ((e : Int) - 1)))), .i 0]) []) (.ite (decide (Cell.op (ETy.get .cell l e) > (8 : Int)) && Prod.fst (K (IntKind.wrap .i64 ((e : Int) - 1))) == (3 : Int)) (.ret (.tup [.i 1, .i 0]) []) (.ret (.tup [.i 0, .i 8]) [])))))) (.need (ah Tryz.prog (203 : FuncId) [SX.l .cell l, SX.i (IntKind.wrap .i64 ((e : Int) - 1))] [] (.x (SX.i (B (IntKind.wrap .i64 ((e : Int) - 1))))) []) (.need (ah Tryz.prog (171 : FuncId) [SX.l .cell l, SX.i (IntKind.wrap .i64 (B (IntKind.wrap .i64 ((e : Int) - 1)) - (1 : Int))), SX.l .var vs, SX.l .str ss] [] (cq (K (IntKind.wrap .i64 (B (IntKind.wrap .i64 ((e : Int) - 1)) - (1 : Int))))) []) (.ite (Prod.snd (K (IntKind.wrap .i64 (B (IntKind.wrap .i64 ((e : Int) - 1)) - (1 : Int)))) != (0 : Int)) (.ret (.tup [.i 0, .i (Prod.snd (K (IntKind.wrap .i64 (B (IntKind.wrap .i64 ((e : Int) - 1)) - (1 : Int)))))]) []) (.need (ah Tryz.prog (171 : FuncId) [SX.l .cell l, SX.i (IntKind.wrap .i64 ((e : Int) - 1)), SX.l .var vs, SX.l .str ss] [] (cq (K (IntKind.wrap .i64 ((e : Int) - 1)))) []) (.ite (Prod.snd (K (IntKind.wrap .i64 ((e : Int) - 1))) != (0 : Int)) (.ret (.tup [.i 0, .i (Prod.snd (K (IntKind.wrap .i64 ((e : Int) - 1))))]) []) (.ite (Prod.fst (K (IntKind.wrap .i64 (B (IntKind.wrap .i64 ((e : Int) - 1)) - (1 : Int)))) != Prod.fst (K (IntKind.wrap .i64 ((e : Int) - 1)))) (.ret (.tup [.i 0, .i 8]) []) (.ret (.tup [.i (Prod.fst (gy (Cell.op (ETy.get .cell l e)) (Prod.fst (K (IntKind.wrap .i64 (B (IntKind.wrap .i64 ((e : Int) - 1)) - (1 : Int))))))), .i (Prod.snd (gy (Cell.op (ETy.get .cell l e)) (Prod.fst (K (IntKind.wrap .i64 (B (IntKind.wrap .i64 ((e : Int) - 1)) - (1 : Int)))))))]) [])))))))))) fun Γ => ?_
   rw [hc, hw']
   refine ⟨⟨by omega, by omega⟩, fun h => Bool.noConfusion h, fun _ => ⟨fun _ => ⟨ih, ?_⟩, fun h => Bool.noConfusion h⟩⟩
   simp only [Tm.kind, K]
   have hone := t.kind_one vs ss
   generalize t.kind vs ss = kf at *
   obtain ⟨k1, k2⟩ := kf
   refine ⟨fun h => ⟨?_, rfl⟩, fun h => ?_⟩
   · have h' : (k2 != 0) = true := h
     simp only [h', cond_true, cq]
   · have h' : (k2 != 0) = false := h
     have h0 : k2 = 0 := by simpa using h'
     have hk := hone.1 h0
     have hu := Ny c.op k1 (by omega) (by omega) hk.1 hk.2
     simp only [h', cond_false, ← hu]
     refine ⟨fun q1 => ⟨?_, rfl⟩, fun q1 => ⟨fun q2 => ⟨?_, rfl⟩, fun q2 => ⟨fun q3 => ⟨?_, rfl⟩, fun q3 => ⟨?_, rfl⟩⟩⟩⟩ <;> simp only [KJ, *, cond_true, cond_false, cq]
 | .bin c t u, ⟨hw, ht, hu⟩, pre, post, hq => by
   obtain ⟨he, hc⟩ := oF (front := t.flat ++ u.flat) (pre := pre) (post := post) (c := c) (l := l) hq
   have e1 : (pre.length : Int) + ((Tm.bin c t u).flat.length : Int) - 1 = ((pre.length + (t.flat ++ u.flat).length : Nat) : Int) := by simp only [Tm.flat, List.length_append, List.length_cons, List.length_nil]; omega
   rw [e1]
   have hop := gB c (by omega)
   have hw' : cH c.op c.a c.name = 2 := hw
   have htp := t.flat_pos
   have hup := u.flat_pos
   have hq1 : l = pre ++ t.flat ++ (u.flat ++ [c] ++ post) := by rw [hq]; simp [Tm.flat]
   have hq2 : l = (pre ++ t.flat) ++ u.flat ++ ([c] ++ post) := by rw [hq]; simp [Tm.flat]
   have e2 : IntKind.wrap .i64 (((pre.length + (t.flat ++ u.flat).length : Nat) : Int) - 1) = ((pre ++ t.flat).length : Int) + u.flat.length - 1 := by
    simp only [List.length_append] at he ⊢
    rw [cn (by omega) (by omega)]; omega
   have e3 : IntKind.wrap .i64 (((pre ++ t.flat).length : Int) - 1) = (pre.length : Int) + t.flat.length - 1 := by
    simp only [List.length_append] at he ⊢
    rw [cn (by omega) (by omega)]; omega
   have ih1 := lQ l vs ss hl t ht pre (u.flat ++ [c] ++ post) hq1
   have ih2 := lQ l vs ss hl u hu (pre ++ t.flat) ([c] ++ post) hq2
   have hbeg := Cp l u hu (pre ++ t.flat) ([c] ++ post) hq2 hl
   have hne : IntKind.wrap .i64 (((pre ++ t.flat).length : Int) - 1) ≠ IntKind.wrap .i64 (((pre.length + (t.flat ++ u.flat).length : Nat) : Int) - 1) := by
    rw [e2, e3]; simp only [List.length_append]; omega
   rw [← e3] at ih1
   rw [← e2] at ih2 hbeg
   generalize pre.length + (t.flat ++ u.flat).length = e at *
   generalize (pre ++ t.flat).length = x at *
   let K : Int → Int × Int := fun i => if i = IntKind.wrap .i64 ((x : Int) - 1) then t.kind vs ss else u.kind vs ss
   let B : Int → Int := fun _ => (x : Int)
   have k1 : K (IntKind.wrap .i64 ((x : Int) - 1)) = t.kind vs ss := if_pos rfl
   have k2 : K (IntKind.wrap .i64 ((e : Int) - 1)) = u.kind vs ss := if_neg (Ne.symm hne)
   refine dg (cfg := (Dz K B)) tz Tryz.func171 (.need (inRg e l.length) (.ite (cH (Cell.op (ETy.get .cell l e)) (Cell.a (ETy.get .cell l e)) (Cell.name (ETy.get .cell l e)) == (0 : Int)) (.ret (.tup [.i (Prod.fst (bW (ETy.get .cell l e) vs ss)), .i (Prod.snd (bW (ETy.get .cell l e) vs ss))]) []) (.ite (cH (Cell.op (ETy.get .cell l e)) (Cell.a (ETy.get .cell l e)) (Cell.name (ETy.get .cell l e)) == (1 : Int)) (.need (ah Tryz.prog (171 : FuncId) [SX.l .cell l, SX.i (IntKind.wrap .i64 ((e : Int) - 1)), SX.l .var vs, SX.l .str ss] [] (cq (K (IntKind.wrap .i64 ((e : Int) - 1)))) []) (.ite (Prod.snd (K (IntKind.wrap .i64 ((e : Int) - 1))) != (0 : Int)) (.ret (.tup [.i 0, .i (Prod.snd (K (IntKind.wrap .i64 ((e : Int) - 1))))]) []) (.ite (Cell.op (ETy.get .cell l e) == (7 : Int) && Prod.fst (K (IntKind.wrap .i64 ((e : Int) - 1))) != (2 : Int)) (.ret (.tup [.i (Prod.fst (K (IntKind.wrap .i64 ((e : Int) - 1)))), .i 0]) []) (.ite (Cell.op (ETy.get .cell l e) == (8 : Int) && Prod.fst (K (IntKind.wrap .i64 ((e : Int) - 1))) == (2 : Int)) (.ret (.tup [.i (Prod.fst (K (IntKind.wrap .i64 ((e : Int) - 1)))), .i 0]) []) (.ite (decide (Cell.op (ETy.get .cell l e) > (8 : Int)) && Prod.fst (K (IntKind.wrap .i64 ((e : Int) - 1))) == (3 : Int)) (.ret (.tup [.i 1, .i 0]) []) (.ret (.tup [.i 0, .i 8]) [])))))) (.need (ah Tryz.prog (203 : FuncId) [SX.l .cell l, SX.i (IntKind.wrap .i64 ((e : Int) - 1))] [] (.x (SX.i (B (IntKind.wrap .i64 ((e : Int) - 1))))) []) (.need (ah Tryz.prog (171 : FuncId) [SX.l .cell l, SX.i (IntKind.wrap .i64 (B (IntKind.wrap .i64 ((e : Int) - 1)) - (1 : Int))), SX.l .var vs, SX.l .str ss] [] (cq (K (IntKind.wrap .i64 (B (IntKind.wrap .i64 ((e : Int) - 1)) - (1 : Int))))) []) (.ite (Prod.snd (K (IntKind.wrap .i64 (B (IntKind.wrap .i64 ((e : Int) - 1)) - (1 : Int)))) != (0 : Int)) (.ret (.tup [.i 0, .i (Prod.snd (K (IntKind.wrap .i64 (B (IntKind.wrap .i64 ((e : Int) - 1)) - (1 : Int)))))]) []) (.need (ah Tryz.prog (171 : FuncId) [SX.l .cell l, SX.i (IntKind.wrap .i64 ((e : Int) - 1)), SX.l .var vs, SX.l .str ss] [] (cq (K (IntKind.wrap .i64 ((e : Int) - 1)))) []) (.ite (Prod.snd (K (IntKind.wrap .i64 ((e : Int) - 1))) != (0 : Int)) (.ret (.tup [.i 0, .i (Prod.snd (K (IntKind.wrap .i64 ((e : Int) - 1))))]) []) (.ite (Prod.fst (K (IntKind.wrap .i64 (B (IntKind.wrap .i64 ((e : Int) - 1)) - (1 : Int)))) != Prod.fst (K (IntKind.wrap .i64 ((e : Int) - 1)))) (.ret (.tup [.i 0, .i 8]) []) (.ret (.tup [.i (Prod.fst (gy (Cell.op (ETy.get .cell l e)) (Prod.fst (K (IntKind.wrap .i64 (B (IntKind.wrap .i64 ((e : Int) - 1)) - (1 : Int))))))), .i (Prod.snd (gy (Cell.op (ETy.get .cell l e)) (Prod.fst (K (IntKind.wrap .i64 (B (IntKind.wrap .i64 ((e : Int) - 1)) - (1 : Int)))))))]) [])))))))))) fun Γ => ?_
   have hB : B (IntKind.wrap .i64 ((e : Int) - 1)) = (x : Int) := rfl
   rw [hc, hw', hB, k1, k2]
   refine ⟨⟨by omega, by omega⟩, fun h => Bool.noConfusion h, fun _ => ⟨fun h => Bool.noConfusion h, fun _ => ⟨hbeg, ih1, ?_⟩⟩⟩
   simp only [Tm.kind]
   have hone := t.kind_one vs ss
   have hone2 := u.kind_one vs ss
   clear_value K B
   generalize t.kind vs ss = kf at *
   generalize u.kind vs ss = kg at *
   obtain ⟨a1, a2⟩ := kf
   obtain ⟨b1, b2⟩ := kg
   refine ⟨fun h => ⟨?_, rfl⟩, fun h => ⟨ih2, fun h3 => ⟨?_, rfl⟩, fun h3 => ?_⟩⟩
   · have h' : (a2 != 0) = true := h
     simp only [h', cond_true, cq]
   · have h' : (a2 != 0) = false := h
     have h3' : (b2 != 0) = true := h3
     simp only [h', h3', cond_true, cond_false, cq]
   · have h' : (a2 != 0) = false := h
     have h3' : (b2 != 0) = false := h3
     have h0 : a2 = 0 := by simpa using h'
     have h0' : b2 = 0 := by simpa using h3'
     have hk := hone.1 h0
     have hk2 := hone2.1 h0'
     have hop' : c.op ≤ 23 := GL c (by omega)
     have hb := KT c.op a1 b1 (by omega) hop' hk.1 hk.2 hk2.1 hk2.2
     simp only [h', h3', cond_false, ← hb]
     refine ⟨fun q1 => ⟨?_, rfl⟩, fun q1 => ⟨?_, rfl⟩⟩ <;> simp only [Fk, q1, cond_true, cond_false, cq]
theorem tL (l : List Cell) (vs : List Var) (ss : List Str) : ah Tryz.prog 131 [.l .cell l, .l .var vs, .l .str ss] [] (cq (b4 l vs ss)) [] := by
 let K : Int → Int × Int := fun _ => b4 l vs ss
 refine dg (cfg := (KI K)) Jo Tryz.func131 (.ite (!dP l) (.ret (.tup [.i 0, .i 1]) []) (.need (ah Tryz.prog (171 : FuncId) [SX.l .cell l, SX.i (IntKind.wrap .i64 ((l.length : Int) - 1)), SX.l .var vs, SX.l .str ss] [] (cq (K (IntKind.wrap .i64 ((l.length : Int) - 1)))) []) (.ret (.tup [.i (Prod.fst (K (IntKind.wrap .i64 ((l.length : Int) - 1)))), .i (Prod.snd (K (IntKind.wrap .i64 ((l.length : Int) - 1))))]) []))) fun Γ => ?_
 refine ⟨fun h => ⟨by simp only [b4, h, cond_true, cq], rfl⟩, fun h => ?_⟩
 have h' : dP l = true := by simpa using h
 obtain ⟨h32, t, ht, hq⟩ := HH h'
 have hk : b4 l vs ss = t.kind vs ss := by rw [← hq]; exact Bv vs ss ht (by rw [hq]; exact h32)
 have htp := t.flat_pos
 have ih := lQ l vs ss h32 t ht [] [] (by rw [List.nil_append, List.append_nil, hq])
 have e : ((([] : List Cell).length : Nat) : Int) + t.flat.length - 1 = IntKind.wrap .i64 ((l.length : Int) - 1) := by
  rw [hq] at htp ⊢
  rw [cn (by omega) (by omega)]; simp
 rw [e, ← hk] at ih
 exact ⟨ih, rfl, rfl⟩
def wG : Ent := (131, fun
 | [.c (.pd (.lst .cell l)), .c (.pd (.lst .var vs)), .c (.pd (.lst .str ss))], [] => some (none, cq (b4 l vs ss), [])
 | _, _ => none)
theorem Br : EntOk Tryz.prog wG := entOk fun vs ck => by
 unfold wG; dsimp only; split
 · rename_i l vs ss; exact entS fun hp => tL l vs ss
 · exact entN
variable (a b:Str)
theorem sX:ah Tryz.prog 254 [.s a,.s b] [] (.x (.b (decide (aD a≥aD b)&&a.take (aD b).toNat==b))) []:=by
 refine dg aW Tryz.func254 (.need (decide (aD a≥aD b)=true→(0:Int)≤aD b∧aD b≤(a.length:Int)) (.ret (.p (.bool (decide (aD a≥aD b)&&(dW a none (some (aD b))).2==b))) [])) fun Γ=>?_
 refine ⟨fun h=>?_,rfl,rfl⟩
 have:=of_decide_eq_true h
 have h1:aD b=(b.length:Int):=rfl
 have h2:aD a=(a.length:Int):=rfl
 omega
def eHp:Ent:=(254,fun
 | [.c (.pd (.str a)),.c (.pd (.str b))],[]=>some (none,.x (.c (.pd (.bool (decide (aD a≥aD b)&&a.take (aD b).toNat==b)))),[])
 | _,_=>none)
theorem NK:EntOk Tryz.prog eHp:=entOk fun vs ck=>by
 unfold eHp; dsimp only; split
 · rename_i a b; exact entS fun hp=>sX a b
 · exact entN
def Kj:Cfg:=⟨aX,[eHp]⟩
theorem Hl:ag Tryz.prog Kj.tab:=(ag.cons NK ag.nil)
def dQ:Bool:=decide (aD a≥aD b)&&a.take (aD b).toNat==b
def dE:Str:=bif dQ a b then a.drop (aD b).toNat else a
def gp (s:Str):Bool:=a7 (dE s [100,111,110,101,46])
theorem rC:ah Tryz.prog 218 [.s a,.s b] [] (.tup [.s (dE a b),.b (dQ a b)]) []:=by
 refine dg Hl Tryz.func218 (.ite (!(decide (aD a≥aD b)&&List.take ((aD b).toNat) a==b)) (.ret (.tup [.p (.str a),.p (.bool false)]) []) (.need ((0:Int)≤aD b∧aD b≤(a.length:Int)) (.ret (.tup [.p (.str ((dW a (some (aD b)) none).2)),.p (.bool true)]) []))) fun Γ=>?_
 refine ⟨fun h=>⟨?_,rfl⟩,fun h=>⟨?_,?_,rfl⟩⟩
 · have h':dQ a b=false:=by
    have h2:(!dQ a b)=true:=h
    simpa using h2
   simp [dE,h']
 · have h':dQ a b=true:=by
    have h2:(!dQ a b)=false:=h
    simpa using h2
   simp only [dQ,af,decide_eq_true_eq] at h'
   have h1:aD b=(b.length:Int):=rfl
   have h2:aD a=(a.length:Int):=rfl
   omega
 · have h':dQ a b=true:=by
    have h2:(!dQ a b)=false:=h
    simpa using h2
   simp [dE,h',dW]
def wg:Ent:=(218,fun
 | [.c (.pd (.str a)),.c (.pd (.str b))],[]=>some (none,.tup [.c (.pd (.str (dE a b))),.c (.pd (.bool (dQ a b)))],[])
 | _,_=>none)
theorem J2:EntOk Tryz.prog wg:=entOk fun vs ck=>by
 unfold wg; dsimp only; split
 · rename_i a b; exact entS fun hp=>rC a b
 · exact entN
def Bs:Cfg:=⟨aX,[wg]⟩
theorem C0:ag Tryz.prog Bs.tab:=(ag.cons J2 ag.nil)
theorem tn:ah Tryz.prog 180 [.s a,.s b] [] (.tup [.s (dE a b),.b (dQ a b)]) []:=by
 refine dg C0 Tryz.func180 (.ret (.tup [.p (.str (dE a b)),.p (.bool (dQ a b))]) []) fun Γ=>?_
 exact ⟨rfl,rfl⟩
def xG:Ent:=(180,fun
 | [.c (.pd (.str a)),.c (.pd (.str b))],[]=>some (none,.tup [.c (.pd (.str (dE a b))),.c (.pd (.bool (dQ a b)))],[])
 | _,_=>none)
theorem Bd:EntOk Tryz.prog xG:=entOk fun vs ck=>by
 unfold xG; dsimp only; split
 · rename_i a b; exact entS fun hp=>tn a b
 · exact entN
end Go.Proofs.YtgfifkhbfdacjaaGreatDoor
namespace Go.Proofs.YtgfifkhbfdacjaaGreatDoor
open Go Go.Ev
set_option maxRecDepth 100000
def GJ:Cfg:=⟨aX,[xG,jI]⟩
theorem EZ:ag Tryz.prog GJ.tab:=(ag.cons Bd (ag.cons iO ag.nil))
variable (s:Str)
theorem DA:ah Tryz.prog 161 [.s s] [] (.x (.b (gp s))) []:=by
 refine dg EZ Tryz.func161 (.ret (.p (.bool (a7 (dE s [(100:UInt8),111,110,101,46])))) []) fun Γ=>?_
 exact ⟨rfl,rfl⟩
def oA:Ent:=(161,fun
 | [.c (.pd (.str s))],[]=>some (none,.x (.c (.pd (.bool (gp s)))),[])
 | _,_=>none)
theorem vf:EntOk Tryz.prog oA:=entOk fun vs ck=>by
 unfold oA; dsimp only; split
 · rename_i s; exact entS fun hp=>DA s
 · exact entN
theorem Ij:dE ([100,111,110,101,46]++s) [100,111,110,101,46]=s:=by
 have h:dQ ([100,111,110,101,46]++s) [100,111,110,101,46]=true:=by
  simp [dQ,aD]; omega
 rw [dE,h]; rfl
theorem JN:a7 ([100,111,110,101,46]++s)=false:=by
 have:([100,111,110,101,46]++s:Str).any kr=true:=by
  rw [eJ]
  have:([100,111,110,101,46]:Str).any kr=true:=by decide
  rw [this]; rfl
 rw [a7,this]; simp
theorem CA {s p:Str} (h:dQ s p=true):∃ r,s=p++r:=by
 simp only [dQ,af,beq_iff_eq,decide_eq_true_eq] at h
 refine ⟨s.drop (aD p).toNat,?_⟩
 have:=cz (aD p).toNat s
 rw [h.2] at this; exact this.symm
theorem Fy:gp ([100,111,110,101,46]++s)=a7 s:=by rw [gp,Ij]
theorem Hg {s:Str} (h:dQ s [100,111,110,101,46]=false):gp s=a7 s:=by simp [gp,dE,h]
def Fq:Cfg:=⟨aX,[nS]⟩
theorem EX:ag Tryz.prog Fq.tab:=(ag.cons mD ag.nil)
theorem tC:ah Tryz.prog 200 [.s s] [] (.x (.b (gp s))) []:=by
 refine dg EX Tryz.func200 (.need (a7 s=false∧decide (aD s>(5:Int))=true→(0:Int)≤5∧(5:Int)≤(s.length:Int)) (.need (a7 s=false∧(decide (aD s>(5:Int))&&(dW s none (some (5:Int))).2==[100,111,110,101,46])=true→(0:Int)≤5∧(5:Int)≤(s.length:Int)) (.ret (.p (.bool (a7 s||decide (aD s>(5:Int))&&(dW s none (some (5:Int))).2==[100,111,110,101,46]&&a7 ((dW s (some (5:Int)) none).2)))) []))) fun Γ=>?_
 have hL:aD s=(s.length:Int):=rfl
 refine ⟨fun h=>by have:=of_decide_eq_true h.2; omega,fun h=>by simp only [af,decide_eq_true_eq] at h; omega,?_,rfl⟩
 cases hp:dQ s [100,111,110,101,46]
 · rw [Hg hp]
   have h5:(decide (aD s>5)&&(dW s none (some 5)).2==[100,111,110,101,46])=false:=by
    cases hb:(decide (aD s>5)&&(dW s none (some 5)).2==[100,111,110,101,46])
    · rfl
    · exfalso
      simp only [af,decide_eq_true_eq] at hb
      have:dQ s [100,111,110,101,46]=true:=by
       simp only [dQ,af,decide_eq_true_eq]
       refine ⟨?_,hb.2⟩
       have h2:aD [100,111,110,101,46]=5:=rfl
       omega
      rw [this] at hp; cases hp
   rw [h5,bj,bO]
 · obtain ⟨r,rfl⟩:=CA hp
   rw [Fy,JN,bf]
   have hc:(dW ([100,111,110,101,46]++r) (some 5) none).2=r:=rfl
   have hc2:(dW ([100,111,110,101,46]++r) none (some 5)).2=[100,111,110,101,46]:=rfl
   rw [hc,hc2]
   cases r with
   | nil=>rfl
   | cons c r =>
     have:decide (aD ([100,111,110,101,46]++c::r)>5)=true:=decide_eq_true (by
      have:aD ([100,111,110,101,46]++c::r)=((([100,111,110,101,46]++c::r):Str).length:Int):=rfl
      rw [this]; simp only [an,aG,bG]; omega)
     rw [this]; rfl
def lH:Ent:=(200,fun
 | [.c (.pd (.str s))],[]=>some (none,.x (.c (.pd (.bool (gp s)))),[])
 | _,_=>none)
theorem xV:EntOk Tryz.prog lH:=entOk fun vs ck=>by
 unfold lH; dsimp only; split
 · rename_i s; exact entS fun hp=>tC s
 · exact entN
end Go.Proofs.YtgfifkhbfdacjaaGreatDoor
namespace Go.Proofs.YtgfifkhbfdacjaaGreatDoor
open Go Go.Ev
set_option maxRecDepth 100000
def me:List (Str×Nat):=[([101,118,101,110,116],111),([105,110,116],112),([98,111,111,108],113),([112,111,105,110,116],114),([98,97,115,105,99],115),([98,111,116,104],116),([102,105,110,97,108],117),([111,110,101],118),([115,104,97,108,108,111,119],119),([100,101,101,112],120),([101,110,116,114,121],121),([101,120,105,116],122),([111,110],123)]
theorem Dc:ah Tryz.prog 59 [] [] (.x (.p (.tbl me))) []:=by
 refine dg aW Tryz.func59 (.stop [.ops [1,0] 0,.code [1,1]] { n:=3,fr:=[(0,.p (.v (Value.map none)))],ck:=[] }) fun Γ=>?_
 refine J.makeTbl (d:=1) (n:=13) (l:=me.map fun p=>(bs p.1,p.2)) (by kernel_rfl) ?_
 have e:keyed (me.map fun p=>(bs p.1,p.2))=me:=by decide
 rw [e]
 refine jg aW Tryz.func59 (.ret (.p (PD.tbl [([(101:UInt8),118,101,110,116],111),([(105:UInt8),110,116],112),([(98:UInt8),111,111,108],113),([(112:UInt8),111,105,110,116],114),([(98:UInt8),97,115,105,99],115),([(98:UInt8),111,116,104],116),([(102:UInt8),105,110,97,108],117),([(111:UInt8),110,101],118),([(115:UInt8),104,97,108,108,111,119],119),([(100:UInt8),101,101,112],120),([(101:UInt8),110,116,114,121],121),([(101:UInt8),120,105,116],122),([(111:UInt8),110],123)])) []) ?_
 exact ⟨rfl,rfl⟩
def r6:Ent:=(59,fun
 | [],[]=>some (none,.x (.c (.pd (.tbl me))),[])
 | _,_=>none)
theorem D1:EntOk Tryz.prog r6:=entOk fun vs ck=>by
 unfold r6; dsimp only; split
 · exact entS fun hp=>Dc
 · exact entN
end Go.Proofs.YtgfifkhbfdacjaaGreatDoor

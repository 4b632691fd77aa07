/- Contracts: the document's kinds. Conditions: none. Contracts: texts' beginnings, events' names; behind the kinds' texts. Conditions: none. Contracts: names, events' names. Conditions: none. Contracts: the kinds of lines, a map. Conditions: none. -/
import Derived.Test.YtgfifkhbfdacjaaGreatDoorFe
import Derived.Test.YtgfifkhbfdacjaaGreatDoorKb
import Derived.Lib.AppendIntMem
import Derived.Test.YtgfifkhbfdacjaaGreatDoorVe
namespace Go.Proofs.YtgfifkhbfdacjaaGreatDoor
open Go Go.Ev
set_option maxRecDepth 100000
def eK (K : Int → Int × Int) : Ent := (171, fun
 | [.c (.pd (.lst .cell l)), .c (.pd (.int .i64 e)), .c (.pd (.lst .var vs)), .c (.pd (.lst .str ss))], [] => some (some (ah Tryz.prog 171 [SX.l .cell l, SX.i e, SX.l .var vs, SX.l .str ss] [] (cj (K e)) []), cj (K e), [])
 | _, _ => none)
def eB (B : Int → Int) : Ent := (203, fun
 | [.c (.pd (.lst .cell l)), .c (.pd (.int .i64 e))], [] => some (some (ah Tryz.prog 203 [SX.l .cell l, SX.i e] [] (.x (.i (B e))) []), .x (.i (B e)), [])
 | _, _ => none)
def BI (K : Int → Int × Int) (B : Int → Int) : Cfg := ⟨aY, [xx, qp, eJn, eK K, eB B]⟩
def Je (K : Int → Int × Int) : Cfg := ⟨aY, [ma, eK K]⟩
theorem IS {K : Int → Int × Int} (vs : List SX) (ck : List Chunk) (p : Option Prop) (ret : SV) (ck' : List Chunk) (h : (eK K).2 vs ck = some (p, ret, ck')) (hp : Holds p) : ah Tryz.prog (eK K).1 vs ck ret ck' := by
 unfold eK at h
 simp only at h
 split at h
 · simp only [Option.some.injEq, Prod.mk.injEq] at h
   obtain ⟨rfl, rfl, rfl⟩ := h
   exact hp
 · simp at h
theorem Mt {B : Int → Int} (vs : List SX) (ck : List Chunk) (p : Option Prop) (ret : SV) (ck' : List Chunk) (h : (eB B).2 vs ck = some (p, ret, ck')) (hp : Holds p) : ah Tryz.prog (eB B).1 vs ck ret ck' := by
 unfold eB at h
 simp only at h
 split at h
 · simp only [Option.some.injEq, Prod.mk.injEq] at h
   obtain ⟨rfl, rfl, rfl⟩ := h
   exact hp
 · simp at h
theorem sM {K : Int → Int × Int} {B : Int → Int} : ag Tryz.prog (BI K B).tab := ag.cons Ah (ag.cons Fx (ag.cons L4 (ag.cons IS (ag.cons Mt ag.nil))))
theorem GA {K : Int → Int × Int} : ag Tryz.prog (Je K).tab := ag.cons qL (ag.cons IS ag.nil)
theorem oa {l pre post : List Cell} {c : Cell} {front : List Cell} (hq : l = pre ++ (front ++ [c]) ++ post) : pre.length + front.length < l.length ∧ ETy.get .cell l (pre.length + front.length) = c := by
 have he : pre.length + front.length < l.length := by rw [hq]; simp
 refine ⟨he, ETy.get_eq (t := .cell) ?_⟩
 have hx : pre.length + front.length = (pre ++ front).length := by simp
 rw [hx, hq, ← List.append_assoc, List.append_assoc, List.getElem?_append_right (Nat.le_refl _), Nat.sub_self]; rfl
theorem Ft (c : Cell) (h : 0 ≤ bg c) : c.op ≤ 23 := by
 unfold bg cF at h
 simp only [cond_eq_ite] at h
 repeat' split at h
 all_goals simp_all
 all_goals omega
theorem lu (l : List Cell) (vs : List Var) (ss : List Str) (hl : l.length ≤ 32) : ∀ (t : Tm), t.ok → ∀ (pre post : List Cell), l = pre ++ t.flat ++ post →
 ah Tryz.prog 171 [.l .cell l, .i ((pre.length : Int) + t.flat.length - 1), .l .var vs, .l .str ss] [] (cj (t.kind vs ss)) []
 | .leaf c, h, pre, post, hq => by
   obtain ⟨he, hc⟩ := oa (front := []) (pre := pre) (post := post) (c := c) (l := l) (by rw [hq]; simp [Tm.flat])
   have e1 : (pre.length : Int) + ((Tm.leaf c).flat.length : Int) - 1 = ((pre.length + ([] : List Cell).length : Nat) : Int) := by simp [Tm.flat]
   rw [e1]
   generalize pre.length + ([] : List Cell).length = e at *
   let K : Int → Int × Int := fun _ => (0, 0)
   let B : Int → Int := fun _ => 0
   refine dg (cfg := (BI K B)) sM Tryz.func171 (.need (inRg e l.length) (.ite (cF (Cell.op (ETy.get .cell l e)) (Cell.a (ETy.get .cell l e)) (Cell.name (ETy.get .cell l e)) == (0 : Int)) (.ret (.tup [.i (Prod.fst (bS (ETy.get .cell l e) vs ss)), .i (Prod.snd (bS (ETy.get .cell l e) vs ss))]) []) (.ite (cF (Cell.op (ETy.get .cell l e)) (Cell.a (ETy.get .cell l e)) (Cell.name (ETy.get .cell l e)) == (1 : Int)) (.need (ah Tryz.prog (171 : FuncId) [SX.l .cell l, SX.i (IntKind.wrap .i64 ((e : Int) - 1)), SX.l .var vs, SX.l .str ss] [] (cj (K (IntKind.wrap .i64 ((e : Int) - 1)))) []) (.ite (Prod.snd (K (IntKind.wrap .i64 ((e : Int) - 1))) != (0 : Int)) (.ret (.tup [.i 0, .i (Prod.snd (K (IntKind.wrap .i64 ((e : Int) - 1))))]) []) (.ite (Cell.op (ETy.get .cell l e) == (7 : Int) && Prod.fst (K (IntKind.wrap .i64 ((e : Int) - 1))) != (2 : Int)) (.ret (.tup [.i (Prod.fst (K (IntKind.wrap .i64 ((e : Int) - 1)))), .i 0]) []) (.ite (Cell.op (ETy.get .cell l e) == (8 : Int) && Prod.fst (K (IntKind.wrap .i64 ((e : Int) - 1))) == (2 : Int)) (.ret (.tup [.i (Prod.fst (K (IntKind.wrap .i64 ((e : Int) - 1)))), .i 0]) []) (.ite (decide (Cell.op (ETy.get .cell l e) > (8 : Int)) && Prod.fst (K (IntKind.wrap .i64 ((e : Int) - 1))) == (3 : Int)) (.ret (.tup [.i 1, .i 0]) []) (.ret (.tup [.i 0, .i 8]) [])))))) (.need (ah Tryz.prog (203 : FuncId) [SX.l .cell l, SX.i (IntKind.wrap .i64 ((e : Int) - 1))] [] (.x (SX.i (B (IntKind.wrap .i64 ((e : Int) - 1))))) []) (.need (ah Tryz.prog (171 : FuncId) [SX.l .cell l, SX.i (IntKind.wrap .i64 (B (IntKind.wrap .i64 ((e : Int) - 1)) - (1 : Int))), SX.l .var vs, SX.l .str ss] [] (cj (K (IntKind.wrap .i64 (B (IntKind.wrap .i64 ((e : Int) - 1)) - (1 : Int))))) []) (.ite (Prod.snd (K (IntKind.wrap .i64 (B (IntKind.wrap .i64 ((e : Int) - 1)) - (1 : Int)))) != (0 : Int)) (.ret (.tup [.i 0, .i (Prod.snd (K (IntKind.wrap .i64 (B (IntKind.wrap .i64 ((e : Int) - 1)) - (1 : Int)))))]) []) (.need (ah Tryz.prog (171 : FuncId) [SX.l .cell l, SX.i (IntKind.wrap .i64 ((e : Int) - 1)), SX.l .var vs, SX.l .str ss] [] (cj (K (IntKind.wrap .i64 ((e : Int) - 1)))) []) (.ite (Prod.snd (K (IntKind.wrap .i64 ((e : Int) - 1))) != (0 : Int)) (.ret (.tup [.i 0, .i (Prod.snd (K (IntKind.wrap .i64 ((e : Int) - 1))))]) []) (.ite (Prod.fst (K (IntKind.wrap .i64 (B (IntKind.wrap .i64 ((e : Int) - 1)) - (1 : Int)))) != Prod.fst (K (IntKind.wrap .i64 ((e : Int) - 1)))) (.ret (.tup [.i 0, .i 8]) []) (.ret (.tup [.i (Prod.fst (gl (Cell.op (ETy.get .cell l e)) (Prod.fst (K (IntKind.wrap .i64 (B (IntKind.wrap .i64 ((e : Int) - 1)) - (1 : Int))))))), .i (Prod.snd (gl (Cell.op (ETy.get .cell l e)) (Prod.fst (K (IntKind.wrap .i64 (B (IntKind.wrap .i64 ((e : Int) - 1)) - (1 : Int)))))))]) [])))))))))) fun Γ => ?_
   rw [hc]
   have hw : cF c.op c.a c.name = 0 := h
   rw [hw]
   exact ⟨⟨by omega, by omega⟩, fun _ => ⟨rfl, rfl⟩, fun h => Bool.noConfusion h⟩
 | .un c t, ⟨hw, ht⟩, pre, post, hq => by
   obtain ⟨he, hc⟩ := oa (front := t.flat) (pre := pre) (post := post) (c := c) (l := l) hq
   have e1 : (pre.length : Int) + ((Tm.un c t).flat.length : Int) - 1 = ((pre.length + t.flat.length : Nat) : Int) := by simp only [Tm.flat, List.length_append, List.length_cons, List.length_nil]; omega
   rw [e1]
   have hop := gk c (by omega)
   have hw' : cF c.op c.a c.name = 1 := hw
   have e2 : IntKind.wrap .i64 (((pre.length + t.flat.length : Nat) : Int) - 1) = (pre.length : Int) + t.flat.length - 1 := by
    have := t.flat_pos
    rw [cg (by omega) (by omega)]; omega
   have ih := lu l vs ss hl t ht pre ([c] ++ post) (by rw [hq]; simp [Tm.flat])
   rw [← e2] at ih
   generalize pre.length + t.flat.length = e at *
   let K : Int → Int × Int := fun _ => t.kind vs ss
   let B : Int → Int := fun _ => 0
   refine dg (cfg := (BI K B)) sM Tryz.func171 (.need (inRg e l.length) (.ite (cF (Cell.op (ETy.get .cell l e)) (Cell.a (ETy.get .cell l e)) (Cell.name (ETy.get .cell l e)) == (0 : Int)) (.ret (.tup [.i (Prod.fst (bS (ETy.get .cell l e) vs ss)), .i (Prod.snd (bS (ETy.get .cell l e) vs ss))]) []) (.ite (cF (Cell.op (ETy.get .cell l e)) (Cell.a (ETy.get .cell l e)) (Cell.name (ETy.get .cell l e)) == (1 : Int)) (.need (ah Tryz.prog (171 : FuncId) [SX.l .cell l, SX.i (IntKind.wrap .i64 ((e : Int) - 1)), SX.l .var vs, SX.l .str ss] [] (cj (K (IntKind.wrap .i64 ((e : Int) - 1)))) []) (.ite (Prod.snd (K (IntKind.wrap .i64 ((e : Int) - 1))) != (0 : Int)) (.ret (.tup [.i 0, .i (Prod.snd (K (IntKind.wrap .i64 ((e : Int) - 1))))]) []) (.ite (Cell.op (ETy.get .cell l e) == (7 : Int) && Prod.fst (K (IntKind.wrap .i64 ((e : Int) - 1))) != (2 : Int)) (.ret (.tup [.i (Prod.fst (K (IntKind.wrap .i64 ((e : Int) - 1)))), .i 0]) []) (.ite (Cell.op (ETy.get .cell l e) == (8 : Int) && Prod.fst (K (IntKind.wrap .i64 ((e : Int) - 1))) == (2 : Int)) (.ret (.tup [.i (Prod.fst (K (IntKind.wrap .i64 ((e : Int) - 1)))), .i 0]) []) (.ite (decide (Cell.op (ETy.get .cell l e) > (8 : Int)) && Prod.fst (K (IntKind.wrap .i64 ((e : Int) - 1))) == (3 : Int)) (.ret (.tup [.i 1, .i 0]) []) (.ret (.tup [.i 0, .i 8]) [])))))) (.need (ah Tryz.prog (203 : FuncId) [SX.l .cell l, SX.i (IntKind.wrap .i64 ((e : Int) - 1))] [] (.x (SX.i (B (IntKind.wrap .i64 ((e : Int) - 1))))) []) (.need (ah Tryz.prog (171 : FuncId) [SX.l .cell l, SX.i (IntKind.wrap .i64 (B (IntKind.wrap .i64 ((e : Int) - 1)) - (1 : Int))), SX.l .var vs, SX.l .str ss] [] (cj (K (IntKind.wrap .i64 (B (IntKind.wrap .i64 ((e : Int) - 1)) - (1 : Int))))) []) (.ite (Prod.snd (K (IntKind.wrap .i64 (B (IntKind.wrap .i64 ((e : Int) - 1)) - (1 : Int)))) != (0 : Int)) (.ret (.tup [.i 0, .i (Prod.snd (K (IntKind.wrap .i64 (B (IntKind.wrap .i64 ((e : Int) - 1)) - (1 : Int)))))]) []) (.need (ah Tryz.prog (171 : FuncId) [SX.l .cell l, SX.i (IntKind.wrap .i64 ((e : Int) - 1)), SX.l .var vs, SX.l .str ss] [] (cj (K (IntKind.wrap .i64 ((e : Int) - 1)))) []) (.ite (Prod.snd (K (IntKind.wrap .i64 ((e : Int) - 1))) != (0 : Int)) (.ret (.tup [.i 0, .i (Prod.snd (K (IntKind.wrap .i64 ((e : Int) - 1))))]) []) (.ite (Prod.fst (K (IntKind.wrap .i64 (B (IntKind.wrap .i64 ((e : Int) - 1)) - (1 : Int)))) != Prod.fst (K (IntKind.wrap .i64 ((e : Int) - 1)))) (.ret (.tup [.i 0, .i 8]) []) (.ret (.tup [.i (Prod.fst (gl (Cell.op (ETy.get .cell l e)) (Prod.fst (K (IntKind.wrap .i64 (B (IntKind.wrap .i64 ((e : Int) - 1)) - (1 : Int))))))), .i (Prod.snd (gl (Cell.op (ETy.get .cell l e)) (Prod.fst (K (IntKind.wrap .i64 (B (IntKind.wrap .i64 ((e : Int) - 1)) - (1 : Int)))))))]) [])))))))))) fun Γ => ?_
   rw [hc, hw']
   refine ⟨⟨by omega, by omega⟩, fun h => Bool.noConfusion h, fun _ => ⟨fun _ => ⟨ih, ?_⟩, fun h => Bool.noConfusion h⟩⟩
   simp only [Tm.kind, K]
   have hone := t.kind_one vs ss
   generalize t.kind vs ss = kf at *
   obtain ⟨k1, k2⟩ := kf
   refine ⟨fun h => ⟨?_, rfl⟩, fun h => ?_⟩
   · have h' : (k2 != 0) = true := h
     simp only [h', cond_true, cj]
   · have h' : (k2 != 0) = false := h
     have h0 : k2 = 0 := by simpa using h'
     have hk := hone.1 h0
     have hu := LF c.op k1 (by omega) (by omega) hk.1 hk.2
     simp only [h', cond_false, ← hu]
     refine ⟨fun q1 => ⟨?_, rfl⟩, fun q1 => ⟨fun q2 => ⟨?_, rfl⟩, fun q2 => ⟨fun q3 => ⟨?_, rfl⟩, fun q3 => ⟨?_, rfl⟩⟩⟩⟩ <;> simp only [I0, *, cond_true, cond_false, cj]
 | .bin c t u, ⟨hw, ht, hu⟩, pre, post, hq => by
   obtain ⟨he, hc⟩ := oa (front := t.flat ++ u.flat) (pre := pre) (post := post) (c := c) (l := l) hq
   have e1 : (pre.length : Int) + ((Tm.bin c t u).flat.length : Int) - 1 = ((pre.length + (t.flat ++ u.flat).length : Nat) : Int) := by simp only [Tm.flat, List.length_append, List.length_cons, List.length_nil]; omega
   rw [e1]
   have hop := gk c (by omega)
   have hw' : cF c.op c.a c.name = 2 := hw
   have htp := t.flat_pos
   have hup := u.flat_pos
   have hq1 : l = pre ++ t.flat ++ (u.flat ++ [c] ++ post) := by rw [hq]; simp [Tm.flat]
   have hq2 : l = (pre ++ t.flat) ++ u.flat ++ ([c] ++ post) := by rw [hq]; simp [Tm.flat]
   have e2 : IntKind.wrap .i64 (((pre.length + (t.flat ++ u.flat).length : Nat) : Int) - 1) = ((pre ++ t.flat).length : Int) + u.flat.length - 1 := by
    simp only [List.length_append] at he ⊢
    rw [cg (by omega) (by omega)]; omega
   have e3 : IntKind.wrap .i64 (((pre ++ t.flat).length : Int) - 1) = (pre.length : Int) + t.flat.length - 1 := by
    simp only [List.length_append] at he ⊢
    rw [cg (by omega) (by omega)]; omega
   have ih1 := lu l vs ss hl t ht pre (u.flat ++ [c] ++ post) hq1
   have ih2 := lu l vs ss hl u hu (pre ++ t.flat) ([c] ++ post) hq2
   have hbeg := Cg l u hu (pre ++ t.flat) ([c] ++ post) hq2 hl
   have hne : IntKind.wrap .i64 (((pre ++ t.flat).length : Int) - 1) ≠ IntKind.wrap .i64 (((pre.length + (t.flat ++ u.flat).length : Nat) : Int) - 1) := by
    rw [e2, e3]; simp only [List.length_append]; omega
   rw [← e3] at ih1
   rw [← e2] at ih2 hbeg
   generalize pre.length + (t.flat ++ u.flat).length = e at *
   generalize (pre ++ t.flat).length = x at *
   let K : Int → Int × Int := fun i => if i = IntKind.wrap .i64 ((x : Int) - 1) then t.kind vs ss else u.kind vs ss
   let B : Int → Int := fun _ => (x : Int)
   have k1 : K (IntKind.wrap .i64 ((x : Int) - 1)) = t.kind vs ss := if_pos rfl
   have k2 : K (IntKind.wrap .i64 ((e : Int) - 1)) = u.kind vs ss := if_neg (Ne.symm hne)
   refine dg (cfg := (BI K B)) sM Tryz.func171 (.need (inRg e l.length) (.ite (cF (Cell.op (ETy.get .cell l e)) (Cell.a (ETy.get .cell l e)) (Cell.name (ETy.get .cell l e)) == (0 : Int)) (.ret (.tup [.i (Prod.fst (bS (ETy.get .cell l e) vs ss)), .i (Prod.snd (bS (ETy.get .cell l e) vs ss))]) []) (.ite (cF (Cell.op (ETy.get .cell l e)) (Cell.a (ETy.get .cell l e)) (Cell.name (ETy.get .cell l e)) == (1 : Int)) (.need (ah Tryz.prog (171 : FuncId) [SX.l .cell l, SX.i (IntKind.wrap .i64 ((e : Int) - 1)), SX.l .var vs, SX.l .str ss] [] (cj (K (IntKind.wrap .i64 ((e : Int) - 1)))) []) (.ite (Prod.snd (K (IntKind.wrap .i64 ((e : Int) - 1))) != (0 : Int)) (.ret (.tup [.i 0, .i (Prod.snd (K (IntKind.wrap .i64 ((e : Int) - 1))))]) []) (.ite (Cell.op (ETy.get .cell l e) == (7 : Int) && Prod.fst (K (IntKind.wrap .i64 ((e : Int) - 1))) != (2 : Int)) (.ret (.tup [.i (Prod.fst (K (IntKind.wrap .i64 ((e : Int) - 1)))), .i 0]) []) (.ite (Cell.op (ETy.get .cell l e) == (8 : Int) && Prod.fst (K (IntKind.wrap .i64 ((e : Int) - 1))) == (2 : Int)) (.ret (.tup [.i (Prod.fst (K (IntKind.wrap .i64 ((e : Int) - 1)))), .i 0]) []) (.ite (decide (Cell.op (ETy.get .cell l e) > (8 : Int)) && Prod.fst (K (IntKind.wrap .i64 ((e : Int) - 1))) == (3 : Int)) (.ret (.tup [.i 1, .i 0]) []) (.ret (.tup [.i 0, .i 8]) [])))))) (.need (ah Tryz.prog (203 : FuncId) [SX.l .cell l, SX.i (IntKind.wrap .i64 ((e : Int) - 1))] [] (.x (SX.i (B (IntKind.wrap .i64 ((e : Int) - 1))))) []) (.need (ah Tryz.prog (171 : FuncId) [SX.l .cell l, SX.i (IntKind.wrap .i64 (B (IntKind.wrap .i64 ((e : Int) - 1)) - (1 : Int))), SX.l .var vs, SX.l .str ss] [] (cj (K (IntKind.wrap .i64 (B (IntKind.wrap .i64 ((e : Int) - 1)) - (1 : Int))))) []) (.ite (Prod.snd (K (IntKind.wrap .i64 (B (IntKind.wrap .i64 ((e : Int) - 1)) - (1 : Int)))) != (0 : Int)) (.ret (.tup [.i 0, .i (Prod.snd (K (IntKind.wrap .i64 (B (IntKind.wrap .i64 ((e : Int) - 1)) - (1 : Int)))))]) []) (.need (ah Tryz.prog (171 : FuncId) [SX.l .cell l, SX.i (IntKind.wrap .i64 ((e : Int) - 1)), SX.l .var vs, SX.l .str ss] [] (cj (K (IntKind.wrap .i64 ((e : Int) - 1)))) []) (.ite (Prod.snd (K (IntKind.wrap .i64 ((e : Int) - 1))) != (0 : Int)) (.ret (.tup [.i 0, .i (Prod.snd (K (IntKind.wrap .i64 ((e : Int) - 1))))]) []) (.ite (Prod.fst (K (IntKind.wrap .i64 (B (IntKind.wrap .i64 ((e : Int) - 1)) - (1 : Int)))) != Prod.fst (K (IntKind.wrap .i64 ((e : Int) - 1)))) (.ret (.tup [.i 0, .i 8]) []) (.ret (.tup [.i (Prod.fst (gl (Cell.op (ETy.get .cell l e)) (Prod.fst (K (IntKind.wrap .i64 (B (IntKind.wrap .i64 ((e : Int) - 1)) - (1 : Int))))))), .i (Prod.snd (gl (Cell.op (ETy.get .cell l e)) (Prod.fst (K (IntKind.wrap .i64 (B (IntKind.wrap .i64 ((e : Int) - 1)) - (1 : Int)))))))]) [])))))))))) fun Γ => ?_
   have hB : B (IntKind.wrap .i64 ((e : Int) - 1)) = (x : Int) := rfl
   rw [hc, hw', hB, k1, k2]
   refine ⟨⟨by omega, by omega⟩, fun h => Bool.noConfusion h, fun _ => ⟨fun h => Bool.noConfusion h, fun _ => ⟨hbeg, ih1, ?_⟩⟩⟩
   simp only [Tm.kind]
   have hone := t.kind_one vs ss
   have hone2 := u.kind_one vs ss
   clear_value K B
   generalize t.kind vs ss = kf at *
   generalize u.kind vs ss = kg at *
   obtain ⟨a1, a2⟩ := kf
   obtain ⟨b1, b2⟩ := kg
   refine ⟨fun h => ⟨?_, rfl⟩, fun h => ⟨ih2, fun h3 => ⟨?_, rfl⟩, fun h3 => ?_⟩⟩
   · have h' : (a2 != 0) = true := h
     simp only [h', cond_true, cj]
   · have h' : (a2 != 0) = false := h
     have h3' : (b2 != 0) = true := h3
     simp only [h', h3', cond_true, cond_false, cj]
   · have h' : (a2 != 0) = false := h
     have h3' : (b2 != 0) = false := h3
     have h0 : a2 = 0 := by simpa using h'
     have h0' : b2 = 0 := by simpa using h3'
     have hk := hone.1 h0
     have hk2 := hone2.1 h0'
     have hop' : c.op ≤ 23 := Ft c (by omega)
     have hb := Jo c.op a1 b1 (by omega) hop' hk.1 hk.2 hk2.1 hk2.2
     simp only [h', h3', cond_false, ← hb]
     refine ⟨fun q1 => ⟨?_, rfl⟩, fun q1 => ⟨?_, rfl⟩⟩ <;> simp only [D2, q1, cond_true, cond_false, cj]
theorem sg (l : List Cell) (vs : List Var) (ss : List Str) : ah Tryz.prog 131 [.l .cell l, .l .var vs, .l .str ss] [] (cj (bY l vs ss)) [] := by
 let K : Int → Int × Int := fun _ => bY l vs ss
 refine dg (cfg := (Je K)) GA Tryz.func131 (.ite (!dH l) (.ret (.tup [.i 0, .i 1]) []) (.need (ah Tryz.prog (171 : FuncId) [SX.l .cell l, SX.i (IntKind.wrap .i64 ((l.length : Int) - 1)), SX.l .var vs, SX.l .str ss] [] (cj (K (IntKind.wrap .i64 ((l.length : Int) - 1)))) []) (.ret (.tup [.i (Prod.fst (K (IntKind.wrap .i64 ((l.length : Int) - 1)))), .i (Prod.snd (K (IntKind.wrap .i64 ((l.length : Int) - 1))))]) []))) fun Γ => ?_
 refine ⟨fun h => ⟨by simp only [bY, h, cond_true, cj], rfl⟩, fun h => ?_⟩
 have h' : dH l = true := by simpa using h
 obtain ⟨h32, t, ht, hq⟩ := G1 h'
 have hk : bY l vs ss = t.kind vs ss := by rw [← hq]; exact BQ vs ss ht (by rw [hq]; exact h32)
 have htp := t.flat_pos
 have ih := lu l vs ss h32 t ht [] [] (by rw [List.nil_append, List.append_nil, hq])
 have e : ((([] : List Cell).length : Nat) : Int) + t.flat.length - 1 = IntKind.wrap .i64 ((l.length : Int) - 1) := by
  rw [hq] at htp ⊢
  rw [cg (by omega) (by omega)]; simp
 rw [e, ← hk] at ih
 exact ⟨ih, rfl, rfl⟩
def xL : Ent := (131, fun
 | [.c (.pd (.lst .cell l)), .c (.pd (.lst .var vs)), .c (.pd (.lst .str ss))], [] => some (none, cj (bY l vs ss), [])
 | _, _ => none)
theorem yQ : EntOk Tryz.prog xL := entOk fun vs ck => by
 unfold xL; dsimp only; split
 · rename_i l vs ss; exact entS fun hp => sg l vs ss
 · exact entN
variable (a b:Str)
theorem si:ah Tryz.prog 254 [.s a,.s b] [] (.x (.b (decide (aB a≥aB b)&&a.take (aB b).toNat==b))) []:=by
 refine dg aR Tryz.func254 (.need (decide (aB a≥aB b)=true→(0:Int)≤aB b∧aB b≤(a.length:Int)) (.ret (.p (.bool (decide (aB a≥aB b)&&(dT a none (some (aB b))).2==b))) [])) fun Γ=>?_
 refine ⟨fun h=>?_,rfl,rfl⟩
 have:=of_decide_eq_true h
 have h1:aB b=(b.length:Int):=rfl
 have h2:aB a=(a.length:Int):=rfl
 omega
def eHp:Ent:=(254,fun
 | [.c (.pd (.str a)),.c (.pd (.str b))],[]=>some (none,.x (.c (.pd (.bool (decide (aB a≥aB b)&&a.take (aB b).toNat==b)))),[])
 | _,_=>none)
theorem Lp:EntOk Tryz.prog eHp:=entOk fun vs ck=>by
 unfold eHp; dsimp only; split
 · rename_i a b; exact entS fun hp=>si a b
 · exact entN
def I5:Cfg:=⟨aY,[eHp]⟩
theorem FQ:ag Tryz.prog I5.tab:=(ag.cons Lp ag.nil)
def dC:Bool:=decide (aB a≥aB b)&&a.take (aB b).toNat==b
def dA:Str:=bif dC a b then a.drop (aB b).toNat else a
def gb (s:Str):Bool:=aZ (dA s [100,111,110,101,46])
theorem rq:ah Tryz.prog 218 [.s a,.s b] [] (.tup [.s (dA a b),.b (dC a b)]) []:=by
 refine dg FQ Tryz.func218 (.ite (!(decide (aB a≥aB b)&&List.take ((aB b).toNat) a==b)) (.ret (.tup [.p (.str a),.p (.bool false)]) []) (.need ((0:Int)≤aB b∧aB b≤(a.length:Int)) (.ret (.tup [.p (.str ((dT a (some (aB b)) none).2)),.p (.bool true)]) []))) fun Γ=>?_
 refine ⟨fun h=>⟨?_,rfl⟩,fun h=>⟨?_,?_,rfl⟩⟩
 · have h':dC a b=false:=by
    have h2:(!dC a b)=true:=h
    simpa using h2
   simp [dA,h']
 · have h':dC a b=true:=by
    have h2:(!dC a b)=false:=h
    simpa using h2
   simp only [dC,af,decide_eq_true_eq] at h'
   have h1:aB b=(b.length:Int):=rfl
   have h2:aB a=(a.length:Int):=rfl
   omega
 · have h':dC a b=true:=by
    have h2:(!dC a b)=false:=h
    simpa using h2
   simp [dA,h',dT]
def uV:Ent:=(218,fun
 | [.c (.pd (.str a)),.c (.pd (.str b))],[]=>some (none,.tup [.c (.pd (.str (dA a b))),.c (.pd (.bool (dC a b)))],[])
 | _,_=>none)
theorem Gq:EntOk Tryz.prog uV:=entOk fun vs ck=>by
 unfold uV; dsimp only; split
 · rename_i a b; exact entS fun hp=>rq a b
 · exact entN
def Al:Cfg:=⟨aY,[uV]⟩
theorem B9:ag Tryz.prog Al.tab:=(ag.cons Gq ag.nil)
theorem r7:ah Tryz.prog 180 [.s a,.s b] [] (.tup [.s (dA a b),.b (dC a b)]) []:=by
 refine dg B9 Tryz.func180 (.ret (.tup [.p (.str (dA a b)),.p (.bool (dC a b))]) []) fun Γ=>?_
 exact ⟨rfl,rfl⟩
def vQ:Ent:=(180,fun
 | [.c (.pd (.str a)),.c (.pd (.str b))],[]=>some (none,.tup [.c (.pd (.str (dA a b))),.c (.pd (.bool (dC a b)))],[])
 | _,_=>none)
theorem Am:EntOk Tryz.prog vQ:=entOk fun vs ck=>by
 unfold vQ; dsimp only; split
 · rename_i a b; exact entS fun hp=>r7 a b
 · exact entN
end Go.Proofs.YtgfifkhbfdacjaaGreatDoor
namespace Go.Proofs.YtgfifkhbfdacjaaGreatDoor
open Go Go.Ev
set_option maxRecDepth 100000
def E4:Cfg:=⟨aY,[vQ,jq]⟩
theorem CJ:ag Tryz.prog E4.tab:=(ag.cons Am (ag.cons ir ag.nil))
variable (s:Str)
theorem Cs:ah Tryz.prog 161 [.s s] [] (.x (.b (gb s))) []:=by
 refine dg CJ Tryz.func161 (.ret (.p (.bool (aZ (dA s [(100:UInt8),111,110,101,46])))) []) fun Γ=>?_
 exact ⟨rfl,rfl⟩
def oC:Ent:=(161,fun
 | [.c (.pd (.str s))],[]=>some (none,.x (.c (.pd (.bool (gb s)))),[])
 | _,_=>none)
theorem tN:EntOk Tryz.prog oC:=entOk fun vs ck=>by
 unfold oC; dsimp only; split
 · rename_i s; exact entS fun hp=>Cs s
 · exact entN
theorem Gd:dA ([100,111,110,101,46]++s) [100,111,110,101,46]=s:=by
 have h:dC ([100,111,110,101,46]++s) [100,111,110,101,46]=true:=by
  simp [dC,aB]; omega
 rw [dA,h]; rfl
theorem HT:aZ ([100,111,110,101,46]++s)=false:=by
 have:([100,111,110,101,46]++s:Str).any j2=true:=by
  rw [ez]
  have:([100,111,110,101,46]:Str).any j2=true:=by decide
  rw [this]; rfl
 rw [aZ,this]; simp
theorem A2 {s p:Str} (h:dC s p=true):∃ r,s=p++r:=by
 simp only [dC,af,beq_iff_eq,decide_eq_true_eq] at h
 refine ⟨s.drop (aB p).toNat,?_⟩
 have:=cq (aB p).toNat s
 rw [h.2] at this; exact this.symm
theorem Fg:gb ([100,111,110,101,46]++s)=aZ s:=by rw [gb,Gd]
theorem Hk {s:Str} (h:dC s [100,111,110,101,46]=false):gb s=aZ s:=by simp [gb,dA,h]
def Di:Cfg:=⟨aY,[nL]⟩
theorem CV:ag Tryz.prog Di.tab:=(ag.cons ml ag.nil)
theorem sd:ah Tryz.prog 200 [.s s] [] (.x (.b (gb s))) []:=by
 refine dg CV Tryz.func200 (.need (aZ s=false∧decide (aB s>(5:Int))=true→(0:Int)≤5∧(5:Int)≤(s.length:Int)) (.need (aZ s=false∧(decide (aB s>(5:Int))&&(dT s none (some (5:Int))).2==[100,111,110,101,46])=true→(0:Int)≤5∧(5:Int)≤(s.length:Int)) (.ret (.p (.bool (aZ s||decide (aB s>(5:Int))&&(dT s none (some (5:Int))).2==[100,111,110,101,46]&&aZ ((dT s (some (5:Int)) none).2)))) []))) fun Γ=>?_
 have hL:aB s=(s.length:Int):=rfl
 refine ⟨fun h=>by have:=of_decide_eq_true h.2; omega,fun h=>by simp only [af,decide_eq_true_eq] at h; omega,?_,rfl⟩
 cases hp:dC s [100,111,110,101,46]
 · rw [Hk hp]
   have h5:(decide (aB s>5)&&(dT s none (some 5)).2==[100,111,110,101,46])=false:=by
    cases hb:(decide (aB s>5)&&(dT s none (some 5)).2==[100,111,110,101,46])
    · rfl
    · exfalso
      simp only [af,decide_eq_true_eq] at hb
      have:dC s [100,111,110,101,46]=true:=by
       simp only [dC,af,decide_eq_true_eq]
       refine ⟨?_,hb.2⟩
       have h2:aB [100,111,110,101,46]=5:=rfl
       omega
      rw [this] at hp; cases hp
   rw [h5,a6,bU]
 · obtain ⟨r,rfl⟩:=A2 hp
   rw [Fg,HT,bf]
   have hc:(dT ([100,111,110,101,46]++r) (some 5) none).2=r:=rfl
   have hc2:(dT ([100,111,110,101,46]++r) none (some 5)).2=[100,111,110,101,46]:=rfl
   rw [hc,hc2]
   cases r with
   | nil=>rfl
   | cons c r =>
     have:decide (aB ([100,111,110,101,46]++c::r)>5)=true:=decide_eq_true (by
      have:aB ([100,111,110,101,46]++c::r)=((([100,111,110,101,46]++c::r):Str).length:Int):=rfl
      rw [this]; simp only [ar,aF,bH]; omega)
     rw [this]; rfl
def k9:Ent:=(200,fun
 | [.c (.pd (.str s))],[]=>some (none,.x (.c (.pd (.bool (gb s)))),[])
 | _,_=>none)
theorem wS:EntOk Tryz.prog k9:=entOk fun vs ck=>by
 unfold k9; dsimp only; split
 · rename_i s; exact entS fun hp=>sd s
 · exact entN
end Go.Proofs.YtgfifkhbfdacjaaGreatDoor
namespace Go.Proofs.YtgfifkhbfdacjaaGreatDoor
open Go Go.Ev
set_option maxRecDepth 100000
def lU:List (Str×Nat):=[([101,118,101,110,116],111),([105,110,116],112),([98,111,111,108],113),([112,111,105,110,116],114),([98,97,115,105,99],115),([98,111,116,104],116),([102,105,110,97,108],117),([111,110,101],118),([115,104,97,108,108,111,119],119),([100,101,101,112],120),([101,110,116,114,121],121),([101,120,105,116],122),([111,110],123)]
theorem Ce:ah Tryz.prog 59 [] [] (.x (.p (.tbl lU))) []:=by
 refine dg aR Tryz.func59 (.stop [.ops [1,0] 0,.code [1,1]] { n:=3,fr:=[(0,.p (.v (Value.map none)))],ck:=[] }) fun Γ=>?_
 refine J.makeTbl (d:=1) (n:=13) (l:=lU.map fun p=>(bs p.1,p.2)) (by kernel_rfl) ?_
 have e:keyed (lU.map fun p=>(bs p.1,p.2))=lU:=by decide
 rw [e]
 refine jg aR Tryz.func59 (.ret (.p (PD.tbl [([(101:UInt8),118,101,110,116],111),([(105:UInt8),110,116],112),([(98:UInt8),111,111,108],113),([(112:UInt8),111,105,110,116],114),([(98:UInt8),97,115,105,99],115),([(98:UInt8),111,116,104],116),([(102:UInt8),105,110,97,108],117),([(111:UInt8),110,101],118),([(115:UInt8),104,97,108,108,111,119],119),([(100:UInt8),101,101,112],120),([(101:UInt8),110,116,114,121],121),([(101:UInt8),120,105,116],122),([(111:UInt8),110],123)])) []) ?_
 exact ⟨rfl,rfl⟩
def q9:Ent:=(59,fun
 | [],[]=>some (none,.x (.c (.pd (.tbl lU))),[])
 | _,_=>none)
theorem CK:EntOk Tryz.prog q9:=entOk fun vs ck=>by
 unfold q9; dsimp only; split
 · exact entS fun hp=>Ce
 · exact entN
end Go.Proofs.YtgfifkhbfdacjaaGreatDoor

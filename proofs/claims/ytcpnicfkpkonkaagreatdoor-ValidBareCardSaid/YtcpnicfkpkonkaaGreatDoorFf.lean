/- Contracts: the document's kinds. Conditions: none. -/
import Derived.Test.YtcpnicfkpkonkaaGreatDoorFe
namespace Go.Proofs.YtcpnicfkpkonkaaGreatDoor
open Go Go.Ev
set_option maxRecDepth 100000
def eK (K : Int → Int × Int) : Nat × (List SX → List Chunk → Option (Option Prop × SV × List Chunk)) := (141, fun
  | [.c (.pd (.lst .cell l)), .c (.pd (.int .i64 e)), .c (.pd (.lst .var vs)), .c (.pd (.lst .str ss))], [] => some (some (Does Tryz.prog 141 [SX.l .cell l, SX.i e, SX.l .var vs, SX.l .str ss] [] (intP (K e)) []), intP (K e), [])
  | _, _ => none)
def eB (B : Int → Int) : Nat × (List SX → List Chunk → Option (Option Prop × SV × List Chunk)) := (189, fun
  | [.c (.pd (.lst .cell l)), .c (.pd (.int .i64 e))], [] => some (some (Does Tryz.prog 189 [SX.l .cell l, SX.i e] [] (.x (.i (B e))) []), .x (.i (B e)), [])
  | _, _ => none)
def cfgK (K : Int → Int × Int) (B : Int → Int) : Cfg := ⟨tys0, [eRop, eRleaf, eJn, eK K, eB B]⟩
def cfgKO (K : Int → Int × Int) : Cfg := ⟨tys0, [eRright, eK K]⟩
theorem eK_ok {K : Int → Int × Int} (vs : List SX) (ck : List Chunk) (p : Option Prop) (ret : SV) (ck' : List Chunk) (h : (eK K).2 vs ck = some (p, ret, ck')) (hp : Holds p) : Does Tryz.prog (eK K).1 vs ck ret ck' := by
  unfold eK at h
  simp only at h
  split at h
  · simp only [Option.some.injEq, Prod.mk.injEq] at h
    obtain ⟨rfl, rfl, rfl⟩ := h
    exact hp
  · simp at h
theorem eB_ok {B : Int → Int} (vs : List SX) (ck : List Chunk) (p : Option Prop) (ret : SV) (ck' : List Chunk) (h : (eB B).2 vs ck = some (p, ret, ck')) (hp : Holds p) : Does Tryz.prog (eB B).1 vs ck ret ck' := by
  unfold eB at h
  simp only at h
  split at h
  · simp only [Option.some.injEq, Prod.mk.injEq] at h
    obtain ⟨rfl, rfl, rfl⟩ := h
    exact hp
  · simp at h
theorem cfgK_ok {K : Int → Int × Int} {B : Int → Int} : TabOk Tryz.prog (cfgK K B).tab := TabOk.cons eRop_ok (TabOk.cons eRleaf_ok (TabOk.cons eJn_ok (TabOk.cons eK_ok (TabOk.cons eB_ok TabOk.nil))))
theorem cfgKO_ok {K : Int → Int × Int} : TabOk Tryz.prog (cfgKO K).tab := TabOk.cons eRright_ok (TabOk.cons eK_ok TabOk.nil)
theorem last_cell {l pre post : List Cell} {c : Cell} {front : List Cell} (hq : l = pre ++ (front ++ [c]) ++ post) : pre.length + front.length < l.length ∧ ETy.get .cell l (pre.length + front.length) = c := by
  have he : pre.length + front.length < l.length := by rw [hq]; simp
  refine ⟨he, ETy.get_eq (t := .cell) ?_⟩
  have hx : pre.length + front.length = (pre ++ front).length := by simp
  rw [hx, hq, ← List.append_assoc, List.append_assoc, List.getElem?_append_right (Nat.le_refl _), Nat.sub_self]; rfl
theorem wants_max (c : Cell) (h : 0 ≤ wantsC c) : c.op ≤ 23 := by
  unfold wantsC wantsM at h
  simp only [cond_eq_ite] at h
  repeat' split at h
  all_goals simp_all
  all_goals omega
theorem ref_of_tm (l : List Cell) (vs : List Var) (ss : List Str) (hl : l.length ≤ 32) : ∀ (t : Tm), t.ok → ∀ (pre post : List Cell), l = pre ++ t.flat ++ post →
      Does Tryz.prog 141 [.l .cell l, .i ((pre.length : Int) + t.flat.length - 1), .l .var vs, .l .str ss] [] (intP (t.kind vs ss)) []
  | .leaf c, h, pre, post, hq => by
    obtain ⟨he, hc⟩ := last_cell (front := []) (pre := pre) (post := post) (c := c) (l := l) (by rw [hq]; simp [Tm.flat])
    have e1 : (pre.length : Int) + ((Tm.leaf c).flat.length : Int) - 1 = ((pre.length + ([] : List Cell).length : Nat) : Int) := by simp [Tm.flat]
    rw [e1]
    generalize pre.length + ([] : List Cell).length = e at *
    let K : Int → Int × Int := fun _ => (0, 0)
    let B : Int → Int := fun _ => 0
    refine Does.go (cfg := (cfgK K B)) cfgK_ok Tryz.func141 (by kernel_rfl) (by kernel_rfl) (t := (.need ((0 : Int) ≤ (↑e : Int) ∧ (↑e : Int) < (↑(List.length l) : Int)) (.ite (wantsM (Cell.op (ETy.get .cell l e)) (Cell.a (ETy.get .cell l e)) (Cell.name (ETy.get .cell l e)) == (0 : Int)) (.ret (.tup [.i (Prod.fst (leafM { op := Cell.op (ETy.get .cell l e), a := Cell.a (ETy.get .cell l e), name := Cell.name (ETy.get .cell l e) } vs ss)), .i (Prod.snd (leafM { op := Cell.op (ETy.get .cell l e), a := Cell.a (ETy.get .cell l e), name := Cell.name (ETy.get .cell l e) } vs ss))]) []) (.ite (wantsM (Cell.op (ETy.get .cell l e)) (Cell.a (ETy.get .cell l e)) (Cell.name (ETy.get .cell l e)) == (1 : Int)) (.need (Does Tryz.prog (141 : FuncId) [SX.l .cell l, SX.i (IntKind.wrap .i64 ((↑e : Int) - (1 : Int))), SX.l .var vs, SX.l .str ss] [] (intP (K (IntKind.wrap .i64 ((↑e : Int) - (1 : Int))))) []) (.ite (Prod.snd (K (IntKind.wrap .i64 ((↑e : Int) - (1 : Int)))) != (0 : Int)) (.ret (.tup [.i (0 : Int), .i (Prod.snd (K (IntKind.wrap .i64 ((↑e : Int) - (1 : Int)))))]) []) (.ite (Cell.op (ETy.get .cell l e) == (7 : Int) && Prod.fst (K (IntKind.wrap .i64 ((↑e : Int) - (1 : Int)))) != (2 : Int)) (.ret (.tup [.i (Prod.fst (K (IntKind.wrap .i64 ((↑e : Int) - (1 : Int))))), .i (0 : Int)]) []) (.ite (Cell.op (ETy.get .cell l e) == (8 : Int) && Prod.fst (K (IntKind.wrap .i64 ((↑e : Int) - (1 : Int)))) == (2 : Int)) (.ret (.tup [.i (Prod.fst (K (IntKind.wrap .i64 ((↑e : Int) - (1 : Int))))), .i (0 : Int)]) []) (.ite (decide (Cell.op (ETy.get .cell l e) > (8 : Int)) && Prod.fst (K (IntKind.wrap .i64 ((↑e : Int) - (1 : Int)))) == (3 : Int)) (.ret (.tup [.i (1 : Int), .i (0 : Int)]) []) (.ret (.tup [.i (0 : Int), .i (8 : Int)]) [])))))) (.need (Does Tryz.prog (189 : FuncId) [SX.l .cell l, SX.i (IntKind.wrap .i64 ((↑e : Int) - (1 : Int)))] [] (.x (SX.i (B (IntKind.wrap .i64 ((↑e : Int) - (1 : Int)))))) []) (.need (Does Tryz.prog (141 : FuncId) [SX.l .cell l, SX.i (IntKind.wrap .i64 (B (IntKind.wrap .i64 ((↑e : Int) - (1 : Int))) - (1 : Int))), SX.l .var vs, SX.l .str ss] [] (intP (K (IntKind.wrap .i64 (B (IntKind.wrap .i64 ((↑e : Int) - (1 : Int))) - (1 : Int))))) []) (.ite (Prod.snd (K (IntKind.wrap .i64 (B (IntKind.wrap .i64 ((↑e : Int) - (1 : Int))) - (1 : Int)))) != (0 : Int)) (.ret (.tup [.i (0 : Int), .i (Prod.snd (K (IntKind.wrap .i64 (B (IntKind.wrap .i64 ((↑e : Int) - (1 : Int))) - (1 : Int)))))]) []) (.need (Does Tryz.prog (141 : FuncId) [SX.l .cell l, SX.i (IntKind.wrap .i64 ((↑e : Int) - (1 : Int))), SX.l .var vs, SX.l .str ss] [] (intP (K (IntKind.wrap .i64 ((↑e : Int) - (1 : Int))))) []) (.ite (Prod.snd (K (IntKind.wrap .i64 ((↑e : Int) - (1 : Int)))) != (0 : Int)) (.ret (.tup [.i (0 : Int), .i (Prod.snd (K (IntKind.wrap .i64 ((↑e : Int) - (1 : Int)))))]) []) (.ite (Prod.fst (K (IntKind.wrap .i64 (B (IntKind.wrap .i64 ((↑e : Int) - (1 : Int))) - (1 : Int)))) != Prod.fst (K (IntKind.wrap .i64 ((↑e : Int) - (1 : Int))))) (.ret (.tup [.i (0 : Int), .i (8 : Int)]) []) (.ret (.tup [.i (Prod.fst (joinedM (Cell.op (ETy.get .cell l e)) (Prod.fst (K (IntKind.wrap .i64 (B (IntKind.wrap .i64 ((↑e : Int) - (1 : Int))) - (1 : Int))))))), .i (Prod.snd (joinedM (Cell.op (ETy.get .cell l e)) (Prod.fst (K (IntKind.wrap .i64 (B (IntKind.wrap .i64 ((↑e : Int) - (1 : Int))) - (1 : Int)))))))]) []))))))))))) (by kernel_rfl) fun Γ => ?_
    rw [hc]
    have hw : wantsM c.op c.a c.name = 0 := h
    rw [hw]
    exact ⟨⟨by omega, by omega⟩, fun _ => ⟨rfl, rfl⟩, fun h => Bool.noConfusion h⟩
  | .un c t, ⟨hw, ht⟩, pre, post, hq => by
    obtain ⟨he, hc⟩ := last_cell (front := t.flat) (pre := pre) (post := post) (c := c) (l := l) hq
    have e1 : (pre.length : Int) + ((Tm.un c t).flat.length : Int) - 1 = ((pre.length + t.flat.length : Nat) : Int) := by simp only [Tm.flat, List.length_append, List.length_cons, List.length_nil]; omega
    rw [e1]
    have hop := wants_cases c (by omega)
    have hw' : wantsM c.op c.a c.name = 1 := hw
    have e2 : IntKind.wrap .i64 (((pre.length + t.flat.length : Nat) : Int) - 1) = (pre.length : Int) + t.flat.length - 1 := by
      have := t.flat_pos
      rw [wrapI (by omega) (by omega)]; omega
    have ih := ref_of_tm l vs ss hl t ht pre ([c] ++ post) (by rw [hq]; simp [Tm.flat])
    rw [← e2] at ih
    generalize pre.length + t.flat.length = e at *
    let K : Int → Int × Int := fun _ => t.kind vs ss
    let B : Int → Int := fun _ => 0
    refine Does.go (cfg := (cfgK K B)) cfgK_ok Tryz.func141 (by kernel_rfl) (by kernel_rfl) (t := (.need ((0 : Int) ≤ (↑e : Int) ∧ (↑e : Int) < (↑(List.length l) : Int)) (.ite (wantsM (Cell.op (ETy.get .cell l e)) (Cell.a (ETy.get .cell l e)) (Cell.name (ETy.get .cell l e)) == (0 : Int)) (.ret (.tup [.i (Prod.fst (leafM { op := Cell.op (ETy.get .cell l e), a := Cell.a (ETy.get .cell l e), name := Cell.name (ETy.get .cell l e) } vs ss)), .i (Prod.snd (leafM { op := Cell.op (ETy.get .cell l e), a := Cell.a (ETy.get .cell l e), name := Cell.name (ETy.get .cell l e) } vs ss))]) []) (.ite (wantsM (Cell.op (ETy.get .cell l e)) (Cell.a (ETy.get .cell l e)) (Cell.name (ETy.get .cell l e)) == (1 : Int)) (.need (Does Tryz.prog (141 : FuncId) [SX.l .cell l, SX.i (IntKind.wrap .i64 ((↑e : Int) - (1 : Int))), SX.l .var vs, SX.l .str ss] [] (intP (K (IntKind.wrap .i64 ((↑e : Int) - (1 : Int))))) []) (.ite (Prod.snd (K (IntKind.wrap .i64 ((↑e : Int) - (1 : Int)))) != (0 : Int)) (.ret (.tup [.i (0 : Int), .i (Prod.snd (K (IntKind.wrap .i64 ((↑e : Int) - (1 : Int)))))]) []) (.ite (Cell.op (ETy.get .cell l e) == (7 : Int) && Prod.fst (K (IntKind.wrap .i64 ((↑e : Int) - (1 : Int)))) != (2 : Int)) (.ret (.tup [.i (Prod.fst (K (IntKind.wrap .i64 ((↑e : Int) - (1 : Int))))), .i (0 : Int)]) []) (.ite (Cell.op (ETy.get .cell l e) == (8 : Int) && Prod.fst (K (IntKind.wrap .i64 ((↑e : Int) - (1 : Int)))) == (2 : Int)) (.ret (.tup [.i (Prod.fst (K (IntKind.wrap .i64 ((↑e : Int) - (1 : Int))))), .i (0 : Int)]) []) (.ite (decide (Cell.op (ETy.get .cell l e) > (8 : Int)) && Prod.fst (K (IntKind.wrap .i64 ((↑e : Int) - (1 : Int)))) == (3 : Int)) (.ret (.tup [.i (1 : Int), .i (0 : Int)]) []) (.ret (.tup [.i (0 : Int), .i (8 : Int)]) [])))))) (.need (Does Tryz.prog (189 : FuncId) [SX.l .cell l, SX.i (IntKind.wrap .i64 ((↑e : Int) - (1 : Int)))] [] (.x (SX.i (B (IntKind.wrap .i64 ((↑e : Int) - (1 : Int)))))) []) (.need (Does Tryz.prog (141 : FuncId) [SX.l .cell l, SX.i (IntKind.wrap .i64 (B (IntKind.wrap .i64 ((↑e : Int) - (1 : Int))) - (1 : Int))), SX.l .var vs, SX.l .str ss] [] (intP (K (IntKind.wrap .i64 (B (IntKind.wrap .i64 ((↑e : Int) - (1 : Int))) - (1 : Int))))) []) (.ite (Prod.snd (K (IntKind.wrap .i64 (B (IntKind.wrap .i64 ((↑e : Int) - (1 : Int))) - (1 : Int)))) != (0 : Int)) (.ret (.tup [.i (0 : Int), .i (Prod.snd (K (IntKind.wrap .i64 (B (IntKind.wrap .i64 ((↑e : Int) - (1 : Int))) - (1 : Int)))))]) []) (.need (Does Tryz.prog (141 : FuncId) [SX.l .cell l, SX.i (IntKind.wrap .i64 ((↑e : Int) - (1 : Int))), SX.l .var vs, SX.l .str ss] [] (intP (K (IntKind.wrap .i64 ((↑e : Int) - (1 : Int))))) []) (.ite (Prod.snd (K (IntKind.wrap .i64 ((↑e : Int) - (1 : Int)))) != (0 : Int)) (.ret (.tup [.i (0 : Int), .i (Prod.snd (K (IntKind.wrap .i64 ((↑e : Int) - (1 : Int)))))]) []) (.ite (Prod.fst (K (IntKind.wrap .i64 (B (IntKind.wrap .i64 ((↑e : Int) - (1 : Int))) - (1 : Int)))) != Prod.fst (K (IntKind.wrap .i64 ((↑e : Int) - (1 : Int))))) (.ret (.tup [.i (0 : Int), .i (8 : Int)]) []) (.ret (.tup [.i (Prod.fst (joinedM (Cell.op (ETy.get .cell l e)) (Prod.fst (K (IntKind.wrap .i64 (B (IntKind.wrap .i64 ((↑e : Int) - (1 : Int))) - (1 : Int))))))), .i (Prod.snd (joinedM (Cell.op (ETy.get .cell l e)) (Prod.fst (K (IntKind.wrap .i64 (B (IntKind.wrap .i64 ((↑e : Int) - (1 : Int))) - (1 : Int)))))))]) []))))))))))) (by kernel_rfl) fun Γ => ?_
    rw [hc, hw']
    refine ⟨⟨by omega, by omega⟩, fun h => Bool.noConfusion h, fun _ => ⟨fun _ => ⟨ih, ?_⟩, fun h => Bool.noConfusion h⟩⟩
    simp only [Tm.kind, K]
    have hone := t.kind_one vs ss
    generalize t.kind vs ss = kf at *
    obtain ⟨k1, k2⟩ := kf
    refine ⟨fun h => ⟨?_, rfl⟩, fun h => ?_⟩
    · have h' : (k2 != 0) = true := h
      simp only [h', cond_true, intP]
    · have h' : (k2 != 0) = false := h
      have h0 : k2 = 0 := by simpa using h'
      have hk := hone.1 h0
      have hu := un_ref c.op k1 (by omega) (by omega) hk.1 hk.2
      simp only [h', cond_false, ← hu]
      refine ⟨fun q1 => ⟨?_, rfl⟩, fun q1 => ⟨fun q2 => ⟨?_, rfl⟩, fun q2 => ⟨fun q3 => ⟨?_, rfl⟩, fun q3 => ⟨?_, rfl⟩⟩⟩⟩ <;> simp only [unRef, *, cond_true, cond_false, intP]
  | .bin c t u, ⟨hw, ht, hu⟩, pre, post, hq => by
    obtain ⟨he, hc⟩ := last_cell (front := t.flat ++ u.flat) (pre := pre) (post := post) (c := c) (l := l) hq
    have e1 : (pre.length : Int) + ((Tm.bin c t u).flat.length : Int) - 1 = ((pre.length + (t.flat ++ u.flat).length : Nat) : Int) := by simp only [Tm.flat, List.length_append, List.length_cons, List.length_nil]; omega
    rw [e1]
    have hop := wants_cases c (by omega)
    have hw' : wantsM c.op c.a c.name = 2 := hw
    have htp := t.flat_pos
    have hup := u.flat_pos
    have hq1 : l = pre ++ t.flat ++ (u.flat ++ [c] ++ post) := by rw [hq]; simp [Tm.flat]
    have hq2 : l = (pre ++ t.flat) ++ u.flat ++ ([c] ++ post) := by rw [hq]; simp [Tm.flat]
    have e2 : IntKind.wrap .i64 (((pre.length + (t.flat ++ u.flat).length : Nat) : Int) - 1) = ((pre ++ t.flat).length : Int) + u.flat.length - 1 := by
      simp only [List.length_append] at he ⊢
      rw [wrapI (by omega) (by omega)]; omega
    have e3 : IntKind.wrap .i64 (((pre ++ t.flat).length : Int) - 1) = (pre.length : Int) + t.flat.length - 1 := by
      simp only [List.length_append] at he ⊢
      rw [wrapI (by omega) (by omega)]; omega
    have ih1 := ref_of_tm l vs ss hl t ht pre (u.flat ++ [c] ++ post) hq1
    have ih2 := ref_of_tm l vs ss hl u hu (pre ++ t.flat) ([c] ++ post) hq2
    have hbeg := begin_spec l u hu (pre ++ t.flat) ([c] ++ post) hq2 hl
    have hne : IntKind.wrap .i64 (((pre ++ t.flat).length : Int) - 1) ≠ IntKind.wrap .i64 (((pre.length + (t.flat ++ u.flat).length : Nat) : Int) - 1) := by
      rw [e2, e3]; simp only [List.length_append]; omega
    rw [← e3] at ih1
    rw [← e2] at ih2 hbeg
    generalize pre.length + (t.flat ++ u.flat).length = e at *
    generalize (pre ++ t.flat).length = x at *
    let K : Int → Int × Int := fun i => if i = IntKind.wrap .i64 ((x : Int) - 1) then t.kind vs ss else u.kind vs ss
    let B : Int → Int := fun _ => (x : Int)
    have k1 : K (IntKind.wrap .i64 ((x : Int) - 1)) = t.kind vs ss := if_pos rfl
    have k2 : K (IntKind.wrap .i64 ((e : Int) - 1)) = u.kind vs ss := if_neg (Ne.symm hne)
    refine Does.go (cfg := (cfgK K B)) cfgK_ok Tryz.func141 (by kernel_rfl) (by kernel_rfl) (t := (.need ((0 : Int) ≤ (↑e : Int) ∧ (↑e : Int) < (↑(List.length l) : Int)) (.ite (wantsM (Cell.op (ETy.get .cell l e)) (Cell.a (ETy.get .cell l e)) (Cell.name (ETy.get .cell l e)) == (0 : Int)) (.ret (.tup [.i (Prod.fst (leafM { op := Cell.op (ETy.get .cell l e), a := Cell.a (ETy.get .cell l e), name := Cell.name (ETy.get .cell l e) } vs ss)), .i (Prod.snd (leafM { op := Cell.op (ETy.get .cell l e), a := Cell.a (ETy.get .cell l e), name := Cell.name (ETy.get .cell l e) } vs ss))]) []) (.ite (wantsM (Cell.op (ETy.get .cell l e)) (Cell.a (ETy.get .cell l e)) (Cell.name (ETy.get .cell l e)) == (1 : Int)) (.need (Does Tryz.prog (141 : FuncId) [SX.l .cell l, SX.i (IntKind.wrap .i64 ((↑e : Int) - (1 : Int))), SX.l .var vs, SX.l .str ss] [] (intP (K (IntKind.wrap .i64 ((↑e : Int) - (1 : Int))))) []) (.ite (Prod.snd (K (IntKind.wrap .i64 ((↑e : Int) - (1 : Int)))) != (0 : Int)) (.ret (.tup [.i (0 : Int), .i (Prod.snd (K (IntKind.wrap .i64 ((↑e : Int) - (1 : Int)))))]) []) (.ite (Cell.op (ETy.get .cell l e) == (7 : Int) && Prod.fst (K (IntKind.wrap .i64 ((↑e : Int) - (1 : Int)))) != (2 : Int)) (.ret (.tup [.i (Prod.fst (K (IntKind.wrap .i64 ((↑e : Int) - (1 : Int))))), .i (0 : Int)]) []) (.ite (Cell.op (ETy.get .cell l e) == (8 : Int) && Prod.fst (K (IntKind.wrap .i64 ((↑e : Int) - (1 : Int)))) == (2 : Int)) (.ret (.tup [.i (Prod.fst (K (IntKind.wrap .i64 ((↑e : Int) - (1 : Int))))), .i (0 : Int)]) []) (.ite (decide (Cell.op (ETy.get .cell l e) > (8 : Int)) && Prod.fst (K (IntKind.wrap .i64 ((↑e : Int) - (1 : Int)))) == (3 : Int)) (.ret (.tup [.i (1 : Int), .i (0 : Int)]) []) (.ret (.tup [.i (0 : Int), .i (8 : Int)]) [])))))) (.need (Does Tryz.prog (189 : FuncId) [SX.l .cell l, SX.i (IntKind.wrap .i64 ((↑e : Int) - (1 : Int)))] [] (.x (SX.i (B (IntKind.wrap .i64 ((↑e : Int) - (1 : Int)))))) []) (.need (Does Tryz.prog (141 : FuncId) [SX.l .cell l, SX.i (IntKind.wrap .i64 (B (IntKind.wrap .i64 ((↑e : Int) - (1 : Int))) - (1 : Int))), SX.l .var vs, SX.l .str ss] [] (intP (K (IntKind.wrap .i64 (B (IntKind.wrap .i64 ((↑e : Int) - (1 : Int))) - (1 : Int))))) []) (.ite (Prod.snd (K (IntKind.wrap .i64 (B (IntKind.wrap .i64 ((↑e : Int) - (1 : Int))) - (1 : Int)))) != (0 : Int)) (.ret (.tup [.i (0 : Int), .i (Prod.snd (K (IntKind.wrap .i64 (B (IntKind.wrap .i64 ((↑e : Int) - (1 : Int))) - (1 : Int)))))]) []) (.need (Does Tryz.prog (141 : FuncId) [SX.l .cell l, SX.i (IntKind.wrap .i64 ((↑e : Int) - (1 : Int))), SX.l .var vs, SX.l .str ss] [] (intP (K (IntKind.wrap .i64 ((↑e : Int) - (1 : Int))))) []) (.ite (Prod.snd (K (IntKind.wrap .i64 ((↑e : Int) - (1 : Int)))) != (0 : Int)) (.ret (.tup [.i (0 : Int), .i (Prod.snd (K (IntKind.wrap .i64 ((↑e : Int) - (1 : Int)))))]) []) (.ite (Prod.fst (K (IntKind.wrap .i64 (B (IntKind.wrap .i64 ((↑e : Int) - (1 : Int))) - (1 : Int)))) != Prod.fst (K (IntKind.wrap .i64 ((↑e : Int) - (1 : Int))))) (.ret (.tup [.i (0 : Int), .i (8 : Int)]) []) (.ret (.tup [.i (Prod.fst (joinedM (Cell.op (ETy.get .cell l e)) (Prod.fst (K (IntKind.wrap .i64 (B (IntKind.wrap .i64 ((↑e : Int) - (1 : Int))) - (1 : Int))))))), .i (Prod.snd (joinedM (Cell.op (ETy.get .cell l e)) (Prod.fst (K (IntKind.wrap .i64 (B (IntKind.wrap .i64 ((↑e : Int) - (1 : Int))) - (1 : Int)))))))]) []))))))))))) (by kernel_rfl) fun Γ => ?_
    have hB : B (IntKind.wrap .i64 ((e : Int) - 1)) = (x : Int) := rfl
    rw [hc, hw', hB, k1, k2]
    refine ⟨⟨by omega, by omega⟩, fun h => Bool.noConfusion h, fun _ => ⟨fun h => Bool.noConfusion h, fun _ => ⟨hbeg, ih1, ?_⟩⟩⟩
    simp only [Tm.kind]
    have hone := t.kind_one vs ss
    have hone2 := u.kind_one vs ss
    clear_value K B
    generalize t.kind vs ss = kf at *
    generalize u.kind vs ss = kg at *
    obtain ⟨a1, a2⟩ := kf
    obtain ⟨b1, b2⟩ := kg
    refine ⟨fun h => ⟨?_, rfl⟩, fun h => ⟨ih2, fun h3 => ⟨?_, rfl⟩, fun h3 => ?_⟩⟩
    · have h' : (a2 != 0) = true := h
      simp only [h', cond_true, intP]
    · have h' : (a2 != 0) = false := h
      have h3' : (b2 != 0) = true := h3
      simp only [h', h3', cond_true, cond_false, intP]
    · have h' : (a2 != 0) = false := h
      have h3' : (b2 != 0) = false := h3
      have h0 : a2 = 0 := by simpa using h'
      have h0' : b2 = 0 := by simpa using h3'
      have hk := hone.1 h0
      have hk2 := hone2.1 h0'
      have hop' : c.op ≤ 23 := wants_max c (by omega)
      have hb := bin_ref c.op a1 b1 (by omega) hop' hk.1 hk.2 hk2.1 hk2.2
      simp only [h', h3', cond_false, ← hb]
      refine ⟨fun q1 => ⟨?_, rfl⟩, fun q1 => ⟨?_, rfl⟩⟩ <;> simp only [binRef, q1, cond_true, cond_false, intP]
theorem ref_kinds_spec (l : List Cell) (vs : List Var) (ss : List Str) : Does Tryz.prog 90 [.l .cell l, .l .var vs, .l .str ss] [] (intP (kindsM l vs ss)) [] := by
  let K : Int → Int × Int := fun _ => kindsM l vs ss
  refine Does.go (cfg := (cfgKO K)) cfgKO_ok Tryz.func90 (by kernel_rfl) (by kernel_rfl) (t := (.ite (!rightM l) (.ret (.tup [.i (0 : Int), .i (1 : Int)]) []) (.need (Does Tryz.prog (141 : FuncId) [SX.l .cell l, SX.i (IntKind.wrap .i64 ((↑(List.length l) : Int) - (1 : Int))), SX.l .var vs, SX.l .str ss] [] (intP (K (IntKind.wrap .i64 ((↑(List.length l) : Int) - (1 : Int))))) []) (.ret (.tup [.i (Prod.fst (K (IntKind.wrap .i64 ((↑(List.length l) : Int) - (1 : Int))))), .i (Prod.snd (K (IntKind.wrap .i64 ((↑(List.length l) : Int) - (1 : Int)))))]) [])))) (by kernel_rfl) fun Γ => ?_
  refine ⟨fun h => ⟨by simp only [kindsM, h, cond_true, intP], rfl⟩, fun h => ?_⟩
  have h' : rightM l = true := by simpa using h
  obtain ⟨h32, t, ht, hq⟩ := right_tm h'
  have hk : kindsM l vs ss = t.kind vs ss := by rw [← hq]; exact kinds_flat vs ss ht (by rw [hq]; exact h32)
  have htp := t.flat_pos
  have ih := ref_of_tm l vs ss h32 t ht [] [] (by rw [List.nil_append, List.append_nil, hq])
  have e : ((([] : List Cell).length : Nat) : Int) + t.flat.length - 1 = IntKind.wrap .i64 ((l.length : Int) - 1) := by
    rw [hq] at htp ⊢
    rw [wrapI (by omega) (by omega)]; simp
  rw [e, ← hk] at ih
  exact ⟨ih, rfl, rfl⟩
def eRof : Nat × (List SX → List Chunk → Option (Option Prop × SV × List Chunk)) := (90, fun
  | [.c (.pd (.lst .cell l)), .c (.pd (.lst .var vs)), .c (.pd (.lst .str ss))], [] => some (none, intP (kindsM l vs ss), [])
  | _, _ => none)
theorem eRof_ok (vs : List SX) (ck : List Chunk) (p : Option Prop) (ret : SV) (ck' : List Chunk) (h : eRof.2 vs ck = some (p, ret, ck')) (hp : Holds p) : Does Tryz.prog eRof.1 vs ck ret ck' := by
  unfold eRof at h
  simp only at h
  split at h
  · rename_i l vs ss
    simp only [Option.some.injEq, Prod.mk.injEq] at h
    obtain ⟨rfl, rfl, rfl⟩ := h
    exact ref_kinds_spec l vs ss
  · simp at h
end Go.Proofs.YtcpnicfkpkonkaaGreatDoor

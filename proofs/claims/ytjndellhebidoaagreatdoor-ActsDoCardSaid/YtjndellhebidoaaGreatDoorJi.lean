/- Contracts: the document's values of lists. Conditions: values within int64. -/
import Derived.Test.YtjndellhebidoaaGreatDoorJh
namespace Go.Proofs.YtjndellhebidoaaGreatDoor
open Go Go.Ev
set_option maxRecDepth 100000
def eV (K : Int → Val × Int) : Nat × (List SX → List Chunk → Option (Option Prop × SV × List Chunk)) := (61, fun
  | [.c (.pd (.lst .cell l)), .c (.pd (.int .i64 e)), .c (.pd (.lst .var vs)), .c (.pd (.lst .val vals)), .c (.pd (.lst .str act))], [] => some (some (Does Tryz.prog 61 [SX.l .cell l, SX.i e, SX.l .var vs, SX.l .val vals, SX.l .str act] [] (rv (K e)) []), .tup [.agg [.pd (.int .i64 (K e).1.kind), .pd (.int .i64 (K e).1.a), .pd (.int .i64 (K e).1.b)], .c (.pd (.int .i64 (K e).2))], [])
  | _, _ => none)
def cfgV (K : Int → Val × Int) (B : Int → Int) : Cfg := ⟨tys0, [eRop, eFind, eHas, eRefTruth, eRefOne, eRefTwo, eV K, eB B]⟩
def cfgVO (K : Int → Val × Int) : Cfg := ⟨tys0, [eRright, eRefRight, eV K]⟩
theorem eV_ok {K : Int → Val × Int} (vs : List SX) (ck : List Chunk) (p : Option Prop) (ret : SV) (ck' : List Chunk) (h : (eV K).2 vs ck = some (p, ret, ck')) (hp : Holds p) : Does Tryz.prog (eV K).1 vs ck ret ck' := by
  unfold eV at h
  simp only at h
  split at h
  · simp only [Option.some.injEq, Prod.mk.injEq] at h
    obtain ⟨rfl, rfl, rfl⟩ := h
    exact hp
  · simp at h
theorem cfgV_ok {K : Int → Val × Int} {B : Int → Int} : TabOk Tryz.prog (cfgV K B).tab := TabOk.cons eRop_ok (TabOk.cons eFind_ok (TabOk.cons eHas_ok (TabOk.cons eRefTruth_ok (TabOk.cons eRefOne_ok (TabOk.cons eRefTwo_ok (TabOk.cons eV_ok (TabOk.cons eB_ok TabOk.nil)))))))
theorem cfgVO_ok {K : Int → Val × Int} : TabOk Tryz.prog (cfgVO K).tab := TabOk.cons eRright_ok (TabOk.cons eRefRight_ok (TabOk.cons eV_ok TabOk.nil))
theorem has_comm (act : List Str) (s : Str) : (act.any fun x => x == s) = act.any fun x => s == x := by
  congr 1; funext x; exact Bool.beq_comm
theorem ref_val_tm (l : List Cell) (vs : List Var) (vals : List Val) (act : List Str) (hl : l.length ≤ 32) (hlen : vs.length = vals.length) (hv : ∀ v ∈ vals, vOk v = true) : ∀ (t : Tm), t.ok → ∀ (pre post : List Cell), l = pre ++ t.flat ++ post →
      Does Tryz.prog 61 [.l .cell l, .i ((pre.length : Int) + t.flat.length - 1), .l .var vs, .l .val vals, .l .str act] [] (rv (t.val vs vals act)) []
  | .leaf c, h, pre, post, hq => by
    obtain ⟨he, hc⟩ := last_cell (front := []) (pre := pre) (post := post) (c := c) (l := l) (by rw [hq]; simp [Tm.flat])
    have e1 : (pre.length : Int) + ((Tm.leaf c).flat.length : Int) - 1 = ((pre.length + ([] : List Cell).length : Nat) : Int) := by simp [Tm.flat]
    rw [e1]
    generalize pre.length + ([] : List Cell).length = e at *
    let K : Int → Val × Int := fun _ => (Val.zero, 0)
    let B : Int → Int := fun _ => 0
    refine Does.go (cfg := (cfgV K B)) cfgV_ok Tryz.func61 (by kernel_rfl) (by kernel_rfl) (t := (.need ((0 : Int) ≤ (↑e : Int) ∧ (↑e : Int) < (↑(List.length l) : Int)) (.ite (wantsM (Cell.op (ETy.get .cell l e)) (Cell.a (ETy.get .cell l e)) (Cell.name (ETy.get .cell l e)) == (0 : Int)) (.ite (Cell.op (ETy.get .cell l e) == (1 : Int)) (.ret (.tup [.agg [.i (1 : Int), .i (Cell.a (ETy.get .cell l e)), .i (0 : Int)], .i (0 : Int)]) []) (.ite (Cell.op (ETy.get .cell l e) == (2 : Int)) (.ret (.tup [.agg [.i (3 : Int), .i (0 : Int), .i (Cell.a (ETy.get .cell l e))], .i (0 : Int)]) []) (.ite (Cell.op (ETy.get .cell l e) == (5 : Int)) (.ite (decide (firstAt (fun v => Var.name v == Cell.name (ETy.get .cell l e)) vs (0 : Int) < (0 : Int))) (.ret (.tup [.agg [.i (0 : Int), .i (0 : Int), .i (0 : Int)], .i (2 : Int)]) []) (.need ((0 : Int) ≤ firstAt (fun v => Var.name v == Cell.name (ETy.get .cell l e)) vs (0 : Int) ∧ firstAt (fun v => Var.name v == Cell.name (ETy.get .cell l e)) vs (0 : Int) < (↑(List.length vals) : Int)) (.ret (.tup [.agg [.i (Val.kind (ETy.get .val vals (Int.toNat (firstAt (fun v => Var.name v == Cell.name (ETy.get .cell l e)) vs (0 : Int))))), .i (Val.a (ETy.get .val vals (Int.toNat (firstAt (fun v => Var.name v == Cell.name (ETy.get .cell l e)) vs (0 : Int))))), .i (Val.b (ETy.get .val vals (Int.toNat (firstAt (fun v => Var.name v == Cell.name (ETy.get .cell l e)) vs (0 : Int)))))], .i (0 : Int)]) []))) (.ite (Cell.op (ETy.get .cell l e) == (6 : Int)) (.ret (.tup [.agg [.i (Val.kind (truthV (List.any act fun x => x == Cell.name (ETy.get .cell l e)))), .i (Val.a (truthV (List.any act fun x => x == Cell.name (ETy.get .cell l e)))), .i (Val.b (truthV (List.any act fun x => x == Cell.name (ETy.get .cell l e))))], .i (0 : Int)]) []) (.ret (.tup [.agg [.i (Val.kind (truthV (Cell.op (ETy.get .cell l e) == (3 : Int)))), .i (Val.a (truthV (Cell.op (ETy.get .cell l e) == (3 : Int)))), .i (Val.b (truthV (Cell.op (ETy.get .cell l e) == (3 : Int))))], .i (0 : Int)]) []))))) (.ite (wantsM (Cell.op (ETy.get .cell l e)) (Cell.a (ETy.get .cell l e)) (Cell.name (ETy.get .cell l e)) == (1 : Int)) (.need (Does Tryz.prog (61 : FuncId) [SX.l .cell l, SX.i (IntKind.wrap .i64 ((↑e : Int) - (1 : Int))), SX.l .var vs, SX.l .val vals, SX.l .str act] [] (rv (K (IntKind.wrap .i64 ((↑e : Int) - (1 : Int))))) []) (.ite (Prod.snd (K (IntKind.wrap .i64 ((↑e : Int) - (1 : Int)))) != (0 : Int)) (.ret (.tup [.agg [.i (0 : Int), .i (0 : Int), .i (0 : Int)], .i (Prod.snd (K (IntKind.wrap .i64 ((↑e : Int) - (1 : Int)))))]) []) (.need (((7 : Int) ≤ Cell.op (ETy.get .cell l e) ∧ Cell.op (ETy.get .cell l e) ≤ (10 : Int)) ∧ vOk { kind := Val.kind (Prod.fst (K (IntKind.wrap .i64 ((↑e : Int) - (1 : Int))))), a := Val.a (Prod.fst (K (IntKind.wrap .i64 ((↑e : Int) - (1 : Int))))), b := Val.b (Prod.fst (K (IntKind.wrap .i64 ((↑e : Int) - (1 : Int))))) } = true) (.ret (.tup [.agg [.i (Val.kind (Prod.fst (oneM (Cell.op (ETy.get .cell l e)) { kind := Val.kind (Prod.fst (K (IntKind.wrap .i64 ((↑e : Int) - (1 : Int))))), a := Val.a (Prod.fst (K (IntKind.wrap .i64 ((↑e : Int) - (1 : Int))))), b := Val.b (Prod.fst (K (IntKind.wrap .i64 ((↑e : Int) - (1 : Int))))) }))), .i (Val.a (Prod.fst (oneM (Cell.op (ETy.get .cell l e)) { kind := Val.kind (Prod.fst (K (IntKind.wrap .i64 ((↑e : Int) - (1 : Int))))), a := Val.a (Prod.fst (K (IntKind.wrap .i64 ((↑e : Int) - (1 : Int))))), b := Val.b (Prod.fst (K (IntKind.wrap .i64 ((↑e : Int) - (1 : Int))))) }))), .i (Val.b (Prod.fst (oneM (Cell.op (ETy.get .cell l e)) { kind := Val.kind (Prod.fst (K (IntKind.wrap .i64 ((↑e : Int) - (1 : Int))))), a := Val.a (Prod.fst (K (IntKind.wrap .i64 ((↑e : Int) - (1 : Int))))), b := Val.b (Prod.fst (K (IntKind.wrap .i64 ((↑e : Int) - (1 : Int))))) })))], .i (Prod.snd (oneM (Cell.op (ETy.get .cell l e)) { kind := Val.kind (Prod.fst (K (IntKind.wrap .i64 ((↑e : Int) - (1 : Int))))), a := Val.a (Prod.fst (K (IntKind.wrap .i64 ((↑e : Int) - (1 : Int))))), b := Val.b (Prod.fst (K (IntKind.wrap .i64 ((↑e : Int) - (1 : Int))))) }))]) [])))) (.need (Does Tryz.prog (99 : FuncId) [SX.l .cell l, SX.i (IntKind.wrap .i64 ((↑e : Int) - (1 : Int)))] [] (.x (SX.i (B (IntKind.wrap .i64 ((↑e : Int) - (1 : Int)))))) []) (.need (Does Tryz.prog (61 : FuncId) [SX.l .cell l, SX.i (IntKind.wrap .i64 (B (IntKind.wrap .i64 ((↑e : Int) - (1 : Int))) - (1 : Int))), SX.l .var vs, SX.l .val vals, SX.l .str act] [] (rv (K (IntKind.wrap .i64 (B (IntKind.wrap .i64 ((↑e : Int) - (1 : Int))) - (1 : Int))))) []) (.ite (Prod.snd (K (IntKind.wrap .i64 (B (IntKind.wrap .i64 ((↑e : Int) - (1 : Int))) - (1 : Int)))) != (0 : Int)) (.ret (.tup [.agg [.i (0 : Int), .i (0 : Int), .i (0 : Int)], .i (Prod.snd (K (IntKind.wrap .i64 (B (IntKind.wrap .i64 ((↑e : Int) - (1 : Int))) - (1 : Int)))))]) []) (.need (Does Tryz.prog (61 : FuncId) [SX.l .cell l, SX.i (IntKind.wrap .i64 ((↑e : Int) - (1 : Int))), SX.l .var vs, SX.l .val vals, SX.l .str act] [] (rv (K (IntKind.wrap .i64 ((↑e : Int) - (1 : Int))))) []) (.ite (Prod.snd (K (IntKind.wrap .i64 ((↑e : Int) - (1 : Int)))) != (0 : Int)) (.ret (.tup [.agg [.i (0 : Int), .i (0 : Int), .i (0 : Int)], .i (Prod.snd (K (IntKind.wrap .i64 ((↑e : Int) - (1 : Int)))))]) []) (.need (((11 : Int) ≤ Cell.op (ETy.get .cell l e) ∧ Cell.op (ETy.get .cell l e) ≤ (23 : Int)) ∧ vOk { kind := Val.kind (Prod.fst (K (IntKind.wrap .i64 (B (IntKind.wrap .i64 ((↑e : Int) - (1 : Int))) - (1 : Int))))), a := Val.a (Prod.fst (K (IntKind.wrap .i64 (B (IntKind.wrap .i64 ((↑e : Int) - (1 : Int))) - (1 : Int))))), b := Val.b (Prod.fst (K (IntKind.wrap .i64 (B (IntKind.wrap .i64 ((↑e : Int) - (1 : Int))) - (1 : Int))))) } = true ∧ vOk { kind := Val.kind (Prod.fst (K (IntKind.wrap .i64 ((↑e : Int) - (1 : Int))))), a := Val.a (Prod.fst (K (IntKind.wrap .i64 ((↑e : Int) - (1 : Int))))), b := Val.b (Prod.fst (K (IntKind.wrap .i64 ((↑e : Int) - (1 : Int))))) } = true) (.ret (.tup [.agg [.i (Val.kind (Prod.fst (twoM (Cell.op (ETy.get .cell l e)) { kind := Val.kind (Prod.fst (K (IntKind.wrap .i64 (B (IntKind.wrap .i64 ((↑e : Int) - (1 : Int))) - (1 : Int))))), a := Val.a (Prod.fst (K (IntKind.wrap .i64 (B (IntKind.wrap .i64 ((↑e : Int) - (1 : Int))) - (1 : Int))))), b := Val.b (Prod.fst (K (IntKind.wrap .i64 (B (IntKind.wrap .i64 ((↑e : Int) - (1 : Int))) - (1 : Int))))) } { kind := Val.kind (Prod.fst (K (IntKind.wrap .i64 ((↑e : Int) - (1 : Int))))), a := Val.a (Prod.fst (K (IntKind.wrap .i64 ((↑e : Int) - (1 : Int))))), b := Val.b (Prod.fst (K (IntKind.wrap .i64 ((↑e : Int) - (1 : Int))))) }))), .i (Val.a (Prod.fst (twoM (Cell.op (ETy.get .cell l e)) { kind := Val.kind (Prod.fst (K (IntKind.wrap .i64 (B (IntKind.wrap .i64 ((↑e : Int) - (1 : Int))) - (1 : Int))))), a := Val.a (Prod.fst (K (IntKind.wrap .i64 (B (IntKind.wrap .i64 ((↑e : Int) - (1 : Int))) - (1 : Int))))), b := Val.b (Prod.fst (K (IntKind.wrap .i64 (B (IntKind.wrap .i64 ((↑e : Int) - (1 : Int))) - (1 : Int))))) } { kind := Val.kind (Prod.fst (K (IntKind.wrap .i64 ((↑e : Int) - (1 : Int))))), a := Val.a (Prod.fst (K (IntKind.wrap .i64 ((↑e : Int) - (1 : Int))))), b := Val.b (Prod.fst (K (IntKind.wrap .i64 ((↑e : Int) - (1 : Int))))) }))), .i (Val.b (Prod.fst (twoM (Cell.op (ETy.get .cell l e)) { kind := Val.kind (Prod.fst (K (IntKind.wrap .i64 (B (IntKind.wrap .i64 ((↑e : Int) - (1 : Int))) - (1 : Int))))), a := Val.a (Prod.fst (K (IntKind.wrap .i64 (B (IntKind.wrap .i64 ((↑e : Int) - (1 : Int))) - (1 : Int))))), b := Val.b (Prod.fst (K (IntKind.wrap .i64 (B (IntKind.wrap .i64 ((↑e : Int) - (1 : Int))) - (1 : Int))))) } { kind := Val.kind (Prod.fst (K (IntKind.wrap .i64 ((↑e : Int) - (1 : Int))))), a := Val.a (Prod.fst (K (IntKind.wrap .i64 ((↑e : Int) - (1 : Int))))), b := Val.b (Prod.fst (K (IntKind.wrap .i64 ((↑e : Int) - (1 : Int))))) })))], .i (Prod.snd (twoM (Cell.op (ETy.get .cell l e)) { kind := Val.kind (Prod.fst (K (IntKind.wrap .i64 (B (IntKind.wrap .i64 ((↑e : Int) - (1 : Int))) - (1 : Int))))), a := Val.a (Prod.fst (K (IntKind.wrap .i64 (B (IntKind.wrap .i64 ((↑e : Int) - (1 : Int))) - (1 : Int))))), b := Val.b (Prod.fst (K (IntKind.wrap .i64 (B (IntKind.wrap .i64 ((↑e : Int) - (1 : Int))) - (1 : Int))))) } { kind := Val.kind (Prod.fst (K (IntKind.wrap .i64 ((↑e : Int) - (1 : Int))))), a := Val.a (Prod.fst (K (IntKind.wrap .i64 ((↑e : Int) - (1 : Int))))), b := Val.b (Prod.fst (K (IntKind.wrap .i64 ((↑e : Int) - (1 : Int))))) }))]) []))))))))))) (by kernel_rfl) fun Γ => ?_
    rw [hc]
    have hw : wantsM c.op c.a c.name = 0 := h
    have hlf := wants_leaf c h
    rw [hw]
    refine ⟨⟨by omega, by omega⟩, fun _ => ⟨fun g => ⟨congrArg rv (a₁ := (numV c.a, 0)) ?_, rfl⟩, fun n1 => ⟨fun g => ⟨congrArg rv (a₁ := (⟨3, 0, c.a⟩, 0)) ?_, rfl⟩, fun n2 => ⟨fun g => ⟨fun g2 => ⟨congrArg rv (a₁ := (Val.zero, 2)) ?_, rfl⟩, fun g2 => ⟨?_, congrArg rv (a₁ := (ETy.get .val vals (firstAt (fun v : Var => v.name == c.name) vs 0).toNat, 0)) ?_, rfl⟩⟩, fun n5 => ⟨fun g => ⟨congrArg rv (a₁ := (truthV (act.any fun x => x == c.name), 0)) ?_, rfl⟩, fun n6 => ⟨congrArg rv (a₁ := (truthV (c.op == 3), 0)) ?_, rfl⟩⟩⟩⟩⟩, fun h => Bool.noConfusion h⟩
    · have g : c.op = 1 := by simpa using g
      simp [Tm.val, evLeaf, g]
    · have g : c.op = 2 := by simpa using g
      simp [Tm.val, evLeaf, g]
    · have g : c.op = 5 := by simpa using g
      have g2 : firstAt (fun v : Var => v.name == c.name) vs 0 < 0 := of_decide_eq_true g2
      simp [Tm.val, evLeaf, g, g2]
    · have g2 : ¬ firstAt (fun v : Var => v.name == c.name) vs 0 < 0 := of_decide_eq_false g2
      show 0 ≤ firstAt (fun v : Var => v.name == c.name) vs 0 ∧ firstAt (fun v : Var => v.name == c.name) vs 0 < (vals.length : Int)
      rcases firstAt_find (fun v : Var => v.name == c.name) vs 0 with ⟨g1, _⟩ | ⟨j, x, g1, g3, _⟩
      · simp only [Int.natCast_zero] at g1
        rw [g1] at g2; omega
      · simp only [Int.natCast_zero, Nat.zero_add] at g1
        have hj := (List.getElem?_eq_some_iff.1 g3).1
        rw [g1]; omega
    · have g : c.op = 5 := by simpa using g
      have g2 : ¬ firstAt (fun v : Var => v.name == c.name) vs 0 < 0 := of_decide_eq_false g2
      simp [Tm.val, evLeaf, g, g2]
    · have g : c.op = 6 := by simpa using g
      simp [Tm.val, evLeaf, g, has_comm]
    · have m1 : c.op ≠ 1 := by simpa using n1
      have m2 : c.op ≠ 2 := by simpa using n2
      have m5 : c.op ≠ 5 := by simpa using n5
      have m6 : c.op ≠ 6 := by simpa using n6
      have m34 : c.op = 3 ∨ c.op = 4 := by omega
      simp [Tm.val, evLeaf, m1, m2, m34]
  | .un c t, ⟨hw, ht⟩, pre, post, hq => by
    obtain ⟨he, hc⟩ := last_cell (front := t.flat) (pre := pre) (post := post) (c := c) (l := l) hq
    have e1 : (pre.length : Int) + ((Tm.un c t).flat.length : Int) - 1 = ((pre.length + t.flat.length : Nat) : Int) := by simp only [Tm.flat, List.length_append, List.length_cons, List.length_nil]; omega
    rw [e1]
    have hop := wants_cases c (by omega)
    have hw' : wantsM c.op c.a c.name = 1 := hw
    have e2 : IntKind.wrap .i64 (((pre.length + t.flat.length : Nat) : Int) - 1) = (pre.length : Int) + t.flat.length - 1 := by
      have := t.flat_pos
      rw [wrapI (by omega) (by omega)]; omega
    have ih := ref_val_tm l vs vals act hl hlen hv t ht pre ([c] ++ post) (by rw [hq]; simp [Tm.flat])
    have hok := t.val_ok act hlen hv ht
    rw [← e2] at ih
    generalize pre.length + t.flat.length = e at *
    let K : Int → Val × Int := fun _ => t.val vs vals act
    let B : Int → Int := fun _ => 0
    refine Does.go (cfg := (cfgV K B)) cfgV_ok Tryz.func61 (by kernel_rfl) (by kernel_rfl) (t := (.need ((0 : Int) ≤ (↑e : Int) ∧ (↑e : Int) < (↑(List.length l) : Int)) (.ite (wantsM (Cell.op (ETy.get .cell l e)) (Cell.a (ETy.get .cell l e)) (Cell.name (ETy.get .cell l e)) == (0 : Int)) (.ite (Cell.op (ETy.get .cell l e) == (1 : Int)) (.ret (.tup [.agg [.i (1 : Int), .i (Cell.a (ETy.get .cell l e)), .i (0 : Int)], .i (0 : Int)]) []) (.ite (Cell.op (ETy.get .cell l e) == (2 : Int)) (.ret (.tup [.agg [.i (3 : Int), .i (0 : Int), .i (Cell.a (ETy.get .cell l e))], .i (0 : Int)]) []) (.ite (Cell.op (ETy.get .cell l e) == (5 : Int)) (.ite (decide (firstAt (fun v => Var.name v == Cell.name (ETy.get .cell l e)) vs (0 : Int) < (0 : Int))) (.ret (.tup [.agg [.i (0 : Int), .i (0 : Int), .i (0 : Int)], .i (2 : Int)]) []) (.need ((0 : Int) ≤ firstAt (fun v => Var.name v == Cell.name (ETy.get .cell l e)) vs (0 : Int) ∧ firstAt (fun v => Var.name v == Cell.name (ETy.get .cell l e)) vs (0 : Int) < (↑(List.length vals) : Int)) (.ret (.tup [.agg [.i (Val.kind (ETy.get .val vals (Int.toNat (firstAt (fun v => Var.name v == Cell.name (ETy.get .cell l e)) vs (0 : Int))))), .i (Val.a (ETy.get .val vals (Int.toNat (firstAt (fun v => Var.name v == Cell.name (ETy.get .cell l e)) vs (0 : Int))))), .i (Val.b (ETy.get .val vals (Int.toNat (firstAt (fun v => Var.name v == Cell.name (ETy.get .cell l e)) vs (0 : Int)))))], .i (0 : Int)]) []))) (.ite (Cell.op (ETy.get .cell l e) == (6 : Int)) (.ret (.tup [.agg [.i (Val.kind (truthV (List.any act fun x => x == Cell.name (ETy.get .cell l e)))), .i (Val.a (truthV (List.any act fun x => x == Cell.name (ETy.get .cell l e)))), .i (Val.b (truthV (List.any act fun x => x == Cell.name (ETy.get .cell l e))))], .i (0 : Int)]) []) (.ret (.tup [.agg [.i (Val.kind (truthV (Cell.op (ETy.get .cell l e) == (3 : Int)))), .i (Val.a (truthV (Cell.op (ETy.get .cell l e) == (3 : Int)))), .i (Val.b (truthV (Cell.op (ETy.get .cell l e) == (3 : Int))))], .i (0 : Int)]) []))))) (.ite (wantsM (Cell.op (ETy.get .cell l e)) (Cell.a (ETy.get .cell l e)) (Cell.name (ETy.get .cell l e)) == (1 : Int)) (.need (Does Tryz.prog (61 : FuncId) [SX.l .cell l, SX.i (IntKind.wrap .i64 ((↑e : Int) - (1 : Int))), SX.l .var vs, SX.l .val vals, SX.l .str act] [] (rv (K (IntKind.wrap .i64 ((↑e : Int) - (1 : Int))))) []) (.ite (Prod.snd (K (IntKind.wrap .i64 ((↑e : Int) - (1 : Int)))) != (0 : Int)) (.ret (.tup [.agg [.i (0 : Int), .i (0 : Int), .i (0 : Int)], .i (Prod.snd (K (IntKind.wrap .i64 ((↑e : Int) - (1 : Int)))))]) []) (.need (((7 : Int) ≤ Cell.op (ETy.get .cell l e) ∧ Cell.op (ETy.get .cell l e) ≤ (10 : Int)) ∧ vOk { kind := Val.kind (Prod.fst (K (IntKind.wrap .i64 ((↑e : Int) - (1 : Int))))), a := Val.a (Prod.fst (K (IntKind.wrap .i64 ((↑e : Int) - (1 : Int))))), b := Val.b (Prod.fst (K (IntKind.wrap .i64 ((↑e : Int) - (1 : Int))))) } = true) (.ret (.tup [.agg [.i (Val.kind (Prod.fst (oneM (Cell.op (ETy.get .cell l e)) { kind := Val.kind (Prod.fst (K (IntKind.wrap .i64 ((↑e : Int) - (1 : Int))))), a := Val.a (Prod.fst (K (IntKind.wrap .i64 ((↑e : Int) - (1 : Int))))), b := Val.b (Prod.fst (K (IntKind.wrap .i64 ((↑e : Int) - (1 : Int))))) }))), .i (Val.a (Prod.fst (oneM (Cell.op (ETy.get .cell l e)) { kind := Val.kind (Prod.fst (K (IntKind.wrap .i64 ((↑e : Int) - (1 : Int))))), a := Val.a (Prod.fst (K (IntKind.wrap .i64 ((↑e : Int) - (1 : Int))))), b := Val.b (Prod.fst (K (IntKind.wrap .i64 ((↑e : Int) - (1 : Int))))) }))), .i (Val.b (Prod.fst (oneM (Cell.op (ETy.get .cell l e)) { kind := Val.kind (Prod.fst (K (IntKind.wrap .i64 ((↑e : Int) - (1 : Int))))), a := Val.a (Prod.fst (K (IntKind.wrap .i64 ((↑e : Int) - (1 : Int))))), b := Val.b (Prod.fst (K (IntKind.wrap .i64 ((↑e : Int) - (1 : Int))))) })))], .i (Prod.snd (oneM (Cell.op (ETy.get .cell l e)) { kind := Val.kind (Prod.fst (K (IntKind.wrap .i64 ((↑e : Int) - (1 : Int))))), a := Val.a (Prod.fst (K (IntKind.wrap .i64 ((↑e : Int) - (1 : Int))))), b := Val.b (Prod.fst (K (IntKind.wrap .i64 ((↑e : Int) - (1 : Int))))) }))]) [])))) (.need (Does Tryz.prog (99 : FuncId) [SX.l .cell l, SX.i (IntKind.wrap .i64 ((↑e : Int) - (1 : Int)))] [] (.x (SX.i (B (IntKind.wrap .i64 ((↑e : Int) - (1 : Int)))))) []) (.need (Does Tryz.prog (61 : FuncId) [SX.l .cell l, SX.i (IntKind.wrap .i64 (B (IntKind.wrap .i64 ((↑e : Int) - (1 : Int))) - (1 : Int))), SX.l .var vs, SX.l .val vals, SX.l .str act] [] (rv (K (IntKind.wrap .i64 (B (IntKind.wrap .i64 ((↑e : Int) - (1 : Int))) - (1 : Int))))) []) (.ite (Prod.snd (K (IntKind.wrap .i64 (B (IntKind.wrap .i64 ((↑e : Int) - (1 : Int))) - (1 : Int)))) != (0 : Int)) (.ret (.tup [.agg [.i (0 : Int), .i (0 : Int), .i (0 : Int)], .i (Prod.snd (K (IntKind.wrap .i64 (B (IntKind.wrap .i64 ((↑e : Int) - (1 : Int))) - (1 : Int)))))]) []) (.need (Does Tryz.prog (61 : FuncId) [SX.l .cell l, SX.i (IntKind.wrap .i64 ((↑e : Int) - (1 : Int))), SX.l .var vs, SX.l .val vals, SX.l .str act] [] (rv (K (IntKind.wrap .i64 ((↑e : Int) - (1 : Int))))) []) (.ite (Prod.snd (K (IntKind.wrap .i64 ((↑e : Int) - (1 : Int)))) != (0 : Int)) (.ret (.tup [.agg [.i (0 : Int), .i (0 : Int), .i (0 : Int)], .i (Prod.snd (K (IntKind.wrap .i64 ((↑e : Int) - (1 : Int)))))]) []) (.need (((11 : Int) ≤ Cell.op (ETy.get .cell l e) ∧ Cell.op (ETy.get .cell l e) ≤ (23 : Int)) ∧ vOk { kind := Val.kind (Prod.fst (K (IntKind.wrap .i64 (B (IntKind.wrap .i64 ((↑e : Int) - (1 : Int))) - (1 : Int))))), a := Val.a (Prod.fst (K (IntKind.wrap .i64 (B (IntKind.wrap .i64 ((↑e : Int) - (1 : Int))) - (1 : Int))))), b := Val.b (Prod.fst (K (IntKind.wrap .i64 (B (IntKind.wrap .i64 ((↑e : Int) - (1 : Int))) - (1 : Int))))) } = true ∧ vOk { kind := Val.kind (Prod.fst (K (IntKind.wrap .i64 ((↑e : Int) - (1 : Int))))), a := Val.a (Prod.fst (K (IntKind.wrap .i64 ((↑e : Int) - (1 : Int))))), b := Val.b (Prod.fst (K (IntKind.wrap .i64 ((↑e : Int) - (1 : Int))))) } = true) (.ret (.tup [.agg [.i (Val.kind (Prod.fst (twoM (Cell.op (ETy.get .cell l e)) { kind := Val.kind (Prod.fst (K (IntKind.wrap .i64 (B (IntKind.wrap .i64 ((↑e : Int) - (1 : Int))) - (1 : Int))))), a := Val.a (Prod.fst (K (IntKind.wrap .i64 (B (IntKind.wrap .i64 ((↑e : Int) - (1 : Int))) - (1 : Int))))), b := Val.b (Prod.fst (K (IntKind.wrap .i64 (B (IntKind.wrap .i64 ((↑e : Int) - (1 : Int))) - (1 : Int))))) } { kind := Val.kind (Prod.fst (K (IntKind.wrap .i64 ((↑e : Int) - (1 : Int))))), a := Val.a (Prod.fst (K (IntKind.wrap .i64 ((↑e : Int) - (1 : Int))))), b := Val.b (Prod.fst (K (IntKind.wrap .i64 ((↑e : Int) - (1 : Int))))) }))), .i (Val.a (Prod.fst (twoM (Cell.op (ETy.get .cell l e)) { kind := Val.kind (Prod.fst (K (IntKind.wrap .i64 (B (IntKind.wrap .i64 ((↑e : Int) - (1 : Int))) - (1 : Int))))), a := Val.a (Prod.fst (K (IntKind.wrap .i64 (B (IntKind.wrap .i64 ((↑e : Int) - (1 : Int))) - (1 : Int))))), b := Val.b (Prod.fst (K (IntKind.wrap .i64 (B (IntKind.wrap .i64 ((↑e : Int) - (1 : Int))) - (1 : Int))))) } { kind := Val.kind (Prod.fst (K (IntKind.wrap .i64 ((↑e : Int) - (1 : Int))))), a := Val.a (Prod.fst (K (IntKind.wrap .i64 ((↑e : Int) - (1 : Int))))), b := Val.b (Prod.fst (K (IntKind.wrap .i64 ((↑e : Int) - (1 : Int))))) }))), .i (Val.b (Prod.fst (twoM (Cell.op (ETy.get .cell l e)) { kind := Val.kind (Prod.fst (K (IntKind.wrap .i64 (B (IntKind.wrap .i64 ((↑e : Int) - (1 : Int))) - (1 : Int))))), a := Val.a (Prod.fst (K (IntKind.wrap .i64 (B (IntKind.wrap .i64 ((↑e : Int) - (1 : Int))) - (1 : Int))))), b := Val.b (Prod.fst (K (IntKind.wrap .i64 (B (IntKind.wrap .i64 ((↑e : Int) - (1 : Int))) - (1 : Int))))) } { kind := Val.kind (Prod.fst (K (IntKind.wrap .i64 ((↑e : Int) - (1 : Int))))), a := Val.a (Prod.fst (K (IntKind.wrap .i64 ((↑e : Int) - (1 : Int))))), b := Val.b (Prod.fst (K (IntKind.wrap .i64 ((↑e : Int) - (1 : Int))))) })))], .i (Prod.snd (twoM (Cell.op (ETy.get .cell l e)) { kind := Val.kind (Prod.fst (K (IntKind.wrap .i64 (B (IntKind.wrap .i64 ((↑e : Int) - (1 : Int))) - (1 : Int))))), a := Val.a (Prod.fst (K (IntKind.wrap .i64 (B (IntKind.wrap .i64 ((↑e : Int) - (1 : Int))) - (1 : Int))))), b := Val.b (Prod.fst (K (IntKind.wrap .i64 (B (IntKind.wrap .i64 ((↑e : Int) - (1 : Int))) - (1 : Int))))) } { kind := Val.kind (Prod.fst (K (IntKind.wrap .i64 ((↑e : Int) - (1 : Int))))), a := Val.a (Prod.fst (K (IntKind.wrap .i64 ((↑e : Int) - (1 : Int))))), b := Val.b (Prod.fst (K (IntKind.wrap .i64 ((↑e : Int) - (1 : Int))))) }))]) []))))))))))) (by kernel_rfl) fun Γ => ?_
    rw [hc, hw']
    refine ⟨⟨by omega, by omega⟩, fun h => Bool.noConfusion h, fun _ => ⟨fun _ => ⟨ih, ?_⟩, fun h => Bool.noConfusion h⟩⟩
    simp only [Tm.val, K]
    generalize t.val vs vals act = r at *
    refine ⟨fun h => ⟨congrArg rv (a₁ := (Val.zero, r.2)) ?_, rfl⟩, fun h => ⟨⟨⟨by omega, by omega⟩, ?_⟩, congrArg rv (a₁ := oneM c.op r.1) ?_, rfl⟩⟩
    · have h' : r.2 ≠ 0 := by simpa using h
      rw [if_pos h']
    · exact hok (by simpa using h)
    · have h' : ¬ r.2 ≠ 0 := by simpa using h
      rw [if_neg h']
  | .bin c t u, ⟨hw, ht, hu⟩, pre, post, hq => by
    obtain ⟨he, hc⟩ := last_cell (front := t.flat ++ u.flat) (pre := pre) (post := post) (c := c) (l := l) hq
    have e1 : (pre.length : Int) + ((Tm.bin c t u).flat.length : Int) - 1 = ((pre.length + (t.flat ++ u.flat).length : Nat) : Int) := by simp only [Tm.flat, List.length_append, List.length_cons, List.length_nil]; omega
    rw [e1]
    have hop := wants_cases c (by omega)
    have hw' : wantsM c.op c.a c.name = 2 := hw
    have htp := t.flat_pos
    have hup := u.flat_pos
    have hq1 : l = pre ++ t.flat ++ (u.flat ++ [c] ++ post) := by rw [hq]; simp [Tm.flat]
    have hq2 : l = (pre ++ t.flat) ++ u.flat ++ ([c] ++ post) := by rw [hq]; simp [Tm.flat]
    have e2 : IntKind.wrap .i64 (((pre.length + (t.flat ++ u.flat).length : Nat) : Int) - 1) = ((pre ++ t.flat).length : Int) + u.flat.length - 1 := by
      simp only [List.length_append] at he ⊢
      rw [wrapI (by omega) (by omega)]; omega
    have e3 : IntKind.wrap .i64 (((pre ++ t.flat).length : Int) - 1) = (pre.length : Int) + t.flat.length - 1 := by
      simp only [List.length_append] at he ⊢
      rw [wrapI (by omega) (by omega)]; omega
    have ih1 := ref_val_tm l vs vals act hl hlen hv t ht pre (u.flat ++ [c] ++ post) hq1
    have ih2 := ref_val_tm l vs vals act hl hlen hv u hu (pre ++ t.flat) ([c] ++ post) hq2
    have hok1 := t.val_ok act hlen hv ht
    have hok2 := u.val_ok act hlen hv hu
    have hbeg := begin_spec l u hu (pre ++ t.flat) ([c] ++ post) hq2 hl
    have hne : IntKind.wrap .i64 (((pre ++ t.flat).length : Int) - 1) ≠ IntKind.wrap .i64 (((pre.length + (t.flat ++ u.flat).length : Nat) : Int) - 1) := by
      rw [e2, e3]; simp only [List.length_append]; omega
    rw [← e3] at ih1
    rw [← e2] at ih2 hbeg
    generalize pre.length + (t.flat ++ u.flat).length = e at *
    generalize (pre ++ t.flat).length = x at *
    let K : Int → Val × Int := fun i => if i = IntKind.wrap .i64 ((x : Int) - 1) then t.val vs vals act else u.val vs vals act
    let B : Int → Int := fun _ => (x : Int)
    have k1 : K (IntKind.wrap .i64 ((x : Int) - 1)) = t.val vs vals act := if_pos rfl
    have k2 : K (IntKind.wrap .i64 ((e : Int) - 1)) = u.val vs vals act := if_neg (Ne.symm hne)
    refine Does.go (cfg := (cfgV K B)) cfgV_ok Tryz.func61 (by kernel_rfl) (by kernel_rfl) (t := (.need ((0 : Int) ≤ (↑e : Int) ∧ (↑e : Int) < (↑(List.length l) : Int)) (.ite (wantsM (Cell.op (ETy.get .cell l e)) (Cell.a (ETy.get .cell l e)) (Cell.name (ETy.get .cell l e)) == (0 : Int)) (.ite (Cell.op (ETy.get .cell l e) == (1 : Int)) (.ret (.tup [.agg [.i (1 : Int), .i (Cell.a (ETy.get .cell l e)), .i (0 : Int)], .i (0 : Int)]) []) (.ite (Cell.op (ETy.get .cell l e) == (2 : Int)) (.ret (.tup [.agg [.i (3 : Int), .i (0 : Int), .i (Cell.a (ETy.get .cell l e))], .i (0 : Int)]) []) (.ite (Cell.op (ETy.get .cell l e) == (5 : Int)) (.ite (decide (firstAt (fun v => Var.name v == Cell.name (ETy.get .cell l e)) vs (0 : Int) < (0 : Int))) (.ret (.tup [.agg [.i (0 : Int), .i (0 : Int), .i (0 : Int)], .i (2 : Int)]) []) (.need ((0 : Int) ≤ firstAt (fun v => Var.name v == Cell.name (ETy.get .cell l e)) vs (0 : Int) ∧ firstAt (fun v => Var.name v == Cell.name (ETy.get .cell l e)) vs (0 : Int) < (↑(List.length vals) : Int)) (.ret (.tup [.agg [.i (Val.kind (ETy.get .val vals (Int.toNat (firstAt (fun v => Var.name v == Cell.name (ETy.get .cell l e)) vs (0 : Int))))), .i (Val.a (ETy.get .val vals (Int.toNat (firstAt (fun v => Var.name v == Cell.name (ETy.get .cell l e)) vs (0 : Int))))), .i (Val.b (ETy.get .val vals (Int.toNat (firstAt (fun v => Var.name v == Cell.name (ETy.get .cell l e)) vs (0 : Int)))))], .i (0 : Int)]) []))) (.ite (Cell.op (ETy.get .cell l e) == (6 : Int)) (.ret (.tup [.agg [.i (Val.kind (truthV (List.any act fun x => x == Cell.name (ETy.get .cell l e)))), .i (Val.a (truthV (List.any act fun x => x == Cell.name (ETy.get .cell l e)))), .i (Val.b (truthV (List.any act fun x => x == Cell.name (ETy.get .cell l e))))], .i (0 : Int)]) []) (.ret (.tup [.agg [.i (Val.kind (truthV (Cell.op (ETy.get .cell l e) == (3 : Int)))), .i (Val.a (truthV (Cell.op (ETy.get .cell l e) == (3 : Int)))), .i (Val.b (truthV (Cell.op (ETy.get .cell l e) == (3 : Int))))], .i (0 : Int)]) []))))) (.ite (wantsM (Cell.op (ETy.get .cell l e)) (Cell.a (ETy.get .cell l e)) (Cell.name (ETy.get .cell l e)) == (1 : Int)) (.need (Does Tryz.prog (61 : FuncId) [SX.l .cell l, SX.i (IntKind.wrap .i64 ((↑e : Int) - (1 : Int))), SX.l .var vs, SX.l .val vals, SX.l .str act] [] (rv (K (IntKind.wrap .i64 ((↑e : Int) - (1 : Int))))) []) (.ite (Prod.snd (K (IntKind.wrap .i64 ((↑e : Int) - (1 : Int)))) != (0 : Int)) (.ret (.tup [.agg [.i (0 : Int), .i (0 : Int), .i (0 : Int)], .i (Prod.snd (K (IntKind.wrap .i64 ((↑e : Int) - (1 : Int)))))]) []) (.need (((7 : Int) ≤ Cell.op (ETy.get .cell l e) ∧ Cell.op (ETy.get .cell l e) ≤ (10 : Int)) ∧ vOk { kind := Val.kind (Prod.fst (K (IntKind.wrap .i64 ((↑e : Int) - (1 : Int))))), a := Val.a (Prod.fst (K (IntKind.wrap .i64 ((↑e : Int) - (1 : Int))))), b := Val.b (Prod.fst (K (IntKind.wrap .i64 ((↑e : Int) - (1 : Int))))) } = true) (.ret (.tup [.agg [.i (Val.kind (Prod.fst (oneM (Cell.op (ETy.get .cell l e)) { kind := Val.kind (Prod.fst (K (IntKind.wrap .i64 ((↑e : Int) - (1 : Int))))), a := Val.a (Prod.fst (K (IntKind.wrap .i64 ((↑e : Int) - (1 : Int))))), b := Val.b (Prod.fst (K (IntKind.wrap .i64 ((↑e : Int) - (1 : Int))))) }))), .i (Val.a (Prod.fst (oneM (Cell.op (ETy.get .cell l e)) { kind := Val.kind (Prod.fst (K (IntKind.wrap .i64 ((↑e : Int) - (1 : Int))))), a := Val.a (Prod.fst (K (IntKind.wrap .i64 ((↑e : Int) - (1 : Int))))), b := Val.b (Prod.fst (K (IntKind.wrap .i64 ((↑e : Int) - (1 : Int))))) }))), .i (Val.b (Prod.fst (oneM (Cell.op (ETy.get .cell l e)) { kind := Val.kind (Prod.fst (K (IntKind.wrap .i64 ((↑e : Int) - (1 : Int))))), a := Val.a (Prod.fst (K (IntKind.wrap .i64 ((↑e : Int) - (1 : Int))))), b := Val.b (Prod.fst (K (IntKind.wrap .i64 ((↑e : Int) - (1 : Int))))) })))], .i (Prod.snd (oneM (Cell.op (ETy.get .cell l e)) { kind := Val.kind (Prod.fst (K (IntKind.wrap .i64 ((↑e : Int) - (1 : Int))))), a := Val.a (Prod.fst (K (IntKind.wrap .i64 ((↑e : Int) - (1 : Int))))), b := Val.b (Prod.fst (K (IntKind.wrap .i64 ((↑e : Int) - (1 : Int))))) }))]) [])))) (.need (Does Tryz.prog (99 : FuncId) [SX.l .cell l, SX.i (IntKind.wrap .i64 ((↑e : Int) - (1 : Int)))] [] (.x (SX.i (B (IntKind.wrap .i64 ((↑e : Int) - (1 : Int)))))) []) (.need (Does Tryz.prog (61 : FuncId) [SX.l .cell l, SX.i (IntKind.wrap .i64 (B (IntKind.wrap .i64 ((↑e : Int) - (1 : Int))) - (1 : Int))), SX.l .var vs, SX.l .val vals, SX.l .str act] [] (rv (K (IntKind.wrap .i64 (B (IntKind.wrap .i64 ((↑e : Int) - (1 : Int))) - (1 : Int))))) []) (.ite (Prod.snd (K (IntKind.wrap .i64 (B (IntKind.wrap .i64 ((↑e : Int) - (1 : Int))) - (1 : Int)))) != (0 : Int)) (.ret (.tup [.agg [.i (0 : Int), .i (0 : Int), .i (0 : Int)], .i (Prod.snd (K (IntKind.wrap .i64 (B (IntKind.wrap .i64 ((↑e : Int) - (1 : Int))) - (1 : Int)))))]) []) (.need (Does Tryz.prog (61 : FuncId) [SX.l .cell l, SX.i (IntKind.wrap .i64 ((↑e : Int) - (1 : Int))), SX.l .var vs, SX.l .val vals, SX.l .str act] [] (rv (K (IntKind.wrap .i64 ((↑e : Int) - (1 : Int))))) []) (.ite (Prod.snd (K (IntKind.wrap .i64 ((↑e : Int) - (1 : Int)))) != (0 : Int)) (.ret (.tup [.agg [.i (0 : Int), .i (0 : Int), .i (0 : Int)], .i (Prod.snd (K (IntKind.wrap .i64 ((↑e : Int) - (1 : Int)))))]) []) (.need (((11 : Int) ≤ Cell.op (ETy.get .cell l e) ∧ Cell.op (ETy.get .cell l e) ≤ (23 : Int)) ∧ vOk { kind := Val.kind (Prod.fst (K (IntKind.wrap .i64 (B (IntKind.wrap .i64 ((↑e : Int) - (1 : Int))) - (1 : Int))))), a := Val.a (Prod.fst (K (IntKind.wrap .i64 (B (IntKind.wrap .i64 ((↑e : Int) - (1 : Int))) - (1 : Int))))), b := Val.b (Prod.fst (K (IntKind.wrap .i64 (B (IntKind.wrap .i64 ((↑e : Int) - (1 : Int))) - (1 : Int))))) } = true ∧ vOk { kind := Val.kind (Prod.fst (K (IntKind.wrap .i64 ((↑e : Int) - (1 : Int))))), a := Val.a (Prod.fst (K (IntKind.wrap .i64 ((↑e : Int) - (1 : Int))))), b := Val.b (Prod.fst (K (IntKind.wrap .i64 ((↑e : Int) - (1 : Int))))) } = true) (.ret (.tup [.agg [.i (Val.kind (Prod.fst (twoM (Cell.op (ETy.get .cell l e)) { kind := Val.kind (Prod.fst (K (IntKind.wrap .i64 (B (IntKind.wrap .i64 ((↑e : Int) - (1 : Int))) - (1 : Int))))), a := Val.a (Prod.fst (K (IntKind.wrap .i64 (B (IntKind.wrap .i64 ((↑e : Int) - (1 : Int))) - (1 : Int))))), b := Val.b (Prod.fst (K (IntKind.wrap .i64 (B (IntKind.wrap .i64 ((↑e : Int) - (1 : Int))) - (1 : Int))))) } { kind := Val.kind (Prod.fst (K (IntKind.wrap .i64 ((↑e : Int) - (1 : Int))))), a := Val.a (Prod.fst (K (IntKind.wrap .i64 ((↑e : Int) - (1 : Int))))), b := Val.b (Prod.fst (K (IntKind.wrap .i64 ((↑e : Int) - (1 : Int))))) }))), .i (Val.a (Prod.fst (twoM (Cell.op (ETy.get .cell l e)) { kind := Val.kind (Prod.fst (K (IntKind.wrap .i64 (B (IntKind.wrap .i64 ((↑e : Int) - (1 : Int))) - (1 : Int))))), a := Val.a (Prod.fst (K (IntKind.wrap .i64 (B (IntKind.wrap .i64 ((↑e : Int) - (1 : Int))) - (1 : Int))))), b := Val.b (Prod.fst (K (IntKind.wrap .i64 (B (IntKind.wrap .i64 ((↑e : Int) - (1 : Int))) - (1 : Int))))) } { kind := Val.kind (Prod.fst (K (IntKind.wrap .i64 ((↑e : Int) - (1 : Int))))), a := Val.a (Prod.fst (K (IntKind.wrap .i64 ((↑e : Int) - (1 : Int))))), b := Val.b (Prod.fst (K (IntKind.wrap .i64 ((↑e : Int) - (1 : Int))))) }))), .i (Val.b (Prod.fst (twoM (Cell.op (ETy.get .cell l e)) { kind := Val.kind (Prod.fst (K (IntKind.wrap .i64 (B (IntKind.wrap .i64 ((↑e : Int) - (1 : Int))) - (1 : Int))))), a := Val.a (Prod.fst (K (IntKind.wrap .i64 (B (IntKind.wrap .i64 ((↑e : Int) - (1 : Int))) - (1 : Int))))), b := Val.b (Prod.fst (K (IntKind.wrap .i64 (B (IntKind.wrap .i64 ((↑e : Int) - (1 : Int))) - (1 : Int))))) } { kind := Val.kind (Prod.fst (K (IntKind.wrap .i64 ((↑e : Int) - (1 : Int))))), a := Val.a (Prod.fst (K (IntKind.wrap .i64 ((↑e : Int) - (1 : Int))))), b := Val.b (Prod.fst (K (IntKind.wrap .i64 ((↑e : Int) - (1 : Int))))) })))], .i (Prod.snd (twoM (Cell.op (ETy.get .cell l e)) { kind := Val.kind (Prod.fst (K (IntKind.wrap .i64 (B (IntKind.wrap .i64 ((↑e : Int) - (1 : Int))) - (1 : Int))))), a := Val.a (Prod.fst (K (IntKind.wrap .i64 (B (IntKind.wrap .i64 ((↑e : Int) - (1 : Int))) - (1 : Int))))), b := Val.b (Prod.fst (K (IntKind.wrap .i64 (B (IntKind.wrap .i64 ((↑e : Int) - (1 : Int))) - (1 : Int))))) } { kind := Val.kind (Prod.fst (K (IntKind.wrap .i64 ((↑e : Int) - (1 : Int))))), a := Val.a (Prod.fst (K (IntKind.wrap .i64 ((↑e : Int) - (1 : Int))))), b := Val.b (Prod.fst (K (IntKind.wrap .i64 ((↑e : Int) - (1 : Int))))) }))]) []))))))))))) (by kernel_rfl) fun Γ => ?_
    have hB : B (IntKind.wrap .i64 ((e : Int) - 1)) = (x : Int) := rfl
    rw [hc, hw', hB, k1, k2]
    have hop' : c.op ≤ 23 := wants_max c (by omega)
    refine ⟨⟨by omega, by omega⟩, fun h => Bool.noConfusion h, fun _ => ⟨fun h => Bool.noConfusion h, fun _ => ⟨hbeg, ih1, ?_⟩⟩⟩
    simp only [Tm.val]
    clear_value K B
    generalize t.val vs vals act = r at *
    generalize u.val vs vals act = r2 at *
    refine ⟨fun h => ⟨congrArg rv (a₁ := (Val.zero, r.2)) ?_, rfl⟩, fun h => ⟨ih2, fun h3 => ⟨congrArg rv (a₁ := (Val.zero, r2.2)) ?_, rfl⟩, fun h3 => ⟨⟨⟨by omega, hop'⟩, ?_, ?_⟩, congrArg rv (a₁ := twoM c.op r.1 r2.1) ?_, rfl⟩⟩⟩
    · have h' : r.2 ≠ 0 := by simpa using h
      rw [if_pos h']
    · have h' : ¬ r.2 ≠ 0 := by simpa using h
      have h3' : r2.2 ≠ 0 := by simpa using h3
      rw [if_neg h', if_pos h3']
    · exact hok1 (by simpa using h)
    · exact hok2 (by simpa using h3)
    · have h' : ¬ r.2 ≠ 0 := by simpa using h
      have h3' : ¬ r2.2 ≠ 0 := by simpa using h3
      rw [if_neg h', if_neg h3']

theorem ref_eval_loop (l : List Cell) (vs : List Var) (vals : List Val) (act : List Str) (Γ : Ctx) (hr : rightM l = true) (hlen : vs.length = vals.length) (hi : ∀ v ∈ vals, i64 v.a = true) (hml : vals.length ≤ maxLen) : ∀ (n k : Nat), vals.length - k ≤ n → k ≤ vals.length → (∀ v ∈ vals.take k, vR v = true) →
    J Tryz.prog 34 (bodyOf Tryz.f34) Γ (Eq2 (rv (evalM l vs vals act)) []) [.code [1, 1, 1, 0, 1, 0, 0], .inLoop [1, 1, 1, 0, 1, 0, 0], .inBlock 0, .code [1, 1, 1, 1]] ({ n := 44, fr := [(0, .p (.lst .cell l)), (1, .p (.lst .var vs)), (2, .p (.lst .val vals)), (3, .p (.lst .str act)), (8, .x (.c (.loc 0 0))), (9, .i (0 : Int)), (10, .i (k))], ck := [.cells [.i (0 : Int), .i (0 : Int), .i (0 : Int)] 49] }) := by
  let K : Int → Val × Int := fun _ => evalM l vs vals act
  intro n
  induction n with
  | zero => ?_
  | succ n ih => ?_
  all_goals
    intro k hn hk hall
    refine J.go (cfg := (cfgVO K)) cfgVO_ok Tryz.func34 1000 (t := (.ite (decide ((↑k : Int) < (↑(List.length vals) : Int))) (.need ((0 : Int) ≤ (↑k : Int) ∧ (↑k : Int) < (↑(List.length vals) : Int)) (.ite (!vR { kind := Val.kind (ETy.get .val vals k), a := Val.a (ETy.get .val vals k), b := Val.b (ETy.get .val vals k) }) (.ret (.tup [.agg [.i (0 : Int), .i (0 : Int), .i (0 : Int)], .i (12 : Int)]) []) (.stop [.code [1, 1, 1, 0, 1, 0, 0], .inLoop [1, 1, 1, 0, 1, 0, 0], .inBlock 0, .code [1, 1, 1, 1]] { n := 44, fr := [(0, .p (.lst .cell l)), (1, .p (.lst .var vs)), (2, .p (.lst .val vals)), (3, .p (.lst .str act)), (8, .x (.c (.loc 0 0))), (9, .i (0 : Int)), (10, .i (IntKind.wrap .i64 ((↑k : Int) + (1 : Int))))], ck := [.cells [.i (0 : Int), .i (0 : Int), .i (0 : Int)] 49] }))) (.need (Does Tryz.prog (61 : FuncId) [SX.l .cell l, SX.i (IntKind.wrap .i64 ((↑(List.length l) : Int) - (1 : Int))), SX.l .var vs, SX.l .val vals, SX.l .str act] [] (rv (K (IntKind.wrap .i64 ((↑(List.length l) : Int) - (1 : Int))))) []) (.ret (.tup [.agg [.i (Val.kind (Prod.fst (K (IntKind.wrap .i64 ((↑(List.length l) : Int) - (1 : Int)))))), .i (Val.a (Prod.fst (K (IntKind.wrap .i64 ((↑(List.length l) : Int) - (1 : Int)))))), .i (Val.b (Prod.fst (K (IntKind.wrap .i64 ((↑(List.length l) : Int) - (1 : Int))))))], .i (Prod.snd (K (IntKind.wrap .i64 ((↑(List.length l) : Int) - (1 : Int)))))]) [])))) (by kernel_rfl) ?_
    refine ⟨fun hlt => ?_, fun hge => ?_⟩
    · have hk' : k < vals.length := by have := of_decide_eq_true hlt; omega
      have hg : ETy.get .val vals k = vals[k] := ETy.get_eq (t := .val) (List.getElem?_eq_getElem hk')
      refine ⟨by omega, ?_⟩
      rw [hg]
      refine ⟨fun h => ⟨congrArg rv (a₁ := (Val.zero, 12)) ?_, rfl⟩, fun h => ?_⟩
      · have hb : worldBad vs vals = true := by
          have h' : (!vR vals[k]) = true := h
          simp only [worldBad, Bool.or_eq_true]
          exact .inr (List.any_eq_true.2 ⟨vals[k], List.getElem_mem hk', h'⟩)
        simp only [evalM, hr, hb, Bool.true_eq_false, if_false, if_true]
      · have h' : (!vR vals[k]) = false := h
        have h2 : vR vals[k] = true := by simpa using h'
        rw [wrapK (maxLen_lt hk' hml)]
        first
        | (exfalso; omega)
        | refine ih (k + 1) (by omega) (by omega) fun v hv => ?_
          rw [List.take_succ_eq_append_getElem hk'] at hv
          rcases List.mem_append.1 hv with hv | hv
          · exact hall v hv
          · simp at hv; rw [hv]; exact h2
    · have hk' : k = vals.length := by have := of_decide_eq_false hge; omega
      rw [hk', List.take_length] at hall
      have hv : ∀ v ∈ vals, vOk v = true := fun v hx => by simp [vOk, hall v hx, hi v hx]
      have hb : worldBad vs vals = false := by
        simp only [worldBad, Bool.or_eq_false_iff, bne_eq_false_iff_eq, List.any_eq_false, Bool.not_eq_true', Bool.not_eq_false]
        exact ⟨by omega, hall⟩
      obtain ⟨h32, t, ht, hq⟩ := right_tm hr
      have hk : evalM l vs vals act = t.val vs vals act := by rw [← hq]; exact eval_flat vs vals act ht (by rw [hq]; exact h32) hb
      have htp := t.flat_pos
      have ih := ref_val_tm l vs vals act h32 hlen hv t ht [] [] (by rw [List.nil_append, List.append_nil, hq])
      have e : ((([] : List Cell).length : Nat) : Int) + t.flat.length - 1 = IntKind.wrap .i64 ((l.length : Int) - 1) := by
        rw [hq] at htp ⊢
        rw [wrapI (by omega) (by omega)]; simp
      rw [e, ← hk] at ih
      exact ⟨ih, rfl, rfl⟩
theorem ref_eval_spec (l : List Cell) (vs : List Var) (vals : List Val) (act : List Str) (hi : ∀ v ∈ vals, i64 v.a = true) : Does Tryz.prog 34 [.l .cell l, .l .var vs, .l .val vals, .l .str act] [] (rv (evalM l vs vals act)) [] := by
  let K : Int → Val × Int := fun _ => evalM l vs vals act
  refine Does.go (cfg := (cfgVO K)) cfgVO_ok Tryz.func34 (by kernel_rfl) (by kernel_rfl) (t := (.ite (!rightM l) (.ret (.tup [.agg [.i (0 : Int), .i (0 : Int), .i (0 : Int)], .i (1 : Int)]) []) (.ite ((↑(List.length vs) : Int) != (↑(List.length vals) : Int)) (.ret (.tup [.agg [.i (0 : Int), .i (0 : Int), .i (0 : Int)], .i (12 : Int)]) []) (.stop [.code [1, 1, 1, 0, 1, 0, 0], .inLoop [1, 1, 1, 0, 1, 0, 0], .inBlock 0, .code [1, 1, 1, 1]] { n := 44, fr := [(0, .p (.lst .cell l)), (1, .p (.lst .var vs)), (2, .p (.lst .val vals)), (3, .p (.lst .str act)), (8, .x (.c (.loc 0 0))), (9, .i (0 : Int)), (10, .i (0 : Int))], ck := [.cells [.i (0 : Int), .i (0 : Int), .i (0 : Int)] 49] })))) (by kernel_rfl) fun Γ => ?_
  refine ⟨fun h => ⟨congrArg rv (a₁ := (Val.zero, 1)) ?_, rfl⟩, fun h => ⟨fun h2 => ⟨congrArg rv (a₁ := (Val.zero, 12)) ?_, rfl⟩, fun h2 => ?_⟩⟩
  · have h' : rightM l = false := by simpa using h
    simp only [evalM, h', if_true]
  · have h' : rightM l = true := by simpa using h
    have hb : worldBad vs vals = true := by simp only [worldBad, Bool.or_eq_true]; exact .inl h2
    simp only [evalM, h', hb, Bool.true_eq_false, if_false, if_true]
  · have h' : rightM l = true := by simpa using h
    have hlen : vs.length = vals.length := by
      have := of_decide_eq_true (p := (vs.length : Int) = (vals.length : Int)) (by simpa using h2)
      omega
    exact J.len 2 rfl fun hml => ref_eval_loop l vs vals act Γ h' hlen hi hml vals.length 0 (by omega) (by omega) (by simp)
def eRefEval : Nat × (List SX → List Chunk → Option (Option Prop × SV × List Chunk)) := (34, fun
  | [.c (.pd (.lst .cell l)), .c (.pd (.lst .var vs)), .c (.pd (.lst .val vals)), .c (.pd (.lst .str act))], [] => some (some (∀ v ∈ vals, i64 v.a = true), .tup [.agg [.pd (.int .i64 (evalM l vs vals act).1.kind), .pd (.int .i64 (evalM l vs vals act).1.a), .pd (.int .i64 (evalM l vs vals act).1.b)], .c (.pd (.int .i64 (evalM l vs vals act).2))], [])
  | _, _ => none)
theorem eRefEval_ok (vs : List SX) (ck : List Chunk) (p : Option Prop) (ret : SV) (ck' : List Chunk) (h : eRefEval.2 vs ck = some (p, ret, ck')) (hp : Holds p) : Does Tryz.prog eRefEval.1 vs ck ret ck' := by
  unfold eRefEval at h
  simp only at h
  split at h
  · rename_i l vs vals act
    simp only [Option.some.injEq, Prod.mk.injEq] at h
    obtain ⟨rfl, rfl, rfl⟩ := h
    exact ref_eval_spec l vs vals act hp
  · simp at h
end Go.Proofs.YtjndellhebidoaaGreatDoor

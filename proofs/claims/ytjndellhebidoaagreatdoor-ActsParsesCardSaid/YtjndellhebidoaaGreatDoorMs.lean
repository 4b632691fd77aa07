/- Contracts of the document's reader of expressions, whole; the law ExprParses. Conditions: none. -/
import Derived.Test.YtjndellhebidoaaGreatDoorMr
import Derived.Test.YtjndellhebidoaaGreatDoorMf
import Derived.Test.YtjndellhebidoaaGreatDoorOa
import Derived.Test.YtjndellhebidoaaGreatDoorUe
namespace Go.Proofs.YtjndellhebidoaaGreatDoor
open Go Go.Ev
set_option maxRecDepth 100000
def cfgXp : Cfg := ⟨tys0, [eXopd, eXbeh]⟩
theorem cfgXp_ok : TabOk Tryz.prog cfgXp.tab := (TabOk.cons eXopd_ok (TabOk.cons eXbeh_ok TabOk.nil))

abbrev PJ (s : Str) (Γ : Ctx) (Q : Out) (b pos : Int) (out : List Cell) (wt : List Wait) : Prop := J Tryz.prog 48 (bodyOf Tryz.f48) Γ Q [.code [1, 1, 1, 1, 0, 0, 0], .inLoop [1, 1, 1, 1, 0, 0, 0], .inBlock 0, .code [1, 1, 1, 1, 1]] ({ n := 45, fr := [(2, .p (.v (Value.slice none 0 0))), (3, .i (0 : Int)), (4, .i (0 : Int)), (5, .x (.c (.loc 0 0))), (6, .i (b))], ck := [.cells [.pd (.str s), SC.i (pos), .own 1, .own 2] 125, .own 88 .cell (out), .own 155 .wait (wt)] })
theorem step0 {s : Str} {pos : Int} {out : List Cell} {W : List Wait} {Γ : Ctx} {Q : Out} (hs : s.length ≤ 1048576) (h0 : 0 ≤ pos) (h1 : pos ≤ strLen s) (hl : out.length + W.length ≤ 1000000)
    (hbad : 0 ≤ (operandM s ⟨pos, out, W⟩).2.1 → Q (.tup [.c (.pd (.v (.slice none 0 0))), .i (operandM s ⟨pos, out, W⟩).2.1, .i 1]) [])
    (hon : (operandM s ⟨pos, out, W⟩).2.1 < 0 → PJ s Γ Q (if (operandM s ⟨pos, out, W⟩).2.2 = true then 1 else 0) (operandM s ⟨pos, out, W⟩).1.pos (operandM s ⟨pos, out, W⟩).1.out (operandM s ⟨pos, out, W⟩).1.wt.reverse) :
    PJ s Γ Q 0 pos out W.reverse := by
  generalize hW : W.reverse = wt
  refine J.go (cfg := cfgXp) cfgXp_ok Tryz.func48 1000 (t := (.ite true (.ite true (.need (List.length s ≤ 1048576 ∧ (0 : Int) ≤ pos ∧ pos ≤ strLen s ∧ List.length out ≤ 3000000 ∧ List.length wt ≤ 3000000) (.ite (Prod.snd (Prod.snd (operandM s { pos := pos, out := out, wt := List.reverse wt }))) (.ite (decide (Prod.fst (Prod.snd (operandM s { pos := pos, out := out, wt := List.reverse wt })) ≥ (0 : Int))) (.ret (.tup [.p (.v (Value.slice none 0 0)), .i (Prod.fst (Prod.snd (operandM s { pos := pos, out := out, wt := List.reverse wt }))), .i (1 : Int)]) []) (.stop [.code [1, 1, 1, 1, 0, 0, 0], .inLoop [1, 1, 1, 1, 0, 0, 0], .inBlock 0, .code [1, 1, 1, 1, 1]] { n := 45, fr := [(2, .p (.v (Value.slice none 0 0))), (3, .i (0 : Int)), (4, .i (0 : Int)), (5, .x (.c (.loc 0 0))), (6, .i (1 : Int))], ck := [.cells [.pd (.str s), .i (Mc.pos (Prod.fst (operandM s { pos := pos, out := out, wt := List.reverse wt }))), .own 1, .own 2] 125, .own 88 .cell (Mc.out (Prod.fst (operandM s { pos := pos, out := out, wt := List.reverse wt }))), .own 155 .wait (List.reverse (Mc.wt (Prod.fst (operandM s { pos := pos, out := out, wt := List.reverse wt }))))] })) (.ite (decide (Prod.fst (Prod.snd (operandM s { pos := pos, out := out, wt := List.reverse wt })) ≥ (0 : Int))) (.ret (.tup [.p (.v (Value.slice none 0 0)), .i (Prod.fst (Prod.snd (operandM s { pos := pos, out := out, wt := List.reverse wt }))), .i (1 : Int)]) []) (.stop [.code [1, 1, 1, 1, 0, 0, 0], .inLoop [1, 1, 1, 1, 0, 0, 0], .inBlock 0, .code [1, 1, 1, 1, 1]] { n := 45, fr := [(2, .p (.v (Value.slice none 0 0))), (3, .i (0 : Int)), (4, .i (0 : Int)), (5, .x (.c (.loc 0 0))), (6, .i (0 : Int))], ck := [.cells [.pd (.str s), .i (Mc.pos (Prod.fst (operandM s { pos := pos, out := out, wt := List.reverse wt }))), .own 1, .own 2] 125, .own 88 .cell (Mc.out (Prod.fst (operandM s { pos := pos, out := out, wt := List.reverse wt }))), .own 155 .wait (List.reverse (Mc.wt (Prod.fst (operandM s { pos := pos, out := out, wt := List.reverse wt }))))] })))) (.need (List.length s ≤ 1048576 ∧ (0 : Int) ≤ pos ∧ pos ≤ strLen s ∧ List.length out + List.length wt ≤ 1000000) (.ite (decide (Prod.fst (Prod.snd (behindM s { pos := pos, out := out, wt := List.reverse wt })) ≥ (0 : Int))) (.ret (.tup [.p (.v (Value.slice none 0 0)), .i (Prod.fst (Prod.snd (behindM s { pos := pos, out := out, wt := List.reverse wt }))), .i (1 : Int)]) []) (.stop [.code [1, 1, 1, 1, 0, 0, 0], .inLoop [1, 1, 1, 1, 0, 0, 0], .inBlock 0, .code [1, 1, 1, 1, 1]] { n := 45, fr := [(2, .p (.v (Value.slice none 0 0))), (3, .i (0 : Int)), (4, .i (0 : Int)), (5, .x (.c (.loc 0 0))), (6, .i (Prod.snd (Prod.snd (behindM s { pos := pos, out := out, wt := List.reverse wt }))))], ck := [.cells [.pd (.str s), .i (Mc.pos (Prod.fst (behindM s { pos := pos, out := out, wt := List.reverse wt }))), .own 1, .own 2] 125, .own 88 .cell (Mc.out (Prod.fst (behindM s { pos := pos, out := out, wt := List.reverse wt }))), .own 155 .wait (List.reverse (Mc.wt (Prod.fst (behindM s { pos := pos, out := out, wt := List.reverse wt }))))] })))) (.ite (decide ((↑(List.length out) : Int) > (32 : Int))) (.ret (.tup [.p (.v (Value.slice none 0 0)), .i (0 : Int), .i (4 : Int)]) []) (.ret (.tup [.c (.own 0), .i (0 : Int), .i (0 : Int)]) [.own 88 .cell out])))) (by kernel_rfl) ?_
  subst hW
  rw [List.reverse_reverse]
  generalize operandM s ⟨pos, out, W⟩ = o at *
  refine ⟨fun _ => ⟨fun _ => ⟨⟨hs, h0, h1, by omega, by rw [List.length_reverse]; omega⟩, fun he => ⟨fun hk => hbad (of_decide_eq_true hk), fun hk => ?_⟩, fun he => ⟨fun hk => hbad (of_decide_eq_true hk), fun hk => ?_⟩⟩, fun h => Bool.noConfusion h⟩, fun h => Bool.noConfusion h⟩
  · have := hon (by have := of_decide_eq_false hk; omega)
    rw [if_pos he] at this; exact this
  · have := hon (by have := of_decide_eq_false hk; omega)
    rw [if_neg (by rw [he]; simp)] at this; exact this
theorem step1 {s : Str} {pos : Int} {out : List Cell} {W : List Wait} {Γ : Ctx} {Q : Out} (hs : s.length ≤ 1048576) (h0 : 0 ≤ pos) (h1 : pos ≤ strLen s) (hl : out.length + W.length ≤ 1000000)
    (hbad : 0 ≤ (behindM s ⟨pos, out, W⟩).2.1 → Q (.tup [.c (.pd (.v (.slice none 0 0))), .i (behindM s ⟨pos, out, W⟩).2.1, .i 1]) [])
    (hon : (behindM s ⟨pos, out, W⟩).2.1 < 0 → PJ s Γ Q (behindM s ⟨pos, out, W⟩).2.2 (behindM s ⟨pos, out, W⟩).1.pos (behindM s ⟨pos, out, W⟩).1.out (behindM s ⟨pos, out, W⟩).1.wt.reverse) :
    PJ s Γ Q 1 pos out W.reverse := by
  generalize hW : W.reverse = wt
  refine J.go (cfg := cfgXp) cfgXp_ok Tryz.func48 1000 (t := (.ite true (.ite false (.need (List.length s ≤ 1048576 ∧ (0 : Int) ≤ pos ∧ pos ≤ strLen s ∧ List.length out ≤ 3000000 ∧ List.length wt ≤ 3000000) (.ite (Prod.snd (Prod.snd (operandM s { pos := pos, out := out, wt := List.reverse wt }))) (.ite (decide (Prod.fst (Prod.snd (operandM s { pos := pos, out := out, wt := List.reverse wt })) ≥ (0 : Int))) (.ret (.tup [.p (.v (Value.slice none 0 0)), .i (Prod.fst (Prod.snd (operandM s { pos := pos, out := out, wt := List.reverse wt }))), .i (1 : Int)]) []) (.stop [.code [1, 1, 1, 1, 0, 0, 0], .inLoop [1, 1, 1, 1, 0, 0, 0], .inBlock 0, .code [1, 1, 1, 1, 1]] { n := 45, fr := [(2, .p (.v (Value.slice none 0 0))), (3, .i (0 : Int)), (4, .i (0 : Int)), (5, .x (.c (.loc 0 0))), (6, .i (1 : Int))], ck := [.cells [.pd (.str s), .i (Mc.pos (Prod.fst (operandM s { pos := pos, out := out, wt := List.reverse wt }))), .own 1, .own 2] 125, .own 88 .cell (Mc.out (Prod.fst (operandM s { pos := pos, out := out, wt := List.reverse wt }))), .own 155 .wait (List.reverse (Mc.wt (Prod.fst (operandM s { pos := pos, out := out, wt := List.reverse wt }))))] })) (.ite (decide (Prod.fst (Prod.snd (operandM s { pos := pos, out := out, wt := List.reverse wt })) ≥ (0 : Int))) (.ret (.tup [.p (.v (Value.slice none 0 0)), .i (Prod.fst (Prod.snd (operandM s { pos := pos, out := out, wt := List.reverse wt }))), .i (1 : Int)]) []) (.stop [.code [1, 1, 1, 1, 0, 0, 0], .inLoop [1, 1, 1, 1, 0, 0, 0], .inBlock 0, .code [1, 1, 1, 1, 1]] { n := 45, fr := [(2, .p (.v (Value.slice none 0 0))), (3, .i (0 : Int)), (4, .i (0 : Int)), (5, .x (.c (.loc 0 0))), (6, .i (1 : Int))], ck := [.cells [.pd (.str s), .i (Mc.pos (Prod.fst (operandM s { pos := pos, out := out, wt := List.reverse wt }))), .own 1, .own 2] 125, .own 88 .cell (Mc.out (Prod.fst (operandM s { pos := pos, out := out, wt := List.reverse wt }))), .own 155 .wait (List.reverse (Mc.wt (Prod.fst (operandM s { pos := pos, out := out, wt := List.reverse wt }))))] })))) (.need (List.length s ≤ 1048576 ∧ (0 : Int) ≤ pos ∧ pos ≤ strLen s ∧ List.length out + List.length wt ≤ 1000000) (.ite (decide (Prod.fst (Prod.snd (behindM s { pos := pos, out := out, wt := List.reverse wt })) ≥ (0 : Int))) (.ret (.tup [.p (.v (Value.slice none 0 0)), .i (Prod.fst (Prod.snd (behindM s { pos := pos, out := out, wt := List.reverse wt }))), .i (1 : Int)]) []) (.stop [.code [1, 1, 1, 1, 0, 0, 0], .inLoop [1, 1, 1, 1, 0, 0, 0], .inBlock 0, .code [1, 1, 1, 1, 1]] { n := 45, fr := [(2, .p (.v (Value.slice none 0 0))), (3, .i (0 : Int)), (4, .i (0 : Int)), (5, .x (.c (.loc 0 0))), (6, .i (Prod.snd (Prod.snd (behindM s { pos := pos, out := out, wt := List.reverse wt }))))], ck := [.cells [.pd (.str s), .i (Mc.pos (Prod.fst (behindM s { pos := pos, out := out, wt := List.reverse wt }))), .own 1, .own 2] 125, .own 88 .cell (Mc.out (Prod.fst (behindM s { pos := pos, out := out, wt := List.reverse wt }))), .own 155 .wait (List.reverse (Mc.wt (Prod.fst (behindM s { pos := pos, out := out, wt := List.reverse wt }))))] })))) (.ite (decide ((↑(List.length out) : Int) > (32 : Int))) (.ret (.tup [.p (.v (Value.slice none 0 0)), .i (0 : Int), .i (4 : Int)]) []) (.ret (.tup [.c (.own 0), .i (0 : Int), .i (0 : Int)]) [.own 88 .cell out])))) (by kernel_rfl) ?_
  subst hW
  rw [List.reverse_reverse]
  generalize behindM s ⟨pos, out, W⟩ = o at *
  exact ⟨fun _ => ⟨fun h => Bool.noConfusion h, fun _ => ⟨⟨hs, h0, h1, by rw [List.length_reverse]; omega⟩, fun hk => hbad (of_decide_eq_true hk), fun hk => hon (by have := of_decide_eq_false hk; omega)⟩⟩, fun h => Bool.noConfusion h⟩
theorem step2 {s : Str} {pos : Int} {out : List Cell} {wt : List Wait} {Γ : Ctx} {Q : Out} (hbig : (out.length : Int) > 32 → Q (.tup [.c (.pd (.v (.slice none 0 0))), .i 0, .i 4]) []) (hok : ¬ (out.length : Int) > 32 → Q (.tup [.c (.own 0), .i 0, .i 0]) [.own 88 .cell out]) : PJ s Γ Q 2 pos out wt := by
  refine J.go (cfg := cfgXp) cfgXp_ok Tryz.func48 1000 (t := (.ite false (.ite false (.need (List.length s ≤ 1048576 ∧ (0 : Int) ≤ pos ∧ pos ≤ strLen s ∧ List.length out ≤ 3000000 ∧ List.length wt ≤ 3000000) (.ite (Prod.snd (Prod.snd (operandM s { pos := pos, out := out, wt := List.reverse wt }))) (.ite (decide (Prod.fst (Prod.snd (operandM s { pos := pos, out := out, wt := List.reverse wt })) ≥ (0 : Int))) (.ret (.tup [.p (.v (Value.slice none 0 0)), .i (Prod.fst (Prod.snd (operandM s { pos := pos, out := out, wt := List.reverse wt }))), .i (1 : Int)]) []) (.stop [.code [1, 1, 1, 1, 0, 0, 0], .inLoop [1, 1, 1, 1, 0, 0, 0], .inBlock 0, .code [1, 1, 1, 1, 1]] { n := 45, fr := [(2, .p (.v (Value.slice none 0 0))), (3, .i (0 : Int)), (4, .i (0 : Int)), (5, .x (.c (.loc 0 0))), (6, .i (1 : Int))], ck := [.cells [.pd (.str s), .i (Mc.pos (Prod.fst (operandM s { pos := pos, out := out, wt := List.reverse wt }))), .own 1, .own 2] 125, .own 88 .cell (Mc.out (Prod.fst (operandM s { pos := pos, out := out, wt := List.reverse wt }))), .own 155 .wait (List.reverse (Mc.wt (Prod.fst (operandM s { pos := pos, out := out, wt := List.reverse wt }))))] })) (.ite (decide (Prod.fst (Prod.snd (operandM s { pos := pos, out := out, wt := List.reverse wt })) ≥ (0 : Int))) (.ret (.tup [.p (.v (Value.slice none 0 0)), .i (Prod.fst (Prod.snd (operandM s { pos := pos, out := out, wt := List.reverse wt }))), .i (1 : Int)]) []) (.stop [.code [1, 1, 1, 1, 0, 0, 0], .inLoop [1, 1, 1, 1, 0, 0, 0], .inBlock 0, .code [1, 1, 1, 1, 1]] { n := 45, fr := [(2, .p (.v (Value.slice none 0 0))), (3, .i (0 : Int)), (4, .i (0 : Int)), (5, .x (.c (.loc 0 0))), (6, .i (2 : Int))], ck := [.cells [.pd (.str s), .i (Mc.pos (Prod.fst (operandM s { pos := pos, out := out, wt := List.reverse wt }))), .own 1, .own 2] 125, .own 88 .cell (Mc.out (Prod.fst (operandM s { pos := pos, out := out, wt := List.reverse wt }))), .own 155 .wait (List.reverse (Mc.wt (Prod.fst (operandM s { pos := pos, out := out, wt := List.reverse wt }))))] })))) (.need (List.length s ≤ 1048576 ∧ (0 : Int) ≤ pos ∧ pos ≤ strLen s ∧ List.length out + List.length wt ≤ 1000000) (.ite (decide (Prod.fst (Prod.snd (behindM s { pos := pos, out := out, wt := List.reverse wt })) ≥ (0 : Int))) (.ret (.tup [.p (.v (Value.slice none 0 0)), .i (Prod.fst (Prod.snd (behindM s { pos := pos, out := out, wt := List.reverse wt }))), .i (1 : Int)]) []) (.stop [.code [1, 1, 1, 1, 0, 0, 0], .inLoop [1, 1, 1, 1, 0, 0, 0], .inBlock 0, .code [1, 1, 1, 1, 1]] { n := 45, fr := [(2, .p (.v (Value.slice none 0 0))), (3, .i (0 : Int)), (4, .i (0 : Int)), (5, .x (.c (.loc 0 0))), (6, .i (Prod.snd (Prod.snd (behindM s { pos := pos, out := out, wt := List.reverse wt }))))], ck := [.cells [.pd (.str s), .i (Mc.pos (Prod.fst (behindM s { pos := pos, out := out, wt := List.reverse wt }))), .own 1, .own 2] 125, .own 88 .cell (Mc.out (Prod.fst (behindM s { pos := pos, out := out, wt := List.reverse wt }))), .own 155 .wait (List.reverse (Mc.wt (Prod.fst (behindM s { pos := pos, out := out, wt := List.reverse wt }))))] })))) (.ite (decide ((↑(List.length out) : Int) > (32 : Int))) (.ret (.tup [.p (.v (Value.slice none 0 0)), .i (0 : Int), .i (4 : Int)]) []) (.ret (.tup [.c (.own 0), .i (0 : Int), .i (0 : Int)]) [.own 88 .cell out])))) (by kernel_rfl) ?_
  exact ⟨fun h => Bool.noConfusion h, fun _ => ⟨fun h => hbig (of_decide_eq_true h), fun h => hok (of_decide_eq_false h)⟩⟩
/-! ### bounds -/
structure Inv (s : Str) (m : Mc) : Prop where
  low : 0 ≤ m.pos
  high : m.pos ≤ strLen s
  few : (m.out.length : Int) + m.wt.length ≤ m.pos
variable {s : Str}
theorem opd_inv {m m' : Mc} {e : Bool} (h : operandM s m = (m', -1, e)) (hi : Inv s m) : Inv s m' := by
  obtain ⟨h0, h1, h2⟩ := hi
  have hok : Ok s ⟨m.pos, m.out, -1⟩ := ⟨rfl, h0, h1⟩
  have one : ∀ (k : Int) (w : Wait), 1 ≤ k → m.pos + k ≤ strLen s → Inv s ⟨m.pos + k, m.out, w :: m.wt⟩ := by
    intro k w g1 g2
    refine ⟨by show 0 ≤ m.pos + k; omega, g2, ?_⟩
    show (m.out.length : Int) + ((w :: m.wt).length : Nat) ≤ m.pos + k
    simp only [List.length_cons]; omega
  cases hh : headM s m.pos with
  | fin =>
    rw [opd_fin hh] at h
    simp only [Prod.mk.injEq] at h
    have := h.2.1; omega
  | pre op =>
    have hlt := hok.lt (fun x e => by have e' : headM s m.pos = x := e; rw [hh] at e'; subst e'; simp)
    rw [opd_pre hh] at h
    simp only [Prod.mk.injEq] at h
    rw [← h.1]; exact one 1 _ (by omega) (by have : m.pos < strLen s := hlt; omega)
  | par =>
    have hlt := hok.lt (fun x e => by have e' : headM s m.pos = x := e; rw [hh] at e'; subst e'; simp)
    rw [opd_par hh] at h
    simp only [Prod.mk.injEq] at h
    rw [← h.1]; exact one 1 _ (by omega) (by have : m.pos < strLen s := hlt; omega)
  | call op =>
    obtain ⟨_, _, _, _, _, _, hlt⟩ := callS hh
    rw [opd_call hh] at h
    simp only [Prod.mk.injEq] at h
    rw [← h.1]; exact one 3 _ (by omega) hlt
  | leaf =>
    have hlt := hok.lt (fun x e => by have e' : headM s m.pos = x := e; rw [hh] at e'; subst e'; simp)
    have hll := leaf_left hok hlt
    by_cases hb : (leafR s ⟨m.pos, m.out, -1⟩).bad < 0
    · rw [opd_ok hh rfl hb] at h
      simp only [Prod.mk.injEq] at h
      rw [← h.1]
      rcases hll with ⟨g1, g2, g3⟩ | ⟨_, g2, _⟩
      · refine ⟨g1.low, g1.high, ?_⟩
        show ((leafR s ⟨m.pos, m.out, -1⟩).out.length : Int) + m.wt.length ≤ (leafR s ⟨m.pos, m.out, -1⟩).pos
        have g3' : ((leafR s ⟨m.pos, m.out, -1⟩).out.length : Int) ≤ m.out.length + ((leafR s ⟨m.pos, m.out, -1⟩).pos - m.pos) := g3
        omega
      · omega
    · rw [opd_bad hh rfl (by omega) rfl] at h
      simp only [Prod.mk.injEq] at h
      have := h.2.1; omega
theorem flush_len (m : Mc) (p : Int) : (m.flush p).out.length + (m.flush p).wt.length = m.out.length + m.wt.length := by
  have h := rest_len p m.wt
  show (m.out ++ cellsOf (flushL p m.wt)).length + (restL p m.wt).length = _
  rw [List.length_append]
  have : (cellsOf (flushL p m.wt)).length = (flushL p m.wt).length := List.length_map _
  omega
theorem beh_inv {m m' : Mc} {n : Int} (h : behindM s m = (m', -1, n)) (hi : Inv s m) : Inv s m' := by
  obtain ⟨h0, h1, h2⟩ := hi
  unfold behindM at h
  split at h
  · have hf := flush_len m 1
    split at h
    · simp only [Prod.mk.injEq] at h
      rw [← h.1]
      exact ⟨h0, h1, by show _ ≤ m.pos; omega⟩
    · simp only [Prod.mk.injEq] at h
      have := h.2.1; omega
  · rename_i hne
    split at h
    · have hf := flush_len m 1
      split at h
      · simp only [Prod.mk.injEq] at h
        have := h.2.1; omega
      · rename_i w l hw
        simp only [Prod.mk.injEq] at h
        rw [← h.1]
        rw [hw] at hf
        simp only [List.length_cons] at hf
        refine ⟨by show 0 ≤ m.pos + 1; omega, by show m.pos + 1 ≤ _; omega, ?_⟩
        show (((if w.op = 0 then (m.flush 1).out else (m.flush 1).out ++ [⟨w.op, 0, []⟩] : List Cell).length : Nat) : Int) + l.length ≤ m.pos + 1
        split
        · omega
        · rw [List.length_append]; simp only [List.length_cons, List.length_nil]; omega
    · simp only at h
      rcases ahead_facts (s.drop m.pos.toNat) with e | ⟨_, _, g3, g4, _, _, _⟩
      · rw [if_pos (by rw [e])] at h
        simp only [Prod.mk.injEq] at h
        have := h.2.1; omega
      · have hlen : strLen (s.drop m.pos.toNat) = strLen s - m.pos := by simp only [strLen, List.length_drop] at *; omega
        split at h
        · simp only [Prod.mk.injEq] at h
          have := h.2.1; omega
        · split at h
          · simp only [Prod.mk.injEq] at h
            have := h.2.1; omega
          · simp only [Prod.mk.injEq] at h
            rw [← h.1]
            have hf := flush_len m (signM (opAhead (s.drop m.pos.toNat)).1).2
            refine ⟨by show 0 ≤ m.pos + _; omega, by show m.pos + _ ≤ _; omega, ?_⟩
            show (((m.flush (signM (opAhead (s.drop m.pos.toNat)).1).2).out.length : Nat) : Int) + ((_ :: (m.flush (signM (opAhead (s.drop m.pos.toNat)).1).2).wt).length : Nat) ≤ m.pos + (opAhead (s.drop m.pos.toNat)).2
            simp only [List.length_cons]; omega
/-! ### the whole -/
def ResQ : Res → Out
  | .ok out => fun v ck => if (out.length : Int) > 32 then v = .tup [.c (.pd (.v (.slice none 0 0))), .i 0, .i 4] ∧ ck = [] else v = .tup [.c (.own 0), .i 0, .i 0] ∧ ck = [.own 88 .cell out]
  | .bad k => fun v ck => v = .tup [.c (.pd (.v (.slice none 0 0))), .i k, .i 1] ∧ ck = []
theorem goes_walk (hs : s.length ≤ 600000) (Γ : Ctx) {b : Bool} {m : Mc} {x : Res} (h : Goes s b m x) : Inv s m → PJ s Γ (ResQ x) (if b = true then 1 else 0) m.pos m.out m.wt.reverse := by
  have hL : strLen s = (s.length : Int) := rfl
  induction h with
  | @opBad m m' k e he hk =>
    intro hi
    have hh := hi.high; have hf := hi.few
    refine step0 (W := m.wt) (by omega) hi.low hi.high (by omega) (fun _ => ?_) (fun h => ?_)
    · rw [show operandM s ⟨m.pos, m.out, m.wt⟩ = (m', k, e) from he]; exact ⟨rfl, rfl⟩
    · rw [show operandM s ⟨m.pos, m.out, m.wt⟩ = (m', k, e) from he] at h
      have : k < 0 := h; omega
  | @opOn m m' e x he hg ih =>
    intro hi
    have hh := hi.high; have hf := hi.few
    refine step0 (W := m.wt) (by omega) hi.low hi.high (by omega) (fun h => ?_) (fun _ => ?_)
    · rw [show operandM s ⟨m.pos, m.out, m.wt⟩ = (m', -1, e) from he] at h
      have : (0 : Int) ≤ -1 := h; omega
    · rw [show operandM s ⟨m.pos, m.out, m.wt⟩ = (m', -1, e) from he]; exact ih (opd_inv he hi)
  | @beBad m m' k n he hk =>
    intro hi
    have hh := hi.high; have hf := hi.few
    refine step1 (W := m.wt) (by omega) hi.low hi.high (by omega) (fun _ => ?_) (fun h => ?_)
    · rw [show behindM s ⟨m.pos, m.out, m.wt⟩ = (m', k, n) from he]; exact ⟨rfl, rfl⟩
    · rw [show behindM s ⟨m.pos, m.out, m.wt⟩ = (m', k, n) from he] at h
      have : k < 0 := h; omega
  | @beEnd m m' he =>
    intro hi
    have hh := hi.high; have hf := hi.few
    refine step1 (W := m.wt) (by omega) hi.low hi.high (by omega) (fun h => ?_) (fun _ => ?_)
    · rw [show behindM s ⟨m.pos, m.out, m.wt⟩ = (m', -1, 2) from he] at h
      have : (0 : Int) ≤ -1 := h; omega
    · rw [show behindM s ⟨m.pos, m.out, m.wt⟩ = (m', -1, 2) from he]
      refine step2 (fun h => ?_) (fun h => ?_)
      · show if ((m'.out.length : Int) > 32) then _ else _
        rw [if_pos h]; exact ⟨rfl, rfl⟩
      · show if ((m'.out.length : Int) > 32) then _ else _
        rw [if_neg h]; exact ⟨rfl, rfl⟩
  | @beOn m m' b x he hg ih =>
    intro hi
    have hh := hi.high; have hf := hi.few
    refine step1 (W := m.wt) (by omega) hi.low hi.high (by omega) (fun h => ?_) (fun _ => ?_)
    · rw [show behindM s ⟨m.pos, m.out, m.wt⟩ = (m', -1, bif b then 1 else 0) from he] at h
      have : (0 : Int) ≤ -1 := h; omega
    · rw [show behindM s ⟨m.pos, m.out, m.wt⟩ = (m', -1, bif b then 1 else 0) from he]
      have := ih (beh_inv he hi)
      cases b
      · exact this
      · exact this
theorem rparse_walk (s : Str) (Γ : Ctx) : J Tryz.prog 48 (bodyOf Tryz.f48) Γ (ParQ s) [.code []] (initST Tryz.f48.ntmps [.s s] []) := by
  refine J.go (cfg := cfgXp) cfgXp_ok Tryz.func48 1000 (t := (.ite (decide (strLen s > (600 : Int))) (.ret (.tup [.p (.v (Value.slice none 0 0)), .i (0 : Int), .i (4 : Int)]) []) (.stop [.code [1, 1, 1, 1, 0, 0, 0], .inLoop [1, 1, 1, 1, 0, 0, 0], .inBlock 0, .code [1, 1, 1, 1, 1]] { n := 45, fr := [(2, .p (.v (Value.slice none 0 0))), (3, .i (0 : Int)), (4, .i (0 : Int)), (5, .x (.c (.loc 0 0))), (6, .i (0 : Int))], ck := [.cells [.pd (.str s), .i (0 : Int), .pd (.v (Value.slice none 0 0)), .pd (.v (Value.slice none 0 0))] 125] }))) (by kernel_rfl) ?_
  have hL : strLen s = (s.length : Int) := rfl
  refine ⟨fun h => ParQ.bad (l := []) ?_ (by decide), fun hlen => ?_⟩
  · unfold parseE; rw [if_pos (of_decide_eq_true h)]
  have hl' : ¬ strLen s > 600 := of_decide_eq_false hlen
  refine J.nilCk 0 2 88 .cell rfl rfl rfl ?_
  refine J.nilCk 0 3 155 .wait rfl rfl rfl ?_
  refine J.mono (fun v ck hq => ?_) (goes_walk (by omega) Γ (parse_both s) ⟨Int.le_refl _, by show (0 : Int) ≤ strLen s; omega, by show ((0 : Nat) : Int) + ((0 : Nat) : Int) ≤ 0; omega⟩)
  by_cases hb : (runAll s).bad ≥ 0
  · rw [if_pos hb] at hq
    obtain ⟨rfl, rfl⟩ := hq
    exact ParQ.bad (l := []) (by unfold parseE; rw [if_neg hl', if_pos hb]) (by decide)
  · rw [if_neg hb] at hq
    by_cases hp : (runAll s).pos < strLen s
    · rw [if_pos hp] at hq
      obtain ⟨rfl, rfl⟩ := hq
      exact ParQ.bad (l := []) (by unfold parseE; rw [if_neg hl', if_neg hb, if_pos hp]) (by decide)
    · rw [if_neg hp] at hq
      have hq' : if ((runAll s).out.length : Int) > 32 then v = .tup [.c (.pd (.v (.slice none 0 0))), .i 0, .i 4] ∧ ck = [] else v = .tup [.c (.own 0), .i 0, .i 0] ∧ ck = [.own 88 .cell (runAll s).out] := hq
      by_cases h32 : ((runAll s).out.length : Int) > 32
      · rw [if_pos h32] at hq'
        obtain ⟨rfl, rfl⟩ := hq'
        exact ParQ.bad (l := []) (by unfold parseE; rw [if_neg hl', if_neg hb, if_neg hp, if_pos h32]) (by decide)
      · rw [if_neg h32] at hq'
        obtain ⟨rfl, rfl⟩ := hq'
        exact ParQ.ok (by unfold parseE; rw [if_neg hl', if_neg hb, if_neg hp, if_neg h32])
theorem rparse_ok (s : Str) (h : readsE s) : Does Tryz.prog 48 [.s s] [] (.tup [.c (.own 0), .i 0, .i 0]) [.own 88 .cell (parseE s).1] :=
  Does.of Tryz.func48 (by kernel_rfl) (by kernel_rfl) fun Γ => J.mono (fun _ _ q => q.1 h) (rparse_walk s Γ)
theorem rparse_bad (s : Str) (h : ¬ readsE s) : Does Tryz.prog 48 [.s s] [] (.tup [.c (.pd (.v (.slice none 0 0))), .i (parseE s).2.1, .i (parseE s).2.2]) [] :=
  Does.of Tryz.func48 (by kernel_rfl) (by kernel_rfl) fun Γ => J.mono (fun _ _ q => q.2 h) (rparse_walk s Γ)
noncomputable def nRpa1 : Nat × (List SX → List Chunk → Option (Option Prop × SV × List Chunk)) := (48, fun
  | [.c (.pd (.str s))], [] => some (some (readsE s), .tup [.c (.own 0), .c (.pd (.int .i64 0)), .c (.pd (.int .i64 0))], [.own 88 .cell (parseE s).1])
  | _, _ => none)
theorem nRpa1_ok (vs : List SX) (ck : List Chunk) (p : Option Prop) (ret : SV) (ck' : List Chunk) (h : nRpa1.2 vs ck = some (p, ret, ck')) (hp : Holds p) : Does Tryz.prog nRpa1.1 vs ck ret ck' := by
  unfold nRpa1 at h
  simp only at h
  split at h
  · rename_i s
    simp only [Option.some.injEq, Prod.mk.injEq] at h
    obtain ⟨rfl, rfl, rfl⟩ := h
    exact rparse_ok s hp
  · simp at h
noncomputable def nRpa0 : Nat × (List SX → List Chunk → Option (Option Prop × SV × List Chunk)) := (48, fun
  | [.c (.pd (.str s))], [] => some (some (¬ readsE s), .tup [.c (.pd (.v (.slice none 0 0))), .c (.pd (.int .i64 (parseE s).2.1)), .c (.pd (.int .i64 (parseE s).2.2))], [])
  | _, _ => none)
theorem nRpa0_ok (vs : List SX) (ck : List Chunk) (p : Option Prop) (ret : SV) (ck' : List Chunk) (h : nRpa0.2 vs ck = some (p, ret, ck')) (hp : Holds p) : Does Tryz.prog nRpa0.1 vs ck ret ck' := by
  unfold nRpa0 at h
  simp only at h
  split at h
  · rename_i s
    simp only [Option.some.injEq, Prod.mk.injEq] at h
    obtain ⟨rfl, rfl, rfl⟩ := h
    exact rparse_bad s hp
  · simp at h
end Go.Proofs.YtjndellhebidoaaGreatDoor

/- Contracts of the document's reader of expressions, whole; the law ExprParses. Conditions: none. Contracts: an action read. Conditions: texts that are not too long. -/
import Derived.Test.YtpfidgnkokidoaaGreatDoorMr
import Derived.Test.YtpfidgnkokidoaaGreatDoorMf
import Derived.Test.YtpfidgnkokidoaaGreatDoorMp
import Derived.Test.YtpfidgnkokidoaaGreatDoorShelff
namespace Go.Proofs.YtpfidgnkokidoaaGreatDoor
open Go Go.Ev
set_option maxRecDepth 100000
def sD : Cfg := ⟨a6, [wP, xe]⟩
theorem nP : ah Tryz.prog sD.tab := (ah.cons Ir (ah.cons Jm ah.nil))
abbrev PJ (s : Str) (Γ : Ctx) (Q : Out) (b pos : Int) (out : List Cell) (wt : List Wait) : Prop := J Tryz.prog 130 (az Tryz.f130) Γ Q [.code [1, 1, 1, 1, 0, 0, 0], .inLoop [1, 1, 1, 1, 0, 0, 0], .inBlock 0, .code [1, 1, 1, 1, 1]] ({ n := 45, fr := [(2, .p (.v (Value.slice none 0 0))), (3, .i 0), (4, .i 0), (5, .x (.c (.loc 0 0))), (6, .i b)], ck := [.cells [.pd (.str s), SC.i pos, .own 1, .own 2] 209, .own 92 .cell out, .own 238 .wait wt] })
abbrev zMs1 : List PI := [.code [1, 1, 1, 1, 0, 0, 0], .inLoop [1, 1, 1, 1, 0, 0, 0], .inBlock 0, .code [1, 1, 1, 1, 1]]
theorem Kw {s : Str} {pos : Int} {out : List Cell} {W : List Wait} {Γ : Ctx} {Q : Out} (hs : s.length ≤ 1048576) (h0 : 0 ≤ pos) (h1 : pos ≤ ab s) (hl : out.length + W.length ≤ 1000000)
 (hbad : 0 ≤ (aR s ⟨pos, out, W⟩).2.1 → Q (.tup [.c (.pd (.v (.slice none 0 0))), .i (aR s ⟨pos, out, W⟩).2.1, .i 1]) [])
 (hon : (aR s ⟨pos, out, W⟩).2.1 < 0 → PJ s Γ Q (if (aR s ⟨pos, out, W⟩).2.2 = true then 1 else 0) (aR s ⟨pos, out, W⟩).1.pos (aR s ⟨pos, out, W⟩).1.out (aR s ⟨pos, out, W⟩).1.wt.reverse) :
 PJ s Γ Q 0 pos out W.reverse := by
 generalize hW : W.reverse = wt
 refine jg nP Tryz.func130 (let x1 := (aR s { pos := pos, out := out, wt := List.reverse wt }); let x2 := (bk s { pos := pos, out := out, wt := List.reverse wt }); let x3 : List PI := zMs1; let x4 : List Chunk := [.cells [.pd (.str s), .i (Mc.pos (Prod.fst x1)), .own 1, .own 2] 209, .own 92 .cell (Mc.out (Prod.fst x1)), .own 238 .wait (List.reverse (Mc.wt (Prod.fst x1)))]; let x5 := (Value.slice none 0 0); let x6 : Tree := (.ret (.tup [.p (.v x5), .i (Prod.fst (Prod.snd x1)), .i 1]) []); let x7 := (decide (Prod.fst (Prod.snd x1) ≥ (0 : Int))); let x8 : Nat × SV := (5, .x (.c (.loc 0 0))); .ite true (.ite true (.need (s.length ≤ 1048576 ∧ (0 : Int) ≤ pos ∧ pos ≤ ab s ∧ out.length ≤ 3000000 ∧ wt.length ≤ 3000000) (.ite (Prod.snd (Prod.snd x1)) (.ite x7 x6 (.stop x3 { n := 45, fr := [(2, .p (.v x5)), (3, .i 0), (4, .i 0), x8, (6, .i 1)], ck := x4 })) (.ite x7 x6 (.stop x3 { n := 45, fr := [(2, .p (.v x5)), (3, .i 0), (4, .i 0), x8, (6, .i 0)], ck := x4 })))) (.need (s.length ≤ 1048576 ∧ (0 : Int) ≤ pos ∧ pos ≤ ab s ∧ out.length + wt.length ≤ 1000000) (.ite (decide (Prod.fst (Prod.snd x2) ≥ (0 : Int))) (.ret (.tup [.p (.v x5), .i (Prod.fst (Prod.snd x2)), .i 1]) []) (.stop x3 { n := 45, fr := [(2, .p (.v x5)), (3, .i 0), (4, .i 0), x8, (6, .i (Prod.snd (Prod.snd x2)))], ck := [.cells [.pd (.str s), .i (Mc.pos (Prod.fst x2)), .own 1, .own 2] 209, .own 92 .cell (Mc.out (Prod.fst x2)), .own 238 .wait (List.reverse (Mc.wt (Prod.fst x2)))] })))) (.ite (decide ((out.length : Int) > 32)) (.ret (.tup [.p (.v x5), .i 0, .i 4]) []) (.ret (.tup [.c (.own 0), .i 0, .i 0]) [.own 92 .cell out]))) ?_
 conv => zeta
 subst hW
 rw [List.reverse_reverse]
 generalize aR s ⟨pos, out, W⟩ = o at *
 refine ⟨fun _ => ⟨fun _ => ⟨⟨hs, h0, h1, by omega, by rw [List.length_reverse]; omega⟩, fun he => ⟨fun hk => hbad (of_decide_eq_true hk), fun hk => ?_⟩, fun he => ⟨fun hk => hbad (of_decide_eq_true hk), fun hk => ?_⟩⟩, fun h => Bool.noConfusion h⟩, fun h => Bool.noConfusion h⟩
 · have := hon (by have := of_decide_eq_false hk; omega)
   rw [if_pos he] at this; exact this
 · have := hon (by have := of_decide_eq_false hk; omega)
   rw [if_neg (by rw [he]; simp)] at this; exact this
theorem step1 {s : Str} {pos : Int} {out : List Cell} {W : List Wait} {Γ : Ctx} {Q : Out} (hs : s.length ≤ 1048576) (h0 : 0 ≤ pos) (h1 : pos ≤ ab s) (hl : out.length + W.length ≤ 1000000)
 (hbad : 0 ≤ (bk s ⟨pos, out, W⟩).2.1 → Q (.tup [.c (.pd (.v (.slice none 0 0))), .i (bk s ⟨pos, out, W⟩).2.1, .i 1]) [])
 (hon : (bk s ⟨pos, out, W⟩).2.1 < 0 → PJ s Γ Q (bk s ⟨pos, out, W⟩).2.2 (bk s ⟨pos, out, W⟩).1.pos (bk s ⟨pos, out, W⟩).1.out (bk s ⟨pos, out, W⟩).1.wt.reverse) :
 PJ s Γ Q 1 pos out W.reverse := by
 generalize hW : W.reverse = wt
 refine jg nP Tryz.func130 (let x2 := (aR s { pos := pos, out := out, wt := List.reverse wt }); let x5 := (Value.slice none 0 0); let x4 : List PI := zMs1; let x1 : Tree := (.ite (decide (Prod.fst (Prod.snd x2) ≥ (0 : Int))) (.ret (.tup [.p (.v x5), .i (Prod.fst (Prod.snd x2)), .i 1]) []) (.stop x4 { n := 45, fr := [(2, .p (.v x5)), (3, .i 0), (4, .i 0), (5, .x (.c (.loc 0 0))), (6, .i 1)], ck := [.cells [.pd (.str s), .i (Mc.pos (Prod.fst x2)), .own 1, .own 2] 209, .own 92 .cell (Mc.out (Prod.fst x2)), .own 238 .wait (List.reverse (Mc.wt (Prod.fst x2)))] })); let x3 := (bk s { pos := pos, out := out, wt := List.reverse wt }); .ite true (.ite false (.need (s.length ≤ 1048576 ∧ (0 : Int) ≤ pos ∧ pos ≤ ab s ∧ out.length ≤ 3000000 ∧ wt.length ≤ 3000000) (.ite (Prod.snd (Prod.snd x2)) x1 x1)) (.need (s.length ≤ 1048576 ∧ (0 : Int) ≤ pos ∧ pos ≤ ab s ∧ out.length + wt.length ≤ 1000000) (.ite (decide (Prod.fst (Prod.snd x3) ≥ (0 : Int))) (.ret (.tup [.p (.v x5), .i (Prod.fst (Prod.snd x3)), .i 1]) []) (.stop x4 { n := 45, fr := [(2, .p (.v x5)), (3, .i 0), (4, .i 0), (5, .x (.c (.loc 0 0))), (6, .i (Prod.snd (Prod.snd x3)))], ck := [.cells [.pd (.str s), .i (Mc.pos (Prod.fst x3)), .own 1, .own 2] 209, .own 92 .cell (Mc.out (Prod.fst x3)), .own 238 .wait (List.reverse (Mc.wt (Prod.fst x3)))] })))) (.ite (decide ((out.length : Int) > 32)) (.ret (.tup [.p (.v x5), .i 0, .i 4]) []) (.ret (.tup [.c (.own 0), .i 0, .i 0]) [.own 92 .cell out]))) ?_
 conv => zeta
 subst hW
 rw [List.reverse_reverse]
 generalize bk s ⟨pos, out, W⟩ = o at *
 exact ⟨fun _ => ⟨fun h => Bool.noConfusion h, fun _ => ⟨⟨hs, h0, h1, by rw [List.length_reverse]; omega⟩, fun hk => hbad (of_decide_eq_true hk), fun hk => hon (by have := of_decide_eq_false hk; omega)⟩⟩, fun h => Bool.noConfusion h⟩
theorem step2 {s : Str} {pos : Int} {out : List Cell} {wt : List Wait} {Γ : Ctx} {Q : Out} (hbig : (out.length : Int) > 32 → Q (.tup [.c (.pd (.v (.slice none 0 0))), .i 0, .i 4]) []) (hok : ¬ (out.length : Int) > 32 → Q (.tup [.c (.own 0), .i 0, .i 0]) [.own 92 .cell out]) : PJ s Γ Q 2 pos out wt := by
 refine jg nP Tryz.func130 (let x1 := (aR s { pos := pos, out := out, wt := List.reverse wt }); let x2 := (bk s { pos := pos, out := out, wt := List.reverse wt }); let x3 : List PI := zMs1; let x4 : List Chunk := [.cells [.pd (.str s), .i (Mc.pos (Prod.fst x1)), .own 1, .own 2] 209, .own 92 .cell (Mc.out (Prod.fst x1)), .own 238 .wait (List.reverse (Mc.wt (Prod.fst x1)))]; let x5 := (Value.slice none 0 0); let x6 : Tree := (.ret (.tup [.p (.v x5), .i (Prod.fst (Prod.snd x1)), .i 1]) []); let x7 := (decide (Prod.fst (Prod.snd x1) ≥ (0 : Int))); let x8 : Nat × SV := (5, .x (.c (.loc 0 0))); .ite false (.ite false (.need (s.length ≤ 1048576 ∧ (0 : Int) ≤ pos ∧ pos ≤ ab s ∧ out.length ≤ 3000000 ∧ wt.length ≤ 3000000) (.ite (Prod.snd (Prod.snd x1)) (.ite x7 x6 (.stop x3 { n := 45, fr := [(2, .p (.v x5)), (3, .i 0), (4, .i 0), x8, (6, .i 1)], ck := x4 })) (.ite x7 x6 (.stop x3 { n := 45, fr := [(2, .p (.v x5)), (3, .i 0), (4, .i 0), x8, (6, .i 2)], ck := x4 })))) (.need (s.length ≤ 1048576 ∧ (0 : Int) ≤ pos ∧ pos ≤ ab s ∧ out.length + wt.length ≤ 1000000) (.ite (decide (Prod.fst (Prod.snd x2) ≥ (0 : Int))) (.ret (.tup [.p (.v x5), .i (Prod.fst (Prod.snd x2)), .i 1]) []) (.stop x3 { n := 45, fr := [(2, .p (.v x5)), (3, .i 0), (4, .i 0), x8, (6, .i (Prod.snd (Prod.snd x2)))], ck := [.cells [.pd (.str s), .i (Mc.pos (Prod.fst x2)), .own 1, .own 2] 209, .own 92 .cell (Mc.out (Prod.fst x2)), .own 238 .wait (List.reverse (Mc.wt (Prod.fst x2)))] })))) (.ite (decide ((out.length : Int) > 32)) (.ret (.tup [.p (.v x5), .i 0, .i 4]) []) (.ret (.tup [.c (.own 0), .i 0, .i 0]) [.own 92 .cell out]))) ?_
 conv => zeta
 exact ⟨fun h => Bool.noConfusion h, fun _ => ⟨fun h => hbig (of_decide_eq_true h), fun h => hok (of_decide_eq_false h)⟩⟩
/-! ### bounds -/
structure Inv (s : Str) (m : Mc) : Prop where
 low : 0 ≤ m.pos
 high : m.pos ≤ ab s
 few : (m.out.length : Int) + m.wt.length ≤ m.pos
variable {s : Str}
theorem Le {m m' : Mc} {e : Bool} (h : aR s m = (m', -1, e)) (hi : Inv s m) : Inv s m' := by
 obtain ⟨h0, h1, h2⟩ := hi
 have hok : Ok s ⟨m.pos, m.out, -1⟩ := ⟨rfl, h0, h1⟩
 have one : ∀ (k : Int) (w : Wait), 1 ≤ k → m.pos + k ≤ ab s → Inv s ⟨m.pos + k, m.out, w :: m.wt⟩ := by
  intro k w g1 g2
  refine ⟨by show 0 ≤ m.pos + k; omega, g2, ?_⟩
  show (m.out.length : Int) + ((w :: m.wt).length : Nat) ≤ m.pos + k
  simp only [List.length_cons]; omega
 cases hh : b8 s m.pos with
 | fin =>
   rw [BZ hh] at h
   simp only [Prod.mk.injEq] at h
   have := h.2.1; omega
 | pre op =>
   have hlt := hok.lt (fun x e => by have e' : b8 s m.pos = x := e; rw [hh] at e'; subst e'; simp)
   rw [uz hh] at h
   simp only [Prod.mk.injEq] at h
   rw [← h.1]; exact one 1 _ (by omega) (by have : m.pos < ab s := hlt; omega)
 | par =>
   have hlt := hok.lt (fun x e => by have e' : b8 s m.pos = x := e; rw [hh] at e'; subst e'; simp)
   rw [BN hh] at h
   simp only [Prod.mk.injEq] at h
   rw [← h.1]; exact one 1 _ (by omega) (by have : m.pos < ab s := hlt; omega)
 | call op =>
   obtain ⟨_, _, _, _, _, _, hlt⟩ := nr hh
   rw [rK hh] at h
   simp only [Prod.mk.injEq] at h
   rw [← h.1]; exact one 3 _ (by omega) hlt
 | leaf =>
   have hlt := hok.lt (fun x e => by have e' : b8 s m.pos = x := e; rw [hh] at e'; subst e'; simp)
   have hll := wu hok hlt
   by_cases hb : (c6 s ⟨m.pos, m.out, -1⟩).bad < 0
   · rw [o2 hh rfl hb] at h
     simp only [Prod.mk.injEq] at h
     rw [← h.1]
     rcases hll with ⟨g1, g2, g3⟩ | ⟨_, g2, _⟩
     · refine ⟨g1.low, g1.high, ?_⟩
       show ((c6 s ⟨m.pos, m.out, -1⟩).out.length : Int) + m.wt.length ≤ (c6 s ⟨m.pos, m.out, -1⟩).pos
       have g3' : ((c6 s ⟨m.pos, m.out, -1⟩).out.length : Int) ≤ m.out.length + ((c6 s ⟨m.pos, m.out, -1⟩).pos - m.pos) := g3
       omega
     · omega
   · rw [qi hh rfl (by omega) rfl] at h
     simp only [Prod.mk.injEq] at h
     have := h.2.1; omega
theorem pH (m : Mc) (p : Int) : (m.flush p).out.length + (m.flush p).wt.length = m.out.length + m.wt.length := by
 have h := ob p m.wt
 show (m.out ++ cellsOf (cw p m.wt)).length + (bP p m.wt).length = _
 rw [List.length_append]
 have : (cellsOf (cw p m.wt)).length = (cw p m.wt).length := List.length_map _
 omega
theorem L9 {m m' : Mc} {n : Int} (h : bk s m = (m', -1, n)) (hi : Inv s m) : Inv s m' := by
 obtain ⟨h0, h1, h2⟩ := hi
 unfold bk at h
 split at h
 · have hf := pH m 1
   split at h
   · simp only [Prod.mk.injEq] at h
     rw [← h.1]
     exact ⟨h0, h1, by show _ ≤ m.pos; omega⟩
   · simp only [Prod.mk.injEq] at h
     have := h.2.1; omega
 · rename_i hne
   split at h
   · have hf := pH m 1
     split at h
     · simp only [Prod.mk.injEq] at h
       have := h.2.1; omega
     · rename_i w l hw
       simp only [Prod.mk.injEq] at h
       rw [← h.1]
       rw [hw] at hf
       simp only [List.length_cons] at hf
       refine ⟨by show 0 ≤ m.pos + 1; omega, by show m.pos + 1 ≤ _; omega, ?_⟩
       show (((if w.op = 0 then (m.flush 1).out else (m.flush 1).out ++ [⟨w.op, 0, []⟩] : List Cell).length : Nat) : Int) + l.length ≤ m.pos + 1
       split
       · omega
       · rw [List.length_append]; simp only [List.length_cons, List.length_nil]; omega
   · simp only at h
     rcases ie (s.drop m.pos.toNat) with e | ⟨_, _, g3, g4, _, _, _⟩
     · rw [if_pos (by rw [e])] at h
       simp only [Prod.mk.injEq] at h
       have := h.2.1; omega
     · have hlen : ab (s.drop m.pos.toNat) = ab s - m.pos := by simp only [ab, List.length_drop] at *; omega
       split at h
       · simp only [Prod.mk.injEq] at h
         have := h.2.1; omega
       · split at h
         · simp only [Prod.mk.injEq] at h
           have := h.2.1; omega
         · simp only [Prod.mk.injEq] at h
           rw [← h.1]
           have hf := pH m (aG (aT (s.drop m.pos.toNat)).1).2
           refine ⟨by show 0 ≤ m.pos + _; omega, by show m.pos + _ ≤ _; omega, ?_⟩
           show (((m.flush (aG (aT (s.drop m.pos.toNat)).1).2).out.length : Nat) : Int) + ((_ :: (m.flush (aG (aT (s.drop m.pos.toNat)).1).2).wt).length : Nat) ≤ m.pos + (aT (s.drop m.pos.toNat)).2
           simp only [List.length_cons]; omega
/-! ### the whole -/
def Pf : Res → Out
 | .ok out => fun v ck => if (out.length : Int) > 32 then v = .tup [.c (.pd (.v (.slice none 0 0))), .i 0, .i 4] ∧ ck = [] else v = .tup [.c (.own 0), .i 0, .i 0] ∧ ck = [.own 92 .cell out]
 | .bad k => fun v ck => v = .tup [.c (.pd (.v (.slice none 0 0))), .i k, .i 1] ∧ ck = []
theorem Gd (hs : s.length ≤ 600000) (Γ : Ctx) {b : Bool} {m : Mc} {x : Res} (h : Goes s b m x) : Inv s m → PJ s Γ (Pf x) (if b = true then 1 else 0) m.pos m.out m.wt.reverse := by
 have hL : ab s = (s.length : Int) := rfl
 induction h with
 | @opBad m m' k e he hk =>
   intro hi
   have hh := hi.high; have hf := hi.few
   refine Kw (W := m.wt) (by omega) hi.low hi.high (by omega) (fun _ => ?_) (fun h => ?_)
   · rw [show aR s ⟨m.pos, m.out, m.wt⟩ = (m', k, e) from he]; exact ⟨rfl, rfl⟩
   · rw [show aR s ⟨m.pos, m.out, m.wt⟩ = (m', k, e) from he] at h
     have : k < 0 := h; omega
 | @opOn m m' e x he hg ih =>
   intro hi
   have hh := hi.high; have hf := hi.few
   refine Kw (W := m.wt) (by omega) hi.low hi.high (by omega) (fun h => ?_) (fun _ => ?_)
   · rw [show aR s ⟨m.pos, m.out, m.wt⟩ = (m', -1, e) from he] at h
     have : (0 : Int) ≤ -1 := h; omega
   · rw [show aR s ⟨m.pos, m.out, m.wt⟩ = (m', -1, e) from he]; exact ih (Le he hi)
 | @beBad m m' k n he hk =>
   intro hi
   have hh := hi.high; have hf := hi.few
   refine step1 (W := m.wt) (by omega) hi.low hi.high (by omega) (fun _ => ?_) (fun h => ?_)
   · rw [show bk s ⟨m.pos, m.out, m.wt⟩ = (m', k, n) from he]; exact ⟨rfl, rfl⟩
   · rw [show bk s ⟨m.pos, m.out, m.wt⟩ = (m', k, n) from he] at h
     have : k < 0 := h; omega
 | @beEnd m m' he =>
   intro hi
   have hh := hi.high; have hf := hi.few
   refine step1 (W := m.wt) (by omega) hi.low hi.high (by omega) (fun h => ?_) (fun _ => ?_)
   · rw [show bk s ⟨m.pos, m.out, m.wt⟩ = (m', -1, 2) from he] at h
     have : (0 : Int) ≤ -1 := h; omega
   · rw [show bk s ⟨m.pos, m.out, m.wt⟩ = (m', -1, 2) from he]
     refine step2 (fun h => ?_) (fun h => ?_)
     · show if ((m'.out.length : Int) > 32) then _ else _
       rw [if_pos h]; exact ⟨rfl, rfl⟩
     · show if ((m'.out.length : Int) > 32) then _ else _
       rw [if_neg h]; exact ⟨rfl, rfl⟩
 | @beOn m m' b x he hg ih =>
   intro hi
   have hh := hi.high; have hf := hi.few
   refine step1 (W := m.wt) (by omega) hi.low hi.high (by omega) (fun h => ?_) (fun _ => ?_)
   · rw [show bk s ⟨m.pos, m.out, m.wt⟩ = (m', -1, bif b then 1 else 0) from he] at h
     have : (0 : Int) ≤ -1 := h; omega
   · rw [show bk s ⟨m.pos, m.out, m.wt⟩ = (m', -1, bif b then 1 else 0) from he]
     have := ih (L9 he hi)
     cases b
     · exact this
     · exact this
theorem qZ (s : Str) (Γ : Ctx) : J Tryz.prog 130 (az Tryz.f130) Γ (iP s) [.code []] (bX Tryz.f130.ntmps [.s s] []) := by
 refine jg nP Tryz.func130 (.ite (decide (ab s > (600 : Int))) (.ret (.tup [.p (.v (Value.slice none 0 0)), .i 0, .i 4]) []) (.stop zMs1 { n := 45, fr := [(2, .p (.v (Value.slice none 0 0))), (3, .i 0), (4, .i 0), (5, .x (.c (.loc 0 0))), (6, .i 0)], ck := [.cells [.pd (.str s), .i 0, .pd (.v (Value.slice none 0 0)), .pd (.v (Value.slice none 0 0))] 209] })) ?_
 have hL : ab s = (s.length : Int) := rfl
 refine ⟨fun h => iP.bad (l := []) ?_ (by decide), fun hlen => ?_⟩
 · unfold aO; rw [if_pos (of_decide_eq_true h)]
 have hl' : ¬ ab s > 600 := of_decide_eq_false hlen
 refine J.nilCk 0 2 92 .cell rfl rfl rfl ?_
 refine J.nilCk 0 3 238 .wait rfl rfl rfl ?_
 refine J.mono (fun v ck hq => ?_) (Gd (by omega) Γ (DR s) ⟨Int.le_refl _, by show (0 : Int) ≤ ab s; omega, by show ((0 : Nat) : Int) + ((0 : Nat) : Int) ≤ 0; omega⟩)
 by_cases hb : (cu s).bad ≥ 0
 · rw [if_pos hb] at hq
   obtain ⟨rfl, rfl⟩ := hq
   exact iP.bad (l := []) (by unfold aO; rw [if_neg hl', if_pos hb]) (by decide)
 · rw [if_neg hb] at hq
   by_cases hp : (cu s).pos < ab s
   · rw [if_pos hp] at hq
     obtain ⟨rfl, rfl⟩ := hq
     exact iP.bad (l := []) (by unfold aO; rw [if_neg hl', if_neg hb, if_pos hp]) (by decide)
   · rw [if_neg hp] at hq
     have hq' : if ((cu s).out.length : Int) > 32 then v = .tup [.c (.pd (.v (.slice none 0 0))), .i 0, .i 4] ∧ ck = [] else v = .tup [.c (.own 0), .i 0, .i 0] ∧ ck = [.own 92 .cell (cu s).out] := hq
     by_cases h32 : ((cu s).out.length : Int) > 32
     · rw [if_pos h32] at hq'
       obtain ⟨rfl, rfl⟩ := hq'
       exact iP.bad (l := []) (by unfold aO; rw [if_neg hl', if_neg hb, if_neg hp, if_pos h32]) (by decide)
     · rw [if_neg h32] at hq'
       obtain ⟨rfl, rfl⟩ := hq'
       exact iP.ok (by unfold aO; rw [if_neg hl', if_neg hb, if_neg hp, if_neg h32])
theorem G9 (s : Str) (h : bC s) : ak Tryz.prog 130 [.s s] [] (.tup [.c (.own 0), .i 0, .i 0]) [.own 92 .cell (aO s).1] :=
 ak.of Tryz.func130 (by kernel_rfl) (by kernel_rfl) fun Γ => J.mono (fun _ _ q => q.1 h) (qZ s Γ)
theorem CI (s : Str) (h : ¬ bC s) : ak Tryz.prog 130 [.s s] [] (.tup [.c (.pd (.v (.slice none 0 0))), .i (aO s).2.1, .i (aO s).2.2]) [] :=
 ak.of Tryz.func130 (by kernel_rfl) (by kernel_rfl) fun Γ => J.mono (fun _ _ q => q.2 h) (qZ s Γ)
noncomputable def qm : Ent := (130, fun
 | [.c (.pd (.str s))], [] => some (some (bC s), .tup [.c (.own 0), .c (.pd (.int .i64 0)), .c (.pd (.int .i64 0))], [.own 92 .cell (aO s).1])
 | _, _ => none)
theorem rP : EntOk Tryz.prog qm := entOk fun vs ck => by
 unfold qm; dsimp only; split
 · rename_i s; exact entS fun hp => G9 s hp
 · exact entN
noncomputable def qf : Ent := (130, fun
 | [.c (.pd (.str s))], [] => some (some (¬ bC s), .tup [.c (.pd (.v (.slice none 0 0))), .c (.pd (.int .i64 (aO s).2.1)), .c (.pd (.int .i64 (aO s).2.2))], [])
 | _, _ => none)
theorem rY : EntOk Tryz.prog qf := entOk fun vs ck => by
 unfold qf; dsimp only; split
 · rename_i s; exact entS fun hp => CI s hp
 · exact entN
end Go.Proofs.YtpfidgnkokidoaaGreatDoor
namespace Go.Proofs.YtpfidgnkokidoaaGreatDoor
open Go Go.Ev
set_option maxRecDepth 100000
/-! ### the program's -/
noncomputable def EX:Cfg:=⟨a6,[p5,iV,tg,qq,gG,kV]⟩
theorem Fl:ah Tryz.prog EX.tab:=(ah.cons mV (ah.cons ix (ah.cons yq (ah.cons r5 (ah.cons fw (ah.cons nB ah.nil))))))
noncomputable def sF:Cfg:=⟨a6,[p5,iV,tg,qK,gG,kV]⟩
theorem pQ:ah Tryz.prog sF.tab:=(ah.cons mV (ah.cons ix (ah.cons yq (ah.cons rT (ah.cons fw (ah.cons nB ah.nil))))))
abbrev jc:SC:=.pd (.v (.slice none 0 0))
variable (a s b:Str) (n:Int) (Γ:Ctx)
theorem Jp (h:aS s bB=true):ak Tryz.prog 122 [.s s] [] (.tup [.agg [.i 2,.pd (.str (bf s bB)),jc],.b (bW ⟨2,bf s bB,[]⟩)]) []:=by
 refine dg pQ Tryz.func122 (let x1:=[(114:UInt8),97,105,115,101,58]; let x2:=[(115:UInt8),101,110,100,58]; let x3:=(Value.slice none 0 0); .ite (aS s x1) (.ret (.tup [.agg [.i 2,.pd (.str (bf s x1)),.pd (.v x3)],.p (.bool (cg (bf s x1)))]) []) (.ite (aS s x2) (.ret (.tup [.agg [.i 3,.pd (.str (bf s x2)),.pd (.v x3)],.p (.bool (cg (bf s x2)))]) []) (.need (s.length<4294967281) (.need (¬bC (bO s)) (.ret (.tup [.agg [.i 1,.pd (.str (da s)),.pd (.v x3)],.p (.bool (df s&&aC (da s)&&((aO (bO s)).2).2==(0:Int)&&iv []))]) []))))) fun Γ=>?_
 conv=>zeta
 have hb:bW ⟨2,bf s bB,[]⟩=cg (bf s bB):=by show (cg _&&true)=_; rw [cT]
 rw [hb]
 exact ⟨fun _=>⟨rfl,rfl⟩,fun h'=>absurd h (by rw [show aS s bB=false from h']; simp)⟩
theorem KY (h0:aS s bB=false) (h:aS s cv=true):ak Tryz.prog 122 [.s s] [] (.tup [.agg [.i 3,.pd (.str (bf s cv)),jc],.b (bW ⟨3,bf s cv,[]⟩)]) []:=by
 refine dg pQ Tryz.func122 (let x1:=[(114:UInt8),97,105,115,101,58]; let x2:=[(115:UInt8),101,110,100,58]; let x3:=(Value.slice none 0 0); .ite (aS s x1) (.ret (.tup [.agg [.i 2,.pd (.str (bf s x1)),.pd (.v x3)],.p (.bool (cg (bf s x1)))]) []) (.ite (aS s x2) (.ret (.tup [.agg [.i 3,.pd (.str (bf s x2)),.pd (.v x3)],.p (.bool (cg (bf s x2)))]) []) (.need (s.length<4294967281) (.need (¬bC (bO s)) (.ret (.tup [.agg [.i 1,.pd (.str (da s)),.pd (.v x3)],.p (.bool (df s&&aC (da s)&&((aO (bO s)).2).2==(0:Int)&&iv []))]) []))))) fun Γ=>?_
 conv=>zeta
 have hb:bW ⟨3,bf s cv,[]⟩=cg (bf s cv):=by show (cg _&&true)=_; rw [cT]
 rw [hb]
 exact ⟨fun h'=>absurd (show aS s bB=true from h') (by rw [h0]; simp),fun _=>⟨fun _=>⟨rfl,rfl⟩,fun h'=>absurd h (by rw [show aS s cv=false from h']; simp)⟩⟩
theorem NN (hs:s.length<4294967281) (h0:aS s bB=false) (h1:aS s cv=false) (h:bC (bO s)) :
 ak Tryz.prog 122 [.s s] [] (.tup [.agg [.i 1,.pd (.str (da s)),.own 0],.b (df s&&bW ⟨1,da s,(aO (bO s)).1⟩)]) [.own 92 .cell (aO (bO s)).1]:=by
 refine dg Fl Tryz.func122 (let x1:=[(114:UInt8),97,105,115,101,58]; let x2:=[(115:UInt8),101,110,100,58]; .ite (aS s x1) (.ret (.tup [.agg [.i 2,.pd (.str (bf s x1)),.pd (.v (Value.slice none 0 0))],.p (.bool (cg (bf s x1)))]) []) (.ite (aS s x2) (.ret (.tup [.agg [.i 3,.pd (.str (bf s x2)),.pd (.v (Value.slice none 0 0))],.p (.bool (cg (bf s x2)))]) []) (.need (s.length<4294967281) (.need (bC (bO s)) (.ret (.tup [.agg [.i 1,.pd (.str (da s)),.own 0],.p (.bool (df s&&aC (da s)&&(0:Int)==0&&iv ((aO (bO s)).1)))]) [.own 92 .cell ((aO (bO s)).1)]))))) fun Γ=>?_
 conv=>zeta
 refine ⟨fun h'=>absurd (show aS s bB=true from h') (by rw [h0]; simp),fun _=>⟨fun h'=>absurd (show aS s cv=true from h') (by rw [h1]; simp),fun _=>⟨hs,h,?_,rfl⟩⟩⟩
 have hb:(df s&&bW ⟨1,da s,(aO (bO s)).1⟩)=(df s&&aC (da s)&&(0:Int)==0&&iv (aO (bO s)).1):=by
  show (df s&&(aC (da s)&&iv (aO (bO s)).1))=_
  rw [show ((0:Int)==0)=true from rfl,cT,eH]
 rw [hb]
theorem LO (hs:s.length<4294967281) (h0:aS s bB=false) (h1:aS s cv=false) (h:¬bC (bO s)) :
 ak Tryz.prog 122 [.s s] [] (.tup [.agg [.i 1,.pd (.str (da s)),jc],.b false]) []:=by
 refine dg pQ Tryz.func122 (let x1:=[(114:UInt8),97,105,115,101,58]; let x2:=[(115:UInt8),101,110,100,58]; let x3:=(Value.slice none 0 0); .ite (aS s x1) (.ret (.tup [.agg [.i 2,.pd (.str (bf s x1)),.pd (.v x3)],.p (.bool (cg (bf s x1)))]) []) (.ite (aS s x2) (.ret (.tup [.agg [.i 3,.pd (.str (bf s x2)),.pd (.v x3)],.p (.bool (cg (bf s x2)))]) []) (.need (s.length<4294967281) (.need (¬bC (bO s)) (.ret (.tup [.agg [.i 1,.pd (.str (da s)),.pd (.v x3)],.p (.bool (df s&&aC (da s)&&((aO (bO s)).2).2==(0:Int)&&iv []))]) []))))) fun Γ=>?_
 conv=>zeta
 refine ⟨fun h'=>absurd (show aS s bB=true from h') (by rw [h0]; simp),fun _=>⟨fun h'=>absurd (show aS s cv=true from h') (by rw [h1]; simp),fun _=>⟨hs,h,?_,rfl⟩⟩⟩
 have h9:¬(aO (bO s)).2.2=0:=h
 have:((aO (bO s)).2.2==0)=false:=by simpa using h9
 rw [this,bu,cJ]
noncomputable def C8:Ent:=(122,fun
 | [.c (.pd (.str s))],[]=>some (some (aS s bB=true),.tup [.agg [.pd (.int .i64 2),.pd (.str (bf s bB)),.pd (.v (.slice none 0 0))],.c (.pd (.bool (bW ⟨2,bf s bB,[]⟩)))],[])
 | _,_=>none)
theorem Mq:EntOk Tryz.prog C8:=entOk fun vs ck=>by
 unfold C8; dsimp only; split
 · rename_i s; exact entS fun hp=>Jp s hp
 · exact entN
noncomputable def Es:Ent:=(122,fun
 | [.c (.pd (.str s))],[]=>some (some (aS s bB=false∧aS s cv=true),.tup [.agg [.pd (.int .i64 3),.pd (.str (bf s cv)),.pd (.v (.slice none 0 0))],.c (.pd (.bool (bW ⟨3,bf s cv,[]⟩)))],[])
 | _,_=>none)
theorem K1:EntOk Tryz.prog Es:=entOk fun vs ck=>by
 unfold Es; dsimp only; split
 · rename_i s; exact entS fun hp=>KY s hp.1 hp.2
 · exact entN
noncomputable def Cf:Ent:=(122,fun
 | [.c (.pd (.str s))],[]=>some (some (s.length<4294967281∧aS s bB=false∧aS s cv=false∧bC (bO s)),.tup [.agg [.pd (.int .i64 1),.pd (.str (da s)),.own 0],.c (.pd (.bool (df s&&bW ⟨1,da s,(aO (bO s)).1⟩)))],[.own 92 .cell (aO (bO s)).1])
 | _,_=>none)
theorem MA:EntOk Tryz.prog Cf:=entOk fun vs ck=>by
 unfold Cf; dsimp only; split
 · rename_i s; exact entS fun hp=>NN s hp.1 hp.2.1 hp.2.2.1 hp.2.2.2
 · exact entN
noncomputable def CA:Ent:=(122,fun
 | [.c (.pd (.str s))],[]=>some (some (s.length<4294967281∧aS s bB=false∧aS s cv=false∧¬bC (bO s)),.tup [.agg [.pd (.int .i64 1),.pd (.str (da s)),.pd (.v (.slice none 0 0))],.c (.pd (.bool false))],[])
 | _,_=>none)
theorem Mr:EntOk Tryz.prog CA:=entOk fun vs ck=>by
 unfold CA; dsimp only; split
 · rename_i s; exact entS fun hp=>LO s hp.1 hp.2.1 hp.2.2.1 hp.2.2.2
 · exact entN
/-! ### the document's -/
theorem yn:(aw a none (some n)).2=a.take n.toNat:=by simp [aw]
theorem nH:(aw a (some n) none).2=a.drop n.toNat:=by simp [aw]
theorem AW:ak Tryz.prog 171 [.s a,.s b] [] (.x (.b (aS a b))) []:=by
 refine dg aV Tryz.func171 (.need (decide (ab a≥ab b)=true→(0:Int)≤ab b∧ab b≤(a.length:Int)) (.ret (.p (.bool (decide (ab a≥ab b)&&(aw a none (some (ab b))).2==b))) [])) fun Γ=>?_
 have hL:ab a=(a.length:Int):=rfl
 have hB:ab b=(b.length:Int):=rfl
 refine ⟨fun h=>by have:=of_decide_eq_true h; omega,?_⟩
 rw [yn]; exact ⟨rfl,rfl⟩
def mT:Ent:=(171,fun
 | [.c (.pd (.str a)),.c (.pd (.str b))],[]=>some (none,.x (.c (.pd (.bool (aS a b)))),[])
 | _,_=>none)
theorem tM:EntOk Tryz.prog mT:=entOk fun vs ck=>by
 unfold mT; dsimp only; split
 · rename_i a b; exact entS fun hp=>AW a b
 · exact entN
theorem MG {H:Mem} {t:ETy} {u:Value} (h:PR H (.v (.slice none 0 0)) u):PR H (.lst t []) u:=by
 cases h; exact .emp t none 0 fun _=>rfl
theorem J0 (a:Int) (b:Str):ak Tryz.prog 139 [.agg [.i a,.pd (.str b),jc]] [] (.x (.b (bW ⟨a,b,[]⟩))) []:=fun w V vs hw hT hv=>by
 refine vK ⟨a,b,[]⟩ w V vs hw hT ?_
 cases hv with
 | cons h hv =>
   cases hv
   obtain ⟨us,rfl,h⟩:=h
   cases h with
   | cons h0 h=>cases h with
     | cons h1 h=>cases h with
       | cons h2 h =>
         cases h
         exact .cons ⟨_,rfl,.cons h0 (.cons h1 (.cons (MG h2) .nil))⟩ .nil
def oV:Ent:=(139,fun
 | [.agg [.pd (.int .i64 a),.pd (.str b),.pd (.v (.slice none 0 0))]],[]=>some (none,.x (.c (.pd (.bool (bW ⟨a,b,[]⟩)))),[])
 | _,_=>none)
theorem vI:EntOk Tryz.prog oV:=entOk fun vs ck=>by
 unfold oV; dsimp only; split
 · rename_i a b; exact entS fun hp=>J0 a b
 · exact entN
noncomputable def yZ:Cfg:=⟨a6,[mT,oV,sM,qm]⟩
theorem vO:ah Tryz.prog yZ.tab:=(ah.cons tM (ah.cons vI (ah.cons xB (ah.cons rP ah.nil))))
noncomputable def pr:Cfg:=⟨a6,[mT,oV,sM,qf]⟩
theorem mb:ah Tryz.prog pr.tab:=(ah.cons tM (ah.cons vI (ah.cons xB (ah.cons rY ah.nil))))
theorem B6 {s:Str} (h:aS s bB=true):6≤s.length∧bf s bB=s.drop 6:=by
 have hL:ab s=(s.length:Int):=rfl
 have h6:ab bB=6:=rfl
 refine ⟨?_,by rw [bf,h]; rfl⟩
 simp only [aS,af,decide_eq_true_eq] at h
 omega
theorem GU {s:Str} (h:aS s cv=true):5≤s.length∧bf s cv=s.drop 5:=by
 have hL:ab s=(s.length:Int):=rfl
 have h6:ab cv=5:=rfl
 refine ⟨?_,by rw [bf,h]; rfl⟩
 simp only [aS,af,decide_eq_true_eq] at h
 omega
abbrev zUg1:List PI:=[.code [1,1,0,0,1,1,1,1,1,0,0,0],.inLoop [1,1,0,0,1,1,1,1,1,0,0,0],.inBlock 1,.code [1,1,0,0,1,1,1,1,1,1],.inBlock 0,.code [1,1,1]]
abbrev zUg2:ST:={ n:=63,fr:=[(0,.p (.str a)),(2,.x (.c (.loc 0 0))),(3,.p (.bool false)),(4,.x (.c (.loc 1 0))),(5,.i 0)],ck:=[.cells [.i 0,.pd (.str []),.pd (.v (Value.slice none 0 0))] 90,.cells [.i 0,.pd (.str []),.pd (.v (Value.slice none 0 0))] 90],kn:=[3] }
theorem J4 (h:aS s bB=true):ak Tryz.prog 131 [.s s] [] (.tup [.agg [.i 2,.pd (.str (bf s bB)),jc],.b (bW ⟨2,bf s bB,[]⟩)]) []:=by
 refine dg mb Tryz.func131 (.ite (aS s [(114:UInt8),97,105,115,101,58]) (.need ((0:Int)≤6∧(6:Int)≤(s.length:Int)) (.ret (.tup [.agg [.i 2,.pd (.str ((aw s (some (6:Int)) none).2)),.pd (.v (Value.slice none 0 0))],.p (.bool (bW { kind:=(2:Int),name:=(aw s (some (6:Int)) none).2,expr:=[] }))]) [])) (.ite (aS s [(115:UInt8),101,110,100,58]) (.need ((0:Int)≤5∧(5:Int)≤(s.length:Int)) (.ret (.tup [.agg [.i 3,.pd (.str ((aw s (some (5:Int)) none).2)),.pd (.v (Value.slice none 0 0))],.p (.bool (bW { kind:=(3:Int),name:=(aw s (some (5:Int)) none).2,expr:=[] }))]) [])) (.stop zUg1 (zUg2 s)))) fun Γ=>?_
 obtain ⟨g1,g2⟩:=B6 h
 refine ⟨fun _=>⟨by omega,?_⟩,fun h'=>absurd h (by rw [show aS s bB=false from h']; simp)⟩
 rw [nH,g2]; exact ⟨rfl,rfl⟩
theorem LC (h0:aS s bB=false) (h:aS s cv=true):ak Tryz.prog 131 [.s s] [] (.tup [.agg [.i 3,.pd (.str (bf s cv)),jc],.b (bW ⟨3,bf s cv,[]⟩)]) []:=by
 refine dg mb Tryz.func131 (.ite (aS s [(114:UInt8),97,105,115,101,58]) (.need ((0:Int)≤6∧(6:Int)≤(s.length:Int)) (.ret (.tup [.agg [.i 2,.pd (.str ((aw s (some (6:Int)) none).2)),.pd (.v (Value.slice none 0 0))],.p (.bool (bW { kind:=(2:Int),name:=(aw s (some (6:Int)) none).2,expr:=[] }))]) [])) (.ite (aS s [(115:UInt8),101,110,100,58]) (.need ((0:Int)≤5∧(5:Int)≤(s.length:Int)) (.ret (.tup [.agg [.i 3,.pd (.str ((aw s (some (5:Int)) none).2)),.pd (.v (Value.slice none 0 0))],.p (.bool (bW { kind:=(3:Int),name:=(aw s (some (5:Int)) none).2,expr:=[] }))]) [])) (.stop zUg1 (zUg2 s)))) fun Γ=>?_
 obtain ⟨g1,g2⟩:=GU h
 refine ⟨fun h'=>absurd (show aS s bB=true from h') (by rw [h0]; simp),fun _=>⟨fun _=>⟨by omega,?_⟩,fun h'=>absurd h (by rw [show aS s cv=false from h']; simp)⟩⟩
 rw [nH,g2]; exact ⟨rfl,rfl⟩
theorem KK {s:Str} {k:Nat} (hk:k<s.length) (hb:∀ c∈s.take k,(c==61)=false) (h:(s.getD k 0==61)=true):df s=true∧da s=s.take k∧bO s=s.drop (k+1):=by
 have h1:s.getD k 0=s[k]:=by simp [List.getD_eq_getElem?_getD,hk]
 rw [h1] at h
 have hd:s.drop k=61::s.drop (k+1):=by rw [ch hk,eq_of_beq h]
 have hs:s=s.take k++61::s.drop (k+1):=by rw [← hd,c7]
 have ha:∀ x∈s.take k,(!(x==(61:UInt8)))=true:=fun x hx=>by rw [hb x hx]; rfl
 refine ⟨?_,?_,?_⟩
 · unfold df; rw [di]; exact ⟨s[k],dY hk,h⟩
 · unfold da
   conv=>lhs; rw [hs]
   rw [fj ha]; simp
 · unfold bO
   conv=>lhs; rw [hs]
   rw [fk ha]; simp
theorem Nu {s:Str} (hb:∀ c∈s,(c==61)=false):df s=false:=by
 unfold df; rw [dq]; intro x hx; rw [hb x hx]; simp
theorem wq {s:Str} {k:Nat} (hk:k<s.length) (hb:∀ c∈s.take k,(c==61)=false) (h:(s.getD k 0==61)=false):∀ c∈s.take (k+1),(c==61)=false:=by
 intro c hc
 rw [List.take_add_one,bz] at hc
 rcases hc with hc | hc
 · exact hb c hc
 · rw [List.getElem?_eq_getElem hk] at hc
   simp only [Option.toList_some,aY] at hc
   subst hc
   rw [← h]; simp [List.getD_eq_getElem?_getD,hk]
theorem xu (c:UInt8):(((c.toNat:Nat):Int) != 61) = !(c==61):=by
 rw [bne,bV]
 simp only [aE,beq_eq_false_iff_ne,ne_eq]
 constructor
 · rintro h rfl; exact h rfl
 · intro h e; apply h; apply cy.1; have:((c.toNat:Nat):Int)=61:=e
   show c.toNat=61; omega
abbrev zUg3 (b:Nat):ST:={ n:=63,fr:=[(0,.p (.str a)),(2,.x (.c (.loc 0 0))),(3,.p (.bool false)),(4,.x (.c (.loc 1 0))),(5,.i b)],ck:=[.cells [.i 0,.pd (.str []),.pd (.v (Value.slice none 0 0))] 90,.cells [.i 0,.pd (.str []),.pd (.v (Value.slice none 0 0))] 90],kn:=[3] }
theorem H7 (hs:s.length≤1048576) (hp:df s=true) (hr:bC (bO s)):∀ (n k:Nat),s.length - k≤n→k≤s.length→(∀ c∈s.take k,(c==61)=false) →
 J Tryz.prog 131 (az Tryz.f131) Γ (Eq2 (.tup [.agg [.i 1,.pd (.str (da s)),.own 0],.b (bW ⟨1,da s,(aO (bO s)).1⟩)]) [.own 92 .cell (aO (bO s)).1]) zUg1 ((zUg3 s k)):=by
 have hL:ab s=(s.length:Int):=rfl
 intro n
 induction n with
 | zero=>?_
 | succ n ih=>?_
 all_goals
  intro k hn hk hb
  refine jg vO Tryz.func131 (let x4:=(IntKind.wrap .i64 ((k:Int)+1)); let x1:=((aw s (some x4) none).2); let x3:=(Value.slice none 0 0); let x2:Tree:=(.ret (.tup [.agg [.i 0,.pd (.str []),.pd (.v x3)],.p (.bool false)]) []); .need (decide ((k:Int)<ab s)=true→(0:Int)≤(k:Int)∧(k:Int)<ab s) (.ite (decide ((k:Int)<ab s)&&(↑((List.getD s k (0:UInt8)).toNat):Int) != 61) (.stop zUg1 { n:=63,fr:=[(0,.p (.str s)),(2,.x (.c (.loc 0 0))),(3,.p (.bool false)),(4,.x (.c (.loc 1 0))),(5,.i x4)],ck:=[.cells [.i 0,.pd (.str []),.pd (.v x3)] 90,.cells [.i 0,.pd (.str []),.pd (.v x3)] 90],kn:=[3] }) (.ite ((k:Int)==ab s) x2 (.need ((0:Int)≤IntKind.wrap .i64 ((k:Int)+1)∧IntKind.wrap .i64 ((k:Int)+1)≤(s.length:Int)) (.need (bC x1) (.ite false x2 (.need ((0:Int)≤(k:Int)∧(k:Int)≤(s.length:Int)) (.ret (.tup [.agg [.i 1,.pd (.str ((aw s none (some (k:Int))).2)),.own 0],.p (.bool (bW { kind:=(1:Int),name:=(aw s none (some (k:Int))).2,expr:=(aO x1).1 }))]) [.own 92 .cell ((aO x1).1)])))))))) ?_
  conv=>zeta
  have hend:k≠s.length:=fun e=>by
   subst e
   rw [eM] at hb
   rw [Nu hb] at hp; cases hp
  have hk':k<s.length:=by omega
  have hg:((k:Int).toNat)=k:=aI k
  refine ⟨fun _=>by omega,fun hc=>?_,fun hc=>?_⟩
  · rw [af] at hc
    have h2:(s.getD k 0==61)=false:=nt (by rw [← xu]; exact hc.2)
    rw [cU (by omega)]
    first
    | (exfalso; omega)
    | exact ih (k+1) (by omega) (by omega) (wq hk' hb h2)
  · have h2:(s.getD k 0==61)=true:=by
     rw [decide_eq_true (show (k:Int)<ab s by omega),cf] at hc
     exact nf (by rw [← xu]; exact hc)
    obtain ⟨_,g1,g2⟩:=KK hk' hb h2
    refine ⟨fun hc2=>absurd (eq_of_beq hc2) (by omega),fun _=>?_⟩
    rw [cU (by omega),nH,aI,← g2]
    refine ⟨by omega,hr,fun x=>Bool.noConfusion x,fun _=>⟨by omega,?_⟩⟩
    rw [yn,aI,← g1]; exact ⟨rfl,rfl⟩
theorem Iz (hs:s.length≤1048576) (hr:¬(df s=true∧bC (bO s))):∀ (n k:Nat),s.length - k≤n→k≤s.length→(∀ c∈s.take k,(c==61)=false) →
 J Tryz.prog 131 (az Tryz.f131) Γ (Eq2 (.tup [.agg [.i 0,.pd (.str []),jc],.b false]) []) zUg1 ((zUg3 s k)):=by
 have hL:ab s=(s.length:Int):=rfl
 intro n
 induction n with
 | zero=>?_
 | succ n ih=>?_
 all_goals
  intro k hn hk hb
  refine jg mb Tryz.func131 (let x3:=(Value.slice none 0 0); let x1:Tree:=(.ret (.tup [.agg [.i 0,.pd (.str []),.pd (.v x3)],.p (.bool false)]) []); let x2:=(IntKind.wrap .i64 ((k:Int)+1)); .need (decide ((k:Int)<ab s)=true→(0:Int)≤(k:Int)∧(k:Int)<ab s) (.ite (decide ((k:Int)<ab s)&&(↑((List.getD s k (0:UInt8)).toNat):Int) != 61) (.stop zUg1 { n:=63,fr:=[(0,.p (.str s)),(2,.x (.c (.loc 0 0))),(3,.p (.bool false)),(4,.x (.c (.loc 1 0))),(5,.i x2)],ck:=[.cells [.i 0,.pd (.str []),.pd (.v x3)] 90,.cells [.i 0,.pd (.str []),.pd (.v x3)] 90],kn:=[3] }) (.ite ((k:Int)==ab s) x1 (.need ((0:Int)≤IntKind.wrap .i64 ((k:Int)+1)∧IntKind.wrap .i64 ((k:Int)+1)≤(s.length:Int)) (.need (¬bC ((aw s (some x2) none).2)) (.ite (((aO ((aw s (some x2) none).2)).2).2 != (0:Int)) x1 (.need ((0:Int)≤(k:Int)∧(k:Int)≤(s.length:Int)) (.ret (.tup [.agg [.i 1,.pd (.str ((aw s none (some (k:Int))).2)),.pd (.v x3)],.p (.bool (bW { kind:=(1:Int),name:=(aw s none (some (k:Int))).2,expr:=[] }))]) [])))))))) ?_
  conv=>zeta
  refine ⟨fun hc=>?_,fun hc=>?_,fun hc=>?_⟩
  · have:=of_decide_eq_true hc; omega
  · rw [af] at hc
    have hk':k<s.length:=by have:=of_decide_eq_true hc.1; omega
    have h2:(s.getD k 0==61)=false:=nt (by rw [← xu]; exact hc.2)
    rw [cU (by omega)]
    first
    | (exfalso; omega)
    | exact ih (k+1) (by omega) (by omega) (wq hk' hb h2)
  · refine ⟨fun _=>⟨rfl,rfl⟩,fun hne=>?_⟩
    have hk':k<s.length:=by
     have:(k:Int)≠ab s:=by simpa using hne
     omega
    have h2:(s.getD k 0==61)=true:=by
     rw [decide_eq_true (show (k:Int)<ab s by omega),cf] at hc
     exact nf (by rw [← xu]; exact hc)
    obtain ⟨g0,g1,g2⟩:=KK hk' hb h2
    rw [cU (by omega),nH,aI,← g2]
    have hr':¬bC (bO s):=fun h=>hr ⟨g0,h⟩
    refine ⟨by omega,hr',fun _=>⟨rfl,rfl⟩,fun h=>?_⟩
    exact absurd (show (aO (bO s)).2.2=0 by simpa using h) hr'
theorem NJ (hs:s.length≤1048576) (h0:aS s bB=false) (h1:aS s cv=false) (h:df s=true∧bC (bO s)) :
 ak Tryz.prog 131 [.s s] [] (.tup [.agg [.i 1,.pd (.str (da s)),.own 0],.b (bW ⟨1,da s,(aO (bO s)).1⟩)]) [.own 92 .cell (aO (bO s)).1]:=by
 refine dg vO Tryz.func131 (.ite (aS s [(114:UInt8),97,105,115,101,58]) (.need ((0:Int)≤6∧(6:Int)≤(s.length:Int)) (.ret (.tup [.agg [.i 2,.pd (.str ((aw s (some (6:Int)) none).2)),.pd (.v (Value.slice none 0 0))],.p (.bool (bW { kind:=(2:Int),name:=(aw s (some (6:Int)) none).2,expr:=[] }))]) [])) (.ite (aS s [(115:UInt8),101,110,100,58]) (.need ((0:Int)≤5∧(5:Int)≤(s.length:Int)) (.ret (.tup [.agg [.i 3,.pd (.str ((aw s (some (5:Int)) none).2)),.pd (.v (Value.slice none 0 0))],.p (.bool (bW { kind:=(3:Int),name:=(aw s (some (5:Int)) none).2,expr:=[] }))]) [])) (.stop zUg1 (zUg2 s)))) fun Γ=>?_
 refine ⟨fun h'=>absurd (show aS s bB=true from h') (by rw [h0]; simp),fun _=>⟨fun h'=>absurd (show aS s cv=true from h') (by rw [h1]; simp),fun _=>?_⟩⟩
 exact H7 s Γ hs h.1 h.2 s.length 0 (by omega) (by omega) (by simp)
theorem LV (hs:s.length≤1048576) (h0:aS s bB=false) (h1:aS s cv=false) (h:¬(df s=true∧bC (bO s))) :
 ak Tryz.prog 131 [.s s] [] (.tup [.agg [.i 0,.pd (.str []),jc],.b false]) []:=by
 refine dg mb Tryz.func131 (.ite (aS s [(114:UInt8),97,105,115,101,58]) (.need ((0:Int)≤6∧(6:Int)≤(s.length:Int)) (.ret (.tup [.agg [.i 2,.pd (.str ((aw s (some (6:Int)) none).2)),.pd (.v (Value.slice none 0 0))],.p (.bool (bW { kind:=(2:Int),name:=(aw s (some (6:Int)) none).2,expr:=[] }))]) [])) (.ite (aS s [(115:UInt8),101,110,100,58]) (.need ((0:Int)≤5∧(5:Int)≤(s.length:Int)) (.ret (.tup [.agg [.i 3,.pd (.str ((aw s (some (5:Int)) none).2)),.pd (.v (Value.slice none 0 0))],.p (.bool (bW { kind:=(3:Int),name:=(aw s (some (5:Int)) none).2,expr:=[] }))]) [])) (.stop zUg1 (zUg2 s)))) fun Γ=>?_
 refine ⟨fun h'=>absurd (show aS s bB=true from h') (by rw [h0]; simp),fun _=>⟨fun h'=>absurd (show aS s cv=true from h') (by rw [h1]; simp),fun _=>?_⟩⟩
 exact Iz s Γ hs h s.length 0 (by omega) (by omega) (by simp)
noncomputable def Cp:Ent:=(131,fun
 | [.c (.pd (.str s))],[]=>some (some (aS s bB=true),.tup [.agg [.pd (.int .i64 2),.pd (.str (bf s bB)),.pd (.v (.slice none 0 0))],.c (.pd (.bool (bW ⟨2,bf s bB,[]⟩)))],[])
 | _,_=>none)
theorem LB:EntOk Tryz.prog Cp:=entOk fun vs ck=>by
 unfold Cp; dsimp only; split
 · rename_i s; exact entS fun hp=>J4 s hp
 · exact entN
noncomputable def CM:Ent:=(131,fun
 | [.c (.pd (.str s))],[]=>some (some (aS s bB=false∧aS s cv=true),.tup [.agg [.pd (.int .i64 3),.pd (.str (bf s cv)),.pd (.v (.slice none 0 0))],.c (.pd (.bool (bW ⟨3,bf s cv,[]⟩)))],[])
 | _,_=>none)
theorem Lo:EntOk Tryz.prog CM:=entOk fun vs ck=>by
 unfold CM; dsimp only; split
 · rename_i s; exact entS fun hp=>LC s hp.1 hp.2
 · exact entN
noncomputable def CL:Ent:=(131,fun
 | [.c (.pd (.str s))],[]=>some (some (s.length≤1048576∧aS s bB=false∧aS s cv=false∧(df s=true∧bC (bO s))),.tup [.agg [.pd (.int .i64 1),.pd (.str (da s)),.own 0],.c (.pd (.bool (bW ⟨1,da s,(aO (bO s)).1⟩)))],[.own 92 .cell (aO (bO s)).1])
 | _,_=>none)
theorem Mg:EntOk Tryz.prog CL:=entOk fun vs ck=>by
 unfold CL; dsimp only; split
 · rename_i s; exact entS fun hp=>NJ s hp.1 hp.2.1 hp.2.2.1 hp.2.2.2
 · exact entN
noncomputable def C5:Ent:=(131,fun
 | [.c (.pd (.str s))],[]=>some (some (s.length≤1048576∧aS s bB=false∧aS s cv=false∧¬(df s=true∧bC (bO s))),.tup [.agg [.pd (.int .i64 0),.pd (.str []),.pd (.v (.slice none 0 0))],.c (.pd (.bool false))],[])
 | _,_=>none)
theorem Mn:EntOk Tryz.prog C5:=entOk fun vs ck=>by
 unfold C5; dsimp only; split
 · rename_i s; exact entS fun hp=>LV s hp.1 hp.2.1 hp.2.2.1 hp.2.2.2
 · exact entN
end Go.Proofs.YtpfidgnkokidoaaGreatDoor

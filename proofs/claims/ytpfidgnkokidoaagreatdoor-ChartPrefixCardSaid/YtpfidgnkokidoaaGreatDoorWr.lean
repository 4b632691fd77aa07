/- Contracts: the program's charts read. Conditions: none. -/
import Derived.Test.YtpfidgnkokidoaaGreatDoorWn
import Derived.Test.YtpfidgnkokidoaaGreatDoorWp
import Derived.Test.YtpfidgnkokidoaaGreatDoorXb
namespace Go.Proofs.YtpfidgnkokidoaaGreatDoor
open Go Go.Ev
set_option maxRecDepth 100000
/-! ### the kinds of lines, by their functions -/
abbrev zJ8Wr := J Tryz.prog 8 (aE Tryz.f8)
def iG : List Nat := [34, 35, 36, 37, 38, 39, 40, 41, 42, 43, 44, 45, 46]
variable (s : Str) (ls : List Str) (c : Chart) (d : Int) (k : Nat) (W : List Str) (w0 : Str) (g : Nat) (vs : List SX) (a : Chart) (ck : List Chunk) (w : List Str) (Γ : Ctx)
noncomputable def GC (c : Chart) (d : Int) (w : List Str) : Option Chart :=
 if g = 34 then iz c d w else if g = 35 then lF c d w else if g = 36 then jF c d w else if g = 37 then gI c d w else if g = 38 then aD 1 1 c d w else if g = 39 then aD 3 1 c d w else if g = 40 then aD 4 1 c d w else if g = 41 then aD 2 2 c d w else if g = 42 then aD 5 2 c d w else if g = 43 then aD 6 2 c d w else if g = 44 then gk c d w else if g = 45 then hU c d w else onC c d w
noncomputable def xB : Ent := (g, fun
 | [.c (.loc 0 0), .c (.pd (.lst .str w))], [.cells [.pd (.str nm), .own 1, .own 2, .own 3, .own 4, .pd (.int .i64 d)] 45, .own 9 .str ev, .own 61 .var vs, .own 64 .stat st, .own 68 .tran tr] => some (some (g ∈ iG ∧ Fit ⟨nm, ev, vs, st, tr⟩ 6001 ∧ okW w ∧ (GC g ⟨nm, ev, vs, st, tr⟩ d w).isSome = true), .x (.c (.pd (.bool true))), [.cells [.pd (.str (got (GC g ⟨nm, ev, vs, st, tr⟩ d w)).name), .own 5, .own 6, .own 7, .own 8, .pd (.int .i64 d)] 45, .dead, .dead, .dead, .dead, .own 9 .str (got (GC g ⟨nm, ev, vs, st, tr⟩ d w)).events, .own 61 .var (got (GC g ⟨nm, ev, vs, st, tr⟩ d w)).vars, .own 64 .stat (got (GC g ⟨nm, ev, vs, st, tr⟩ d w)).states, .own 68 .tran (got (GC g ⟨nm, ev, vs, st, tr⟩ d w)).trans])
 | _, _ => none)
noncomputable def wH : Ent := (g, fun
 | [.c (.loc 0 0), .c (.pd (.lst .str w))], [.cells [.pd (.str nm), .own 1, .own 2, .own 3, .own 4, .pd (.int .i64 d)] 45, .own 9 .str ev, .own 61 .var vs, .own 64 .stat st, .own 68 .tran tr] => some (some (g ∈ iG ∧ Fit ⟨nm, ev, vs, st, tr⟩ 6001 ∧ okW w ∧ (GC g ⟨nm, ev, vs, st, tr⟩ d w).isSome = false), .x (.c (.pd (.bool false))), [.dead, .dead, .dead, .dead, .dead])
 | _, _ => none)
noncomputable def Bc : Cfg := ⟨bn, [xB g]⟩
noncomputable def y9 : Cfg := ⟨bn, [wH g]⟩
theorem lZ {g : Nat} (h : g ∈ iG) : g = 34 ∨ g = 35 ∨ g = 36 ∨ g = 37 ∨ g = 38 ∨ g = 39 ∨ g = 40 ∨ g = 41 ∨ g = 42 ∨ g = 43 ∨ g = 44 ∨ g = 45 ∨ g = 46 := by simpa [iG] using h
theorem D1 (p : Option Prop) (ret : SV) (ck' : List Chunk) (h : (wH g).2 vs ck = some (p, ret, ck')) (hp : Holds p) : ah Tryz.prog (wH g).1 vs ck ret ck' := by
 unfold wH at h
 simp only at h
 split at h
 · rename_i w nm d ev vs st tr
   simp only [aa, ab] at h
   obtain ⟨rfl, rfl, rfl⟩ := h
   obtain ⟨hg, h1, h2, h3⟩ := hp
   rcases lZ hg with rfl | rfl | rfl | rfl | rfl | rfl | rfl | rfl | rfl | rfl | rfl | rfl | rfl
   · exact Gm ⟨nm, ev, vs, st, tr⟩ d w h1 h3
   · exact Fq ⟨nm, ev, vs, st, tr⟩ d w h1 h2 h3
   · exact Gt ⟨nm, ev, vs, st, tr⟩ d w h1 h3
   · exact F3 ⟨nm, ev, vs, st, tr⟩ d w h1 h2 h3
   · exact BH ⟨nm, ev, vs, st, tr⟩ d w h1 h3
   · exact Ex ⟨nm, ev, vs, st, tr⟩ d w h1 h3
   · exact BW ⟨nm, ev, vs, st, tr⟩ d w h1 h3
   · exact F2 ⟨nm, ev, vs, st, tr⟩ d w h1 h3
   · exact xO ⟨nm, ev, vs, st, tr⟩ d w h1 h3
   · exact EA ⟨nm, ev, vs, st, tr⟩ d w h1 h3
   · exact GQ ⟨nm, ev, vs, st, tr⟩ d w h1 h3
   · exact GB ⟨nm, ev, vs, st, tr⟩ d w h1 h3
   · exact GU ⟨nm, ev, vs, st, tr⟩ d w h1 h3
 · simp at h
theorem Ae : ag Tryz.prog (y9 g).tab := ag.cons (D1 g) ag.nil
theorem E7 (p : Option Prop) (ret : SV) (ck' : List Chunk) (h : (xB g).2 vs ck = some (p, ret, ck')) (hp : Holds p) : ah Tryz.prog (xB g).1 vs ck ret ck' := by
 unfold xB at h
 simp only at h
 split at h
 · rename_i w nm d ev vs st tr
   simp only [aa, ab] at h
   obtain ⟨rfl, rfl, rfl⟩ := h
   obtain ⟨hg, h1, h2, h3⟩ := hp
   rcases lZ hg with rfl | rfl | rfl | rfl | rfl | rfl | rfl | rfl | rfl | rfl | rfl | rfl | rfl
   · exact FW ⟨nm, ev, vs, st, tr⟩ d w h1 h3
   · exact E9 ⟨nm, ev, vs, st, tr⟩ d w h1 h2 h3
   · exact FQ ⟨nm, ev, vs, st, tr⟩ d w h1 h3
   · exact Fo ⟨nm, ev, vs, st, tr⟩ d w h1 h2 h3
   · exact BR ⟨nm, ev, vs, st, tr⟩ d w h1 h3
   · exact EM ⟨nm, ev, vs, st, tr⟩ d w h1 h3
   · exact BO ⟨nm, ev, vs, st, tr⟩ d w h1 h3
   · exact FG ⟨nm, ev, vs, st, tr⟩ d w h1 h3
   · exact wS ⟨nm, ev, vs, st, tr⟩ d w h1 h3
   · exact DV ⟨nm, ev, vs, st, tr⟩ d w h1 h3
   · exact GJ ⟨nm, ev, vs, st, tr⟩ d w h1 h3
   · exact GM ⟨nm, ev, vs, st, tr⟩ d w h1 h3
   · exact GR ⟨nm, ev, vs, st, tr⟩ d w h1 h3
 · simp at h
theorem AD : ag Tryz.prog (Bc g).tab := ag.cons (E7 g) ag.nil
/-! ### the loop over the lines -/
def DA : Cfg := ⟨bn, [oK, l8, na]⟩
theorem Df : ag Tryz.prog DA.tab := (ag.cons AY (ag.cons qK (ag.cons wj ag.nil)))
def yz : Cfg := ⟨bn, [wq, fe]⟩
theorem AB : ag Tryz.prog yz.tab := (ag.cons DO (ag.cons dS ag.nil))
def tz : Cfg := ⟨bn, [wR, fe]⟩
theorem qP : ag Tryz.prog tz.tab := (ag.cons EF (ag.cons dS ag.nil))
def CpQ : Out := fun v k => (dR s → v = .tup [.agg [.pd (.str (bf s).1.name), .own 0, .own 1, .own 2, .own 3], .i 0, .i 0] ∧ k = [.own 9 .str (bf s).1.events, .own 61 .var (bf s).1.vars, .own 64 .stat (bf s).1.states, .own 68 .tran (bf s).1.trans]) ∧ (¬ dR s → v = .tup [.agg [.pd (.str []), .pd (.v (.slice none 0 0)), .pd (.v (.slice none 0 0)), .pd (.v (.slice none 0 0)), .pd (.v (.slice none 0 0))], .i (bf s).2.1, .i (bf s).2.2] ∧ k = [])
theorem CpQ.no {s : Str} {n e : Int} (h : bf s = (dh, n, e)) (he : e ≠ 0) : CpQ s (.tup [.agg [.pd (.str []), .pd (.v (.slice none 0 0)), .pd (.v (.slice none 0 0)), .pd (.v (.slice none 0 0)), .pd (.v (.slice none 0 0))], .i n, .i e]) [] := by
 refine ⟨fun hr => absurd ?_ he, fun _ => by rw [h]; exact ⟨rfl, rfl⟩⟩
 have h2 : (bf s).2.2 = 0 := hr
 rw [h] at h2; exact h2
abbrev zWr13 : List Chunk := [.own 9 .str a.events, .own 61 .var a.vars, .own 64 .stat a.states, .own 68 .tran a.trans]
theorem CpQ.yes {s : Str} {c : Chart} {v : SV} {k : List Chunk} (h : bf s = (c, 0, 0)) (hv : v = .tup [.agg [.pd (.str c.name), .own 0, .own 1, .own 2, .own 3], .i 0, .i 0]) (hk : k = (zWr13 c)) : CpQ s v k := by
 refine ⟨fun _ => by rw [h]; exact ⟨hv, hk⟩, fun hn => absurd ?_ hn⟩
 show (bf s).2.2 = 0; rw [h]
def fU : Prop := s.length ≤ 6000 ∧ cm s = ls ∧ di dh 0 ls = di c k (ls.drop k) ∧ Fit c k ∧ k ≤ ls.length
theorem fU.len {s : Str} {ls : List Str} {c : Chart} {k : Nat} (h : fU s ls c k) : ls.length ≤ 6001 := by
 have := qG s; rw [h.2.1] at this; have := h.1; omega
theorem fU.line {s : Str} {ls : List Str} {c : Chart} {k : Nat} (h : fU s ls c k) (hk : k < ls.length) : (ETy.get .str ls k).length ≤ 6000 := by
 have h1 := List.mem_of_getElem? (ETy.getElem?_get (t := .str) hk)
 have h2 : ETy.get .str ls k ∈ cm s := by rw [h.2.1]; exact h1
 have := vr h2; have := h.1; omega
theorem fU.bad {s : Str} {ls : List Str} {c : Chart} {k : Nat} (h : fU s ls c k) (hk : k < ls.length) (hl : dE c k (ETy.get .str ls k) = none) : CpQ s (.tup [.agg [.pd (.str []), .pd (.v (.slice none 0 0)), .pd (.v (.slice none 0 0)), .pd (.v (.slice none 0 0)), .pd (.v (.slice none 0 0))], .i (IntKind.wrap .i64 ((k : Int) + 1)), .i 1]) [] := by
 have hw : IntKind.wrap .i64 ((k : Int) + 1) = (k : Int) + 1 := by rw [cg (by have := h.len; omega) (by have := h.len; omega)]
 rw [hw]
 refine CpQ.no ?_ (by decide)
 have e : di dh 0 (cm s) = (dh, some k) := by rw [h.2.1, h.2.2.1, hO (t := .str) hk, di, hl]
 rw [bf, if_neg (by have := h.1; omega), e]
theorem fU.next {s : Str} {ls : List Str} {c c' : Chart} {k : Nat} (h : fU s ls c k) (hk : k < ls.length) (hl : dE c k (ETy.get .str ls k) = some c') : fU s ls c' (k + 1) := by
 refine ⟨h.1, h.2.1, ?_, h.2.2.2.1.line (h.line hk) hl, by omega⟩
 rw [h.2.2.1, hO (t := .str) hk, di, hl]
theorem fU.done {s : Str} {ls : List Str} {c : Chart} {k : Nat} (h : fU s ls c k) (hk : ¬ k < ls.length) : bf s = (c, 0, 0) := by
 have e : di dh 0 (cm s) = (c, none) := by rw [h.2.1, h.2.2.1, gU hk]; rfl
 rw [bf, if_neg (by have := h.1; omega), e]
theorem Ao {l : Str} (h : fk l = true) (hl : l.length ≤ 6000) : okW (bm l) := by
 intro x hx
 have h1 := wJ (ai.1 h x hx)
 refine ⟨?_, De h1 fun c hc => ?_⟩
 · have := kP (l.drop (bt l)) [] x hx
   simp only [au, ba] at this; omega
 · simp only [ej, af, decide_eq_true_eq] at hc
   exact decide_eq_true (by omega)
theorem j8 : ∀ (rest : List UInt8) (cur : Str), (bS cur rest).length ≤ rest.length + 1
 | [], cur => by simp [bS]
 | c :: r, cur => by
   unfold bS
   cases ((c.toNat : Int) == 32)
   · have := j8 r (cur ++ [c]); simp only [cond_false, ak]; omega
   · have := j8 r []; simp only [cond_true, ak]; omega
theorem vg (l : Str) : (bm l).length ≤ l.length + 1 := by
 have := j8 (l.drop (bt l)) []
 rw [ba] at this
 show (bS [] (l.drop (bt l))).length ≤ _; omega
abbrev zWr1 : PD := (PD.tbl [([(101 : UInt8), 118, 101, 110, 116], 34), ([(105 : UInt8), 110, 116], 35), ([(98 : UInt8), 111, 111, 108], 36), ([(112 : UInt8), 111, 105, 110, 116], 37), ([(98 : UInt8), 97, 115, 105, 99], 38), ([(98 : UInt8), 111, 116, 104], 39), ([(102 : UInt8), 105, 110, 97, 108], 40), ([(111 : UInt8), 110, 101], 41), ([(115 : UInt8), 104, 97, 108, 108, 111, 119], 42), ([(100 : UInt8), 101, 101, 112], 43), ([(101 : UInt8), 110, 116, 114, 121], 44), ([(101 : UInt8), 120, 105, 116], 45), ([(111 : UInt8), 110], 46)])
abbrev zWr7 : List PI := [.code [1, 1, 1, 1, 0, 1, 0, 0], .inLoop [1, 1, 1, 1, 0, 1, 0, 0], .inBlock 0, .code [1, 1, 1, 1, 1]]
abbrev zWr8 : List PI := [.ops [1, 1, 1, 1, 0, 1, 0, 0, 1, 1, 0, 0, 1, 1, 1, 1, 0, 0, 1, 1, 1, 1, 1] 8, .inBlock 2, .code [1, 1, 1, 1, 0, 1, 0, 0, 1, 1, 0, 0, 1, 1, 1, 1, 1], .inBlock 1, .code [1, 1, 1, 1, 0, 1, 0, 0, 1, 1, 1], .inLoop [1, 1, 1, 1, 0, 1, 0, 0], .inBlock 0, .code [1, 1, 1, 1, 1]]
theorem GS (d : Int) (k : Nat) (W : List Str) (w0 : Str) (g : Nat) (Γ : Ctx) (hF : fU s ls c k) (hk : k < ls.length) (hl : dE c k (ETy.get .str ls k) = none) : zJ8Wr Γ (CpQ s) zWr8 ({ n := 101, fr := [(2, .x (.c (.loc 0 0))), (3, .i 0), (4, .i 0), (5, .x (.c (.loc 1 0))), (6, .p zWr1), (23, .x (.c (.own 2))), (24, .i ls.length), (25, .i k), (7, .i k), (49, .p (.bool true)), (50, .x (.c (.fn (.func g) [] []))), (51, .x (.c (.loc 1 0))), (53, .p (.lst .str (((aw W (some 1) none).2)))), (54, .p (.bool false))], ck := [.cells [.pd (.str []), .pd (.v (Value.slice none 0 0)), .pd (.v (Value.slice none 0 0)), .pd (.v (Value.slice none 0 0)), .pd (.v (Value.slice none 0 0))] 27, .dead, .own 9 .str ls, .dead, .dead, .dead, .dead] }) := by
 refine jg bN Tryz.func8 (let x1 := (Value.slice none 0 0); let x2 := (IntKind.wrap .i64 ((k : Int) + 1)); .ite true (.ret (.tup [.agg [.pd (.str []), .pd (.v x1), .pd (.v x1), .pd (.v x1), .pd (.v x1)], .i x2, .i 1]) []) (.stop zWr7 { n := 101, fr := [(2, .x (.c (.loc 0 0))), (3, .i 0), (4, .i 0), (5, .x (.c (.loc 1 0))), (6, .p zWr1), (23, .x (.c (.own 2))), (24, .i ls.length), (25, .i x2)], ck := [.cells [.pd (.str []), .pd (.v x1), .pd (.v x1), .pd (.v x1), .pd (.v x1)] 27, .dead, .own 9 .str ls] })) ?_
 conv => zeta
 exact ⟨fun _ => hF.bad hk hl, fun x => Bool.noConfusion x⟩
abbrev zWr4 (b : Int) (c : List Str) : List Chunk := [.cells [.pd (.str []), .pd (.v (Value.slice none 0 0)), .pd (.v (Value.slice none 0 0)), .pd (.v (Value.slice none 0 0)), .pd (.v (Value.slice none 0 0))] 27, .cells [.pd (.str a.name), .own 3, .own 4, .own 5, .own 6, SC.i b] 45, .own 9 .str c, .own 9 .str a.events, .own 61 .var a.vars, .own 64 .stat a.states, .own 68 .tran a.trans]
abbrev zWr10 (a : List Str) (b : Nat) : List (Nat × SV) := [(2, .x (.c (.loc 0 0))), (3, .i 0), (4, .i 0), (5, .x (.c (.loc 1 0))), (6, .p (PD.tbl b7)), (23, .x (.c (.own 2))), (24, .i ((a.length : Int))), (25, .i (((b + 1 : Nat) : Int)))]
theorem GA (w0 : Str) (g : Nat) (e : Chart) (Γ : Ctx) (hF : fU s ls c k) (hk : k < ls.length) (next : zJ8Wr Γ (CpQ s) zWr7 ({ n := 101, fr := (zWr10 ls k), ck := (zWr4 e d ls) })) : zJ8Wr Γ (CpQ s) zWr8 ({ n := 101, fr := [(2, .x (.c (.loc 0 0))), (3, .i 0), (4, .i 0), (5, .x (.c (.loc 1 0))), (6, .p zWr1), (23, .x (.c (.own 2))), (24, .i ls.length), (25, .i k), (7, .i k), (49, .p (.bool true)), (50, .x (.c (.fn (.func g) [] []))), (51, .x (.c (.loc 1 0))), (53, .p (.lst .str (((aw W (some 1) none).2)))), (54, .p (.bool true))], ck := [.cells [.pd (.str []), .pd (.v (Value.slice none 0 0)), .pd (.v (Value.slice none 0 0)), .pd (.v (Value.slice none 0 0)), .pd (.v (Value.slice none 0 0))] 27, .cells [.pd (.str e.name), .own 7, .own 8, .own 9, .own 10, SC.i d] 45, .own 9 .str ls, .dead, .dead, .dead, .dead, .own 9 .str e.events, .own 61 .var e.vars, .own 64 .stat e.states, .own 68 .tran e.trans] }) := by
 refine jg bN Tryz.func8 (let x1 := (Value.slice none 0 0); let x2 := (IntKind.wrap .i64 ((k : Int) + 1)); .ite false (.ret (.tup [.agg [.pd (.str []), .pd (.v x1), .pd (.v x1), .pd (.v x1), .pd (.v x1)], .i x2, .i 1]) []) (.stop zWr7 { n := 101, fr := [(2, .x (.c (.loc 0 0))), (3, .i 0), (4, .i 0), (5, .x (.c (.loc 1 0))), (6, .p zWr1), (23, .x (.c (.own 2))), (24, .i ls.length), (25, .i x2)], ck := [.cells [.pd (.str []), .pd (.v x1), .pd (.v x1), .pd (.v x1), .pd (.v x1)] 27, .cells [.pd (.str e.name), .own 3, .own 4, .own 5, .own 6, .i d] 45, .own 9 .str ls, .own 9 .str e.events, .own 61 .var e.vars, .own 64 .stat e.states, .own 68 .tran e.trans] })) ?_
 conv => zeta
 have hw : IntKind.wrap .i64 ((k : Int) + 1) = ((k + 1 : Nat) : Int) := fW (by have := hF.len; omega)
 rw [hw]
 exact ⟨fun x => Bool.noConfusion x, fun _ => next⟩
abbrev zWr2 (b : Int) (c : List Str) : List Chunk := [.cells [.pd (.str []), .pd (.v (Value.slice none 0 0)), .pd (.v (Value.slice none 0 0)), .pd (.v (Value.slice none 0 0)), .pd (.v (Value.slice none 0 0))] 27, .cells [.pd (.str a.name), .own 3, .own 4, .own 5, .own 6, .i b] 45, .own 9 .str c, .own 9 .str a.events, .own 61 .var a.vars, .own 64 .stat a.states, .own 68 .tran a.trans]
abbrev zWr3 : List PI := [.ops [1, 1, 1, 1, 0, 1, 0, 0, 1, 1, 0, 0, 1, 1, 1, 1, 0, 0, 1, 1, 1, 1, 0] 4, .code [1, 1, 1, 1, 0, 1, 0, 0, 1, 1, 0, 0, 1, 1, 1, 1, 0, 0, 1, 1, 1, 1, 1], .inBlock 2, .code [1, 1, 1, 1, 0, 1, 0, 0, 1, 1, 0, 0, 1, 1, 1, 1, 1], .inBlock 1, .code [1, 1, 1, 1, 0, 1, 0, 0, 1, 1, 1], .inLoop [1, 1, 1, 1, 0, 1, 0, 0], .inBlock 0, .code [1, 1, 1, 1, 1]]
abbrev zWr5 (a : List Str) (b : Nat) (c : Str) (d : Chart) (e : Int) (f : List Str) : ST := { n := 101, fr := [(2, .x (.c (.loc 0 0))), (3, .i 0), (4, .i 0), (5, .x (.c (.loc 1 0))), (6, .p (PD.tbl b7)), (23, .x (.c (.own 2))), (24, .i a.length), (25, .i b), (7, .i b), (10, .x (.c (.own 7))), (42, .p (PD.tbl b7)), (45, .p (.str c))], ck := [.cells [.pd (.str []), .pd (.v (Value.slice none 0 0)), .pd (.v (Value.slice none 0 0)), .pd (.v (Value.slice none 0 0)), .pd (.v (Value.slice none 0 0))] 27, .cells [.pd (.str d.name), .own 3, .own 4, .own 5, .own 6, SC.i e] 45, .own 9 .str a, .own 9 .str d.events, .own 61 .var d.vars, .own 64 .stat d.states, .own 68 .tran d.trans, .own 9 .str f] }
abbrev zWr6 (b : Int) (c : List Str) : List Chunk := [.cells [.pd (.str []), .pd (.v (Value.slice none 0 0)), .pd (.v (Value.slice none 0 0)), .pd (.v (Value.slice none 0 0)), .pd (.v (Value.slice none 0 0))] 27, .cells [.pd (.str a.name), .own 3, .own 4, .own 5, .own 6, SC.i b] 45, .own 9 .str c, .own 9 .str a.events, .own 61 .var a.vars, .own 64 .stat a.states, .own 68 .tran a.trans, .dead]
abbrev zWr9 : List PI := [.ops [1, 1, 1, 1, 0, 1, 0, 0, 1, 1, 0, 0, 1, 1, 1, 1, 0, 0, 1, 1, 1, 1, 0] 5, .code [1, 1, 1, 1, 0, 1, 0, 0, 1, 1, 0, 0, 1, 1, 1, 1, 0, 0, 1, 1, 1, 1, 1], .inBlock 2, .code [1, 1, 1, 1, 0, 1, 0, 0, 1, 1, 0, 0, 1, 1, 1, 1, 1], .inBlock 1, .code [1, 1, 1, 1, 0, 1, 0, 0, 1, 1, 1], .inLoop [1, 1, 1, 1, 0, 1, 0, 0], .inBlock 0, .code [1, 1, 1, 1, 1]]
abbrev zWr11 : List PI := [.ops [1, 1, 1, 1, 0, 1, 0, 0, 1, 1, 0, 0, 1, 1, 1, 1, 0, 0, 1, 1, 1, 1, 1] 1, .inBlock 2, .code [1, 1, 1, 1, 0, 1, 0, 0, 1, 1, 0, 0, 1, 1, 1, 1, 1], .inBlock 1, .code [1, 1, 1, 1, 0, 1, 0, 0, 1, 1, 1], .inLoop [1, 1, 1, 1, 0, 1, 0, 0], .inBlock 0, .code [1, 1, 1, 1, 1]]
abbrev zWr14 (a : List Str) (b : Nat) (c : List Str) (d : Str) (e : Chart) (f : Int) : ST := { n := 101, fr := [(2, .x (.c (.loc 0 0))), (3, .i 0), (4, .i 0), (5, .x (.c (.loc 1 0))), (6, .p (PD.tbl b7)), (23, .x (.c (.own 2))), (24, .i a.length), (25, .i b), (7, .i b), (10, .p (.lst .str c)), (42, .p (PD.tbl b7)), (45, .p (.str d))], ck := (zWr6 e f a) }
theorem EN (hg : ee b7 w0 = some g) (hcall : zJ8Wr Γ (CpQ s) [.ops [1, 1, 1, 1, 0, 1, 0, 0, 1, 1, 0, 0, 1, 1, 1, 1, 0, 0, 1, 1, 1, 1, 1] 2, .inBlock 2, .code [1, 1, 1, 1, 0, 1, 0, 0, 1, 1, 0, 0, 1, 1, 1, 1, 1], .inBlock 1, .code [1, 1, 1, 1, 0, 1, 0, 0, 1, 1, 1], .inLoop [1, 1, 1, 1, 0, 1, 0, 0], .inBlock 0, .code [1, 1, 1, 1, 1]] ({ n := 101, fr := [(2, .x (.c (.loc 0 0))), (3, .i 0), (4, .i 0), (5, .x (.c (.loc 1 0))), (6, .p zWr1), (23, .x (.c (.own 2))), (24, .i ls.length), (25, .i k), (7, .i k), (10, .p (.lst .str W)), (13, .x (.c (.fn (.func g) [] []))), (47, .x (.c (.fn (.func g) [] []))), (48, .p (.bool true))], ck := (zWr2 c d ls) })) : zJ8Wr Γ (CpQ s) zWr3 ((zWr5 ls k w0 c d W)) := by
 have h2 : zJ8Wr Γ (CpQ s) zWr9 ({ n := 101, fr := [(2, .x (.c (.loc 0 0))), (3, .i 0), (4, .i 0), (5, .x (.c (.loc 1 0))), (6, .p (PD.tbl b7)), (23, .x (.c (.own 2))), (24, .i ls.length), (25, .i k), (7, .i k), (10, .p (.lst .str W)), (42, .p (PD.tbl b7)), (45, .p (.str w0)), (46, .x (.c (.fn (.func g) [] [])))], ck := (zWr6 c d ls) }) := by
  refine jg bN Tryz.func8 (.stop zWr11 { n := 101, fr := [(2, .x (.c (.loc 0 0))), (3, .i 0), (4, .i 0), (5, .x (.c (.loc 1 0))), (6, .p zWr1), (23, .x (.c (.own 2))), (24, .i ls.length), (25, .i k), (7, .i k), (10, .p (.lst .str W)), (13, .x (.c (.fn (.func g) [] []))), (47, .x (.c (.fn (.func g) [] [])))], ck := (zWr2 c d ls) }) ?_
  exact J.fnNil (d := 48) (b := true) (by kernel_rfl) hcall
 have h1 : zJ8Wr Γ (CpQ s) zWr3 ((zWr14 ls k W w0 c d)) := by
  refine J.lookup (d := 46) (m := 42) (kx := .tmp 45) (et := 53) (l := b7) (s := w0) (z := .v .nilFunc) (zv := .nilFunc) (by kernel_rfl) rfl rfl rfl (fun hn => by rw [hg] at hn; cases hn) ?_
  rw [hg]; exact h2
 exact J.freeze bn [7] (by kernel_rfl) h1
abbrev zWr12 : List PI := [.ops [1, 1, 1, 1, 0, 1, 0, 0, 1, 1, 0, 0, 1, 1, 1, 1, 0, 0, 1, 1, 1, 1, 1] 7, .inBlock 2, .code [1, 1, 1, 1, 0, 1, 0, 0, 1, 1, 0, 0, 1, 1, 1, 1, 1], .inBlock 1, .code [1, 1, 1, 1, 0, 1, 0, 0, 1, 1, 1], .inLoop [1, 1, 1, 1, 0, 1, 0, 0], .inBlock 0, .code [1, 1, 1, 1, 1]]
theorem xA (hF : fU s ls c k) (hk : k < ls.length) (hW : 1 ≤ W.length) (hg : ee b7 w0 = none) (hl : dE c k (ETy.get .str ls k) = none) : zJ8Wr Γ (CpQ s) zWr3 ((zWr5 ls k w0 c d W)) := by
 have h3 : zJ8Wr Γ (CpQ s) zWr8 ({ n := 101, fr := [(2, .x (.c (.loc 0 0))), (3, .i 0), (4, .i 0), (5, .x (.c (.loc 1 0))), (6, .p zWr1), (23, .x (.c (.own 2))), (24, .i ls.length), (25, .i k), (7, .i k), (49, .p (.bool false)), (50, .grd 49 true (.p (.v Value.nilFunc))), (51, .grd 49 true (.c (.loc 1 0))), (53, .grd 49 true (.p (.lst .str ((aw W (some (1 : Int)) none).2)))), (54, .grd 49 true (.p (.bool false)))], ck := (zWr2 c d ls) }) := by
  refine jg bN Tryz.func8 (let x1 := (Value.slice none 0 0); let x2 := (IntKind.wrap .i64 ((k : Int) + 1)); .ite true (.ret (.tup [.agg [.pd (.str []), .pd (.v x1), .pd (.v x1), .pd (.v x1), .pd (.v x1)], .i x2, .i 1]) []) (.stop zWr7 { n := 101, fr := [(2, .x (.c (.loc 0 0))), (3, .i 0), (4, .i 0), (5, .x (.c (.loc 1 0))), (6, .p zWr1), (23, .x (.c (.own 2))), (24, .i ls.length), (25, .i x2)], ck := [.cells [.pd (.str []), .pd (.v x1), .pd (.v x1), .pd (.v x1), .pd (.v x1)] 27, .cells [.pd (.str c.name), .own 3, .own 4, .own 5, .own 6, .i d] 45, .own 9 .str ls, .own 9 .str c.events, .own 61 .var c.vars, .own 64 .stat c.states, .own 68 .tran c.trans] })) ?_
  conv => zeta
  exact ⟨fun _ => hF.bad hk hl, fun x => Bool.noConfusion x⟩
 have h2 : zJ8Wr Γ (CpQ s) zWr9 ({ n := 101, fr := [(2, .x (.c (.loc 0 0))), (3, .i 0), (4, .i 0), (5, .x (.c (.loc 1 0))), (6, .p (PD.tbl b7)), (23, .x (.c (.own 2))), (24, .i ls.length), (25, .i k), (7, .i k), (10, .p (.lst .str W)), (42, .p (PD.tbl b7)), (45, .p (.str w0)), (46, .p (.v Value.nilFunc))], ck := (zWr6 c d ls) }) := by
  refine jg bN Tryz.func8 (.stop zWr11 { n := 101, fr := [(2, .x (.c (.loc 0 0))), (3, .i 0), (4, .i 0), (5, .x (.c (.loc 1 0))), (6, .p zWr1), (23, .x (.c (.own 2))), (24, .i ls.length), (25, .i k), (7, .i k), (10, .p (.lst .str W)), (13, .p (.v Value.nilFunc)), (47, .p (.v Value.nilFunc))], ck := (zWr2 c d ls) }) ?_
  refine J.fnNil (d := 48) (b := false) (by kernel_rfl) ?_
  refine jg bN Tryz.func8 (.need (false = true → (0 : Int) ≤ 1 ∧ (1 : Int) ≤ (W.length : Int)) (.stop zWr12 { n := 101, fr := [(2, .x (.c (.loc 0 0))), (3, .i 0), (4, .i 0), (5, .x (.c (.loc 1 0))), (6, .p zWr1), (23, .x (.c (.own 2))), (24, .i ls.length), (25, .i k), (7, .i k), (49, .p (.bool false)), (50, .grd 49 true (.p (.v Value.nilFunc))), (51, .grd 49 true (.c (.loc 1 0))), (53, .grd 49 true (.p (.lst .str ((aw W (some (1 : Int)) none).2))))], ck := (zWr2 c d ls) })) ?_
  exact ⟨fun x => Bool.noConfusion x, J.off 1 7 (by kernel_rfl) h3⟩
 have h1 : zJ8Wr Γ (CpQ s) zWr3 ((zWr14 ls k W w0 c d)) := by
  refine J.lookup (d := 46) (m := 42) (kx := .tmp 45) (et := 53) (l := b7) (s := w0) (z := .v .nilFunc) (zv := .nilFunc) (by kernel_rfl) rfl rfl rfl (fun _ w => Tryz.zeroValue53 w) ?_
  rw [hg]; exact h2
 exact J.freeze bn [7] (by kernel_rfl) h1
theorem DX (hF : fU s ls c k) (hk : k < ls.length) (hW : 1 ≤ W.length) (hw : okW W) (hg : g ∈ iG) (ht : ee b7 w0 = some g) (hb : dE c k (ETy.get .str ls k) = GC g c d (W.drop 1)) (next : ∀ e, dE c k (ETy.get .str ls k) = some e → zJ8Wr Γ (CpQ s) zWr7 ({ n := 101, fr := (zWr10 ls k), ck := (zWr4 e d ls) })) : zJ8Wr Γ (CpQ s) zWr3 ((zWr5 ls k w0 c d W)) := by
 have hf : Fit c 6001 := hF.2.2.2.1.le (by have := hF.len; omega)
 refine EN s ls c d k W w0 g Γ ht ?_
 refine J.go (cfg := dr) bN Tryz.func8 1000 (t := (.need (true = true → (0 : Int) ≤ 1 ∧ (1 : Int) ≤ (W.length : Int)) (.stop zWr12 { n := 101, fr := [(2, .x (.c (.loc 0 0))), (3, .i 0), (4, .i 0), (5, .x (.c (.loc 1 0))), (6, .p zWr1), (23, .x (.c (.own 2))), (24, .i ls.length), (25, .i k), (7, .i k), (49, .p (.bool true)), (50, .grd 49 true (.c (.fn (.func g) [] []))), (51, .grd 49 true (.c (.loc 1 0))), (53, .grd 49 true (.p (.lst .str ((aw W (some (1 : Int)) none).2))))], ck := (zWr2 c d ls) }))) (by rcases lZ hg with rfl | rfl | rfl | rfl | rfl | rfl | rfl | rfl | rfl | rfl | rfl | rfl | rfl <;> kernel_rfl) ?_
 refine ⟨fun _ => ⟨by omega, by omega⟩, ?_⟩
 cases hs : (GC g c d (W.drop 1)).isSome
 · have hn : dE c k (ETy.get .str ls k) = none := by rw [hb]; exact Option.isSome_eq_false_iff.1 hs |> fun x => by simpa using x
   exact J.on (cfg := y9 g) (Ae g) (q := some (g ∈ iG ∧ Fit c 6001 ∧ okW (Prod.snd (aw W (some 1) none)) ∧ (GC g c d (Prod.snd (aw W (some 1) none))).isSome = false)) (by rcases lZ hg with rfl | rfl | rfl | rfl | rfl | rfl | rfl | rfl | rfl | rfl | rfl | rfl | rfl <;> kernel_rfl) (by exact ⟨hg, hf, by rw [ga]; exact hw.drop 1, by rw [ga]; exact hs⟩) (GS s ls c d k W w0 g Γ hF hk hn)
 · obtain ⟨e, he⟩ := cL.1 hs
   have hq : got (GC g c d (Prod.snd (aw W (some 1) none))) = e := by rw [ga]; exact Ca he
   have key := GA s ls c d k W w0 g (got (GC g c d (Prod.snd (aw W (some 1) none)))) Γ hF hk (by rw [hq]; exact next e (by rw [hb]; exact he))
   exact J.on (cfg := Bc g) (AD g) (q := some (g ∈ iG ∧ Fit c 6001 ∧ okW (Prod.snd (aw W (some 1) none)) ∧ (GC g c d (Prod.snd (aw W (some 1) none))).isSome = true)) (by rcases lZ hg with rfl | rfl | rfl | rfl | rfl | rfl | rfl | rfl | rfl | rfl | rfl | rfl | rfl <;> kernel_rfl) (by exact ⟨hg, hf, by rw [ga]; exact hw.drop 1, by rw [ga]; exact hs⟩) key
theorem CM {w0 : Str} (h : w0 ≠ lI ∧ w0 ≠ tT ∧ w0 ≠ oI ∧ w0 ≠ l5 ∧ w0 ≠ mz ∧ w0 ≠ o1 ∧ w0 ≠ lS ∧ w0 ≠ sM ∧ w0 ≠ js ∧ w0 ≠ oH ∧ w0 ≠ l9 ∧ w0 ≠ pF ∧ w0 ≠ wOn) : ee b7 w0 = none := by
 obtain ⟨n0, n1, n2, n3, n4, n5, n6, n7, n8, n9, n10, n11, n12⟩ := h
 have ne : ∀ a b : Str, b ≠ a → (a == b) = false := fun a b h => by rw [beq_eq_false_iff_ne]; exact fun e => h e.symm
 simp only [b7, ee]
 rw [ne _ _ n0, ne _ _ n1, ne _ _ n2, ne _ _ n3, ne _ _ n4, ne _ _ n5, ne _ _ n6, ne _ _ n7, ne _ _ n8, ne _ _ n9, ne _ _ n10, ne _ _ n11, ne _ _ n12]
 rfl
theorem AC : (∃ g, ee b7 w0 = some g ∧ g ∈ iG ∧ dY c d w0 w = GC g c d w) ∨ (ee b7 w0 = none ∧ dY c d w0 w = none) := by
 by_cases k0 : w0 = lI
 · subst k0; exact .inl ⟨34, by decide, by decide, by rw [dY, if_pos rfl]; rfl⟩
 by_cases k1 : w0 = tT
 · subst k1; exact .inl ⟨35, by decide, by decide, by rw [dY, if_neg (by decide), if_pos rfl]; rfl⟩
 by_cases k2 : w0 = oI
 · subst k2; exact .inl ⟨36, by decide, by decide, by rw [dY, if_neg (by decide), if_neg (by decide), if_pos rfl]; rfl⟩
 by_cases k3 : w0 = l5
 · subst k3; exact .inl ⟨37, by decide, by decide, by rw [dY, if_neg (by decide), if_neg (by decide), if_neg (by decide), if_pos rfl]; rfl⟩
 by_cases k4 : w0 = mz
 · subst k4; exact .inl ⟨38, by decide, by decide, by rw [dY, if_neg (by decide), if_neg (by decide), if_neg (by decide), if_neg (by decide), if_pos rfl]; rfl⟩
 by_cases k5 : w0 = o1
 · subst k5; exact .inl ⟨39, by decide, by decide, by rw [dY, if_neg (by decide), if_neg (by decide), if_neg (by decide), if_neg (by decide), if_neg (by decide), if_pos rfl]; rfl⟩
 by_cases k6 : w0 = lS
 · subst k6; exact .inl ⟨40, by decide, by decide, by rw [dY, if_neg (by decide), if_neg (by decide), if_neg (by decide), if_neg (by decide), if_neg (by decide), if_neg (by decide), if_pos rfl]; rfl⟩
 by_cases k7 : w0 = sM
 · subst k7; exact .inl ⟨41, by decide, by decide, by rw [dY, if_neg (by decide), if_neg (by decide), if_neg (by decide), if_neg (by decide), if_neg (by decide), if_neg (by decide), if_neg (by decide), if_pos rfl]; rfl⟩
 by_cases k8 : w0 = js
 · subst k8; exact .inl ⟨42, by decide, by decide, by rw [dY, if_neg (by decide), if_neg (by decide), if_neg (by decide), if_neg (by decide), if_neg (by decide), if_neg (by decide), if_neg (by decide), if_neg (by decide), if_pos rfl]; rfl⟩
 by_cases k9 : w0 = oH
 · subst k9; exact .inl ⟨43, by decide, by decide, by rw [dY, if_neg (by decide), if_neg (by decide), if_neg (by decide), if_neg (by decide), if_neg (by decide), if_neg (by decide), if_neg (by decide), if_neg (by decide), if_neg (by decide), if_pos rfl]; rfl⟩
 by_cases k10 : w0 = l9
 · subst k10; exact .inl ⟨44, by decide, by decide, by rw [dY, if_neg (by decide), if_neg (by decide), if_neg (by decide), if_neg (by decide), if_neg (by decide), if_neg (by decide), if_neg (by decide), if_neg (by decide), if_neg (by decide), if_neg (by decide), if_pos rfl]; rfl⟩
 by_cases k11 : w0 = pF
 · subst k11; exact .inl ⟨45, by decide, by decide, by rw [dY, if_neg (by decide), if_neg (by decide), if_neg (by decide), if_neg (by decide), if_neg (by decide), if_neg (by decide), if_neg (by decide), if_neg (by decide), if_neg (by decide), if_neg (by decide), if_neg (by decide), if_pos rfl]; rfl⟩
 by_cases k12 : w0 = wOn
 · subst k12; exact .inl ⟨46, by decide, by decide, by rw [dY, if_neg (by decide), if_neg (by decide), if_neg (by decide), if_neg (by decide), if_neg (by decide), if_neg (by decide), if_neg (by decide), if_neg (by decide), if_neg (by decide), if_neg (by decide), if_neg (by decide), if_neg (by decide), if_pos rfl]; rfl⟩
 exact .inr ⟨CM ⟨k0, k1, k2, k3, k4, k5, k6, k7, k8, k9, k10, k11, k12⟩, by rw [dY, if_neg k0, if_neg k1, if_neg k2, if_neg k3, if_neg k4, if_neg k5, if_neg k6, if_neg k7, if_neg k8, if_neg k9, if_neg k10, if_neg k11, if_neg k12]⟩
abbrev zWr15 (a : List Str) (b : Nat) : List (Nat × SV) := [(2, .x (.c (.loc 0 0))), (3, .i 0), (4, .i 0), (5, .x (.c (.loc 1 0))), (6, .p (PD.tbl b7)), (23, .x (.c (.own 2))), (24, .i ((a.length : Int))), (25, .i b)]
theorem AK (hF : fU s ls c k) (hk : ¬ k < ls.length) : zJ8Wr Γ (CpQ s) zWr7 ({ n := 101, fr := (zWr15 ls k), ck := (zWr4 c d ls) }) := by
 refine jg qP Tryz.func8 (let x1 := zWr1; let x3 := (Value.slice none 0 0); let x2 : List Chunk := [.cells [.pd (.str []), .pd (.v x3), .pd (.v x3), .pd (.v x3), .pd (.v x3)] 27, .cells [.pd (.str c.name), .own 3, .own 4, .own 5, .own 6, .i 0] 45, .own 9 .str ls, .own 9 .str c.events, .own 61 .var c.vars, .own 64 .stat c.states, .own 68 .tran c.trans]; let x4 : List Nat := [1, 1, 1, 1, 0, 1, 0, 0]; let x5 : List Nat := [1, 1, 1, 1, 0, 1, 0, 0, 1, 1, 0, 0, 1, 1, 1, 1, 1]; let x6 := (IntKind.wrap .i64 ((k : Int) + 1)); let x7 : Nat × SV := (2, .x (.c (.loc 0 0))); let x8 : Nat × SV := (5, .x (.c (.loc 1 0))); .ite (decide ((k : Int) < (ls.length : Int))) (.need (inRg k ls.length) (.need (k < ls.length) (.need ((ETy.get .str ls k).length ≤ 2097152 ∧ fk (ETy.get .str ls k) = false) (.ite true (.ite true (.ret (.tup [.agg [.pd (.str []), .pd (.v x3), .pd (.v x3), .pd (.v x3), .pd (.v x3)], .i x6, .i 1]) []) (.stop [.code x4, .inLoop x4, .inBlock 0, .code [1, 1, 1, 1, 1]] { n := 101, fr := [x7, (3, .i 0), (4, .i 0), x8, (6, .p x1), (23, .x (.c (.own 2))), (24, .i ls.length), (25, .i x6)], ck := x2 })) (.ite ((k : Int) == 0) (.stop [.ops [1, 1, 1, 1, 0, 1, 0, 0, 1, 1, 0, 0, 1, 1, 1, 1, 0, 0, 1, 1, 1, 0, 0] 9, .code [1, 1, 1, 1, 0, 1, 0, 0, 1, 1, 0, 0, 1, 1, 1, 1, 0, 0, 1, 1, 1, 0, 1], .inBlock 2, .code x5, .inBlock 1, .code [1, 1, 1, 1, 0, 1, 0, 0, 1, 1, 1], .inLoop x4, .inBlock 0, .code [1, 1, 1, 1, 1]] { n := 101, fr := [x7, (3, .i 0), (4, .i 0), x8, (6, .p x1), (23, .x (.c (.own 2))), (24, .i ls.length), (25, .i k), (7, .i k), (10, .p (.v x3)), (69, .p (.bool false)), (70, .grd 69 true (.p (.v x3)))], ck := x2 }) (.stop [.ops [1, 1, 1, 1, 0, 1, 0, 0, 1, 1, 0, 0, 1, 1, 1, 1, 0, 0, 1, 1, 1, 1, 0] 2, .code [1, 1, 1, 1, 0, 1, 0, 0, 1, 1, 0, 0, 1, 1, 1, 1, 0, 0, 1, 1, 1, 1, 1], .inBlock 2, .code x5, .inBlock 1, .code [1, 1, 1, 1, 0, 1, 0, 0, 1, 1, 1], .inLoop x4, .inBlock 0, .code [1, 1, 1, 1, 1]] { n := 101, fr := [x7, (3, .i 0), (4, .i 0), x8, (6, .p x1), (23, .x (.c (.own 2))), (24, .i ls.length), (25, .i k), (7, .i k), (10, .p (.v x3)), (42, .p x1), (43, .p (.v x3))], ck := x2 })))))) (.ret (.tup [.agg [.pd (.str c.name), .own 0, .own 1, .own 2, .own 3], .i 0, .i 0]) (zWr13 c))) ?_
 conv => zeta
 rw [show decide ((k : Int) < (ls.length : Int)) = false from decide_eq_false (by omega)]
 exact ⟨fun x => Bool.noConfusion x, fun _ => CpQ.yes (hF.done hk) rfl rfl⟩
theorem D3 : ∀ (n k : Nat) (c : Chart) (d : Int), ls.length - k ≤ n → fU s ls c k → zJ8Wr Γ (CpQ s) zWr7 ({ n := 101, fr := (zWr15 ls k), ck := (zWr4 c d ls) }) := by
 intro n
 induction n with
 | zero =>
   intro k c d hn hF
   exact AK s ls c d k Γ hF (by omega)
 | succ n ih =>
   intro k c d hn hF
   have hlen := hF.len
   by_cases hk : k < ls.length
   · have hll := hF.line hk
     have hw : IntKind.wrap .i64 ((k : Int) + 1) = ((k + 1 : Nat) : Int) := fW (by omega)
     have next : ∀ (d' : Int) (e : Chart), dE c k (ETy.get .str ls k) = some e → zJ8Wr Γ (CpQ s) zWr7 ({ n := 101, fr := (zWr10 ls k), ck := (zWr4 e d' ls) }) := fun d' e he => ih (k + 1) e d' (by omega) (hF.next hk he)
     have lt : decide ((k : Int) < (ls.length : Int)) = true := decide_eq_true (by omega)
     cases hok : fk (ETy.get .str ls k)
     · refine jg qP Tryz.func8 (let x1 := zWr1; let x3 := (Value.slice none 0 0); let x2 : List Chunk := [.cells [.pd (.str []), .pd (.v x3), .pd (.v x3), .pd (.v x3), .pd (.v x3)] 27, .cells [.pd (.str c.name), .own 3, .own 4, .own 5, .own 6, .i 0] 45, .own 9 .str ls, .own 9 .str c.events, .own 61 .var c.vars, .own 64 .stat c.states, .own 68 .tran c.trans]; let x4 : List Nat := [1, 1, 1, 1, 0, 1, 0, 0]; let x5 : List Nat := [1, 1, 1, 1, 0, 1, 0, 0, 1, 1, 0, 0, 1, 1, 1, 1, 1]; let x6 := (IntKind.wrap .i64 ((k : Int) + 1)); let x7 : Nat × SV := (2, .x (.c (.loc 0 0))); let x8 : Nat × SV := (5, .x (.c (.loc 1 0))); .ite (decide ((k : Int) < (ls.length : Int))) (.need (inRg k ls.length) (.need (k < ls.length) (.need ((ETy.get .str ls k).length ≤ 2097152 ∧ fk (ETy.get .str ls k) = false) (.ite true (.ite true (.ret (.tup [.agg [.pd (.str []), .pd (.v x3), .pd (.v x3), .pd (.v x3), .pd (.v x3)], .i x6, .i 1]) []) (.stop [.code x4, .inLoop x4, .inBlock 0, .code [1, 1, 1, 1, 1]] { n := 101, fr := [x7, (3, .i 0), (4, .i 0), x8, (6, .p x1), (23, .x (.c (.own 2))), (24, .i ls.length), (25, .i x6)], ck := x2 })) (.ite ((k : Int) == 0) (.stop [.ops [1, 1, 1, 1, 0, 1, 0, 0, 1, 1, 0, 0, 1, 1, 1, 1, 0, 0, 1, 1, 1, 0, 0] 9, .code [1, 1, 1, 1, 0, 1, 0, 0, 1, 1, 0, 0, 1, 1, 1, 1, 0, 0, 1, 1, 1, 0, 1], .inBlock 2, .code x5, .inBlock 1, .code [1, 1, 1, 1, 0, 1, 0, 0, 1, 1, 1], .inLoop x4, .inBlock 0, .code [1, 1, 1, 1, 1]] { n := 101, fr := [x7, (3, .i 0), (4, .i 0), x8, (6, .p x1), (23, .x (.c (.own 2))), (24, .i ls.length), (25, .i k), (7, .i k), (10, .p (.v x3)), (69, .p (.bool false)), (70, .grd 69 true (.p (.v x3)))], ck := x2 }) (.stop [.ops [1, 1, 1, 1, 0, 1, 0, 0, 1, 1, 0, 0, 1, 1, 1, 1, 0, 0, 1, 1, 1, 1, 0] 2, .code [1, 1, 1, 1, 0, 1, 0, 0, 1, 1, 0, 0, 1, 1, 1, 1, 0, 0, 1, 1, 1, 1, 1], .inBlock 2, .code x5, .inBlock 1, .code [1, 1, 1, 1, 0, 1, 0, 0, 1, 1, 1], .inLoop x4, .inBlock 0, .code [1, 1, 1, 1, 1]] { n := 101, fr := [x7, (3, .i 0), (4, .i 0), x8, (6, .p x1), (23, .x (.c (.own 2))), (24, .i ls.length), (25, .i k), (7, .i k), (10, .p (.v x3)), (42, .p x1), (43, .p (.v x3))], ck := x2 })))))) (.ret (.tup [.agg [.pd (.str c.name), .own 0, .own 1, .own 2, .own 3], .i 0, .i 0]) (zWr13 c))) ?_
       conv => zeta
       have hno : dE c k (ETy.get .str ls k) = none := by rw [dE, if_neg (by rw [hok]; simp)]
       rw [lt]
       exact ⟨fun _ => ⟨⟨by omega, by omega⟩, hk, ⟨by omega, hok⟩, fun _ => ⟨fun _ => hF.bad hk hno, fun x => Bool.noConfusion x⟩, fun x => Bool.noConfusion x⟩, fun x => Bool.noConfusion x⟩
     · refine jg AB Tryz.func8 (let x1 := zWr1; let x2 := (bm (ETy.get .str ls k)); let x3 := (Value.slice none 0 0); let x4 := (↑(bt (ETy.get .str ls k)) : Int); let x11 := (IntKind.wrap .i64 ((k : Int) + 1)); let x5 : List (Nat × SV) := [(2, .x (.c (.loc 0 0))), (3, .i 0), (4, .i 0), (5, .x (.c (.loc 1 0))), (6, .p x1), (23, .x (.c (.own 2))), (24, .i ls.length), (25, .i x11)]; let x6 : Tree := (.ret (.tup [.agg [.pd (.str []), .pd (.v x3), .pd (.v x3), .pd (.v x3), .pd (.v x3)], .i x11, .i 1]) []); let x12 : List Nat := [1, 1, 1, 1, 0, 1, 0, 0]; let x7 : List PI := [.code x12, .inLoop x12, .inBlock 0, .code [1, 1, 1, 1, 1]]; let x8 := (x4 == 0 && (↑(x2.length) : Int) == 2 && ETy.get .str x2 0 == [99, 104, 97, 114, 116]); let x9 := ((↑(x2.length) : Int) - 1); let x10 := (x4 == 0 && (↑(x2.length) : Int) == 2); .ite (decide ((k : Int) < (ls.length : Int))) (.need (inRg k ls.length) (.need (k < ls.length) (.need ((ETy.get .str ls k).length ≤ 2097152 ∧ fk (ETy.get .str ls k) = true) (.ite false (.ite false x6 (.stop x7 { n := 101, fr := x5, ck := [.cells [.pd (.str []), .pd (.v x3), .pd (.v x3), .pd (.v x3), .pd (.v x3)] 27, .cells [.pd (.str c.name), .own 3, .own 4, .own 5, .own 6, .i x4] 45, .own 9 .str ls, .own 9 .str c.events, .own 61 .var c.vars, .own 64 .stat c.states, .own 68 .tran c.trans] })) (.ite ((k : Int) == 0) (.need (x10 = true → (0 : Int) ≤ 0 ∧ (0 : Int) < (↑(x2.length) : Int)) (.need (x10 = true → 0 < x2.length) (.need (x8 = true → (0 : Int) ≤ 1 ∧ (1 : Int) < (↑(x2.length) : Int)) (.need (x8 = true → 1 < x2.length) (.need ((0 : Int) ≤ IntKind.wrap .i64 x9 ∧ IntKind.wrap .i64 x9 < (↑(x2.length) : Int)) (.need ((IntKind.wrap .i64 x9).toNat < x2.length) (.ite (!(x4 == 0 && (↑(x2.length) : Int) == 2 && ETy.get .str x2 0 == [99, 104, 97, 114, 116] && aP (ETy.get .str x2 1))) x6 (.stop x7 { n := 101, fr := x5, ck := [.cells [.pd (.str []), .pd (.v x3), .pd (.v x3), .pd (.v x3), .pd (.v x3)] 27, .cells [.pd (.str (ETy.get .str x2 ((IntKind.wrap .i64 x9).toNat))), .own 3, .own 4, .own 5, .own 6, .i x4] 45, .own 9 .str ls, .own 9 .str c.events, .own 61 .var c.vars, .own 64 .stat c.states, .own 68 .tran c.trans] })))))))) (.need ((0 : Int) ≤ 0 ∧ (0 : Int) < (↑(x2.length) : Int)) (.need (0 < x2.length) (.stop [.ops [1, 1, 1, 1, 0, 1, 0, 0, 1, 1, 0, 0, 1, 1, 1, 1, 0, 0, 1, 1, 1, 1, 0] 4, .code [1, 1, 1, 1, 0, 1, 0, 0, 1, 1, 0, 0, 1, 1, 1, 1, 0, 0, 1, 1, 1, 1, 1], .inBlock 2, .code [1, 1, 1, 1, 0, 1, 0, 0, 1, 1, 0, 0, 1, 1, 1, 1, 1], .inBlock 1, .code [1, 1, 1, 1, 0, 1, 0, 0, 1, 1, 1], .inLoop x12, .inBlock 0, .code [1, 1, 1, 1, 1]] { n := 101, fr := [(2, .x (.c (.loc 0 0))), (3, .i 0), (4, .i 0), (5, .x (.c (.loc 1 0))), (6, .p x1), (23, .x (.c (.own 2))), (24, .i ls.length), (25, .i k), (7, .i k), (10, .x (.c (.own 7))), (42, .p x1), (45, .p (.str (ETy.get .str x2 0)))], ck := [.cells [.pd (.str []), .pd (.v x3), .pd (.v x3), .pd (.v x3), .pd (.v x3)] 27, .cells [.pd (.str c.name), .own 3, .own 4, .own 5, .own 6, .i x4] 45, .own 9 .str ls, .own 9 .str c.events, .own 61 .var c.vars, .own 64 .stat c.states, .own 68 .tran c.trans, .own 9 .str x2] })))))))) (.ret (.tup [.agg [.pd (.str c.name), .own 0, .own 1, .own 2, .own 3], .i 0, .i 0]) (zWr13 c))) ?_
       conv => zeta
       have hW := Ao hok hll
       have hne : 1 ≤ (bm (ETy.get .str ls k)).length := List.length_pos_iff.2 (CU _)
       have hlc : dE c k (ETy.get .str ls k) = if k = 0 then se c (ETy.get .str ls k) else dY c (bt (ETy.get .str ls k) : Nat) (ar (bm (ETy.get .str ls k)) 0) ((bm (ETy.get .str ls k)).drop 1) := by rw [dE, if_pos hok]
       have hWl : (bm (ETy.get .str ls k)).length ≤ 6001 := by
        have := vg (ETy.get .str ls k); omega
       rw [lt]
       refine ⟨fun _ => ⟨⟨by omega, by omega⟩, hk, ⟨by omega, hok⟩, fun x => Bool.noConfusion x, fun _ => ⟨fun h0 => ?_, fun h0 => ⟨⟨by omega, by omega⟩, by omega, ?_⟩⟩⟩, fun x => Bool.noConfusion x⟩
       · have hk0 : k = 0 := by
          have : (k : Int) = 0 := by simpa using h0
          omega
         rw [if_pos hk0] at hlc
         have hix : IntKind.wrap .i64 (((bm (ETy.get .str ls k)).length : Int) - 1) = (((bm (ETy.get .str ls k)).length - 1 : Nat) : Int) := by rw [cg (by omega) (by omega)]; omega
         have two : ((((bt (ETy.get .str ls k) : Nat) : Int) == 0) && (((bm (ETy.get .str ls k)).length : Int) == 2)) = true → (bm (ETy.get .str ls k)).length = 2 := fun h => by
          rw [af] at h
          have : ((bm (ETy.get .str ls k)).length : Int) = 2 := by simpa using h.2
          omega
         have two' : (((((bt (ETy.get .str ls k) : Nat) : Int) == 0) && (((bm (ETy.get .str ls k)).length : Int) == 2)) && (ETy.get .str (bm (ETy.get .str ls k)) 0 == [99, 104, 97, 114, 116])) = true → (bm (ETy.get .str ls k)).length = 2 := fun h => by
          rw [af] at h; exact two h.1
         rw [hix, hw, bx]
         refine ⟨fun h => by have := two h; omega, fun h => by have := two h; omega, fun h => by have := two' h; omega, fun h => by have := two' h; omega, ⟨by omega, by omega⟩, by omega, fun h => ?_, fun h => ?_⟩
         · rw [← hw]
           refine hF.bad hk ?_
           rw [hlc]
           refine if_neg fun x => ?_
           have x3 : ETy.get .str (bm (ETy.get .str ls k)) 0 = [99, 104, 97, 114, 116] := x.2.2.1
           have x4 : aP (ETy.get .str (bm (ETy.get .str ls k)) 1) = true := x.2.2.2
           rw [x.1, x.2.1, x3, x4] at h
           exact absurd h (by decide)
         · have h' := nf h
           simp only [af, beq_iff_eq] at h'
           obtain ⟨⟨⟨a1, a2⟩, a3⟩, a4⟩ := h'
           have b1 : bt (ETy.get .str ls k) = 0 := by omega
           have b2 : (bm (ETy.get .str ls k)).length = 2 := by omega
           have e1 : (bm (ETy.get .str ls k)).length - 1 = 1 := by omega
           rw [e1]
           exact next ((bt (ETy.get .str ls k) : Nat) : Int) _ (by rw [hlc]; exact if_pos ⟨b1, b2, a3, a4⟩)
       · have hk0 : k ≠ 0 := fun e => by rw [e] at h0; exact absurd h0 (by decide)
         rw [if_neg hk0] at hlc
         generalize hw0 : ETy.get .str (bm (ETy.get .str ls k)) 0 = w0
         have hw0' : ar (bm (ETy.get .str ls k)) 0 = w0 := hw0
         rw [hw0'] at hlc
         have nx := next ((bt (ETy.get .str ls k) : Nat) : Int)
         generalize ((bt (ETy.get .str ls k) : Nat) : Int) = dd at *
         clear hw0 hw0'
         generalize hWW : bm (ETy.get .str ls k) = W at *
         rcases AC c dd w0 (W.drop 1) with ⟨g, g1, g2, g3⟩ | ⟨g1, g3⟩
         · exact DX s ls c dd k W w0 g Γ hF hk hne hW g2 g1 (by rw [hlc, g3]) nx
         · exact xA s ls c dd k W w0 Γ hF hk hne g1 (by rw [hlc, g3])
   · exact AK s ls c d k Γ hF hk
theorem uD : zJ8Wr Γ (CpQ s) [.code []] (b6 Tryz.f8.ntmps [.s s] []) := by
 refine jg Df Tryz.func8 (let x1 := (Value.slice none 0 0); let x2 := (Lib.trimSuffix s [(10 : UInt8)]); .ite (decide (ae s > (6000 : Int))) (.ret (.tup [.agg [.pd (.str []), .pd (.v x1), .pd (.v x1), .pd (.v x1), .pd (.v x1)], .i 0, .i 4]) []) (.need (s.length ≤ 9223372036854775807) (.need (x2.length < 4294967281) (.stop zWr7 { n := 101, fr := [(2, .x (.c (.loc 0 0))), (3, .i 0), (4, .i 0), (5, .x (.c (.loc 1 0))), (6, .p zWr1), (23, .x (.c (.own 2))), (24, .i (↑((cf [] x2).length) : Int)), (25, .i 0)], ck := [.cells [.pd (.str []), .pd (.v x1), .pd (.v x1), .pd (.v x1), .pd (.v x1)] 27, .cells [.pd (.str []), .pd (.v x1), .pd (.v x1), .pd (.v x1), .pd (.v x1), .i 0] 45, .own 9 .str (cf [] x2)] })))) ?_
 conv => zeta
 have hL : ae s = (s.length : Int) := rfl
 refine ⟨fun h => CpQ.no ?_ (by decide), fun h => ?_⟩
 · have := of_decide_eq_true h
   rw [bf, if_pos (by omega)]
 · have h' := of_decide_eq_false h
   have hs : s.length ≤ 6000 := by omega
   have ht : (Lib.trimSuffix s [10]).length ≤ s.length := by rw [rH]; exact jn s
   refine ⟨by omega, by omega, ?_⟩
   have e : cf [] (Lib.trimSuffix s [10]) = cm s := by rw [rH]; rfl
   rw [e]
   refine J.nilCk 1 1 9 .str rfl rfl (by kernel_rfl) ?_
   refine J.nilCk 1 2 61 .var rfl rfl (by kernel_rfl) ?_
   refine J.nilCk 1 3 64 .stat rfl rfl (by kernel_rfl) ?_
   refine J.nilCk 1 4 68 .tran rfl rfl (by kernel_rfl) ?_
   exact D3 s (cm s) Γ (cm s).length 0 dh 0 (by omega) ⟨hs, rfl, rfl, Fit.zero, bA _⟩
theorem qQ (h : dR s) : ah Tryz.prog 8 [.s s] [] (.tup [.agg [.pd (.str (bf s).1.name), .own 0, .own 1, .own 2, .own 3], .i 0, .i 0]) [.own 9 .str (bf s).1.events, .own 61 .var (bf s).1.vars, .own 64 .stat (bf s).1.states, .own 68 .tran (bf s).1.trans] :=
 ah.of Tryz.func8 (by kernel_rfl) (by kernel_rfl) fun Γ => J.mono (fun v ck hq => hq.1 h) (uD s Γ)
theorem q9 (h : ¬ dR s) : ah Tryz.prog 8 [.s s] [] (.tup [.agg [.pd (.str []), .pd (.v (.slice none 0 0)), .pd (.v (.slice none 0 0)), .pd (.v (.slice none 0 0)), .pd (.v (.slice none 0 0))], .i (bf s).2.1, .i (bf s).2.2]) [] :=
 ah.of Tryz.func8 (by kernel_rfl) (by kernel_rfl) fun Γ => J.mono (fun v ck hq => hq.2 h) (uD s Γ)
noncomputable def xK : Ent := (8, fun
 | [.c (.pd (.str s))], [] => some (some (dR s), .tup [.agg [.pd (.str (bf s).1.name), .own 0, .own 1, .own 2, .own 3], .c (.pd (.int .i64 0)), .c (.pd (.int .i64 0))], [.own 9 .str (bf s).1.events, .own 61 .var (bf s).1.vars, .own 64 .stat (bf s).1.states, .own 68 .tran (bf s).1.trans])
 | _, _ => none)
theorem Ew : EntOk Tryz.prog xK := entOk fun vs ck => by
 unfold xK; dsimp only; split
 · rename_i s; exact entS fun hp => qQ s hp
 · exact entN
noncomputable def yp : Ent := (8, fun
 | [.c (.pd (.str s))], [] => some (some (¬ dR s), .tup [.agg [.pd (.str []), .pd (.v (.slice none 0 0)), .pd (.v (.slice none 0 0)), .pd (.v (.slice none 0 0)), .pd (.v (.slice none 0 0))], .c (.pd (.int .i64 (bf s).2.1)), .c (.pd (.int .i64 (bf s).2.2))], [])
 | _, _ => none)
theorem Fe : EntOk Tryz.prog yp := entOk fun vs ck => by
 unfold yp; dsimp only; split
 · rename_i s; exact entS fun hp => q9 s hp
 · exact entN
end Go.Proofs.YtpfidgnkokidoaaGreatDoor

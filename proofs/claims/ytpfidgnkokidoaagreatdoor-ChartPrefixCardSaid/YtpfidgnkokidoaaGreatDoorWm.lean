/- Plain: numbers' texts, points' texts. Conditions: each theorem's own. Plain: a chart's text; what is told is read. Conditions: each theorem's own. Plain: a chart's text is read to the chart; what is read is a chart whose text is no longer. Conditions: each theorem's own. Plain: what is read is a chart that may be, its text no longer. Conditions: each theorem's own. Plain: charts that are read. Conditions: each theorem's own. Contracts: the blocks of a chart that is read, under whichever numbers. Conditions: none. -/
import Derived.Test.YtpfidgnkokidoaaGreatDoorShelfi
import Derived.Test.YtpfidgnkokidoaaGreatDoorMr
import Derived.Test.YtpfidgnkokidoaaGreatDoorXc
import Derived.Test.YtpfidgnkokidoaaGreatDoorWj
import Derived.Test.YtpfidgnkokidoaaGreatDoorDa
import Derived.Test.YtpfidgnkokidoaaGreatDoorVb
namespace Go.Proofs.YtpfidgnkokidoaaGreatDoor
open Go Go.Ev
set_option maxRecDepth 100000
/-! ### a number is told by the text that is read -/
theorem Eu {c : UInt8} (h : isD c = true) : 48 ≤ c.toNat ∧ c.toNat ≤ 57 := by
 simp only [isD, af, decide_eq_true_eq] at h; omega
theorem Ac {c : UInt8} (h : isD c = true) : iJ c = false := by
 have := Eu h
 cases hb : iJ c
 · rfl
 · simp only [iJ, aF, beq_iff_eq] at hb
   rcases hb with rfl | rfl <;> simp at this
/-! ### a point's text in parts -/
theorem eR {n : Int} (h : -1099511627776 ≤ n) (h' : n ≤ 1099511627776) : cy (Lib.itoa n) = true ∧ aJ (Lib.itoa n) = n := by
 have hn := Cg n
 rw [if_neg (by omega)] at hn
 have hf : eS (Lib.itoa n) = false := by
  cases hb : eS (Lib.itoa n)
  · rfl
  · rw [a7, if_pos hb] at hn; simp at hn
 rw [a7, if_neg (by rw [hf]; simp)] at hn
 split at hn
 · simp at hn
 · rename_i hv
   obtain ⟨g1, g2⟩ := jS hf
   have hok : cy (Lib.itoa n) = true := by
    cases hb : cy (Lib.itoa n)
    · have := g2 hb; omega
    · rfl
   refine ⟨hok, ?_⟩
   rw [g1 hok]
   simpa using hn
theorem dJ {a : Int} (h : pIn a = true) : -1048576 ≤ a ∧ a ≤ 1048576 := by
 simp only [pIn, af, decide_eq_true_eq] at h; exact h
theorem iU {a : Int} (h : pIn a = true) : (Lib.itoa a).length ≤ 8 ∧ 0 < (Lib.itoa a).length := by
 have := dJ h
 unfold Lib.itoa
 split
 · have h1 := o4 6 a.natAbs (by omega)
   simp only [ak]; omega
 · have h1 := o4 6 a.toNat (by omega)
   have h2 := (kr a.toNat).2.1
   exact ⟨by omega, List.length_pos_iff.2 h2⟩
theorem xu (a b : Int) : ∃ c d, iJ c = true ∧ d.all isD = true ∧ fj a b = Lib.itoa a ++ c :: (d ++ [105]) ∧ d = Lib.decDigits b.natAbs ∧ (b < 0 → c = 45 ∧ Lib.itoa b = 45 :: d) ∧ (¬ b < 0 → c = 43 ∧ Lib.itoa b = d) := by
 by_cases hb : b < 0
 · refine ⟨45, Lib.decDigits b.natAbs, by decide, (kr _).1, ?_, rfl, fun _ => ⟨rfl, by unfold Lib.itoa; rw [if_pos hb]⟩, fun h => absurd hb h⟩
   show Lib.itoa a ++ (if b < 0 then [] else [43]) ++ Lib.itoa b ++ [105] = _
   rw [if_pos hb, show Lib.itoa b = 45 :: Lib.decDigits b.natAbs by unfold Lib.itoa; rw [if_pos hb]]; simp
 · have e : b.natAbs = b.toNat := by omega
   refine ⟨43, Lib.decDigits b.natAbs, by decide, (kr _).1, ?_, rfl, fun h => absurd h hb, fun _ => ⟨rfl, by unfold Lib.itoa; rw [if_neg hb, e]⟩⟩
   show Lib.itoa a ++ (if b < 0 then [] else [43]) ++ Lib.itoa b ++ [105] = _
   rw [if_neg hb, show Lib.itoa b = Lib.decDigits b.natAbs by unfold Lib.itoa; rw [if_neg hb, e]]; simp
theorem j2 {s : Str} {a b : Int} (h : kJ s (a, b)) : aA s = ((Lib.itoa a).length : Int) ∧ s.length ≤ 20 ∧ 0 < (Lib.itoa a).length ∧ s.take (Lib.itoa a).length = Lib.itoa a ∧ Lib.trimPrefix (Lib.trimSuffix (s.drop (Lib.itoa a).length) [105]) [43] = Lib.itoa b := by
 obtain ⟨ha, hb, hs⟩ := h
 have ha : pIn a = true := ha
 have hb : pIn b = true := hb
 obtain ⟨c, d, hc, hd, e, ed, h1, h2⟩ := xu a b
 have hs' : s = Lib.itoa a ++ c :: (d ++ [105]) := by rw [← e]; exact hs.symm
 have hla := iU ha
 have hlb := iU hb
 subst hs'
 have hdl : d.length ≤ 8 := by
  by_cases hn : b < 0
  · have := congrArg List.length (h1 hn).2; simp at this; omega
  · have := congrArg List.length (h2 hn).2; omega
 have hsuf : Lib.trimSuffix (c :: (d ++ [105])) [105] = c :: d := by
  have hh : Lib.hasSuffix (c :: (d ++ [105])) [105] = true := by
   unfold Lib.hasSuffix; rw [List.isSuffixOf_iff_suffix]; exact ⟨c :: d, by simp⟩
  unfold Lib.trimSuffix
  rw [if_pos hh]
  have : c :: (d ++ [105]) = (c :: d) ++ [105] := by simp
  rw [this, List.take_left' (by simp)]
 refine ⟨wQ hc fun x hx => ?_, by simp; omega, hla.2, List.take_left, ?_⟩
 · rcases bb.1 hx with hx | hx
   · exact Ac (ai.1 hd x hx)
   · simp only [aU] at hx; subst hx; rfl
 · rw [dV, hsuf]
   by_cases hn : b < 0
   · obtain ⟨rfl, e2⟩ := h1 hn
     rw [e2]; rfl
   · obtain ⟨rfl, e2⟩ := h2 hn
     rw [e2]; rfl
def orS (s : Str) : Str := if s = [] then dash else s
def Fv (l : List Cell) : Str := if iq l = true then DM l else []
variable (c : Chart) (n : Nat) (k : Int) (l : List Deed) (ls : List (Nat × List Str)) (s : Ev.Stat) (t : Tran) (v : Var)
def Aj : Str := if mO l = true then GK l else []
def Gv : Str := if k = 1 then mz else if k = 2 then sM else if k = 3 then o1 else if k = 4 then lS else if k = 5 then js else oH
def G9 : List Str :=
 if v.kind = 2 then [oI, v.name, if v.init.a = 1 then fM else gl]
 else if v.kind = 3 then [l5, v.name, Lib.itoa v.lo, Lib.itoa v.hi, fj v.init.a v.init.b]
 else [tT, v.name, Lib.itoa v.lo, Lib.itoa v.hi, Lib.itoa v.init.a]
def GF : List Str := Gv s.kind :: s.name :: (if s.initial = [] then [] else [s.initial])
def GI : List Str := [wOn, orS t.event, orS (Fv t.guard), orS t.dst, orS (Aj t.acts)]
def AU (d : Nat) (w : Str) (l : List Deed) : List (Nat × List Str) := if l = [] then [] else [(d + 1, [w, Aj l])]
def Gx (i : Nat) (s :  Ev.Stat) : List (Nat × List Str) :=
 (s.depth.toNat, GF s) :: (AU s.depth.toNat l9 s.entry ++ (AU s.depth.toNat pF s.leave ++ (c.trans.filter fun t => t.src == (i : Int)).map fun t => (s.depth.toNat + 1, GI t)))
def Fy : List (Nat × List Str) := (List.range n).flatMap fun i => Gx c i (ETy.get .stat c.states i)
def Fx : List (Nat × List Str) := (0, [Bl, c.name]) :: (c.events.map (fun e => (0, [lI, e])) ++ (c.vars.map (fun v => (0, G9 v)) ++ Fy c c.states.length))
def nh (l : Nat × List Str) : Str := gh l.1 ++ ia l.2
def GH : Str := ls.flatMap fun l => nh l ++ [10]
def xR : Str := GH (Fx c)
/-! which charts are read out of texts -/
def o5 (n : Int) : Bool := decide (-1099511627776 ≤ n) && decide (n ≤ 1099511627776)
def Dl : Bool := aP v.name && (bif v.kind == 1 then o5 v.lo && (o5 v.hi && (v.init.kind == 1 && (o5 v.init.a && v.init.b == 0))) else bif v.kind == 2 then v.lo == 0 && (v.hi == 1 && (v.init.kind == 2 && ((v.init.a == 0 || v.init.a == 1) && v.init.b == 0))) else v.kind == 3 && (o5 v.lo && (o5 v.hi && (v.init.kind == 3 && (pIn v.init.a && pIn v.init.b)))))
def wy : Bool := l.isEmpty || mO l
def G1 : Bool := k == 2 || (k == 5 || k == 6)
def Ax : Bool := decide (1 ≤ s.kind) && (decide (s.kind ≤ 6) && (aP s.name && (decide (0 ≤ s.depth) && ((bif G1 s.kind then aP s.initial else s.initial == []) && (wy s.entry && wy s.leave)))))
def om : Int → List Ev.Stat → Bool
 | _, [] => true
 | m, s :: r => decide (s.depth ≤ m) && om (s.depth + 1) r
def Bf : Bool := decide (0 ≤ t.src) && (decide (t.src < n) && ((t.event == [] || cw t.event) && ((t.guard.isEmpty || iq t.guard) && ((t.dst == [] || aP t.dst) && wy t.acts))))
structure WfC (c : Chart) : Prop where
 name : aP c.name = true
 events : c.events.all aP = true
 vars : c.vars.all Dl = true
 states : c.states.all Ax = true
 depths : om 0 c.states = true
 trans : c.trans.all (Bf c.states.length) = true
 sorted : c.trans.Pairwise fun t u => t.src ≤ u.src
/-! ### words that may stand in a line -/
/-! ### lines told, and read -/
theorem yn {c : Chart} {k : Nat} (hk : k ≠ 0) {d : Nat} {w : Str} {r : List Str} (h : (w :: r).all cF = true) : dE c k (nh (d, w :: r)) = dY c (d : Nat) w r := by
 obtain ⟨h1, h2⟩ := xY d (by simp) h
 have e1 : bt (nh (d, w :: r)) = d := h1
 have e2 : bm (nh (d, w :: r)) = w :: r := h2
 have hok : fk (nh (d, w :: r)) = true := by unfold fk; rw [e2]; exact h
 rw [dE, if_pos hok, if_neg hk, e1, e2]; rfl
def Rd1 (c' : Chart) : Prop := ∀ k, k ≠ 0 → di c k (ls.map nh) = (c', none)
theorem Rd1.nil : Rd1 c [] c := fun _ _ => rfl
theorem Rd1.app {a b : List (Nat × List Str)} {c c' c'' : Chart} (h : Rd1 c a c') (h' : Rd1 c' b c'') : Rd1 c (a ++ b) c'' := by
 intro k hk
 rw [eB, fH, h k hk]
 exact h' _ (by omega)
theorem Rd1.one {d : Nat} {w : Str} {r : List Str} {c c' : Chart} (h : (w :: r).all cF = true) (e : dY c (d : Nat) w r = some c') : Rd1 c [(d, w :: r)] c' := by
 intro k hk
 simp only [ax, cd, di, yn hk h, e]
theorem Rd1.cons {x : Nat × List Str} {b : List (Nat × List Str)} {c c' c'' : Chart} (h : Rd1 c [x] c') (h' : Rd1 c' b c'') : Rd1 c (x :: b) c'' := Rd1.app (a := [x]) h h'
theorem qJ {a b x y : Int} (h1 : pIn a = true) (h2 : pIn b = true) (h3 : pIn x = true) (h4 : pIn y = true) (h : fj a b = fj x y) : a = x ∧ b = y := by
 have f1 := j2 (s := fj a b) (a := a) (b := b) ⟨h1, h2, rfl⟩
 have f2 := j2 (s := fj a b) (a := x) (b := y) ⟨h3, h4, h.symm⟩
 have hl : (Lib.itoa a).length = (Lib.itoa x).length := by have := f1.1.symm.trans f2.1; omega
 have e1 : Lib.itoa a = Lib.itoa x := by rw [← f1.2.2.2.1, ← f2.2.2.2.1, hl]
 have e2 : Lib.itoa b = Lib.itoa y := by rw [← f1.2.2.2.2, ← f2.2.2.2.2, hl]
 have p1 := dJ h1; have p2 := dJ h2; have p3 := dJ h3; have p4 := dJ h4
 have g1 := (eR (n := a) (by omega) (by omega)).2
 have g2 := (eR (n := x) (by omega) (by omega)).2
 have g3 := (eR (n := b) (by omega) (by omega)).2
 have g4 := (eR (n := y) (by omega) (by omega)).2
 rw [e1] at g1; rw [e2] at g3
 exact ⟨g1.symm.trans g2, g3.symm.trans g4⟩
/-! ### states -/
/-! ### lines between line feeds -/
theorem wJ {w : Str} (h : cF w = true) : w.all ej = true := by simp only [cF, af] at h; exact h.2
/-! ### the states, one by one -/
/-! ### blocks' and guards' texts are no longer than what was read -/
/-! ### lengths of lines -/
/-! ### a line's words -/
theorem gK {c : Chart} {d : Int} {w : List Str} {n : Nat} (h : dF c d w (n : Int) = true) : d = 0 ∧ c.states = [] ∧ w.length = n ∧ aP (ar w 0) = true := by
 simp only [dF, af, beq_iff_eq] at h
 obtain ⟨⟨⟨h1, h2⟩, h3⟩, h4⟩ := h
 exact ⟨h1, bP.1 (by omega), by omega, h4⟩
/-! ### charts under way -/
structure Pre (c : Chart) : Prop where
 events : c.events.all aP = true
 vars : c.vars.all Dl = true
 states : c.states.all Ax = true
 depths : om 0 c.states = true
 trans : c.trans.all (Bf c.states.length) = true
 sorted : c.trans.Pairwise fun t u => t.src ≤ u.src
theorem Pre.zero : Pre dh := ⟨rfl, rfl, rfl, rfl, rfl, .nil⟩
def okC (c : Chart) : Prop := WfC c ∧ (xR c).length ≤ 6000
variable (c : Chart) {f : FuncId} {fn : Func} {args : List SX} {ck : List Chunk} (d : Int)
abbrev Bv : List Chunk := [Chunk.cells [SC.pd (PD.str c.name), SC.own 1, SC.own 2, SC.own 3, SC.own 4, SC.i d] 45, Chunk.own 9 ETy.str c.events, Chunk.own 61 ETy.var c.vars, Chunk.own 64 ETy.stat c.states, Chunk.own 68 ETy.tran c.trans]
abbrev Fu : List Chunk := [Chunk.cells [SC.pd (PD.str c.name), SC.own 5, SC.own 2, SC.own 3, SC.own 4, SC.i d] 45, Chunk.dead, Chunk.own 61 ETy.var c.vars, Chunk.own 64 ETy.stat c.states, Chunk.own 68 ETy.tran c.trans, Chunk.own 9 ETy.str c.events]
abbrev F5 : List Chunk := [Chunk.cells [SC.pd (PD.str c.name), SC.own 1, SC.own 5, SC.own 3, SC.own 4, SC.i d] 45, Chunk.own 9 ETy.str c.events, Chunk.dead, Chunk.own 64 ETy.stat c.states, Chunk.own 68 ETy.tran c.trans, Chunk.own 61 ETy.var c.vars]
abbrev FZ : List Chunk := [Chunk.cells [SC.pd (PD.str c.name), SC.own 1, SC.own 2, SC.own 5, SC.own 4, SC.i d] 45, Chunk.own 9 ETy.str c.events, Chunk.own 61 ETy.var c.vars, Chunk.dead, Chunk.own 68 ETy.tran c.trans, Chunk.own 64 ETy.stat c.states]
abbrev Gn : List Chunk := [Chunk.cells [SC.pd (PD.str c.name), SC.own 1, SC.own 2, SC.own 3, SC.own 5, SC.i d] 45, Chunk.own 9 ETy.str c.events, Chunk.own 61 ETy.var c.vars, Chunk.own 64 ETy.stat c.states, Chunk.dead, Chunk.own 68 ETy.tran c.trans]
abbrev ckR : List Chunk := [Chunk.cells [SC.pd (PD.str c.name), SC.own 5, SC.own 6, SC.own 7, SC.own 8, SC.i d] 45, Chunk.dead, Chunk.dead, Chunk.dead, Chunk.dead, Chunk.own 9 ETy.str c.events, Chunk.own 61 ETy.var c.vars, Chunk.own 64 ETy.stat c.states, Chunk.own 68 ETy.tran c.trans]
abbrev wK : List Chunk := [Chunk.cells [SC.pd (PD.str c.name), SC.own 1, SC.own 2, SC.own 3, SC.own 4] 27, Chunk.own 9 ETy.str c.events, Chunk.own 61 ETy.var c.vars, Chunk.own 64 ETy.stat c.states, Chunk.own 68 ETy.tran c.trans]
abbrev FR : List Chunk := [Chunk.cells [SC.pd (PD.str c.name), SC.own 5, SC.own 2, SC.own 3, SC.own 4] 27, Chunk.dead, Chunk.own 61 ETy.var c.vars, Chunk.own 64 ETy.stat c.states, Chunk.own 68 ETy.tran c.trans, Chunk.own 9 ETy.str c.events]
abbrev Gs : List Chunk := [Chunk.cells [SC.pd (PD.str c.name), SC.own 1, SC.own 5, SC.own 3, SC.own 4] 27, Chunk.own 9 ETy.str c.events, Chunk.dead, Chunk.own 64 ETy.stat c.states, Chunk.own 68 ETy.tran c.trans, Chunk.own 61 ETy.var c.vars]
abbrev Co : List Chunk := [Chunk.cells [SC.pd (PD.str c.name), SC.own 1, SC.own 2, SC.own 5, SC.own 4] 27, Chunk.own 9 ETy.str c.events, Chunk.own 61 ETy.var c.vars, Chunk.dead, Chunk.own 68 ETy.tran c.trans, Chunk.own 64 ETy.stat c.states]
abbrev FY : List Chunk := [Chunk.cells [SC.pd (PD.str c.name), SC.own 1, SC.own 2, SC.own 3, SC.own 5] 27, Chunk.own 9 ETy.str c.events, Chunk.own 61 ETy.var c.vars, Chunk.own 64 ETy.stat c.states, Chunk.dead, Chunk.own 68 ETy.tran c.trans]
abbrev ckD : List Chunk := [Chunk.cells [SC.pd (PD.str c.name), SC.own 5, SC.own 6, SC.own 7, SC.own 8] 27, Chunk.dead, Chunk.dead, Chunk.dead, Chunk.dead, Chunk.own 9 ETy.str c.events, Chunk.own 61 ETy.var c.vars, Chunk.own 64 ETy.stat c.states, Chunk.own 68 ETy.tran c.trans]
def xv : Nat → Nat
 | 1 => 5
 | 2 => 6
 | 3 => 7
 | 4 => 8
 | n => n
def wu : Nat → Nat
 | 5 => 1
 | 6 => 2
 | 7 => 3
 | 8 => 4
 | n => n
def wo : Nat → Nat
 | 5 => 5
 | 2 => 6
 | 3 => 7
 | 4 => 8
 | n => n
def yl : Nat → Nat
 | 5 => 5
 | 6 => 2
 | 7 => 3
 | 8 => 4
 | n => n
def wE : Nat → Nat
 | 1 => 5
 | 5 => 6
 | 3 => 7
 | 4 => 8
 | n => n
def wL : Nat → Nat
 | 5 => 1
 | 6 => 5
 | 7 => 3
 | 8 => 4
 | n => n
def xp : Nat → Nat
 | 1 => 5
 | 2 => 6
 | 5 => 7
 | 4 => 8
 | n => n
def wZ : Nat → Nat
 | 5 => 1
 | 6 => 2
 | 7 => 5
 | 8 => 4
 | n => n
def xr : Nat → Nat
 | 1 => 5
 | 2 => 6
 | 3 => 7
 | 5 => 8
 | n => n
def xF : Nat → Nat
 | 5 => 1
 | 6 => 2
 | 7 => 3
 | 8 => 5
 | n => n
theorem GZ : RnW xv wu 5 (Bv c d) (ckR c d) := by
 refine ⟨fun j x' h => ?_, fun j hj => ?_⟩
 · match j, h with
   | 0, h => right; exact ⟨_, rfl, (al h).symm, rfl, by simp [Chunk.refs, SC.refs, xv, wu]⟩
   | 1, h => left; simpa using h.symm
   | 2, h => left; simpa using h.symm
   | 3, h => left; simpa using h.symm
   | 4, h => left; simpa using h.symm
   | 5, h => right; exact ⟨_, rfl, (al h).symm, rfl, by simp [Chunk.refs]⟩
   | 6, h => right; exact ⟨_, rfl, (al h).symm, rfl, by simp [Chunk.refs]⟩
   | 7, h => right; exact ⟨_, rfl, (al h).symm, rfl, by simp [Chunk.refs]⟩
   | 8, h => right; exact ⟨_, rfl, (al h).symm, rfl, by simp [Chunk.refs]⟩
   | j + 9, h => simp at h
 · match j, hj with
   | 0, _ => rfl
   | 1, _ => rfl
   | 2, _ => rfl
   | 3, _ => rfl
   | 4, _ => rfl
theorem He : RnW wo yl 5 (Fu c d) (ckR c d) := by
 refine ⟨fun j x' h => ?_, fun j hj => ?_⟩
 · match j, h with
   | 0, h => right; exact ⟨_, rfl, (al h).symm, rfl, by simp [Chunk.refs, SC.refs, wo, yl]⟩
   | 1, h => left; simpa using h.symm
   | 2, h => left; simpa using h.symm
   | 3, h => left; simpa using h.symm
   | 4, h => left; simpa using h.symm
   | 5, h => right; exact ⟨_, rfl, (al h).symm, rfl, by simp [Chunk.refs]⟩
   | 6, h => right; exact ⟨_, rfl, (al h).symm, rfl, by simp [Chunk.refs]⟩
   | 7, h => right; exact ⟨_, rfl, (al h).symm, rfl, by simp [Chunk.refs]⟩
   | 8, h => right; exact ⟨_, rfl, (al h).symm, rfl, by simp [Chunk.refs]⟩
   | j + 9, h => simp at h
 · match j, hj with
   | 0, _ => rfl
   | 1, _ => rfl
   | 2, _ => rfl
   | 3, _ => rfl
   | 4, _ => rfl
theorem GX : RnW wE wL 5 (F5 c d) (ckR c d) := by
 refine ⟨fun j x' h => ?_, fun j hj => ?_⟩
 · match j, h with
   | 0, h => right; exact ⟨_, rfl, (al h).symm, rfl, by simp [Chunk.refs, SC.refs, wE, wL]⟩
   | 1, h => left; simpa using h.symm
   | 2, h => left; simpa using h.symm
   | 3, h => left; simpa using h.symm
   | 4, h => left; simpa using h.symm
   | 5, h => right; exact ⟨_, rfl, (al h).symm, rfl, by simp [Chunk.refs]⟩
   | 6, h => right; exact ⟨_, rfl, (al h).symm, rfl, by simp [Chunk.refs]⟩
   | 7, h => right; exact ⟨_, rfl, (al h).symm, rfl, by simp [Chunk.refs]⟩
   | 8, h => right; exact ⟨_, rfl, (al h).symm, rfl, by simp [Chunk.refs]⟩
   | j + 9, h => simp at h
 · match j, hj with
   | 0, _ => rfl
   | 1, _ => rfl
   | 2, _ => rfl
   | 3, _ => rfl
   | 4, _ => rfl
theorem G3 : RnW xp wZ 5 (FZ c d) (ckR c d) := by
 refine ⟨fun j x' h => ?_, fun j hj => ?_⟩
 · match j, h with
   | 0, h => right; exact ⟨_, rfl, (al h).symm, rfl, by simp [Chunk.refs, SC.refs, xp, wZ]⟩
   | 1, h => left; simpa using h.symm
   | 2, h => left; simpa using h.symm
   | 3, h => left; simpa using h.symm
   | 4, h => left; simpa using h.symm
   | 5, h => right; exact ⟨_, rfl, (al h).symm, rfl, by simp [Chunk.refs]⟩
   | 6, h => right; exact ⟨_, rfl, (al h).symm, rfl, by simp [Chunk.refs]⟩
   | 7, h => right; exact ⟨_, rfl, (al h).symm, rfl, by simp [Chunk.refs]⟩
   | 8, h => right; exact ⟨_, rfl, (al h).symm, rfl, by simp [Chunk.refs]⟩
   | j + 9, h => simp at h
 · match j, hj with
   | 0, _ => rfl
   | 1, _ => rfl
   | 2, _ => rfl
   | 3, _ => rfl
   | 4, _ => rfl
theorem G0 : RnW xr xF 5 (Gn c d) (ckR c d) := by
 refine ⟨fun j x' h => ?_, fun j hj => ?_⟩
 · match j, h with
   | 0, h => right; exact ⟨_, rfl, (al h).symm, rfl, by simp [Chunk.refs, SC.refs, xr, xF]⟩
   | 1, h => left; simpa using h.symm
   | 2, h => left; simpa using h.symm
   | 3, h => left; simpa using h.symm
   | 4, h => left; simpa using h.symm
   | 5, h => right; exact ⟨_, rfl, (al h).symm, rfl, by simp [Chunk.refs]⟩
   | 6, h => right; exact ⟨_, rfl, (al h).symm, rfl, by simp [Chunk.refs]⟩
   | 7, h => right; exact ⟨_, rfl, (al h).symm, rfl, by simp [Chunk.refs]⟩
   | 8, h => right; exact ⟨_, rfl, (al h).symm, rfl, by simp [Chunk.refs]⟩
   | j + 9, h => simp at h
 · match j, hj with
   | 0, _ => rfl
   | 1, _ => rfl
   | 2, _ => rfl
   | 3, _ => rfl
   | 4, _ => rfl
def IsR : Out := fun v k => v = .x (.b true) ∧ Rn 5 k (ckR c d)
theorem IsR.of0 {c : Chart} {d : Int} {k : List Chunk} (h : k = Bv c d) : IsR c d (.x (.b true)) k := ⟨rfl, by rw [h]; exact ⟨_, _, GZ c d⟩⟩
theorem IsR.of1 {c : Chart} {d : Int} {k : List Chunk} (h : k = Fu c d) : IsR c d (.x (.b true)) k := ⟨rfl, by rw [h]; exact ⟨_, _, He c d⟩⟩
theorem IsR.of2 {c : Chart} {d : Int} {k : List Chunk} (h : k = F5 c d) : IsR c d (.x (.b true)) k := ⟨rfl, by rw [h]; exact ⟨_, _, GX c d⟩⟩
theorem IsR.of3 {c : Chart} {d : Int} {k : List Chunk} (h : k = FZ c d) : IsR c d (.x (.b true)) k := ⟨rfl, by rw [h]; exact ⟨_, _, G3 c d⟩⟩
theorem IsR.of4 {c : Chart} {d : Int} {k : List Chunk} (h : k = Gn c d) : IsR c d (.x (.b true)) k := ⟨rfl, by rw [h]; exact ⟨_, _, G0 c d⟩⟩
theorem ah.isR {c : Chart} {d : Int} (hf : Tryz.prog.funcs[f]? = some fn) (hb : fn.body.isSome = true) (hn : Nat.ble args.length fn.ntmps = true) (hl : ck.length = 5)
 (h : ∀ Γ, J Tryz.prog f (aE fn) Γ (IsR c d) [.code []] (b6 fn.ntmps args ck)) : ah Tryz.prog f args ck (.x (.b true)) (ckR c d) :=
 ah.renum hf hb hn rfl fun Γ => J.mono (fun v c q => ⟨q.1, by rw [hl]; exact q.2⟩) (h Γ)
theorem G4 : RnW xv wu 5 (wK c) (ckD c) := by
 refine ⟨fun j x' h => ?_, fun j hj => ?_⟩
 · match j, h with
   | 0, h => right; exact ⟨_, rfl, (al h).symm, rfl, by simp [Chunk.refs, SC.refs, xv, wu]⟩
   | 1, h => left; simpa using h.symm
   | 2, h => left; simpa using h.symm
   | 3, h => left; simpa using h.symm
   | 4, h => left; simpa using h.symm
   | 5, h => right; exact ⟨_, rfl, (al h).symm, rfl, by simp [Chunk.refs]⟩
   | 6, h => right; exact ⟨_, rfl, (al h).symm, rfl, by simp [Chunk.refs]⟩
   | 7, h => right; exact ⟨_, rfl, (al h).symm, rfl, by simp [Chunk.refs]⟩
   | 8, h => right; exact ⟨_, rfl, (al h).symm, rfl, by simp [Chunk.refs]⟩
   | j + 9, h => simp at h
 · match j, hj with
   | 0, _ => rfl
   | 1, _ => rfl
   | 2, _ => rfl
   | 3, _ => rfl
   | 4, _ => rfl
theorem Ha : RnW wo yl 5 (FR c) (ckD c) := by
 refine ⟨fun j x' h => ?_, fun j hj => ?_⟩
 · match j, h with
   | 0, h => right; exact ⟨_, rfl, (al h).symm, rfl, by simp [Chunk.refs, SC.refs, wo, yl]⟩
   | 1, h => left; simpa using h.symm
   | 2, h => left; simpa using h.symm
   | 3, h => left; simpa using h.symm
   | 4, h => left; simpa using h.symm
   | 5, h => right; exact ⟨_, rfl, (al h).symm, rfl, by simp [Chunk.refs]⟩
   | 6, h => right; exact ⟨_, rfl, (al h).symm, rfl, by simp [Chunk.refs]⟩
   | 7, h => right; exact ⟨_, rfl, (al h).symm, rfl, by simp [Chunk.refs]⟩
   | 8, h => right; exact ⟨_, rfl, (al h).symm, rfl, by simp [Chunk.refs]⟩
   | j + 9, h => simp at h
 · match j, hj with
   | 0, _ => rfl
   | 1, _ => rfl
   | 2, _ => rfl
   | 3, _ => rfl
   | 4, _ => rfl
theorem G5 : RnW wE wL 5 (Gs c) (ckD c) := by
 refine ⟨fun j x' h => ?_, fun j hj => ?_⟩
 · match j, h with
   | 0, h => right; exact ⟨_, rfl, (al h).symm, rfl, by simp [Chunk.refs, SC.refs, wE, wL]⟩
   | 1, h => left; simpa using h.symm
   | 2, h => left; simpa using h.symm
   | 3, h => left; simpa using h.symm
   | 4, h => left; simpa using h.symm
   | 5, h => right; exact ⟨_, rfl, (al h).symm, rfl, by simp [Chunk.refs]⟩
   | 6, h => right; exact ⟨_, rfl, (al h).symm, rfl, by simp [Chunk.refs]⟩
   | 7, h => right; exact ⟨_, rfl, (al h).symm, rfl, by simp [Chunk.refs]⟩
   | 8, h => right; exact ⟨_, rfl, (al h).symm, rfl, by simp [Chunk.refs]⟩
   | j + 9, h => simp at h
 · match j, hj with
   | 0, _ => rfl
   | 1, _ => rfl
   | 2, _ => rfl
   | 3, _ => rfl
   | 4, _ => rfl
theorem G6 : RnW xp wZ 5 (Co c) (ckD c) := by
 refine ⟨fun j x' h => ?_, fun j hj => ?_⟩
 · match j, h with
   | 0, h => right; exact ⟨_, rfl, (al h).symm, rfl, by simp [Chunk.refs, SC.refs, xp, wZ]⟩
   | 1, h => left; simpa using h.symm
   | 2, h => left; simpa using h.symm
   | 3, h => left; simpa using h.symm
   | 4, h => left; simpa using h.symm
   | 5, h => right; exact ⟨_, rfl, (al h).symm, rfl, by simp [Chunk.refs]⟩
   | 6, h => right; exact ⟨_, rfl, (al h).symm, rfl, by simp [Chunk.refs]⟩
   | 7, h => right; exact ⟨_, rfl, (al h).symm, rfl, by simp [Chunk.refs]⟩
   | 8, h => right; exact ⟨_, rfl, (al h).symm, rfl, by simp [Chunk.refs]⟩
   | j + 9, h => simp at h
 · match j, hj with
   | 0, _ => rfl
   | 1, _ => rfl
   | 2, _ => rfl
   | 3, _ => rfl
   | 4, _ => rfl
theorem G2 : RnW xr xF 5 (FY c) (ckD c) := by
 refine ⟨fun j x' h => ?_, fun j hj => ?_⟩
 · match j, h with
   | 0, h => right; exact ⟨_, rfl, (al h).symm, rfl, by simp [Chunk.refs, SC.refs, xr, xF]⟩
   | 1, h => left; simpa using h.symm
   | 2, h => left; simpa using h.symm
   | 3, h => left; simpa using h.symm
   | 4, h => left; simpa using h.symm
   | 5, h => right; exact ⟨_, rfl, (al h).symm, rfl, by simp [Chunk.refs]⟩
   | 6, h => right; exact ⟨_, rfl, (al h).symm, rfl, by simp [Chunk.refs]⟩
   | 7, h => right; exact ⟨_, rfl, (al h).symm, rfl, by simp [Chunk.refs]⟩
   | 8, h => right; exact ⟨_, rfl, (al h).symm, rfl, by simp [Chunk.refs]⟩
   | j + 9, h => simp at h
 · match j, hj with
   | 0, _ => rfl
   | 1, _ => rfl
   | 2, _ => rfl
   | 3, _ => rfl
   | 4, _ => rfl
def IsD : Out := fun v k => v = .x (.b true) ∧ Rn 5 k (ckD c)
theorem IsD.of0 {c : Chart} {k : List Chunk} (h : k = wK c) : IsD c (.x (.b true)) k := ⟨rfl, by rw [h]; exact ⟨_, _, G4 c⟩⟩
theorem IsD.of1 {c : Chart} {k : List Chunk} (h : k = FR c) : IsD c (.x (.b true)) k := ⟨rfl, by rw [h]; exact ⟨_, _, Ha c⟩⟩
theorem IsD.of2 {c : Chart} {k : List Chunk} (h : k = Gs c) : IsD c (.x (.b true)) k := ⟨rfl, by rw [h]; exact ⟨_, _, G5 c⟩⟩
theorem IsD.of3 {c : Chart} {k : List Chunk} (h : k = Co c) : IsD c (.x (.b true)) k := ⟨rfl, by rw [h]; exact ⟨_, _, G6 c⟩⟩
theorem IsD.of4 {c : Chart} {k : List Chunk} (h : k = FY c) : IsD c (.x (.b true)) k := ⟨rfl, by rw [h]; exact ⟨_, _, G2 c⟩⟩
theorem ah.isD {c : Chart} (hf : Tryz.prog.funcs[f]? = some fn) (hb : fn.body.isSome = true) (hn : Nat.ble args.length fn.ntmps = true) (hl : ck.length = 5)
 (h : ∀ Γ, J Tryz.prog f (aE fn) Γ (IsD c) [.code []] (b6 fn.ntmps args ck)) : ah Tryz.prog f args ck (.x (.b true)) (ckD c) :=
 ah.renum hf hb hn rfl fun Γ => J.mono (fun v c q => ⟨q.1, by rw [hl]; exact q.2⟩) (h Γ)
def got (o : Option Chart) : Chart := o.getD ⟨[], [], [], [], []⟩
theorem Ca {o : Option Chart} {c : Chart} (h : o = some c) : got o = c := by rw [h]; rfl
end Go.Proofs.YtpfidgnkokidoaaGreatDoor

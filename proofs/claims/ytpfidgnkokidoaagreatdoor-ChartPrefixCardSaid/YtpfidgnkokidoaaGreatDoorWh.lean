/- Contracts: the program's reader of charts, its lines. Conditions: sizes. -/
import Derived.Test.YtpfidgnkokidoaaGreatDoorWm
import Derived.Test.YtpfidgnkokidoaaGreatDoorNc
namespace Go.Proofs.YtpfidgnkokidoaaGreatDoor
open Go Go.Ev
set_option maxRecDepth 100000
variable (c : Chart) (d : Int) {f : FuncId} {fn : Func} {args : List SX} (w : List Str) {ck : List Chunk} {n : Nat}
abbrev rdK : List Chunk := Bv c d
def okW : Prop := ∀ x ∈ w, x.length ≤ 6000 ∧ x.all (fun c => decide (c.toNat < 128)) = true
theorem get_mem {w : List Str} {k : Nat} (h : k < w.length) : ar w k ∈ w := List.mem_of_getElem? (ETy.getElem?_get (t := .str) h)
theorem okW.at {w : List Str} (hw : okW w) {k : Nat} (h : k < w.length) : (ar w k).length ≤ 6000 ∧ (ar w k).all (fun c => decide (c.toNat < 128)) = true := hw _ (get_mem h)
def bk (o : Option Chart) (d : Int) : Out := fun v k => (∀ c', o = some c' → IsR c' d v k) ∧ (o = none → v = .x (.b false))
theorem bk.yes {o : Option Chart} {c' : Chart} {d : Int} {v : SV} {k : List Chunk} (h : o = some c') (hr : IsR c' d v k) : bk o d v k := ⟨fun c2 h2 => (by rw [h] at h2; cases h2; exact hr), fun h2 => (by rw [h] at h2; cases h2)⟩
theorem bk.no {o : Option Chart} {d : Int} {k : List Chunk} (h : o = none) : bk o d (.x (.b false)) k := ⟨fun c2 h2 => (by rw [h] at h2; cases h2), fun _ => rfl⟩
theorem step_ok {o : Option Chart} {d : Int} (hf : Tryz.prog.funcs[f]? = some fn) (hb : fn.body.isSome = true) (hn : Nat.ble args.length fn.ntmps = true) (hl : ck.length = 5)
 (h : ∀ Γ, J Tryz.prog f (aE fn) Γ (bk o d) [.code []] (b6 fn.ntmps args ck)) (ho : o.isSome = true) : ah Tryz.prog f args ck (.x (.b true)) (ckR (got o) d) := by
 obtain ⟨c', rfl⟩ := cL.1 ho
 exact ah.isR hf hb hn hl fun Γ => J.mono (fun v k q => q.1 c' rfl) (h Γ)
theorem hI {o : Option Chart} {d : Int} (hf : Tryz.prog.funcs[f]? = some fn) (hb : fn.body.isSome = true) (hn : Nat.ble args.length fn.ntmps = true)
 (h : ∀ Γ, J Tryz.prog f (aE fn) Γ (bk o d) [.code []] (b6 fn.ntmps args ck)) (ho : o.isSome = false) : ah Tryz.prog f args ck (.x (.b false)) [.dead, .dead, .dead, .dead, .dead] :=
 ah.lost 5 hf hb hn rfl fun Γ => J.mono (fun v k q => q.2 (by cases o with | none => rfl | some c => cases ho)) (h Γ)
theorem fp {α : Type} {p : Prop} {inst : Decidable p} {x : α} (h : ¬ p) : (if p then some x else none) = none := if_neg h
def sr : Cfg := ⟨bn, [fe]⟩
theorem nZ : ag Tryz.prog sr.tab := (ag.cons dS ag.nil)
abbrev zWh1 (a : Chart) (b : Int) : List Chunk := [.cells [.pd (.str a.name), .own 1, .own 2, .own 3, .own 4, .i b] 45, .own 9 .str a.events, .own 61 .var a.vars, .own 64 .stat a.states, .own 68 .tran a.trans]
theorem yQ (n : Int) (hn : 1 ≤ n) : ah Tryz.prog 77 [.c (.loc 0 0), .l .str w, .i n] (rdK c d) (.x (.b (dF c d w n))) (rdK c d) := by
 refine dg nZ Tryz.func77 (.need ((d == (0 : Int) && (c.states.length : Int) == 0 && (w.length : Int) == n) = true → (0 : Int) ≤ 0 ∧ (0 : Int) < (w.length : Int)) (.ret (.p (.bool (d == (0 : Int) && (c.states.length : Int) == 0 && (w.length : Int) == n && aP (ETy.get .str w 0)))) (zWh1 c d))) fun Γ => ?_
 refine ⟨fun h => ?_, rfl, rfl⟩
 simp only [af, beq_iff_eq] at h
 omega
def kZ : Ent := (77, fun
 | [.c (.loc 0 0), .c (.pd (.lst .str w)), .c (.pd (.int .i64 n))], [.cells [.pd (.str nm), .own 1, .own 2, .own 3, .own 4, .pd (.int .i64 d)] 45, .own 9 .str ev, .own 61 .var vs, .own 64 .stat st, .own 68 .tran tr] => some (some (1 ≤ n), .x (.c (.pd (.bool (dF ⟨nm, ev, vs, st, tr⟩ d w n)))), [.cells [.pd (.str nm), .own 1, .own 2, .own 3, .own 4, .pd (.int .i64 d)] 45, .own 9 .str ev, .own 61 .var vs, .own 64 .stat st, .own 68 .tran tr])
 | _, _ => none)
theorem kX : EntOk Tryz.prog kZ := entOk fun vs ck => by
 unfold kZ; dsimp only; split
 · rename_i w n nm d ev vs st tr; exact entS fun hp => yQ ⟨nm, ev, vs, st, tr⟩ d w n hp
 · exact entN
def tZ : Cfg := ⟨bn, [kZ]⟩
theorem rD : ag Tryz.prog tZ.tab := (ag.cons kX ag.nil)
theorem F7 (h : n ≤ 100000) : room n 16 := by unfold room maxLen; omega
theorem lO (h : n ≤ 100000) : room n 64 := by unfold room maxLen; omega
theorem ju (h : n ≤ 100000) : room n 88 := by unfold room maxLen; omega
theorem oS (h : n ≤ 100000) : room n 96 := by unfold room maxLen; omega
/-! ### events -/
theorem Dm (hf : Fit c 6001) (Γ : Ctx) : J Tryz.prog 34 (aE Tryz.f34) Γ (bk (iz c d w) d) [.code []] (b6 Tryz.f34.ntmps [.c (.loc 0 0), .l .str w] (rdK c d)) := by
 refine jg rD Tryz.func34 (.need ((1 : Int) ≤ 1) (.ite (!dF c d w (1 : Int)) (.ret (.p (.bool false)) (zWh1 c d)) (.need (inRg 0 w.length) (.need (room ((c.events ++ [ETy.get .str w 0]).length) 16) (.ret (.p (.bool true)) [.cells [.pd (.str c.name), .own 5, .own 2, .own 3, .own 4, .i d] 45, .dead, .own 61 .var c.vars, .own 64 .stat c.states, .own 68 .tran c.trans, .own 9 .str (c.events ++ [ETy.get .str w 0])]))))) ?_
 have he := hf.events
 refine ⟨by omega, fun h => ?_, fun h => ?_⟩
 · exact bk.no (fp (by rw [show dF c d w 1 = false from nt h]; simp))
 · have g : dF c d w 1 = true := nf h
   obtain ⟨_, _, hn, _⟩ := gK (n := 1) g
   refine ⟨⟨by omega, by omega⟩, F7 (by simp only [aj, ak, au]; omega), bk.yes (if_pos g) (IsR.of1 rfl)⟩
theorem FW (hf : Fit c 6001) (h : (iz c d w).isSome = true) : ah Tryz.prog 34 [.c (.loc 0 0), .l .str w] (rdK c d) (.x (.b true)) (ckR (got (iz c d w)) d) :=
 step_ok Tryz.func34 (by kernel_rfl) (by kernel_rfl) rfl (Dm c d w hf) h
theorem Gm (hf : Fit c 6001) (h : (iz c d w).isSome = false) : ah Tryz.prog 34 [.c (.loc 0 0), .l .str w] (rdK c d) (.x (.b false)) [.dead, .dead, .dead, .dead, .dead] :=
 hI Tryz.func34 (by kernel_rfl) (by kernel_rfl) (Dm c d w hf) h
/-! ### numbers -/
def Bq : Cfg := ⟨bn, [eNb]⟩
theorem yD : ag Tryz.prog Bq.tab := (ag.cons uk ag.nil)
theorem Cl (a : Str) (b e f g h i : Int) (h2 : 2 ≤ w.length) (hw : okW w) : ah Tryz.prog 79 [.c (.loc 0 0), .l .str w] [.cells [.pd (.str a), .pd (.int .i64 b), .pd (.int .i64 e), .pd (.int .i64 f), .pd (.int .i64 g), .pd (.int .i64 h), .pd (.int .i64 i)] 61] (.x (.b ((a7 (ar w 0)).2 == 0 && (a7 (ar w 1)).2 == 0))) [.cells [.pd (.str a), .pd (.int .i64 b), .pd (.int .i64 (a7 (ar w 0)).1), .pd (.int .i64 (a7 (ar w 1)).1), .pd (.int .i64 g), .pd (.int .i64 h), .pd (.int .i64 i)] 61] := by
 refine dg yD Tryz.func79 (.need (inRg 0 w.length) (.need ((ETy.get .str w 0).length ≤ 281474976710656) (.need (inRg 1 w.length) (.need ((ETy.get .str w 1).length ≤ 281474976710656) (.ret (.p (.bool ((a7 (ETy.get .str w 0)).2 == (0 : Int) && (a7 (ETy.get .str w 1)).2 == (0 : Int)))) [.cells [.pd (.str a), .i b, .i ((a7 (ETy.get .str w 0)).1), .i ((a7 (ETy.get .str w 1)).1), .i g, .i h, .i i] 61]))))) fun Γ => ?_
 have l0 : (ETy.get .str w 0).length ≤ 6000 := (hw.at (k := 0) (by omega)).1
 have l1 : (ETy.get .str w 1).length ≤ 6000 := (hw.at (k := 1) (by omega)).1
 exact ⟨⟨by omega, by omega⟩, by omega, ⟨by omega, by omega⟩, by omega, rfl, rfl⟩
def qD : Ent := (79, fun
 | [.c (.loc 0 0), .c (.pd (.lst .str w))], [.cells [.pd (.str a), .pd (.int .i64 b), .pd (.int .i64 e), .pd (.int .i64 f), .pd (.int .i64 g), .pd (.int .i64 h), .pd (.int .i64 i)] 61] => some (some (2 ≤ w.length ∧ okW w), .x (.c (.pd (.bool ((a7 (ar w 0)).2 == 0 && (a7 (ar w 1)).2 == 0)))), [.cells [.pd (.str a), .pd (.int .i64 b), .pd (.int .i64 (a7 (ar w 0)).1), .pd (.int .i64 (a7 (ar w 1)).1), .pd (.int .i64 g), .pd (.int .i64 h), .pd (.int .i64 i)] 61])
 | _, _ => none)
theorem qk : EntOk Tryz.prog qD := entOk fun vs ck => by
 unfold qD; dsimp only; split
 · rename_i w a b e f g h i; exact entS fun hp => Cl w a b e f g h i hp.1 hp.2
 · exact entN
def Af : Cfg := ⟨bn, [kZ, eNb, qD]⟩
theorem yv : ag Tryz.prog Af.tab := (ag.cons kX (ag.cons uk (ag.cons qk ag.nil)))
theorem ga : (aw w (some 1) none).2 = w.drop 1 := by simp [aw]
theorem okW.drop {w : List Str} (h : okW w) (n : Nat) : okW (w.drop n) := fun x hx => h x (List.mem_of_mem_drop hx)
theorem nj (k : Nat) : ar (w.drop 1) k = ar w (k + 1) := by
 unfold ar ETy.get
 simp only [List.getD_eq_getElem?_getD, List.getElem?_drop, Nat.add_comm 1]
theorem uz {a b c : Int} : ((a == 0 && b == 0) && c == 0) = decide (a = 0 ∧ b = 0 ∧ c = 0) := by
 rw [bZ]; simp [and_assoc]
theorem Dk (hf : Fit c 6001) (hw : okW w) (Γ : Ctx) : J Tryz.prog 35 (aE Tryz.f35) Γ (bk (lF c d w) d) [.code []] (b6 Tryz.f35.ntmps [.c (.loc 0 0), .l .str w] (rdK c d)) := by
 refine jg yv Tryz.func35 (let x2 := ((aw w (some (1 : Int)) none).2); let x1 := (c.vars ++ [{ name := ETy.get .str w 0, kind := (1 : Int), lo := (a7 (ar x2 0)).1, hi := (a7 (ar x2 1)).1, init := { kind := (1 : Int), a := (a7 (ETy.get .str w 3)).1, b := (0 : Int) } }]); .need ((1 : Int) ≤ 4) (.ite (!dF c d w (4 : Int)) (.ret (.p (.bool false)) (zWh1 c d)) (.need (inRg 0 w.length) (.need (inRg 3 w.length) (.need ((ETy.get .str w 3).length ≤ 281474976710656) (.need ((0 : Int) ≤ 1 ∧ (1 : Int) ≤ (w.length : Int)) (.need (2 ≤ x2.length ∧ okW x2) (.need (room (x1.length) 64) (.ret (.p (.bool ((a7 (ar x2 0)).2 == (0 : Int) && (a7 (ar x2 1)).2 == (0 : Int) && (a7 (ETy.get .str w 3)).2 == (0 : Int)))) [.cells [.pd (.str c.name), .own 1, .own 5, .own 3, .own 4, .i d] 45, .own 9 .str c.events, .dead, .own 64 .stat c.states, .own 68 .tran c.trans, .own 61 .var x1]))))))))) ?_
 conv => zeta
 have he := hf.vars
 refine ⟨by omega, fun h => ?_, fun h => ?_⟩
 · refine bk.no (fp ?_)
   rintro ⟨g, _⟩
   rw [show dF c d w 4 = true from g] at h; cases h
 · have g : dF c d w 4 = true := nf h
   obtain ⟨_, _, hn, _⟩ := gK (n := 4) g
   have l3 : (ETy.get .str w 3).length ≤ 6000 := (hw.at (k := 3) (by omega)).1
   rw [ga, nj, nj]
   refine ⟨⟨by omega, by omega⟩, ⟨by omega, by omega⟩, by omega, ⟨by omega, by omega⟩, ⟨by rw [ba]; omega, hw.drop 1⟩, lO (by simp only [aj, ak, au]; omega), ?_⟩
   have e3 : ETy.get .str w 3 = ar w 3 := rfl
   rw [e3, uz]
   by_cases hk : (a7 (ar w 1)).2 = 0 ∧ (a7 (ar w 2)).2 = 0 ∧ (a7 (ar w 3)).2 = 0
   · rw [decide_eq_true hk]
     exact bk.yes (if_pos ⟨g, hk.1, hk.2.1, hk.2.2⟩) (IsR.of2 rfl)
   · rw [decide_eq_false hk]
     exact bk.no (fp fun x => hk x.2)
theorem Di (hf : Fit c 6001) (Γ : Ctx) : J Tryz.prog 36 (aE Tryz.f36) Γ (bk (jF c d w) d) [.code []] (b6 Tryz.f36.ntmps [.c (.loc 0 0), .l .str w] (rdK c d)) := by
 refine jg rD Tryz.func36 (let x1 := (c.vars ++ [{ name := ETy.get .str w 0, kind := (2 : Int), lo := (0 : Int), hi := (1 : Int), init := { kind := (2 : Int), a := (1 : Int), b := (0 : Int) } }]); let x2 := (c.vars ++ [{ name := ETy.get .str w 0, kind := (2 : Int), lo := (0 : Int), hi := (1 : Int), init := { kind := (2 : Int), a := (0 : Int), b := (0 : Int) } }]); .need ((1 : Int) ≤ 2) (.need ((!dF c d w (2 : Int)) = false → (0 : Int) ≤ 1 ∧ (1 : Int) < (w.length : Int)) (.need ((!dF c d w (2 : Int)) = false ∧ (!ETy.get .str w 1 == [116, 114, 117, 101]) = true → (0 : Int) ≤ 1 ∧ (1 : Int) < (w.length : Int)) (.ite (!dF c d w (2 : Int) || !ETy.get .str w 1 == [116, 114, 117, 101] && !ETy.get .str w 1 == [102, 97, 108, 115, 101]) (.ret (.p (.bool false)) (zWh1 c d)) (.need (inRg 0 w.length) (.need (inRg 1 w.length) (.ite (ETy.get .str w 1 == [116, 114, 117, 101]) (.need (room (x1.length) 64) (.ret (.p (.bool true)) [.cells [.pd (.str c.name), .own 1, .own 5, .own 3, .own 4, .i d] 45, .own 9 .str c.events, .dead, .own 64 .stat c.states, .own 68 .tran c.trans, .own 61 .var x1])) (.need (room (x2.length) 64) (.ret (.p (.bool true)) [.cells [.pd (.str c.name), .own 1, .own 5, .own 3, .own 4, .i d] 45, .own 9 .str c.events, .dead, .own 64 .stat c.states, .own 68 .tran c.trans, .own 61 .var x2]))))))))) ?_
 conv => zeta
 have he := hf.vars
 have hlen : dF c d w 2 = true → w.length = 2 := fun h => (gK (n := 2) h).2.2.1
 have hb : ∀ a b : Str, ((!(a == b)) = true) = (a ≠ b) := fun a b => by simp
 refine ⟨by omega, fun h => ?_, fun h => ?_, fun h => ?_, fun h => ?_⟩
 · have := hlen (nf h); omega
 · have := hlen (nf h.1); omega
 · refine bk.no (fp ?_)
   rintro ⟨g1, g2⟩
   rw [show dF c d w 2 = true from g1] at h
   rcases g2 with g2 | g2
   · have g3 : ETy.get .str w 1 = fM := g2
     rw [g3] at h; exact absurd h (by decide)
   · have g3 : ETy.get .str w 1 = gl := g2
     rw [g3] at h; exact absurd h (by decide)
 · rw [aH] at h
   have g : dF c d w 2 = true := nf h.1
   have hl := hlen g
   refine ⟨⟨by omega, by omega⟩, ⟨by omega, by omega⟩, fun h1 => ?_, fun h1 => ?_⟩
   · have g2 : ar w 1 = fM := eq_of_beq h1
     refine ⟨lO (by simp only [aj, ak, au]; omega), bk.yes (if_pos ⟨g, .inl g2⟩) (IsR.of2 ?_)⟩
     rw [if_pos g2]; rfl
   · have g2 : ar w 1 ≠ fM := by
      intro e
      have e2 : ETy.get .str w 1 = fM := e
      rw [e2] at h1; exact absurd h1 (by decide)
     have g3 : ar w 1 = gl := by
      have h3 := h.2
      rw [Bool.and_eq_false_iff] at h3
      rcases h3 with h3 | h3
      · exact absurd (eq_of_beq (nf h3)) g2
      · exact eq_of_beq (nf h3)
     refine ⟨lO (by simp only [aj, ak, au]; omega), bk.yes (if_pos ⟨g, .inr g3⟩) (IsR.of2 ?_)⟩
     rw [if_neg g2]; rfl
/-! ### states -/
theorem jk {l : List Ev.Stat} (h : l.length ≠ 0) : l.getLast? = some (ETy.get .stat l (l.length - 1)) := by
 rw [List.getLast?_eq_getElem?]
 exact ETy.getElem?_get (t := .stat) (by omega)
theorem rN {c : Chart} (h : c.states.length ≠ 0) : gr c = (ETy.get .stat c.states (c.states.length - 1)).depth + 1 := by
 unfold gr; rw [jk h]
theorem qY {c : Chart} (h : c.states.length = 0) : gr c = 0 := by
 unfold gr; rw [bP.1 h]; rfl
theorem nY {c : Chart} {n : Nat} (hf : Fit c n) (h : c.states.length ≠ 0) : 0 ≤ (ETy.get .stat c.states (c.states.length - 1)).depth ∧ (ETy.get .stat c.states (c.states.length - 1)).depth ≤ 6000 :=
 hf.last (jk h)
theorem iX (h : n ≠ 0) (h2 : n ≤ 100000) : IntKind.wrap .i64 ((n : Int) - 1) = ((n - 1 : Nat) : Int) := by rw [cg (by omega) (by omega)]; omega
theorem E9 (hf : Fit c 6001) (hw : okW w) (h : (lF c d w).isSome = true) : ah Tryz.prog 35 [.c (.loc 0 0), .l .str w] (rdK c d) (.x (.b true)) (ckR (got (lF c d w)) d) :=
 step_ok Tryz.func35 (by kernel_rfl) (by kernel_rfl) rfl (Dk c d w hf hw) h
theorem Fq (hf : Fit c 6001) (hw : okW w) (h : (lF c d w).isSome = false) : ah Tryz.prog 35 [.c (.loc 0 0), .l .str w] (rdK c d) (.x (.b false)) [.dead, .dead, .dead, .dead, .dead] :=
 hI Tryz.func35 (by kernel_rfl) (by kernel_rfl) (Dk c d w hf hw) h
theorem FQ (hf : Fit c 6001) (h : (jF c d w).isSome = true) : ah Tryz.prog 36 [.c (.loc 0 0), .l .str w] (rdK c d) (.x (.b true)) (ckR (got (jF c d w)) d) :=
 step_ok Tryz.func36 (by kernel_rfl) (by kernel_rfl) rfl (Di c d w hf) h
theorem Gt (hf : Fit c 6001) (h : (jF c d w).isSome = false) : ah Tryz.prog 36 [.c (.loc 0 0), .l .str w] (rdK c d) (.x (.b false)) [.dead, .dead, .dead, .dead, .dead] :=
 hI Tryz.func36 (by kernel_rfl) (by kernel_rfl) (Di c d w hf) h
end Go.Proofs.YtpfidgnkokidoaaGreatDoor

/- Contracts: the program's reader of charts: lines of a state's own. Conditions: sizes. -/
import Derived.Test.YtpfidgnkokidoaaGreatDoorWh
import Derived.Test.YtpfidgnkokidoaaGreatDoorWa
import Derived.Test.YtpfidgnkokidoaaGreatDoorDa
namespace Go.Proofs.YtpfidgnkokidoaaGreatDoor
open Go Go.Ev
set_option maxRecDepth 100000
/-! ### the state whose line it is -/
theorem dI {c : Chart} {d : Int} (hf : Fit c 6001) : (cW c d = true ↔ c.states.length ≠ 0 ∧ d = (ETy.get .stat c.states (c.states.length - 1)).depth + 1) := by
 unfold cW
 by_cases h : c.states.length = 0
 · rw [bP.1 h]; simp
 · rw [jk h]; simp only [beq_iff_eq]
   exact ⟨fun e => ⟨h, e⟩, fun e => e.2⟩
theorem E5 {c : Chart} {d : Int} (hf : Fit c 6001) : (((c.states.length : Int) == 0) || d != IntKind.wrap .i64 ((ETy.get .stat c.states (IntKind.wrap .i64 ((c.states.length : Int) - 1)).toNat).depth + 1)) = !cW c d := by
 have hs := hf.states
 rw [bZ, aC, ← da, dI hf]
 by_cases h : c.states.length = 0
 · rw [h]; simp
 · have hd := nY hf h
   have h0 : ((c.states.length : Int) == 0) = false := by rw [beq_eq_false_iff_ne]; omega
   rw [iX h (by omega), bx, cg (by omega) (by omega), h0, dj]
   simp [h]
variable (c : Chart) (l : List Ev.Stat) (d : Int) (j : Nat) (a : Chart) (w : List Str)
abbrev zWo1 (b : Int) : List Chunk := [.cells [.pd (.str a.name), .own 1, .own 2, .own 3, .own 4, .i b] 45, .own 9 .str a.events, .own 61 .var a.vars, .own 64 .stat a.states, .own 68 .tran a.trans]
theorem DI (hf : Fit c 6001) (Γ : Ctx) : J Tryz.prog 83 (aE Tryz.f83) Γ (fun v k => k = rdK c d ∧ (cW c d = true → v = .x (.c (.oat 3 (c.states.length - 1) 6 0))) ∧ (cW c d = false → v = .x (.c (.pd (.v (.pointer none)))))) [.code []] (b6 Tryz.f83.ntmps [.c (.loc 0 0)] (rdK c d)) := by
 refine jg bN Tryz.func83 (let x1 := (c.states.length : Int); let x2 : List Chunk := (zWo1 c d); let x3 := (IntKind.wrap .i64 (x1 - 1)); let x4 := (((2, 12, false, hJ false (x1 == 0) none).2).2); .need (x4.2 → (0 : Int) ≤ IntKind.wrap .i64 (x1 - 1) ∧ IntKind.wrap .i64 (x1 - 1) < x1) (.need (x4.2 → x3.toNat < c.states.length) (.ite (x1 == 0 || d != IntKind.wrap .i64 (Stat.depth (ETy.get .stat c.states (x3.toNat)) + (1 : Int))) (.ret (.p (.v (Value.pointer none))) x2) (.need ((0 : Int) ≤ IntKind.wrap .i64 (x1 - 1) ∧ IntKind.wrap .i64 (x1 - 1) < x1) (.ret (.x (.c (.oat 3 (x3.toNat) 6 0))) x2))))) ?_
 conv => zeta
 have hs := hf.states
 have hz : c.states.length ≠ 0 → 0 ≤ IntKind.wrap .i64 ((c.states.length : Int) - 1) ∧ IntKind.wrap .i64 ((c.states.length : Int) - 1) < (c.states.length : Int) := fun h => by rw [iX h (by omega)]; omega
 rw [E5 hf]
 have hon : ∀ b : Bool, hJ false b none → b = false := fun b h => by simpa [hJ] using h
 have hne : (((c.states.length : Int) == 0) = false) → c.states.length ≠ 0 := fun h e => by rw [e] at h; simp at h
 refine ⟨fun h => hz (hne (hon _ h)), fun h => ?_, fun h => ?_, fun h => ?_⟩
 · have h1 := hne (hon _ h)
   rw [iX h1 (by omega), bx]; omega
 · exact ⟨rfl, fun e => (by rw [e] at h; cases h), fun _ => rfl⟩
 · have ho : cW c d = true := nf h
   have h1 := ((dI hf).1 ho).1
   refine ⟨hz h1, rfl, fun _ => ?_, fun e => (by rw [ho] at e; cases e)⟩
   rw [iX h1 (by omega), bx]
theorem Ee (hf : Fit c 6001) (h : cW c d = true) : ah Tryz.prog 83 [.c (.loc 0 0)] (rdK c d) (.x (.c (.oat 3 (c.states.length - 1) 6 0))) (rdK c d) :=
 ah.of Tryz.func83 (by kernel_rfl) (by kernel_rfl) fun Γ => J.mono (fun v k q => ⟨q.2.1 h, q.1⟩) (DI c d hf Γ)
theorem C6 (hf : Fit c 6001) (h : cW c d = false) : ah Tryz.prog 83 [.c (.loc 0 0)] (rdK c d) (.x (.c (.pd (.v (.pointer none))))) (rdK c d) :=
 ah.of Tryz.func83 (by kernel_rfl) (by kernel_rfl) fun Γ => J.mono (fun v k q => ⟨q.2.2 h, q.1⟩) (DI c d hf Γ)
def gP : Ent := (83, fun
 | [.c (.loc 0 0)], [.cells [.pd (.str nm), .own 1, .own 2, .own 3, .own 4, .pd (.int .i64 d)] 45, .own 9 .str ev, .own 61 .var vs, .own 64 .stat st, .own 68 .tran tr] => some (some (Fit ⟨nm, ev, vs, st, tr⟩ 6001 ∧ cW ⟨nm, ev, vs, st, tr⟩ d = true), .x (.c (.oat 3 (st.length - 1) 6 0)), [.cells [.pd (.str nm), .own 1, .own 2, .own 3, .own 4, .pd (.int .i64 d)] 45, .own 9 .str ev, .own 61 .var vs, .own 64 .stat st, .own 68 .tran tr])
 | _, _ => none)
theorem fR : EntOk Tryz.prog gP := entOk fun vs ck => by
 unfold gP; dsimp only; split
 · rename_i nm d ev vs st tr; exact entS fun hp => Ee ⟨nm, ev, vs, st, tr⟩ d hp.1 hp.2
 · exact entN
def mP : Ent := (83, fun
 | [.c (.loc 0 0)], [.cells [.pd (.str nm), .own 1, .own 2, .own 3, .own 4, .pd (.int .i64 d)] 45, .own 9 .str ev, .own 61 .var vs, .own 64 .stat st, .own 68 .tran tr] => some (some (Fit ⟨nm, ev, vs, st, tr⟩ 6001 ∧ cW ⟨nm, ev, vs, st, tr⟩ d = false), .x (.c (.pd (.v (.pointer none)))), [.cells [.pd (.str nm), .own 1, .own 2, .own 3, .own 4, .pd (.int .i64 d)] 45, .own 9 .str ev, .own 61 .var vs, .own 64 .stat st, .own 68 .tran tr])
 | _, _ => none)
theorem oi : EntOk Tryz.prog mP := entOk fun vs ck => by
 unfold mP; dsimp only; split
 · rename_i nm d ev vs st tr; exact entS fun hp => C6 ⟨nm, ev, vs, st, tr⟩ d hp.1 hp.2
 · exact entN
/-! ### blocks -/
noncomputable def kM : Cfg := ⟨bn, [qt]⟩
theorem gY : ag Tryz.prog kM.tab := (ag.cons qC ag.nil)
noncomputable def wA : Cfg := ⟨bn, [qA]⟩
theorem tO : ag Tryz.prog wA.tab := (ag.cons ql ag.nil)
abbrev zWo4 : List PI := [.ops [1, 1, 1, 0] 3, .code [1, 1, 1, 1]]
theorem Gz (hj : j < l.length) (hw : w.length = 1) (he : (ETy.get .stat l j).entry = []) (hr : aR (ar w 0)) : ah Tryz.prog 84 [.c (.oat 0 j 6 4), .l .str w] [.own 64 .stat l] (.x (.b true)) [.own 64 .stat (l.set j { ETy.get .stat l j with entry := (aK (ar w 0)).1 })] := by
 refine ah.renum Tryz.func84 (by kernel_rfl) (by kernel_rfl) rfl fun Γ => ?_
 refine jg gY Tryz.func84 (.need (((w.length : Int) != 1) = false → j < l.length) (.ite ((w.length : Int) != 1 || decide ((↑((Stat.entry (ETy.get .stat l j)).length) : Int) > 0)) (.ret (.p (.bool false)) [.own 64 .stat l]) (.need (inRg 0 w.length) (.need (aR (ETy.get .str w 0)) (.stop zWo4 { n := 29, fr := [(4, .p (.bool false)), (6, .i 0), (25, .x (.c (.own 1))), (26, .x (.c (.oat 0 j 6 4)))], ck := [.own 64 .stat l, .own 90 .deed ((aK (ETy.get .str w 0)).1)], kn := [4], m := 1 }))))) ?_
 refine ⟨fun _ => hj, fun h => ?_, fun _ => ⟨⟨by omega, by omega⟩, hr, ?_⟩⟩
 · rw [hw, he] at h; exact absurd h (by decide)
 · have hz : J Tryz.prog 84 (aE Tryz.f84) Γ (fun v c => v = .x (.b true) ∧ Rn 1 c [.own 64 .stat (l.set j { ETy.get .stat l j with entry := (aK (ar w 0)).1 })]) zWo4 ({ n := 29, fr := [(4, .p (.bool false)), (6, .i 0), (25, .p (.lst .deed ((aK (ar w 0)).1))), (26, .x (.c (.oat 0 j 6 4)))], ck := [.own 64 .stat l, .dead], kn := [4], m := 1 }) := by
    refine jg gY Tryz.func84 (.need (j < l.length) (.ret (.p (.bool true)) [.own 64 .stat (List.set l j { name := Stat.name (ETy.get .stat l j), kind := Stat.kind (ETy.get .stat l j), depth := Stat.depth (ETy.get .stat l j), initial := Stat.initial (ETy.get .stat l j), entry := (aK (ar w 0)).1, leave := Stat.leave (ETy.get .stat l j) })])) ?_
    exact ⟨hj, rfl, Rn.refl 1 _⟩
   exact J.freeze bn [1] (by kernel_rfl) hz
theorem GV (hj : j < l.length) (h : ¬ (w.length = 1 ∧ (ETy.get .stat l j).entry = [] ∧ aR (ar w 0))) : ah Tryz.prog 84 [.c (.oat 0 j 6 4), .l .str w] [.own 64 .stat l] (.x (.b false)) [.dead] := by
 have h1 : ∀ x : List Deed, decide ((x.length : Int) > 0) = false → x = [] := fun x hx => bP.1 (by have := of_decide_eq_false hx; omega)
 by_cases hr : aR (ar w 0)
 · refine ah.lost 1 Tryz.func84 (by kernel_rfl) (by kernel_rfl) rfl fun Γ => ?_
   refine jg gY Tryz.func84 (.need (((w.length : Int) != 1) = false → j < l.length) (.ite ((w.length : Int) != 1 || decide ((↑((Stat.entry (ETy.get .stat l j)).length) : Int) > 0)) (.ret (.p (.bool false)) [.own 64 .stat l]) (.need (inRg 0 w.length) (.need (aR (ETy.get .str w 0)) (.stop zWo4 { n := 29, fr := [(4, .p (.bool false)), (6, .i 0), (25, .x (.c (.own 1))), (26, .x (.c (.oat 0 j 6 4)))], ck := [.own 64 .stat l, .own 90 .deed ((aK (ETy.get .str w 0)).1)], kn := [4], m := 1 }))))) ?_
   refine ⟨fun _ => hj, fun _ => rfl, fun hb => ?_⟩
   rw [aH] at hb
   exact absurd ⟨by
    have : (w.length : Int) = 1 := by simpa using hb.1
    omega, h1 _ hb.2, hr⟩ h
 · refine ah.lost 1 Tryz.func84 (by kernel_rfl) (by kernel_rfl) rfl fun Γ => ?_
   refine jg tO Tryz.func84 (.need (((w.length : Int) != 1) = false → j < l.length) (.ite ((w.length : Int) != 1 || decide ((↑((Stat.entry (ETy.get .stat l j)).length) : Int) > 0)) (.ret (.p (.bool false)) [.own 64 .stat l]) (.need (inRg 0 w.length) (.need (¬aR (ETy.get .str w 0)) (.need (j < l.length) (.ret (.p (.bool ((aK (ETy.get .str w 0)).2 == (0 : Int)))) [.own 64 .stat (List.set l j { name := Stat.name (ETy.get .stat l j), kind := Stat.kind (ETy.get .stat l j), depth := Stat.depth (ETy.get .stat l j), initial := Stat.initial (ETy.get .stat l j), entry := [], leave := Stat.leave (ETy.get .stat l j) })])))))) ?_
   refine ⟨fun _ => hj, fun _ => rfl, fun hb => ?_⟩
   rw [aH] at hb
   have hl : w.length = 1 := by
    have : (w.length : Int) = 1 := by simpa using hb.1
    omega
   refine ⟨⟨by omega, by omega⟩, hr, hj, ?_⟩
   have : ((aK (ar w 0)).2 == 0) = false := by rw [beq_eq_false_iff_ne]; exact hr
   show SV.x (.b ((aK (ar w 0)).2 == 0)) = _
   rw [this]
theorem Gu (hj : j < l.length) (hw : w.length = 1) (he : (ETy.get .stat l j).leave = []) (hr : aR (ar w 0)) : ah Tryz.prog 84 [.c (.oat 0 j 6 5), .l .str w] [.own 64 .stat l] (.x (.b true)) [.own 64 .stat (l.set j { ETy.get .stat l j with leave := (aK (ar w 0)).1 })] := by
 refine ah.renum Tryz.func84 (by kernel_rfl) (by kernel_rfl) rfl fun Γ => ?_
 refine jg gY Tryz.func84 (.need (((w.length : Int) != 1) = false → j < l.length) (.ite ((w.length : Int) != 1 || decide ((↑((Stat.leave (ETy.get .stat l j)).length) : Int) > 0)) (.ret (.p (.bool false)) [.own 64 .stat l]) (.need (inRg 0 w.length) (.need (aR (ETy.get .str w 0)) (.stop zWo4 { n := 29, fr := [(4, .p (.bool false)), (6, .i 0), (25, .x (.c (.own 1))), (26, .x (.c (.oat 0 j 6 5)))], ck := [.own 64 .stat l, .own 90 .deed ((aK (ETy.get .str w 0)).1)], kn := [4], m := 1 }))))) ?_
 refine ⟨fun _ => hj, fun h => ?_, fun _ => ⟨⟨by omega, by omega⟩, hr, ?_⟩⟩
 · rw [hw, he] at h; exact absurd h (by decide)
 · have hz : J Tryz.prog 84 (aE Tryz.f84) Γ (fun v c => v = .x (.b true) ∧ Rn 1 c [.own 64 .stat (l.set j { ETy.get .stat l j with leave := (aK (ar w 0)).1 })]) zWo4 ({ n := 29, fr := [(4, .p (.bool false)), (6, .i 0), (25, .p (.lst .deed ((aK (ar w 0)).1))), (26, .x (.c (.oat 0 j 6 5)))], ck := [.own 64 .stat l, .dead], kn := [4], m := 1 }) := by
    refine jg gY Tryz.func84 (.need (j < l.length) (.ret (.p (.bool true)) [.own 64 .stat (List.set l j { name := Stat.name (ETy.get .stat l j), kind := Stat.kind (ETy.get .stat l j), depth := Stat.depth (ETy.get .stat l j), initial := Stat.initial (ETy.get .stat l j), entry := Stat.entry (ETy.get .stat l j), leave := (aK (ar w 0)).1 })])) ?_
    exact ⟨hj, rfl, Rn.refl 1 _⟩
   exact J.freeze bn [1] (by kernel_rfl) hz
theorem GN (hj : j < l.length) (h : ¬ (w.length = 1 ∧ (ETy.get .stat l j).leave = [] ∧ aR (ar w 0))) : ah Tryz.prog 84 [.c (.oat 0 j 6 5), .l .str w] [.own 64 .stat l] (.x (.b false)) [.dead] := by
 have h1 : ∀ x : List Deed, decide ((x.length : Int) > 0) = false → x = [] := fun x hx => bP.1 (by have := of_decide_eq_false hx; omega)
 by_cases hr : aR (ar w 0)
 · refine ah.lost 1 Tryz.func84 (by kernel_rfl) (by kernel_rfl) rfl fun Γ => ?_
   refine jg gY Tryz.func84 (.need (((w.length : Int) != 1) = false → j < l.length) (.ite ((w.length : Int) != 1 || decide ((↑((Stat.leave (ETy.get .stat l j)).length) : Int) > 0)) (.ret (.p (.bool false)) [.own 64 .stat l]) (.need (inRg 0 w.length) (.need (aR (ETy.get .str w 0)) (.stop zWo4 { n := 29, fr := [(4, .p (.bool false)), (6, .i 0), (25, .x (.c (.own 1))), (26, .x (.c (.oat 0 j 6 5)))], ck := [.own 64 .stat l, .own 90 .deed ((aK (ETy.get .str w 0)).1)], kn := [4], m := 1 }))))) ?_
   refine ⟨fun _ => hj, fun _ => rfl, fun hb => ?_⟩
   rw [aH] at hb
   exact absurd ⟨by
    have : (w.length : Int) = 1 := by simpa using hb.1
    omega, h1 _ hb.2, hr⟩ h
 · refine ah.lost 1 Tryz.func84 (by kernel_rfl) (by kernel_rfl) rfl fun Γ => ?_
   refine jg tO Tryz.func84 (.need (((w.length : Int) != 1) = false → j < l.length) (.ite ((w.length : Int) != 1 || decide ((↑((Stat.leave (ETy.get .stat l j)).length) : Int) > 0)) (.ret (.p (.bool false)) [.own 64 .stat l]) (.need (inRg 0 w.length) (.need (¬aR (ETy.get .str w 0)) (.need (j < l.length) (.ret (.p (.bool ((aK (ETy.get .str w 0)).2 == (0 : Int)))) [.own 64 .stat (List.set l j { name := Stat.name (ETy.get .stat l j), kind := Stat.kind (ETy.get .stat l j), depth := Stat.depth (ETy.get .stat l j), initial := Stat.initial (ETy.get .stat l j), entry := Stat.entry (ETy.get .stat l j), leave := [] })])))))) ?_
   refine ⟨fun _ => hj, fun _ => rfl, fun hb => ?_⟩
   rw [aH] at hb
   have hl : w.length = 1 := by
    have : (w.length : Int) = 1 := by simpa using hb.1
    omega
   refine ⟨⟨by omega, by omega⟩, hr, hj, ?_⟩
   have : ((aK (ar w 0)).2 == 0) = false := by rw [beq_eq_false_iff_ne]; exact hr
   show SV.x (.b ((aK (ar w 0)).2 == 0)) = _
   rw [this]
noncomputable def wB : Ent := (84, fun
 | [.c (.oat 0 j 6 4), .c (.pd (.lst .str w))], [.own 64 .stat l] => some (some (j < l.length ∧ w.length = 1 ∧ (ETy.get .stat l j).entry = [] ∧ aR (ar w 0)), .x (.c (.pd (.bool true))), [.own 64 .stat (l.set j { ETy.get .stat l j with entry := (aK (ar w 0)).1 })])
 | _, _ => none)
theorem Es : EntOk Tryz.prog wB := entOk fun vs ck => by
 unfold wB; dsimp only; split
 · rename_i j w l; exact entS fun hp => Gz l j w hp.1 hp.2.1 hp.2.2.1 hp.2.2.2
 · exact entN
noncomputable def xa : Ent := (84, fun
 | [.c (.oat 0 j 6 4), .c (.pd (.lst .str w))], [.own 64 .stat l] => some (some (j < l.length ∧ ¬ (w.length = 1 ∧ (ETy.get .stat l j).entry = [] ∧ aR (ar w 0))), .x (.c (.pd (.bool false))), [.dead])
 | _, _ => none)
theorem EB : EntOk Tryz.prog xa := entOk fun vs ck => by
 unfold xa; dsimp only; split
 · rename_i j w l; exact entS fun hp => GV l j w hp.1 hp.2
 · exact entN
noncomputable def xH : Ent := (84, fun
 | [.c (.oat 0 j 6 5), .c (.pd (.lst .str w))], [.own 64 .stat l] => some (some (j < l.length ∧ w.length = 1 ∧ (ETy.get .stat l j).leave = [] ∧ aR (ar w 0)), .x (.c (.pd (.bool true))), [.own 64 .stat (l.set j { ETy.get .stat l j with leave := (aK (ar w 0)).1 })])
 | _, _ => none)
theorem EK : EntOk Tryz.prog xH := entOk fun vs ck => by
 unfold xH; dsimp only; split
 · rename_i j w l; exact entS fun hp => Gu l j w hp.1 hp.2.1 hp.2.2.1 hp.2.2.2
 · exact entN
noncomputable def yg : Ent := (84, fun
 | [.c (.oat 0 j 6 5), .c (.pd (.lst .str w))], [.own 64 .stat l] => some (some (j < l.length ∧ ¬ (w.length = 1 ∧ (ETy.get .stat l j).leave = [] ∧ aR (ar w 0))), .x (.c (.pd (.bool false))), [.dead])
 | _, _ => none)
theorem Ey : EntOk Tryz.prog yg := entOk fun vs ck => by
 unfold yg; dsimp only; split
 · rename_i j w l; exact entS fun hp => GN l j w hp.1 hp.2
 · exact entN
theorem tR {l : List Ev.Stat} (h : l.length ≠ 0) (s : Ev.Stat) : l.set (l.length - 1) s = l.dropLast ++ [s] := by
 have hne : l ≠ [] := fun e => h (by rw [e]; rfl)
 conv => lhs; rw [← List.dropLast_concat_getLast hne]
 rw [List.set_append_right _ _ (by simp)]
 simp
/-! ### entry -/
noncomputable def l4 : Cfg := ⟨bn, [gP, wB]⟩
theorem jM : ag Tryz.prog l4.tab := (ag.cons fR (ag.cons Es ag.nil))
noncomputable def lU : Cfg := ⟨bn, [gP, xa]⟩
theorem jK : ag Tryz.prog lU.tab := (ag.cons fR (ag.cons EB ag.nil))
def oU : Cfg := ⟨bn, [mP]⟩
theorem mG : ag Tryz.prog oU.tab := (ag.cons oi ag.nil)
theorem tJ {c : Chart} {d : Int} {w : List Str} (hf : Fit c 6001) : (cW c d = true ∧ (w.length = 1 ∧ (ETy.get .stat c.states (c.states.length - 1)).entry = [] ∧ aR (ar w 0)) → gk c d w = some { c with states := c.states.set (c.states.length - 1) { ETy.get .stat c.states (c.states.length - 1) with entry := (aK (ar w 0)).1 } }) ∧ (¬ (cW c d = true ∧ (w.length = 1 ∧ (ETy.get .stat c.states (c.states.length - 1)).entry = [] ∧ aR (ar w 0))) → gk c d w = none) := by
 unfold gk
 by_cases h : c.states.length = 0
 · have h1 : c.states.getLast? = none := by rw [bP.1 h]; rfl
   rw [h1]
   exact ⟨fun h2 => absurd h ((dI hf).1 h2.1).1, fun _ => rfl⟩
 · rw [jk h]
   simp only
   refine ⟨fun hc => ?_, fun hc => ?_⟩
   · rw [if_pos ⟨((dI hf).1 hc.1).2, hc.2⟩, tR h]
   · rw [if_neg]
     rintro ⟨h2, h3⟩
     exact hc ⟨(dI hf).2 ⟨h, h2⟩, h3⟩
abbrev zWo2 (a : List Str) (b : Chart) (c : Int) : ST := { n := 17, fr := [(1, .p (.lst .str a)), (4, .p (.bool false)), (5, .x (.c (.oat 3 (b.states.length - 1) 6 0))), (8, .x (.c (.oat 3 (b.states.length - 1) 6 0)))], ck := (zWo1 b c), kn := [4], m := 5 }
abbrev zWo5 (b : List Str) (c : Int) : ST := { n := 17, fr := [(4, .p (.bool false)), (10, .p (.bool true)), (13, .grd 10 true (.c (.oat 3 (a.states.length - 1) 6 4))), (14, .grd 10 true (.p (.lst .str b)))], ck := (zWo1 a c), kn := [4], m := 5 }
abbrev zWo7 : List PI := [.ops [1, 1, 0] 1, .code [1, 1, 1]]
abbrev zWo8 : List PI := [.ops [1, 1, 0] 8, .code [1, 1, 1]]
theorem GJ (hf : Fit c 6001) (h : (gk c d w).isSome = true) : ah Tryz.prog 44 [.c (.loc 0 0), .l .str w] (rdK c d) (.x (.b true)) (ckR (got (gk c d w)) d) := by
 have hpl := tJ (d := d) (w := w) hf
 by_cases hc : cW c d = true ∧ (w.length = 1 ∧ (ETy.get .stat c.states (c.states.length - 1)).entry = [] ∧ aR (ar w 0))
 · have hpl := hpl.1 hc
   rw [hpl]
   refine ah.isR Tryz.func44 (by kernel_rfl) (by kernel_rfl) rfl fun Γ => ?_
   have h1 := ((dI hf).1 hc.1).1
   refine jg jM Tryz.func44 (.need (Fit c 6001 ∧ cW c d = true) (.stop zWo7 (zWo2 w c d))) ?_
   refine ⟨⟨hf, hc.1⟩, J.ptrNil (d := 9) (b := true) (by kernel_rfl) ?_⟩
   refine jg jM Tryz.func44 (.stop [.ops [1, 1, 0] 7, .code [1, 1, 1]] (zWo5 c w d)) ?_
   have hz : J Tryz.prog 44 (aE Tryz.f44) Γ (IsR { c with states := c.states.set (c.states.length - 1) { ETy.get .stat c.states (c.states.length - 1) with entry := (aK (ar w 0)).1 } } d) zWo8 ({ n := 17, fr := [(4, .p (.bool false)), (10, .p (.bool true)), (13, .x (.c (.oat 3 (c.states.length - 1) 6 4))), (14, .p (.lst .str w)), (15, .p (.bool true))], ck := [.cells [.pd (.str c.name), .own 1, .own 2, .own 3, .own 4, SC.i d] 45, .own 9 .str c.events, .own 61 .var c.vars, .own 64 .stat (c.states.set (c.states.length - 1) { ETy.get .stat c.states (c.states.length - 1) with entry := (aK (ar w 0)).1 }), .own 68 .tran c.trans], kn := [4], m := 5 }) := by
    refine jg jM Tryz.func44 (.ret (.p (.bool true)) [.cells [.pd (.str c.name), .own 1, .own 2, .own 3, .own 4, .i d] 45, .own 9 .str c.events, .own 61 .var c.vars, .own 64 .stat (List.set c.states (c.states.length - 1) (let __src := ETy.get .stat c.states (c.states.length - 1); { name := __src.name, kind := __src.kind, depth := __src.depth, initial := __src.initial, entry := (aK (ar w 0)).1, leave := __src.leave })), .own 68 .tran c.trans]) ?_
    exact IsR.of0 rfl
   exact J.on (cfg := l4) jM (q := some (c.states.length - 1 < c.states.length ∧ w.length = 1 ∧ (ETy.get .stat c.states (c.states.length - 1)).entry = [] ∧ aR (ar w 0))) (by kernel_rfl) (by exact ⟨by omega, hc.2⟩) hz
 · rw [hpl.2 hc] at h; cases h
abbrev zWo3 (a : List Str) (b : Chart) (c : Int) : ST := { n := 17, fr := [(1, .p (.lst .str a)), (4, .p (.bool false)), (10, .p (.bool false)), (11, .grd 10 true (.p (.v (Value.pointer none)))), (12, .grd 10 true (.p (.bool false))), (13, .grd 10 true (.p (.bool false))), (14, .grd 10 true (.p (.bool false))), (15, .grd 10 true (.p (.bool false)))], ck := (zWo1 b c), kn := [4], m := 5 }
abbrev zWo9 (a : List Str) (b : Chart) (c : Int) : ST := { n := 17, fr := [(1, .p (.lst .str a)), (4, .p (.bool false)), (10, .p (.bool false)), (11, .grd 10 true (.p (.v (Value.pointer none))))], ck := (zWo1 b c), kn := [4], m := 5 }
abbrev zWo10 (a : List Str) (b : Chart) (c : Int) : ST := { n := 17, fr := [(1, .p (.lst .str a)), (4, .p (.bool false)), (5, .p (.v (Value.pointer none))), (8, .p (.v (Value.pointer none)))], ck := (zWo1 b c), kn := [4], m := 5 }
abbrev zWo11 (b : Int) : List Chunk := [.cells [.pd (.str a.name), .own 1, .own 2, .own 3, .own 4, SC.i b] 45, .own 9 .str a.events, .own 61 .var a.vars, .dead, .own 68 .tran a.trans]
abbrev zWo12 (b : Int) : List Chunk := [.cells [.pd (.str a.name), .own 1, .own 2, .own 3, .own 4, .i b] 45, .own 9 .str a.events, .own 61 .var a.vars, .dead, .own 68 .tran a.trans]
theorem GQ (hf : Fit c 6001) (h : (gk c d w).isSome = false) : ah Tryz.prog 44 [.c (.loc 0 0), .l .str w] (rdK c d) (.x (.b false)) [.dead, .dead, .dead, .dead, .dead] := by
 have hpl := tJ (d := d) (w := w) hf
 refine ah.lost 5 Tryz.func44 (by kernel_rfl) (by kernel_rfl) rfl fun Γ => ?_
 cases ho : cW c d
 · refine jg mG Tryz.func44 (.need (Fit c 6001 ∧ cW c d = false) (.stop zWo7 (zWo10 w c d))) ?_
   refine ⟨⟨hf, ho⟩, J.ptrNil (d := 9) (b := false) (by kernel_rfl) ?_⟩
   refine jg mG Tryz.func44 (.stop [.ops [1, 1, 0] 4, .code [1, 1, 1]] (zWo9 w c d)) ?_
   have hz : J Tryz.prog 44 (aE Tryz.f44) Γ (fun v _ => v = .x (.b false)) zWo8 ((zWo3 w c d)) := by
    refine jg mG Tryz.func44 (.ret (.p (.bool false)) (zWo1 c d)) ?_
    rfl
   exact J.off 4 4 (by kernel_rfl) hz
 · have h1 := ((dI hf).1 ho).1
   refine jg jK Tryz.func44 (.need (Fit c 6001 ∧ cW c d = true) (.stop zWo7 (zWo2 w c d))) ?_
   refine ⟨⟨hf, ho⟩, J.ptrNil (d := 9) (b := true) (by kernel_rfl) ?_⟩
   refine jg jK Tryz.func44 (.stop [.ops [1, 1, 0] 7, .code [1, 1, 1]] (zWo5 c w d)) ?_
   have hz : J Tryz.prog 44 (aE Tryz.f44) Γ (fun v _ => v = .x (.b false)) zWo8 ({ n := 17, fr := [(4, .p (.bool false)), (10, .p (.bool true)), (13, .x (.c (.oat 3 (c.states.length - 1) 6 4))), (14, .p (.lst .str w)), (15, .p (.bool false))], ck := (zWo11 c d), kn := [4], m := 5 }) := by
    refine jg jK Tryz.func44 (.ret (.p (.bool false)) (zWo12 c d)) ?_
    rfl
   exact J.on (cfg := lU) jK (q := some (c.states.length - 1 < c.states.length ∧ ¬ (w.length = 1 ∧ (ETy.get .stat c.states (c.states.length - 1)).entry = [] ∧ aR (ar w 0)))) (by kernel_rfl) (by exact ⟨by omega, fun hc => by rw [hpl.1 ⟨ho, hc⟩] at h; cases h⟩) hz
/-! ### exit -/
noncomputable def mf : Cfg := ⟨bn, [gP, xH]⟩
theorem jU : ag Tryz.prog mf.tab := (ag.cons fR (ag.cons EK ag.nil))
noncomputable def lK : Cfg := ⟨bn, [gP, yg]⟩
theorem jT : ag Tryz.prog lK.tab := (ag.cons fR (ag.cons Ey ag.nil))
def p7 : Cfg := ⟨bn, [mP]⟩
theorem mj : ag Tryz.prog p7.tab := (ag.cons oi ag.nil)
theorem tE {c : Chart} {d : Int} {w : List Str} (hf : Fit c 6001) : (cW c d = true ∧ (w.length = 1 ∧ (ETy.get .stat c.states (c.states.length - 1)).leave = [] ∧ aR (ar w 0)) → hU c d w = some { c with states := c.states.set (c.states.length - 1) { ETy.get .stat c.states (c.states.length - 1) with leave := (aK (ar w 0)).1 } }) ∧ (¬ (cW c d = true ∧ (w.length = 1 ∧ (ETy.get .stat c.states (c.states.length - 1)).leave = [] ∧ aR (ar w 0))) → hU c d w = none) := by
 unfold hU
 by_cases h : c.states.length = 0
 · have h1 : c.states.getLast? = none := by rw [bP.1 h]; rfl
   rw [h1]
   exact ⟨fun h2 => absurd h ((dI hf).1 h2.1).1, fun _ => rfl⟩
 · rw [jk h]
   simp only
   refine ⟨fun hc => ?_, fun hc => ?_⟩
   · rw [if_pos ⟨((dI hf).1 hc.1).2, hc.2⟩, tR h]
   · rw [if_neg]
     rintro ⟨h2, h3⟩
     exact hc ⟨(dI hf).2 ⟨h, h2⟩, h3⟩
abbrev zWo6 (b : List Str) (c : Int) : ST := { n := 17, fr := [(4, .p (.bool false)), (10, .p (.bool true)), (13, .grd 10 true (.c (.oat 3 (a.states.length - 1) 6 5))), (14, .grd 10 true (.p (.lst .str b)))], ck := (zWo1 a c), kn := [4], m := 5 }
theorem GM (hf : Fit c 6001) (h : (hU c d w).isSome = true) : ah Tryz.prog 45 [.c (.loc 0 0), .l .str w] (rdK c d) (.x (.b true)) (ckR (got (hU c d w)) d) := by
 have hpl := tE (d := d) (w := w) hf
 by_cases hc : cW c d = true ∧ (w.length = 1 ∧ (ETy.get .stat c.states (c.states.length - 1)).leave = [] ∧ aR (ar w 0))
 · have hpl := hpl.1 hc
   rw [hpl]
   refine ah.isR Tryz.func45 (by kernel_rfl) (by kernel_rfl) rfl fun Γ => ?_
   have h1 := ((dI hf).1 hc.1).1
   refine jg jU Tryz.func45 (.need (Fit c 6001 ∧ cW c d = true) (.stop zWo7 (zWo2 w c d))) ?_
   refine ⟨⟨hf, hc.1⟩, J.ptrNil (d := 9) (b := true) (by kernel_rfl) ?_⟩
   refine jg jU Tryz.func45 (.stop [.ops [1, 1, 0] 7, .code [1, 1, 1]] (zWo6 c w d)) ?_
   have hz : J Tryz.prog 45 (aE Tryz.f45) Γ (IsR { c with states := c.states.set (c.states.length - 1) { ETy.get .stat c.states (c.states.length - 1) with leave := (aK (ar w 0)).1 } } d) zWo8 ({ n := 17, fr := [(4, .p (.bool false)), (10, .p (.bool true)), (13, .x (.c (.oat 3 (c.states.length - 1) 6 5))), (14, .p (.lst .str w)), (15, .p (.bool true))], ck := [.cells [.pd (.str c.name), .own 1, .own 2, .own 3, .own 4, SC.i d] 45, .own 9 .str c.events, .own 61 .var c.vars, .own 64 .stat (c.states.set (c.states.length - 1) { ETy.get .stat c.states (c.states.length - 1) with leave := (aK (ar w 0)).1 }), .own 68 .tran c.trans], kn := [4], m := 5 }) := by
    refine jg jU Tryz.func45 (.ret (.p (.bool true)) [.cells [.pd (.str c.name), .own 1, .own 2, .own 3, .own 4, .i d] 45, .own 9 .str c.events, .own 61 .var c.vars, .own 64 .stat (List.set c.states (c.states.length - 1) (let __src := ETy.get .stat c.states (c.states.length - 1); { name := __src.name, kind := __src.kind, depth := __src.depth, initial := __src.initial, entry := __src.entry, leave := (aK (ar w 0)).1 })), .own 68 .tran c.trans]) ?_
    exact IsR.of0 rfl
   exact J.on (cfg := mf) jU (q := some (c.states.length - 1 < c.states.length ∧ w.length = 1 ∧ (ETy.get .stat c.states (c.states.length - 1)).leave = [] ∧ aR (ar w 0))) (by kernel_rfl) (by exact ⟨by omega, hc.2⟩) hz
 · rw [hpl.2 hc] at h; cases h
theorem GB (hf : Fit c 6001) (h : (hU c d w).isSome = false) : ah Tryz.prog 45 [.c (.loc 0 0), .l .str w] (rdK c d) (.x (.b false)) [.dead, .dead, .dead, .dead, .dead] := by
 have hpl := tE (d := d) (w := w) hf
 refine ah.lost 5 Tryz.func45 (by kernel_rfl) (by kernel_rfl) rfl fun Γ => ?_
 cases ho : cW c d
 · refine jg mj Tryz.func45 (.need (Fit c 6001 ∧ cW c d = false) (.stop zWo7 (zWo10 w c d))) ?_
   refine ⟨⟨hf, ho⟩, J.ptrNil (d := 9) (b := false) (by kernel_rfl) ?_⟩
   refine jg mj Tryz.func45 (.stop [.ops [1, 1, 0] 4, .code [1, 1, 1]] (zWo9 w c d)) ?_
   have hz : J Tryz.prog 45 (aE Tryz.f45) Γ (fun v _ => v = .x (.b false)) zWo8 ((zWo3 w c d)) := by
    refine jg mj Tryz.func45 (.ret (.p (.bool false)) (zWo1 c d)) ?_
    rfl
   exact J.off 4 4 (by kernel_rfl) hz
 · have h1 := ((dI hf).1 ho).1
   refine jg jT Tryz.func45 (.need (Fit c 6001 ∧ cW c d = true) (.stop zWo7 (zWo2 w c d))) ?_
   refine ⟨⟨hf, ho⟩, J.ptrNil (d := 9) (b := true) (by kernel_rfl) ?_⟩
   refine jg jT Tryz.func45 (.stop [.ops [1, 1, 0] 7, .code [1, 1, 1]] (zWo6 c w d)) ?_
   have hz : J Tryz.prog 45 (aE Tryz.f45) Γ (fun v _ => v = .x (.b false)) zWo8 ({ n := 17, fr := [(4, .p (.bool false)), (10, .p (.bool true)), (13, .x (.c (.oat 3 (c.states.length - 1) 6 5))), (14, .p (.lst .str w)), (15, .p (.bool false))], ck := (zWo11 c d), kn := [4], m := 5 }) := by
    refine jg jT Tryz.func45 (.ret (.p (.bool false)) (zWo12 c d)) ?_
    rfl
   exact J.on (cfg := lK) jT (q := some (c.states.length - 1 < c.states.length ∧ ¬ (w.length = 1 ∧ (ETy.get .stat c.states (c.states.length - 1)).leave = [] ∧ aR (ar w 0)))) (by kernel_rfl) (by exact ⟨by omega, fun hc => by rw [hpl.1 ⟨ho, hc⟩] at h; cases h⟩) hz
end Go.Proofs.YtpfidgnkokidoaaGreatDoor

/- Contracts: the program's reader of charts: states' lines. Conditions: sizes. -/
import Derived.Test.YtpfidgnkokidoaaGreatDoorWh
namespace Go.Proofs.YtpfidgnkokidoaaGreatDoor
open Go Go.Ev
set_option maxRecDepth 100000
abbrev zWn2 (a : Chart) (b : Int) : List Chunk := [.cells [.pd (.str a.name), .own 1, .own 2, .own 3, .own 4, .i b] 45, .own 9 .str a.events, .own 61 .var a.vars, .own 64 .stat a.states, .own 68 .tran a.trans]
variable (c : Chart) (d : Int) (w : List Str) (k : Int)
theorem AS (hf : Fit c 6001) (Γ : Ctx) : J Tryz.prog 82 (aE Tryz.f82) Γ (bk (aD k 1 c d w) d) [.code []] (b6 Tryz.f82.ntmps [.c (.loc 0 0), .i k, .l .str w, .i 1] (rdK c d)) := by
 refine jg nZ Tryz.func82 (let x4 := (c.states ++ [{ name := ETy.get .str w 0, kind := k, depth := d, initial := ETy.get .str w 1, entry := [], leave := [] }]); let x5 := (c.states ++ [{ name := ETy.get .str w 0, kind := k, depth := d, initial := [], entry := [], leave := [] }]); let x1 : Tree := (.need (inRg 0 w.length) (.ite false (.need (inRg 1 w.length) (.need (room (x4.length) 96) (.ret (.p (.bool true)) [.cells [.pd (.str c.name), .own 1, .own 2, .own 5, .own 4, .i d] 45, .own 9 .str c.events, .own 61 .var c.vars, .dead, .own 68 .tran c.trans, .own 64 .stat x4]))) (.need (room (x5.length) 96) (.ret (.p (.bool true)) [.cells [.pd (.str c.name), .own 1, .own 2, .own 5, .own 4, .i d] 45, .own 9 .str c.events, .own 61 .var c.vars, .dead, .own 68 .tran c.trans, .own 64 .stat x5])))); let x6 := (c.states.length : Int); let x2 := (d > IntKind.wrap .i64 (Stat.depth (ETy.get .stat c.states ((IntKind.wrap .i64 (x6 - 1)).toNat)) + (1 : Int))); let x3 : Tree := (.ret (.p (.bool false)) (zWn2 c d)); .ite (decide (x6 > 0)) (.need ((0 : Int) ≤ IntKind.wrap .i64 (x6 - 1) ∧ IntKind.wrap .i64 (x6 - 1) < x6) (.need ((IntKind.wrap .i64 (x6 - 1)).toNat < c.states.length) (.need ((decide x2 || (w.length : Int) != 1) = false → (0 : Int) ≤ 0 ∧ (0 : Int) < (w.length : Int)) (.need ((decide x2 || (w.length : Int) != 1 || !aP (ETy.get .str w 0)) = false → (0 : Int) ≤ IntKind.wrap .i64 ((1 : Int) - 1) ∧ IntKind.wrap .i64 ((1 : Int) - 1) < (w.length : Int)) (.ite (decide x2 || (w.length : Int) != 1 || !aP (ETy.get .str w 0) || !aP (ETy.get .str w 0)) x3 x1))))) (.need ((decide (d > (0 : Int)) || (w.length : Int) != 1) = false → (0 : Int) ≤ 0 ∧ (0 : Int) < (w.length : Int)) (.need ((decide (d > (0 : Int)) || (w.length : Int) != 1 || !aP (ETy.get .str w 0)) = false → (0 : Int) ≤ IntKind.wrap .i64 ((1 : Int) - 1) ∧ IntKind.wrap .i64 ((1 : Int) - 1) < (w.length : Int)) (.ite (decide (d > (0 : Int)) || (w.length : Int) != 1 || !aP (ETy.get .str w 0) || !aP (ETy.get .str w 0)) x3 x1)))) ?_
 conv => zeta
 have hs := hf.states
 have hw0 : IntKind.wrap .i64 ((1 : Int) - 1) = (0 : Int) := by rw [cg (by omega) (by omega)]; rfl
 have bad : ∀ r : Int, gr c = r → (decide (d > r) || ((w.length : Int) != 1) || !aP (ETy.get .str w 0) || !aP (ETy.get .str w 0)) = decide ¬ (d ≤ gr c ∧ w.length = 1 ∧ aP (ar w 0) = true ∧ aP (ar w 0) = true) := fun r hr => by
  rw [hr, bZ]
  have e0 : ETy.get .str w 0 = ar w 0 := rfl
  have e1 : ETy.get .str w 0 = ar w 0 := rfl
  (try rw [e0])
  (try rw [e1])
  simp only [aF, decide_eq_true_eq, bne_iff_ne, ne_eq, aC]
  cases aP (ar w 0) <;> cases aP (ar w 0) <;> simp <;> omega
 have len : ∀ r : Int, (decide (d > r) || ((w.length : Int) != 1)) = false → w.length = 1 := fun r h => by
  rw [aH] at h
  have : (w.length : Int) = 1 := by simpa using h.2
  omega
 refine ⟨fun h => ?_, fun h => ?_⟩
 · have h1 : c.states.length ≠ 0 := by have := of_decide_eq_true h; omega
   have hr := rN h1
   have hd := nY hf h1
   rw [iX h1 (by omega), bx, cg (n := (ETy.get .stat c.states (c.states.length - 1)).depth + 1) (by omega) (by omega), hw0, bad _ hr]
   refine ⟨⟨by omega, by omega⟩, by omega, fun h => ?_, fun h => ?_, fun hb => bk.no (fp (of_decide_eq_true hb)), fun hb => ?_⟩
   · have := len _ h; omega
   · rw [aH] at h
     have := len _ h.1; omega
   · have hok := Classical.not_not.1 (of_decide_eq_false hb)
     have hl := hok.2.1
     exact ⟨⟨by omega, by omega⟩, fun x => Bool.noConfusion x, fun _ => ⟨oS (by simp only [aj, ak, au]; omega), bk.yes (if_pos hok) (IsR.of3 rfl)⟩⟩
 · have h1 : c.states.length = 0 := by have := of_decide_eq_false h; omega
   have hr := qY h1
   rw [hw0, bad _ hr]
   refine ⟨fun h => ?_, fun h => ?_, fun hb => bk.no (fp (of_decide_eq_true hb)), fun hb => ?_⟩
   · have := len _ h; omega
   · rw [aH] at h
     have := len _ h.1; omega
   · have hok := Classical.not_not.1 (of_decide_eq_false hb)
     have hl := hok.2.1
     exact ⟨⟨by omega, by omega⟩, fun x => Bool.noConfusion x, fun _ => ⟨oS (by simp only [aj, ak, au]; omega), bk.yes (if_pos hok) (IsR.of3 rfl)⟩⟩
theorem yA (hf : Fit c 6001) (Γ : Ctx) : J Tryz.prog 82 (aE Tryz.f82) Γ (bk (aD k 2 c d w) d) [.code []] (b6 Tryz.f82.ntmps [.c (.loc 0 0), .i k, .l .str w, .i 2] (rdK c d)) := by
 refine jg nZ Tryz.func82 (let x4 := (c.states ++ [{ name := ETy.get .str w 0, kind := k, depth := d, initial := ETy.get .str w 1, entry := [], leave := [] }]); let x5 := (c.states ++ [{ name := ETy.get .str w 0, kind := k, depth := d, initial := [], entry := [], leave := [] }]); let x1 : Tree := (.need (inRg 0 w.length) (.ite true (.need (inRg 1 w.length) (.need (room (x4.length) 96) (.ret (.p (.bool true)) [.cells [.pd (.str c.name), .own 1, .own 2, .own 5, .own 4, .i d] 45, .own 9 .str c.events, .own 61 .var c.vars, .dead, .own 68 .tran c.trans, .own 64 .stat x4]))) (.need (room (x5.length) 96) (.ret (.p (.bool true)) [.cells [.pd (.str c.name), .own 1, .own 2, .own 5, .own 4, .i d] 45, .own 9 .str c.events, .own 61 .var c.vars, .dead, .own 68 .tran c.trans, .own 64 .stat x5])))); let x6 := (c.states.length : Int); let x2 := (d > IntKind.wrap .i64 (Stat.depth (ETy.get .stat c.states ((IntKind.wrap .i64 (x6 - 1)).toNat)) + (1 : Int))); let x3 : Tree := (.ret (.p (.bool false)) (zWn2 c d)); .ite (decide (x6 > 0)) (.need ((0 : Int) ≤ IntKind.wrap .i64 (x6 - 1) ∧ IntKind.wrap .i64 (x6 - 1) < x6) (.need ((IntKind.wrap .i64 (x6 - 1)).toNat < c.states.length) (.need ((decide x2 || (w.length : Int) != 2) = false → (0 : Int) ≤ 0 ∧ (0 : Int) < (w.length : Int)) (.need ((decide x2 || (w.length : Int) != 2 || !aP (ETy.get .str w 0)) = false → (0 : Int) ≤ IntKind.wrap .i64 ((2 : Int) - 1) ∧ IntKind.wrap .i64 ((2 : Int) - 1) < (w.length : Int)) (.ite (decide x2 || (w.length : Int) != 2 || !aP (ETy.get .str w 0) || !aP (ETy.get .str w 1)) x3 x1))))) (.need ((decide (d > (0 : Int)) || (w.length : Int) != 2) = false → (0 : Int) ≤ 0 ∧ (0 : Int) < (w.length : Int)) (.need ((decide (d > (0 : Int)) || (w.length : Int) != 2 || !aP (ETy.get .str w 0)) = false → (0 : Int) ≤ IntKind.wrap .i64 ((2 : Int) - 1) ∧ IntKind.wrap .i64 ((2 : Int) - 1) < (w.length : Int)) (.ite (decide (d > (0 : Int)) || (w.length : Int) != 2 || !aP (ETy.get .str w 0) || !aP (ETy.get .str w 1)) x3 x1)))) ?_
 conv => zeta
 have hs := hf.states
 have hw0 : IntKind.wrap .i64 ((2 : Int) - 1) = (1 : Int) := by rw [cg (by omega) (by omega)]; rfl
 have bad : ∀ r : Int, gr c = r → (decide (d > r) || ((w.length : Int) != 2) || !aP (ETy.get .str w 0) || !aP (ETy.get .str w 1)) = decide ¬ (d ≤ gr c ∧ w.length = 2 ∧ aP (ar w 0) = true ∧ aP (ar w 1) = true) := fun r hr => by
  rw [hr, bZ]
  have e0 : ETy.get .str w 0 = ar w 0 := rfl
  have e1 : ETy.get .str w 1 = ar w 1 := rfl
  (try rw [e0])
  (try rw [e1])
  simp only [aF, decide_eq_true_eq, bne_iff_ne, ne_eq, aC]
  cases aP (ar w 0) <;> cases aP (ar w 1) <;> simp <;> omega
 have len : ∀ r : Int, (decide (d > r) || ((w.length : Int) != 2)) = false → w.length = 2 := fun r h => by
  rw [aH] at h
  have : (w.length : Int) = 2 := by simpa using h.2
  omega
 refine ⟨fun h => ?_, fun h => ?_⟩
 · have h1 : c.states.length ≠ 0 := by have := of_decide_eq_true h; omega
   have hr := rN h1
   have hd := nY hf h1
   rw [iX h1 (by omega), bx, cg (n := (ETy.get .stat c.states (c.states.length - 1)).depth + 1) (by omega) (by omega), hw0, bad _ hr]
   refine ⟨⟨by omega, by omega⟩, by omega, fun h => ?_, fun h => ?_, fun hb => bk.no (fp (of_decide_eq_true hb)), fun hb => ?_⟩
   · have := len _ h; omega
   · rw [aH] at h
     have := len _ h.1; omega
   · have hok := Classical.not_not.1 (of_decide_eq_false hb)
     have hl := hok.2.1
     exact ⟨⟨by omega, by omega⟩, fun _ => ⟨⟨by omega, by omega⟩, oS (by simp only [aj, ak, au]; omega), bk.yes (if_pos hok) (IsR.of3 rfl)⟩, fun x => Bool.noConfusion x⟩
 · have h1 : c.states.length = 0 := by have := of_decide_eq_false h; omega
   have hr := qY h1
   rw [hw0, bad _ hr]
   refine ⟨fun h => ?_, fun h => ?_, fun hb => bk.no (fp (of_decide_eq_true hb)), fun hb => ?_⟩
   · have := len _ h; omega
   · rw [aH] at h
     have := len _ h.1; omega
   · have hok := Classical.not_not.1 (of_decide_eq_false hb)
     have hl := hok.2.1
     exact ⟨⟨by omega, by omega⟩, fun _ => ⟨⟨by omega, by omega⟩, oS (by simp only [aj, ak, au]; omega), bk.yes (if_pos hok) (IsR.of3 rfl)⟩, fun x => Bool.noConfusion x⟩
theorem Eg (hf : Fit c 6001) (h : (aD k 1 c d w).isSome = true) : ah Tryz.prog 82 [.c (.loc 0 0), .i k, .l .str w, .i 1] (rdK c d) (.x (.b true)) (ckR (got (aD k 1 c d w)) d) :=
 step_ok Tryz.func82 (by kernel_rfl) (by kernel_rfl) rfl (AS c d w k hf) h
abbrev zWn1 : List Chunk := [.dead, .dead, .dead, .dead, .dead]
theorem Fi (hf : Fit c 6001) (h : (aD k 1 c d w).isSome = false) : ah Tryz.prog 82 [.c (.loc 0 0), .i k, .l .str w, .i 1] (rdK c d) (.x (.b false)) zWn1 :=
 hI Tryz.func82 (by kernel_rfl) (by kernel_rfl) (AS c d w k hf) h
def sg : Ent := (82, fun
 | [.c (.loc 0 0), .c (.pd (.int .i64 k)), .c (.pd (.lst .str w)), .c (.pd (.int .i64 1))], [.cells [.pd (.str nm), .own 1, .own 2, .own 3, .own 4, .pd (.int .i64 d)] 45, .own 9 .str ev, .own 61 .var vs, .own 64 .stat st, .own 68 .tran tr] => some (some (Fit ⟨nm, ev, vs, st, tr⟩ 6001 ∧ (aD k 1 ⟨nm, ev, vs, st, tr⟩ d w).isSome = true), .x (.c (.pd (.bool true))), [.cells [.pd (.str (got (aD k 1 ⟨nm, ev, vs, st, tr⟩ d w)).name), .own 5, .own 6, .own 7, .own 8, .pd (.int .i64 d)] 45, .dead, .dead, .dead, .dead, .own 9 .str (got (aD k 1 ⟨nm, ev, vs, st, tr⟩ d w)).events, .own 61 .var (got (aD k 1 ⟨nm, ev, vs, st, tr⟩ d w)).vars, .own 64 .stat (got (aD k 1 ⟨nm, ev, vs, st, tr⟩ d w)).states, .own 68 .tran (got (aD k 1 ⟨nm, ev, vs, st, tr⟩ d w)).trans])
 | _, _ => none)
theorem BL : EntOk Tryz.prog sg := entOk fun vs ck => by
 unfold sg; dsimp only; split
 · rename_i k w nm d ev vs st tr; exact entS fun hp => Eg ⟨nm, ev, vs, st, tr⟩ d w k hp.1 hp.2
 · exact entN
def sB : Ent := (82, fun
 | [.c (.loc 0 0), .c (.pd (.int .i64 k)), .c (.pd (.lst .str w)), .c (.pd (.int .i64 1))], [.cells [.pd (.str nm), .own 1, .own 2, .own 3, .own 4, .pd (.int .i64 d)] 45, .own 9 .str ev, .own 61 .var vs, .own 64 .stat st, .own 68 .tran tr] => some (some (Fit ⟨nm, ev, vs, st, tr⟩ 6001 ∧ (aD k 1 ⟨nm, ev, vs, st, tr⟩ d w).isSome = false), .x (.c (.pd (.bool false))), [.dead, .dead, .dead, .dead, .dead])
 | _, _ => none)
theorem B9 : EntOk Tryz.prog sB := entOk fun vs ck => by
 unfold sB; dsimp only; split
 · rename_i k w nm d ev vs st tr; exact entS fun hp => Fi ⟨nm, ev, vs, st, tr⟩ d w k hp.1 hp.2
 · exact entN
def mU : Cfg := ⟨bn, [sg]⟩
theorem kY : ag Tryz.prog mU.tab := (ag.cons BL ag.nil)
def nq : Cfg := ⟨bn, [sB]⟩
theorem kR : ag Tryz.prog nq.tab := (ag.cons B9 ag.nil)
theorem D0 (hf : Fit c 6001) (h : (aD k 2 c d w).isSome = true) : ah Tryz.prog 82 [.c (.loc 0 0), .i k, .l .str w, .i 2] (rdK c d) (.x (.b true)) (ckR (got (aD k 2 c d w)) d) :=
 step_ok Tryz.func82 (by kernel_rfl) (by kernel_rfl) rfl (yA c d w k hf) h
theorem DS (hf : Fit c 6001) (h : (aD k 2 c d w).isSome = false) : ah Tryz.prog 82 [.c (.loc 0 0), .i k, .l .str w, .i 2] (rdK c d) (.x (.b false)) zWn1 :=
 hI Tryz.func82 (by kernel_rfl) (by kernel_rfl) (yA c d w k hf) h
def sL : Ent := (82, fun
 | [.c (.loc 0 0), .c (.pd (.int .i64 k)), .c (.pd (.lst .str w)), .c (.pd (.int .i64 2))], [.cells [.pd (.str nm), .own 1, .own 2, .own 3, .own 4, .pd (.int .i64 d)] 45, .own 9 .str ev, .own 61 .var vs, .own 64 .stat st, .own 68 .tran tr] => some (some (Fit ⟨nm, ev, vs, st, tr⟩ 6001 ∧ (aD k 2 ⟨nm, ev, vs, st, tr⟩ d w).isSome = true), .x (.c (.pd (.bool true))), [.cells [.pd (.str (got (aD k 2 ⟨nm, ev, vs, st, tr⟩ d w)).name), .own 5, .own 6, .own 7, .own 8, .pd (.int .i64 d)] 45, .dead, .dead, .dead, .dead, .own 9 .str (got (aD k 2 ⟨nm, ev, vs, st, tr⟩ d w)).events, .own 61 .var (got (aD k 2 ⟨nm, ev, vs, st, tr⟩ d w)).vars, .own 64 .stat (got (aD k 2 ⟨nm, ev, vs, st, tr⟩ d w)).states, .own 68 .tran (got (aD k 2 ⟨nm, ev, vs, st, tr⟩ d w)).trans])
 | _, _ => none)
theorem BP : EntOk Tryz.prog sL := entOk fun vs ck => by
 unfold sL; dsimp only; split
 · rename_i k w nm d ev vs st tr; exact entS fun hp => D0 ⟨nm, ev, vs, st, tr⟩ d w k hp.1 hp.2
 · exact entN
def sk : Ent := (82, fun
 | [.c (.loc 0 0), .c (.pd (.int .i64 k)), .c (.pd (.lst .str w)), .c (.pd (.int .i64 2))], [.cells [.pd (.str nm), .own 1, .own 2, .own 3, .own 4, .pd (.int .i64 d)] 45, .own 9 .str ev, .own 61 .var vs, .own 64 .stat st, .own 68 .tran tr] => some (some (Fit ⟨nm, ev, vs, st, tr⟩ 6001 ∧ (aD k 2 ⟨nm, ev, vs, st, tr⟩ d w).isSome = false), .x (.c (.pd (.bool false))), [.dead, .dead, .dead, .dead, .dead])
 | _, _ => none)
theorem CW : EntOk Tryz.prog sk := entOk fun vs ck => by
 unfold sk; dsimp only; split
 · rename_i k w nm d ev vs st tr; exact entS fun hp => DS ⟨nm, ev, vs, st, tr⟩ d w k hp.1 hp.2
 · exact entN
def np : Cfg := ⟨bn, [sL]⟩
theorem kO : ag Tryz.prog np.tab := (ag.cons BP ag.nil)
def nr : Cfg := ⟨bn, [sk]⟩
theorem lb : ag Tryz.prog nr.tab := (ag.cons CW ag.nil)
theorem BR (hf : Fit c 6001) (h : (aD 1 1 c d w).isSome = true) : ah Tryz.prog 38 [.c (.loc 0 0), .l .str w] (rdK c d) (.x (.b true)) (ckR (got (aD 1 1 c d w)) d) := by
 refine dg kY Tryz.func38 (.need (Fit c 6001 ∧ Option.isSome (aD (1 : Int) 1 c d w) = true) (.ret (.p (.bool true)) [.cells [.pd (.str (Chart.name (got (aD (1 : Int) 1 c d w)))), .own 5, .own 6, .own 7, .own 8, .i d] 45, .dead, .dead, .dead, .dead, .own 9 .str (Chart.events (got (aD (1 : Int) 1 c d w))), .own 61 .var (Chart.vars (got (aD (1 : Int) 1 c d w))), .own 64 .stat (Chart.states (got (aD (1 : Int) 1 c d w))), .own 68 .tran (Chart.trans (got (aD (1 : Int) 1 c d w)))])) fun Γ => ⟨⟨hf, h⟩, rfl, rfl⟩
theorem BH (hf : Fit c 6001) (h : (aD 1 1 c d w).isSome = false) : ah Tryz.prog 38 [.c (.loc 0 0), .l .str w] (rdK c d) (.x (.b false)) zWn1 := by
 refine dg kR Tryz.func38 (.need (Fit c 6001 ∧ Option.isSome (aD (1 : Int) 1 c d w) = false) (.ret (.p (.bool false)) zWn1)) fun Γ => ⟨⟨hf, h⟩, rfl, rfl⟩
theorem EM (hf : Fit c 6001) (h : (aD 3 1 c d w).isSome = true) : ah Tryz.prog 39 [.c (.loc 0 0), .l .str w] (rdK c d) (.x (.b true)) (ckR (got (aD 3 1 c d w)) d) := by
 refine dg kY Tryz.func39 (.need (Fit c 6001 ∧ Option.isSome (aD (3 : Int) 1 c d w) = true) (.ret (.p (.bool true)) [.cells [.pd (.str (Chart.name (got (aD (3 : Int) 1 c d w)))), .own 5, .own 6, .own 7, .own 8, .i d] 45, .dead, .dead, .dead, .dead, .own 9 .str (Chart.events (got (aD (3 : Int) 1 c d w))), .own 61 .var (Chart.vars (got (aD (3 : Int) 1 c d w))), .own 64 .stat (Chart.states (got (aD (3 : Int) 1 c d w))), .own 68 .tran (Chart.trans (got (aD (3 : Int) 1 c d w)))])) fun Γ => ⟨⟨hf, h⟩, rfl, rfl⟩
theorem Ex (hf : Fit c 6001) (h : (aD 3 1 c d w).isSome = false) : ah Tryz.prog 39 [.c (.loc 0 0), .l .str w] (rdK c d) (.x (.b false)) zWn1 := by
 refine dg kR Tryz.func39 (.need (Fit c 6001 ∧ Option.isSome (aD (3 : Int) 1 c d w) = false) (.ret (.p (.bool false)) zWn1)) fun Γ => ⟨⟨hf, h⟩, rfl, rfl⟩
theorem BO (hf : Fit c 6001) (h : (aD 4 1 c d w).isSome = true) : ah Tryz.prog 40 [.c (.loc 0 0), .l .str w] (rdK c d) (.x (.b true)) (ckR (got (aD 4 1 c d w)) d) := by
 refine dg kY Tryz.func40 (.need (Fit c 6001 ∧ Option.isSome (aD (4 : Int) 1 c d w) = true) (.ret (.p (.bool true)) [.cells [.pd (.str (Chart.name (got (aD (4 : Int) 1 c d w)))), .own 5, .own 6, .own 7, .own 8, .i d] 45, .dead, .dead, .dead, .dead, .own 9 .str (Chart.events (got (aD (4 : Int) 1 c d w))), .own 61 .var (Chart.vars (got (aD (4 : Int) 1 c d w))), .own 64 .stat (Chart.states (got (aD (4 : Int) 1 c d w))), .own 68 .tran (Chart.trans (got (aD (4 : Int) 1 c d w)))])) fun Γ => ⟨⟨hf, h⟩, rfl, rfl⟩
theorem BW (hf : Fit c 6001) (h : (aD 4 1 c d w).isSome = false) : ah Tryz.prog 40 [.c (.loc 0 0), .l .str w] (rdK c d) (.x (.b false)) zWn1 := by
 refine dg kR Tryz.func40 (.need (Fit c 6001 ∧ Option.isSome (aD (4 : Int) 1 c d w) = false) (.ret (.p (.bool false)) zWn1)) fun Γ => ⟨⟨hf, h⟩, rfl, rfl⟩
theorem FG (hf : Fit c 6001) (h : (aD 2 2 c d w).isSome = true) : ah Tryz.prog 41 [.c (.loc 0 0), .l .str w] (rdK c d) (.x (.b true)) (ckR (got (aD 2 2 c d w)) d) := by
 refine dg kO Tryz.func41 (.need (Fit c 6001 ∧ Option.isSome (aD (2 : Int) 2 c d w) = true) (.ret (.p (.bool true)) [.cells [.pd (.str (Chart.name (got (aD (2 : Int) 2 c d w)))), .own 5, .own 6, .own 7, .own 8, .i d] 45, .dead, .dead, .dead, .dead, .own 9 .str (Chart.events (got (aD (2 : Int) 2 c d w))), .own 61 .var (Chart.vars (got (aD (2 : Int) 2 c d w))), .own 64 .stat (Chart.states (got (aD (2 : Int) 2 c d w))), .own 68 .tran (Chart.trans (got (aD (2 : Int) 2 c d w)))])) fun Γ => ⟨⟨hf, h⟩, rfl, rfl⟩
theorem F2 (hf : Fit c 6001) (h : (aD 2 2 c d w).isSome = false) : ah Tryz.prog 41 [.c (.loc 0 0), .l .str w] (rdK c d) (.x (.b false)) zWn1 := by
 refine dg lb Tryz.func41 (.need (Fit c 6001 ∧ Option.isSome (aD (2 : Int) 2 c d w) = false) (.ret (.p (.bool false)) zWn1)) fun Γ => ⟨⟨hf, h⟩, rfl, rfl⟩
theorem wS (hf : Fit c 6001) (h : (aD 5 2 c d w).isSome = true) : ah Tryz.prog 42 [.c (.loc 0 0), .l .str w] (rdK c d) (.x (.b true)) (ckR (got (aD 5 2 c d w)) d) := by
 refine dg kO Tryz.func42 (.need (Fit c 6001 ∧ Option.isSome (aD (5 : Int) 2 c d w) = true) (.ret (.p (.bool true)) [.cells [.pd (.str (Chart.name (got (aD (5 : Int) 2 c d w)))), .own 5, .own 6, .own 7, .own 8, .i d] 45, .dead, .dead, .dead, .dead, .own 9 .str (Chart.events (got (aD (5 : Int) 2 c d w))), .own 61 .var (Chart.vars (got (aD (5 : Int) 2 c d w))), .own 64 .stat (Chart.states (got (aD (5 : Int) 2 c d w))), .own 68 .tran (Chart.trans (got (aD (5 : Int) 2 c d w)))])) fun Γ => ⟨⟨hf, h⟩, rfl, rfl⟩
theorem xO (hf : Fit c 6001) (h : (aD 5 2 c d w).isSome = false) : ah Tryz.prog 42 [.c (.loc 0 0), .l .str w] (rdK c d) (.x (.b false)) zWn1 := by
 refine dg lb Tryz.func42 (.need (Fit c 6001 ∧ Option.isSome (aD (5 : Int) 2 c d w) = false) (.ret (.p (.bool false)) zWn1)) fun Γ => ⟨⟨hf, h⟩, rfl, rfl⟩
theorem DV (hf : Fit c 6001) (h : (aD 6 2 c d w).isSome = true) : ah Tryz.prog 43 [.c (.loc 0 0), .l .str w] (rdK c d) (.x (.b true)) (ckR (got (aD 6 2 c d w)) d) := by
 refine dg kO Tryz.func43 (.need (Fit c 6001 ∧ Option.isSome (aD (6 : Int) 2 c d w) = true) (.ret (.p (.bool true)) [.cells [.pd (.str (Chart.name (got (aD (6 : Int) 2 c d w)))), .own 5, .own 6, .own 7, .own 8, .i d] 45, .dead, .dead, .dead, .dead, .own 9 .str (Chart.events (got (aD (6 : Int) 2 c d w))), .own 61 .var (Chart.vars (got (aD (6 : Int) 2 c d w))), .own 64 .stat (Chart.states (got (aD (6 : Int) 2 c d w))), .own 68 .tran (Chart.trans (got (aD (6 : Int) 2 c d w)))])) fun Γ => ⟨⟨hf, h⟩, rfl, rfl⟩
theorem EA (hf : Fit c 6001) (h : (aD 6 2 c d w).isSome = false) : ah Tryz.prog 43 [.c (.loc 0 0), .l .str w] (rdK c d) (.x (.b false)) zWn1 := by
 refine dg lb Tryz.func43 (.need (Fit c 6001 ∧ Option.isSome (aD (6 : Int) 2 c d w) = false) (.ret (.p (.bool false)) zWn1)) fun Γ => ⟨⟨hf, h⟩, rfl, rfl⟩
end Go.Proofs.YtpfidgnkokidoaaGreatDoor

/- Contracts: points told and read. Conditions: texts that are ASCII. Contracts: the program's reader of charts: points' lines. Conditions: sizes. Contracts: the kinds of lines, a map. Conditions: none. -/
import Derived.Test.YtpfidgnkokidoaaGreatDoorWm
import Derived.Test.YtpfidgnkokidoaaGreatDoorJp
import Derived.Test.YtpfidgnkokidoaaGreatDoorWh
import Derived.Test.YtpfidgnkokidoaaGreatDoorDa
import Derived.Test.YtpfidgnkokidoaaGreatDoorVc
namespace Go.Proofs.YtpfidgnkokidoaaGreatDoor
open Go Go.Ev
set_option maxRecDepth 100000
/-! ### the program's -/
abbrev zJ80Xd := J Tryz.prog 80 (aE Tryz.f80)
theorem CX {p : Nat × Nat} : -1048576 ≤ cD p ∧ cD p ≤ 1048576 := by
 unfold cD; split
 · rename_i h; exact dJ (po h).2.2.1
 · omega
theorem C5 {p : Nat × Nat} : -1048576 ≤ cI p ∧ cI p ≤ 1048576 := by
 unfold cI; split
 · rename_i h; exact dJ (po h).2.2.2
 · omega
def Bg : Cfg := ⟨bn, [kA, eFi]⟩
theorem Bo : ag Tryz.prog Bg.tab := (ag.cons mm (ag.cons Gr ag.nil))
theorem Cu (p : Nat × Nat) (h : dn p = true) : ah Tryz.prog 57 [.c (.pd (.cx (some p)))] [] (.tup [.s (fj (cD p) (cI p)), .i 0]) [] := by
 refine dg Bo Tryz.func57 (let x1 := ((-9223372036854775808 : Int) ≤ cD p ∧ cD p ≤ (9223372036854775807 : Int)); let x2 := ((-9223372036854775808 : Int) ≤ cI p ∧ cI p ≤ (9223372036854775807 : Int)); .ite (hP p != (0 : Int)) (.ret (.tup [.p (.str []), .i (hP p)]) []) (.ite (decide (cI p < (0 : Int))) (.need x1 (.need ((Lib.itoa (cD p)).length + 0 ≤ 9223372036854775807) (.need x2 (.need ((Lib.itoa (cD p) ++ []).length + (Lib.itoa (cI p)).length ≤ 9223372036854775807) (.need ((Lib.itoa (cD p) ++ [] ++ Lib.itoa (cI p)).length + 1 ≤ 9223372036854775807) (.ret (.tup [.p (.str (Lib.itoa (cD p) ++ [] ++ Lib.itoa (cI p) ++ [(105 : UInt8)])), .i 0]) [])))))) (.need x1 (.need ((Lib.itoa (cD p)).length + 1 ≤ 9223372036854775807) (.need x2 (.need ((Lib.itoa (cD p) ++ [(43 : UInt8)]).length + (Lib.itoa (cI p)).length ≤ 9223372036854775807) (.need ((Lib.itoa (cD p) ++ [(43 : UInt8)] ++ Lib.itoa (cI p)).length + 1 ≤ 9223372036854775807) (.ret (.tup [.p (.str (Lib.itoa (cD p) ++ [(43 : UInt8)] ++ Lib.itoa (cI p) ++ [(105 : UInt8)])), .i 0]) [])))))))) fun Γ => ?_
 conv => zeta
 have hA := CX (p := p)
 have hB := C5 (p := p)
 have hE : hP p = 0 := by unfold hP; rw [if_pos h]
 have pa : pIn (cD p) = true := by simp only [pIn, af, decide_eq_true_eq]; exact hA
 have pb : pIn (cI p) = true := by simp only [pIn, af, decide_eq_true_eq]; exact hB
 have lA := (iU pa).1
 have lB := (iU pb).1
 rw [hE]
 refine ⟨fun h => Bool.noConfusion h, fun _ => ⟨fun h => ?_, fun h => ?_⟩⟩
 · have h' := of_decide_eq_true h
   refine ⟨⟨by omega, by omega⟩, by omega, ⟨by omega, by omega⟩, by simp only [aj, au]; omega, by simp only [aj, au]; omega, ?_, rfl⟩
   unfold fj; rw [if_pos h']
 · have h' := of_decide_eq_false h
   refine ⟨⟨by omega, by omega⟩, by omega, ⟨by omega, by omega⟩, by simp only [aj, ak, au]; omega, by simp only [aj, ak, au]; omega, ?_, rfl⟩
   unfold fj; rw [if_neg h']
def wG : Ent := (57, fun
 | [.c (.pd (.cx (some p)))], [] => some (some (dn p = true), .tup [.c (.pd (.str (fj (cD p) (cI p)))), .c (.pd (.int .i64 0))], [])
 | _, _ => none)
theorem D8 : EntOk Tryz.prog wG := entOk fun vs ck => by
 unfold wG; dsimp only; split
 · rename_i p; exact entS fun hp => Cu p hp
 · exact entN
def jG : Cfg := ⟨bn, [r6, l8, p5, pM, wG]⟩
theorem gy : ag Tryz.prog jG.tab := (ag.cons Br (ag.cons qK (ag.cons Aw (ag.cons y4 (ag.cons D8 ag.nil)))))
variable {a b : Int} (s : Str)
theorem iO (ha : pIn a = true) (hb : pIn b = true) : dn (b8 a b) = true ∧ cD (b8 a b) = a ∧ cI (b8 a b) = b ∧ hP (b8 a b) = 0 := by
 have h1 := dJ ha; have h2 := dJ hb
 have e : b8 a b = (num a, num b) := by unfold b8; rw [ha, hb]; rfl
 have hp := Ef (a := a) (b := b) (by omega) (by omega)
 have hr : dn (num a, num b) = true := by rw [qT hp, ha, hb]; rfl
 rw [e]
 refine ⟨hr, ?_, ?_, ?_⟩
 · unfold cD; rw [if_pos hr]; exact ox hp.1
 · unfold cI; rw [if_pos hr]; exact ox hp.2
 · unfold hP; rw [if_pos hr]
theorem qO (h : (pIn a && pIn b) = false) : b8 a b = (0, 0) ∧ gn a b = 5 := by
 unfold b8 gn; rw [h]; exact ⟨rfl, rfl⟩
theorem EG (ha : pIn a = true) (hb : pIn b = true) : gn a b = 0 := by unfold gn; rw [ha, hb]; rfl
def pj : Cfg := ⟨bn, [kB]⟩
theorem mA : ag Tryz.prog pj.tab := (ag.cons o9 ag.nil)
def pU : Cfg := ⟨bn, [kq]⟩
theorem l7 : ag Tryz.prog pU.tab := (ag.cons o2 ag.nil)
theorem ym : dn (0, 0) = true := by rw [qT (p := (0, 0)) ⟨sQ, sQ⟩]; decide
theorem xC (a b : Int) : dn (b8 a b) = true := by
 cases h : (pIn a && pIn b)
 · rw [(qO h).1]; exact ym
 · rw [af] at h; exact (iO h.1 h.2).1
def PrQ : Out := fun v k => (eg s → v = .tup [.c (.pd (.cx (some (b8 (ptA s) (ptB s))))), .i 0]) ∧ (¬ eg s → v = .tup [.c (.pd (.cx (some (0, 0)))), .i 1]) ∧ k = []
theorem PrQ.no {s : Str} (h : ¬ eg s) : PrQ s (.tup [.c (.pd (.cx (some (0, 0)))), .i 1]) [] := ⟨fun h' => absurd h' h, fun _ => rfl, rfl⟩
theorem PrQ.yes {s : Str} {a b : Int} (h : kJ s (a, b)) : PrQ s (.tup [.c (.pd (.cx (some (b8 a b)))), .i 0]) [] := by
 have hr : eg s := ⟨(a, b), h⟩
 obtain ⟨g1, g2, g3⟩ := lf hr
 obtain ⟨k1, k2, k3⟩ := h
 have := qJ g1 g2 k1 k2 (g3.trans k3.symm)
 have t1 : ptA s = a := this.1
 have t2 : ptB s = b := this.2
 exact ⟨fun _ => by rw [t1, t2], fun h' => absurd hr h', rfl⟩
theorem A7 {s : Str} {k : Int} : (aw s none (some k)).2 = s.take k.toNat := by simp [aw]
theorem oc {s : Str} {k : Int} : (aw s (some k) none).2 = s.drop k.toNat := by simp [aw]
abbrev zXd1 : List PI := [.ops [1, 1, 1, 1, 0] 6, .code [1, 1, 1, 1, 1]]
theorem vU (hs : s.length ≤ 1000000) (ha : s.all (fun c => decide (c.toNat < 128)) = true) (Γ : Ctx) : zJ80Xd Γ (PrQ s) [.code []] (b6 Tryz.f80.ntmps [.s s] []) := by
 refine jg gy Tryz.func80 (.need (s.length ≤ 9223372036854775807 ∧ (List.all s fun c => decide (UInt8.toNat c < 128)) = true) (.ite (decide (aA s < (1 : Int)) || decide (ae s > (20 : Int))) (.ret (.tup [.p (.cx (some (0, 0))), .i 1]) []) (.need ((0 : Int) ≤ aA s ∧ aA s ≤ (s.length : Int)) (.stop [.ops [1, 1, 1, 0] 3, .code [1, 1, 1, 1]] { n := 67, fr := [(0, .p (.str s)), (2, .p (.cx (some (0, 0)))), (3, .i 0), (4, .i (aA s)), (25, .p (.str ((aw s none (some (aA s))).2)))], ck := [] })))) ?_
 have hL : ae s = (s.length : Int) := rfl
 have hb := lh s s.length
 have hb1 : -1 ≤ aA s ∧ aA s < s.length := hb
 have facts : ∀ a b : Int, kJ s (a, b) → aA s = ((Lib.itoa a).length : Int) ∧ s.length ≤ 20 ∧ 0 < (Lib.itoa a).length ∧ (aw s none (some (aA s))).2 = Lib.itoa a ∧ (Lib.trimPrefix (Lib.trimSuffix (Prod.snd (aw s (some (aA s)) none)) [(105 : UInt8)]) [(43 : UInt8)]) = Lib.itoa b := fun a b h => by
  obtain ⟨f1, f2, f3, f4, f5⟩ := j2 h
  refine ⟨f1, f2, f3, ?_, ?_⟩
  · rw [A7, f1, bx]; exact f4
  · rw [oc, f1, bx]; exact f5
 refine ⟨⟨by omega, ha⟩, fun h => PrQ.no ?_, fun h => ⟨?_, ?_⟩⟩
 · rintro ⟨⟨a, b⟩, hp⟩
   obtain ⟨f1, f2, f3, _⟩ := facts a b hp
   rw [aF] at h
   rcases h with h | h
   · have := of_decide_eq_true h; omega
   · have := of_decide_eq_true h; omega
 · rw [aH] at h
   have := of_decide_eq_false h.1
   omega
 · rw [aH] at h
   have hk1 := of_decide_eq_false h.1
   have hk2 := of_decide_eq_false h.2
   have lX : (aw s none (some (aA s))).2.length ≤ 281474976710656 := by rw [A7, aX]; omega
   have lY : (Lib.trimPrefix (Lib.trimSuffix (Prod.snd (aw s (some (aA s)) none)) [(105 : UInt8)]) [(43 : UInt8)]).length ≤ 281474976710656 := by
    have h1 : ∀ (a p : Str), (Lib.trimPrefix a p).length ≤ a.length := fun a p => by unfold Lib.trimPrefix; split; rw [ba]; omega; exact ay _
    have h2 : ∀ (a p : Str), (Lib.trimSuffix a p).length ≤ a.length := fun a p => by unfold Lib.trimSuffix; split; rw [aX]; omega; exact ay _
    have h3 := h1 (Lib.trimSuffix (Prod.snd (aw s (some (aA s)) none)) [(105 : UInt8)]) [(43 : UInt8)]
    have h4 := h2 (Prod.snd (aw s (some (aA s)) none)) [(105 : UInt8)]
    have h5 : (Prod.snd (aw s (some (aA s)) none)).length ≤ s.length := by rw [oc, ba]; omega
    omega
   have ld : (Prod.snd (aw s (some (aA s)) none)).length ≤ 9223372036854775807 := by rw [oc, ba]; omega
   have pokX : cy (aw s none (some (aA s))).2 = false → ¬ eg s := fun hp => by
    rintro ⟨⟨a, b⟩, q⟩
    obtain ⟨_, _, _, f4, _⟩ := facts a b q
    rw [f4, (eR (n := a) (by have := dJ q.1; omega) (by have := dJ q.1; omega)).1] at hp; cases hp
   have pokY : cy (Lib.trimPrefix (Lib.trimSuffix (Prod.snd (aw s (some (aA s)) none)) [(105 : UInt8)]) [(43 : UInt8)]) = false → ¬ eg s := fun hp => by
    rintro ⟨⟨a, b⟩, q⟩
    obtain ⟨_, _, _, _, f5⟩ := facts a b q
    rw [f5, (eR (n := b) (by have := dJ q.2.1; omega) (by have := dJ q.2.1; omega)).1] at hp; cases hp
   cases hX : cy (aw s none (some (aA s))).2
   · have hno := pokX hX
     have h0 : zJ80Xd Γ (PrQ s) [.ops [1, 1, 1, 0] 4, .code [1, 1, 1, 1]] ({ n := 67, fr := [(0, .p (.str s)), (2, .p (.cx (some (0, 0)))), (3, .i 0), (4, .i (aA s)), (25, .p (.str ((aw s none (some (aA s))).2))), (26, .tup [.i (aJ (aw s none (some (aA s))).2), .c (.pd .err)])], ck := [] }) := by
      refine jg gy Tryz.func80 (.need ((0 : Int) ≤ aA s ∧ aA s ≤ (s.length : Int)) (.need (((aw s (some (aA s)) none).2).length ≤ 9223372036854775807) (.stop [.ops [1, 1, 1, 1, 0] 5, .code [1, 1, 1, 1, 1]] { n := 67, fr := [(0, .p (.str s)), (2, .p (.cx (some (0, 0)))), (3, .i 0), (5, .i (aJ ((aw s none (some (aA s))).2))), (6, .x (.c (.pd .err))), (34, .p (.str (Lib.trimPrefix (Lib.trimSuffix ((aw s (some (aA s)) none).2) [(105 : UInt8)]) [(43 : UInt8)])))], ck := [] }))) ?_
      refine ⟨⟨by omega, by omega⟩, ld, ?_⟩
      cases hY : cy (Lib.trimPrefix (Lib.trimSuffix (Prod.snd (aw s (some (aA s)) none)) [(105 : UInt8)]) [(43 : UInt8)])
      · have hz : zJ80Xd Γ (PrQ s) zXd1 ({ n := 67, fr := [(0, .p (.str s)), (2, .p (.cx (some (0, 0)))), (3, .i 0), (5, .i (aJ ((aw s none (some (aA s))).2))), (6, .x (.c (.pd .err))), (34, .p (.str (Lib.trimPrefix (Lib.trimSuffix ((aw s (some (aA s)) none).2) [(105 : UInt8)]) [(43 : UInt8)]))), (35, .tup [.i (aJ (Lib.trimPrefix (Lib.trimSuffix ((aw s (some (aA s)) none).2) [(105 : UInt8)]) [(43 : UInt8)])), .c (.pd .err)])], ck := [] }) := by
         refine jg gy Tryz.func80 (let x3 := (aJ ((aw s none (some (aA s))).2)); let x2 := (aJ (Lib.trimPrefix (Lib.trimSuffix ((aw s (some (aA s)) none).2) [(105 : UInt8)]) [(43 : UInt8)])); let x1 := (b8 x3 x2); let x4 : Tree := (.ret (.tup [.p (.cx (some (0, 0))), .i 1]) []); .ite true x4 (.need (dn x1 = true) (.ite (gn x3 x2 != (0 : Int) || (0 : Int) != 0 || !fj (cD x1) (cI x1) == s) x4 (.ret (.tup [.p (.cx (some x1)), .i 0]) [])))) ?_
         conv => zeta
         exact ⟨fun _ => PrQ.no hno, fun x => Bool.noConfusion x⟩
        exact J.step (cfg := pU) l7 (q := some (_ ∧ _)) (by kernel_rfl) ⟨lY, hY⟩ hz
      · have hz : zJ80Xd Γ (PrQ s) zXd1 ({ n := 67, fr := [(0, .p (.str s)), (2, .p (.cx (some (0, 0)))), (3, .i 0), (5, .i (aJ ((aw s none (some (aA s))).2))), (6, .x (.c (.pd .err))), (34, .p (.str (Lib.trimPrefix (Lib.trimSuffix ((aw s (some (aA s)) none).2) [(105 : UInt8)]) [(43 : UInt8)]))), (35, .tup [.i (aJ (Lib.trimPrefix (Lib.trimSuffix ((aw s (some (aA s)) none).2) [(105 : UInt8)]) [(43 : UInt8)])), .p (.v Value.nilIface)])], ck := [] }) := by
         refine jg gy Tryz.func80 (let x3 := (aJ ((aw s none (some (aA s))).2)); let x2 := (aJ (Lib.trimPrefix (Lib.trimSuffix ((aw s (some (aA s)) none).2) [(105 : UInt8)]) [(43 : UInt8)])); let x1 := (b8 x3 x2); let x4 : Tree := (.ret (.tup [.p (.cx (some (0, 0))), .i 1]) []); .ite true x4 (.need (dn x1 = true) (.ite (gn x3 x2 != (0 : Int) || (0 : Int) != 0 || !fj (cD x1) (cI x1) == s) x4 (.ret (.tup [.p (.cx (some x1)), .i 0]) [])))) ?_
         conv => zeta
         exact ⟨fun _ => PrQ.no hno, fun x => Bool.noConfusion x⟩
        exact J.step (cfg := pj) mA (q := some (_ ∧ _)) (by kernel_rfl) ⟨lY, hY⟩ hz
     exact J.step (cfg := pU) l7 (q := some (_ ∧ _)) (by kernel_rfl) ⟨lX, hX⟩ h0
   · have h0 : zJ80Xd Γ (PrQ s) [.ops [1, 1, 1, 0] 4, .code [1, 1, 1, 1]] ({ n := 67, fr := [(0, .p (.str s)), (2, .p (.cx (some (0, 0)))), (3, .i 0), (4, .i (aA s)), (25, .p (.str ((aw s none (some (aA s))).2))), (26, .tup [.i (aJ (aw s none (some (aA s))).2), .p (.v Value.nilIface)])], ck := [] }) := by
      refine jg gy Tryz.func80 (.need ((0 : Int) ≤ aA s ∧ aA s ≤ (s.length : Int)) (.need (((aw s (some (aA s)) none).2).length ≤ 9223372036854775807) (.stop [.ops [1, 1, 1, 1, 0] 5, .code [1, 1, 1, 1, 1]] { n := 67, fr := [(0, .p (.str s)), (2, .p (.cx (some (0, 0)))), (3, .i 0), (5, .i (aJ ((aw s none (some (aA s))).2))), (6, .p (.v Value.nilIface)), (34, .p (.str (Lib.trimPrefix (Lib.trimSuffix ((aw s (some (aA s)) none).2) [(105 : UInt8)]) [(43 : UInt8)])))], ck := [] }))) ?_
      refine ⟨⟨by omega, by omega⟩, ld, ?_⟩
      cases hY : cy (Lib.trimPrefix (Lib.trimSuffix (Prod.snd (aw s (some (aA s)) none)) [(105 : UInt8)]) [(43 : UInt8)])
      · have hno := pokY hY
        have hz : zJ80Xd Γ (PrQ s) zXd1 ({ n := 67, fr := [(0, .p (.str s)), (2, .p (.cx (some (0, 0)))), (3, .i 0), (5, .i (aJ ((aw s none (some (aA s))).2))), (6, .p (.v Value.nilIface)), (34, .p (.str (Lib.trimPrefix (Lib.trimSuffix ((aw s (some (aA s)) none).2) [(105 : UInt8)]) [(43 : UInt8)]))), (35, .tup [.i (aJ (Lib.trimPrefix (Lib.trimSuffix ((aw s (some (aA s)) none).2) [(105 : UInt8)]) [(43 : UInt8)])), .c (.pd .err)])], ck := [] }) := by
         refine jg gy Tryz.func80 (let x3 := (aJ ((aw s none (some (aA s))).2)); let x2 := (aJ (Lib.trimPrefix (Lib.trimSuffix ((aw s (some (aA s)) none).2) [(105 : UInt8)]) [(43 : UInt8)])); let x1 := (b8 x3 x2); let x4 : Tree := (.ret (.tup [.p (.cx (some (0, 0))), .i 1]) []); .ite true x4 (.need (dn x1 = true) (.ite (gn x3 x2 != (0 : Int) || (0 : Int) != 0 || !fj (cD x1) (cI x1) == s) x4 (.ret (.tup [.p (.cx (some x1)), .i 0]) [])))) ?_
         conv => zeta
         exact ⟨fun _ => PrQ.no hno, fun x => Bool.noConfusion x⟩
        exact J.step (cfg := pU) l7 (q := some (_ ∧ _)) (by kernel_rfl) ⟨lY, hY⟩ hz
      · have hz : zJ80Xd Γ (PrQ s) zXd1 ({ n := 67, fr := [(0, .p (.str s)), (2, .p (.cx (some (0, 0)))), (3, .i 0), (5, .i (aJ ((aw s none (some (aA s))).2))), (6, .p (.v Value.nilIface)), (34, .p (.str (Lib.trimPrefix (Lib.trimSuffix ((aw s (some (aA s)) none).2) [(105 : UInt8)]) [(43 : UInt8)]))), (35, .tup [.i (aJ (Lib.trimPrefix (Lib.trimSuffix ((aw s (some (aA s)) none).2) [(105 : UInt8)]) [(43 : UInt8)])), .p (.v Value.nilIface)])], ck := [] }) := by
         refine jg gy Tryz.func80 (let x3 := (aJ ((aw s none (some (aA s))).2)); let x2 := (aJ (Lib.trimPrefix (Lib.trimSuffix ((aw s (some (aA s)) none).2) [(105 : UInt8)]) [(43 : UInt8)])); let x1 := (b8 x3 x2); let x4 : Tree := (.ret (.tup [.p (.cx (some (0, 0))), .i 1]) []); .ite false x4 (.need (dn x1 = true) (.ite (gn x3 x2 != (0 : Int) || (0 : Int) != 0 || !fj (cD x1) (cI x1) == s) x4 (.ret (.tup [.p (.cx (some x1)), .i 0]) [])))) ?_
         conv => zeta
         have of_pt : ∀ a b : Int, kJ s (a, b) → aJ (aw s none (some (aA s))).2 = a ∧ aJ (Lib.trimPrefix (Lib.trimSuffix (Prod.snd (aw s (some (aA s)) none)) [(105 : UInt8)]) [(43 : UInt8)]) = b := fun a b q => by
          obtain ⟨_, _, _, f4, f5⟩ := facts a b q
          rw [f4, f5]
          exact ⟨(eR (n := a) (by have := dJ q.1; omega) (by have := dJ q.1; omega)).2, (eR (n := b) (by have := dJ q.2.1; omega) (by have := dJ q.2.1; omega)).2⟩
         generalize aJ (aw s none (some (aA s))).2 = a at of_pt ⊢
         generalize aJ (Lib.trimPrefix (Lib.trimSuffix (Prod.snd (aw s (some (aA s)) none)) [(105 : UInt8)]) [(43 : UInt8)]) = b at of_pt ⊢
         refine ⟨fun x => Bool.noConfusion x, fun _ => ⟨xC a b, fun hb => PrQ.no ?_, fun hb => PrQ.yes ?_⟩⟩
         · rintro ⟨⟨x, y⟩, q⟩
           obtain ⟨rfl, rfl⟩ := of_pt x y q
           obtain ⟨m1, m2, m3, m4⟩ := iO q.1 q.2.1
           rw [EG q.1 q.2.1, m2, m3] at hb
           have e : fj a b = s := q.2.2
           rw [e] at hb
           simp at hb
         · simp only [aH, bne_eq_false_iff_eq, cY] at hb
           cases hin : (pIn a && pIn b)
           · rw [(qO hin).2] at hb; exact absurd hb.1.1 (by decide)
           · rw [af] at hin
             obtain ⟨m1, m2, m3, m4⟩ := iO hin.1 hin.2
             rw [m2, m3] at hb
             exact ⟨hin.1, hin.2, eq_of_beq hb.2⟩
        exact J.step (cfg := pj) mA (q := some (_ ∧ _)) (by kernel_rfl) ⟨lY, hY⟩ hz
     exact J.step (cfg := pj) mA (q := some (_ ∧ _)) (by kernel_rfl) ⟨lX, hX⟩ h0
theorem Ct (hs : s.length ≤ 1000000) (ha : s.all (fun c => decide (c.toNat < 128)) = true) (h : eg s) : ah Tryz.prog 80 [.s s] [] (.tup [.c (.pd (.cx (some (b8 (ptA s) (ptB s))))), .i 0]) [] :=
 ah.of Tryz.func80 (by kernel_rfl) (by kernel_rfl) fun Γ => J.mono (fun v k q => ⟨q.1 h, q.2.2⟩) (vU s hs ha Γ)
theorem B2 (hs : s.length ≤ 1000000) (ha : s.all (fun c => decide (c.toNat < 128)) = true) (h : ¬ eg s) : ah Tryz.prog 80 [.s s] [] (.tup [.c (.pd (.cx (some (0, 0)))), .i 1]) [] :=
 ah.of Tryz.func80 (by kernel_rfl) (by kernel_rfl) fun Γ => J.mono (fun v k q => ⟨q.2.1 h, q.2.2⟩) (vU s hs ha Γ)
noncomputable def sn : Ent := (80, fun
 | [.c (.pd (.str s))], [] => some (some (s.length ≤ 1000000 ∧ s.all (fun c => decide (c.toNat < 128)) = true ∧ eg s), .tup [.c (.pd (.cx (some (b8 (ptA s) (ptB s))))), .c (.pd (.int .i64 0))], [])
 | _, _ => none)
theorem Dc : EntOk Tryz.prog sn := entOk fun vs ck => by
 unfold sn; dsimp only; split
 · rename_i s; exact entS fun hp => Ct s hp.1 hp.2.1 hp.2.2
 · exact entN
noncomputable def sw : Ent := (80, fun
 | [.c (.pd (.str s))], [] => some (some (s.length ≤ 1000000 ∧ s.all (fun c => decide (c.toNat < 128)) = true ∧ ¬ eg s), .tup [.c (.pd (.cx (some (0, 0)))), .c (.pd (.int .i64 1))], [])
 | _, _ => none)
theorem CO : EntOk Tryz.prog sw := entOk fun vs ck => by
 unfold sw; dsimp only; split
 · rename_i s; exact entS fun hp => B2 s hp.1 hp.2.1 hp.2.2
 · exact entN
noncomputable def Bm : Cfg := ⟨bn, [kZ, sn, kA, qD]⟩
theorem A5 : ag Tryz.prog Bm.tab := (ag.cons kX (ag.cons Dc (ag.cons mm (ag.cons qk ag.nil))))
noncomputable def AR : Cfg := ⟨bn, [kZ, sw, kA, qD]⟩
theorem Bk : ag Tryz.prog AR.tab := (ag.cons kX (ag.cons CO (ag.cons mm (ag.cons qk ag.nil))))
abbrev zWq1 (a : Chart) (b : Int) : List Chunk := [.cells [.pd (.str a.name), .own 1, .own 2, .own 3, .own 4, .i b] 45, .own 9 .str a.events, .own 61 .var a.vars, .own 64 .stat a.states, .own 68 .tran a.trans]
variable (c : Chart) (d : Int) (w : List Str)
theorem Dq (hf : Fit c 6001) (hw : okW w) (Γ : Ctx) : J Tryz.prog 37 (aE Tryz.f37) Γ (bk (gI c d w) d) [.code []] (b6 Tryz.f37.ntmps [.c (.loc 0 0), .l .str w] (rdK c d)) := by
 have he := hf.vars
 have e3 : ETy.get .str w 3 = ar w 3 := rfl
 by_cases hr : eg (ar w 3)
 · refine jg A5 Tryz.func37 (let x2 := ((aw w (some (1 : Int)) none).2); let x3 := (b8 (ptA (ETy.get .str w 3)) (ptB (ETy.get .str w 3))); let x1 : Var := { name := ETy.get .str w 0, kind := (3 : Int), lo := (a7 (ar x2 0)).1, hi := (a7 (ar x2 1)).1, init := { kind := (3 : Int), a := cD x3, b := cI x3 } }; .need ((1 : Int) ≤ 4) (.ite (!dF c d w (4 : Int)) (.ret (.p (.bool false)) (zWq1 c d)) (.need (inRg 0 w.length) (.need (inRg 3 w.length) (.need ((ETy.get .str w 3).length ≤ 1000000 ∧ (List.all (ETy.get .str w 3) fun c => decide (UInt8.toNat c < 128)) = true ∧ eg (ETy.get .str w 3)) (.need ((0 : Int) ≤ 1 ∧ (1 : Int) ≤ (w.length : Int)) (.need (2 ≤ x2.length ∧ okW x2) (.need (room ((c.vars ++ [x1]).length) 64) (.ret (.p (.bool ((a7 (ar x2 0)).2 == (0 : Int) && (a7 (ar x2 1)).2 == (0 : Int) && (0 : Int) == 0))) [.cells [.pd (.str c.name), .own 1, .own 5, .own 3, .own 4, .i d] 45, .own 9 .str c.events, .dead, .own 64 .stat c.states, .own 68 .tran c.trans, .own 61 .var (c.vars ++ [x1])]))))))))) ?_
   conv => zeta
   refine ⟨by omega, fun h => ?_, fun h => ?_⟩
   · refine bk.no (fp ?_)
     rintro ⟨g, _⟩
     rw [show dF c d w 4 = true from g] at h; cases h
   · have g : dF c d w 4 = true := nf h
     obtain ⟨_, _, hn, _⟩ := gK (n := 4) g
     obtain ⟨l3, a3⟩ := hw.at (k := 3) (by omega)
     obtain ⟨q1, q2, q3⟩ := lf hr
     obtain ⟨_, m2, m3, _⟩ := iO q1 q2
     have m2' : cD (b8 (ptA (ar w 3)) (ptB (ar w 3))) = ptA (ar w 3) := m2
     have m3' : cI (b8 (ptA (ar w 3)) (ptB (ar w 3))) = ptB (ar w 3) := m3
     rw [ga, nj, nj, e3, m2', m3']
     refine ⟨⟨by omega, by omega⟩, ⟨by omega, by omega⟩, ⟨by omega, a3, hr⟩, ⟨by omega, by omega⟩, ⟨by rw [ba]; omega, hw.drop 1⟩, lO (by simp only [aj, ak, au]; omega), ?_⟩
     rw [uz]
     by_cases hk : (a7 (ar w 1)).2 = 0 ∧ (a7 (ar w 2)).2 = 0 ∧ (0 : Int) = 0
     · rw [decide_eq_true hk]
       exact bk.yes (if_pos ⟨g, hk.1, hk.2.1, hr⟩) (IsR.of2 rfl)
     · rw [decide_eq_false hk]
       exact bk.no (fp fun x => hk ⟨x.2.1, x.2.2.1, rfl⟩)
 · have hno : gI c d w = none := fp fun x => hr x.2.2.2
   refine jg Bk Tryz.func37 (let x2 := ((aw w (some (1 : Int)) none).2); let x1 : Var := { name := ETy.get .str w 0, kind := (3 : Int), lo := (a7 (ar x2 0)).1, hi := (a7 (ar x2 1)).1, init := { kind := (3 : Int), a := cD (0, 0), b := cI (0, 0) } }; .need ((1 : Int) ≤ 4) (.ite (!dF c d w (4 : Int)) (.ret (.p (.bool false)) (zWq1 c d)) (.need (inRg 0 w.length) (.need (inRg 3 w.length) (.need ((ETy.get .str w 3).length ≤ 1000000 ∧ (List.all (ETy.get .str w 3) fun c => decide (UInt8.toNat c < 128)) = true ∧ ¬eg (ETy.get .str w 3)) (.need ((0 : Int) ≤ 1 ∧ (1 : Int) ≤ (w.length : Int)) (.need (2 ≤ x2.length ∧ okW x2) (.need (room ((c.vars ++ [x1]).length) 64) (.ret (.p (.bool ((a7 (ar x2 0)).2 == (0 : Int) && (a7 (ar x2 1)).2 == (0 : Int) && (1 : Int) == 0))) [.cells [.pd (.str c.name), .own 1, .own 5, .own 3, .own 4, .i d] 45, .own 9 .str c.events, .dead, .own 64 .stat c.states, .own 68 .tran c.trans, .own 61 .var (c.vars ++ [x1])]))))))))) ?_
   conv => zeta
   refine ⟨by omega, fun h => bk.no hno, fun h => ?_⟩
   have g : dF c d w 4 = true := nf h
   obtain ⟨_, _, hn, _⟩ := gK (n := 4) g
   obtain ⟨l3, a3⟩ := hw.at (k := 3) (by omega)
   refine ⟨⟨by omega, by omega⟩, ⟨by omega, by omega⟩, ⟨by rw [e3]; omega, a3, hr⟩, ⟨by omega, by omega⟩, ⟨by rw [ga, ba]; omega, by rw [ga]; exact hw.drop 1⟩, lO (by simp only [aj, ak, au]; omega), ?_⟩
   have e1 : ((1 : Int) == 0) = false := by decide
   rw [e1, dx]
   exact bk.no hno
theorem Fo (hf : Fit c 6001) (hw : okW w) (h : (gI c d w).isSome = true) : ah Tryz.prog 37 [.c (.loc 0 0), .l .str w] (rdK c d) (.x (.b true)) (ckR (got (gI c d w)) d) :=
 step_ok Tryz.func37 (by kernel_rfl) (by kernel_rfl) rfl (Dq c d w hf hw) h
theorem F3 (hf : Fit c 6001) (hw : okW w) (h : (gI c d w).isSome = false) : ah Tryz.prog 37 [.c (.loc 0 0), .l .str w] (rdK c d) (.x (.b false)) [.dead, .dead, .dead, .dead, .dead] :=
 hI Tryz.func37 (by kernel_rfl) (by kernel_rfl) (Dq c d w hf hw) h
def b7 : List (Str × Nat) := [([101, 118, 101, 110, 116], 34), ([105, 110, 116], 35), ([98, 111, 111, 108], 36), ([112, 111, 105, 110, 116], 37), ([98, 97, 115, 105, 99], 38), ([98, 111, 116, 104], 39), ([102, 105, 110, 97, 108], 40), ([111, 110, 101], 41), ([115, 104, 97, 108, 108, 111, 119], 42), ([100, 101, 101, 112], 43), ([101, 110, 116, 114, 121], 44), ([101, 120, 105, 116], 45), ([111, 110], 46)]
theorem xx : ah Tryz.prog 16 [] [] (.x (.p (.tbl b7))) [] := by
 refine dg bN Tryz.func16 (.stop [.ops [1, 0] 0, .code [1, 1]] { n := 3, fr := [(0, .p (.v (Value.map none)))], ck := [] }) fun Γ => ?_
 refine J.makeTbl (d := 1) (n := 13) (l := b7.map fun p => (bs p.1, p.2)) (by kernel_rfl) ?_
 have e : keyed (b7.map fun p => (bs p.1, p.2)) = b7 := by decide
 rw [e]
 refine jg bN Tryz.func16 (.ret (.p (PD.tbl [([(101 : UInt8), 118, 101, 110, 116], 34), ([(105 : UInt8), 110, 116], 35), ([(98 : UInt8), 111, 111, 108], 36), ([(112 : UInt8), 111, 105, 110, 116], 37), ([(98 : UInt8), 97, 115, 105, 99], 38), ([(98 : UInt8), 111, 116, 104], 39), ([(102 : UInt8), 105, 110, 97, 108], 40), ([(111 : UInt8), 110, 101], 41), ([(115 : UInt8), 104, 97, 108, 108, 111, 119], 42), ([(100 : UInt8), 101, 101, 112], 43), ([(101 : UInt8), 110, 116, 114, 121], 44), ([(101 : UInt8), 120, 105, 116], 45), ([(111 : UInt8), 110], 46)])) []) ?_
 exact ⟨rfl, rfl⟩
def oK : Ent := (16, fun
 | [], [] => some (none, .x (.c (.pd (.tbl b7))), [])
 | _, _ => none)
theorem AY : EntOk Tryz.prog oK := entOk fun vs ck => by
 unfold oK; dsimp only; split
 · exact entS fun hp => xx
 · exact entN
end Go.Proofs.YtpfidgnkokidoaaGreatDoor

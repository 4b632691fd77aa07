/- Contracts: a state's children, handed out one by one. Conditions: none. Contracts: trees of states: their shape. Conditions: none. -/
import Derived.Test.YtcpnicfkpkonkaaGreatDoorTa
import Derived.RangeFuncNested
import Derived.RangeFuncBound
import Derived.RangeFuncCalls
import Derived.RangeFuncLeaves
import Derived.Shelf.Abstract
import Derived.Shelf.RegionOpen
import Derived.WalkKit
import Derived.OwnWalkIn
import Derived.TacticsInMore
import Derived.LoopNIn
import Derived.LoopIn
namespace Go.Proofs.YtcpnicfkpkonkaaGreatDoor
open Go Go.Ev Go.RowKit Go.Shelf
attribute [local go_sem] Oper.semAt_some
set_option maxRecDepth 100000
theorem wok_empty {V : Vn} {w : World} (h : HIn V.H w) : WOk (entry [] V w) [] V w :=
  { ext := Fr.refl _ _, imm := h, hle := HLe.refl _, frz := fun _ h => .inl h, agr := fun _ _ => ⟨rfl, rfl⟩, own := fun i c hc => (by simp at hc), base := fun i c b hc => (by simp at hc), inj := fun i j c d b hc => (by simp at hc) }
theorem end_calls (l : List Ev.Stat) (i : Nat) (hi : i < l.length) (hl : l.length ≤ maxLen) {V : Vn} {w : World} {u : Value} (hH : HIn V.H w) (hT : Tabs Tryz.prog V.H) (hu : PR V.H (.lst .stat l) u) :
    Calls Tryz.prog 127 #[u, .int .i64 (i : Int)] w fun e w' => e = .returned (.int .i64 (endM l i : Nat)) ∧ Below w.heap.size w w' := by
  refine (tend_spec l i hi hl w V [u, .int .i64 (i : Int)] (wok_empty hH) hT (.cons hu (.cons (PR.int _ _) .nil))).mono fun e w' hq => ?_
  obtain ⟨v, V', rfl, hr, hw⟩ := hq
  have hr' : PR V'.H (.int .i64 (endM l i : Nat)) v := hr
  cases hr'
  exact ⟨rfl, hw.ext.os, hw.ext.tape, hw.ext.output, hw.ext.size, fun k hk => hw.ext.block k hk fun ⟨j, c, hc, _⟩ => by simp at hc⟩
theorem kids_in (n lp b1 o1 b2 o2 i : Nat) (l : List Ev.Stat) (hi : i < l.length) (hl : l.length ≤ maxLen) (V : Vn) (hT : Tabs Tryz.prog V.H) (u : Value) (hu : PR V.H (.lst .stat l) u)
    (c1 c2 : Array Value) (e1 e2 : TypeId) (f1 f2 : Nat × Nat) (hb1 : V.H b1 = some (.cells c1 e1 f1)) (hb2 : V.H b2 = some (.cells c2 e2 f2)) (hc1 : c1[o1]? = some (.int .i64 (i : Int))) (hc2 : c2[o2]? = some u)
    (J Jx : List Int → World → Prop) (hab : ∀ s A B, J s A → A.grownBy B none → J s B)
    (hY : ∀ pre x W, 0 ≤ x → x < (l.length : Int) → J pre W → pre.length < (kidsM l i).length → YieldAt Fence.wide (n - 1) Tryz.prog lp #[.int .i64 x] W fun e W' =>
      (e = .returned (.bool true) ∧ J (pre ++ [x]) W' ∧ KpH V.H W W') ∨ (e = .returned (.bool false) ∧ Jx (pre ++ [x]) W'))
    (W : World) (hH : HIn V.H W) (h0 : J [] W) :
    CallsIn Fence.wide n Tryz.prog 126 #[.func (.yield lp) #[] #[], .pointer (some ⟨b1, o1, none⟩), .pointer (some ⟨b2, o2, none⟩)] W fun e W' => (∃ v, e = .returned v) ∧
      ((∃ ys, ys = kidsM l i ∧ J ys W') ∨ (∃ pre, pre <+: kidsM l i ∧ Jx pre W')) := by
  have rd1 : ∀ {X : World}, HIn V.H X → X.cell? ⟨b1, o1, none⟩ = some (.int .i64 (i : Int)) := fun h => by
    have := h _ _ hb1
    simp only [World.cell?, this]; exact hc1
  have rd2 : ∀ {X : World}, HIn V.H X → X.cell? ⟨b2, o2, none⟩ = some u := fun h => by
    have := h _ _ hb2
    simp only [World.cell?, this]; exact hc2
  refine callsIn_of_wp Tryz.func126 rfl trivial ?_ rfl
  have r1 := rd1 hH
  have r2 := rd2 hH
  simp only [Tryz.ntmps126, List.size_toArray, List.length_cons, List.length_nil, Nat.reduceAdd, Nat.reduceSub, Array.replicate_succ, Array.replicate_zero, List.push_toArray, List.append_toArray, List.nil_append, List.cons_append]
  have hg : ∀ {A B : World}, Below A.heap.size A B → A.grownBy B none := fun h => ⟨h.os, h.tape, h.output, h.size, fun k hk _ => h.block k hk⟩
  have hHB : ∀ {A B : World}, HIn V.H A → Below A.heap.size A B → HIn V.H B := fun h hb k o hk => (hb.block k (Array.getElem?_eq_some_iff.1 (h k o hk)).1).trans (h k o hk)
  have hHK : ∀ {A B : World}, HIn V.H A → KpH V.H A B → HIn V.H B := fun h hb k o hk => (hb.same k (by rw [hk]; simp)).trans (h k o hk)
  have hwr : wrap64 ((i : Int) + 1) = (i : Int) + 1 := by
    have := maxLen_lt hi hl
    unfold wrap64; omega
  gi_wp2
  rw [hwr]
  gi_loopw [4] (fun p wr => ∃ (pre : List Int) (k f : Nat), p = .int .i64 (k : Int) ∧ i < k ∧ k ≤ l.length ∧ kidsM l i = pre ++ kidsGo l (endM l i) f k ∧ endM l i ≤ k + f ∧ HIn V.H wr ∧ J pre wr)
    (fun p _ => endM l i - (intOf p).toNat)
  case atStart =>
    have := (endM_lt l hi).2
    exact ⟨[], i + 1, l.length, by simp, by omega, by omega, rfl, by omega, hH, h0⟩
  case round =>
    obtain ⟨pre, k, f, rfl, hk1, hk2, hx, hf, hH2, hJs⟩ := hrel
    have q1 := rd1 hH2
    have q2 := rd2 hH2
    by_cases hlt : k < endM l i
    · obtain ⟨f, rfl⟩ : ∃ f', f = f' + 1 := ⟨f - 1, by omega⟩
      have hx' : kidsM l i = pre ++ (k : Int) :: kidsGo l (endM l i) f (endM l k) := by rw [hx, kidsGo, if_pos hlt]
      have hkl : k < l.length := Nat.lt_of_lt_of_le hlt (endM_lt l hi).2
      have hlen : pre.length < (kidsM l i).length := by rw [hx']; simp
      gi_wp2
      refine ⟨trivial, fun h => (by cases h), ?_⟩
      refine (callsIn_wide.2 (end_calls l i hi hl hH2 hT hu)).mono ?_
      rintro e w1 ⟨rfl, hw1⟩
      have hH3 := hHB hH2 hw1
      have hJ3 := hab _ _ _ hJs (hg hw1)
      have hlt' : ((k : Int) < ((endM l i : Nat) : Int)) := by omega
      obtain ⟨fn, tmps, assign, body, hy, hR⟩ := hY pre (k : Int) w1 (by omega) (by omega) hJ3 hlen
      gi_wp2
      refine ⟨fun h => (by cases h), hR.mono ?_⟩
      rintro e W3 (⟨rfl, hJ4, hk4⟩ | ⟨rfl, hJx4⟩)
      · have hH4 := hHK hH3 hk4
        have q3 := rd1 hH4
        have q4 := rd2 hH4
        have hek := endM_lt l hkl
        gi_wp2
        refine ⟨trivial, fun h => (by cases h), ?_⟩
        refine (callsIn_wide.2 (end_calls l k hkl hl hH4 hT hu)).mono ?_
        rintro e w5 ⟨rfl, hw5⟩
        gi_wp2
        go_roundw
        case rel => exact ⟨pre ++ [(k : Int)], endM l k, f, rfl, by omega, hek.2, by rw [hx']; simp, by omega, hHB hH4 hw5, hab _ _ _ hJ4 (hg hw5)⟩
        case measure =>
          show endM l i - ((endM l k : Nat) : Int).toNat < endM l i - ((k : Nat) : Int).toNat
          rw [Int.toNat_natCast, Int.toNat_natCast]; omega
      · gi_wp2
        refine bodyPost_ret (results_none rfl _ _ _) rfl ?_
        exact ⟨⟨_, rfl⟩, .inr ⟨pre ++ [(k : Int)], ⟨kidsGo l (endM l i) f (endM l k), by rw [hx']; simp⟩, hJx4⟩⟩
    · have hx' : kidsM l i = pre := by
        rw [hx]
        cases f with
        | zero => simp [kidsGo]
        | succ f => rw [kidsGo, if_neg hlt, List.append_nil]
      have hlt' : ¬ ((k : Int) < ((endM l i : Nat) : Int)) := by omega
      gi_wp2
      refine ⟨trivial, fun h => (by cases h), ?_⟩
      refine (callsIn_wide.2 (end_calls l i hi hl hH2 hT hu)).mono ?_
      rintro e w1 ⟨rfl, hw1⟩
      gi_wp2
      go_end0
      exact ⟨⟨_, rfl⟩, .inl ⟨pre, hx'.symm, hab _ _ _ hJs (hg hw1)⟩⟩
theorem kids_iter (l : List Ev.Stat) (i : Nat) (hi : i < l.length) (hl : l.length ≤ maxLen) : Iter Tryz.prog 126 [.pd (.ref .int (i : Int) 0), .pd (.ref .stats l 0)] (fun x => 0 ≤ x ∧ x < (l.length : Int)) (kidsM l i) := by
  intro n V w lb hH hT hcaps
  cases hcaps with | cons h1 hcaps => cases hcaps with | cons h2 hcaps =>
    cases hcaps
    have h1' : PR V.H (.ref .int (i : Int) 0) _ := h1
    have h2' : PR V.H (.ref .stats l 0) _ := h2
    cases h1' with | ref _ _ _ b1 o1 c1 e1 f1 hb1 hs1 g1 =>
    cases h2' with | ref _ _ _ b2 o2 c2 e2 f2 hb2 hs2 g2 =>
    have hc1 : c1[o1 + 0]? = some (.int .i64 (i : Int)) := by
      have hlt : o1 + 0 < c1.size := by have : o1 + 1 ≤ c1.size := hs1; omega
      have h3 := g1 0 (.int .i64 (i : Int)) rfl c1[o1 + 0] (Array.getElem?_eq_getElem hlt)
      rw [Array.getElem?_eq_getElem hlt]
      generalize c1[o1 + 0] = x at h3 ⊢
      cases h3; rfl
    have hlt2 : o2 + 0 < c2.size := by have : o2 + 1 ≤ c2.size := hs2; omega
    have hu := g2 0 (.lst .stat l) rfl c2[o2 + 0] (Array.getElem?_eq_getElem hlt2)
    intro lp J Jx W hB hJ hJx hY h0
    have hHW : HIn V.H W := fun k o hk => (hB.block k (Array.getElem?_eq_some_iff.1 (hH k o hk)).1).trans (hH k o hk)
    refine (kids_in n lp b1 (o1 + 0) b2 (o2 + 0) i l hi hl V hT _ hu c1 c2 e1 e2 f1 f2 hb1 hb2 hc1 (Array.getElem?_eq_getElem hlt2) (fun ys X => ∃ zs, zs.map (·.1) = ys ∧ J zs X) (fun ys X => ∃ zs, zs.map (·.1) = ys ∧ Jx zs X) (by rintro s A B ⟨zs, q1, q2⟩ hg; exact ⟨zs, q1, hJ zs A B none q2 hg fun r e => (by cases e)⟩) ?_ W hHW (by exact ⟨[], rfl, h0⟩)).mono ?_
    · intro pre x X hx0 hx1 ⟨zs, q1, q2⟩ hlen
      obtain ⟨fn, tmps, assign, body, hy, hR⟩ := hY zs ⟨x, hx0, hx1⟩ X q2 (by rw [← q1, List.length_map] at hlen; exact hlen)
      refine ⟨fn, tmps, assign, body, hy, hR.mono fun e X2 hq => ?_⟩
      rcases hq with ⟨e1, e2, e3⟩ | ⟨e1, e2⟩
      · exact .inl ⟨e1, ⟨_, by rw [List.map_append, q1]; rfl, e2⟩, e3⟩
      · exact .inr ⟨e1, _, by rw [List.map_append, q1]; rfl, e2⟩
    · rintro e X2 ⟨hv, hq⟩
      refine ⟨hv, ?_⟩
      rcases hq with ⟨ys, e1, zs, e2, e3⟩ | ⟨pre, e1, zs, e2, e3⟩
      · exact .inl ⟨zs, e2.trans e1, e3⟩
      · exact .inr ⟨zs, by show zs.map (·.1) <+: _; rw [e2]; exact e1, e3⟩
end Go.Proofs.YtcpnicfkpkonkaaGreatDoor
namespace Go.Proofs.YtcpnicfkpkonkaaGreatDoor
open Go Go.Ev
set_option maxRecDepth 100000
def badS (a : Int) (s : Ev.Stat) : Bool := decide (s.depth < 0) || decide (s.depth > IntKind.wrap .i64 (a + 1)) || decide (s.depth ≥ 6) || decide (s.kind < 1) || decide (s.kind > 6)
def shapeGo : Int → Int → List Ev.Stat → Option Int
  | _, r, [] => some r
  | a, r, s :: q => bif badS a s then none else bif s.depth == 0 then (bif s.kind != 2 then none else shapeGo s.depth (IntKind.wrap .i64 (r + 1)) q) else shapeGo s.depth r q
def shapeR (n : Nat) : Option Int → Bool
  | none => false
  | some r => decide (r ≤ 4) && decide ((n : Int) > 0) && decide ((n : Int) ≤ 40)
def shapeM (l : List Ev.Stat) : Bool := shapeR l.length (shapeGo (-1) 0 l)
def aheadT (l : List Ev.Stat) : Nat → Int
  | 0 => -1
  | k + 1 => (ETy.get .stat l k).depth

theorem sh_loop (l : List Ev.Stat) (hl : l.length ≤ maxLen) (Γ : Ctx) : ∀ (n k : Nat) (r : Int), l.length - k ≤ n → k ≤ l.length →
    J Tryz.prog 72 (bodyOf Tryz.f72) Γ (Eq2 (.x (.b (shapeR l.length (shapeGo (aheadT l k) r (l.drop k))))) []) [.code [1, 1, 0, 1, 0, 0], .inLoop [1, 1, 0, 1, 0, 0], .inBlock 0, .code [1, 1, 1]] ({ n := 68, fr := [(0, .p (.lst .stat l)), (2, .p (.bool false)), (3, .i (r)), (7, .p (.lst .stat l)), (8, .i (↑(List.length l) : Int)), (9, .i ((k : Int)))], ck := [], kn := [2] }) := by
  intro n
  induction n with
  | zero => ?_
  | succ n ih => ?_
  all_goals
    intro k r hn hk
    refine J.go (cfg := cfg0) cfg0_ok Tryz.func72 1000 (t := (.ite (decide ((↑k : Int) < (↑(List.length l) : Int))) (.need ((0 : Int) ≤ (↑k : Int) ∧ (↑k : Int) < (↑(List.length l) : Int)) (.ite (decide ((↑k : Int) > (0 : Int))) (.need ((0 : Int) ≤ IntKind.wrap .i64 ((↑k : Int) - (1 : Int)) ∧ IntKind.wrap .i64 ((↑k : Int) - (1 : Int)) < (↑(List.length l) : Int)) (.ite (decide (Stat.depth (ETy.get .stat l k) < (0 : Int)) || decide (Stat.depth (ETy.get .stat l k) > IntKind.wrap .i64 (Stat.depth (ETy.get .stat l (Int.toNat (IntKind.wrap .i64 ((↑k : Int) - (1 : Int))))) + (1 : Int))) || decide (Stat.depth (ETy.get .stat l k) ≥ (6 : Int)) || decide (Stat.kind (ETy.get .stat l k) < (1 : Int)) || decide (Stat.kind (ETy.get .stat l k) > (6 : Int))) (.ret (.p (.bool false)) []) (.ite (Stat.depth (ETy.get .stat l k) == (0 : Int)) (.ite (Stat.kind (ETy.get .stat l k) != (2 : Int)) (.ret (.p (.bool false)) []) (.stop [.code [1, 1, 0, 1, 0, 0], .inLoop [1, 1, 0, 1, 0, 0], .inBlock 0, .code [1, 1, 1]] { n := 68, fr := [(0, .p (.lst .stat l)), (2, .p (.bool false)), (3, .i (IntKind.wrap .i64 (r + (1 : Int)))), (7, .p (.lst .stat l)), (8, .i (↑(List.length l) : Int)), (9, .i (IntKind.wrap .i64 ((↑k : Int) + (1 : Int))))], ck := [], kn := [2] })) (.stop [.code [1, 1, 0, 1, 0, 0], .inLoop [1, 1, 0, 1, 0, 0], .inBlock 0, .code [1, 1, 1]] { n := 68, fr := [(0, .p (.lst .stat l)), (2, .p (.bool false)), (3, .i r), (7, .p (.lst .stat l)), (8, .i (↑(List.length l) : Int)), (9, .i (IntKind.wrap .i64 ((↑k : Int) + (1 : Int))))], ck := [], kn := [2] })))) (.ite (decide (Stat.depth (ETy.get .stat l k) < (0 : Int)) || decide (Stat.depth (ETy.get .stat l k) > IntKind.wrap .i64 ((-1 : Int) + (1 : Int))) || decide (Stat.depth (ETy.get .stat l k) ≥ (6 : Int)) || decide (Stat.kind (ETy.get .stat l k) < (1 : Int)) || decide (Stat.kind (ETy.get .stat l k) > (6 : Int))) (.ret (.p (.bool false)) []) (.ite (Stat.depth (ETy.get .stat l k) == (0 : Int)) (.ite (Stat.kind (ETy.get .stat l k) != (2 : Int)) (.ret (.p (.bool false)) []) (.stop [.code [1, 1, 0, 1, 0, 0], .inLoop [1, 1, 0, 1, 0, 0], .inBlock 0, .code [1, 1, 1]] { n := 68, fr := [(0, .p (.lst .stat l)), (2, .p (.bool false)), (3, .i (IntKind.wrap .i64 (r + (1 : Int)))), (7, .p (.lst .stat l)), (8, .i (↑(List.length l) : Int)), (9, .i (IntKind.wrap .i64 ((↑k : Int) + (1 : Int))))], ck := [], kn := [2] })) (.stop [.code [1, 1, 0, 1, 0, 0], .inLoop [1, 1, 0, 1, 0, 0], .inBlock 0, .code [1, 1, 1]] { n := 68, fr := [(0, .p (.lst .stat l)), (2, .p (.bool false)), (3, .i r), (7, .p (.lst .stat l)), (8, .i (↑(List.length l) : Int)), (9, .i (IntKind.wrap .i64 ((↑k : Int) + (1 : Int))))], ck := [], kn := [2] }))))) (.ret (.p (.bool (decide (r ≤ (4 : Int)) && decide ((↑(List.length l) : Int) > (0 : Int)) && decide ((↑(List.length l) : Int) ≤ (40 : Int))))) []))) (by kernel_rfl) ?_
    have tail : ∀ (hk' : k < l.length) (b : Bool), b = badS (aheadT l k) (ETy.get .stat l k) → (b = true → SV.x (.p (.bool false)) = .x (.b (shapeR l.length (shapeGo (aheadT l k) r (l.drop k)))) ∧ ([] : List Chunk) = []) := fun hk' b hb h => by
      rw [drop_get (t := .stat) (l := l) hk', shapeGo, ← hb, h]; exact ⟨rfl, rfl⟩
    refine ⟨fun hlt => ?_, fun hge => ?_⟩
    · have hk' : k < l.length := by have := of_decide_eq_true hlt; omega
      have hm := maxLen_lt hk' hl

      have step : ∀ (b : Bool), b = badS (aheadT l k) (ETy.get .stat l k) → b = false → shapeGo (aheadT l k) r (l.drop k) = bif (ETy.get .stat l k).depth == 0 then (bif (ETy.get .stat l k).kind != 2 then none else shapeGo (ETy.get .stat l k).depth (IntKind.wrap .i64 (r + 1)) (l.drop (k + 1))) else shapeGo (ETy.get .stat l k).depth r (l.drop (k + 1)) := fun b hb h => by
        rw [drop_get (t := .stat) (l := l) hk', shapeGo, ← hb, h]; rfl
      rw [wrapK hm]
      refine ⟨by omega, fun hpos => ?_, fun hz => ?_⟩
      · have hp : 0 < k := by have := of_decide_eq_true hpos; omega
        obtain ⟨j, rfl⟩ : ∃ j, k = j + 1 := ⟨k - 1, by omega⟩
        have ew : IntKind.wrap .i64 (((j + 1 : Nat) : Int) - 1) = (j : Int) := by rw [wrapI (by omega) (by omega)]; omega
        rw [ew]
        refine ⟨⟨by omega, by omega⟩, fun hb => tail hk' _ rfl hb, fun hb => ?_⟩
        have e := step _ rfl hb
        refine ⟨fun h0 => ⟨fun h2 => ?_, fun h2 => ?_⟩, fun h0 => ?_⟩
        · rw [e, h0, cond_true, h2]; exact ⟨rfl, rfl⟩
        · rw [e, h0, cond_true, h2, cond_false]
          first
          | (exfalso; omega)
          | exact ih (j + 1 + 1) _ (by omega) (by omega)
        · rw [e, h0, cond_false]
          first
          | (exfalso; omega)
          | exact ih (j + 1 + 1) _ (by omega) (by omega)
      · have hp : k = 0 := by have := of_decide_eq_false hz; omega
        subst hp
        refine ⟨fun hb => tail hk' _ rfl hb, fun hb => ?_⟩
        have e := step _ rfl hb
        refine ⟨fun h0 => ⟨fun h2 => ?_, fun h2 => ?_⟩, fun h0 => ?_⟩
        · rw [e, h0, cond_true, h2]; exact ⟨rfl, rfl⟩
        · rw [e, h0, cond_true, h2, cond_false]
          first
          | (exfalso; omega)
          | exact ih (0 + 1) _ (by omega) (by omega)
        · rw [e, h0, cond_false]
          first
          | (exfalso; omega)
          | exact ih (0 + 1) _ (by omega) (by omega)
    · rw [drop_end (l := l) (by have := of_decide_eq_false hge; omega)]; exact ⟨rfl, rfl⟩
theorem tshape_spec (l : List Ev.Stat) (hl : l.length ≤ maxLen) : Does Tryz.prog 72 [.l .stat l] [] (.x (.b (shapeM l))) [] := by
  refine Does.go (cfg := cfg0) cfg0_ok Tryz.func72 (by kernel_rfl) (by kernel_rfl) (t := (.stop [.code [1, 1, 0, 1, 0, 0], .inLoop [1, 1, 0, 1, 0, 0], .inBlock 0, .code [1, 1, 1]] { n := 68, fr := [(0, .p (.lst .stat l)), (2, .p (.bool false)), (3, .i (0 : Int)), (7, .p (.lst .stat l)), (8, .i (↑(List.length l) : Int)), (9, .i (0 : Int))], ck := [], kn := [2] })) (by kernel_rfl) fun Γ => ?_
  exact sh_loop l hl Γ l.length 0 0 (by omega) (by omega)
def eShape : Nat × (List SX → List Chunk → Option (Option Prop × SV × List Chunk)) := (72, fun
  | [.c (.pd (.lst .stat l))], [] => some (some (l.length ≤ maxLen), .x (.c (.pd (.bool (shapeM l)))), [])
  | _, _ => none)
theorem eShape_ok (vs : List SX) (ck : List Chunk) (p : Option Prop) (ret : SV) (ck' : List Chunk) (h : eShape.2 vs ck = some (p, ret, ck')) (hp : Holds p) : Does Tryz.prog eShape.1 vs ck ret ck' := by
  unfold eShape at h
  simp only at h
  split at h
  · rename_i l
    simp only [Option.some.injEq, Prod.mk.injEq] at h
    obtain ⟨rfl, rfl, rfl⟩ := h
    exact tshape_spec l hp
  · simp at h
theorem tkids_spec (l : List Ev.Stat) (i : Int) : Does Tryz.prog 73 [.l .stat l, .i i] [] (.x (.c (.fn (.func 126) [] [.loc 1 0, .loc 0 0]))) [.cells [.pd (.lst .stat l)] 24, .cells [SC.i i] 3] := by
  refine Does.go (cfg := cfg0) cfg0_ok Tryz.func73 (by kernel_rfl) (by kernel_rfl) (t := (.ret (.x (.c (.fn (.func 126) [] [.loc 1 0, .loc 0 0]))) [.cells [.pd (.lst .stat l)] 24, .cells [.i i] 3])) (by kernel_rfl) fun Γ => ?_
  exact ⟨rfl, rfl⟩
def eKids : Nat × (List SX → List Chunk → Option (Option Prop × SV × List Chunk)) := (73, fun
  | [.c (.pd (.lst .stat l)), .c (.pd (.int .i64 i))], [] => some (none, .x (.c (.fn (.func 126) [] [.loc 1 0, .loc 0 0])), [.cells [.pd (.lst .stat l)] 24, .cells [.pd (.int .i64 i)] 3])
  | _, _ => none)
theorem eKids_ok (vs : List SX) (ck : List Chunk) (p : Option Prop) (ret : SV) (ck' : List Chunk) (h : eKids.2 vs ck = some (p, ret, ck')) (hp : Holds p) : Does Tryz.prog eKids.1 vs ck ret ck' := by
  unfold eKids at h
  simp only at h
  split at h
  · rename_i l i
    simp only [Option.some.injEq, Prod.mk.injEq] at h
    obtain ⟨rfl, rfl, rfl⟩ := h
    exact tkids_spec l i
  · simp at h
def cfgRt : Cfg := ⟨tys0, [eTpast, eShape, eKids]⟩
theorem cfgRt_ok : TabOk Tryz.prog cfgRt.tab := (TabOk.cons eTpast_ok (TabOk.cons eShape_ok (TabOk.cons eKids_ok TabOk.nil)))
end Go.Proofs.YtcpnicfkpkonkaaGreatDoor

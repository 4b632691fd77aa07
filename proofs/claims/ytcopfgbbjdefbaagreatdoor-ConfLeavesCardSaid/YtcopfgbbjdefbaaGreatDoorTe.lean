/- Contracts: trees of states: tree.Right. Conditions: none. Contracts: trees of states: parents, what is within, domains. Conditions: sizes. -/
import Derived.Test.YtcopfgbbjdefbaaGreatDoorTc
namespace Go.Proofs.YtcopfgbbjdefbaaGreatDoor
open Go Go.Ev
set_option maxRecDepth 100000
def l5 (s x : Ev.Stat) : Bool := s.kind == 3 && (a8 x.kind || x.kind == 4)
def dw (l : List Ev.Stat) (xs : List Int) : Nat := (xs.filter fun y => !a8 (ETy.get .stat l y.toNat).kind).length
def eS (l : List Ev.Stat) (s : Ev.Stat) (xs : List Int) : Bool := xs.all fun y => !l5 s (ETy.get .stat l y.toNat)
def qo (l : List Ev.Stat) (k : Nat) : Bool :=
 eS l (ETy.get .stat l k) (bg l k) && (bif (ETy.get .stat l k).kind == 2 || (ETy.get .stat l k).kind == 3 then !(dw l (bg l k) == 0) else (bg l k).length == 0)
def du (l : List Ev.Stat) : Nat → Nat → Bool
 | 0, _ => true
 | n + 1, k => qo l k && du l n (k + 1)
def bZ (l : List Ev.Stat) : Bool := jJ l && du l l.length 0
theorem DM (l : List Ev.Stat) (pre : List Int) (x : Int) : dw l (pre ++ [x]) = dw l pre + (if a8 (ETy.get .stat l x.toNat).kind = true then 0 else 1) := by
 unfold dw
 rw [List.filter_append, List.length_append]
 cases h : a8 (ETy.get .stat l x.toNat).kind <;> simp [h]
theorem GE (l : List Ev.Stat) (pre : List Int) : dw l pre ≤ pre.length := List.length_filter_le _ _
theorem A4 (l : List Ev.Stat) (s : Ev.Stat) (pre : List Int) (x : Int) : eS l s (pre ++ [x]) = (eS l s pre && !l5 s (ETy.get .stat l x.toNat)) := by
 unfold eS; simp
theorem rY (l : List Ev.Stat) (e : Nat) : ∀ n k, (dD l e n k).length ≤ n
 | 0, _ => Nat.le_refl _
 | n + 1, k => by
   rw [dD]; split
   · have := rY l e n (endM l k); simp; omega
   · simp
theorem lH (l : List Ev.Stat) (i : Nat) : (bg l i).length ≤ l.length := rY _ _ _ _
theorem Hw (l : List Ev.Stat) (s : Ev.Stat) (hl : l.length ≤ maxLen) (k : Nat) (lp : Nat) (pre : List Int) (y : Int) (Γ : Ctx) (hds : Γ.ds = []) (hy : 0 ≤ y ∧ y < (l.length : Int)) (hg : eS l s pre = true) (hlen : pre.length < l.length) :
 J Tryz.prog ⟨95, some lp⟩ (aw Tryz.f95) Γ (fun v ck => (v = .x (.b true) ∧ eS l s (pre ++ [y]) = true ∧ ck = (fun pre => [.cells [.pd (.lst .stat l)] 24, .cells [.pd (.bool false)] 4, .cells [.pd (.str s.name), SC.i s.kind, SC.i s.depth, .pd (.str s.initial), .pd (.lst .deed s.entry), .pd (.lst .deed s.leave)] 42, .cells [SC.i (pre.length : Int)] 3, .cells [SC.i (dw l pre : Int)] 3, .dead, .dead]) (pre ++ [y])) ∨ (v = .x (.b false) ∧ eS l s (pre ++ [y]) = false ∧ ck = (fun pre => [.cells [.pd (.lst .stat l)] 24, .cells [.pd (.bool false)] 4, .cells [.pd (.str s.name), SC.i s.kind, SC.i s.depth, .pd (.str s.initial), .pd (.lst .deed s.entry), .pd (.lst .deed s.leave)] 42, .cells [SC.i (pre.length : Int)] 3, .cells [SC.i (dw l pre : Int)] 3, .dead, .dead]) (pre ++ [y]))) [.code ([1, 1, 0, 1, 0, 0, 1, 1, 0, 0, 1, 1, 0, 1, 0] ++ [1])]
  { n := 62, fr := bK 7 (.x (.i y)) (bK 21 (.x (.i y)) [(1, .x (.c (.loc 0 0))), (2, .x (.c (.loc 1 0))), (11, .x (.l .stat l)), (12, .x (.i (l.length : Int))), (13, .x (.i (k : Int))), (4, .x (.c (.loc 2 0))), (5, .x (.c (.loc 3 0))), (6, .x (.c (.loc 4 0))), (20, .x (.c (.fn (.func 149) [] [.pd (.ref .int (k : Int) 0), .pd (.ref .stats l 0)])))]), ck := [.cells [.pd (.lst .stat l)] 24, .cells [.pd (.bool false)] 4, .cells [.pd (.str s.name), SC.i s.kind, SC.i s.depth, .pd (.str s.initial), .pd (.lst .deed s.entry), .pd (.lst .deed s.leave)] 42, .cells [SC.i (pre.length : Int)] 3, .cells [SC.i (dw l pre : Int)] 3, .dead, .dead], m := ([.cells [.pd (.lst .stat l)] 24, .cells [.pd (.bool false)] 4, .cells [.pd (.str s.name), SC.i s.kind, SC.i s.depth, .pd (.str s.initial), .pd (.lst .deed s.entry), .pd (.lst .deed s.leave)] 42, .cells [SC.i (pre.length : Int)] 3, .cells [SC.i (dw l pre : Int)] 3, .dead, .dead] : List Chunk).length } := by
 obtain ⟨x, rfl⟩ := Int.eq_ofNat_of_zero_le hy.1
 have hx : x < l.length := by omega
 have hm := hl
 have e1 : ((pre ++ [(x : Int)]).length : Int) = IntKind.wrap .i64 ((pre.length : Int) + 1) := by
  rw [aZ (aC hlen hl)]; simp
 have e2 : ∀ b, a8 (ETy.get .stat l x).kind = b → (dw l (pre ++ [(x : Int)]) : Int) = (if b = true then (dw l pre : Int) else IntKind.wrap .i64 ((dw l pre : Int) + 1)) := fun b hb => by
  rw [aZ (aC (Nat.lt_of_le_of_lt (GE l pre) hlen) hl), DM, Int.toNat_natCast, hb]
  cases b <;> simp
 have e3 : eS l s (pre ++ [(x : Int)]) = !l5 s (ETy.get .stat l x) := by rw [A4, hg, Int.toNat_natCast]; rfl
 generalize hc : (pre.length : Int) = c at *
 generalize hr : (dw l pre : Int) = r at *
 show J Tryz.prog ⟨95, some lp⟩ (aw Tryz.f95) Γ _ [.code [1, 1, 0, 1, 0, 0, 1, 1, 0, 0, 1, 1, 0, 1, 0, 1]] { n := 62, fr := [(1, .x (.c (.loc 0 0))), (2, .x (.c (.loc 1 0))), (11, .x (.l .stat l)), (12, .x (.i (l.length : Int))), (13, .x (.i (k : Int))), (4, .x (.c (.loc 2 0))), (5, .x (.c (.loc 3 0))), (6, .x (.c (.loc 4 0))), (20, .x (.c (.fn (.func 149) [] [.pd (.ref .int (k : Int) 0), .pd (.ref .stats l 0)]))), (21, .x (.i (x : Int))), (7, .x (.i (x : Int)))], ck := [.cells [.pd (.lst .stat l)] 24, .cells [.pd (.bool false)] 4, .cells [.pd (.str s.name), SC.i s.kind, SC.i s.depth, .pd (.str s.initial), .pd (.lst .deed s.entry), .pd (.lst .deed s.leave)] 42, .cells [SC.i c] 3, .cells [SC.i r] 3, .dead, .dead], m := 7 }
 refine J.goR (cfg := rj) mw (fn := L1 Tryz.f95) (by kernel_rfl) 1000 (t := (.need (inRg x l.length) (.ite (!a8 (Stat.kind (ETy.get .stat l x))) (.need ((s.kind == (3 : Int)) = true → (0 : Int) ≤ (x : Int) ∧ (x : Int) < (l.length : Int)) (.need ((s.kind == (3 : Int)) = true ∧ a8 (Stat.kind (ETy.get .stat l x)) = false → (0 : Int) ≤ (x : Int) ∧ (x : Int) < (l.length : Int)) (.ite (s.kind == (3 : Int) && (a8 (Stat.kind (ETy.get .stat l x)) || Stat.kind (ETy.get .stat l x) == (4 : Int))) (.stop [.code [1, 1, 0, 1, 0, 0, 1, 1, 0, 0, 1, 1, 0, 1, 0, 1, 0, 1, 1, 1, 0, 1], .inBlock 3] { n := 62, fr := [(2, .x (.c (.loc 1 0)))], ck := [.cells [.pd (.lst .stat l)] 24, .cells [.pd (.bool false)] 4, .cells [.pd (.str s.name), .i s.kind, .i s.depth, .pd (.str s.initial), .pd (.lst .deed s.entry), .pd (.lst .deed s.leave)] 42, .cells [.i (IntKind.wrap .i64 (c + (1 : Int)))] 3, .cells [.i (IntKind.wrap .i64 (r + (1 : Int)))] 3, .dead, .dead], m := 7 }) (.stop [] { n := 62, fr := [(2, .x (.c (.loc 1 0)))], ck := [.cells [.pd (.lst .stat l)] 24, .cells [.pd (.bool false)] 4, .cells [.pd (.str s.name), .i s.kind, .i s.depth, .pd (.str s.initial), .pd (.lst .deed s.entry), .pd (.lst .deed s.leave)] 42, .cells [.i (IntKind.wrap .i64 (c + (1 : Int)))] 3, .cells [.i (IntKind.wrap .i64 (r + (1 : Int)))] 3, .dead, .dead], m := 7 })))) (.need ((s.kind == (3 : Int)) = true → (0 : Int) ≤ (x : Int) ∧ (x : Int) < (l.length : Int)) (.need ((s.kind == (3 : Int)) = true ∧ a8 (Stat.kind (ETy.get .stat l x)) = false → (0 : Int) ≤ (x : Int) ∧ (x : Int) < (l.length : Int)) (.ite (s.kind == (3 : Int) && (a8 (Stat.kind (ETy.get .stat l x)) || Stat.kind (ETy.get .stat l x) == (4 : Int))) (.stop [.code [1, 1, 0, 1, 0, 0, 1, 1, 0, 0, 1, 1, 0, 1, 0, 1, 0, 1, 1, 1, 0, 1], .inBlock 3] { n := 62, fr := [(2, .x (.c (.loc 1 0)))], ck := [.cells [.pd (.lst .stat l)] 24, .cells [.pd (.bool false)] 4, .cells [.pd (.str s.name), .i s.kind, .i s.depth, .pd (.str s.initial), .pd (.lst .deed s.entry), .pd (.lst .deed s.leave)] 42, .cells [.i (IntKind.wrap .i64 (c + (1 : Int)))] 3, .cells [.i r] 3, .dead, .dead], m := 7 }) (.stop [] { n := 62, fr := [(2, .x (.c (.loc 1 0)))], ck := [.cells [.pd (.lst .stat l)] 24, .cells [.pd (.bool false)] 4, .cells [.pd (.str s.name), .i s.kind, .i s.depth, .pd (.str s.initial), .pd (.lst .deed s.entry), .pd (.lst .deed s.leave)] 42, .cells [.i (IntKind.wrap .i64 (c + (1 : Int)))] 3, .cells [.i r] 3, .dead, .dead], m := 7 }))))))) (by kernel_rfl) ?_
 have hb : (0 : Int) ≤ (x : Int) ∧ (x : Int) < (l.length : Int) := ⟨by omega, by omega⟩
 have hck : ∀ b, a8 (ETy.get .stat l x).kind = b → (fun pre : List Int => ([.cells [.pd (.lst .stat l)] 24, .cells [.pd (.bool false)] 4, .cells [.pd (.str s.name), SC.i s.kind, SC.i s.depth, .pd (.str s.initial), .pd (.lst .deed s.entry), .pd (.lst .deed s.leave)] 42, .cells [SC.i (pre.length : Int)] 3, .cells [SC.i (dw l pre : Int)] 3, .dead, .dead] : List Chunk)) (pre ++ [(x : Int)]) = [.cells [.pd (.lst .stat l)] 24, .cells [.pd (.bool false)] 4, .cells [.pd (.str s.name), SC.i s.kind, SC.i s.depth, .pd (.str s.initial), .pd (.lst .deed s.entry), .pd (.lst .deed s.leave)] 42, .cells [SC.i (IntKind.wrap .i64 (c + 1))] 3, .cells [SC.i (if b = true then r else IntKind.wrap .i64 (r + 1))] 3, .dead, .dead] := fun b hb => by
  show [_, _, _, Chunk.cells [SC.i ((pre ++ [(x : Int)]).length : Int)] _, Chunk.cells [SC.i (dw l (pre ++ [(x : Int)]) : Int)] _, _, _] = _
  rw [e1, e2 b hb]
 refine ⟨hb, fun h1 => ⟨fun _ => hb, fun _ => hb, fun h2 => ?_, fun h2 => ?_⟩, fun h1 => ⟨fun _ => hb, fun _ => hb, fun h2 => ?_, fun h2 => ?_⟩⟩
 · refine J.roundRet hds (by kernel_rfl) (.inr ⟨rfl, by rw [e3]; exact congrArg not h2, ?_⟩)
   rw [hck false (by simpa using h1)]; rfl
 · refine J.roundEnd hds (.inl ⟨rfl, by rw [e3]; exact congrArg not h2, ?_⟩)
   rw [hck false (by simpa using h1)]; rfl
 · refine J.roundRet hds (by kernel_rfl) (.inr ⟨rfl, by rw [e3]; exact congrArg not h2, ?_⟩)
   rw [hck true (by simpa using h1)]; rfl
 · refine J.roundEnd hds (.inl ⟨rfl, by rw [e3]; exact congrArg not h2, ?_⟩)
   rw [hck true (by simpa using h1)]; rfl
theorem K6 (l : List Ev.Stat) (hl : l.length ≤ maxLen) : ∀ (n k : Nat) (Γ : Ctx), l.length - k = n → k ≤ l.length →
 J Tryz.prog 95 (aw Tryz.f95) Γ (Eq2 (.x (.b (du l n k))) []) [.code [1, 1, 0, 1, 0, 0], .inLoop [1, 1, 0, 1, 0, 0], .inBlock 0, .code [1, 1, 1]] ({ n := 62, fr := [(1, .x (.c (.loc 0 0))), (2, .x (.c (.loc 1 0))), (11, .p (.lst .stat l)), (12, .i l.length), (13, .i ((k : Int)))], ck := [.cells [.pd (.lst .stat l)] 24, .cells [.pd (.bool false)] 4] }) := by
 intro n
 induction n with
 | zero => ?_
 | succ n ih => ?_
 all_goals
  intro k Γ hn hk
  refine jg mw Tryz.func95 (.ite (decide ((k : Int) < (l.length : Int))) (.need (inRg k l.length) (.stop [.code [1, 1, 0, 1, 0, 0, 1, 1, 0, 0, 1, 1, 0, 1, 0], .inBlock 2, .code [1, 1, 0, 1, 0, 0, 1, 1, 0, 0, 1, 1, 1], .inBlock 1, .code [1, 1, 0, 1, 0, 0, 1, 1, 1], .inLoop [1, 1, 0, 1, 0, 0], .inBlock 0, .code [1, 1, 1]] { n := 62, fr := [(1, .x (.c (.loc 0 0))), (2, .x (.c (.loc 1 0))), (11, .p (.lst .stat l)), (12, .i l.length), (13, .i k), (4, .x (.c (.loc 2 0))), (5, .x (.c (.loc 3 0))), (6, .x (.c (.loc 4 0))), (20, .x (.c (.fn (.func 149) [] [.loc 6 0, .loc 5 0])))], ck := [.cells [.pd (.lst .stat l)] 24, .cells [.pd (.bool false)] 4, .cells [.pd (.str (Stat.name (ETy.get .stat l k))), .i (Stat.kind (ETy.get .stat l k)), .i (Stat.depth (ETy.get .stat l k)), .pd (.str (Stat.initial (ETy.get .stat l k))), .pd (.lst .deed (Stat.entry (ETy.get .stat l k))), .pd (.lst .deed (Stat.leave (ETy.get .stat l k)))] 42, .cells [.i 0] 3, .cells [.i 0] 3, .cells [.pd (.lst .stat l)] 24, .cells [.i k] 3] })) (.ret (.p (.bool true)) [])) ?_
  refine ⟨fun hlt => ?_, fun hge => ?_⟩
 · have := of_decide_eq_true hlt; omega
 · exact ⟨rfl, rfl⟩
 · have hk' : k < l.length := by omega
   refine ⟨⟨by omega, by omega⟩, ?_⟩
   have hkm := lH l k
   have rest : ∀ (s : Ev.Stat), s = ETy.get .stat l k → J Tryz.prog 95 (aw Tryz.f95) Γ (Eq2 (.x (.b (du l (n + 1) k))) []) [.code [1, 1, 0, 1, 0, 0, 1, 1, 0, 0, 1, 1, 0, 1, 0], .inBlock 2, .code [1, 1, 0, 1, 0, 0, 1, 1, 0, 0, 1, 1, 1], .inBlock 1, .code [1, 1, 0, 1, 0, 0, 1, 1, 1], .inLoop [1, 1, 0, 1, 0, 0], .inBlock 0, .code [1, 1, 1]] { n := 62, fr := [(1, .x (.c (.loc 0 0))), (2, .x (.c (.loc 1 0))), (11, .x (.l .stat l)), (12, .x (.i (l.length : Int))), (13, .x (.i (k : Int))), (4, .x (.c (.loc 2 0))), (5, .x (.c (.loc 3 0))), (6, .x (.c (.loc 4 0))), (20, .x (.c (.fn (.func 149) [] [.pd (.ref .int (k : Int) 0), .pd (.ref .stats l 0)])))], ck := [.cells [.pd (.lst .stat l)] 24, .cells [.pd (.bool false)] 4, .cells [.pd (.str s.name), SC.i s.kind, SC.i s.depth, .pd (.str s.initial), .pd (.lst .deed s.entry), .pd (.lst .deed s.leave)] 42, .cells [SC.i 0] 3, .cells [SC.i 0] 3, .dead, .dead] } := by
    intro s hs
    have hbadK : ∀ pre, pre <+: bg l k → eS l s pre = false → du l (n + 1) k = false := fun pre hp hb => by
     obtain ⟨q, hq⟩ := hp
     have : eS l s (bg l k) = false := by
      rw [← hq]; unfold eS at hb ⊢; rw [List.all_append, hb]; rfl
     rw [du, qo, ← hs, this]; rfl
    refine J.range (ok := fun x => 0 ≤ x ∧ x < (l.length : Int)) (xs := bg l k) (g := 20) (s := 21) (d := 7) Tryz.func95 (by kernel_rfl) (by kernel_rfl) (by kernel_rfl) (by kernel_rfl) rfl (Go.Proofs.enters_of Tryz.func149 (by kernel_rfl) rfl) (by kernel_rfl) (tX l k hk' hl)
     (fun pre => eS l s pre = true) (fun pre => eS l s pre = false) rfl (fun pre => [.cells [.pd (.lst .stat l)] 24, .cells [.pd (.bool false)] 4, .cells [.pd (.str s.name), SC.i s.kind, SC.i s.depth, .pd (.str s.initial), .pd (.lst .deed s.entry), .pd (.lst .deed s.leave)] 42, .cells [SC.i (pre.length : Int)] 3, .cells [SC.i (dw l pre : Int)] 3, .dead, .dead]) (fun pre => [.cells [.pd (.lst .stat l)] 24, .cells [.pd (.bool false)] 4, .cells [.pd (.str s.name), SC.i s.kind, SC.i s.depth, .pd (.str s.initial), .pd (.lst .deed s.entry), .pd (.lst .deed s.leave)] 42, .cells [SC.i (pre.length : Int)] 3, .cells [SC.i (dw l pre : Int)] 3, .dead, .dead]) rfl (fun _ => rfl) (fun _ => rfl) (fun _ => rfl) (fun _ => rfl)
     (fun lp pre x Γ hds hx _ hgd hlen => Hw l s hl k lp pre x Γ hds hx hgd (Nat.lt_of_lt_of_le hlen hkm)) (fun hgd Γ' => ?_) (fun pre hp hb => ⟨[.c (.pd (.bool false))], by kernel_rfl, ?_, by kernel_rfl⟩)
    · have hgd' : eS l s (bg l k) = true := hgd
      have hok : du l (n + 1) k = ((bif s.kind == 2 || s.kind == 3 then !((dw l (bg l k) : Int) == 0) else !decide (((bg l k).length : Int) > 0)) && du l n (k + 1)) := by
       rw [du, qo, ← hs, hgd', Bool.true_and]
       congr 1
       cases (s.kind == 2 || s.kind == 3)
       · rw [cond_false, cond_false, Bool.eq_iff_iff]; simp
       · rw [cond_true, cond_true, Bool.eq_iff_iff]; simp
      generalize ((bg l k).length : Int) = c at hok
      generalize (dw l (bg l k) : Int) = r at hok
      show J Tryz.prog 95 (aw Tryz.f95) Γ' _ _ { n := 62, fr := [(1, .x (.c (.loc 0 0))), (2, .x (.c (.loc 1 0))), (11, .x (.l .stat l)), (12, .x (.i (l.length : Int))), (13, .x (.i (k : Int))), (4, .x (.c (.loc 2 0))), (5, .x (.c (.loc 3 0))), (6, .x (.c (.loc 4 0))), (20, .x (.c (.fn (.func 149) [] [.pd (.ref .int (k : Int) 0), .pd (.ref .stats l 0)])))], ck := [.cells [.pd (.lst .stat l)] 24, .cells [.pd (.bool false)] 4, .cells [.pd (.str s.name), SC.i s.kind, SC.i s.depth, .pd (.str s.initial), .pd (.lst .deed s.entry), .pd (.lst .deed s.leave)] 42, .cells [SC.i c] 3, .cells [SC.i r] 3, .dead, .dead] }
      refine jg mw Tryz.func95 (.ite (s.kind == (2 : Int)) (.ite (r == (0 : Int)) (.ret (.p (.bool false)) []) (.stop [.code [1, 1, 0, 1, 0, 0], .inLoop [1, 1, 0, 1, 0, 0], .inBlock 0, .code [1, 1, 1]] { n := 62, fr := [(1, .x (.c (.loc 0 0))), (2, .x (.c (.loc 1 0))), (11, .p (.lst .stat l)), (12, .i l.length), (13, .i (IntKind.wrap .i64 ((k : Int) + 1)))], ck := [.cells [.pd (.lst .stat l)] 24, .cells [.pd (.bool false)] 4] })) (.ite (s.kind == (3 : Int)) (.ite (r == (0 : Int)) (.ret (.p (.bool false)) []) (.stop [.code [1, 1, 0, 1, 0, 0], .inLoop [1, 1, 0, 1, 0, 0], .inBlock 0, .code [1, 1, 1]] { n := 62, fr := [(1, .x (.c (.loc 0 0))), (2, .x (.c (.loc 1 0))), (11, .p (.lst .stat l)), (12, .i l.length), (13, .i (IntKind.wrap .i64 ((k : Int) + 1)))], ck := [.cells [.pd (.lst .stat l)] 24, .cells [.pd (.bool false)] 4] })) (.ite (decide (c > (0 : Int))) (.ret (.p (.bool false)) []) (.stop [.code [1, 1, 0, 1, 0, 0], .inLoop [1, 1, 0, 1, 0, 0], .inBlock 0, .code [1, 1, 1]] { n := 62, fr := [(1, .x (.c (.loc 0 0))), (2, .x (.c (.loc 1 0))), (11, .p (.lst .stat l)), (12, .i l.length), (13, .i (IntKind.wrap .i64 ((k : Int) + 1)))], ck := [.cells [.pd (.lst .stat l)] 24, .cells [.pd (.bool false)] 4] })))) ?_
      have hrec := ih (k + 1) Γ' (by omega) (by omega)
      rw [aZ (aC hk' hl)]
      refine ⟨fun h2 => ⟨fun h0 => ?_, fun h0 => ?_⟩, fun h2 => ⟨fun h3 => ⟨fun h0 => ?_, fun h0 => ?_⟩, fun h3 => ⟨fun h0 => ?_, fun h0 => ?_⟩⟩⟩
      · have e : du l (n + 1) k = false := by rw [hok, h2, h0]; rfl
        rw [e]; exact ⟨rfl, rfl⟩
      · have e : du l (n + 1) k = du l n (k + 1) := by rw [hok, h2, h0]; rfl
        rw [e]; exact hrec
      · have e : du l (n + 1) k = false := by rw [hok, h2, h3, h0]; rfl
        rw [e]; exact ⟨rfl, rfl⟩
      · have e : du l (n + 1) k = du l n (k + 1) := by rw [hok, h2, h3, h0]; rfl
        rw [e]; exact hrec
      · have e : du l (n + 1) k = false := by rw [hok, h2, h3, h0]; rfl
        rw [e]; exact ⟨rfl, rfl⟩
      · have e : du l (n + 1) k = du l n (k + 1) := by rw [hok, h2, h3, h0]; rfl
        rw [e]; exact hrec
    · show _ = SV.x (.b (du l (n + 1) k))
      rw [hbadK pre hp hb]; kernel_rfl
   exact J.freeze aX [5, 6] (by kernel_rfl) (rest (ETy.get .stat l k) rfl)
 · have := of_decide_eq_false hge; omega
theorem y7 (l : List Ev.Stat) (hl : l.length ≤ maxLen) : ah Tryz.prog 95 [.l .stat l] [] (.x (.b (bZ l))) [] := by
 refine dg mw Tryz.func95 (.need (l.length ≤ maxLen) (.ite (!jJ l) (.ret (.p (.bool false)) []) (.stop [.code [1, 1, 0, 1, 0, 0], .inLoop [1, 1, 0, 1, 0, 0], .inBlock 0, .code [1, 1, 1]] { n := 62, fr := [(1, .x (.c (.loc 0 0))), (2, .x (.c (.loc 1 0))), (11, .p (.lst .stat l)), (12, .i l.length), (13, .i 0)], ck := [.cells [.pd (.lst .stat l)] 24, .cells [.pd (.bool false)] 4] }))) fun Γ => ?_
 refine ⟨hl, fun h => ?_, fun h => ?_⟩
 · have h' : jJ l = false := by simpa using h
   unfold bZ; rw [h']; exact ⟨rfl, rfl⟩
 · have h' : jJ l = true := by simpa using h
   unfold bZ; rw [h', Bool.true_and]
   exact K6 l hl l.length 0 Γ (by omega) (by omega)
def mu : Ent := (95, fun
 | [.c (.pd (.lst .stat l))], [] => some (some (l.length ≤ maxLen), .x (.c (.pd (.bool (bZ l)))), [])
 | _, _ => none)
theorem qE : EntOk Tryz.prog mu := entOk fun vs ck => by
 unfold mu; dsimp only; split
 · rename_i l; exact entS fun hp => y7 l hp
 · exact entN
variable (l:List Ev.Stat) (i j:Int)
def cj:Bool:=decide (0≤i)&&decide (i<(l.length:Int))&&bZ l
def hX (l:List Ev.Stat) (d:Int):Nat→Int
 | 0=>-1
 | k+1=>if (ETy.get .stat l k).depth<d then (k:Int) else hX l d k
def upM (i:Nat):Int:=hX l (ETy.get .stat l i).depth i
def cS:Int:=if cj l i=true then upM l i.toNat else -1
def iv:Bool:=cj l i&&cj l j&&decide (j>i)&&decide (j<((endM l i.toNat:Nat):Int))
def lE (l:List Ev.Stat) (j:Int):Nat→Int→Int
 | 0,_=>-1
 | n+1,k=>if k<0 then -1 else if ((ETy.get .stat l k.toNat).kind==2&&decide (j>k)&&decide (j<((endM l k.toNat:Nat):Int)))=true then k else lE l j n (upM l k.toNat)
def mA:Int:=if (cj l i&&cj l j)=true then lE l j (l.length+1) i else -1
theorem iy (l:List Ev.Stat) (d:Int):∀ k:Nat, -1≤hX l d k∧hX l d k<(k:Int)
 | 0=>by rw [hX]; omega
 | k+1=>by
   have:=iy l d k
   rw [hX]; split <;> omega
theorem s5 {l:List Ev.Stat} {i:Int} (h:cj l i=true):0≤i∧i<(l.length:Int):=by
 unfold cj at h
 simp only [af,decide_eq_true_eq] at h
 exact h.1
theorem IN (h:0≤i∧i<(l.length:Int)∧l.length≤maxLen):ah Tryz.prog 150 [.l .stat l,.i i] [] (.x (.i (endM l i.toNat:Nat))) []:=by
 obtain ⟨k,rfl⟩:=aD h.1
 rw [ai]
 exact tK l k (by omega) h.2.2
def uT:Ent:=(150,fun
 | [.c (.pd (.lst .stat l)),.c (.pd (.int .i64 i))],[]=>some (some (0≤i∧i<(l.length:Int)∧l.length≤maxLen),.x (.c (.pd (.int .i64 (endM l i.toNat:Nat)))),[])
 | _,_=>none)
theorem Iw:EntOk Tryz.prog uT:=entOk fun vs ck=>by
 unfold uT; dsimp only; split
 · rename_i l i; exact entS fun hp=>IN l i hp
 · exact entN
def Jm:Cfg:=⟨aX,[mu]⟩
theorem Hz:ag Tryz.prog Jm.tab:=(ag.cons qE ag.nil)
theorem ER (hl:l.length≤maxLen):ah Tryz.prog 106 [.l .stat l,.i i] [] (.x (.b (cj l i))) []:=by
 refine dg Hz Tryz.func106 (.need ((decide (i≥(0:Int))&&decide (i<(l.length:Int)))=true→l.length≤maxLen) (.ret (.p (.bool (decide (i≥(0:Int))&&decide (i<(l.length:Int))&&bZ l))) [])) fun Γ=>?_
 exact ⟨fun _=>hl,rfl,rfl⟩
def sd:Ent:=(106,fun
 | [.c (.pd (.lst .stat l)),.c (.pd (.int .i64 i))],[]=>some (some (l.length≤maxLen),.x (.c (.pd (.bool (cj l i)))),[])
 | _,_=>none)
theorem xq:EntOk Tryz.prog sd:=entOk fun vs ck=>by
 unfold sd; dsimp only; split
 · rename_i l i; exact entS fun hp=>ER l i hp
 · exact entN
abbrev zTe1:List PI:=[.code [1,0,1,0,0],.inLoop [1,0,1,0,0],.inBlock 0,.code [1,1]]
theorem JC (i:Nat) (hi:i<l.length) (hl:l.length≤maxLen) (Γ:Ctx):∀ j:Nat,j≤i →
 J Tryz.prog 118 (aw Tryz.f118) Γ (Eq2 (.x (.i (hX l (ETy.get .stat l i).depth j))) []) zTe1 ({ n:=24,fr:=[(0,.p (.lst .stat l)),(1,.i i),(4,.i 0),(5,.i (((j:Int) - 1)))],ck:=[] }):=by
 have hm:=aC hi hl
 intro j
 induction j with
 | zero=>?_
 | succ j ih=>?_
 all_goals intro hj
 · refine jg aV Tryz.func118 (.ite false (.need ((0:Int)≤(↑(0:Nat):Int) - 1∧(↑(0:Nat):Int) - 1<(l.length:Int)) (.need (inRg i l.length) (.ite (decide (Stat.depth (ETy.get .stat l 0)<Stat.depth (ETy.get .stat l i))) (.ret (.i ((↑(0:Nat):Int) - 1)) []) (.stop zTe1 { n:=24,fr:=[(0,.p (.lst .stat l)),(1,.i i),(4,.i 0),(5,.i (IntKind.wrap .i64 ((↑(0:Nat):Int) - 1 - (1:Int))))],ck:=[] })))) (.ret (.i (-1:Int)) [])) ?_
   exact ⟨fun h=>Bool.noConfusion h,fun _=>⟨rfl,rfl⟩⟩
 · refine jg aV Tryz.func118 (.ite (decide ((↑(j+1):Int) - 1≥(0:Int))) (.need ((0:Int)≤(↑(j+1):Int) - 1∧(↑(j+1):Int) - 1<(l.length:Int)) (.need (inRg i l.length) (.ite (decide (Stat.depth (ETy.get .stat l (((↑(j+1):Int) - 1).toNat))<Stat.depth (ETy.get .stat l i))) (.ret (.i ((↑(j+1):Int) - 1)) []) (.stop zTe1 { n:=24,fr:=[(0,.p (.lst .stat l)),(1,.i i),(4,.i 0),(5,.i (IntKind.wrap .i64 ((↑(j+1):Int) - 1 - (1:Int))))],ck:=[] })))) (.ret (.i (-1:Int)) [])) ?_
   have e:((j+1:Nat):Int) - 1=(j:Int):=by omega
   rw [e,ai]
   refine ⟨fun _=>⟨⟨by omega,by omega⟩,⟨by omega,by omega⟩,fun h=>?_,fun h=>?_⟩,fun h=>absurd (of_decide_eq_false h) (by omega)⟩
   · have h':=of_decide_eq_true h
     rw [hX,if_pos h']; exact ⟨rfl,rfl⟩
   · have h':=of_decide_eq_false h
     rw [hX,if_neg h',cv (by omega) (by omega)]; exact ih (by omega)
theorem Ig (h:0≤i∧i<(l.length:Int)∧l.length≤maxLen):ah Tryz.prog 118 [.l .stat l,.i i] [] (.x (.i (upM l i.toNat))) []:=by
 obtain ⟨k,rfl⟩:=aD h.1
 rw [ai]
 have hk:k<l.length:=by omega
 have hm:=aC hk h.2.2
 have key:ah Tryz.prog 118 [.l .stat l,.i (k:Int)] [] (.x (.i (upM l k))) []:=by
  refine dg aV Tryz.func118 (.stop zTe1 { n:=24,fr:=[(0,.p (.lst .stat l)),(1,.i k),(4,.i 0),(5,.i (IntKind.wrap .i64 ((k:Int) - 1)))],ck:=[] }) fun Γ=>?_
  rw [cv (by omega) (by omega)]
  exact JC l k hk h.2.2 Γ k (ar _)
 exact key
def CA:Ent:=(118,fun
 | [.c (.pd (.lst .stat l)),.c (.pd (.int .i64 i))],[]=>some (some (0≤i∧i<(l.length:Int)∧l.length≤maxLen),.x (.c (.pd (.int .i64 (upM l i.toNat)))),[])
 | _,_=>none)
theorem K3:EntOk Tryz.prog CA:=entOk fun vs ck=>by
 unfold CA; dsimp only; split
 · rename_i l i; exact entS fun hp=>Ig l i hp
 · exact entN
def rO:Cfg:=⟨aX,[sd,CA,uT]⟩
theorem mL:ag Tryz.prog rO.tab:=(ag.cons xq (ag.cons K3 (ag.cons Iw ag.nil)))
theorem xJ (hl:l.length≤maxLen):ah Tryz.prog 61 [.l .stat l,.i i] [] (.x (.i (cS l i))) []:=by
 refine dg mL Tryz.func61 (.need (l.length≤maxLen) (.ite (!cj l i) (.ret (.i (-1:Int)) []) (.need ((0:Int)≤i∧i<(l.length:Int)∧l.length≤maxLen) (.ret (.i (upM l (Int.toNat i))) [])))) fun Γ=>?_
 refine ⟨hl,fun h=>?_,fun h=>?_⟩
 · have h':cj l i=false:=by simpa using h
   unfold cS; rw [if_neg (by rw [h']; decide)]; exact ⟨rfl,rfl⟩
 · have h':cj l i=true:=by simpa using h
   have:=s5 h'
   unfold cS; rw [if_pos h']; exact ⟨⟨this.1,this.2,hl⟩,rfl,rfl⟩
def mj:Ent:=(61,fun
 | [.c (.pd (.lst .stat l)),.c (.pd (.int .i64 i))],[]=>some (some (l.length≤maxLen),.x (.c (.pd (.int .i64 (cS l i)))),[])
 | _,_=>none)
theorem rz:EntOk Tryz.prog mj:=entOk fun vs ck=>by
 unfold mj; dsimp only; split
 · rename_i l i; exact entS fun hp=>xJ l i hp
 · exact entN
theorem vL (hl:l.length≤maxLen):ah Tryz.prog 143 [.l .stat l,.i i,.i j] [] (.x (.b (iv l i j))) []:=by
 refine dg mL Tryz.func143 (.need (l.length≤maxLen) (.need (cj l i=true→l.length≤maxLen) (.need ((cj l i&&cj l j&&decide (j>i))=true→(0:Int)≤i∧i<(l.length:Int)∧l.length≤maxLen) (.ret (.p (.bool (cj l i&&cj l j&&decide (j>i)&&decide (j<(↑(endM l (Int.toNat i)):Int))))) [])))) fun Γ=>?_
 refine ⟨hl,fun _=>hl,fun h=>?_,rfl,rfl⟩
 simp only [af] at h
 have:=s5 h.1.1
 exact ⟨this.1,this.2,hl⟩
def pn:Ent:=(143,fun
 | [.c (.pd (.lst .stat l)),.c (.pd (.int .i64 i)),.c (.pd (.int .i64 j))],[]=>some (some (l.length≤maxLen),.x (.c (.pd (.bool (iv l i j)))),[])
 | _,_=>none)
theorem BJ:EntOk Tryz.prog pn:=entOk fun vs ck=>by
 unfold pn; dsimp only; split
 · rename_i l i j; exact entS fun hp=>vL l i j hp
 · exact entN
abbrev zTe2:List PI:=[.code [1,1,0,1,0,0],.inLoop [1,1,0,1,0,0],.inBlock 0,.code [1,1,1]]
theorem KY (hl:l.length≤maxLen) (Γ:Ctx):∀ (n:Nat) (k:Int), -1≤k→k<(l.length:Int)→k+1<(n:Int) →
 J Tryz.prog 148 (aw Tryz.f148) Γ (Eq2 (.x (.i (lE l j n k))) []) zTe2 ({ n:=43,fr:=[(0,.p (.lst .stat l)),(2,.i j),(6,.i 0),(7,.i k)],ck:=[] }):=by
 intro n
 induction n with
 | zero=>intro k h1 h2 h3; omega
 | succ n ih =>
   intro k h1 h2 h3
   refine jg mL Tryz.func148 (.ite (decide (k≥(0:Int))) (.need ((0:Int)≤k∧k<(l.length:Int)) (.need ((Stat.kind (ETy.get .stat l (Int.toNat k))==(2:Int)&&decide (j>k))=true→(0:Int)≤k∧k<(l.length:Int)∧l.length≤maxLen) (.ite (Stat.kind (ETy.get .stat l (Int.toNat k))==(2:Int)&&decide (j>k)&&decide (j<(↑(endM l (Int.toNat k)):Int))) (.ret (.i k) []) (.need ((0:Int)≤k∧k<(l.length:Int)∧l.length≤maxLen) (.stop zTe2 { n:=43,fr:=[(0,.p (.lst .stat l)),(2,.i j),(6,.i 0),(7,.i (upM l (Int.toNat k)))],ck:=[] }))))) (.ret (.i (-1:Int)) [])) ?_
   refine ⟨fun h=>?_,fun h=>?_⟩
   · have hk:k≥0:=of_decide_eq_true h
     have hup:=iy l (ETy.get .stat l k.toNat).depth k.toNat
     have hup' : -1≤upM l k.toNat∧upM l k.toNat<k:=by
      have:((k.toNat:Nat):Int)=k:=eo hk
      unfold upM; omega
     refine ⟨⟨hk,h2⟩,fun _=>⟨hk,h2,hl⟩,fun hc=>?_,fun hc=>⟨⟨hk,h2,hl⟩,?_⟩⟩
     · rw [lE,if_neg (by omega),if_pos hc]; exact ⟨rfl,rfl⟩
     · rw [lE,if_neg (by omega),if_neg (by rw [hc]; decide)]
       exact ih (upM l k.toNat) hup'.1 (by omega) (by omega)
   · have hk:¬k≥0:=of_decide_eq_false h
     rw [lE,if_pos (by omega)]; exact ⟨rfl,rfl⟩
theorem v7 (hl:l.length≤maxLen):ah Tryz.prog 148 [.l .stat l,.i i,.i j] [] (.x (.i (mA l i j))) []:=by
 refine dg mL Tryz.func148 (.need (l.length≤maxLen) (.need ((!cj l i)=false→l.length≤maxLen) (.ite (!cj l i || !cj l j) (.ret (.i (-1:Int)) []) (.stop zTe2 { n:=43,fr:=[(0,.p (.lst .stat l)),(2,.i j),(6,.i 0),(7,.i i)],ck:=[] })))) fun Γ=>?_
 refine ⟨hl,fun _=>hl,fun h=>?_,fun h=>?_⟩
 · have h':(cj l i&&cj l j)=false:=by
    cases h1:cj l i <;> cases h2:cj l j <;> simp_all
   unfold mA; rw [if_neg (by rw [h']; decide)]; exact ⟨rfl,rfl⟩
 · have h':(cj l i&&cj l j)=true:=by
    cases h1:cj l i <;> cases h2:cj l j <;> simp_all
   have hi:=s5 (by simp only [af] at h'; exact h'.1)
   unfold mA; rw [if_pos h']
   exact KY l j hl Γ (l.length+1) i (by omega) hi.2 (by omega)
def pg:Ent:=(148,fun
 | [.c (.pd (.lst .stat l)),.c (.pd (.int .i64 i)),.c (.pd (.int .i64 j))],[]=>some (some (l.length≤maxLen),.x (.c (.pd (.int .i64 (mA l i j)))),[])
 | _,_=>none)
theorem C9:EntOk Tryz.prog pg:=entOk fun vs ck=>by
 unfold pg; dsimp only; split
 · rename_i l i j; exact entS fun hp=>v7 l i j hp
 · exact entN
end Go.Proofs.YtcopfgbbjdefbaaGreatDoor

/- Contracts: trees of states: tree.Right. Conditions: none. Contracts: trees of states: parents, what is within, domains. Conditions: sizes. Contracts: actions that may be. Conditions: none. -/
import Derived.Test.YtgfifkhbfdacjaaGreatDoorTc
import Derived.Test.YtgfifkhbfdacjaaGreatDoorXb
import Derived.Test.YtgfifkhbfdacjaaGreatDoorVb
namespace Go.Proofs.YtgfifkhbfdacjaaGreatDoor
open Go Go.Ev
set_option maxRecDepth 100000
def mA (s x : Ev.Stat) : Bool := s.kind == 3 && (aM x.kind || x.kind == 4)
def du (l : List Ev.Stat) (xs : List Int) : Nat := (xs.filter fun y => !aM (ETy.get .stat l y.toNat).kind).length
def e9 (l : List Ev.Stat) (s : Ev.Stat) (xs : List Int) : Bool := xs.all fun y => !mA s (ETy.get .stat l y.toNat)
def qE (l : List Ev.Stat) (k : Nat) : Bool :=
 e9 l (ETy.get .stat l k) (ba l k) && (bif (ETy.get .stat l k).kind == 2 || (ETy.get .stat l k).kind == 3 then !(du l (ba l k) == 0) else (ba l k).length == 0)
def dn (l : List Ev.Stat) : Nat → Nat → Bool
 | 0, _ => true
 | n + 1, k => qE l k && dn l n (k + 1)
def b5 (l : List Ev.Stat) : Bool := j9 l && dn l l.length 0
theorem Ew (l : List Ev.Stat) (pre : List Int) (x : Int) : du l (pre ++ [x]) = du l pre + (if aM (ETy.get .stat l x.toNat).kind = true then 0 else 1) := by
 unfold du
 rw [List.filter_append, List.length_append]
 cases h : aM (ETy.get .stat l x.toNat).kind <;> simp [h]
theorem IF (l : List Ev.Stat) (pre : List Int) : du l pre ≤ pre.length := List.length_filter_le _ _
theorem BI (l : List Ev.Stat) (s : Ev.Stat) (pre : List Int) (x : Int) : e9 l s (pre ++ [x]) = (e9 l s pre && !mA s (ETy.get .stat l x.toNat)) := by
 unfold e9; simp
theorem rS (l : List Ev.Stat) (e : Nat) : ∀ n k, (dD l e n k).length ≤ n
 | 0, _ => Nat.le_refl _
 | n + 1, k => by
   rw [dD]; split
   · have := rS l e n (endM l k); simp; omega
   · simp
theorem ki (l : List Ev.Stat) (i : Nat) : (ba l i).length ≤ l.length := rS _ _ _ _
theorem H6 (l : List Ev.Stat) (s : Ev.Stat) (hl : l.length ≤ maxLen) (k : Nat) (lp : Nat) (pre : List Int) (y : Int) (Γ : Ctx) (hds : Γ.ds = []) (hy : 0 ≤ y ∧ y < (l.length : Int)) (hg : e9 l s pre = true) (hlen : pre.length < l.length) :
 J Tryz.prog ⟨87, some lp⟩ (au Tryz.f87) Γ (fun v ck => (v = .x (.b true) ∧ e9 l s (pre ++ [y]) = true ∧ ck = (fun pre => [.cells [.pd (.lst .stat l)] 24, .cells [.pd (.bool false)] 4, .cells [.pd (.str s.name), SC.i s.kind, SC.i s.depth, .pd (.str s.initial), .pd (.lst .deed s.entry), .pd (.lst .deed s.leave)] 56, .cells [SC.i (pre.length : Int)] 3, .cells [SC.i (du l pre : Int)] 3, .dead, .dead]) (pre ++ [y])) ∨ (v = .x (.b false) ∧ e9 l s (pre ++ [y]) = false ∧ ck = (fun pre => [.cells [.pd (.lst .stat l)] 24, .cells [.pd (.bool false)] 4, .cells [.pd (.str s.name), SC.i s.kind, SC.i s.depth, .pd (.str s.initial), .pd (.lst .deed s.entry), .pd (.lst .deed s.leave)] 56, .cells [SC.i (pre.length : Int)] 3, .cells [SC.i (du l pre : Int)] 3, .dead, .dead]) (pre ++ [y]))) [.code ([1, 1, 0, 1, 0, 0, 1, 1, 0, 0, 1, 1, 0, 1, 0] ++ [1])]
  { n := 62, fr := bu 7 (.x (.i y)) (bu 21 (.x (.i y)) [(1, .x (.c (.loc 0 0))), (2, .x (.c (.loc 1 0))), (11, .x (.l .stat l)), (12, .x (.i (l.length : Int))), (13, .x (.i (k : Int))), (4, .x (.c (.loc 2 0))), (5, .x (.c (.loc 3 0))), (6, .x (.c (.loc 4 0))), (20, .x (.c (.fn (.func 174) [] [.pd (.ref .int (k : Int) 0), .pd (.ref .stats l 0)])))]), ck := [.cells [.pd (.lst .stat l)] 24, .cells [.pd (.bool false)] 4, .cells [.pd (.str s.name), SC.i s.kind, SC.i s.depth, .pd (.str s.initial), .pd (.lst .deed s.entry), .pd (.lst .deed s.leave)] 56, .cells [SC.i (pre.length : Int)] 3, .cells [SC.i (du l pre : Int)] 3, .dead, .dead], m := ([.cells [.pd (.lst .stat l)] 24, .cells [.pd (.bool false)] 4, .cells [.pd (.str s.name), SC.i s.kind, SC.i s.depth, .pd (.str s.initial), .pd (.lst .deed s.entry), .pd (.lst .deed s.leave)] 56, .cells [SC.i (pre.length : Int)] 3, .cells [SC.i (du l pre : Int)] 3, .dead, .dead] : List Chunk).length } := by
 obtain ⟨x, rfl⟩ := Int.eq_ofNat_of_zero_le hy.1
 have hx : x < l.length := by omega
 have hm := hl
 have e1 : ((pre ++ [(x : Int)]).length : Int) = IntKind.wrap .i64 ((pre.length : Int) + 1) := by
  rw [aV (aC hlen hl)]; simp
 have e2 : ∀ b, aM (ETy.get .stat l x).kind = b → (du l (pre ++ [(x : Int)]) : Int) = (if b = true then (du l pre : Int) else IntKind.wrap .i64 ((du l pre : Int) + 1)) := fun b hb => by
  rw [aV (aC (Nat.lt_of_le_of_lt (IF l pre) hlen) hl), Ew, Int.toNat_natCast, hb]
  cases b <;> simp
 have e3 : e9 l s (pre ++ [(x : Int)]) = !mA s (ETy.get .stat l x) := by rw [BI, hg, Int.toNat_natCast]; rfl
 generalize hc : (pre.length : Int) = c at *
 generalize hr : (du l pre : Int) = r at *
 show J Tryz.prog ⟨87, some lp⟩ (au Tryz.f87) Γ _ [.code [1, 1, 0, 1, 0, 0, 1, 1, 0, 0, 1, 1, 0, 1, 0, 1]] { n := 62, fr := [(1, .x (.c (.loc 0 0))), (2, .x (.c (.loc 1 0))), (11, .x (.l .stat l)), (12, .x (.i (l.length : Int))), (13, .x (.i (k : Int))), (4, .x (.c (.loc 2 0))), (5, .x (.c (.loc 3 0))), (6, .x (.c (.loc 4 0))), (20, .x (.c (.fn (.func 174) [] [.pd (.ref .int (k : Int) 0), .pd (.ref .stats l 0)]))), (21, .x (.i (x : Int))), (7, .x (.i (x : Int)))], ck := [.cells [.pd (.lst .stat l)] 24, .cells [.pd (.bool false)] 4, .cells [.pd (.str s.name), SC.i s.kind, SC.i s.depth, .pd (.str s.initial), .pd (.lst .deed s.entry), .pd (.lst .deed s.leave)] 56, .cells [SC.i c] 3, .cells [SC.i r] 3, .dead, .dead], m := 7 }
 refine J.goR (cfg := sL) mP (fn := H3 Tryz.f87) (by kernel_rfl) 1000 (t := (.need (inRg x l.length) (.ite (!aM (Stat.kind (ETy.get .stat l x))) (.need ((s.kind == (3 : Int)) = true → (0 : Int) ≤ (x : Int) ∧ (x : Int) < (l.length : Int)) (.need ((s.kind == (3 : Int)) = true ∧ aM (Stat.kind (ETy.get .stat l x)) = false → (0 : Int) ≤ (x : Int) ∧ (x : Int) < (l.length : Int)) (.ite (s.kind == (3 : Int) && (aM (Stat.kind (ETy.get .stat l x)) || Stat.kind (ETy.get .stat l x) == (4 : Int))) (.stop [.code [1, 1, 0, 1, 0, 0, 1, 1, 0, 0, 1, 1, 0, 1, 0, 1, 0, 1, 1, 1, 0, 1], .inBlock 3] { n := 62, fr := [(2, .x (.c (.loc 1 0)))], ck := [.cells [.pd (.lst .stat l)] 24, .cells [.pd (.bool false)] 4, .cells [.pd (.str s.name), .i s.kind, .i s.depth, .pd (.str s.initial), .pd (.lst .deed s.entry), .pd (.lst .deed s.leave)] 56, .cells [.i (IntKind.wrap .i64 (c + (1 : Int)))] 3, .cells [.i (IntKind.wrap .i64 (r + (1 : Int)))] 3, .dead, .dead], m := 7 }) (.stop [] { n := 62, fr := [(2, .x (.c (.loc 1 0)))], ck := [.cells [.pd (.lst .stat l)] 24, .cells [.pd (.bool false)] 4, .cells [.pd (.str s.name), .i s.kind, .i s.depth, .pd (.str s.initial), .pd (.lst .deed s.entry), .pd (.lst .deed s.leave)] 56, .cells [.i (IntKind.wrap .i64 (c + (1 : Int)))] 3, .cells [.i (IntKind.wrap .i64 (r + (1 : Int)))] 3, .dead, .dead], m := 7 })))) (.need ((s.kind == (3 : Int)) = true → (0 : Int) ≤ (x : Int) ∧ (x : Int) < (l.length : Int)) (.need ((s.kind == (3 : Int)) = true ∧ aM (Stat.kind (ETy.get .stat l x)) = false → (0 : Int) ≤ (x : Int) ∧ (x : Int) < (l.length : Int)) (.ite (s.kind == (3 : Int) && (aM (Stat.kind (ETy.get .stat l x)) || Stat.kind (ETy.get .stat l x) == (4 : Int))) (.stop [.code [1, 1, 0, 1, 0, 0, 1, 1, 0, 0, 1, 1, 0, 1, 0, 1, 0, 1, 1, 1, 0, 1], .inBlock 3] { n := 62, fr := [(2, .x (.c (.loc 1 0)))], ck := [.cells [.pd (.lst .stat l)] 24, .cells [.pd (.bool false)] 4, .cells [.pd (.str s.name), .i s.kind, .i s.depth, .pd (.str s.initial), .pd (.lst .deed s.entry), .pd (.lst .deed s.leave)] 56, .cells [.i (IntKind.wrap .i64 (c + (1 : Int)))] 3, .cells [.i r] 3, .dead, .dead], m := 7 }) (.stop [] { n := 62, fr := [(2, .x (.c (.loc 1 0)))], ck := [.cells [.pd (.lst .stat l)] 24, .cells [.pd (.bool false)] 4, .cells [.pd (.str s.name), .i s.kind, .i s.depth, .pd (.str s.initial), .pd (.lst .deed s.entry), .pd (.lst .deed s.leave)] 56, .cells [.i (IntKind.wrap .i64 (c + (1 : Int)))] 3, .cells [.i r] 3, .dead, .dead], m := 7 }))))))) (by kernel_rfl) ?_
 have hb : (0 : Int) ≤ (x : Int) ∧ (x : Int) < (l.length : Int) := ⟨by omega, by omega⟩
 have hck : ∀ b, aM (ETy.get .stat l x).kind = b → (fun pre : List Int => ([.cells [.pd (.lst .stat l)] 24, .cells [.pd (.bool false)] 4, .cells [.pd (.str s.name), SC.i s.kind, SC.i s.depth, .pd (.str s.initial), .pd (.lst .deed s.entry), .pd (.lst .deed s.leave)] 56, .cells [SC.i (pre.length : Int)] 3, .cells [SC.i (du l pre : Int)] 3, .dead, .dead] : List Chunk)) (pre ++ [(x : Int)]) = [.cells [.pd (.lst .stat l)] 24, .cells [.pd (.bool false)] 4, .cells [.pd (.str s.name), SC.i s.kind, SC.i s.depth, .pd (.str s.initial), .pd (.lst .deed s.entry), .pd (.lst .deed s.leave)] 56, .cells [SC.i (IntKind.wrap .i64 (c + 1))] 3, .cells [SC.i (if b = true then r else IntKind.wrap .i64 (r + 1))] 3, .dead, .dead] := fun b hb => by
  show [_, _, _, Chunk.cells [SC.i ((pre ++ [(x : Int)]).length : Int)] _, Chunk.cells [SC.i (du l (pre ++ [(x : Int)]) : Int)] _, _, _] = _
  rw [e1, e2 b hb]
 refine ⟨hb, fun h1 => ⟨fun _ => hb, fun _ => hb, fun h2 => ?_, fun h2 => ?_⟩, fun h1 => ⟨fun _ => hb, fun _ => hb, fun h2 => ?_, fun h2 => ?_⟩⟩
 · refine J.roundRet hds (by kernel_rfl) (.inr ⟨rfl, by rw [e3]; exact congrArg not h2, ?_⟩)
   rw [hck false (by simpa using h1)]; rfl
 · refine J.roundEnd hds (.inl ⟨rfl, by rw [e3]; exact congrArg not h2, ?_⟩)
   rw [hck false (by simpa using h1)]; rfl
 · refine J.roundRet hds (by kernel_rfl) (.inr ⟨rfl, by rw [e3]; exact congrArg not h2, ?_⟩)
   rw [hck true (by simpa using h1)]; rfl
 · refine J.roundEnd hds (.inl ⟨rfl, by rw [e3]; exact congrArg not h2, ?_⟩)
   rw [hck true (by simpa using h1)]; rfl
theorem Lq (l : List Ev.Stat) (hl : l.length ≤ maxLen) : ∀ (n k : Nat) (Γ : Ctx), l.length - k = n → k ≤ l.length →
 J Tryz.prog 87 (au Tryz.f87) Γ (Eq2 (.x (.b (dn l n k))) []) [.code [1, 1, 0, 1, 0, 0], .inLoop [1, 1, 0, 1, 0, 0], .inBlock 0, .code [1, 1, 1]] ({ n := 62, fr := [(1, .x (.c (.loc 0 0))), (2, .x (.c (.loc 1 0))), (11, .p (.lst .stat l)), (12, .i l.length), (13, .i ((k : Int)))], ck := [.cells [.pd (.lst .stat l)] 24, .cells [.pd (.bool false)] 4] }) := by
 intro n
 induction n with
 | zero => ?_
 | succ n ih => ?_
 all_goals
  intro k Γ hn hk
  refine jg mP Tryz.func87 (.ite (decide ((k : Int) < (l.length : Int))) (.need (inRg k l.length) (.stop [.code [1, 1, 0, 1, 0, 0, 1, 1, 0, 0, 1, 1, 0, 1, 0], .inBlock 2, .code [1, 1, 0, 1, 0, 0, 1, 1, 0, 0, 1, 1, 1], .inBlock 1, .code [1, 1, 0, 1, 0, 0, 1, 1, 1], .inLoop [1, 1, 0, 1, 0, 0], .inBlock 0, .code [1, 1, 1]] { n := 62, fr := [(1, .x (.c (.loc 0 0))), (2, .x (.c (.loc 1 0))), (11, .p (.lst .stat l)), (12, .i l.length), (13, .i k), (4, .x (.c (.loc 2 0))), (5, .x (.c (.loc 3 0))), (6, .x (.c (.loc 4 0))), (20, .x (.c (.fn (.func 174) [] [.loc 6 0, .loc 5 0])))], ck := [.cells [.pd (.lst .stat l)] 24, .cells [.pd (.bool false)] 4, .cells [.pd (.str (Stat.name (ETy.get .stat l k))), .i (Stat.kind (ETy.get .stat l k)), .i (Stat.depth (ETy.get .stat l k)), .pd (.str (Stat.initial (ETy.get .stat l k))), .pd (.lst .deed (Stat.entry (ETy.get .stat l k))), .pd (.lst .deed (Stat.leave (ETy.get .stat l k)))] 56, .cells [.i 0] 3, .cells [.i 0] 3, .cells [.pd (.lst .stat l)] 24, .cells [.i k] 3] })) (.ret (.p (.bool true)) [])) ?_
  refine ⟨fun hlt => ?_, fun hge => ?_⟩
 · have := of_decide_eq_true hlt; omega
 · exact ⟨rfl, rfl⟩
 · have hk' : k < l.length := by omega
   refine ⟨⟨by omega, by omega⟩, ?_⟩
   have hkm := ki l k
   have rest : ∀ (s : Ev.Stat), s = ETy.get .stat l k → J Tryz.prog 87 (au Tryz.f87) Γ (Eq2 (.x (.b (dn l (n + 1) k))) []) [.code [1, 1, 0, 1, 0, 0, 1, 1, 0, 0, 1, 1, 0, 1, 0], .inBlock 2, .code [1, 1, 0, 1, 0, 0, 1, 1, 0, 0, 1, 1, 1], .inBlock 1, .code [1, 1, 0, 1, 0, 0, 1, 1, 1], .inLoop [1, 1, 0, 1, 0, 0], .inBlock 0, .code [1, 1, 1]] { n := 62, fr := [(1, .x (.c (.loc 0 0))), (2, .x (.c (.loc 1 0))), (11, .x (.l .stat l)), (12, .x (.i (l.length : Int))), (13, .x (.i (k : Int))), (4, .x (.c (.loc 2 0))), (5, .x (.c (.loc 3 0))), (6, .x (.c (.loc 4 0))), (20, .x (.c (.fn (.func 174) [] [.pd (.ref .int (k : Int) 0), .pd (.ref .stats l 0)])))], ck := [.cells [.pd (.lst .stat l)] 24, .cells [.pd (.bool false)] 4, .cells [.pd (.str s.name), SC.i s.kind, SC.i s.depth, .pd (.str s.initial), .pd (.lst .deed s.entry), .pd (.lst .deed s.leave)] 56, .cells [SC.i 0] 3, .cells [SC.i 0] 3, .dead, .dead] } := by
    intro s hs
    have hbadK : ∀ pre, pre <+: ba l k → e9 l s pre = false → dn l (n + 1) k = false := fun pre hp hb => by
     obtain ⟨q, hq⟩ := hp
     have : e9 l s (ba l k) = false := by
      rw [← hq]; unfold e9 at hb ⊢; rw [List.all_append, hb]; rfl
     rw [dn, qE, ← hs, this]; rfl
    refine J.range (ok := fun x => 0 ≤ x ∧ x < (l.length : Int)) (xs := ba l k) (g := 20) (s := 21) (d := 7) Tryz.func87 (by kernel_rfl) (by kernel_rfl) (by kernel_rfl) (by kernel_rfl) rfl (Go.Proofs.enters_of Tryz.func174 (by kernel_rfl) rfl) (by kernel_rfl) (uN l k hk' hl)
     (fun pre => e9 l s pre = true) (fun pre => e9 l s pre = false) rfl (fun pre => [.cells [.pd (.lst .stat l)] 24, .cells [.pd (.bool false)] 4, .cells [.pd (.str s.name), SC.i s.kind, SC.i s.depth, .pd (.str s.initial), .pd (.lst .deed s.entry), .pd (.lst .deed s.leave)] 56, .cells [SC.i (pre.length : Int)] 3, .cells [SC.i (du l pre : Int)] 3, .dead, .dead]) (fun pre => [.cells [.pd (.lst .stat l)] 24, .cells [.pd (.bool false)] 4, .cells [.pd (.str s.name), SC.i s.kind, SC.i s.depth, .pd (.str s.initial), .pd (.lst .deed s.entry), .pd (.lst .deed s.leave)] 56, .cells [SC.i (pre.length : Int)] 3, .cells [SC.i (du l pre : Int)] 3, .dead, .dead]) rfl (fun _ => rfl) (fun _ => rfl) (fun _ => rfl) (fun _ => rfl)
     (fun lp pre x Γ hds hx _ hgd hlen => H6 l s hl k lp pre x Γ hds hx hgd (Nat.lt_of_lt_of_le hlen hkm)) (fun hgd Γ' => ?_) (fun pre hp hb => ⟨[.c (.pd (.bool false))], by kernel_rfl, ?_, by kernel_rfl⟩)
    · have hgd' : e9 l s (ba l k) = true := hgd
      have hok : dn l (n + 1) k = ((bif s.kind == 2 || s.kind == 3 then !((du l (ba l k) : Int) == 0) else !decide (((ba l k).length : Int) > 0)) && dn l n (k + 1)) := by
       rw [dn, qE, ← hs, hgd', Bool.true_and]
       congr 1
       cases (s.kind == 2 || s.kind == 3)
       · rw [cond_false, cond_false, Bool.eq_iff_iff]; simp
       · rw [cond_true, cond_true, Bool.eq_iff_iff]; simp
      generalize ((ba l k).length : Int) = c at hok
      generalize (du l (ba l k) : Int) = r at hok
      show J Tryz.prog 87 (au Tryz.f87) Γ' _ _ { n := 62, fr := [(1, .x (.c (.loc 0 0))), (2, .x (.c (.loc 1 0))), (11, .x (.l .stat l)), (12, .x (.i (l.length : Int))), (13, .x (.i (k : Int))), (4, .x (.c (.loc 2 0))), (5, .x (.c (.loc 3 0))), (6, .x (.c (.loc 4 0))), (20, .x (.c (.fn (.func 174) [] [.pd (.ref .int (k : Int) 0), .pd (.ref .stats l 0)])))], ck := [.cells [.pd (.lst .stat l)] 24, .cells [.pd (.bool false)] 4, .cells [.pd (.str s.name), SC.i s.kind, SC.i s.depth, .pd (.str s.initial), .pd (.lst .deed s.entry), .pd (.lst .deed s.leave)] 56, .cells [SC.i c] 3, .cells [SC.i r] 3, .dead, .dead] }
      refine jg mP Tryz.func87 (.ite (s.kind == (2 : Int)) (.ite (r == (0 : Int)) (.ret (.p (.bool false)) []) (.stop [.code [1, 1, 0, 1, 0, 0], .inLoop [1, 1, 0, 1, 0, 0], .inBlock 0, .code [1, 1, 1]] { n := 62, fr := [(1, .x (.c (.loc 0 0))), (2, .x (.c (.loc 1 0))), (11, .p (.lst .stat l)), (12, .i l.length), (13, .i (IntKind.wrap .i64 ((k : Int) + 1)))], ck := [.cells [.pd (.lst .stat l)] 24, .cells [.pd (.bool false)] 4] })) (.ite (s.kind == (3 : Int)) (.ite (r == (0 : Int)) (.ret (.p (.bool false)) []) (.stop [.code [1, 1, 0, 1, 0, 0], .inLoop [1, 1, 0, 1, 0, 0], .inBlock 0, .code [1, 1, 1]] { n := 62, fr := [(1, .x (.c (.loc 0 0))), (2, .x (.c (.loc 1 0))), (11, .p (.lst .stat l)), (12, .i l.length), (13, .i (IntKind.wrap .i64 ((k : Int) + 1)))], ck := [.cells [.pd (.lst .stat l)] 24, .cells [.pd (.bool false)] 4] })) (.ite (decide (c > (0 : Int))) (.ret (.p (.bool false)) []) (.stop [.code [1, 1, 0, 1, 0, 0], .inLoop [1, 1, 0, 1, 0, 0], .inBlock 0, .code [1, 1, 1]] { n := 62, fr := [(1, .x (.c (.loc 0 0))), (2, .x (.c (.loc 1 0))), (11, .p (.lst .stat l)), (12, .i l.length), (13, .i (IntKind.wrap .i64 ((k : Int) + 1)))], ck := [.cells [.pd (.lst .stat l)] 24, .cells [.pd (.bool false)] 4] })))) ?_
      have hrec := ih (k + 1) Γ' (by omega) (by omega)
      rw [aV (aC hk' hl)]
      refine ⟨fun h2 => ⟨fun h0 => ?_, fun h0 => ?_⟩, fun h2 => ⟨fun h3 => ⟨fun h0 => ?_, fun h0 => ?_⟩, fun h3 => ⟨fun h0 => ?_, fun h0 => ?_⟩⟩⟩
      · have e : dn l (n + 1) k = false := by rw [hok, h2, h0]; rfl
        rw [e]; exact ⟨rfl, rfl⟩
      · have e : dn l (n + 1) k = dn l n (k + 1) := by rw [hok, h2, h0]; rfl
        rw [e]; exact hrec
      · have e : dn l (n + 1) k = false := by rw [hok, h2, h3, h0]; rfl
        rw [e]; exact ⟨rfl, rfl⟩
      · have e : dn l (n + 1) k = dn l n (k + 1) := by rw [hok, h2, h3, h0]; rfl
        rw [e]; exact hrec
      · have e : dn l (n + 1) k = false := by rw [hok, h2, h3, h0]; rfl
        rw [e]; exact ⟨rfl, rfl⟩
      · have e : dn l (n + 1) k = dn l n (k + 1) := by rw [hok, h2, h3, h0]; rfl
        rw [e]; exact hrec
    · show _ = SV.x (.b (dn l (n + 1) k))
      rw [hbadK pre hp hb]; kernel_rfl
   exact J.freeze aX [5, 6] (by kernel_rfl) (rest (ETy.get .stat l k) rfl)
 · have := of_decide_eq_false hge; omega
theorem Az (l : List Ev.Stat) (hl : l.length ≤ maxLen) : ah Tryz.prog 87 [.l .stat l] [] (.x (.b (b5 l))) [] := by
 refine dg mP Tryz.func87 (.need (l.length ≤ maxLen) (.ite (!j9 l) (.ret (.p (.bool false)) []) (.stop [.code [1, 1, 0, 1, 0, 0], .inLoop [1, 1, 0, 1, 0, 0], .inBlock 0, .code [1, 1, 1]] { n := 62, fr := [(1, .x (.c (.loc 0 0))), (2, .x (.c (.loc 1 0))), (11, .p (.lst .stat l)), (12, .i l.length), (13, .i 0)], ck := [.cells [.pd (.lst .stat l)] 24, .cells [.pd (.bool false)] 4] }))) fun Γ => ?_
 refine ⟨hl, fun h => ?_, fun h => ?_⟩
 · have h' : j9 l = false := by simpa using h
   unfold b5; rw [h']; exact ⟨rfl, rfl⟩
 · have h' : j9 l = true := by simpa using h
   unfold b5; rw [h', Bool.true_and]
   exact Lq l hl l.length 0 Γ (by omega) (by omega)
def ma : Ent := (87, fun
 | [.c (.pd (.lst .stat l))], [] => some (some (l.length ≤ maxLen), .x (.c (.pd (.bool (b5 l)))), [])
 | _, _ => none)
theorem qV : EntOk Tryz.prog ma := entOk fun vs ck => by
 unfold ma; dsimp only; split
 · rename_i l; exact entS fun hp => Az l hp
 · exact entN
variable (l:List Ev.Stat) (i j:Int)
def bU:Bool:=decide (0≤i)&&decide (i<(l.length:Int))&&b5 l
def iM (l:List Ev.Stat) (d:Int):Nat→Int
 | 0=>-1
 | k+1=>if (ETy.get .stat l k).depth<d then (k:Int) else iM l d k
def upM (i:Nat):Int:=iM l (ETy.get .stat l i).depth i
def bg:Int:=if bU l i=true then upM l i.toNat else -1
def gA:Bool:=bU l i&&bU l j&&decide (j>i)&&decide (j<((endM l i.toNat:Nat):Int))
def gD (l:List Ev.Stat) (j:Int):Nat→Int→Int
 | 0,_=>-1
 | n+1,k=>if k<0 then -1 else if ((ETy.get .stat l k.toNat).kind==2&&decide (j>k)&&decide (j<((endM l k.toNat:Nat):Int)))=true then k else gD l j n (upM l k.toNat)
def dv:Int:=if (bU l i&&bU l j)=true then gD l j (l.length+1) i else -1
theorem kR (l:List Ev.Stat) (d:Int):∀ k:Nat, -1≤iM l d k∧iM l d k<(k:Int)
 | 0=>by rw [iM]; omega
 | k+1=>by
   have:=kR l d k
   rw [iM]; split <;> omega
theorem pI {l:List Ev.Stat} {i:Int} (h:bU l i=true):0≤i∧i<(l.length:Int):=by
 unfold bU at h
 simp only [af,decide_eq_true_eq] at h
 exact h.1
theorem IE (h:0≤i∧i<(l.length:Int)∧l.length≤maxLen):ah Tryz.prog 101 [.l .stat l,.i i] [] (.x (.i (endM l i.toNat:Nat))) []:=by
 obtain ⟨k,rfl⟩:=aA h.1
 rw [ai]
 exact uK l k (by omega) h.2.2
def qQ:Ent:=(101,fun
 | [.c (.pd (.lst .stat l)),.c (.pd (.int .i64 i))],[]=>some (some (0≤i∧i<(l.length:Int)∧l.length≤maxLen),.x (.c (.pd (.int .i64 (endM l i.toNat:Nat)))),[])
 | _,_=>none)
theorem yg:EntOk Tryz.prog qQ:=entOk fun vs ck=>by
 unfold qQ; dsimp only; split
 · rename_i l i; exact entS fun hp=>IE l i hp
 · exact entN
def Ki:Cfg:=⟨aX,[ma]⟩
theorem Ka:ag Tryz.prog Ki.tab:=(ag.cons qV ag.nil)
theorem Fh (hl:l.length≤maxLen):ah Tryz.prog 99 [.l .stat l,.i i] [] (.x (.b (bU l i))) []:=by
 refine dg Ka Tryz.func99 (.need ((decide (i≥(0:Int))&&decide (i<(l.length:Int)))=true→l.length≤maxLen) (.ret (.p (.bool (decide (i≥(0:Int))&&decide (i<(l.length:Int))&&b5 l))) [])) fun Γ=>?_
 exact ⟨fun _=>hl,rfl,rfl⟩
def pG:Ent:=(99,fun
 | [.c (.pd (.lst .stat l)),.c (.pd (.int .i64 i))],[]=>some (some (l.length≤maxLen),.x (.c (.pd (.bool (bU l i)))),[])
 | _,_=>none)
theorem qu:EntOk Tryz.prog pG:=entOk fun vs ck=>by
 unfold pG; dsimp only; split
 · rename_i l i; exact entS fun hp=>Fh l i hp
 · exact entN
abbrev zTe1:List PI:=[.code [1,0,1,0,0],.inLoop [1,0,1,0,0],.inBlock 0,.code [1,1]]
theorem Mv (i:Nat) (hi:i<l.length) (hl:l.length≤maxLen) (Γ:Ctx):∀ j:Nat,j≤i →
 J Tryz.prog 100 (au Tryz.f100) Γ (Eq2 (.x (.i (iM l (ETy.get .stat l i).depth j))) []) zTe1 ({ n:=24,fr:=[(0,.p (.lst .stat l)),(1,.i i),(4,.i 0),(5,.i (((j:Int) - 1)))],ck:=[] }):=by
 have hm:=aC hi hl
 intro j
 induction j with
 | zero=>?_
 | succ j ih=>?_
 all_goals intro hj
 · refine jg aW Tryz.func100 (.ite false (.need ((0:Int)≤(↑(0:Nat):Int) - 1∧(↑(0:Nat):Int) - 1<(l.length:Int)) (.need (inRg i l.length) (.ite (decide (Stat.depth (ETy.get .stat l 0)<Stat.depth (ETy.get .stat l i))) (.ret (.i ((↑(0:Nat):Int) - 1)) []) (.stop zTe1 { n:=24,fr:=[(0,.p (.lst .stat l)),(1,.i i),(4,.i 0),(5,.i (IntKind.wrap .i64 ((↑(0:Nat):Int) - 1 - (1:Int))))],ck:=[] })))) (.ret (.i (-1:Int)) [])) ?_
   exact ⟨fun h=>Bool.noConfusion h,fun _=>⟨rfl,rfl⟩⟩
 · refine jg aW Tryz.func100 (.ite (decide ((↑(j+1):Int) - 1≥(0:Int))) (.need ((0:Int)≤(↑(j+1):Int) - 1∧(↑(j+1):Int) - 1<(l.length:Int)) (.need (inRg i l.length) (.ite (decide (Stat.depth (ETy.get .stat l (((↑(j+1):Int) - 1).toNat))<Stat.depth (ETy.get .stat l i))) (.ret (.i ((↑(j+1):Int) - 1)) []) (.stop zTe1 { n:=24,fr:=[(0,.p (.lst .stat l)),(1,.i i),(4,.i 0),(5,.i (IntKind.wrap .i64 ((↑(j+1):Int) - 1 - (1:Int))))],ck:=[] })))) (.ret (.i (-1:Int)) [])) ?_
   have e:((j+1:Nat):Int) - 1=(j:Int):=by omega
   rw [e,ai]
   refine ⟨fun _=>⟨⟨by omega,by omega⟩,⟨by omega,by omega⟩,fun h=>?_,fun h=>?_⟩,fun h=>absurd (of_decide_eq_false h) (by omega)⟩
   · have h':=of_decide_eq_true h
     rw [iM,if_pos h']; exact ⟨rfl,rfl⟩
   · have h':=of_decide_eq_false h
     rw [iM,if_neg h',cn (by omega) (by omega)]; exact ih (by omega)
theorem IC (h:0≤i∧i<(l.length:Int)∧l.length≤maxLen):ah Tryz.prog 100 [.l .stat l,.i i] [] (.x (.i (upM l i.toNat))) []:=by
 obtain ⟨k,rfl⟩:=aA h.1
 rw [ai]
 have hk:k<l.length:=by omega
 have hm:=aC hk h.2.2
 have key:ah Tryz.prog 100 [.l .stat l,.i (k:Int)] [] (.x (.i (upM l k))) []:=by
  refine dg aW Tryz.func100 (.stop zTe1 { n:=24,fr:=[(0,.p (.lst .stat l)),(1,.i k),(4,.i 0),(5,.i (IntKind.wrap .i64 ((k:Int) - 1)))],ck:=[] }) fun Γ=>?_
  rw [cn (by omega) (by omega)]
  exact Mv l k hk h.2.2 Γ k (ar _)
 exact key
def CK:Ent:=(100,fun
 | [.c (.pd (.lst .stat l)),.c (.pd (.int .i64 i))],[]=>some (some (0≤i∧i<(l.length:Int)∧l.length≤maxLen),.x (.c (.pd (.int .i64 (upM l i.toNat)))),[])
 | _,_=>none)
theorem Mf:EntOk Tryz.prog CK:=entOk fun vs ck=>by
 unfold CK; dsimp only; split
 · rename_i l i; exact entS fun hp=>IC l i hp
 · exact entN
def rz:Cfg:=⟨aX,[pG,CK,qQ]⟩
theorem mR:ag Tryz.prog rz.tab:=(ag.cons qu (ag.cons Mf (ag.cons yg ag.nil)))
theorem xp (hl:l.length≤maxLen):ah Tryz.prog 47 [.l .stat l,.i i] [] (.x (.i (bg l i))) []:=by
 refine dg mR Tryz.func47 (.need (l.length≤maxLen) (.ite (!bU l i) (.ret (.i (-1:Int)) []) (.need ((0:Int)≤i∧i<(l.length:Int)∧l.length≤maxLen) (.ret (.i (upM l (Int.toNat i))) [])))) fun Γ=>?_
 refine ⟨hl,fun h=>?_,fun h=>?_⟩
 · have h':bU l i=false:=by simpa using h
   unfold bg; rw [if_neg (by rw [h']; decide)]; exact ⟨rfl,rfl⟩
 · have h':bU l i=true:=by simpa using h
   have:=pI h'
   unfold bg; rw [if_pos h']; exact ⟨⟨this.1,this.2,hl⟩,rfl,rfl⟩
def jB:Ent:=(47,fun
 | [.c (.pd (.lst .stat l)),.c (.pd (.int .i64 i))],[]=>some (some (l.length≤maxLen),.x (.c (.pd (.int .i64 (bg l i)))),[])
 | _,_=>none)
theorem kG:EntOk Tryz.prog jB:=entOk fun vs ck=>by
 unfold jB; dsimp only; split
 · rename_i l i; exact entS fun hp=>xp l i hp
 · exact entN
theorem yf (hl:l.length≤maxLen):ah Tryz.prog 50 [.l .stat l,.i i,.i j] [] (.x (.b (gA l i j))) []:=by
 refine dg mR Tryz.func50 (.need (l.length≤maxLen) (.need (bU l i=true→l.length≤maxLen) (.need ((bU l i&&bU l j&&decide (j>i))=true→(0:Int)≤i∧i<(l.length:Int)∧l.length≤maxLen) (.ret (.p (.bool (bU l i&&bU l j&&decide (j>i)&&decide (j<(↑(endM l (Int.toNat i)):Int))))) [])))) fun Γ=>?_
 refine ⟨hl,fun _=>hl,fun h=>?_,rfl,rfl⟩
 simp only [af] at h
 have:=pI h.1.1
 exact ⟨this.1,this.2,hl⟩
def mG:Ent:=(50,fun
 | [.c (.pd (.lst .stat l)),.c (.pd (.int .i64 i)),.c (.pd (.int .i64 j))],[]=>some (some (l.length≤maxLen),.x (.c (.pd (.bool (gA l i j)))),[])
 | _,_=>none)
theorem sn:EntOk Tryz.prog mG:=entOk fun vs ck=>by
 unfold mG; dsimp only; split
 · rename_i l i j; exact entS fun hp=>yf l i j hp
 · exact entN
abbrev zTe2:List PI:=[.code [1,1,0,1,0,0],.inLoop [1,1,0,1,0,0],.inBlock 0,.code [1,1,1]]
theorem L4 (hl:l.length≤maxLen) (Γ:Ctx):∀ (n:Nat) (k:Int), -1≤k→k<(l.length:Int)→k+1<(n:Int) →
 J Tryz.prog 37 (au Tryz.f37) Γ (Eq2 (.x (.i (gD l j n k))) []) zTe2 ({ n:=43,fr:=[(0,.p (.lst .stat l)),(2,.i j),(6,.i 0),(7,.i k)],ck:=[] }):=by
 intro n
 induction n with
 | zero=>intro k h1 h2 h3; omega
 | succ n ih =>
   intro k h1 h2 h3
   refine jg mR Tryz.func37 (.ite (decide (k≥(0:Int))) (.need ((0:Int)≤k∧k<(l.length:Int)) (.need ((Stat.kind (ETy.get .stat l (Int.toNat k))==(2:Int)&&decide (j>k))=true→(0:Int)≤k∧k<(l.length:Int)∧l.length≤maxLen) (.ite (Stat.kind (ETy.get .stat l (Int.toNat k))==(2:Int)&&decide (j>k)&&decide (j<(↑(endM l (Int.toNat k)):Int))) (.ret (.i k) []) (.need ((0:Int)≤k∧k<(l.length:Int)∧l.length≤maxLen) (.stop zTe2 { n:=43,fr:=[(0,.p (.lst .stat l)),(2,.i j),(6,.i 0),(7,.i (upM l (Int.toNat k)))],ck:=[] }))))) (.ret (.i (-1:Int)) [])) ?_
   refine ⟨fun h=>?_,fun h=>?_⟩
   · have hk:k≥0:=of_decide_eq_true h
     have hup:=kR l (ETy.get .stat l k.toNat).depth k.toNat
     have hup' : -1≤upM l k.toNat∧upM l k.toNat<k:=by
      have:((k.toNat:Nat):Int)=k:=ez hk
      unfold upM; omega
     refine ⟨⟨hk,h2⟩,fun _=>⟨hk,h2,hl⟩,fun hc=>?_,fun hc=>⟨⟨hk,h2,hl⟩,?_⟩⟩
     · rw [gD,if_neg (by omega),if_pos hc]; exact ⟨rfl,rfl⟩
     · rw [gD,if_neg (by omega),if_neg (by rw [hc]; decide)]
       exact ih (upM l k.toNat) hup'.1 (by omega) (by omega)
   · have hk:¬k≥0:=of_decide_eq_false h
     rw [gD,if_pos (by omega)]; exact ⟨rfl,rfl⟩
theorem xz (hl:l.length≤maxLen):ah Tryz.prog 37 [.l .stat l,.i i,.i j] [] (.x (.i (dv l i j))) []:=by
 refine dg mR Tryz.func37 (.need (l.length≤maxLen) (.need ((!bU l i)=false→l.length≤maxLen) (.ite (!bU l i || !bU l j) (.ret (.i (-1:Int)) []) (.stop zTe2 { n:=43,fr:=[(0,.p (.lst .stat l)),(2,.i j),(6,.i 0),(7,.i i)],ck:=[] })))) fun Γ=>?_
 refine ⟨hl,fun _=>hl,fun h=>?_,fun h=>?_⟩
 · have h':(bU l i&&bU l j)=false:=by
    cases h1:bU l i <;> cases h2:bU l j <;> simp_all
   unfold dv; rw [if_neg (by rw [h']; decide)]; exact ⟨rfl,rfl⟩
 · have h':(bU l i&&bU l j)=true:=by
    cases h1:bU l i <;> cases h2:bU l j <;> simp_all
   have hi:=pI (by simp only [af] at h'; exact h'.1)
   unfold dv; rw [if_pos h']
   exact L4 l j hl Γ (l.length+1) i (by omega) hi.2 (by omega)
def mm:Ent:=(37,fun
 | [.c (.pd (.lst .stat l)),.c (.pd (.int .i64 i)),.c (.pd (.int .i64 j))],[]=>some (some (l.length≤maxLen),.x (.c (.pd (.int .i64 (dv l i j)))),[])
 | _,_=>none)
theorem rY:EntOk Tryz.prog mm:=entOk fun vs ck=>by
 unfold mm; dsimp only; split
 · rename_i l i j; exact entS fun hp=>xz l i j hp
 · exact entN
end Go.Proofs.YtgfifkhbfdacjaaGreatDoor
namespace Go.Proofs.YtgfifkhbfdacjaaGreatDoor
open Go Go.Ev
set_option maxRecDepth 100000
variable (l:List Cell) {b:Bool} (d:Deed) (Γ:Ctx)
theorem nt (h:(!b)=true):b=false:=by cases b <;> simp_all
theorem nf (h:(!b)=false):b=true:=by cases b <;> simp_all
/-! ### plain -/
def jR:Bool:=l.any fun c=>c.op==6
def ox:Bool:=dP l && !jR l
def eF:Bool:=bif d.kind==1 then a7 d.name&&ox d.expr else bif d.kind==2||d.kind==3 then gp d.name&&((d.expr.length:Int)==0) else false
def fA (l:List Deed):Bool:=l.all eF&&(decide ((l.length:Int)>0)&&decide ((l.length:Int)≤8))
def iD (v:Var) (x:Val):Bool:=v.kind==x.kind&&(decide (x.a≥v.lo)&&decide (x.a≤v.hi)&&(x.kind != 3||(decide (x.b≥v.lo)&&decide (x.b≤v.hi))))
/-! ### the program's -/
theorem FN (c:Cell):ah Tryz.prog 270 [.e .cell c] [] (.x (.b (c.op==6))) []:=by
 refine dg aW Tryz.func270 (.ret (.p (.bool (c.op==(6:Int)))) []) fun Γ=>⟨rfl,rfl⟩
def vO:Ent:=(270,fun
 | [.agg [.pd (.int .i64 a),.pd (.int .i64 b),.pd (.str d)]],[]=>some (none,.x (.c (.pd (.bool (a==6)))),[])
 | _,_=>none)
theorem G8:EntOk Tryz.prog vO:=entOk fun vs ck=>by
 unfold vO; dsimp only; split
 · rename_i a b d; exact entS fun hp=>FN ⟨a,b,d⟩
 · exact entN
def sZ:Cfg:=⟨aX,[vO]⟩
theorem qP:ag Tryz.prog sZ.tab:=(ag.cons G8 ag.nil)
abbrev zUz1:List PI:=[.code [1,0,1,0,0],.inLoop [1,0,1,0,0],.inBlock 0,.code [1,1]]
theorem I2 (hl:l.length≤maxLen)  : ∀ (n k:Nat),l.length - k≤n→k≤l.length →
 J Tryz.prog 287 (au Tryz.f287) Γ (Eq2 (.x (.i (aE (fun c:Cell=>c.op==6) (l.drop k) k))) []) zUz1 ({ n:=19,fr:=[(0,.p (.lst .cell l)),(1,.x (.c (.fn (.func 270) [] []))),(4,.i 0),(7,.i l.length),(8,.i k)],ck:=[] }):=by
 intro n
 induction n with
 | zero=>?_
 | succ n ih=>?_
 all_goals
  intro k hn hk
  refine jg qP Tryz.func287 (.ite (decide ((k:Int)<(l.length:Int))) (.need (inRg k l.length) (.ite (Cell.op (ETy.get .cell l k)==(6:Int)) (.ret (.i k) []) (.stop zUz1 { n:=19,fr:=[(0,.p (.lst .cell l)),(1,.x (.c (.fn (.func 270) [] []))),(4,.i 0),(7,.i l.length),(8,.i (IntKind.wrap .i64 ((k:Int)+1)))],ck:=[] }))) (.ret (.i (-1:Int)) [])) ?_
  refine ⟨fun hlt=>?_,fun hge=>?_⟩
  · have hk':k<l.length:=by have:=of_decide_eq_true hlt; omega
    rw [bx (t:=.cell) (l:=l) hk']
    refine ⟨by omega,?_⟩
    generalize ETy.get .cell l k=v
    refine ⟨fun hb=>⟨?_,rfl⟩,fun hb=>?_⟩
    · simp only [aE,hb,cond_true]
    · simp only [aE,hb,cond_false]; (rw [aV (aC hk' hl)]; first | (exfalso; omega) | exact ih (k+1) (by omega) (by omega))
  · rw [bL (l:=l) (by have:=of_decide_eq_false hge; omega)]
    exact ⟨rfl,rfl⟩
theorem Jz:ah Tryz.prog 287 [.l .cell (l),SX.c (SC.fn (Fn.func 270) [] [])] [] (.x (.i (aE (fun c:Cell=>c.op==6) l 0))) []:=by
 refine dg qP Tryz.func287 (.stop zUz1 { n:=19,fr:=[(0,.p (.lst .cell l)),(1,.x (.c (.fn (.func 270) [] []))),(4,.i 0),(7,.i l.length),(8,.i 0)],ck:=[] }) fun Γ=>?_
 exact J.len 0 rfl fun hl=>I2 l Γ hl l.length 0 (by omega) (by omega)
def CM:Ent:=(287,fun
 | [.c (.pd (.lst .cell l)),.c (.fn (.func 270) [] [])],[]=>some (none,.x (.c (.pd (.int .i64 (aE (fun c:Cell=>c.op==6) l 0)))),[])
 | _,_=>none)
theorem Lw:EntOk Tryz.prog CM:=entOk fun vs ck=>by
 unfold CM; dsimp only; split
 · rename_i l; exact entS fun hp=>Jz l
 · exact entN
def E8:Cfg:=⟨aX,[CM]⟩
theorem DQ:ag Tryz.prog E8.tab:=(ag.cons Lw ag.nil)
theorem Hp:ah Tryz.prog 269 [.l .cell l,.c (.fn (.func 270) [] [])] [] (.x (.b (jR l))) []:=by
 refine dg DQ Tryz.func269 (.ret (.p (.bool (decide (aE (fun c=>c.op==(6:Int)) l (0:Int)≥0)))) []) fun Γ=>⟨?_,rfl⟩
 rw [iy _ _ _ (by omega)]; rfl
def BQ:Ent:=(269,fun
 | [.c (.pd (.lst .cell l)),.c (.fn (.func 270) [] [])],[]=>some (none,.x (.c (.pd (.bool (jR l)))),[])
 | _,_=>none)
theorem Mn:EntOk Tryz.prog BQ:=entOk fun vs ck=>by
 unfold BQ; dsimp only; split
 · rename_i l; exact entS fun hp=>Hp l
 · exact entN
def xq:Cfg:=⟨aX,[oy,BQ]⟩
theorem AK:ag Tryz.prog xq.tab:=(ag.cons tV (ag.cons Mn ag.nil))
theorem AG:ah Tryz.prog 242 [.l .cell l] [] (.x (.b (ox l))) []:=by
 refine dg AK Tryz.func242 (.ret (.p (.bool (dP l && !jR l))) []) fun Γ=>?_
 exact ⟨rfl,rfl⟩
def o5:Ent:=(242,fun
 | [.c (.pd (.lst .cell l))],[]=>some (none,.x (.c (.pd (.bool (ox l)))),[])
 | _,_=>none)
theorem Dd:EntOk Tryz.prog o5:=entOk fun vs ck=>by
 unfold o5; dsimp only; split
 · rename_i l; exact entS fun hp=>AG l
 · exact entN
def A3:Cfg:=⟨aX,[jI,o5,oA]⟩
theorem B6:ag Tryz.prog A3.tab:=(ag.cons iO (ag.cons Dd (ag.cons vf ag.nil)))
theorem GC:ah Tryz.prog 216 [.e .deed d] [] (.x (.b (eF d))) []:=by
 refine dg B6 Tryz.func216 (.ite (d.kind==(1:Int)) (.ret (.p (.bool (a7 d.name&&ox d.expr))) []) (.ite (d.kind==(2:Int)) (.ret (.p (.bool (gp d.name&&(d.expr.length:Int)==0))) []) (.ite (d.kind==(3:Int)) (.ret (.p (.bool (gp d.name&&(d.expr.length:Int)==0))) []) (.ret (.p (.bool false)) [])))) fun Γ=>?_
 unfold eF
 refine ⟨fun h=>?_,fun h1=>⟨fun h=>?_,fun h2=>⟨fun h=>?_,fun h3=>?_⟩⟩⟩
 · rw [h]; exact ⟨rfl,rfl⟩
 · rw [h1,h]; exact ⟨rfl,rfl⟩
 · rw [h1,h2,h]; exact ⟨rfl,rfl⟩
 · rw [h1,h2,h3]; exact ⟨rfl,rfl⟩
def vP:Ent:=(216,fun
 | [.agg [.pd (.int .i64 a),.pd (.str b),.pd (.lst .cell d)]],[]=>some (none,.x (.c (.pd (.bool (eF ⟨a,b,d⟩)))),[])
 | _,_=>none)
theorem HS:EntOk Tryz.prog vP:=entOk fun vs ck=>by
 unfold vP; dsimp only; split
 · rename_i a b d; exact entS fun hp=>GC ⟨a,b,d⟩
 · exact entN
def ql:Cfg:=⟨aX,[vP]⟩
theorem pR:ag Tryz.prog ql.tab:=(ag.cons HS ag.nil)
theorem LF (l:List Deed) (Γ:Ctx) (hl:l.length≤maxLen)  : ∀ (n k:Nat),l.length - k≤n→k≤l.length →
 J Tryz.prog 176 (au Tryz.f176) Γ (Eq2 (.x (.b ((l.drop k).all eF&&(decide ((l.length:Int)>0)&&decide ((l.length:Int)≤8))))) []) zUz1 ({ n:=23,fr:=[(0,.p (.lst .deed l)),(2,.p (.bool false)),(5,.p (.lst .deed l)),(6,.i l.length),(7,.i k)],ck:=[],kn:=[2] }):=by
 intro n
 induction n with
 | zero=>?_
 | succ n ih=>?_
 all_goals
  intro k hn hk
  refine jg pR Tryz.func176 (.ite (decide ((k:Int)<(l.length:Int))) (.need (inRg k l.length) (.ite (!eF (ETy.get .deed l k)) (.ret (.p (.bool false)) []) (.stop zUz1 { n:=23,fr:=[(0,.p (.lst .deed l)),(2,.p (.bool false)),(5,.p (.lst .deed l)),(6,.i l.length),(7,.i (IntKind.wrap .i64 ((k:Int)+1)))],ck:=[],kn:=[2] }))) (.ret (.p (.bool (decide ((l.length:Int)>0)&&decide ((l.length:Int)≤8)))) [])) ?_
  refine ⟨fun hlt=>?_,fun hge=>?_⟩
  · have hk':k<l.length:=by have:=of_decide_eq_true hlt; omega
    rw [bx (t:=.deed) (l:=l) hk']
    refine ⟨by omega,?_⟩
    generalize ETy.get .deed l k=v
    rw [dy]
    refine ⟨fun hb=>⟨?_,rfl⟩,fun hb=>?_⟩
    · have hb':eF v=false:=nt hb
      rw [hb']; rfl
    · have hb':eF v=true:=nf hb
      rw [hb',aZ]; (rw [aV (aC hk' hl)]; first | (exfalso; omega) | exact ih (k+1) (by omega) (by omega))
  · rw [bL (l:=l) (by have:=of_decide_eq_false hge; omega)]
    exact ⟨rfl,rfl⟩
theorem Mr (l:List Deed):ah Tryz.prog 176 [.l .deed (l)] [] (.x (.b (fA l))) []:=by
 refine dg pR Tryz.func176 (.stop zUz1 { n:=23,fr:=[(0,.p (.lst .deed l)),(2,.p (.bool false)),(5,.p (.lst .deed l)),(6,.i l.length),(7,.i 0)],ck:=[],kn:=[2] }) fun Γ=>?_
 exact J.len 0 rfl fun hl=>LF l Γ hl l.length 0 (by omega) (by omega)
def sk:Ent:=(176,fun
 | [.c (.pd (.lst .deed l))],[]=>some (none,.x (.c (.pd (.bool (fA l)))),[])
 | _,_=>none)
theorem GQ:EntOk Tryz.prog sk:=entOk fun vs ck=>by
 unfold sk; dsimp only; split
 · rename_i l; exact entS fun hp=>Mr l
 · exact entN
end Go.Proofs.YtgfifkhbfdacjaaGreatDoor

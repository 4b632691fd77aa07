/- Contracts: trees of states: tree.Right. Conditions: none. Contracts: trees of states: parents, what is within, domains. Conditions: sizes. Contracts: actions that may be. Conditions: none. -/
import Derived.Test.YtgfifkhbfdacjaaGreatDoorTc
import Derived.Test.YtgfifkhbfdacjaaGreatDoorXb
import Derived.Test.YtgfifkhbfdacjaaGreatDoorVb
namespace Go.Proofs.YtgfifkhbfdacjaaGreatDoor
open Go Go.Ev
set_option maxRecDepth 100000
def mH (s x : Ev.Stat) : Bool := s.kind == 3 && (aM x.kind || x.kind == 4)
def dy (l : List Ev.Stat) (xs : List Int) : Nat := (xs.filter fun y => !aM (ETy.get .stat l y.toNat).kind).length
def fj (l : List Ev.Stat) (s : Ev.Stat) (xs : List Int) : Bool := xs.all fun y => !mH s (ETy.get .stat l y.toNat)
def qL (l : List Ev.Stat) (k : Nat) : Bool :=
 fj l (ETy.get .stat l k) (bb l k) && (bif (ETy.get .stat l k).kind == 2 || (ETy.get .stat l k).kind == 3 then !(dy l (bb l k) == 0) else (bb l k).length == 0)
def du (l : List Ev.Stat) : Nat → Nat → Bool
 | 0, _ => true
 | n + 1, k => qL l k && du l n (k + 1)
def b8 (l : List Ev.Stat) : Bool := ku l && du l l.length 0
theorem FS (l : List Ev.Stat) (pre : List Int) (x : Int) : dy l (pre ++ [x]) = dy l pre + (if aM (ETy.get .stat l x.toNat).kind = true then 0 else 1) := by
 unfold dy
 rw [List.filter_append, List.length_append]
 cases h : aM (ETy.get .stat l x.toNat).kind <;> simp [h]
theorem IV (l : List Ev.Stat) (pre : List Int) : dy l pre ≤ pre.length := List.length_filter_le _ _
theorem DG (l : List Ev.Stat) (s : Ev.Stat) (pre : List Int) (x : Int) : fj l s (pre ++ [x]) = (fj l s pre && !mH s (ETy.get .stat l x.toNat)) := by
 unfold fj; simp
theorem sl (l : List Ev.Stat) (e : Nat) : ∀ n k, (dF l e n k).length ≤ n
 | 0, _ => Nat.le_refl _
 | n + 1, k => by
   rw [dF]; split
   · have := sl l e n (endM l k); simp; omega
   · simp
theorem kb (l : List Ev.Stat) (i : Nat) : (bb l i).length ≤ l.length := sl _ _ _ _
theorem JH (l : List Ev.Stat) (s : Ev.Stat) (hl : l.length ≤ maxLen) (k : Nat) (lp : Nat) (pre : List Int) (y : Int) (Γ : Ctx) (hds : Γ.ds = []) (hy : 0 ≤ y ∧ y < (l.length : Int)) (hg : fj l s pre = true) (hlen : pre.length < l.length) :
 J Tryz.prog ⟨87, some lp⟩ (au Tryz.f87) Γ (fun v ck => (v = .x (.b true) ∧ fj l s (pre ++ [y]) = true ∧ ck = (fun pre => [.cells [.pd (.lst .stat l)] 24, .cells [.pd (.bool false)] 4, .cells [.pd (.str s.name), SC.i s.kind, SC.i s.depth, .pd (.str s.initial), .pd (.lst .deed s.entry), .pd (.lst .deed s.leave)] 56, .cells [SC.i (pre.length : Int)] 3, .cells [SC.i (dy l pre : Int)] 3, .dead, .dead]) (pre ++ [y])) ∨ (v = .x (.b false) ∧ fj l s (pre ++ [y]) = false ∧ ck = (fun pre => [.cells [.pd (.lst .stat l)] 24, .cells [.pd (.bool false)] 4, .cells [.pd (.str s.name), SC.i s.kind, SC.i s.depth, .pd (.str s.initial), .pd (.lst .deed s.entry), .pd (.lst .deed s.leave)] 56, .cells [SC.i (pre.length : Int)] 3, .cells [SC.i (dy l pre : Int)] 3, .dead, .dead]) (pre ++ [y]))) [.code ([1, 1, 0, 1, 0, 0, 1, 1, 0, 0, 1, 1, 0, 1, 0] ++ [1])]
  { n := 62, fr := bw 7 (.x (.i y)) (bw 21 (.x (.i y)) [(1, .x (.c (.loc 0 0))), (2, .x (.c (.loc 1 0))), (11, .x (.l .stat l)), (12, .x (.i (l.length : Int))), (13, .x (.i (k : Int))), (4, .x (.c (.loc 2 0))), (5, .x (.c (.loc 3 0))), (6, .x (.c (.loc 4 0))), (20, .x (.c (.fn (.func 174) [] [.pd (.ref .int (k : Int) 0), .pd (.ref .stats l 0)])))]), ck := [.cells [.pd (.lst .stat l)] 24, .cells [.pd (.bool false)] 4, .cells [.pd (.str s.name), SC.i s.kind, SC.i s.depth, .pd (.str s.initial), .pd (.lst .deed s.entry), .pd (.lst .deed s.leave)] 56, .cells [SC.i (pre.length : Int)] 3, .cells [SC.i (dy l pre : Int)] 3, .dead, .dead], m := ([.cells [.pd (.lst .stat l)] 24, .cells [.pd (.bool false)] 4, .cells [.pd (.str s.name), SC.i s.kind, SC.i s.depth, .pd (.str s.initial), .pd (.lst .deed s.entry), .pd (.lst .deed s.leave)] 56, .cells [SC.i (pre.length : Int)] 3, .cells [SC.i (dy l pre : Int)] 3, .dead, .dead] : List Chunk).length } := by
 obtain ⟨x, rfl⟩ := Int.eq_ofNat_of_zero_le hy.1
 have hx : x < l.length := by omega
 have hm := hl
 have e1 : ((pre ++ [(x : Int)]).length : Int) = IntKind.wrap .i64 ((pre.length : Int) + 1) := by
  rw [aW (aA hlen hl)]; simp
 have e2 : ∀ b, aM (ETy.get .stat l x).kind = b → (dy l (pre ++ [(x : Int)]) : Int) = (if b = true then (dy l pre : Int) else IntKind.wrap .i64 ((dy l pre : Int) + 1)) := fun b hb => by
  rw [aW (aA (Nat.lt_of_le_of_lt (IV l pre) hlen) hl), FS, Int.toNat_natCast, hb]
  cases b <;> simp
 have e3 : fj l s (pre ++ [(x : Int)]) = !mH s (ETy.get .stat l x) := by rw [DG, hg, Int.toNat_natCast]; rfl
 generalize hc : (pre.length : Int) = c at *
 generalize hr : (dy l pre : Int) = r at *
 show J Tryz.prog ⟨87, some lp⟩ (au Tryz.f87) Γ _ [.code [1, 1, 0, 1, 0, 0, 1, 1, 0, 0, 1, 1, 0, 1, 0, 1]] { n := 62, fr := [(1, .x (.c (.loc 0 0))), (2, .x (.c (.loc 1 0))), (11, .x (.l .stat l)), (12, .x (.i (l.length : Int))), (13, .x (.i (k : Int))), (4, .x (.c (.loc 2 0))), (5, .x (.c (.loc 3 0))), (6, .x (.c (.loc 4 0))), (20, .x (.c (.fn (.func 174) [] [.pd (.ref .int (k : Int) 0), .pd (.ref .stats l 0)]))), (21, .x (.i (x : Int))), (7, .x (.i (x : Int)))], ck := [.cells [.pd (.lst .stat l)] 24, .cells [.pd (.bool false)] 4, .cells [.pd (.str s.name), SC.i s.kind, SC.i s.depth, .pd (.str s.initial), .pd (.lst .deed s.entry), .pd (.lst .deed s.leave)] 56, .cells [SC.i c] 3, .cells [SC.i r] 3, .dead, .dead], m := 7 }
 refine J.goR (cfg := rP) mZ (fn := Hn Tryz.f87) (by kernel_rfl) 1000 (t := (.need (inRg x l.length) (.ite (!aM (Stat.kind (ETy.get .stat l x))) (.need ((s.kind == (3 : Int)) = true → (0 : Int) ≤ (x : Int) ∧ (x : Int) < (l.length : Int)) (.need ((s.kind == (3 : Int)) = true ∧ aM (Stat.kind (ETy.get .stat l x)) = false → (0 : Int) ≤ (x : Int) ∧ (x : Int) < (l.length : Int)) (.ite (s.kind == (3 : Int) && (aM (Stat.kind (ETy.get .stat l x)) || Stat.kind (ETy.get .stat l x) == (4 : Int))) (.stop [.code [1, 1, 0, 1, 0, 0, 1, 1, 0, 0, 1, 1, 0, 1, 0, 1, 0, 1, 1, 1, 0, 1], .inBlock 3] { n := 62, fr := [(2, .x (.c (.loc 1 0)))], ck := [.cells [.pd (.lst .stat l)] 24, .cells [.pd (.bool false)] 4, .cells [.pd (.str s.name), .i s.kind, .i s.depth, .pd (.str s.initial), .pd (.lst .deed s.entry), .pd (.lst .deed s.leave)] 56, .cells [.i (IntKind.wrap .i64 (c + (1 : Int)))] 3, .cells [.i (IntKind.wrap .i64 (r + (1 : Int)))] 3, .dead, .dead], m := 7 }) (.stop [] { n := 62, fr := [(2, .x (.c (.loc 1 0)))], ck := [.cells [.pd (.lst .stat l)] 24, .cells [.pd (.bool false)] 4, .cells [.pd (.str s.name), .i s.kind, .i s.depth, .pd (.str s.initial), .pd (.lst .deed s.entry), .pd (.lst .deed s.leave)] 56, .cells [.i (IntKind.wrap .i64 (c + (1 : Int)))] 3, .cells [.i (IntKind.wrap .i64 (r + (1 : Int)))] 3, .dead, .dead], m := 7 })))) (.need ((s.kind == (3 : Int)) = true → (0 : Int) ≤ (x : Int) ∧ (x : Int) < (l.length : Int)) (.need ((s.kind == (3 : Int)) = true ∧ aM (Stat.kind (ETy.get .stat l x)) = false → (0 : Int) ≤ (x : Int) ∧ (x : Int) < (l.length : Int)) (.ite (s.kind == (3 : Int) && (aM (Stat.kind (ETy.get .stat l x)) || Stat.kind (ETy.get .stat l x) == (4 : Int))) (.stop [.code [1, 1, 0, 1, 0, 0, 1, 1, 0, 0, 1, 1, 0, 1, 0, 1, 0, 1, 1, 1, 0, 1], .inBlock 3] { n := 62, fr := [(2, .x (.c (.loc 1 0)))], ck := [.cells [.pd (.lst .stat l)] 24, .cells [.pd (.bool false)] 4, .cells [.pd (.str s.name), .i s.kind, .i s.depth, .pd (.str s.initial), .pd (.lst .deed s.entry), .pd (.lst .deed s.leave)] 56, .cells [.i (IntKind.wrap .i64 (c + (1 : Int)))] 3, .cells [.i r] 3, .dead, .dead], m := 7 }) (.stop [] { n := 62, fr := [(2, .x (.c (.loc 1 0)))], ck := [.cells [.pd (.lst .stat l)] 24, .cells [.pd (.bool false)] 4, .cells [.pd (.str s.name), .i s.kind, .i s.depth, .pd (.str s.initial), .pd (.lst .deed s.entry), .pd (.lst .deed s.leave)] 56, .cells [.i (IntKind.wrap .i64 (c + (1 : Int)))] 3, .cells [.i r] 3, .dead, .dead], m := 7 }))))))) (by kernel_rfl) ?_
 have hb : (0 : Int) ≤ (x : Int) ∧ (x : Int) < (l.length : Int) := ⟨by omega, by omega⟩
 have hck : ∀ b, aM (ETy.get .stat l x).kind = b → (fun pre : List Int => ([.cells [.pd (.lst .stat l)] 24, .cells [.pd (.bool false)] 4, .cells [.pd (.str s.name), SC.i s.kind, SC.i s.depth, .pd (.str s.initial), .pd (.lst .deed s.entry), .pd (.lst .deed s.leave)] 56, .cells [SC.i (pre.length : Int)] 3, .cells [SC.i (dy l pre : Int)] 3, .dead, .dead] : List Chunk)) (pre ++ [(x : Int)]) = [.cells [.pd (.lst .stat l)] 24, .cells [.pd (.bool false)] 4, .cells [.pd (.str s.name), SC.i s.kind, SC.i s.depth, .pd (.str s.initial), .pd (.lst .deed s.entry), .pd (.lst .deed s.leave)] 56, .cells [SC.i (IntKind.wrap .i64 (c + 1))] 3, .cells [SC.i (if b = true then r else IntKind.wrap .i64 (r + 1))] 3, .dead, .dead] := fun b hb => by
  show [_, _, _, Chunk.cells [SC.i ((pre ++ [(x : Int)]).length : Int)] _, Chunk.cells [SC.i (dy l (pre ++ [(x : Int)]) : Int)] _, _, _] = _
  rw [e1, e2 b hb]
 refine ⟨hb, fun h1 => ⟨fun _ => hb, fun _ => hb, fun h2 => ?_, fun h2 => ?_⟩, fun h1 => ⟨fun _ => hb, fun _ => hb, fun h2 => ?_, fun h2 => ?_⟩⟩
 · refine J.roundRet hds (by kernel_rfl) (.inr ⟨rfl, by rw [e3]; exact congrArg not h2, ?_⟩)
   rw [hck false (by simpa using h1)]; rfl
 · refine J.roundEnd hds (.inl ⟨rfl, by rw [e3]; exact congrArg not h2, ?_⟩)
   rw [hck false (by simpa using h1)]; rfl
 · refine J.roundRet hds (by kernel_rfl) (.inr ⟨rfl, by rw [e3]; exact congrArg not h2, ?_⟩)
   rw [hck true (by simpa using h1)]; rfl
 · refine J.roundEnd hds (.inl ⟨rfl, by rw [e3]; exact congrArg not h2, ?_⟩)
   rw [hck true (by simpa using h1)]; rfl
theorem MW (l : List Ev.Stat) (hl : l.length ≤ maxLen) : ∀ (n k : Nat) (Γ : Ctx), l.length - k = n → k ≤ l.length →
 J Tryz.prog 87 (au Tryz.f87) Γ (Eq2 (.x (.b (du l n k))) []) [.code [1, 1, 0, 1, 0, 0], .inLoop [1, 1, 0, 1, 0, 0], .inBlock 0, .code [1, 1, 1]] ({ n := 62, fr := [(1, .x (.c (.loc 0 0))), (2, .x (.c (.loc 1 0))), (11, .p (.lst .stat l)), (12, .i l.length), (13, .i ((k : Int)))], ck := [.cells [.pd (.lst .stat l)] 24, .cells [.pd (.bool false)] 4] }) := by
 intro n
 induction n with
 | zero => ?_
 | succ n ih => ?_
 all_goals
  intro k Γ hn hk
  refine jg mZ Tryz.func87 (.ite (decide ((k : Int) < (l.length : Int))) (.need (inRg k l.length) (.stop [.code [1, 1, 0, 1, 0, 0, 1, 1, 0, 0, 1, 1, 0, 1, 0], .inBlock 2, .code [1, 1, 0, 1, 0, 0, 1, 1, 0, 0, 1, 1, 1], .inBlock 1, .code [1, 1, 0, 1, 0, 0, 1, 1, 1], .inLoop [1, 1, 0, 1, 0, 0], .inBlock 0, .code [1, 1, 1]] { n := 62, fr := [(1, .x (.c (.loc 0 0))), (2, .x (.c (.loc 1 0))), (11, .p (.lst .stat l)), (12, .i l.length), (13, .i k), (4, .x (.c (.loc 2 0))), (5, .x (.c (.loc 3 0))), (6, .x (.c (.loc 4 0))), (20, .x (.c (.fn (.func 174) [] [.loc 6 0, .loc 5 0])))], ck := [.cells [.pd (.lst .stat l)] 24, .cells [.pd (.bool false)] 4, .cells [.pd (.str (Stat.name (ETy.get .stat l k))), .i (Stat.kind (ETy.get .stat l k)), .i (Stat.depth (ETy.get .stat l k)), .pd (.str (Stat.initial (ETy.get .stat l k))), .pd (.lst .deed (Stat.entry (ETy.get .stat l k))), .pd (.lst .deed (Stat.leave (ETy.get .stat l k)))] 56, .cells [.i 0] 3, .cells [.i 0] 3, .cells [.pd (.lst .stat l)] 24, .cells [.i k] 3] })) (.ret (.p (.bool true)) [])) ?_
  refine ⟨fun hlt => ?_, fun hge => ?_⟩
 · have := of_decide_eq_true hlt; omega
 · exact ⟨rfl, rfl⟩
 · have hk' : k < l.length := by omega
   refine ⟨⟨by omega, by omega⟩, ?_⟩
   have hkm := kb l k
   have rest : ∀ (s : Ev.Stat), s = ETy.get .stat l k → J Tryz.prog 87 (au Tryz.f87) Γ (Eq2 (.x (.b (du l (n + 1) k))) []) [.code [1, 1, 0, 1, 0, 0, 1, 1, 0, 0, 1, 1, 0, 1, 0], .inBlock 2, .code [1, 1, 0, 1, 0, 0, 1, 1, 0, 0, 1, 1, 1], .inBlock 1, .code [1, 1, 0, 1, 0, 0, 1, 1, 1], .inLoop [1, 1, 0, 1, 0, 0], .inBlock 0, .code [1, 1, 1]] { n := 62, fr := [(1, .x (.c (.loc 0 0))), (2, .x (.c (.loc 1 0))), (11, .x (.l .stat l)), (12, .x (.i (l.length : Int))), (13, .x (.i (k : Int))), (4, .x (.c (.loc 2 0))), (5, .x (.c (.loc 3 0))), (6, .x (.c (.loc 4 0))), (20, .x (.c (.fn (.func 174) [] [.pd (.ref .int (k : Int) 0), .pd (.ref .stats l 0)])))], ck := [.cells [.pd (.lst .stat l)] 24, .cells [.pd (.bool false)] 4, .cells [.pd (.str s.name), SC.i s.kind, SC.i s.depth, .pd (.str s.initial), .pd (.lst .deed s.entry), .pd (.lst .deed s.leave)] 56, .cells [SC.i 0] 3, .cells [SC.i 0] 3, .dead, .dead] } := by
    intro s hs
    have hbadK : ∀ pre, pre <+: bb l k → fj l s pre = false → du l (n + 1) k = false := fun pre hp hb => by
     obtain ⟨q, hq⟩ := hp
     have : fj l s (bb l k) = false := by
      rw [← hq]; unfold fj at hb ⊢; rw [List.all_append, hb]; rfl
     rw [du, qL, ← hs, this]; rfl
    refine J.range (ok := fun x => 0 ≤ x ∧ x < (l.length : Int)) (xs := bb l k) (g := 20) (s := 21) (d := 7) Tryz.func87 (by kernel_rfl) (by kernel_rfl) (by kernel_rfl) (by kernel_rfl) rfl (Go.Proofs.enters_of Tryz.func174 (by kernel_rfl) rfl) (by kernel_rfl) (uY l k hk' hl)
     (fun pre => fj l s pre = true) (fun pre => fj l s pre = false) rfl (fun pre => [.cells [.pd (.lst .stat l)] 24, .cells [.pd (.bool false)] 4, .cells [.pd (.str s.name), SC.i s.kind, SC.i s.depth, .pd (.str s.initial), .pd (.lst .deed s.entry), .pd (.lst .deed s.leave)] 56, .cells [SC.i (pre.length : Int)] 3, .cells [SC.i (dy l pre : Int)] 3, .dead, .dead]) (fun pre => [.cells [.pd (.lst .stat l)] 24, .cells [.pd (.bool false)] 4, .cells [.pd (.str s.name), SC.i s.kind, SC.i s.depth, .pd (.str s.initial), .pd (.lst .deed s.entry), .pd (.lst .deed s.leave)] 56, .cells [SC.i (pre.length : Int)] 3, .cells [SC.i (dy l pre : Int)] 3, .dead, .dead]) rfl (fun _ => rfl) (fun _ => rfl) (fun _ => rfl) (fun _ => rfl)
     (fun lp pre x Γ hds hx _ hgd hlen => JH l s hl k lp pre x Γ hds hx hgd (Nat.lt_of_lt_of_le hlen hkm)) (fun hgd Γ' => ?_) (fun pre hp hb => ⟨[.c (.pd (.bool false))], by kernel_rfl, ?_, by kernel_rfl⟩)
    · have hgd' : fj l s (bb l k) = true := hgd
      have hok : du l (n + 1) k = ((bif s.kind == 2 || s.kind == 3 then !((dy l (bb l k) : Int) == 0) else !decide (((bb l k).length : Int) > 0)) && du l n (k + 1)) := by
       rw [du, qL, ← hs, hgd', Bool.true_and]
       congr 1
       cases (s.kind == 2 || s.kind == 3)
       · rw [cond_false, cond_false, Bool.eq_iff_iff]; simp
       · rw [cond_true, cond_true, Bool.eq_iff_iff]; simp
      generalize ((bb l k).length : Int) = c at hok
      generalize (dy l (bb l k) : Int) = r at hok
      show J Tryz.prog 87 (au Tryz.f87) Γ' _ _ { n := 62, fr := [(1, .x (.c (.loc 0 0))), (2, .x (.c (.loc 1 0))), (11, .x (.l .stat l)), (12, .x (.i (l.length : Int))), (13, .x (.i (k : Int))), (4, .x (.c (.loc 2 0))), (5, .x (.c (.loc 3 0))), (6, .x (.c (.loc 4 0))), (20, .x (.c (.fn (.func 174) [] [.pd (.ref .int (k : Int) 0), .pd (.ref .stats l 0)])))], ck := [.cells [.pd (.lst .stat l)] 24, .cells [.pd (.bool false)] 4, .cells [.pd (.str s.name), SC.i s.kind, SC.i s.depth, .pd (.str s.initial), .pd (.lst .deed s.entry), .pd (.lst .deed s.leave)] 56, .cells [SC.i c] 3, .cells [SC.i r] 3, .dead, .dead] }
      refine jg mZ Tryz.func87 (.ite (s.kind == (2 : Int)) (.ite (r == (0 : Int)) (.ret (.p (.bool false)) []) (.stop [.code [1, 1, 0, 1, 0, 0], .inLoop [1, 1, 0, 1, 0, 0], .inBlock 0, .code [1, 1, 1]] { n := 62, fr := [(1, .x (.c (.loc 0 0))), (2, .x (.c (.loc 1 0))), (11, .p (.lst .stat l)), (12, .i l.length), (13, .i (IntKind.wrap .i64 ((k : Int) + 1)))], ck := [.cells [.pd (.lst .stat l)] 24, .cells [.pd (.bool false)] 4] })) (.ite (s.kind == (3 : Int)) (.ite (r == (0 : Int)) (.ret (.p (.bool false)) []) (.stop [.code [1, 1, 0, 1, 0, 0], .inLoop [1, 1, 0, 1, 0, 0], .inBlock 0, .code [1, 1, 1]] { n := 62, fr := [(1, .x (.c (.loc 0 0))), (2, .x (.c (.loc 1 0))), (11, .p (.lst .stat l)), (12, .i l.length), (13, .i (IntKind.wrap .i64 ((k : Int) + 1)))], ck := [.cells [.pd (.lst .stat l)] 24, .cells [.pd (.bool false)] 4] })) (.ite (decide (c > (0 : Int))) (.ret (.p (.bool false)) []) (.stop [.code [1, 1, 0, 1, 0, 0], .inLoop [1, 1, 0, 1, 0, 0], .inBlock 0, .code [1, 1, 1]] { n := 62, fr := [(1, .x (.c (.loc 0 0))), (2, .x (.c (.loc 1 0))), (11, .p (.lst .stat l)), (12, .i l.length), (13, .i (IntKind.wrap .i64 ((k : Int) + 1)))], ck := [.cells [.pd (.lst .stat l)] 24, .cells [.pd (.bool false)] 4] })))) ?_
      have hrec := ih (k + 1) Γ' (by omega) (by omega)
      rw [aW (aA hk' hl)]
      refine ⟨fun h2 => ⟨fun h0 => ?_, fun h0 => ?_⟩, fun h2 => ⟨fun h3 => ⟨fun h0 => ?_, fun h0 => ?_⟩, fun h3 => ⟨fun h0 => ?_, fun h0 => ?_⟩⟩⟩
      · have e : du l (n + 1) k = false := by rw [hok, h2, h0]; rfl
        rw [e]; exact ⟨rfl, rfl⟩
      · have e : du l (n + 1) k = du l n (k + 1) := by rw [hok, h2, h0]; rfl
        rw [e]; exact hrec
      · have e : du l (n + 1) k = false := by rw [hok, h2, h3, h0]; rfl
        rw [e]; exact ⟨rfl, rfl⟩
      · have e : du l (n + 1) k = du l n (k + 1) := by rw [hok, h2, h3, h0]; rfl
        rw [e]; exact hrec
      · have e : du l (n + 1) k = false := by rw [hok, h2, h3, h0]; rfl
        rw [e]; exact ⟨rfl, rfl⟩
      · have e : du l (n + 1) k = du l n (k + 1) := by rw [hok, h2, h3, h0]; rfl
        rw [e]; exact hrec
    · show _ = SV.x (.b (du l (n + 1) k))
      rw [hbadK pre hp hb]; kernel_rfl
   exact J.freeze aZ [5, 6] (by kernel_rfl) (rest (ETy.get .stat l k) rfl)
 · have := of_decide_eq_false hge; omega
theorem Ar (l : List Ev.Stat) (hl : l.length ≤ maxLen) : ah Tryz.prog 87 [.l .stat l] [] (.x (.b (b8 l))) [] := by
 refine dg mZ Tryz.func87 (.need (l.length ≤ maxLen) (.ite (!ku l) (.ret (.p (.bool false)) []) (.stop [.code [1, 1, 0, 1, 0, 0], .inLoop [1, 1, 0, 1, 0, 0], .inBlock 0, .code [1, 1, 1]] { n := 62, fr := [(1, .x (.c (.loc 0 0))), (2, .x (.c (.loc 1 0))), (11, .p (.lst .stat l)), (12, .i l.length), (13, .i 0)], ck := [.cells [.pd (.lst .stat l)] 24, .cells [.pd (.bool false)] 4] }))) fun Γ => ?_
 refine ⟨hl, fun h => ?_, fun h => ?_⟩
 · have h' : ku l = false := by simpa using h
   unfold b8; rw [h']; exact ⟨rfl, rfl⟩
 · have h' : ku l = true := by simpa using h
   unfold b8; rw [h', Bool.true_and]
   exact MW l hl l.length 0 Γ (by omega) (by omega)
def mL : Ent := (87, fun
 | [.c (.pd (.lst .stat l))], [] => some (some (l.length ≤ maxLen), .x (.c (.pd (.bool (b8 l)))), [])
 | _, _ => none)
theorem sX : EntOk Tryz.prog mL := entOk fun vs ck => by
 unfold mL; dsimp only; split
 · rename_i l; exact entS fun hp => Ar l hp
 · exact entN
variable (l:List Ev.Stat) (i j:Int)
def bV:Bool:=decide (0≤i)&&decide (i<(l.length:Int))&&b8 l
def iK (l:List Ev.Stat) (d:Int):Nat→Int
 | 0=>-1
 | k+1=>if (ETy.get .stat l k).depth<d then (k:Int) else iK l d k
def upM (i:Nat):Int:=iK l (ETy.get .stat l i).depth i
def bk:Int:=if bV l i=true then upM l i.toNat else -1
def gB:Bool:=bV l i&&bV l j&&decide (j>i)&&decide (j<((endM l i.toNat:Nat):Int))
def gH (l:List Ev.Stat) (j:Int):Nat→Int→Int
 | 0,_=>-1
 | n+1,k=>if k<0 then -1 else if ((ETy.get .stat l k.toNat).kind==2&&decide (j>k)&&decide (j<((endM l k.toNat:Nat):Int)))=true then k else gH l j n (upM l k.toNat)
def di:Int:=if (bV l i&&bV l j)=true then gH l j (l.length+1) i else -1
theorem kS (l:List Ev.Stat) (d:Int):∀ k:Nat, -1≤iK l d k∧iK l d k<(k:Int)
 | 0=>by rw [iK]; omega
 | k+1=>by
   have:=kS l d k
   rw [iK]; split <;> omega
theorem pE {l:List Ev.Stat} {i:Int} (h:bV l i=true):0≤i∧i<(l.length:Int):=by
 unfold bV at h
 simp only [af,decide_eq_true_eq] at h
 exact h.1
theorem J9 (h:0≤i∧i<(l.length:Int)∧l.length≤maxLen):ah Tryz.prog 101 [.l .stat l,.i i] [] (.x (.i (endM l i.toNat:Nat))) []:=by
 obtain ⟨k,rfl⟩:=aB h.1
 rw [ai]
 exact uU l k (by omega) h.2.2
def s6:Ent:=(101,fun
 | [.c (.pd (.lst .stat l)),.c (.pd (.int .i64 i))],[]=>some (some (0≤i∧i<(l.length:Int)∧l.length≤maxLen),.x (.c (.pd (.int .i64 (endM l i.toNat:Nat)))),[])
 | _,_=>none)
theorem yo:EntOk Tryz.prog s6:=entOk fun vs ck=>by
 unfold s6; dsimp only; split
 · rename_i l i; exact entS fun hp=>J9 l i hp
 · exact entN
def K0:Cfg:=⟨aZ,[mL]⟩
theorem Il:ag Tryz.prog K0.tab:=(ag.cons sX ag.nil)
theorem GL (hl:l.length≤maxLen):ah Tryz.prog 99 [.l .stat l,.i i] [] (.x (.b (bV l i))) []:=by
 refine dg Il Tryz.func99 (.need ((decide (i≥(0:Int))&&decide (i<(l.length:Int)))=true→l.length≤maxLen) (.ret (.p (.bool (decide (i≥(0:Int))&&decide (i<(l.length:Int))&&b8 l))) [])) fun Γ=>?_
 exact ⟨fun _=>hl,rfl,rfl⟩
def pr:Ent:=(99,fun
 | [.c (.pd (.lst .stat l)),.c (.pd (.int .i64 i))],[]=>some (some (l.length≤maxLen),.x (.c (.pd (.bool (bV l i)))),[])
 | _,_=>none)
theorem qE:EntOk Tryz.prog pr:=entOk fun vs ck=>by
 unfold pr; dsimp only; split
 · rename_i l i; exact entS fun hp=>GL l i hp
 · exact entN
abbrev zTe1:List PI:=[.code [1,0,1,0,0],.inLoop [1,0,1,0,0],.inBlock 0,.code [1,1]]
theorem LI (i:Nat) (hi:i<l.length) (hl:l.length≤maxLen) (Γ:Ctx):∀ j:Nat,j≤i →
 J Tryz.prog 100 (au Tryz.f100) Γ (Eq2 (.x (.i (iK l (ETy.get .stat l i).depth j))) []) zTe1 ({ n:=24,fr:=[(0,.p (.lst .stat l)),(1,.i i),(4,.i 0),(5,.i (((j:Int) - 1)))],ck:=[] }):=by
 have hm:=aA hi hl
 intro j
 induction j with
 | zero=>?_
 | succ j ih=>?_
 all_goals intro hj
 · refine jg a6 Tryz.func100 (.ite false (.need ((0:Int)≤(↑(0:Nat):Int) - 1∧(↑(0:Nat):Int) - 1<(l.length:Int)) (.need (inRg i l.length) (.ite (decide (Stat.depth (ETy.get .stat l 0)<Stat.depth (ETy.get .stat l i))) (.ret (.i ((↑(0:Nat):Int) - 1)) []) (.stop zTe1 { n:=24,fr:=[(0,.p (.lst .stat l)),(1,.i i),(4,.i 0),(5,.i (IntKind.wrap .i64 ((↑(0:Nat):Int) - 1 - (1:Int))))],ck:=[] })))) (.ret (.i (-1:Int)) [])) ?_
   exact ⟨fun h=>Bool.noConfusion h,fun _=>⟨rfl,rfl⟩⟩
 · refine jg a6 Tryz.func100 (.ite (decide ((↑(j+1):Int) - 1≥(0:Int))) (.need ((0:Int)≤(↑(j+1):Int) - 1∧(↑(j+1):Int) - 1<(l.length:Int)) (.need (inRg i l.length) (.ite (decide (Stat.depth (ETy.get .stat l (((↑(j+1):Int) - 1).toNat))<Stat.depth (ETy.get .stat l i))) (.ret (.i ((↑(j+1):Int) - 1)) []) (.stop zTe1 { n:=24,fr:=[(0,.p (.lst .stat l)),(1,.i i),(4,.i 0),(5,.i (IntKind.wrap .i64 ((↑(j+1):Int) - 1 - (1:Int))))],ck:=[] })))) (.ret (.i (-1:Int)) [])) ?_
   have e:((j+1:Nat):Int) - 1=(j:Int):=by omega
   rw [e,ai]
   refine ⟨fun _=>⟨⟨by omega,by omega⟩,⟨by omega,by omega⟩,fun h=>?_,fun h=>?_⟩,fun h=>absurd (of_decide_eq_false h) (by omega)⟩
   · have h':=of_decide_eq_true h
     rw [iK,if_pos h']; exact ⟨rfl,rfl⟩
   · have h':=of_decide_eq_false h
     rw [iK,if_neg h',cg (by omega) (by omega)]; exact ih (by omega)
theorem HK (h:0≤i∧i<(l.length:Int)∧l.length≤maxLen):ah Tryz.prog 100 [.l .stat l,.i i] [] (.x (.i (upM l i.toNat))) []:=by
 obtain ⟨k,rfl⟩:=aB h.1
 rw [ai]
 have hk:k<l.length:=by omega
 have hm:=aA hk h.2.2
 have key:ah Tryz.prog 100 [.l .stat l,.i (k:Int)] [] (.x (.i (upM l k))) []:=by
  refine dg a6 Tryz.func100 (.stop zTe1 { n:=24,fr:=[(0,.p (.lst .stat l)),(1,.i k),(4,.i 0),(5,.i (IntKind.wrap .i64 ((k:Int) - 1)))],ck:=[] }) fun Γ=>?_
  rw [cg (by omega) (by omega)]
  exact LI l k hk h.2.2 Γ k (ar _)
 exact key
def CU:Ent:=(100,fun
 | [.c (.pd (.lst .stat l)),.c (.pd (.int .i64 i))],[]=>some (some (0≤i∧i<(l.length:Int)∧l.length≤maxLen),.x (.c (.pd (.int .i64 (upM l i.toNat)))),[])
 | _,_=>none)
theorem LS:EntOk Tryz.prog CU:=entOk fun vs ck=>by
 unfold CU; dsimp only; split
 · rename_i l i; exact entS fun hp=>HK l i hp
 · exact entN
def sY:Cfg:=⟨aZ,[pr,CU,s6]⟩
theorem mY:ag Tryz.prog sY.tab:=(ag.cons qE (ag.cons LS (ag.cons yo ag.nil)))
theorem xH (hl:l.length≤maxLen):ah Tryz.prog 47 [.l .stat l,.i i] [] (.x (.i (bk l i))) []:=by
 refine dg mY Tryz.func47 (.need (l.length≤maxLen) (.ite (!bV l i) (.ret (.i (-1:Int)) []) (.need ((0:Int)≤i∧i<(l.length:Int)∧l.length≤maxLen) (.ret (.i (upM l (Int.toNat i))) [])))) fun Γ=>?_
 refine ⟨hl,fun h=>?_,fun h=>?_⟩
 · have h':bV l i=false:=by simpa using h
   unfold bk; rw [if_neg (by rw [h']; decide)]; exact ⟨rfl,rfl⟩
 · have h':bV l i=true:=by simpa using h
   have:=pE h'
   unfold bk; rw [if_pos h']; exact ⟨⟨this.1,this.2,hl⟩,rfl,rfl⟩
def jB:Ent:=(47,fun
 | [.c (.pd (.lst .stat l)),.c (.pd (.int .i64 i))],[]=>some (some (l.length≤maxLen),.x (.c (.pd (.int .i64 (bk l i)))),[])
 | _,_=>none)
theorem kL:EntOk Tryz.prog jB:=entOk fun vs ck=>by
 unfold jB; dsimp only; split
 · rename_i l i; exact entS fun hp=>xH l i hp
 · exact entN
theorem xW (hl:l.length≤maxLen):ah Tryz.prog 50 [.l .stat l,.i i,.i j] [] (.x (.b (gB l i j))) []:=by
 refine dg mY Tryz.func50 (.need (l.length≤maxLen) (.need (bV l i=true→l.length≤maxLen) (.need ((bV l i&&bV l j&&decide (j>i))=true→(0:Int)≤i∧i<(l.length:Int)∧l.length≤maxLen) (.ret (.p (.bool (bV l i&&bV l j&&decide (j>i)&&decide (j<(↑(endM l (Int.toNat i)):Int))))) [])))) fun Γ=>?_
 refine ⟨hl,fun _=>hl,fun h=>?_,rfl,rfl⟩
 simp only [af] at h
 have:=pE h.1.1
 exact ⟨this.1,this.2,hl⟩
def mz:Ent:=(50,fun
 | [.c (.pd (.lst .stat l)),.c (.pd (.int .i64 i)),.c (.pd (.int .i64 j))],[]=>some (some (l.length≤maxLen),.x (.c (.pd (.bool (gB l i j)))),[])
 | _,_=>none)
theorem sT:EntOk Tryz.prog mz:=entOk fun vs ck=>by
 unfold mz; dsimp only; split
 · rename_i l i j; exact entS fun hp=>xW l i j hp
 · exact entN
abbrev zTe2:List PI:=[.code [1,1,0,1,0,0],.inLoop [1,1,0,1,0,0],.inBlock 0,.code [1,1,1]]
theorem Ng (hl:l.length≤maxLen) (Γ:Ctx):∀ (n:Nat) (k:Int), -1≤k→k<(l.length:Int)→k+1<(n:Int) →
 J Tryz.prog 37 (au Tryz.f37) Γ (Eq2 (.x (.i (gH l j n k))) []) zTe2 ({ n:=43,fr:=[(0,.p (.lst .stat l)),(2,.i j),(6,.i 0),(7,.i k)],ck:=[] }):=by
 intro n
 induction n with
 | zero=>intro k h1 h2 h3; omega
 | succ n ih =>
   intro k h1 h2 h3
   refine jg mY Tryz.func37 (.ite (decide (k≥(0:Int))) (.need ((0:Int)≤k∧k<(l.length:Int)) (.need ((Stat.kind (ETy.get .stat l (Int.toNat k))==(2:Int)&&decide (j>k))=true→(0:Int)≤k∧k<(l.length:Int)∧l.length≤maxLen) (.ite (Stat.kind (ETy.get .stat l (Int.toNat k))==(2:Int)&&decide (j>k)&&decide (j<(↑(endM l (Int.toNat k)):Int))) (.ret (.i k) []) (.need ((0:Int)≤k∧k<(l.length:Int)∧l.length≤maxLen) (.stop zTe2 { n:=43,fr:=[(0,.p (.lst .stat l)),(2,.i j),(6,.i 0),(7,.i (upM l (Int.toNat k)))],ck:=[] }))))) (.ret (.i (-1:Int)) [])) ?_
   refine ⟨fun h=>?_,fun h=>?_⟩
   · have hk:k≥0:=of_decide_eq_true h
     have hup:=kS l (ETy.get .stat l k.toNat).depth k.toNat
     have hup' : -1≤upM l k.toNat∧upM l k.toNat<k:=by
      have:((k.toNat:Nat):Int)=k:=eJ hk
      unfold upM; omega
     refine ⟨⟨hk,h2⟩,fun _=>⟨hk,h2,hl⟩,fun hc=>?_,fun hc=>⟨⟨hk,h2,hl⟩,?_⟩⟩
     · rw [gH,if_neg (by omega),if_pos hc]; exact ⟨rfl,rfl⟩
     · rw [gH,if_neg (by omega),if_neg (by rw [hc]; decide)]
       exact ih (upM l k.toNat) hup'.1 (by omega) (by omega)
   · have hk:¬k≥0:=of_decide_eq_false h
     rw [gH,if_pos (by omega)]; exact ⟨rfl,rfl⟩
theorem yx (hl:l.length≤maxLen):ah Tryz.prog 37 [.l .stat l,.i i,.i j] [] (.x (.i (di l i j))) []:=by
 refine dg mY Tryz.func37 (.need (l.length≤maxLen) (.need ((!bV l i)=false→l.length≤maxLen) (.ite (!bV l i || !bV l j) (.ret (.i (-1:Int)) []) (.stop zTe2 { n:=43,fr:=[(0,.p (.lst .stat l)),(2,.i j),(6,.i 0),(7,.i i)],ck:=[] })))) fun Γ=>?_
 refine ⟨hl,fun _=>hl,fun h=>?_,fun h=>?_⟩
 · have h':(bV l i&&bV l j)=false:=by
    cases h1:bV l i <;> cases h2:bV l j <;> simp_all
   unfold di; rw [if_neg (by rw [h']; decide)]; exact ⟨rfl,rfl⟩
 · have h':(bV l i&&bV l j)=true:=by
    cases h1:bV l i <;> cases h2:bV l j <;> simp_all
   have hi:=pE (by simp only [af] at h'; exact h'.1)
   unfold di; rw [if_pos h']
   exact Ng l j hl Γ (l.length+1) i (by omega) hi.2 (by omega)
def mQ:Ent:=(37,fun
 | [.c (.pd (.lst .stat l)),.c (.pd (.int .i64 i)),.c (.pd (.int .i64 j))],[]=>some (some (l.length≤maxLen),.x (.c (.pd (.int .i64 (di l i j)))),[])
 | _,_=>none)
theorem ra:EntOk Tryz.prog mQ:=entOk fun vs ck=>by
 unfold mQ; dsimp only; split
 · rename_i l i j; exact entS fun hp=>yx l i j hp
 · exact entN
end Go.Proofs.YtgfifkhbfdacjaaGreatDoor
namespace Go.Proofs.YtgfifkhbfdacjaaGreatDoor
open Go Go.Ev
set_option maxRecDepth 100000
variable (l:List Cell) {b:Bool} (d:Deed) (Γ:Ctx)
theorem nt (h:(!b)=true):b=false:=by cases b <;> simp_all
theorem nf (h:(!b)=false):b=true:=by cases b <;> simp_all
/-! ### plain -/
def jM:Bool:=l.any fun c=>c.op==6
def oI:Bool:=dQ l && !jM l
def eR:Bool:=bif d.kind==1 then bf d.name&&oI d.expr else bif d.kind==2||d.kind==3 then gr d.name&&((d.expr.length:Int)==0) else false
def fE (l:List Deed):Bool:=l.all eR&&(decide ((l.length:Int)>0)&&decide ((l.length:Int)≤8))
def iJ (v:Var) (x:Val):Bool:=v.kind==x.kind&&(decide (x.a≥v.lo)&&decide (x.a≤v.hi)&&(x.kind != 3||(decide (x.b≥v.lo)&&decide (x.b≤v.hi))))
/-! ### the program's -/
theorem Fk (c:Cell):ah Tryz.prog 270 [.e .cell c] [] (.x (.b (c.op==6))) []:=by
 refine dg a6 Tryz.func270 (.ret (.p (.bool (c.op==(6:Int)))) []) fun Γ=>⟨rfl,rfl⟩
def vP:Ent:=(270,fun
 | [.agg [.pd (.int .i64 a),.pd (.int .i64 b),.pd (.str d)]],[]=>some (none,.x (.c (.pd (.bool (a==6)))),[])
 | _,_=>none)
theorem Jc:EntOk Tryz.prog vP:=entOk fun vs ck=>by
 unfold vP; dsimp only; split
 · rename_i a b d; exact entS fun hp=>Fk ⟨a,b,d⟩
 · exact entN
def tB:Cfg:=⟨aZ,[vP]⟩
theorem rN:ag Tryz.prog tB.tab:=(ag.cons Jc ag.nil)
abbrev zUz1:List PI:=[.code [1,0,1,0,0],.inLoop [1,0,1,0,0],.inBlock 0,.code [1,1]]
theorem Ib (hl:l.length≤maxLen)  : ∀ (n k:Nat),l.length - k≤n→k≤l.length →
 J Tryz.prog 287 (au Tryz.f287) Γ (Eq2 (.x (.i (aE (fun c:Cell=>c.op==6) (l.drop k) k))) []) zUz1 ({ n:=19,fr:=[(0,.p (.lst .cell l)),(1,.x (.c (.fn (.func 270) [] []))),(4,.i 0),(7,.i l.length),(8,.i k)],ck:=[] }):=by
 intro n
 induction n with
 | zero=>?_
 | succ n ih=>?_
 all_goals
  intro k hn hk
  refine jg rN Tryz.func287 (.ite (decide ((k:Int)<(l.length:Int))) (.need (inRg k l.length) (.ite (Cell.op (ETy.get .cell l k)==(6:Int)) (.ret (.i k) []) (.stop zUz1 { n:=19,fr:=[(0,.p (.lst .cell l)),(1,.x (.c (.fn (.func 270) [] []))),(4,.i 0),(7,.i l.length),(8,.i (IntKind.wrap .i64 ((k:Int)+1)))],ck:=[] }))) (.ret (.i (-1:Int)) [])) ?_
  refine ⟨fun hlt=>?_,fun hge=>?_⟩
  · have hk':k<l.length:=by have:=of_decide_eq_true hlt; omega
    rw [bz (t:=.cell) (l:=l) hk']
    refine ⟨by omega,?_⟩
    generalize ETy.get .cell l k=v
    refine ⟨fun hb=>⟨?_,rfl⟩,fun hb=>?_⟩
    · simp only [aE,hb,cond_true]
    · simp only [aE,hb,cond_false]; (rw [aW (aA hk' hl)]; first | (exfalso; omega) | exact ih (k+1) (by omega) (by omega))
  · rw [bN (l:=l) (by have:=of_decide_eq_false hge; omega)]
    exact ⟨rfl,rfl⟩
theorem IB:ah Tryz.prog 287 [.l .cell (l),SX.c (SC.fn (Fn.func 270) [] [])] [] (.x (.i (aE (fun c:Cell=>c.op==6) l 0))) []:=by
 refine dg rN Tryz.func287 (.stop zUz1 { n:=19,fr:=[(0,.p (.lst .cell l)),(1,.x (.c (.fn (.func 270) [] []))),(4,.i 0),(7,.i l.length),(8,.i 0)],ck:=[] }) fun Γ=>?_
 exact J.len 0 rfl fun hl=>Ib l Γ hl l.length 0 (by omega) (by omega)
def Dg:Ent:=(287,fun
 | [.c (.pd (.lst .cell l)),.c (.fn (.func 270) [] [])],[]=>some (none,.x (.c (.pd (.int .i64 (aE (fun c:Cell=>c.op==6) l 0)))),[])
 | _,_=>none)
theorem MF:EntOk Tryz.prog Dg:=entOk fun vs ck=>by
 unfold Dg; dsimp only; split
 · rename_i l; exact entS fun hp=>IB l
 · exact entN
def Ey:Cfg:=⟨aZ,[Dg]⟩
theorem Em:ag Tryz.prog Ey.tab:=(ag.cons MF ag.nil)
theorem Kw:ah Tryz.prog 269 [.l .cell l,.c (.fn (.func 270) [] [])] [] (.x (.b (jM l))) []:=by
 refine dg Em Tryz.func269 (.ret (.p (.bool (decide (aE (fun c=>c.op==(6:Int)) l (0:Int)≥0)))) []) fun Γ=>⟨?_,rfl⟩
 rw [iA _ _ _ (by omega)]; rfl
def B5:Ent:=(269,fun
 | [.c (.pd (.lst .cell l)),.c (.fn (.func 270) [] [])],[]=>some (none,.x (.c (.pd (.bool (jM l)))),[])
 | _,_=>none)
theorem Nj:EntOk Tryz.prog B5:=entOk fun vs ck=>by
 unfold B5; dsimp only; split
 · rename_i l; exact entS fun hp=>Kw l
 · exact entN
def yb:Cfg:=⟨aZ,[pg,B5]⟩
theorem Ac:ag Tryz.prog yb.tab:=(ag.cons u9 (ag.cons Nj ag.nil))
theorem AR:ah Tryz.prog 242 [.l .cell l] [] (.x (.b (oI l))) []:=by
 refine dg Ac Tryz.func242 (.ret (.p (.bool (dQ l && !jM l))) []) fun Γ=>?_
 exact ⟨rfl,rfl⟩
def pz:Ent:=(242,fun
 | [.c (.pd (.lst .cell l))],[]=>some (none,.x (.c (.pd (.bool (oI l)))),[])
 | _,_=>none)
theorem D0:EntOk Tryz.prog pz:=entOk fun vs ck=>by
 unfold pz; dsimp only; split
 · rename_i l; exact entS fun hp=>AR l
 · exact entN
def Bu:Cfg:=⟨aZ,[jQ,pz,oq]⟩
theorem Dj:ag Tryz.prog Bu.tab:=(ag.cons iL (ag.cons D0 (ag.cons uP ag.nil)))
theorem GE:ah Tryz.prog 216 [.e .deed d] [] (.x (.b (eR d))) []:=by
 refine dg Dj Tryz.func216 (.ite (d.kind==(1:Int)) (.ret (.p (.bool (bf d.name&&oI d.expr))) []) (.ite (d.kind==(2:Int)) (.ret (.p (.bool (gr d.name&&(d.expr.length:Int)==0))) []) (.ite (d.kind==(3:Int)) (.ret (.p (.bool (gr d.name&&(d.expr.length:Int)==0))) []) (.ret (.p (.bool false)) [])))) fun Γ=>?_
 unfold eR
 refine ⟨fun h=>?_,fun h1=>⟨fun h=>?_,fun h2=>⟨fun h=>?_,fun h3=>?_⟩⟩⟩
 · rw [h]; exact ⟨rfl,rfl⟩
 · rw [h1,h]; exact ⟨rfl,rfl⟩
 · rw [h1,h2,h]; exact ⟨rfl,rfl⟩
 · rw [h1,h2,h3]; exact ⟨rfl,rfl⟩
def wb:Ent:=(216,fun
 | [.agg [.pd (.int .i64 a),.pd (.str b),.pd (.lst .cell d)]],[]=>some (none,.x (.c (.pd (.bool (eR ⟨a,b,d⟩)))),[])
 | _,_=>none)
theorem JP:EntOk Tryz.prog wb:=entOk fun vs ck=>by
 unfold wb; dsimp only; split
 · rename_i a b d; exact entS fun hp=>GE ⟨a,b,d⟩
 · exact entN
def qM:Cfg:=⟨aZ,[wb]⟩
theorem qo:ag Tryz.prog qM.tab:=(ag.cons JP ag.nil)
theorem Mj (l:List Deed) (Γ:Ctx) (hl:l.length≤maxLen)  : ∀ (n k:Nat),l.length - k≤n→k≤l.length →
 J Tryz.prog 176 (au Tryz.f176) Γ (Eq2 (.x (.b ((l.drop k).all eR&&(decide ((l.length:Int)>0)&&decide ((l.length:Int)≤8))))) []) zUz1 ({ n:=23,fr:=[(0,.p (.lst .deed l)),(2,.p (.bool false)),(5,.p (.lst .deed l)),(6,.i l.length),(7,.i k)],ck:=[],kn:=[2] }):=by
 intro n
 induction n with
 | zero=>?_
 | succ n ih=>?_
 all_goals
  intro k hn hk
  refine jg qo Tryz.func176 (.ite (decide ((k:Int)<(l.length:Int))) (.need (inRg k l.length) (.ite (!eR (ETy.get .deed l k)) (.ret (.p (.bool false)) []) (.stop zUz1 { n:=23,fr:=[(0,.p (.lst .deed l)),(2,.p (.bool false)),(5,.p (.lst .deed l)),(6,.i l.length),(7,.i (IntKind.wrap .i64 ((k:Int)+1)))],ck:=[],kn:=[2] }))) (.ret (.p (.bool (decide ((l.length:Int)>0)&&decide ((l.length:Int)≤8)))) [])) ?_
  refine ⟨fun hlt=>?_,fun hge=>?_⟩
  · have hk':k<l.length:=by have:=of_decide_eq_true hlt; omega
    rw [bz (t:=.deed) (l:=l) hk']
    refine ⟨by omega,?_⟩
    generalize ETy.get .deed l k=v
    rw [dE]
    refine ⟨fun hb=>⟨?_,rfl⟩,fun hb=>?_⟩
    · have hb':eR v=false:=nt hb
      rw [hb']; rfl
    · have hb':eR v=true:=nf hb
      rw [hb',aU]; (rw [aW (aA hk' hl)]; first | (exfalso; omega) | exact ih (k+1) (by omega) (by omega))
  · rw [bN (l:=l) (by have:=of_decide_eq_false hge; omega)]
    exact ⟨rfl,rfl⟩
theorem MN (l:List Deed):ah Tryz.prog 176 [.l .deed (l)] [] (.x (.b (fE l))) []:=by
 refine dg qo Tryz.func176 (.stop zUz1 { n:=23,fr:=[(0,.p (.lst .deed l)),(2,.p (.bool false)),(5,.p (.lst .deed l)),(6,.i l.length),(7,.i 0)],ck:=[],kn:=[2] }) fun Γ=>?_
 exact J.len 0 rfl fun hl=>Mj l Γ hl l.length 0 (by omega) (by omega)
def sI:Ent:=(176,fun
 | [.c (.pd (.lst .deed l))],[]=>some (none,.x (.c (.pd (.bool (fE l)))),[])
 | _,_=>none)
theorem D8:EntOk Tryz.prog sI:=entOk fun vs ck=>by
 unfold sI; dsimp only; split
 · rename_i l; exact entS fun hp=>MN l
 · exact entN
end Go.Proofs.YtgfifkhbfdacjaaGreatDoor

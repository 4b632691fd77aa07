/- Contracts: trees of states: tree.Right. Conditions: none. Contracts: trees of states: parents, what is within, domains. Conditions: sizes. Contracts: actions that may be. Conditions: none. -/
import Derived.Test.YtgfifkhbfdacjaaGreatDoorTc
import Derived.Test.YtgfifkhbfdacjaaGreatDoorXb
import Derived.Test.YtgfifkhbfdacjaaGreatDoorVb
namespace Go.Proofs.YtgfifkhbfdacjaaGreatDoor
open Go Go.Ev
set_option maxRecDepth 100000
def mr (s x : Ev.Stat) : Bool := s.kind == 3 && (aM x.kind || x.kind == 4)
def du (l : List Ev.Stat) (xs : List Int) : Nat := (xs.filter fun y => !aM (ETy.get .stat l y.toNat).kind).length
def e9 (l : List Ev.Stat) (s : Ev.Stat) (xs : List Int) : Bool := xs.all fun y => !mr s (ETy.get .stat l y.toNat)
def qt (l : List Ev.Stat) (k : Nat) : Bool :=
 e9 l (ETy.get .stat l k) (bg l k) && (bif (ETy.get .stat l k).kind == 2 || (ETy.get .stat l k).kind == 3 then !(du l (bg l k) == 0) else (bg l k).length == 0)
def dm (l : List Ev.Stat) : Nat → Nat → Bool
 | 0, _ => true
 | n + 1, k => qt l k && dm l n (k + 1)
def b6 (l : List Ev.Stat) : Bool := jZ l && dm l l.length 0
theorem Fq (l : List Ev.Stat) (pre : List Int) (x : Int) : du l (pre ++ [x]) = du l pre + (if aM (ETy.get .stat l x.toNat).kind = true then 0 else 1) := by
 unfold du
 rw [List.filter_append, List.length_append]
 cases h : aM (ETy.get .stat l x.toNat).kind <;> simp [h]
theorem IP (l : List Ev.Stat) (pre : List Int) : du l pre ≤ pre.length := List.length_filter_le _ _
theorem DI (l : List Ev.Stat) (s : Ev.Stat) (pre : List Int) (x : Int) : e9 l s (pre ++ [x]) = (e9 l s pre && !mr s (ETy.get .stat l x.toNat)) := by
 unfold e9; simp
theorem rW (l : List Ev.Stat) (e : Nat) : ∀ n k, (dB l e n k).length ≤ n
 | 0, _ => Nat.le_refl _
 | n + 1, k => by
   rw [dB]; split
   · have := rW l e n (endM l k); simp; omega
   · simp
theorem j8 (l : List Ev.Stat) (i : Nat) : (bg l i).length ≤ l.length := rW _ _ _ _
theorem Jm (l : List Ev.Stat) (s : Ev.Stat) (hl : l.length ≤ maxLen) (k : Nat) (lp : Nat) (pre : List Int) (y : Int) (Γ : Ctx) (hds : Γ.ds = []) (hy : 0 ≤ y ∧ y < (l.length : Int)) (hg : e9 l s pre = true) (hlen : pre.length < l.length) :
 J Tryz.prog ⟨87, some lp⟩ (av Tryz.f87) Γ (fun v ck => (v = .x (.b true) ∧ e9 l s (pre ++ [y]) = true ∧ ck = (fun pre => [.cells [.pd (.lst .stat l)] 24, .cells [.pd (.bool false)] 4, .cells [.pd (.str s.name), SC.i s.kind, SC.i s.depth, .pd (.str s.initial), .pd (.lst .deed s.entry), .pd (.lst .deed s.leave)] 56, .cells [SC.i (pre.length : Int)] 3, .cells [SC.i (du l pre : Int)] 3, .dead, .dead]) (pre ++ [y])) ∨ (v = .x (.b false) ∧ e9 l s (pre ++ [y]) = false ∧ ck = (fun pre => [.cells [.pd (.lst .stat l)] 24, .cells [.pd (.bool false)] 4, .cells [.pd (.str s.name), SC.i s.kind, SC.i s.depth, .pd (.str s.initial), .pd (.lst .deed s.entry), .pd (.lst .deed s.leave)] 56, .cells [SC.i (pre.length : Int)] 3, .cells [SC.i (du l pre : Int)] 3, .dead, .dead]) (pre ++ [y]))) [.code ([1, 1, 0, 1, 0, 0, 1, 1, 0, 0, 1, 1, 0, 1, 0] ++ [1])]
  { n := 62, fr := bx 7 (.x (.i y)) (bx 21 (.x (.i y)) [(1, .x (.c (.loc 0 0))), (2, .x (.c (.loc 1 0))), (11, .x (.l .stat l)), (12, .x (.i (l.length : Int))), (13, .x (.i (k : Int))), (4, .x (.c (.loc 2 0))), (5, .x (.c (.loc 3 0))), (6, .x (.c (.loc 4 0))), (20, .x (.c (.fn (.func 174) [] [.pd (.ref .int (k : Int) 0), .pd (.ref .stats l 0)])))]), ck := [.cells [.pd (.lst .stat l)] 24, .cells [.pd (.bool false)] 4, .cells [.pd (.str s.name), SC.i s.kind, SC.i s.depth, .pd (.str s.initial), .pd (.lst .deed s.entry), .pd (.lst .deed s.leave)] 56, .cells [SC.i (pre.length : Int)] 3, .cells [SC.i (du l pre : Int)] 3, .dead, .dead], m := ([.cells [.pd (.lst .stat l)] 24, .cells [.pd (.bool false)] 4, .cells [.pd (.str s.name), SC.i s.kind, SC.i s.depth, .pd (.str s.initial), .pd (.lst .deed s.entry), .pd (.lst .deed s.leave)] 56, .cells [SC.i (pre.length : Int)] 3, .cells [SC.i (du l pre : Int)] 3, .dead, .dead] : List Chunk).length } := by
 obtain ⟨x, rfl⟩ := Int.eq_ofNat_of_zero_le hy.1
 have hx : x < l.length := by omega
 have hm := hl
 have e1 : ((pre ++ [(x : Int)]).length : Int) = IntKind.wrap .i64 ((pre.length : Int) + 1) := by
  rw [aU (aB hlen hl)]; simp
 have e2 : ∀ b, aM (ETy.get .stat l x).kind = b → (du l (pre ++ [(x : Int)]) : Int) = (if b = true then (du l pre : Int) else IntKind.wrap .i64 ((du l pre : Int) + 1)) := fun b hb => by
  rw [aU (aB (Nat.lt_of_le_of_lt (IP l pre) hlen) hl), Fq, Int.toNat_natCast, hb]
  cases b <;> simp
 have e3 : e9 l s (pre ++ [(x : Int)]) = !mr s (ETy.get .stat l x) := by rw [DI, hg, Int.toNat_natCast]; rfl
 generalize hc : (pre.length : Int) = c at *
 generalize hr : (du l pre : Int) = r at *
 show J Tryz.prog ⟨87, some lp⟩ (av Tryz.f87) Γ _ [.code [1, 1, 0, 1, 0, 0, 1, 1, 0, 0, 1, 1, 0, 1, 0, 1]] { n := 62, fr := [(1, .x (.c (.loc 0 0))), (2, .x (.c (.loc 1 0))), (11, .x (.l .stat l)), (12, .x (.i (l.length : Int))), (13, .x (.i (k : Int))), (4, .x (.c (.loc 2 0))), (5, .x (.c (.loc 3 0))), (6, .x (.c (.loc 4 0))), (20, .x (.c (.fn (.func 174) [] [.pd (.ref .int (k : Int) 0), .pd (.ref .stats l 0)]))), (21, .x (.i (x : Int))), (7, .x (.i (x : Int)))], ck := [.cells [.pd (.lst .stat l)] 24, .cells [.pd (.bool false)] 4, .cells [.pd (.str s.name), SC.i s.kind, SC.i s.depth, .pd (.str s.initial), .pd (.lst .deed s.entry), .pd (.lst .deed s.leave)] 56, .cells [SC.i c] 3, .cells [SC.i r] 3, .dead, .dead], m := 7 }
 refine J.goR (cfg := sP) nB (fn := JS Tryz.f87) (by kernel_rfl) 1000 (t := (.need (inRg x l.length) (.ite (!aM (Stat.kind (ETy.get .stat l x))) (.need ((s.kind == (3 : Int)) = true → (0 : Int) ≤ (x : Int) ∧ (x : Int) < (l.length : Int)) (.need ((s.kind == (3 : Int)) = true ∧ aM (Stat.kind (ETy.get .stat l x)) = false → (0 : Int) ≤ (x : Int) ∧ (x : Int) < (l.length : Int)) (.ite (s.kind == (3 : Int) && (aM (Stat.kind (ETy.get .stat l x)) || Stat.kind (ETy.get .stat l x) == (4 : Int))) (.stop [.code [1, 1, 0, 1, 0, 0, 1, 1, 0, 0, 1, 1, 0, 1, 0, 1, 0, 1, 1, 1, 0, 1], .inBlock 3] { n := 62, fr := [(2, .x (.c (.loc 1 0)))], ck := [.cells [.pd (.lst .stat l)] 24, .cells [.pd (.bool false)] 4, .cells [.pd (.str s.name), .i s.kind, .i s.depth, .pd (.str s.initial), .pd (.lst .deed s.entry), .pd (.lst .deed s.leave)] 56, .cells [.i (IntKind.wrap .i64 (c + (1 : Int)))] 3, .cells [.i (IntKind.wrap .i64 (r + (1 : Int)))] 3, .dead, .dead], m := 7 }) (.stop [] { n := 62, fr := [(2, .x (.c (.loc 1 0)))], ck := [.cells [.pd (.lst .stat l)] 24, .cells [.pd (.bool false)] 4, .cells [.pd (.str s.name), .i s.kind, .i s.depth, .pd (.str s.initial), .pd (.lst .deed s.entry), .pd (.lst .deed s.leave)] 56, .cells [.i (IntKind.wrap .i64 (c + (1 : Int)))] 3, .cells [.i (IntKind.wrap .i64 (r + (1 : Int)))] 3, .dead, .dead], m := 7 })))) (.need ((s.kind == (3 : Int)) = true → (0 : Int) ≤ (x : Int) ∧ (x : Int) < (l.length : Int)) (.need ((s.kind == (3 : Int)) = true ∧ aM (Stat.kind (ETy.get .stat l x)) = false → (0 : Int) ≤ (x : Int) ∧ (x : Int) < (l.length : Int)) (.ite (s.kind == (3 : Int) && (aM (Stat.kind (ETy.get .stat l x)) || Stat.kind (ETy.get .stat l x) == (4 : Int))) (.stop [.code [1, 1, 0, 1, 0, 0, 1, 1, 0, 0, 1, 1, 0, 1, 0, 1, 0, 1, 1, 1, 0, 1], .inBlock 3] { n := 62, fr := [(2, .x (.c (.loc 1 0)))], ck := [.cells [.pd (.lst .stat l)] 24, .cells [.pd (.bool false)] 4, .cells [.pd (.str s.name), .i s.kind, .i s.depth, .pd (.str s.initial), .pd (.lst .deed s.entry), .pd (.lst .deed s.leave)] 56, .cells [.i (IntKind.wrap .i64 (c + (1 : Int)))] 3, .cells [.i r] 3, .dead, .dead], m := 7 }) (.stop [] { n := 62, fr := [(2, .x (.c (.loc 1 0)))], ck := [.cells [.pd (.lst .stat l)] 24, .cells [.pd (.bool false)] 4, .cells [.pd (.str s.name), .i s.kind, .i s.depth, .pd (.str s.initial), .pd (.lst .deed s.entry), .pd (.lst .deed s.leave)] 56, .cells [.i (IntKind.wrap .i64 (c + (1 : Int)))] 3, .cells [.i r] 3, .dead, .dead], m := 7 }))))))) (by kernel_rfl) ?_
 have hb : (0 : Int) ≤ (x : Int) ∧ (x : Int) < (l.length : Int) := ⟨by omega, by omega⟩
 have hck : ∀ b, aM (ETy.get .stat l x).kind = b → (fun pre : List Int => ([.cells [.pd (.lst .stat l)] 24, .cells [.pd (.bool false)] 4, .cells [.pd (.str s.name), SC.i s.kind, SC.i s.depth, .pd (.str s.initial), .pd (.lst .deed s.entry), .pd (.lst .deed s.leave)] 56, .cells [SC.i (pre.length : Int)] 3, .cells [SC.i (du l pre : Int)] 3, .dead, .dead] : List Chunk)) (pre ++ [(x : Int)]) = [.cells [.pd (.lst .stat l)] 24, .cells [.pd (.bool false)] 4, .cells [.pd (.str s.name), SC.i s.kind, SC.i s.depth, .pd (.str s.initial), .pd (.lst .deed s.entry), .pd (.lst .deed s.leave)] 56, .cells [SC.i (IntKind.wrap .i64 (c + 1))] 3, .cells [SC.i (if b = true then r else IntKind.wrap .i64 (r + 1))] 3, .dead, .dead] := fun b hb => by
  show [_, _, _, Chunk.cells [SC.i ((pre ++ [(x : Int)]).length : Int)] _, Chunk.cells [SC.i (du l (pre ++ [(x : Int)]) : Int)] _, _, _] = _
  rw [e1, e2 b hb]
 refine ⟨hb, fun h1 => ⟨fun _ => hb, fun _ => hb, fun h2 => ?_, fun h2 => ?_⟩, fun h1 => ⟨fun _ => hb, fun _ => hb, fun h2 => ?_, fun h2 => ?_⟩⟩
 · refine J.roundRet hds (by kernel_rfl) (.inr ⟨rfl, by rw [e3]; exact congrArg not h2, ?_⟩)
   rw [hck false (by simpa using h1)]; rfl
 · refine J.roundEnd hds (.inl ⟨rfl, by rw [e3]; exact congrArg not h2, ?_⟩)
   rw [hck false (by simpa using h1)]; rfl
 · refine J.roundRet hds (by kernel_rfl) (.inr ⟨rfl, by rw [e3]; exact congrArg not h2, ?_⟩)
   rw [hck true (by simpa using h1)]; rfl
 · refine J.roundEnd hds (.inl ⟨rfl, by rw [e3]; exact congrArg not h2, ?_⟩)
   rw [hck true (by simpa using h1)]; rfl
theorem K9 (l : List Ev.Stat) (hl : l.length ≤ maxLen) : ∀ (n k : Nat) (Γ : Ctx), l.length - k = n → k ≤ l.length →
 J Tryz.prog 87 (av Tryz.f87) Γ (Eq2 (.x (.b (dm l n k))) []) [.code [1, 1, 0, 1, 0, 0], .inLoop [1, 1, 0, 1, 0, 0], .inBlock 0, .code [1, 1, 1]] ({ n := 62, fr := [(1, .x (.c (.loc 0 0))), (2, .x (.c (.loc 1 0))), (11, .p (.lst .stat l)), (12, .i l.length), (13, .i ((k : Int)))], ck := [.cells [.pd (.lst .stat l)] 24, .cells [.pd (.bool false)] 4] }) := by
 intro n
 induction n with
 | zero => ?_
 | succ n ih => ?_
 all_goals
  intro k Γ hn hk
  refine jg nB Tryz.func87 (.ite (decide ((k : Int) < (l.length : Int))) (.need (inRg k l.length) (.stop [.code [1, 1, 0, 1, 0, 0, 1, 1, 0, 0, 1, 1, 0, 1, 0], .inBlock 2, .code [1, 1, 0, 1, 0, 0, 1, 1, 0, 0, 1, 1, 1], .inBlock 1, .code [1, 1, 0, 1, 0, 0, 1, 1, 1], .inLoop [1, 1, 0, 1, 0, 0], .inBlock 0, .code [1, 1, 1]] { n := 62, fr := [(1, .x (.c (.loc 0 0))), (2, .x (.c (.loc 1 0))), (11, .p (.lst .stat l)), (12, .i l.length), (13, .i k), (4, .x (.c (.loc 2 0))), (5, .x (.c (.loc 3 0))), (6, .x (.c (.loc 4 0))), (20, .x (.c (.fn (.func 174) [] [.loc 6 0, .loc 5 0])))], ck := [.cells [.pd (.lst .stat l)] 24, .cells [.pd (.bool false)] 4, .cells [.pd (.str (Stat.name (ETy.get .stat l k))), .i (Stat.kind (ETy.get .stat l k)), .i (Stat.depth (ETy.get .stat l k)), .pd (.str (Stat.initial (ETy.get .stat l k))), .pd (.lst .deed (Stat.entry (ETy.get .stat l k))), .pd (.lst .deed (Stat.leave (ETy.get .stat l k)))] 56, .cells [.i 0] 3, .cells [.i 0] 3, .cells [.pd (.lst .stat l)] 24, .cells [.i k] 3] })) (.ret (.p (.bool true)) [])) ?_
  refine ⟨fun hlt => ?_, fun hge => ?_⟩
 · have := of_decide_eq_true hlt; omega
 · exact ⟨rfl, rfl⟩
 · have hk' : k < l.length := by omega
   refine ⟨⟨by omega, by omega⟩, ?_⟩
   have hkm := j8 l k
   have rest : ∀ (s : Ev.Stat), s = ETy.get .stat l k → J Tryz.prog 87 (av Tryz.f87) Γ (Eq2 (.x (.b (dm l (n + 1) k))) []) [.code [1, 1, 0, 1, 0, 0, 1, 1, 0, 0, 1, 1, 0, 1, 0], .inBlock 2, .code [1, 1, 0, 1, 0, 0, 1, 1, 0, 0, 1, 1, 1], .inBlock 1, .code [1, 1, 0, 1, 0, 0, 1, 1, 1], .inLoop [1, 1, 0, 1, 0, 0], .inBlock 0, .code [1, 1, 1]] { n := 62, fr := [(1, .x (.c (.loc 0 0))), (2, .x (.c (.loc 1 0))), (11, .x (.l .stat l)), (12, .x (.i (l.length : Int))), (13, .x (.i (k : Int))), (4, .x (.c (.loc 2 0))), (5, .x (.c (.loc 3 0))), (6, .x (.c (.loc 4 0))), (20, .x (.c (.fn (.func 174) [] [.pd (.ref .int (k : Int) 0), .pd (.ref .stats l 0)])))], ck := [.cells [.pd (.lst .stat l)] 24, .cells [.pd (.bool false)] 4, .cells [.pd (.str s.name), SC.i s.kind, SC.i s.depth, .pd (.str s.initial), .pd (.lst .deed s.entry), .pd (.lst .deed s.leave)] 56, .cells [SC.i 0] 3, .cells [SC.i 0] 3, .dead, .dead] } := by
    intro s hs
    have hbadK : ∀ pre, pre <+: bg l k → e9 l s pre = false → dm l (n + 1) k = false := fun pre hp hb => by
     obtain ⟨q, hq⟩ := hp
     have : e9 l s (bg l k) = false := by
      rw [← hq]; unfold e9 at hb ⊢; rw [List.all_append, hb]; rfl
     rw [dm, qt, ← hs, this]; rfl
    refine J.range (ok := fun x => 0 ≤ x ∧ x < (l.length : Int)) (xs := bg l k) (g := 20) (s := 21) (d := 7) Tryz.func87 (by kernel_rfl) (by kernel_rfl) (by kernel_rfl) (by kernel_rfl) rfl (Go.Proofs.enters_of Tryz.func174 (by kernel_rfl) rfl) (by kernel_rfl) (ur l k hk' hl)
     (fun pre => e9 l s pre = true) (fun pre => e9 l s pre = false) rfl (fun pre => [.cells [.pd (.lst .stat l)] 24, .cells [.pd (.bool false)] 4, .cells [.pd (.str s.name), SC.i s.kind, SC.i s.depth, .pd (.str s.initial), .pd (.lst .deed s.entry), .pd (.lst .deed s.leave)] 56, .cells [SC.i (pre.length : Int)] 3, .cells [SC.i (du l pre : Int)] 3, .dead, .dead]) (fun pre => [.cells [.pd (.lst .stat l)] 24, .cells [.pd (.bool false)] 4, .cells [.pd (.str s.name), SC.i s.kind, SC.i s.depth, .pd (.str s.initial), .pd (.lst .deed s.entry), .pd (.lst .deed s.leave)] 56, .cells [SC.i (pre.length : Int)] 3, .cells [SC.i (du l pre : Int)] 3, .dead, .dead]) rfl (fun _ => rfl) (fun _ => rfl) (fun _ => rfl) (fun _ => rfl)
     (fun lp pre x Γ hds hx _ hgd hlen => Jm l s hl k lp pre x Γ hds hx hgd (Nat.lt_of_lt_of_le hlen hkm)) (fun hgd Γ' => ?_) (fun pre hp hb => ⟨[.c (.pd (.bool false))], by kernel_rfl, ?_, by kernel_rfl⟩)
    · have hgd' : e9 l s (bg l k) = true := hgd
      have hok : dm l (n + 1) k = ((bif s.kind == 2 || s.kind == 3 then !((du l (bg l k) : Int) == 0) else !decide (((bg l k).length : Int) > 0)) && dm l n (k + 1)) := by
       rw [dm, qt, ← hs, hgd', Bool.true_and]
       congr 1
       cases (s.kind == 2 || s.kind == 3)
       · rw [cond_false, cond_false, Bool.eq_iff_iff]; simp
       · rw [cond_true, cond_true, Bool.eq_iff_iff]; simp
      generalize ((bg l k).length : Int) = c at hok
      generalize (du l (bg l k) : Int) = r at hok
      show J Tryz.prog 87 (av Tryz.f87) Γ' _ _ { n := 62, fr := [(1, .x (.c (.loc 0 0))), (2, .x (.c (.loc 1 0))), (11, .x (.l .stat l)), (12, .x (.i (l.length : Int))), (13, .x (.i (k : Int))), (4, .x (.c (.loc 2 0))), (5, .x (.c (.loc 3 0))), (6, .x (.c (.loc 4 0))), (20, .x (.c (.fn (.func 174) [] [.pd (.ref .int (k : Int) 0), .pd (.ref .stats l 0)])))], ck := [.cells [.pd (.lst .stat l)] 24, .cells [.pd (.bool false)] 4, .cells [.pd (.str s.name), SC.i s.kind, SC.i s.depth, .pd (.str s.initial), .pd (.lst .deed s.entry), .pd (.lst .deed s.leave)] 56, .cells [SC.i c] 3, .cells [SC.i r] 3, .dead, .dead] }
      refine jg nB Tryz.func87 (.ite (s.kind == (2 : Int)) (.ite (r == (0 : Int)) (.ret (.p (.bool false)) []) (.stop [.code [1, 1, 0, 1, 0, 0], .inLoop [1, 1, 0, 1, 0, 0], .inBlock 0, .code [1, 1, 1]] { n := 62, fr := [(1, .x (.c (.loc 0 0))), (2, .x (.c (.loc 1 0))), (11, .p (.lst .stat l)), (12, .i l.length), (13, .i (IntKind.wrap .i64 ((k : Int) + 1)))], ck := [.cells [.pd (.lst .stat l)] 24, .cells [.pd (.bool false)] 4] })) (.ite (s.kind == (3 : Int)) (.ite (r == (0 : Int)) (.ret (.p (.bool false)) []) (.stop [.code [1, 1, 0, 1, 0, 0], .inLoop [1, 1, 0, 1, 0, 0], .inBlock 0, .code [1, 1, 1]] { n := 62, fr := [(1, .x (.c (.loc 0 0))), (2, .x (.c (.loc 1 0))), (11, .p (.lst .stat l)), (12, .i l.length), (13, .i (IntKind.wrap .i64 ((k : Int) + 1)))], ck := [.cells [.pd (.lst .stat l)] 24, .cells [.pd (.bool false)] 4] })) (.ite (decide (c > (0 : Int))) (.ret (.p (.bool false)) []) (.stop [.code [1, 1, 0, 1, 0, 0], .inLoop [1, 1, 0, 1, 0, 0], .inBlock 0, .code [1, 1, 1]] { n := 62, fr := [(1, .x (.c (.loc 0 0))), (2, .x (.c (.loc 1 0))), (11, .p (.lst .stat l)), (12, .i l.length), (13, .i (IntKind.wrap .i64 ((k : Int) + 1)))], ck := [.cells [.pd (.lst .stat l)] 24, .cells [.pd (.bool false)] 4] })))) ?_
      have hrec := ih (k + 1) Γ' (by omega) (by omega)
      rw [aU (aB hk' hl)]
      refine ⟨fun h2 => ⟨fun h0 => ?_, fun h0 => ?_⟩, fun h2 => ⟨fun h3 => ⟨fun h0 => ?_, fun h0 => ?_⟩, fun h3 => ⟨fun h0 => ?_, fun h0 => ?_⟩⟩⟩
      · have e : dm l (n + 1) k = false := by rw [hok, h2, h0]; rfl
        rw [e]; exact ⟨rfl, rfl⟩
      · have e : dm l (n + 1) k = dm l n (k + 1) := by rw [hok, h2, h0]; rfl
        rw [e]; exact hrec
      · have e : dm l (n + 1) k = false := by rw [hok, h2, h3, h0]; rfl
        rw [e]; exact ⟨rfl, rfl⟩
      · have e : dm l (n + 1) k = dm l n (k + 1) := by rw [hok, h2, h3, h0]; rfl
        rw [e]; exact hrec
      · have e : dm l (n + 1) k = false := by rw [hok, h2, h3, h0]; rfl
        rw [e]; exact ⟨rfl, rfl⟩
      · have e : dm l (n + 1) k = dm l n (k + 1) := by rw [hok, h2, h3, h0]; rfl
        rw [e]; exact hrec
    · show _ = SV.x (.b (dm l (n + 1) k))
      rw [hbadK pre hp hb]; kernel_rfl
   exact J.freeze aW [5, 6] (by kernel_rfl) (rest (ETy.get .stat l k) rfl)
 · have := of_decide_eq_false hge; omega
theorem Ae (l : List Ev.Stat) (hl : l.length ≤ maxLen) : ah Tryz.prog 87 [.l .stat l] [] (.x (.b (b6 l))) [] := by
 refine dg nB Tryz.func87 (.need (l.length ≤ maxLen) (.ite (!jZ l) (.ret (.p (.bool false)) []) (.stop [.code [1, 1, 0, 1, 0, 0], .inLoop [1, 1, 0, 1, 0, 0], .inBlock 0, .code [1, 1, 1]] { n := 62, fr := [(1, .x (.c (.loc 0 0))), (2, .x (.c (.loc 1 0))), (11, .p (.lst .stat l)), (12, .i l.length), (13, .i 0)], ck := [.cells [.pd (.lst .stat l)] 24, .cells [.pd (.bool false)] 4] }))) fun Γ => ?_
 refine ⟨hl, fun h => ?_, fun h => ?_⟩
 · have h' : jZ l = false := by simpa using h
   unfold b6; rw [h']; exact ⟨rfl, rfl⟩
 · have h' : jZ l = true := by simpa using h
   unfold b6; rw [h', Bool.true_and]
   exact K9 l hl l.length 0 Γ (by omega) (by omega)
def mA : Ent := (87, fun
 | [.c (.pd (.lst .stat l))], [] => some (some (l.length ≤ maxLen), .x (.c (.pd (.bool (b6 l)))), [])
 | _, _ => none)
theorem rD : EntOk Tryz.prog mA := entOk fun vs ck => by
 unfold mA; dsimp only; split
 · rename_i l; exact entS fun hp => Ae l hp
 · exact entN
variable (l:List Ev.Stat) (i j:Int)
def bW:Bool:=decide (0≤i)&&decide (i<(l.length:Int))&&b6 l
def iJ (l:List Ev.Stat) (d:Int):Nat→Int
 | 0=>-1
 | k+1=>if (ETy.get .stat l k).depth<d then (k:Int) else iJ l d k
def upM (i:Nat):Int:=iJ l (ETy.get .stat l i).depth i
def bj:Int:=if bW l i=true then upM l i.toNat else -1
def gu:Bool:=bW l i&&bW l j&&decide (j>i)&&decide (j<((endM l i.toNat:Nat):Int))
def gA (l:List Ev.Stat) (j:Int):Nat→Int→Int
 | 0,_=>-1
 | n+1,k=>if k<0 then -1 else if ((ETy.get .stat l k.toNat).kind==2&&decide (j>k)&&decide (j<((endM l k.toNat:Nat):Int)))=true then k else gA l j n (upM l k.toNat)
def dx:Int:=if (bW l i&&bW l j)=true then gA l j (l.length+1) i else -1
theorem kT (l:List Ev.Stat) (d:Int):∀ k:Nat, -1≤iJ l d k∧iJ l d k<(k:Int)
 | 0=>by rw [iJ]; omega
 | k+1=>by
   have:=kT l d k
   rw [iJ]; split <;> omega
theorem pJ {l:List Ev.Stat} {i:Int} (h:bW l i=true):0≤i∧i<(l.length:Int):=by
 unfold bW at h
 simp only [af,decide_eq_true_eq] at h
 exact h.1
theorem HA (h:0≤i∧i<(l.length:Int)∧l.length≤maxLen):ah Tryz.prog 101 [.l .stat l,.i i] [] (.x (.i (endM l i.toNat:Nat))) []:=by
 obtain ⟨k,rfl⟩:=ax h.1
 rw [ai]
 exact tV l k (by omega) h.2.2
def sr:Ent:=(101,fun
 | [.c (.pd (.lst .stat l)),.c (.pd (.int .i64 i))],[]=>some (some (0≤i∧i<(l.length:Int)∧l.length≤maxLen),.x (.c (.pd (.int .i64 (endM l i.toNat:Nat)))),[])
 | _,_=>none)
theorem xi:EntOk Tryz.prog sr:=entOk fun vs ck=>by
 unfold sr; dsimp only; split
 · rename_i l i; exact entS fun hp=>HA l i hp
 · exact entN
def KB:Cfg:=⟨aW,[mA]⟩
theorem Jj:ag Tryz.prog KB.tab:=(ag.cons rD ag.nil)
theorem GH (hl:l.length≤maxLen):ah Tryz.prog 99 [.l .stat l,.i i] [] (.x (.b (bW l i))) []:=by
 refine dg Jj Tryz.func99 (.need ((decide (i≥(0:Int))&&decide (i<(l.length:Int)))=true→l.length≤maxLen) (.ret (.p (.bool (decide (i≥(0:Int))&&decide (i<(l.length:Int))&&b6 l))) [])) fun Γ=>?_
 exact ⟨fun _=>hl,rfl,rfl⟩
def pB:Ent:=(99,fun
 | [.c (.pd (.lst .stat l)),.c (.pd (.int .i64 i))],[]=>some (some (l.length≤maxLen),.x (.c (.pd (.bool (bW l i)))),[])
 | _,_=>none)
theorem qy:EntOk Tryz.prog pB:=entOk fun vs ck=>by
 unfold pB; dsimp only; split
 · rename_i l i; exact entS fun hp=>GH l i hp
 · exact entN
abbrev zTe1:List PI:=[.code [1,0,1,0,0],.inLoop [1,0,1,0,0],.inBlock 0,.code [1,1]]
theorem LR (i:Nat) (hi:i<l.length) (hl:l.length≤maxLen) (Γ:Ctx):∀ j:Nat,j≤i →
 J Tryz.prog 100 (av Tryz.f100) Γ (Eq2 (.x (.i (iJ l (ETy.get .stat l i).depth j))) []) zTe1 ({ n:=24,fr:=[(0,.p (.lst .stat l)),(1,.i i),(4,.i 0),(5,.i (((j:Int) - 1)))],ck:=[] }):=by
 have hm:=aB hi hl
 intro j
 induction j with
 | zero=>?_
 | succ j ih=>?_
 all_goals intro hj
 · refine jg aY Tryz.func100 (.ite false (.need ((0:Int)≤(↑(0:Nat):Int) - 1∧(↑(0:Nat):Int) - 1<(l.length:Int)) (.need (inRg i l.length) (.ite (decide (Stat.depth (ETy.get .stat l 0)<Stat.depth (ETy.get .stat l i))) (.ret (.i ((↑(0:Nat):Int) - 1)) []) (.stop zTe1 { n:=24,fr:=[(0,.p (.lst .stat l)),(1,.i i),(4,.i 0),(5,.i (IntKind.wrap .i64 ((↑(0:Nat):Int) - 1 - (1:Int))))],ck:=[] })))) (.ret (.i (-1:Int)) [])) ?_
   exact ⟨fun h=>Bool.noConfusion h,fun _=>⟨rfl,rfl⟩⟩
 · refine jg aY Tryz.func100 (.ite (decide ((↑(j+1):Int) - 1≥(0:Int))) (.need ((0:Int)≤(↑(j+1):Int) - 1∧(↑(j+1):Int) - 1<(l.length:Int)) (.need (inRg i l.length) (.ite (decide (Stat.depth (ETy.get .stat l (((↑(j+1):Int) - 1).toNat))<Stat.depth (ETy.get .stat l i))) (.ret (.i ((↑(j+1):Int) - 1)) []) (.stop zTe1 { n:=24,fr:=[(0,.p (.lst .stat l)),(1,.i i),(4,.i 0),(5,.i (IntKind.wrap .i64 ((↑(j+1):Int) - 1 - (1:Int))))],ck:=[] })))) (.ret (.i (-1:Int)) [])) ?_
   have e:((j+1:Nat):Int) - 1=(j:Int):=by omega
   rw [e,ai]
   refine ⟨fun _=>⟨⟨by omega,by omega⟩,⟨by omega,by omega⟩,fun h=>?_,fun h=>?_⟩,fun h=>absurd (of_decide_eq_false h) (by omega)⟩
   · have h':=of_decide_eq_true h
     rw [iJ,if_pos h']; exact ⟨rfl,rfl⟩
   · have h':=of_decide_eq_false h
     rw [iJ,if_neg h',cm (by omega) (by omega)]; exact ih (by omega)
theorem Ih (h:0≤i∧i<(l.length:Int)∧l.length≤maxLen):ah Tryz.prog 100 [.l .stat l,.i i] [] (.x (.i (upM l i.toNat))) []:=by
 obtain ⟨k,rfl⟩:=ax h.1
 rw [ai]
 have hk:k<l.length:=by omega
 have hm:=aB hk h.2.2
 have key:ah Tryz.prog 100 [.l .stat l,.i (k:Int)] [] (.x (.i (upM l k))) []:=by
  refine dg aY Tryz.func100 (.stop zTe1 { n:=24,fr:=[(0,.p (.lst .stat l)),(1,.i k),(4,.i 0),(5,.i (IntKind.wrap .i64 ((k:Int) - 1)))],ck:=[] }) fun Γ=>?_
  rw [cm (by omega) (by omega)]
  exact LR l k hk h.2.2 Γ k (au _)
 exact key
def DC:Ent:=(100,fun
 | [.c (.pd (.lst .stat l)),.c (.pd (.int .i64 i))],[]=>some (some (0≤i∧i<(l.length:Int)∧l.length≤maxLen),.x (.c (.pd (.int .i64 (upM l i.toNat)))),[])
 | _,_=>none)
theorem Mq:EntOk Tryz.prog DC:=entOk fun vs ck=>by
 unfold DC; dsimp only; split
 · rename_i l i; exact entS fun hp=>Ih l i hp
 · exact entN
def qV:Cfg:=⟨aW,[pB,DC,sr]⟩
theorem mK:ag Tryz.prog qV.tab:=(ag.cons qy (ag.cons Mq (ag.cons xi ag.nil)))
theorem yb (hl:l.length≤maxLen):ah Tryz.prog 47 [.l .stat l,.i i] [] (.x (.i (bj l i))) []:=by
 refine dg mK Tryz.func47 (.need (l.length≤maxLen) (.ite (!bW l i) (.ret (.i (-1:Int)) []) (.need ((0:Int)≤i∧i<(l.length:Int)∧l.length≤maxLen) (.ret (.i (upM l (Int.toNat i))) [])))) fun Γ=>?_
 refine ⟨hl,fun h=>?_,fun h=>?_⟩
 · have h':bW l i=false:=by simpa using h
   unfold bj; rw [if_neg (by rw [h']; decide)]; exact ⟨rfl,rfl⟩
 · have h':bW l i=true:=by simpa using h
   have:=pJ h'
   unfold bj; rw [if_pos h']; exact ⟨⟨this.1,this.2,hl⟩,rfl,rfl⟩
def jC:Ent:=(47,fun
 | [.c (.pd (.lst .stat l)),.c (.pd (.int .i64 i))],[]=>some (some (l.length≤maxLen),.x (.c (.pd (.int .i64 (bj l i)))),[])
 | _,_=>none)
theorem kL:EntOk Tryz.prog jC:=entOk fun vs ck=>by
 unfold jC; dsimp only; split
 · rename_i l i; exact entS fun hp=>yb l i hp
 · exact entN
theorem yQ (hl:l.length≤maxLen):ah Tryz.prog 50 [.l .stat l,.i i,.i j] [] (.x (.b (gu l i j))) []:=by
 refine dg mK Tryz.func50 (.need (l.length≤maxLen) (.need (bW l i=true→l.length≤maxLen) (.need ((bW l i&&bW l j&&decide (j>i))=true→(0:Int)≤i∧i<(l.length:Int)∧l.length≤maxLen) (.ret (.p (.bool (bW l i&&bW l j&&decide (j>i)&&decide (j<(↑(endM l (Int.toNat i)):Int))))) [])))) fun Γ=>?_
 refine ⟨hl,fun _=>hl,fun h=>?_,rfl,rfl⟩
 simp only [af] at h
 have:=pJ h.1.1
 exact ⟨this.1,this.2,hl⟩
def mq:Ent:=(50,fun
 | [.c (.pd (.lst .stat l)),.c (.pd (.int .i64 i)),.c (.pd (.int .i64 j))],[]=>some (some (l.length≤maxLen),.x (.c (.pd (.bool (gu l i j)))),[])
 | _,_=>none)
theorem si:EntOk Tryz.prog mq:=entOk fun vs ck=>by
 unfold mq; dsimp only; split
 · rename_i l i j; exact entS fun hp=>yQ l i j hp
 · exact entN
abbrev zTe2:List PI:=[.code [1,1,0,1,0,0],.inLoop [1,1,0,1,0,0],.inBlock 0,.code [1,1,1]]
theorem LG (hl:l.length≤maxLen) (Γ:Ctx):∀ (n:Nat) (k:Int), -1≤k→k<(l.length:Int)→k+1<(n:Int) →
 J Tryz.prog 37 (av Tryz.f37) Γ (Eq2 (.x (.i (gA l j n k))) []) zTe2 ({ n:=43,fr:=[(0,.p (.lst .stat l)),(2,.i j),(6,.i 0),(7,.i k)],ck:=[] }):=by
 intro n
 induction n with
 | zero=>intro k h1 h2 h3; omega
 | succ n ih =>
   intro k h1 h2 h3
   refine jg mK Tryz.func37 (.ite (decide (k≥(0:Int))) (.need ((0:Int)≤k∧k<(l.length:Int)) (.need ((Stat.kind (ETy.get .stat l (Int.toNat k))==(2:Int)&&decide (j>k))=true→(0:Int)≤k∧k<(l.length:Int)∧l.length≤maxLen) (.ite (Stat.kind (ETy.get .stat l (Int.toNat k))==(2:Int)&&decide (j>k)&&decide (j<(↑(endM l (Int.toNat k)):Int))) (.ret (.i k) []) (.need ((0:Int)≤k∧k<(l.length:Int)∧l.length≤maxLen) (.stop zTe2 { n:=43,fr:=[(0,.p (.lst .stat l)),(2,.i j),(6,.i 0),(7,.i (upM l (Int.toNat k)))],ck:=[] }))))) (.ret (.i (-1:Int)) [])) ?_
   refine ⟨fun h=>?_,fun h=>?_⟩
   · have hk:k≥0:=of_decide_eq_true h
     have hup:=kT l (ETy.get .stat l k.toNat).depth k.toNat
     have hup' : -1≤upM l k.toNat∧upM l k.toNat<k:=by
      have:((k.toNat:Nat):Int)=k:=eD hk
      unfold upM; omega
     refine ⟨⟨hk,h2⟩,fun _=>⟨hk,h2,hl⟩,fun hc=>?_,fun hc=>⟨⟨hk,h2,hl⟩,?_⟩⟩
     · rw [gA,if_neg (by omega),if_pos hc]; exact ⟨rfl,rfl⟩
     · rw [gA,if_neg (by omega),if_neg (by rw [hc]; decide)]
       exact ih (upM l k.toNat) hup'.1 (by omega) (by omega)
   · have hk:¬k≥0:=of_decide_eq_false h
     rw [gA,if_pos (by omega)]; exact ⟨rfl,rfl⟩
theorem xg (hl:l.length≤maxLen):ah Tryz.prog 37 [.l .stat l,.i i,.i j] [] (.x (.i (dx l i j))) []:=by
 refine dg mK Tryz.func37 (.need (l.length≤maxLen) (.need ((!bW l i)=false→l.length≤maxLen) (.ite (!bW l i || !bW l j) (.ret (.i (-1:Int)) []) (.stop zTe2 { n:=43,fr:=[(0,.p (.lst .stat l)),(2,.i j),(6,.i 0),(7,.i i)],ck:=[] })))) fun Γ=>?_
 refine ⟨hl,fun _=>hl,fun h=>?_,fun h=>?_⟩
 · have h':(bW l i&&bW l j)=false:=by
    cases h1:bW l i <;> cases h2:bW l j <;> simp_all
   unfold dx; rw [if_neg (by rw [h']; decide)]; exact ⟨rfl,rfl⟩
 · have h':(bW l i&&bW l j)=true:=by
    cases h1:bW l i <;> cases h2:bW l j <;> simp_all
   have hi:=pJ (by simp only [af] at h'; exact h'.1)
   unfold dx; rw [if_pos h']
   exact LG l j hl Γ (l.length+1) i (by omega) hi.2 (by omega)
def mJ:Ent:=(37,fun
 | [.c (.pd (.lst .stat l)),.c (.pd (.int .i64 i)),.c (.pd (.int .i64 j))],[]=>some (some (l.length≤maxLen),.x (.c (.pd (.int .i64 (dx l i j)))),[])
 | _,_=>none)
theorem rH:EntOk Tryz.prog mJ:=entOk fun vs ck=>by
 unfold mJ; dsimp only; split
 · rename_i l i j; exact entS fun hp=>xg l i j hp
 · exact entN
end Go.Proofs.YtgfifkhbfdacjaaGreatDoor
namespace Go.Proofs.YtgfifkhbfdacjaaGreatDoor
open Go Go.Ev
set_option maxRecDepth 100000
variable (l:List Cell) {b:Bool} (d:Deed) (Γ:Ctx)
theorem nt (h:(!b)=true):b=false:=by cases b <;> simp_all
theorem nf (h:(!b)=false):b=true:=by cases b <;> simp_all
/-! ### plain -/
def jR:Bool:=l.any fun c=>c.op==6
def oD:Bool:=dN l && !jR l
def eI:Bool:=bif d.kind==1 then a8 d.name&&oD d.expr else bif d.kind==2||d.kind==3 then gn d.name&&((d.expr.length:Int)==0) else false
def fA (l:List Deed):Bool:=l.all eI&&(decide ((l.length:Int)>0)&&decide ((l.length:Int)≤8))
def iG (v:Var) (x:Val):Bool:=v.kind==x.kind&&(decide (x.a≥v.lo)&&decide (x.a≤v.hi)&&(x.kind != 3||(decide (x.b≥v.lo)&&decide (x.b≤v.hi))))
/-! ### the program's -/
theorem D1 (c:Cell):ah Tryz.prog 270 [.e .cell c] [] (.x (.b (c.op==6))) []:=by
 refine dg aY Tryz.func270 (.ret (.p (.bool (c.op==(6:Int)))) []) fun Γ=>⟨rfl,rfl⟩
def wz:Ent:=(270,fun
 | [.agg [.pd (.int .i64 a),.pd (.int .i64 b),.pd (.str d)]],[]=>some (none,.x (.c (.pd (.bool (a==6)))),[])
 | _,_=>none)
theorem II:EntOk Tryz.prog wz:=entOk fun vs ck=>by
 unfold wz; dsimp only; split
 · rename_i a b d; exact entS fun hp=>D1 ⟨a,b,d⟩
 · exact entN
def s7:Cfg:=⟨aW,[wz]⟩
theorem rS:ag Tryz.prog s7.tab:=(ag.cons II ag.nil)
abbrev zUz1:List PI:=[.code [1,0,1,0,0],.inLoop [1,0,1,0,0],.inBlock 0,.code [1,1]]
theorem H5 (hl:l.length≤maxLen)  : ∀ (n k:Nat),l.length - k≤n→k≤l.length →
 J Tryz.prog 287 (av Tryz.f287) Γ (Eq2 (.x (.i (aE (fun c:Cell=>c.op==6) (l.drop k) k))) []) zUz1 ({ n:=19,fr:=[(0,.p (.lst .cell l)),(1,.x (.c (.fn (.func 270) [] []))),(4,.i 0),(7,.i l.length),(8,.i k)],ck:=[] }):=by
 intro n
 induction n with
 | zero=>?_
 | succ n ih=>?_
 all_goals
  intro k hn hk
  refine jg rS Tryz.func287 (.ite (decide ((k:Int)<(l.length:Int))) (.need (inRg k l.length) (.ite (Cell.op (ETy.get .cell l k)==(6:Int)) (.ret (.i k) []) (.stop zUz1 { n:=19,fr:=[(0,.p (.lst .cell l)),(1,.x (.c (.fn (.func 270) [] []))),(4,.i 0),(7,.i l.length),(8,.i (IntKind.wrap .i64 ((k:Int)+1)))],ck:=[] }))) (.ret (.i (-1:Int)) [])) ?_
  refine ⟨fun hlt=>?_,fun hge=>?_⟩
  · have hk':k<l.length:=by have:=of_decide_eq_true hlt; omega
    rw [br (t:=.cell) (l:=l) hk']
    refine ⟨by omega,?_⟩
    generalize ETy.get .cell l k=v
    refine ⟨fun hb=>⟨?_,rfl⟩,fun hb=>?_⟩
    · simp only [aE,hb,cond_true]
    · simp only [aE,hb,cond_false]; (rw [aU (aB hk' hl)]; first | (exfalso; omega) | exact ih (k+1) (by omega) (by omega))
  · rw [bE (l:=l) (by have:=of_decide_eq_false hge; omega)]
    exact ⟨rfl,rfl⟩
theorem Ks:ah Tryz.prog 287 [.l .cell (l),SX.c (SC.fn (Fn.func 270) [] [])] [] (.x (.i (aE (fun c:Cell=>c.op==6) l 0))) []:=by
 refine dg rS Tryz.func287 (.stop zUz1 { n:=19,fr:=[(0,.p (.lst .cell l)),(1,.x (.c (.fn (.func 270) [] []))),(4,.i 0),(7,.i l.length),(8,.i 0)],ck:=[] }) fun Γ=>?_
 exact J.len 0 rfl fun hl=>H5 l Γ hl l.length 0 (by omega) (by omega)
def C7:Ent:=(287,fun
 | [.c (.pd (.lst .cell l)),.c (.fn (.func 270) [] [])],[]=>some (none,.x (.c (.pd (.int .i64 (aE (fun c:Cell=>c.op==6) l 0)))),[])
 | _,_=>none)
theorem Mn:EntOk Tryz.prog C7:=entOk fun vs ck=>by
 unfold C7; dsimp only; split
 · rename_i l; exact entS fun hp=>Ks l
 · exact entN
def Gc:Cfg:=⟨aW,[C7]⟩
theorem Ft:ag Tryz.prog Gc.tab:=(ag.cons Mn ag.nil)
theorem Jt:ah Tryz.prog 269 [.l .cell l,.c (.fn (.func 270) [] [])] [] (.x (.b (jR l))) []:=by
 refine dg Ft Tryz.func269 (.ret (.p (.bool (decide (aE (fun c=>c.op==(6:Int)) l (0:Int)≥0)))) []) fun Γ=>⟨?_,rfl⟩
 rw [iA _ _ _ (by omega)]; rfl
def DB:Ent:=(269,fun
 | [.c (.pd (.lst .cell l)),.c (.fn (.func 270) [] [])],[]=>some (none,.x (.c (.pd (.bool (jR l)))),[])
 | _,_=>none)
theorem MJ:EntOk Tryz.prog DB:=entOk fun vs ck=>by
 unfold DB; dsimp only; split
 · rename_i l; exact entS fun hp=>Jt l
 · exact entN
def xn:Cfg:=⟨aW,[oA,DB]⟩
theorem AJ:ag Tryz.prog xn.tab:=(ag.cons uw (ag.cons MJ ag.nil))
theorem AK:ah Tryz.prog 242 [.l .cell l] [] (.x (.b (oD l))) []:=by
 refine dg AJ Tryz.func242 (.ret (.p (.bool (dN l && !jR l))) []) fun Γ=>?_
 exact ⟨rfl,rfl⟩
def pP:Ent:=(242,fun
 | [.c (.pd (.lst .cell l))],[]=>some (none,.x (.c (.pd (.bool (oD l)))),[])
 | _,_=>none)
theorem BQ:EntOk Tryz.prog pP:=entOk fun vs ck=>by
 unfold pP; dsimp only; split
 · rename_i l; exact entS fun hp=>AK l
 · exact entN
def A4:Cfg:=⟨aW,[jK,pP,pb]⟩
theorem CU:ag Tryz.prog A4.tab:=(ag.cons iI (ag.cons BQ (ag.cons ud ag.nil)))
theorem EY:ah Tryz.prog 216 [.e .deed d] [] (.x (.b (eI d))) []:=by
 refine dg CU Tryz.func216 (.ite (d.kind==(1:Int)) (.ret (.p (.bool (a8 d.name&&oD d.expr))) []) (.ite (d.kind==(2:Int)) (.ret (.p (.bool (gn d.name&&(d.expr.length:Int)==0))) []) (.ite (d.kind==(3:Int)) (.ret (.p (.bool (gn d.name&&(d.expr.length:Int)==0))) []) (.ret (.p (.bool false)) [])))) fun Γ=>?_
 unfold eI
 refine ⟨fun h=>?_,fun h1=>⟨fun h=>?_,fun h2=>⟨fun h=>?_,fun h3=>?_⟩⟩⟩
 · rw [h]; exact ⟨rfl,rfl⟩
 · rw [h1,h]; exact ⟨rfl,rfl⟩
 · rw [h1,h2,h]; exact ⟨rfl,rfl⟩
 · rw [h1,h2,h3]; exact ⟨rfl,rfl⟩
def vO:Ent:=(216,fun
 | [.agg [.pd (.int .i64 a),.pd (.str b),.pd (.lst .cell d)]],[]=>some (none,.x (.c (.pd (.bool (eI ⟨a,b,d⟩)))),[])
 | _,_=>none)
theorem H8:EntOk Tryz.prog vO:=entOk fun vs ck=>by
 unfold vO; dsimp only; split
 · rename_i a b d; exact entS fun hp=>EY ⟨a,b,d⟩
 · exact entN
def qE:Cfg:=⟨aW,[vO]⟩
theorem pV:ag Tryz.prog qE.tab:=(ag.cons H8 ag.nil)
theorem L6 (l:List Deed) (Γ:Ctx) (hl:l.length≤maxLen)  : ∀ (n k:Nat),l.length - k≤n→k≤l.length →
 J Tryz.prog 176 (av Tryz.f176) Γ (Eq2 (.x (.b ((l.drop k).all eI&&(decide ((l.length:Int)>0)&&decide ((l.length:Int)≤8))))) []) zUz1 ({ n:=23,fr:=[(0,.p (.lst .deed l)),(2,.p (.bool false)),(5,.p (.lst .deed l)),(6,.i l.length),(7,.i k)],ck:=[],kn:=[2] }):=by
 intro n
 induction n with
 | zero=>?_
 | succ n ih=>?_
 all_goals
  intro k hn hk
  refine jg pV Tryz.func176 (.ite (decide ((k:Int)<(l.length:Int))) (.need (inRg k l.length) (.ite (!eI (ETy.get .deed l k)) (.ret (.p (.bool false)) []) (.stop zUz1 { n:=23,fr:=[(0,.p (.lst .deed l)),(2,.p (.bool false)),(5,.p (.lst .deed l)),(6,.i l.length),(7,.i (IntKind.wrap .i64 ((k:Int)+1)))],ck:=[],kn:=[2] }))) (.ret (.p (.bool (decide ((l.length:Int)>0)&&decide ((l.length:Int)≤8)))) [])) ?_
  refine ⟨fun hlt=>?_,fun hge=>?_⟩
  · have hk':k<l.length:=by have:=of_decide_eq_true hlt; omega
    rw [br (t:=.deed) (l:=l) hk']
    refine ⟨by omega,?_⟩
    generalize ETy.get .deed l k=v
    rw [dA]
    refine ⟨fun hb=>⟨?_,rfl⟩,fun hb=>?_⟩
    · have hb':eI v=false:=nt hb
      rw [hb']; rfl
    · have hb':eI v=true:=nf hb
      rw [hb',aX]; (rw [aU (aB hk' hl)]; first | (exfalso; omega) | exact ih (k+1) (by omega) (by omega))
  · rw [bE (l:=l) (by have:=of_decide_eq_false hge; omega)]
    exact ⟨rfl,rfl⟩
theorem Lq (l:List Deed):ah Tryz.prog 176 [.l .deed (l)] [] (.x (.b (fA l))) []:=by
 refine dg pV Tryz.func176 (.stop zUz1 { n:=23,fr:=[(0,.p (.lst .deed l)),(2,.p (.bool false)),(5,.p (.lst .deed l)),(6,.i l.length),(7,.i 0)],ck:=[],kn:=[2] }) fun Γ=>?_
 exact J.len 0 rfl fun hl=>L6 l Γ hl l.length 0 (by omega) (by omega)
def rv:Ent:=(176,fun
 | [.c (.pd (.lst .deed l))],[]=>some (none,.x (.c (.pd (.bool (fA l)))),[])
 | _,_=>none)
theorem E7:EntOk Tryz.prog rv:=entOk fun vs ck=>by
 unfold rv; dsimp only; split
 · rename_i l; exact entS fun hp=>Lq l
 · exact entN
end Go.Proofs.YtgfifkhbfdacjaaGreatDoor

/- Contracts: trees of states: tree.Right. Conditions: none. -/
import Derived.Test.YtcpnicfkpkonkaaGreatDoorTc
namespace Go.Proofs.YtcpnicfkpkonkaaGreatDoor
open Go Go.Ev
set_option maxRecDepth 100000
def kidBad (s x : Ev.Stat) : Bool := s.kind == 3 && (pastM x.kind || x.kind == 4)
def realN (l : List Ev.Stat) (xs : List Int) : Nat := (xs.filter fun y => !pastM (ETy.get .stat l y.toNat).kind).length
def kidsOk (l : List Ev.Stat) (s : Ev.Stat) (xs : List Int) : Bool := xs.all fun y => !kidBad s (ETy.get .stat l y.toNat)
def okAt (l : List Ev.Stat) (k : Nat) : Bool :=
  kidsOk l (ETy.get .stat l k) (kidsM l k) && (bif (ETy.get .stat l k).kind == 2 || (ETy.get .stat l k).kind == 3 then !(realN l (kidsM l k) == 0) else (kidsM l k).length == 0)
def treeGo (l : List Ev.Stat) : Nat → Nat → Bool
  | 0, _ => true
  | n + 1, k => okAt l k && treeGo l n (k + 1)
def rightT (l : List Ev.Stat) : Bool := shapeM l && treeGo l l.length 0
theorem realN_app (l : List Ev.Stat) (pre : List Int) (x : Int) : realN l (pre ++ [x]) = realN l pre + (if pastM (ETy.get .stat l x.toNat).kind = true then 0 else 1) := by
  unfold realN
  rw [List.filter_append, List.length_append]
  cases h : pastM (ETy.get .stat l x.toNat).kind <;> simp [h]
theorem realN_le (l : List Ev.Stat) (pre : List Int) : realN l pre ≤ pre.length := List.length_filter_le _ _
theorem kidsOk_app (l : List Ev.Stat) (s : Ev.Stat) (pre : List Int) (x : Int) : kidsOk l s (pre ++ [x]) = (kidsOk l s pre && !kidBad s (ETy.get .stat l x.toNat)) := by
  unfold kidsOk; simp
theorem kidsGo_len (l : List Ev.Stat) (e : Nat) : ∀ n k, (kidsGo l e n k).length ≤ n
  | 0, _ => Nat.le_refl _
  | n + 1, k => by
    rw [kidsGo]; split
    · have := kidsGo_len l e n (endM l k); simp; omega
    · simp
theorem kidsM_len (l : List Ev.Stat) (i : Nat) : (kidsM l i).length ≤ l.length := kidsGo_len _ _ _ _


theorem rt_round (l : List Ev.Stat) (s : Ev.Stat) (hl : l.length ≤ maxLen) (k : Nat) (lp : Nat) (pre : List Int) (y : Int) (Γ : Ctx) (hds : Γ.ds = []) (hy : 0 ≤ y ∧ y < (l.length : Int)) (hg : kidsOk l s pre = true) (hlen : pre.length < l.length) :
    J Tryz.prog ⟨33, some lp⟩ (bodyOf Tryz.f33) Γ (fun v ck => (v = .x (.b true) ∧ kidsOk l s (pre ++ [y]) = true ∧ ck = (fun pre => [.cells [.pd (.lst .stat l)] 24, .cells [.pd (.bool false)] 4, .cells [.pd (.str s.name), SC.i s.kind, SC.i s.depth, .pd (.str s.initial), .pd (.lst .deed s.entry), .pd (.lst .deed s.leave)] 39, .cells [SC.i (pre.length : Int)] 3, .cells [SC.i (realN l pre : Int)] 3, .dead, .dead]) (pre ++ [y])) ∨ (v = .x (.b false) ∧ kidsOk l s (pre ++ [y]) = false ∧ ck = (fun pre => [.cells [.pd (.lst .stat l)] 24, .cells [.pd (.bool false)] 4, .cells [.pd (.str s.name), SC.i s.kind, SC.i s.depth, .pd (.str s.initial), .pd (.lst .deed s.entry), .pd (.lst .deed s.leave)] 39, .cells [SC.i (pre.length : Int)] 3, .cells [SC.i (realN l pre : Int)] 3, .dead, .dead]) (pre ++ [y]))) [.code ([1, 1, 0, 1, 0, 0, 1, 1, 0, 0, 1, 1, 0, 1, 0] ++ [1])]
      { n := 62, fr := setSlot 7 (.x (.i y)) (setSlot 21 (.x (.i y)) [(1, .x (.c (.loc 0 0))), (2, .x (.c (.loc 1 0))), (11, .x (.l .stat l)), (12, .x (.i (l.length : Int))), (13, .x (.i (k : Int))), (4, .x (.c (.loc 2 0))), (5, .x (.c (.loc 3 0))), (6, .x (.c (.loc 4 0))), (20, .x (.c (.fn (.func 126) [] [.pd (.ref .int (k : Int) 0), .pd (.ref .stats l 0)])))]), ck := [.cells [.pd (.lst .stat l)] 24, .cells [.pd (.bool false)] 4, .cells [.pd (.str s.name), SC.i s.kind, SC.i s.depth, .pd (.str s.initial), .pd (.lst .deed s.entry), .pd (.lst .deed s.leave)] 39, .cells [SC.i (pre.length : Int)] 3, .cells [SC.i (realN l pre : Int)] 3, .dead, .dead], m := ([.cells [.pd (.lst .stat l)] 24, .cells [.pd (.bool false)] 4, .cells [.pd (.str s.name), SC.i s.kind, SC.i s.depth, .pd (.str s.initial), .pd (.lst .deed s.entry), .pd (.lst .deed s.leave)] 39, .cells [SC.i (pre.length : Int)] 3, .cells [SC.i (realN l pre : Int)] 3, .dead, .dead] : List Chunk).length } := by
  obtain ⟨x, rfl⟩ := Int.eq_ofNat_of_zero_le hy.1
  have hx : x < l.length := by omega
  have hm := hl
  have e1 : ((pre ++ [(x : Int)]).length : Int) = IntKind.wrap .i64 ((pre.length : Int) + 1) := by
    rw [wrapK (maxLen_lt hlen hl)]; simp
  have e2 : ∀ b, pastM (ETy.get .stat l x).kind = b → (realN l (pre ++ [(x : Int)]) : Int) = (if b = true then (realN l pre : Int) else IntKind.wrap .i64 ((realN l pre : Int) + 1)) := fun b hb => by
    rw [wrapK (maxLen_lt (Nat.lt_of_le_of_lt (realN_le l pre) hlen) hl), realN_app, Int.toNat_natCast, hb]
    cases b <;> simp
  have e3 : kidsOk l s (pre ++ [(x : Int)]) = !kidBad s (ETy.get .stat l x) := by rw [kidsOk_app, hg, Int.toNat_natCast]; rfl
  generalize hc : (pre.length : Int) = c at *
  generalize hr : (realN l pre : Int) = r at *
  show J Tryz.prog ⟨33, some lp⟩ (bodyOf Tryz.f33) Γ _ [.code [1, 1, 0, 1, 0, 0, 1, 1, 0, 0, 1, 1, 0, 1, 0, 1]] { n := 62, fr := [(1, .x (.c (.loc 0 0))), (2, .x (.c (.loc 1 0))), (11, .x (.l .stat l)), (12, .x (.i (l.length : Int))), (13, .x (.i (k : Int))), (4, .x (.c (.loc 2 0))), (5, .x (.c (.loc 3 0))), (6, .x (.c (.loc 4 0))), (20, .x (.c (.fn (.func 126) [] [.pd (.ref .int (k : Int) 0), .pd (.ref .stats l 0)]))), (21, .x (.i (x : Int))), (7, .x (.i (x : Int)))], ck := [.cells [.pd (.lst .stat l)] 24, .cells [.pd (.bool false)] 4, .cells [.pd (.str s.name), SC.i s.kind, SC.i s.depth, .pd (.str s.initial), .pd (.lst .deed s.entry), .pd (.lst .deed s.leave)] 39, .cells [SC.i c] 3, .cells [SC.i r] 3, .dead, .dead], m := 7 }
  refine J.goR (cfg := cfgRt) cfgRt_ok (fn := rdFn Tryz.f33) (by kernel_rfl) 1000 (t := (.need ((0 : Int) ≤ (↑x : Int) ∧ (↑x : Int) < (↑(List.length l) : Int)) (.ite (!pastM (Stat.kind (ETy.get .stat l x))) (.need ((Stat.kind s == (3 : Int)) = true → (0 : Int) ≤ (↑x : Int) ∧ (↑x : Int) < (↑(List.length l) : Int)) (.need ((Stat.kind s == (3 : Int)) = true ∧ pastM (Stat.kind (ETy.get .stat l x)) = false → (0 : Int) ≤ (↑x : Int) ∧ (↑x : Int) < (↑(List.length l) : Int)) (.ite (Stat.kind s == (3 : Int) && (pastM (Stat.kind (ETy.get .stat l x)) || Stat.kind (ETy.get .stat l x) == (4 : Int))) (.stop [.code [1, 1, 0, 1, 0, 0, 1, 1, 0, 0, 1, 1, 0, 1, 0, 1, 0, 1, 1, 1, 0, 1], .inBlock 3] { n := 62, fr := [(2, .x (.c (.loc 1 0)))], ck := [.cells [.pd (.lst .stat l)] 24, .cells [.pd (.bool false)] 4, .cells [.pd (.str (Stat.name s)), .i (Stat.kind s), .i (Stat.depth s), .pd (.str (Stat.initial s)), .pd (.lst .deed (Stat.entry s)), .pd (.lst .deed (Stat.leave s))] 39, .cells [.i (IntKind.wrap .i64 (c + (1 : Int)))] 3, .cells [.i (IntKind.wrap .i64 (r + (1 : Int)))] 3, .dead, .dead], m := 7 }) (.stop [] { n := 62, fr := [(2, .x (.c (.loc 1 0)))], ck := [.cells [.pd (.lst .stat l)] 24, .cells [.pd (.bool false)] 4, .cells [.pd (.str (Stat.name s)), .i (Stat.kind s), .i (Stat.depth s), .pd (.str (Stat.initial s)), .pd (.lst .deed (Stat.entry s)), .pd (.lst .deed (Stat.leave s))] 39, .cells [.i (IntKind.wrap .i64 (c + (1 : Int)))] 3, .cells [.i (IntKind.wrap .i64 (r + (1 : Int)))] 3, .dead, .dead], m := 7 })))) (.need ((Stat.kind s == (3 : Int)) = true → (0 : Int) ≤ (↑x : Int) ∧ (↑x : Int) < (↑(List.length l) : Int)) (.need ((Stat.kind s == (3 : Int)) = true ∧ pastM (Stat.kind (ETy.get .stat l x)) = false → (0 : Int) ≤ (↑x : Int) ∧ (↑x : Int) < (↑(List.length l) : Int)) (.ite (Stat.kind s == (3 : Int) && (pastM (Stat.kind (ETy.get .stat l x)) || Stat.kind (ETy.get .stat l x) == (4 : Int))) (.stop [.code [1, 1, 0, 1, 0, 0, 1, 1, 0, 0, 1, 1, 0, 1, 0, 1, 0, 1, 1, 1, 0, 1], .inBlock 3] { n := 62, fr := [(2, .x (.c (.loc 1 0)))], ck := [.cells [.pd (.lst .stat l)] 24, .cells [.pd (.bool false)] 4, .cells [.pd (.str (Stat.name s)), .i (Stat.kind s), .i (Stat.depth s), .pd (.str (Stat.initial s)), .pd (.lst .deed (Stat.entry s)), .pd (.lst .deed (Stat.leave s))] 39, .cells [.i (IntKind.wrap .i64 (c + (1 : Int)))] 3, .cells [.i r] 3, .dead, .dead], m := 7 }) (.stop [] { n := 62, fr := [(2, .x (.c (.loc 1 0)))], ck := [.cells [.pd (.lst .stat l)] 24, .cells [.pd (.bool false)] 4, .cells [.pd (.str (Stat.name s)), .i (Stat.kind s), .i (Stat.depth s), .pd (.str (Stat.initial s)), .pd (.lst .deed (Stat.entry s)), .pd (.lst .deed (Stat.leave s))] 39, .cells [.i (IntKind.wrap .i64 (c + (1 : Int)))] 3, .cells [.i r] 3, .dead, .dead], m := 7 }))))))) (by kernel_rfl) ?_
  have hb : (0 : Int) ≤ (x : Int) ∧ (x : Int) < (l.length : Int) := ⟨by omega, by omega⟩
  have hck : ∀ b, pastM (ETy.get .stat l x).kind = b → (fun pre : List Int => ([.cells [.pd (.lst .stat l)] 24, .cells [.pd (.bool false)] 4, .cells [.pd (.str s.name), SC.i s.kind, SC.i s.depth, .pd (.str s.initial), .pd (.lst .deed s.entry), .pd (.lst .deed s.leave)] 39, .cells [SC.i (pre.length : Int)] 3, .cells [SC.i (realN l pre : Int)] 3, .dead, .dead] : List Chunk)) (pre ++ [(x : Int)]) = [.cells [.pd (.lst .stat l)] 24, .cells [.pd (.bool false)] 4, .cells [.pd (.str s.name), SC.i s.kind, SC.i s.depth, .pd (.str s.initial), .pd (.lst .deed s.entry), .pd (.lst .deed s.leave)] 39, .cells [SC.i (IntKind.wrap .i64 (c + 1))] 3, .cells [SC.i (if b = true then r else IntKind.wrap .i64 (r + 1))] 3, .dead, .dead] := fun b hb => by
    show [_, _, _, Chunk.cells [SC.i ((pre ++ [(x : Int)]).length : Int)] _, Chunk.cells [SC.i (realN l (pre ++ [(x : Int)]) : Int)] _, _, _] = _
    rw [e1, e2 b hb]
  refine ⟨hb, fun h1 => ⟨fun _ => hb, fun _ => hb, fun h2 => ?_, fun h2 => ?_⟩, fun h1 => ⟨fun _ => hb, fun _ => hb, fun h2 => ?_, fun h2 => ?_⟩⟩
  · refine J.roundRet hds (by kernel_rfl) (.inr ⟨rfl, by rw [e3]; exact congrArg not h2, ?_⟩)
    rw [hck false (by simpa using h1)]; rfl
  · refine J.roundEnd hds (.inl ⟨rfl, by rw [e3]; exact congrArg not h2, ?_⟩)
    rw [hck false (by simpa using h1)]; rfl
  · refine J.roundRet hds (by kernel_rfl) (.inr ⟨rfl, by rw [e3]; exact congrArg not h2, ?_⟩)
    rw [hck true (by simpa using h1)]; rfl
  · refine J.roundEnd hds (.inl ⟨rfl, by rw [e3]; exact congrArg not h2, ?_⟩)
    rw [hck true (by simpa using h1)]; rfl
theorem rt_loop (l : List Ev.Stat) (hl : l.length ≤ maxLen) : ∀ (n k : Nat) (Γ : Ctx), l.length - k = n → k ≤ l.length →
    J Tryz.prog 33 (bodyOf Tryz.f33) Γ (Eq2 (.x (.b (treeGo l n k))) []) [.code [1, 1, 0, 1, 0, 0], .inLoop [1, 1, 0, 1, 0, 0], .inBlock 0, .code [1, 1, 1]] ({ n := 62, fr := [(1, .x (.c (.loc 0 0))), (2, .x (.c (.loc 1 0))), (11, .p (.lst .stat l)), (12, .i (↑(List.length l) : Int)), (13, .i ((k : Int)))], ck := [.cells [.pd (.lst .stat l)] 24, .cells [.pd (.bool false)] 4] }) := by
  intro n
  induction n with
  | zero => ?_
  | succ n ih => ?_
  all_goals
    intro k Γ hn hk
    refine J.go (cfg := cfgRt) cfgRt_ok Tryz.func33 1000 (t := (.ite (decide ((↑k : Int) < (↑(List.length l) : Int))) (.need ((0 : Int) ≤ (↑k : Int) ∧ (↑k : Int) < (↑(List.length l) : Int)) (.stop [.code [1, 1, 0, 1, 0, 0, 1, 1, 0, 0, 1, 1, 0, 1, 0], .inBlock 2, .code [1, 1, 0, 1, 0, 0, 1, 1, 0, 0, 1, 1, 1], .inBlock 1, .code [1, 1, 0, 1, 0, 0, 1, 1, 1], .inLoop [1, 1, 0, 1, 0, 0], .inBlock 0, .code [1, 1, 1]] { n := 62, fr := [(1, .x (.c (.loc 0 0))), (2, .x (.c (.loc 1 0))), (11, .p (.lst .stat l)), (12, .i (↑(List.length l) : Int)), (13, .i (↑k : Int)), (4, .x (.c (.loc 2 0))), (5, .x (.c (.loc 3 0))), (6, .x (.c (.loc 4 0))), (20, .x (.c (.fn (.func 126) [] [.loc 6 0, .loc 5 0])))], ck := [.cells [.pd (.lst .stat l)] 24, .cells [.pd (.bool false)] 4, .cells [.pd (.str (Stat.name (ETy.get .stat l k))), .i (Stat.kind (ETy.get .stat l k)), .i (Stat.depth (ETy.get .stat l k)), .pd (.str (Stat.initial (ETy.get .stat l k))), .pd (.lst .deed (Stat.entry (ETy.get .stat l k))), .pd (.lst .deed (Stat.leave (ETy.get .stat l k)))] 39, .cells [.i (0 : Int)] 3, .cells [.i (0 : Int)] 3, .cells [.pd (.lst .stat l)] 24, .cells [.i (↑k : Int)] 3] })) (.ret (.p (.bool true)) []))) (by kernel_rfl) ?_
    refine ⟨fun hlt => ?_, fun hge => ?_⟩
  · have := of_decide_eq_true hlt; omega
  · exact ⟨rfl, rfl⟩
  · have hk' : k < l.length := by omega
    refine ⟨⟨by omega, by omega⟩, ?_⟩
    have hkm := kidsM_len l k
    have rest : ∀ (s : Ev.Stat), s = ETy.get .stat l k → J Tryz.prog 33 (bodyOf Tryz.f33) Γ (Eq2 (.x (.b (treeGo l (n + 1) k))) []) [.code [1, 1, 0, 1, 0, 0, 1, 1, 0, 0, 1, 1, 0, 1, 0], .inBlock 2, .code [1, 1, 0, 1, 0, 0, 1, 1, 0, 0, 1, 1, 1], .inBlock 1, .code [1, 1, 0, 1, 0, 0, 1, 1, 1], .inLoop [1, 1, 0, 1, 0, 0], .inBlock 0, .code [1, 1, 1]] { n := 62, fr := [(1, .x (.c (.loc 0 0))), (2, .x (.c (.loc 1 0))), (11, .x (.l .stat l)), (12, .x (.i (l.length : Int))), (13, .x (.i (k : Int))), (4, .x (.c (.loc 2 0))), (5, .x (.c (.loc 3 0))), (6, .x (.c (.loc 4 0))), (20, .x (.c (.fn (.func 126) [] [.pd (.ref .int (k : Int) 0), .pd (.ref .stats l 0)])))], ck := [.cells [.pd (.lst .stat l)] 24, .cells [.pd (.bool false)] 4, .cells [.pd (.str s.name), SC.i s.kind, SC.i s.depth, .pd (.str s.initial), .pd (.lst .deed s.entry), .pd (.lst .deed s.leave)] 39, .cells [SC.i 0] 3, .cells [SC.i 0] 3, .dead, .dead] } := by
      intro s hs
      have hbadK : ∀ pre, pre <+: kidsM l k → kidsOk l s pre = false → treeGo l (n + 1) k = false := fun pre hp hb => by
        obtain ⟨q, hq⟩ := hp
        have : kidsOk l s (kidsM l k) = false := by
          rw [← hq]; unfold kidsOk at hb ⊢; rw [List.all_append, hb]; rfl
        rw [treeGo, okAt, ← hs, this]; rfl
      refine J.range (ok := fun x => 0 ≤ x ∧ x < (l.length : Int)) (xs := kidsM l k) (g := 20) (s := 21) (d := 7) Tryz.func33 (by kernel_rfl) (by kernel_rfl) (by kernel_rfl) (by kernel_rfl) rfl (Go.Proofs.enters_of Tryz.func126 (by kernel_rfl) rfl) (by kernel_rfl) (kids_iter l k hk' hl)
        (fun pre => kidsOk l s pre = true) (fun pre => kidsOk l s pre = false) rfl (fun pre => [.cells [.pd (.lst .stat l)] 24, .cells [.pd (.bool false)] 4, .cells [.pd (.str s.name), SC.i s.kind, SC.i s.depth, .pd (.str s.initial), .pd (.lst .deed s.entry), .pd (.lst .deed s.leave)] 39, .cells [SC.i (pre.length : Int)] 3, .cells [SC.i (realN l pre : Int)] 3, .dead, .dead]) (fun pre => [.cells [.pd (.lst .stat l)] 24, .cells [.pd (.bool false)] 4, .cells [.pd (.str s.name), SC.i s.kind, SC.i s.depth, .pd (.str s.initial), .pd (.lst .deed s.entry), .pd (.lst .deed s.leave)] 39, .cells [SC.i (pre.length : Int)] 3, .cells [SC.i (realN l pre : Int)] 3, .dead, .dead]) rfl (fun _ => rfl) (fun _ => rfl) (fun _ => rfl) (fun _ => rfl)
        (fun lp pre x Γ hds hx _ hgd hlen => rt_round l s hl k lp pre x Γ hds hx hgd (Nat.lt_of_lt_of_le hlen hkm)) (fun hgd Γ' => ?_) (fun pre hp hb => ⟨[.c (.pd (.bool false))], by kernel_rfl, ?_, by kernel_rfl⟩)
      · have hgd' : kidsOk l s (kidsM l k) = true := hgd
        have hok : treeGo l (n + 1) k = ((bif s.kind == 2 || s.kind == 3 then !((realN l (kidsM l k) : Int) == 0) else !decide (((kidsM l k).length : Int) > 0)) && treeGo l n (k + 1)) := by
          rw [treeGo, okAt, ← hs, hgd', Bool.true_and]
          congr 1
          cases (s.kind == 2 || s.kind == 3)
          · rw [cond_false, cond_false, Bool.eq_iff_iff]; simp
          · rw [cond_true, cond_true, Bool.eq_iff_iff]; simp
        generalize ((kidsM l k).length : Int) = c at hok
        generalize (realN l (kidsM l k) : Int) = r at hok
        show J Tryz.prog 33 (bodyOf Tryz.f33) Γ' _ _ { n := 62, fr := [(1, .x (.c (.loc 0 0))), (2, .x (.c (.loc 1 0))), (11, .x (.l .stat l)), (12, .x (.i (l.length : Int))), (13, .x (.i (k : Int))), (4, .x (.c (.loc 2 0))), (5, .x (.c (.loc 3 0))), (6, .x (.c (.loc 4 0))), (20, .x (.c (.fn (.func 126) [] [.pd (.ref .int (k : Int) 0), .pd (.ref .stats l 0)])))], ck := [.cells [.pd (.lst .stat l)] 24, .cells [.pd (.bool false)] 4, .cells [.pd (.str s.name), SC.i s.kind, SC.i s.depth, .pd (.str s.initial), .pd (.lst .deed s.entry), .pd (.lst .deed s.leave)] 39, .cells [SC.i c] 3, .cells [SC.i r] 3, .dead, .dead] }
        refine J.go (cfg := cfgRt) cfgRt_ok Tryz.func33 1000 (t := (.ite (Stat.kind s == (2 : Int)) (.ite (r == (0 : Int)) (.ret (.p (.bool false)) []) (.stop [.code [1, 1, 0, 1, 0, 0], .inLoop [1, 1, 0, 1, 0, 0], .inBlock 0, .code [1, 1, 1]] { n := 62, fr := [(1, .x (.c (.loc 0 0))), (2, .x (.c (.loc 1 0))), (11, .p (.lst .stat l)), (12, .i (↑(List.length l) : Int)), (13, .i (IntKind.wrap .i64 ((↑k : Int) + (1 : Int))))], ck := [.cells [.pd (.lst .stat l)] 24, .cells [.pd (.bool false)] 4] })) (.ite (Stat.kind s == (3 : Int)) (.ite (r == (0 : Int)) (.ret (.p (.bool false)) []) (.stop [.code [1, 1, 0, 1, 0, 0], .inLoop [1, 1, 0, 1, 0, 0], .inBlock 0, .code [1, 1, 1]] { n := 62, fr := [(1, .x (.c (.loc 0 0))), (2, .x (.c (.loc 1 0))), (11, .p (.lst .stat l)), (12, .i (↑(List.length l) : Int)), (13, .i (IntKind.wrap .i64 ((↑k : Int) + (1 : Int))))], ck := [.cells [.pd (.lst .stat l)] 24, .cells [.pd (.bool false)] 4] })) (.ite (decide (c > (0 : Int))) (.ret (.p (.bool false)) []) (.stop [.code [1, 1, 0, 1, 0, 0], .inLoop [1, 1, 0, 1, 0, 0], .inBlock 0, .code [1, 1, 1]] { n := 62, fr := [(1, .x (.c (.loc 0 0))), (2, .x (.c (.loc 1 0))), (11, .p (.lst .stat l)), (12, .i (↑(List.length l) : Int)), (13, .i (IntKind.wrap .i64 ((↑k : Int) + (1 : Int))))], ck := [.cells [.pd (.lst .stat l)] 24, .cells [.pd (.bool false)] 4] }))))) (by kernel_rfl) ?_
        have hrec := ih (k + 1) Γ' (by omega) (by omega)
        rw [wrapK (maxLen_lt hk' hl)]
        refine ⟨fun h2 => ⟨fun h0 => ?_, fun h0 => ?_⟩, fun h2 => ⟨fun h3 => ⟨fun h0 => ?_, fun h0 => ?_⟩, fun h3 => ⟨fun h0 => ?_, fun h0 => ?_⟩⟩⟩
        · have e : treeGo l (n + 1) k = false := by rw [hok, h2, h0]; rfl
          rw [e]; exact ⟨rfl, rfl⟩
        · have e : treeGo l (n + 1) k = treeGo l n (k + 1) := by rw [hok, h2, h0]; rfl
          rw [e]; exact hrec
        · have e : treeGo l (n + 1) k = false := by rw [hok, h2, h3, h0]; rfl
          rw [e]; exact ⟨rfl, rfl⟩
        · have e : treeGo l (n + 1) k = treeGo l n (k + 1) := by rw [hok, h2, h3, h0]; rfl
          rw [e]; exact hrec
        · have e : treeGo l (n + 1) k = false := by rw [hok, h2, h3, h0]; rfl
          rw [e]; exact ⟨rfl, rfl⟩
        · have e : treeGo l (n + 1) k = treeGo l n (k + 1) := by rw [hok, h2, h3, h0]; rfl
          rw [e]; exact hrec
      · show _ = SV.x (.b (treeGo l (n + 1) k))
        rw [hbadK pre hp hb]; kernel_rfl
    exact J.freeze tys0 [5, 6] (by kernel_rfl) (rest (ETy.get .stat l k) rfl)
  · have := of_decide_eq_false hge; omega
theorem tright_spec (l : List Ev.Stat) (hl : l.length ≤ maxLen) : Does Tryz.prog 33 [.l .stat l] [] (.x (.b (rightT l))) [] := by
  refine Does.go (cfg := cfgRt) cfgRt_ok Tryz.func33 (by kernel_rfl) (by kernel_rfl) (t := (.need (List.length l ≤ maxLen) (.ite (!shapeM l) (.ret (.p (.bool false)) []) (.stop [.code [1, 1, 0, 1, 0, 0], .inLoop [1, 1, 0, 1, 0, 0], .inBlock 0, .code [1, 1, 1]] { n := 62, fr := [(1, .x (.c (.loc 0 0))), (2, .x (.c (.loc 1 0))), (11, .p (.lst .stat l)), (12, .i (↑(List.length l) : Int)), (13, .i (0 : Int))], ck := [.cells [.pd (.lst .stat l)] 24, .cells [.pd (.bool false)] 4] })))) (by kernel_rfl) fun Γ => ?_
  refine ⟨hl, fun h => ?_, fun h => ?_⟩
  · have h' : shapeM l = false := by simpa using h
    unfold rightT; rw [h']; exact ⟨rfl, rfl⟩
  · have h' : shapeM l = true := by simpa using h
    unfold rightT; rw [h', Bool.true_and]
    exact rt_loop l hl l.length 0 Γ (by omega) (by omega)
def eRightT : Nat × (List SX → List Chunk → Option (Option Prop × SV × List Chunk)) := (33, fun
  | [.c (.pd (.lst .stat l))], [] => some (some (l.length ≤ maxLen), .x (.c (.pd (.bool (rightT l)))), [])
  | _, _ => none)
theorem eRightT_ok (vs : List SX) (ck : List Chunk) (p : Option Prop) (ret : SV) (ck' : List Chunk) (h : eRightT.2 vs ck = some (p, ret, ck')) (hp : Holds p) : Does Tryz.prog eRightT.1 vs ck ret ck' := by
  unfold eRightT at h
  simp only at h
  split at h
  · rename_i l
    simp only [Option.some.injEq, Prod.mk.injEq] at h
    obtain ⟨rfl, rfl, rfl⟩ := h
    exact tright_spec l hp
  · simp at h
end Go.Proofs.YtcpnicfkpkonkaaGreatDoor

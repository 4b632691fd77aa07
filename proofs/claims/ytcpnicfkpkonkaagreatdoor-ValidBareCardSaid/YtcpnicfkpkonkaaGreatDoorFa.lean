/- Contracts: trees of states: parents, what is within, domains. Conditions: sizes. Contracts of the program's functions on names and cells. Conditions: none. -/
import Derived.Test.YtcpnicfkpkonkaaGreatDoorTd
import Derived.Test.YtcpnicfkpkonkaaGreatDoorTa
namespace Go.Proofs.YtcpnicfkpkonkaaGreatDoor
open Go Go.Ev
set_option maxRecDepth 100000
def thasM (l : List Ev.Stat) (i : Int) : Bool := decide (0 ≤ i) && decide (i < (l.length : Int)) && rightT l
def upGo (l : List Ev.Stat) (d : Int) : Nat → Int
  | 0 => -1
  | k + 1 => if (ETy.get .stat l k).depth < d then (k : Int) else upGo l d k
def upM (l : List Ev.Stat) (i : Nat) : Int := upGo l (ETy.get .stat l i).depth i
def parentM (l : List Ev.Stat) (i : Int) : Int := if thasM l i = true then upM l i.toNat else -1
def withinM (l : List Ev.Stat) (i j : Int) : Bool := thasM l i && thasM l j && decide (j > i) && decide (j < ((endM l i.toNat : Nat) : Int))
def domGo (l : List Ev.Stat) (j : Int) : Nat → Int → Int
  | 0, _ => -1
  | n + 1, k => if k < 0 then -1 else if ((ETy.get .stat l k.toNat).kind == 2 && decide (j > k) && decide (j < ((endM l k.toNat : Nat) : Int))) = true then k else domGo l j n (upM l k.toNat)
def domM (l : List Ev.Stat) (i j : Int) : Int := if (thasM l i && thasM l j) = true then domGo l j (l.length + 1) i else -1
theorem upGo_in (l : List Ev.Stat) (d : Int) : ∀ k : Nat, -1 ≤ upGo l d k ∧ upGo l d k < (k : Int)
  | 0 => by rw [upGo]; omega
  | k + 1 => by
    have := upGo_in l d k
    rw [upGo]; split <;> omega
theorem thas_in {l : List Ev.Stat} {i : Int} (h : thasM l i = true) : 0 ≤ i ∧ i < (l.length : Int) := by
  unfold thasM at h
  simp only [Bool.and_eq_true, decide_eq_true_eq] at h
  exact h.1
theorem tend_int (l : List Ev.Stat) (i : Int) (h : 0 ≤ i ∧ i < (l.length : Int) ∧ l.length ≤ maxLen) : Does Tryz.prog 127 [.l .stat l, .i i] [] (.x (.i (endM l i.toNat : Nat))) [] := by
  obtain ⟨k, rfl⟩ := Int.eq_ofNat_of_zero_le h.1
  rw [Int.toNat_natCast]
  exact tend_spec l k (by omega) h.2.2
def eTend : Nat × (List SX → List Chunk → Option (Option Prop × SV × List Chunk)) := (127, fun
  | [.c (.pd (.lst .stat l)), .c (.pd (.int .i64 i))], [] => some (some (0 ≤ i ∧ i < (l.length : Int) ∧ l.length ≤ maxLen), .x (.c (.pd (.int .i64 (endM l i.toNat : Nat)))), [])
  | _, _ => none)
theorem eTend_ok (vs : List SX) (ck : List Chunk) (p : Option Prop) (ret : SV) (ck' : List Chunk) (h : eTend.2 vs ck = some (p, ret, ck')) (hp : Holds p) : Does Tryz.prog eTend.1 vs ck ret ck' := by
  unfold eTend at h
  simp only at h
  split at h
  · rename_i l i
    simp only [Option.some.injEq, Prod.mk.injEq] at h
    obtain ⟨rfl, rfl, rfl⟩ := h
    exact tend_int l i hp
  · simp at h
def cfgTh : Cfg := ⟨tys0, [eRightT]⟩
theorem cfgTh_ok : TabOk Tryz.prog cfgTh.tab := (TabOk.cons eRightT_ok TabOk.nil)
theorem thas_spec (l : List Ev.Stat) (i : Int) (hl : l.length ≤ maxLen) : Does Tryz.prog 128 [.l .stat l, .i i] [] (.x (.b (thasM l i))) [] := by
  refine Does.go (cfg := cfgTh) cfgTh_ok Tryz.func128 (by kernel_rfl) (by kernel_rfl) (t := (.need ((decide (i ≥ (0 : Int)) && decide (i < (↑(List.length l) : Int))) = true → List.length l ≤ maxLen) (.ret (.p (.bool (decide (i ≥ (0 : Int)) && decide (i < (↑(List.length l) : Int)) && rightT l))) []))) (by kernel_rfl) fun Γ => ?_
  exact ⟨fun _ => hl, rfl, rfl⟩
def eThas : Nat × (List SX → List Chunk → Option (Option Prop × SV × List Chunk)) := (128, fun
  | [.c (.pd (.lst .stat l)), .c (.pd (.int .i64 i))], [] => some (some (l.length ≤ maxLen), .x (.c (.pd (.bool (thasM l i)))), [])
  | _, _ => none)
theorem eThas_ok (vs : List SX) (ck : List Chunk) (p : Option Prop) (ret : SV) (ck' : List Chunk) (h : eThas.2 vs ck = some (p, ret, ck')) (hp : Holds p) : Does Tryz.prog eThas.1 vs ck ret ck' := by
  unfold eThas at h
  simp only at h
  split at h
  · rename_i l i
    simp only [Option.some.injEq, Prod.mk.injEq] at h
    obtain ⟨rfl, rfl, rfl⟩ := h
    exact thas_spec l i hp
  · simp at h

theorem up_loop (l : List Ev.Stat) (i : Nat) (hi : i < l.length) (hl : l.length ≤ maxLen) (Γ : Ctx) : ∀ j : Nat, j ≤ i →
    J Tryz.prog 129 (bodyOf Tryz.f129) Γ (Eq2 (.x (.i (upGo l (ETy.get .stat l i).depth j))) []) [.code [1, 0, 1, 0, 0], .inLoop [1, 0, 1, 0, 0], .inBlock 0, .code [1, 1]] ({ n := 24, fr := [(0, .p (.lst .stat l)), (1, .i (↑i : Int)), (4, .i (0 : Int)), (5, .i (((j : Int) - 1)))], ck := [] }) := by
  have hm := maxLen_lt hi hl
  intro j
  induction j with
  | zero => ?_
  | succ j ih => ?_
  all_goals intro hj
  · refine J.go (cfg := cfg0) cfg0_ok Tryz.func129 1000 (t := (.ite false (.need ((0 : Int) ≤ (↑(0 : Nat) : Int) - (1 : Int) ∧ (↑(0 : Nat) : Int) - (1 : Int) < (↑(List.length l) : Int)) (.need ((0 : Int) ≤ (↑i : Int) ∧ (↑i : Int) < (↑(List.length l) : Int)) (.ite (decide (Stat.depth (ETy.get .stat l 0) < Stat.depth (ETy.get .stat l i))) (.ret (.i ((↑(0 : Nat) : Int) - (1 : Int))) []) (.stop [.code [1, 0, 1, 0, 0], .inLoop [1, 0, 1, 0, 0], .inBlock 0, .code [1, 1]] { n := 24, fr := [(0, .p (.lst .stat l)), (1, .i (↑i : Int)), (4, .i (0 : Int)), (5, .i (IntKind.wrap .i64 ((↑(0 : Nat) : Int) - (1 : Int) - (1 : Int))))], ck := [] })))) (.ret (.i (-1 : Int)) []))) (by kernel_rfl) ?_
    exact ⟨fun h => Bool.noConfusion h, fun _ => ⟨rfl, rfl⟩⟩
  · refine J.go (cfg := cfg0) cfg0_ok Tryz.func129 1000 (t := (.ite (decide ((↑(j + 1) : Int) - (1 : Int) ≥ (0 : Int))) (.need ((0 : Int) ≤ (↑(j + 1) : Int) - (1 : Int) ∧ (↑(j + 1) : Int) - (1 : Int) < (↑(List.length l) : Int)) (.need ((0 : Int) ≤ (↑i : Int) ∧ (↑i : Int) < (↑(List.length l) : Int)) (.ite (decide (Stat.depth (ETy.get .stat l (Int.toNat ((↑(j + 1) : Int) - (1 : Int)))) < Stat.depth (ETy.get .stat l i))) (.ret (.i ((↑(j + 1) : Int) - (1 : Int))) []) (.stop [.code [1, 0, 1, 0, 0], .inLoop [1, 0, 1, 0, 0], .inBlock 0, .code [1, 1]] { n := 24, fr := [(0, .p (.lst .stat l)), (1, .i (↑i : Int)), (4, .i (0 : Int)), (5, .i (IntKind.wrap .i64 ((↑(j + 1) : Int) - (1 : Int) - (1 : Int))))], ck := [] })))) (.ret (.i (-1 : Int)) []))) (by kernel_rfl) ?_
    have e : ((j + 1 : Nat) : Int) - 1 = (j : Int) := by omega
    rw [e, Int.toNat_natCast]
    refine ⟨fun _ => ⟨⟨by omega, by omega⟩, ⟨by omega, by omega⟩, fun h => ?_, fun h => ?_⟩, fun h => absurd (of_decide_eq_false h) (by omega)⟩
    · have h' := of_decide_eq_true h
      rw [upGo, if_pos h']; exact ⟨rfl, rfl⟩
    · have h' := of_decide_eq_false h
      rw [upGo, if_neg h', wrapI (by omega) (by omega)]; exact ih (by omega)
theorem tup_spec (l : List Ev.Stat) (i : Int) (h : 0 ≤ i ∧ i < (l.length : Int) ∧ l.length ≤ maxLen) : Does Tryz.prog 129 [.l .stat l, .i i] [] (.x (.i (upM l i.toNat))) [] := by
  obtain ⟨k, rfl⟩ := Int.eq_ofNat_of_zero_le h.1
  rw [Int.toNat_natCast]
  have hk : k < l.length := by omega
  have hm := maxLen_lt hk h.2.2
  have key : Does Tryz.prog 129 [.l .stat l, .i (k : Int)] [] (.x (.i (upM l k))) [] := by
    refine Does.go (cfg := cfg0) cfg0_ok Tryz.func129 (by kernel_rfl) (by kernel_rfl) (t := (.stop [.code [1, 0, 1, 0, 0], .inLoop [1, 0, 1, 0, 0], .inBlock 0, .code [1, 1]] { n := 24, fr := [(0, .p (.lst .stat l)), (1, .i (↑k : Int)), (4, .i (0 : Int)), (5, .i (IntKind.wrap .i64 ((↑k : Int) - (1 : Int))))], ck := [] })) (by kernel_rfl) fun Γ => ?_
    rw [wrapI (by omega) (by omega)]
    exact up_loop l k hk h.2.2 Γ k (Nat.le_refl _)
  exact key
def eTup : Nat × (List SX → List Chunk → Option (Option Prop × SV × List Chunk)) := (129, fun
  | [.c (.pd (.lst .stat l)), .c (.pd (.int .i64 i))], [] => some (some (0 ≤ i ∧ i < (l.length : Int) ∧ l.length ≤ maxLen), .x (.c (.pd (.int .i64 (upM l i.toNat)))), [])
  | _, _ => none)
theorem eTup_ok (vs : List SX) (ck : List Chunk) (p : Option Prop) (ret : SV) (ck' : List Chunk) (h : eTup.2 vs ck = some (p, ret, ck')) (hp : Holds p) : Does Tryz.prog eTup.1 vs ck ret ck' := by
  unfold eTup at h
  simp only at h
  split at h
  · rename_i l i
    simp only [Option.some.injEq, Prod.mk.injEq] at h
    obtain ⟨rfl, rfl, rfl⟩ := h
    exact tup_spec l i hp
  · simp at h
def cfgTp : Cfg := ⟨tys0, [eThas, eTup, eTend]⟩
theorem cfgTp_ok : TabOk Tryz.prog cfgTp.tab := (TabOk.cons eThas_ok (TabOk.cons eTup_ok (TabOk.cons eTend_ok TabOk.nil)))
theorem tparent_spec (l : List Ev.Stat) (i : Int) (hl : l.length ≤ maxLen) : Does Tryz.prog 75 [.l .stat l, .i i] [] (.x (.i (parentM l i))) [] := by
  refine Does.go (cfg := cfgTp) cfgTp_ok Tryz.func75 (by kernel_rfl) (by kernel_rfl) (t := (.need (List.length l ≤ maxLen) (.ite (!thasM l i) (.ret (.i (-1 : Int)) []) (.need ((0 : Int) ≤ i ∧ i < (↑(List.length l) : Int) ∧ List.length l ≤ maxLen) (.ret (.i (upM l (Int.toNat i))) []))))) (by kernel_rfl) fun Γ => ?_
  refine ⟨hl, fun h => ?_, fun h => ?_⟩
  · have h' : thasM l i = false := by simpa using h
    unfold parentM; rw [if_neg (by rw [h']; decide)]; exact ⟨rfl, rfl⟩
  · have h' : thasM l i = true := by simpa using h
    have := thas_in h'
    unfold parentM; rw [if_pos h']; exact ⟨⟨this.1, this.2, hl⟩, rfl, rfl⟩
def eParent : Nat × (List SX → List Chunk → Option (Option Prop × SV × List Chunk)) := (75, fun
  | [.c (.pd (.lst .stat l)), .c (.pd (.int .i64 i))], [] => some (some (l.length ≤ maxLen), .x (.c (.pd (.int .i64 (parentM l i)))), [])
  | _, _ => none)
theorem eParent_ok (vs : List SX) (ck : List Chunk) (p : Option Prop) (ret : SV) (ck' : List Chunk) (h : eParent.2 vs ck = some (p, ret, ck')) (hp : Holds p) : Does Tryz.prog eParent.1 vs ck ret ck' := by
  unfold eParent at h
  simp only at h
  split at h
  · rename_i l i
    simp only [Option.some.injEq, Prod.mk.injEq] at h
    obtain ⟨rfl, rfl, rfl⟩ := h
    exact tparent_spec l i hp
  · simp at h
theorem twithin_spec (l : List Ev.Stat) (i j : Int) (hl : l.length ≤ maxLen) : Does Tryz.prog 76 [.l .stat l, .i i, .i j] [] (.x (.b (withinM l i j))) [] := by
  refine Does.go (cfg := cfgTp) cfgTp_ok Tryz.func76 (by kernel_rfl) (by kernel_rfl) (t := (.need (List.length l ≤ maxLen) (.need (thasM l i = true → List.length l ≤ maxLen) (.need ((thasM l i && thasM l j && decide (j > i)) = true → (0 : Int) ≤ i ∧ i < (↑(List.length l) : Int) ∧ List.length l ≤ maxLen) (.ret (.p (.bool (thasM l i && thasM l j && decide (j > i) && decide (j < (↑(endM l (Int.toNat i)) : Int))))) []))))) (by kernel_rfl) fun Γ => ?_
  refine ⟨hl, fun _ => hl, fun h => ?_, rfl, rfl⟩
  simp only [Bool.and_eq_true] at h
  have := thas_in h.1.1
  exact ⟨this.1, this.2, hl⟩
def eWithin : Nat × (List SX → List Chunk → Option (Option Prop × SV × List Chunk)) := (76, fun
  | [.c (.pd (.lst .stat l)), .c (.pd (.int .i64 i)), .c (.pd (.int .i64 j))], [] => some (some (l.length ≤ maxLen), .x (.c (.pd (.bool (withinM l i j)))), [])
  | _, _ => none)
theorem eWithin_ok (vs : List SX) (ck : List Chunk) (p : Option Prop) (ret : SV) (ck' : List Chunk) (h : eWithin.2 vs ck = some (p, ret, ck')) (hp : Holds p) : Does Tryz.prog eWithin.1 vs ck ret ck' := by
  unfold eWithin at h
  simp only at h
  split at h
  · rename_i l i j
    simp only [Option.some.injEq, Prod.mk.injEq] at h
    obtain ⟨rfl, rfl, rfl⟩ := h
    exact twithin_spec l i j hp
  · simp at h

theorem do_loop (l : List Ev.Stat) (j : Int) (hl : l.length ≤ maxLen) (Γ : Ctx) : ∀ (n : Nat) (k : Int), -1 ≤ k → k < (l.length : Int) → k + 1 < (n : Int) →
    J Tryz.prog 81 (bodyOf Tryz.f81) Γ (Eq2 (.x (.i (domGo l j n k))) []) [.code [1, 1, 0, 1, 0, 0], .inLoop [1, 1, 0, 1, 0, 0], .inBlock 0, .code [1, 1, 1]] ({ n := 43, fr := [(0, .p (.lst .stat l)), (2, .i j), (6, .i (0 : Int)), (7, .i (k))], ck := [] }) := by
  intro n
  induction n with
  | zero => intro k h1 h2 h3; omega
  | succ n ih =>
    intro k h1 h2 h3
    refine J.go (cfg := cfgTp) cfgTp_ok Tryz.func81 1000 (t := (.ite (decide (k ≥ (0 : Int))) (.need ((0 : Int) ≤ k ∧ k < (↑(List.length l) : Int)) (.need ((Stat.kind (ETy.get .stat l (Int.toNat k)) == (2 : Int) && decide (j > k)) = true → (0 : Int) ≤ k ∧ k < (↑(List.length l) : Int) ∧ List.length l ≤ maxLen) (.ite (Stat.kind (ETy.get .stat l (Int.toNat k)) == (2 : Int) && decide (j > k) && decide (j < (↑(endM l (Int.toNat k)) : Int))) (.ret (.i k) []) (.need ((0 : Int) ≤ k ∧ k < (↑(List.length l) : Int) ∧ List.length l ≤ maxLen) (.stop [.code [1, 1, 0, 1, 0, 0], .inLoop [1, 1, 0, 1, 0, 0], .inBlock 0, .code [1, 1, 1]] { n := 43, fr := [(0, .p (.lst .stat l)), (2, .i j), (6, .i (0 : Int)), (7, .i (upM l (Int.toNat k)))], ck := [] }))))) (.ret (.i (-1 : Int)) []))) (by kernel_rfl) ?_
    refine ⟨fun h => ?_, fun h => ?_⟩
    · have hk : k ≥ 0 := of_decide_eq_true h
      have hup := upGo_in l (ETy.get .stat l k.toNat).depth k.toNat
      have hup' : -1 ≤ upM l k.toNat ∧ upM l k.toNat < k := by
        have : ((k.toNat : Nat) : Int) = k := Int.toNat_of_nonneg hk
        unfold upM; omega
      refine ⟨⟨hk, h2⟩, fun _ => ⟨hk, h2, hl⟩, fun hc => ?_, fun hc => ⟨⟨hk, h2, hl⟩, ?_⟩⟩
      · rw [domGo, if_neg (by omega), if_pos hc]; exact ⟨rfl, rfl⟩
      · rw [domGo, if_neg (by omega), if_neg (by rw [hc]; decide)]
        exact ih (upM l k.toNat) hup'.1 (by omega) (by omega)
    · have hk : ¬ k ≥ 0 := of_decide_eq_false h
      rw [domGo, if_pos (by omega)]; exact ⟨rfl, rfl⟩
theorem tdomain_spec (l : List Ev.Stat) (i j : Int) (hl : l.length ≤ maxLen) : Does Tryz.prog 81 [.l .stat l, .i i, .i j] [] (.x (.i (domM l i j))) [] := by
  refine Does.go (cfg := cfgTp) cfgTp_ok Tryz.func81 (by kernel_rfl) (by kernel_rfl) (t := (.need (List.length l ≤ maxLen) (.need ((!thasM l i) = false → List.length l ≤ maxLen) (.ite (!thasM l i || !thasM l j) (.ret (.i (-1 : Int)) []) (.stop [.code [1, 1, 0, 1, 0, 0], .inLoop [1, 1, 0, 1, 0, 0], .inBlock 0, .code [1, 1, 1]] { n := 43, fr := [(0, .p (.lst .stat l)), (2, .i j), (6, .i (0 : Int)), (7, .i i)], ck := [] }))))) (by kernel_rfl) fun Γ => ?_
  refine ⟨hl, fun _ => hl, fun h => ?_, fun h => ?_⟩
  · have h' : (thasM l i && thasM l j) = false := by
      cases h1 : thasM l i <;> cases h2 : thasM l j <;> simp_all
    unfold domM; rw [if_neg (by rw [h']; decide)]; exact ⟨rfl, rfl⟩
  · have h' : (thasM l i && thasM l j) = true := by
      cases h1 : thasM l i <;> cases h2 : thasM l j <;> simp_all
    have hi := thas_in (by simp only [Bool.and_eq_true] at h'; exact h'.1)
    unfold domM; rw [if_pos h']
    exact do_loop l j hl Γ (l.length + 1) i (by omega) hi.2 (by omega)
def eDomain : Nat × (List SX → List Chunk → Option (Option Prop × SV × List Chunk)) := (81, fun
  | [.c (.pd (.lst .stat l)), .c (.pd (.int .i64 i)), .c (.pd (.int .i64 j))], [] => some (some (l.length ≤ maxLen), .x (.c (.pd (.int .i64 (domM l i j)))), [])
  | _, _ => none)
theorem eDomain_ok (vs : List SX) (ck : List Chunk) (p : Option Prop) (ret : SV) (ck' : List Chunk) (h : eDomain.2 vs ck = some (p, ret, ck')) (hp : Holds p) : Does Tryz.prog eDomain.1 vs ck ret ck' := by
  unfold eDomain at h
  simp only at h
  split at h
  · rename_i l i j
    simp only [Option.some.injEq, Prod.mk.injEq] at h
    obtain ⟨rfl, rfl, rfl⟩ := h
    exact tdomain_spec l i j hp
  · simp at h


theorem name_loop (s : Str) (Γ : Ctx) (h0 : name0 s = false) : ∀ (n k : Nat), s.length - k ≤ n → k ≤ s.length → (∀ j, j < k → badB (s.getD j 0) = false) →
    J Tryz.prog 29 (bodyOf Tryz.f29) Γ (Eq2 (.x (.b (nameM s))) []) [.code [1, 1, 0, 1, 0, 0], .inLoop [1, 1, 0, 1, 0, 0], .inBlock 0, .code [1, 1, 1]] ({ n := 56, fr := [(0, .p (.str s)), (2, .p (.bool false)), (23, .i (strLen s)), (24, .i (k))], ck := [], kn := [2] }) := by
  have hlen : s.length ≤ 12 := by simp [name0, strLen] at h0; omega
  intro n
  induction n with
  | zero => ?_
  | succ n ih => ?_
  all_goals
    intro k hn hk hb
    refine J.go (cfg := cfg0) cfg0_ok Tryz.func29 1000 (t := (.ite (decide ((↑k : Int) < strLen s)) (.need ((0 : Int) ≤ (↑k : Int) ∧ (↑k : Int) < strLen s) (.ite ((decide ((↑(UInt8.toNat (List.getD s k (0 : UInt8))) : Int) < (97 : Int)) || decide ((↑(UInt8.toNat (List.getD s k (0 : UInt8))) : Int) > (122 : Int))) && (decide ((↑(UInt8.toNat (List.getD s k (0 : UInt8))) : Int) < (48 : Int)) || decide ((↑(UInt8.toNat (List.getD s k (0 : UInt8))) : Int) > (57 : Int))) && (↑(UInt8.toNat (List.getD s k (0 : UInt8))) : Int) != (95 : Int)) (.ret (.p (.bool false)) []) (.stop [.code [1, 1, 0, 1, 0, 0], .inLoop [1, 1, 0, 1, 0, 0], .inBlock 0, .code [1, 1, 1]] { n := 56, fr := [(0, .p (.str s)), (2, .p (.bool false)), (23, .i (strLen s)), (24, .i (IntKind.wrap .i64 ((↑k : Int) + (1 : Int))))], ck := [], kn := [2] }))) (.ite (s == [(116 : UInt8), 114, 117, 101]) (.ret (.p (.bool false)) []) (.ite (s == [(102 : UInt8), 97, 108, 115, 101]) (.ret (.p (.bool false)) []) (.ite (s == [(105 : UInt8), 110]) (.ret (.p (.bool false)) []) (.ite (s == [(114 : UInt8), 101]) (.ret (.p (.bool false)) []) (.ite (s == [(105 : UInt8), 109]) (.ret (.p (.bool false)) []) (.ret (.p (.bool true)) [])))))))) (by kernel_rfl) ?_
    have hend : ¬ k < s.length → s.any badB = false := fun h => not_any_getD fun j hj => hb j (by omega)
    refine ⟨fun hlt => ⟨?_, fun hbad => ⟨?_, rfl⟩, fun hok => ?_⟩, fun hge => ?_⟩
    · have := of_decide_eq_true hlt; simp only [strLen] at this ⊢; omega
    · have := of_decide_eq_true hlt; simp only [strLen] at this
      have hbad' : badB (s.getD k 0) = true := hbad
      simp only [nameM, any_getD (by omega) hbad']; simp
    · have := of_decide_eq_true hlt; simp only [strLen] at this
      first
      | (exfalso; omega)
      | (rw [wrapK (by omega)]
         exact ih (k + 1) (by omega) (by omega) fun j hj => if e : j = k then by rw [e]; exact hok else hb j (by omega))
    · have := of_decide_eq_false hge; simp only [strLen] at this
      have hany := hend (by omega)
      refine ⟨fun h1 => ⟨?_, rfl⟩, fun h1 => ⟨fun h2 => ⟨?_, rfl⟩, fun h2 => ⟨fun h3 => ⟨?_, rfl⟩, fun h3 => ⟨fun h4 => ⟨?_, rfl⟩, fun h4 => ⟨fun h5 => ⟨?_, rfl⟩, fun h5 => ⟨?_, rfl⟩⟩⟩⟩⟩⟩ <;>
        simp [nameM, h0, hany, words5, *]
theorem name_spec (s : Str) : Does Tryz.prog 29 [.s s] [] (.x (.b (nameM s))) [] := by
  refine Does.go (cfg := cfg0) cfg0_ok Tryz.func29 (by kernel_rfl) (by kernel_rfl) (t := (.need ((s == [] || decide (strLen s > (12 : Int))) = false → (0 : Int) ≤ (0 : Int) ∧ (0 : Int) < strLen s) (.need ((s == [] || decide (strLen s > (12 : Int)) || decide ((↑(UInt8.toNat (List.getD s 0 (0 : UInt8))) : Int) < (97 : Int))) = false → (0 : Int) ≤ (0 : Int) ∧ (0 : Int) < strLen s) (.ite (s == [] || decide (strLen s > (12 : Int)) || decide ((↑(UInt8.toNat (List.getD s 0 (0 : UInt8))) : Int) < (97 : Int)) || decide ((↑(UInt8.toNat (List.getD s 0 (0 : UInt8))) : Int) > (122 : Int))) (.ret (.p (.bool false)) []) (.stop [.code [1, 1, 0, 1, 0, 0], .inLoop [1, 1, 0, 1, 0, 0], .inBlock 0, .code [1, 1, 1]] { n := 56, fr := [(0, .p (.str s)), (2, .p (.bool false)), (23, .i (strLen s)), (24, .i (0 : Int))], ck := [], kn := [2] }))))) (by kernel_rfl) fun Γ => ?_
  have hpos : (s == [] || decide (strLen s > 12)) = false → 0 ≤ (0 : Int) ∧ 0 < strLen s := by
    intro h
    cases s with
    | nil => simp at h
    | cons c r => simp [strLen]
  refine ⟨hpos, fun h => hpos ?_, fun h => ⟨?_, rfl⟩, fun h => ?_⟩
  · simp only [Bool.or_eq_false_iff] at h ⊢; exact h.1
  · have h' : name0 s = true := h
    simp [nameM, h']
  · exact name_loop s _ h s.length 0 (by omega) (by omega) (fun j hj => by omega)
def eName : Nat × (List SX → List Chunk → Option (Option Prop × SV × List Chunk)) := (29, fun
  | [.c (.pd (.str s))], [] => some (none, .x (.c (.pd (.bool (nameM s)))), [])
  | _, _ => none)
theorem eName_ok (vs : List SX) (ck : List Chunk) (p : Option Prop) (ret : SV) (ck' : List Chunk) (h : eName.2 vs ck = some (p, ret, ck')) (hp : Holds p) : Does Tryz.prog eName.1 vs ck ret ck' := by
  unfold eName at h
  simp only at h
  split at h
  · rename_i s
    simp only [Option.some.injEq, Prod.mk.injEq] at h
    obtain ⟨rfl, rfl, rfl⟩ := h
    exact name_spec s
  · simp at h
def cfgName : Cfg := ⟨tys0, [eName]⟩
theorem cfgName_ok : TabOk Tryz.prog cfgName.tab := (TabOk.cons eName_ok TabOk.nil)
theorem wants_spec (op a : Int) (s : Str) : Does Tryz.prog 150 [.agg [.i op, .i a, .pd (.str s)]] [] (.x (.i (wantsM op a s))) [] := by
  refine Does.go (cfg := cfgName) cfgName_ok Tryz.func150 (by kernel_rfl) (by kernel_rfl) (t := (.ite (op == (1 : Int)) (.ite (decide (a < (0 : Int)) || decide (a > (1099511627776 : Int)) || !s == []) (.ret (.i (-1 : Int)) []) (.ret (.i (0 : Int)) [])) (.ite (op == (2 : Int)) (.ite (decide (a < (0 : Int)) || decide (a > (1048576 : Int)) || !s == []) (.ret (.i (-1 : Int)) []) (.ret (.i (0 : Int)) [])) (.ite (op == (5 : Int)) (.ite (a != (0 : Int) || !nameM s) (.ret (.i (-1 : Int)) []) (.ret (.i (0 : Int)) [])) (.ite (op == (6 : Int)) (.ite (a != (0 : Int) || !nameM s) (.ret (.i (-1 : Int)) []) (.ret (.i (0 : Int)) [])) (.ite (decide (op < (3 : Int)) || decide (op > (23 : Int)) || a != (0 : Int) || !s == []) (.ret (.i (-1 : Int)) []) (.ite (decide (op ≤ (4 : Int))) (.ret (.i (0 : Int)) []) (.ite (decide (op ≤ (10 : Int))) (.ret (.i (1 : Int)) []) (.ret (.i (2 : Int)) []))))))))) (by kernel_rfl) fun Γ => ?_
  (repeat' (first | intro h | constructor)) <;> simp only [wantsM, *, cond_true, cond_false]
def eWants : Nat × (List SX → List Chunk → Option (Option Prop × SV × List Chunk)) := (150, fun
  | [.agg [.pd (.int .i64 op), .pd (.int .i64 a), .pd (.str s)]], [] => some (none, .x (.c (.pd (.int .i64 (wantsM op a s)))), [])
  | _, _ => none)
theorem eWants_ok (vs : List SX) (ck : List Chunk) (p : Option Prop) (ret : SV) (ck' : List Chunk) (h : eWants.2 vs ck = some (p, ret, ck')) (hp : Holds p) : Does Tryz.prog eWants.1 vs ck ret ck' := by
  unfold eWants at h
  simp only at h
  split at h
  · rename_i op a s
    simp only [Option.some.injEq, Prod.mk.injEq] at h
    obtain ⟨rfl, rfl, rfl⟩ := h
    exact wants_spec op a s
  · simp at h
def cfgWants : Cfg := ⟨tys0, [eWants]⟩
theorem cfgWants_ok : TabOk Tryz.prog cfgWants.tab := (TabOk.cons eWants_ok TabOk.nil)

theorem right_loop (l : List Cell) (Γ : Ctx) (hl : l.length ≤ 32) : ∀ (n k : Nat) (m : Int), l.length - k ≤ n → k ≤ l.length → 0 ≤ m → m ≤ k →
    J Tryz.prog 135 (bodyOf Tryz.f135) Γ (Eq2 (.x (.b (rightGo (l.drop k) m))) []) [.code [1, 1, 1, 0, 1, 0, 0], .inLoop [1, 1, 1, 0, 1, 0, 0], .inBlock 0, .code [1, 1, 1, 1]] ({ n := 32, fr := [(2, .p (.bool false)), (3, .i (m)), (10, .p (.lst .cell l)), (11, .i (↑(List.length l) : Int)), (12, .i (k))], ck := [], kn := [2] }) := by
  intro n
  induction n with
  | zero => ?_
  | succ n ih => ?_
  all_goals
    intro k m hn hk h0 hm
    refine J.go (cfg := cfgWants) cfgWants_ok Tryz.func135 1000 (t := (.ite (decide ((↑k : Int) < (↑(List.length l) : Int))) (.need ((0 : Int) ≤ (↑k : Int) ∧ (↑k : Int) < (↑(List.length l) : Int)) (.ite (decide (wantsM (Cell.op (ETy.get .cell l k)) (Cell.a (ETy.get .cell l k)) (Cell.name (ETy.get .cell l k)) < (0 : Int)) || decide (wantsM (Cell.op (ETy.get .cell l k)) (Cell.a (ETy.get .cell l k)) (Cell.name (ETy.get .cell l k)) > m)) (.ret (.p (.bool false)) []) (.stop [.code [1, 1, 1, 0, 1, 0, 0], .inLoop [1, 1, 1, 0, 1, 0, 0], .inBlock 0, .code [1, 1, 1, 1]] { n := 32, fr := [(2, .p (.bool false)), (3, .i (IntKind.wrap .i64 (m + IntKind.wrap .i64 ((1 : Int) - wantsM (Cell.op (ETy.get .cell l k)) (Cell.a (ETy.get .cell l k)) (Cell.name (ETy.get .cell l k)))))), (10, .p (.lst .cell l)), (11, .i (↑(List.length l) : Int)), (12, .i (IntKind.wrap .i64 ((↑k : Int) + (1 : Int))))], ck := [], kn := [2] }))) (.ret (.p (.bool (m == (1 : Int)))) []))) (by kernel_rfl) ?_
    refine ⟨fun hlt => ⟨?_, ?_⟩, fun hge => ⟨?_, rfl⟩⟩
    · have := of_decide_eq_true hlt; omega
    · have hk' : k < l.length := by have := of_decide_eq_true hlt; omega
      rw [drop_get (t := .cell) hk']
      generalize ETy.get .cell l k = c
      refine ⟨fun hb => ⟨?_, rfl⟩, fun hb => ?_⟩
      · have hb' : (decide (wantsC c < 0) || decide (wantsC c > m)) = true := hb
        simp only [rightGo, hb', cond_true]
      · have hb' : (decide (wantsC c < 0) || decide (wantsC c > m)) = false := hb
        have hw : 0 ≤ wantsC c ∧ wantsC c ≤ m := by
          simp only [Bool.or_eq_false_iff, decide_eq_false_iff_not] at hb'
          omega
        simp only [rightGo, hb', cond_false]
        show J Tryz.prog 135 (bodyOf Tryz.f135) Γ _ [.code [1, 1, 1, 0, 1, 0, 0], .inLoop [1, 1, 1, 0, 1, 0, 0], .inBlock 0, .code [1, 1, 1, 1]] ({ n := 32, fr := [(2, .p (.bool false)), (3, .i (IntKind.wrap .i64 (m + IntKind.wrap .i64 (1 - wantsC c)))), (10, .p (.lst .cell l)), (11, .i (↑(List.length l) : Int)), (12, .i (IntKind.wrap .i64 ((↑k : Int) + (1 : Int))))], ck := [], kn := [2] })
        rw [wrapI (n := 1 - wantsC c) (by omega) (by omega), wrapI (by omega) (by omega), wrapK (by omega)]
        first
        | (exfalso; omega)
        | exact ih (k + 1) (m + (1 - wantsC c)) (by omega) (by omega) (by omega) (by omega)
    · rw [drop_end (by have := of_decide_eq_false hge; omega)]; rfl
theorem right_spec (l : List Cell) : Does Tryz.prog 135 [.l .cell l] [] (.x (.b (rightM l))) [] := by
  refine Does.go (cfg := cfgWants) cfgWants_ok Tryz.func135 (by kernel_rfl) (by kernel_rfl) (t := (.ite (decide ((↑(List.length l) : Int) > (32 : Int))) (.ret (.p (.bool false)) []) (.stop [.code [1, 1, 1, 0, 1, 0, 0], .inLoop [1, 1, 1, 0, 1, 0, 0], .inBlock 0, .code [1, 1, 1, 1]] { n := 32, fr := [(2, .p (.bool false)), (3, .i (0 : Int)), (10, .p (.lst .cell l)), (11, .i (↑(List.length l) : Int)), (12, .i (0 : Int))], ck := [], kn := [2] }))) (by kernel_rfl) fun Γ => ?_
  refine ⟨fun h => ⟨by simp only [rightM, h]; rfl, rfl⟩, fun h => ?_⟩
  have hl : l.length ≤ 32 := by have := of_decide_eq_false h; omega
  simp only [rightM, h]
  exact right_loop l Γ hl l.length 0 0 (by omega) (by omega) (by omega) (by omega)
def eRight : Nat × (List SX → List Chunk → Option (Option Prop × SV × List Chunk)) := (135, fun
  | [.c (.pd (.lst .cell l))], [] => some (none, .x (.c (.pd (.bool (rightM l)))), [])
  | _, _ => none)
theorem eRight_ok (vs : List SX) (ck : List Chunk) (p : Option Prop) (ret : SV) (ck' : List Chunk) (h : eRight.2 vs ck = some (p, ret, ck')) (hp : Holds p) : Does Tryz.prog eRight.1 vs ck ret ck' := by
  unfold eRight at h
  simp only at h
  split at h
  · rename_i l
    simp only [Option.some.injEq, Prod.mk.injEq] at h
    obtain ⟨rfl, rfl, rfl⟩ := h
    exact right_spec l
  · simp at h
end Go.Proofs.YtcpnicfkpkonkaaGreatDoor

/- Contracts: the document's trees: parents, what is within, children, right trees, domains. Conditions: sizes. -/
import Derived.Test.YtcpnicfkpkonkaaGreatDoorTa
namespace Go.Proofs.YtcpnicfkpkonkaaGreatDoor
open Go Go.Ev
set_option maxRecDepth 100000
def rparGo (l : List Ev.Stat) (d : Int) : Nat → Int
  | 0 => -1
  | k + 1 => if ((ETy.get .stat l k).depth == d) = true then (k : Int) else rparGo l d k
def rparM (l : List Ev.Stat) (i : Nat) : Int := rparGo l (IntKind.wrap .i64 ((ETy.get .stat l i).depth - 1)) i
def rwitGo (l : List Ev.Stat) (i : Int) : Nat → Int → Bool
  | 0, _ => false
  | n + 1, k => if k < 0 then false else if (k == i) = true then true else rwitGo l i n (rparM l k.toNat)
def rwitM (l : List Ev.Stat) (i : Int) (j : Nat) : Bool := rwitGo l i (l.length + 1) (rparM l j)
def rkidsM (l : List Ev.Stat) (i : Int) (n : Nat) : List Int := ((List.range n).filter fun k => rparM l k == i && decide ((ETy.get .stat l k).depth > 0)).map fun k : Nat => (k : Int)
def rbadS (l : List Ev.Stat) (k : Nat) : Bool := decide ((ETy.get .stat l k).kind < 1) || decide ((ETy.get .stat l k).kind > 6) || decide ((ETy.get .stat l k).depth < 0) || decide ((ETy.get .stat l k).depth > 5) || decide (0 < k) && decide ((ETy.get .stat l k).depth > IntKind.wrap .i64 ((ETy.get .stat l (k - 1)).depth + 1))
def rshGo (l : List Ev.Stat) : Nat → Nat → Int → Option Int
  | 0, _, r => some r
  | n + 1, k, r => if rbadS l k = true then none else if ((ETy.get .stat l k).depth == 0) = true then (if ((ETy.get .stat l k).kind != 2) = true then none else rshGo l n (k + 1) (IntKind.wrap .i64 (r + 1))) else rshGo l n (k + 1) r
def rshR : Option Int → Bool
  | none => false
  | some r => decide (r ≤ 4)
def rshapeM (l : List Ev.Stat) : Bool := !(decide (l.length < 1) || decide (l.length > 40) || (ETy.get .stat l 0).depth != 0) && rshR (rshGo l l.length 0 0)
def rokAt (l : List Ev.Stat) (i : Nat) : Bool :=
  !(decide (rparM l i ≥ 0) && (ETy.get .stat l (rparM l i).toNat).kind != 2 && ((ETy.get .stat l (rparM l i).toNat).kind != 3 || decide ((ETy.get .stat l i).kind > 3))) && (bif (ETy.get .stat l i).kind != 2 && (ETy.get .stat l i).kind != 3 then true else (rkidsM l (i : Int) l.length).any fun y => !pastM (ETy.get .stat l y.toNat).kind)
def rtreeGo (l : List Ev.Stat) : Nat → Nat → Bool
  | 0, _ => true
  | n + 1, k => rokAt l k && rtreeGo l n (k + 1)
def rrightT (l : List Ev.Stat) : Bool := rshapeM l && rtreeGo l l.length 0
def rdomGo (l : List Ev.Stat) (j : Nat) : Nat → Int → Int
  | 0, _ => -1
  | n + 1, k => if k < 0 then k else if ((ETy.get .stat l k.toNat).kind == 2 && rwitM l k j) = true then k else rdomGo l j n (rparM l k.toNat)
def rdomM (l : List Ev.Stat) (i j : Nat) : Int := rdomGo l j (l.length + 1) (i : Int)
theorem rparGo_in (l : List Ev.Stat) (d : Int) : ∀ k : Nat, -1 ≤ rparGo l d k ∧ rparGo l d k < (k : Int)
  | 0 => by rw [rparGo]; omega
  | k + 1 => by
    have := rparGo_in l d k
    rw [rparGo]; split <;> omega
theorem rpar_in (l : List Ev.Stat) (k : Nat) : -1 ≤ rparM l k ∧ rparM l k < (k : Int) := rparGo_in _ _ _
theorem rtpast_spec (k : Int) : Does Tryz.prog 49 [.i k] [] (.x (.b (pastM k))) [] := by
  refine Does.go (cfg := cfg0) cfg0_ok Tryz.func49 (by kernel_rfl) (by kernel_rfl) (t := (.ret (.p (.bool (k == (5 : Int) || k == (6 : Int)))) [])) (by kernel_rfl) fun Γ => ?_
  exact ⟨rfl, rfl⟩
def eRpast : Nat × (List SX → List Chunk → Option (Option Prop × SV × List Chunk)) := (49, fun
  | [.c (.pd (.int .i64 k))], [] => some (none, .x (.c (.pd (.bool (pastM k)))), [])
  | _, _ => none)
theorem eRpast_ok (vs : List SX) (ck : List Chunk) (p : Option Prop) (ret : SV) (ck' : List Chunk) (h : eRpast.2 vs ck = some (p, ret, ck')) (hp : Holds p) : Does Tryz.prog eRpast.1 vs ck ret ck' := by
  unfold eRpast at h
  simp only at h
  split at h
  · rename_i k
    simp only [Option.some.injEq, Prod.mk.injEq] at h
    obtain ⟨rfl, rfl, rfl⟩ := h
    exact rtpast_spec k
  · simp at h

theorem rp_loop (l : List Ev.Stat) (i : Nat) (hi : i < l.length) (hl : l.length ≤ maxLen) (Γ : Ctx) : ∀ n k : Nat, i - k ≤ n → k ≤ i →
    J Tryz.prog 82 (bodyOf Tryz.f82) Γ (Eq2 (.x (.i (rparM l i))) []) [.code [1, 1, 0, 1, 0, 0], .inLoop [1, 1, 0, 1, 0, 0], .inBlock 0, .code [1, 1, 1]] ({ n := 26, fr := [(0, .p (.lst .stat l)), (1, .i (↑i : Int)), (4, .i (0 : Int)), (5, .i ((rparGo l (IntKind.wrap .i64 ((ETy.get .stat l i).depth - 1)) k))), (6, .i ((k : Int)))], ck := [] }) := by
  intro n
  induction n with
  | zero => ?_
  | succ n ih => ?_
  all_goals
    intro k hn hk
    generalize hfd : rparGo l (IntKind.wrap .i64 ((ETy.get .stat l i).depth - 1)) k = fd
    refine J.go (cfg := cfg0) cfg0_ok Tryz.func82 1000 (t := (.ite (decide ((↑k : Int) < (↑i : Int))) (.need ((0 : Int) ≤ (↑k : Int) ∧ (↑k : Int) < (↑(List.length l) : Int)) (.need ((0 : Int) ≤ (↑i : Int) ∧ (↑i : Int) < (↑(List.length l) : Int)) (.ite (Stat.depth (ETy.get .stat l k) == IntKind.wrap .i64 (Stat.depth (ETy.get .stat l i) - (1 : Int))) (.stop [.code [1, 1, 0, 1, 0, 0], .inLoop [1, 1, 0, 1, 0, 0], .inBlock 0, .code [1, 1, 1]] { n := 26, fr := [(0, .p (.lst .stat l)), (1, .i (↑i : Int)), (4, .i (0 : Int)), (5, .i (↑k : Int)), (6, .i (IntKind.wrap .i64 ((↑k : Int) + (1 : Int))))], ck := [] }) (.stop [.code [1, 1, 0, 1, 0, 0], .inLoop [1, 1, 0, 1, 0, 0], .inBlock 0, .code [1, 1, 1]] { n := 26, fr := [(0, .p (.lst .stat l)), (1, .i (↑i : Int)), (4, .i (0 : Int)), (5, .i fd), (6, .i (IntKind.wrap .i64 ((↑k : Int) + (1 : Int))))], ck := [] })))) (.ret (.i fd) []))) (by kernel_rfl) ?_
    refine ⟨fun hlt => ?_, fun hge => ?_⟩
    · have hk' : k < i := by have := of_decide_eq_true hlt; omega
      have hw := wrapK (maxLen_lt (show k < l.length by omega) hl)
      refine ⟨⟨by omega, by omega⟩, ⟨by omega, by omega⟩, fun h => ?_, fun h => ?_⟩
      · have e : rparGo l (IntKind.wrap .i64 ((ETy.get .stat l i).depth - 1)) (k + 1) = (k : Int) := by rw [rparGo, if_pos h]
        rw [hw, ← e]
        first
        | (exfalso; omega)
        | exact ih (k + 1) (by omega) (by omega)
      · have e : rparGo l (IntKind.wrap .i64 ((ETy.get .stat l i).depth - 1)) (k + 1) = fd := by rw [rparGo, if_neg (by rw [h]; decide), hfd]
        rw [hw, ← e]
        first
        | (exfalso; omega)
        | exact ih (k + 1) (by omega) (by omega)
    · have hke : k = i := by have := of_decide_eq_false hge; omega
      subst hke
      refine ⟨?_, rfl⟩
      rw [← hfd]; rfl
theorem rpar_spec (l : List Ev.Stat) (i : Int) (h : 0 ≤ i ∧ i < (l.length : Int) ∧ l.length ≤ maxLen) : Does Tryz.prog 82 [.l .stat l, .i i] [] (.x (.i (rparM l i.toNat))) [] := by
  obtain ⟨k, rfl⟩ := Int.eq_ofNat_of_zero_le h.1
  rw [Int.toNat_natCast]
  have key : Does Tryz.prog 82 [.l .stat l, .i (k : Int)] [] (.x (.i (rparM l k))) [] := by
    refine Does.go (cfg := cfg0) cfg0_ok Tryz.func82 (by kernel_rfl) (by kernel_rfl) (t := (.stop [.code [1, 1, 0, 1, 0, 0], .inLoop [1, 1, 0, 1, 0, 0], .inBlock 0, .code [1, 1, 1]] { n := 26, fr := [(0, .p (.lst .stat l)), (1, .i (↑k : Int)), (4, .i (0 : Int)), (5, .i (-1 : Int)), (6, .i (0 : Int))], ck := [] })) (by kernel_rfl) fun Γ => ?_
    exact rp_loop l k (by omega) h.2.2 Γ k 0 (by omega) (by omega)
  exact key
def eRpar : Nat × (List SX → List Chunk → Option (Option Prop × SV × List Chunk)) := (82, fun
  | [.c (.pd (.lst .stat l)), .c (.pd (.int .i64 i))], [] => some (some (0 ≤ i ∧ i < (l.length : Int) ∧ l.length ≤ maxLen), .x (.c (.pd (.int .i64 (rparM l i.toNat)))), [])
  | _, _ => none)
theorem eRpar_ok (vs : List SX) (ck : List Chunk) (p : Option Prop) (ret : SV) (ck' : List Chunk) (h : eRpar.2 vs ck = some (p, ret, ck')) (hp : Holds p) : Does Tryz.prog eRpar.1 vs ck ret ck' := by
  unfold eRpar at h
  simp only at h
  split at h
  · rename_i l i
    simp only [Option.some.injEq, Prod.mk.injEq] at h
    obtain ⟨rfl, rfl, rfl⟩ := h
    exact rpar_spec l i hp
  · simp at h
def cfgRp : Cfg := ⟨tys0, [eRpar]⟩
theorem cfgRp_ok : TabOk Tryz.prog cfgRp.tab := (TabOk.cons eRpar_ok TabOk.nil)

theorem rw_loop (l : List Ev.Stat) (i : Int) (j : Nat) (hl : l.length ≤ maxLen) (Γ : Ctx) : ∀ (n : Nat) (k : Int), -1 ≤ k → k < (l.length : Int) → k + 1 < (n : Int) →
    J Tryz.prog 84 (bodyOf Tryz.f84) Γ (Eq2 (.x (.b (rwitGo l i n k))) []) [.code [1, 0, 1, 0, 0], .inLoop [1, 0, 1, 0, 0], .inBlock 0, .code [1, 1]] ({ n := 19, fr := [(0, .p (.lst .stat l)), (1, .i i), (6, .p (.bool false)), (7, .i (k))], ck := [], kn := [6] }) := by
  intro n
  induction n with
  | zero => intro k h1 h2 h3; omega
  | succ n ih =>
    intro k h1 h2 h3
    refine J.go (cfg := cfgRp) cfgRp_ok Tryz.func84 1000 (t := (.ite (decide (k ≥ (0 : Int))) (.ite (k == i) (.ret (.p (.bool true)) []) (.need ((0 : Int) ≤ k ∧ k < (↑(List.length l) : Int) ∧ List.length l ≤ maxLen) (.stop [.code [1, 0, 1, 0, 0], .inLoop [1, 0, 1, 0, 0], .inBlock 0, .code [1, 1]] { n := 19, fr := [(0, .p (.lst .stat l)), (1, .i i), (6, .p (.bool false)), (7, .i (rparM l (Int.toNat k)))], ck := [], kn := [6] }))) (.ret (.p (.bool false)) []))) (by kernel_rfl) ?_
    refine ⟨fun h => ⟨fun he => ?_, fun he => ?_⟩, fun h => ?_⟩
    · have hk : k ≥ 0 := of_decide_eq_true h
      rw [rwitGo, if_neg (by omega), if_pos he]; exact ⟨rfl, rfl⟩
    · have hk : k ≥ 0 := of_decide_eq_true h
      have hp := rpar_in l k.toNat
      have e : ((k.toNat : Nat) : Int) = k := Int.toNat_of_nonneg hk
      refine ⟨⟨hk, h2, hl⟩, ?_⟩
      rw [rwitGo, if_neg (by omega), if_neg (by rw [he]; decide)]
      exact ih (rparM l k.toNat) hp.1 (by omega) (by omega)
    · have hk : ¬ k ≥ 0 := of_decide_eq_false h
      rw [rwitGo, if_pos (by omega)]; exact ⟨rfl, rfl⟩
theorem rwit_spec (l : List Ev.Stat) (i j : Int) (h : 0 ≤ j ∧ j < (l.length : Int) ∧ l.length ≤ maxLen) : Does Tryz.prog 84 [.l .stat l, .i i, .i j] [] (.x (.b (rwitM l i j.toNat))) [] := by
  obtain ⟨k, rfl⟩ := Int.eq_ofNat_of_zero_le h.1
  rw [Int.toNat_natCast]
  have key : Does Tryz.prog 84 [.l .stat l, .i i, .i (k : Int)] [] (.x (.b (rwitM l i k))) [] := by
    refine Does.go (cfg := cfgRp) cfgRp_ok Tryz.func84 (by kernel_rfl) (by kernel_rfl) (t := (.need ((0 : Int) ≤ (↑k : Int) ∧ (↑k : Int) < (↑(List.length l) : Int) ∧ List.length l ≤ maxLen) (.stop [.code [1, 0, 1, 0, 0], .inLoop [1, 0, 1, 0, 0], .inBlock 0, .code [1, 1]] { n := 19, fr := [(0, .p (.lst .stat l)), (1, .i i), (6, .p (.bool false)), (7, .i (rparM l k))], ck := [], kn := [6] }))) (by kernel_rfl) fun Γ => ?_
    have hp := rpar_in l k
    exact ⟨h, rw_loop l i k h.2.2 Γ (l.length + 1) (rparM l k) hp.1 (by omega) (by omega)⟩
  exact key
def eRwit : Nat × (List SX → List Chunk → Option (Option Prop × SV × List Chunk)) := (84, fun
  | [.c (.pd (.lst .stat l)), .c (.pd (.int .i64 i)), .c (.pd (.int .i64 j))], [] => some (some (0 ≤ j ∧ j < (l.length : Int) ∧ l.length ≤ maxLen), .x (.c (.pd (.bool (rwitM l i j.toNat)))), [])
  | _, _ => none)
theorem eRwit_ok (vs : List SX) (ck : List Chunk) (p : Option Prop) (ret : SV) (ck' : List Chunk) (h : eRwit.2 vs ck = some (p, ret, ck')) (hp : Holds p) : Does Tryz.prog eRwit.1 vs ck ret ck' := by
  unfold eRwit at h
  simp only at h
  split at h
  · rename_i l i j
    simp only [Option.some.injEq, Prod.mk.injEq] at h
    obtain ⟨rfl, rfl, rfl⟩ := h
    exact rwit_spec l i j hp
  · simp at h

theorem rkids_succ (l : List Ev.Stat) (i : Int) (k : Nat) : rkidsM l i (k + 1) = if (rparM l k == i && decide ((ETy.get .stat l k).depth > 0)) = true then rkidsM l i k ++ [(k : Int)] else rkidsM l i k := by
  unfold rkidsM
  rw [List.range_succ, List.filter_append, List.map_append]
  cases h : (rparM l k == i && decide ((ETy.get .stat l k).depth > 0)) <;> simp [h]
theorem rkids_le (l : List Ev.Stat) (i : Int) (k : Nat) : (rkidsM l i k).length ≤ k := by
  unfold rkidsM
  rw [List.length_map]
  exact Nat.le_trans (List.length_filter_le _ _) (by simp)
theorem rkids_in (l : List Ev.Stat) (i : Int) {k : Nat} {y : Int} (h : y ∈ rkidsM l i k) : 0 ≤ y ∧ y < (k : Int) := by
  unfold rkidsM at h
  obtain ⟨m, hm, rfl⟩ := List.mem_map.1 h
  have := List.mem_range.1 (List.mem_filter.1 hm).1
  omega
theorem rk_loop (l : List Ev.Stat) (i : Int) (hl : l.length ≤ 1466015503701) (Γ : Ctx) : ∀ (n k : Nat), l.length - k ≤ n → k ≤ l.length →
    J Tryz.prog 83 (bodyOf Tryz.f83) Γ (Eq2 (.x (.c (.own 0))) [.own 3 .int (rkidsM l i l.length)]) [.code [1, 1, 0, 1, 0, 0], .inLoop [1, 1, 0, 1, 0, 0], .inBlock 0, .code [1, 1, 1]] ({ n := 31, fr := [(0, .p (.lst .stat l)), (1, .i i), (4, .p (.v (Value.slice none 0 0))), (5, .x (.c (.own 0))), (6, .i ((k : Int)))], ck := [.own 3 .int (rkidsM l i k)] }) := by
  have hm : l.length ≤ maxLen := Nat.le_trans hl (by decide)
  intro n
  induction n with
  | zero => ?_
  | succ n ih => ?_
  all_goals
    intro k hn hk
    generalize hout : rkidsM l i k = out
    refine J.go (cfg := cfgRp) cfgRp_ok Tryz.func83 1000 (t := (.ite (decide ((↑k : Int) < (↑(List.length l) : Int))) (.need ((0 : Int) ≤ (↑k : Int) ∧ (↑k : Int) < (↑(List.length l) : Int) ∧ List.length l ≤ maxLen) (.need ((rparM l k == i) = true → (0 : Int) ≤ (↑k : Int) ∧ (↑k : Int) < (↑(List.length l) : Int)) (.ite (rparM l k == i && decide (Stat.depth (ETy.get .stat l k) > (0 : Int))) (.need (room (List.length (out ++ [(↑k : Int)])) 8) (.stop [.code [1, 1, 0, 1, 0, 0], .inLoop [1, 1, 0, 1, 0, 0], .inBlock 0, .code [1, 1, 1]] { n := 31, fr := [(0, .p (.lst .stat l)), (1, .i i), (4, .p (.v (Value.slice none 0 0))), (5, .x (.c (.own 0))), (6, .i (IntKind.wrap .i64 ((↑k : Int) + (1 : Int))))], ck := [.own 3 .int (out ++ [(↑k : Int)])] })) (.stop [.code [1, 1, 0, 1, 0, 0], .inLoop [1, 1, 0, 1, 0, 0], .inBlock 0, .code [1, 1, 1]] { n := 31, fr := [(0, .p (.lst .stat l)), (1, .i i), (4, .p (.v (Value.slice none 0 0))), (5, .x (.c (.own 0))), (6, .i (IntKind.wrap .i64 ((↑k : Int) + (1 : Int))))], ck := [.own 3 .int out] })))) (.ret (.x (.c (.own 0))) [.own 3 .int out]))) (by kernel_rfl) ?_
    have hs := rkids_succ l i k
    rw [hout] at hs
    refine ⟨fun hlt => ?_, fun hge => ?_⟩
    · have hk' : k < l.length := by have := of_decide_eq_true hlt; omega
      refine ⟨⟨by omega, by omega, hm⟩, fun _ => ⟨by omega, by omega⟩, fun h => ?_, fun h => ?_⟩
      · rw [if_pos h] at hs
        have hle := rkids_le l i (k + 1)
        rw [hs] at hle
        refine ⟨⟨by omega, by unfold maxLen; omega⟩, ?_⟩
        rw [wrapK (maxLen_lt hk' hm), ← hs]
        first
        | (exfalso; omega)
        | exact ih (k + 1) (by omega) (by omega)
      · rw [if_neg (by rw [h]; decide)] at hs
        rw [wrapK (maxLen_lt hk' hm), ← hs]
        first
        | (exfalso; omega)
        | exact ih (k + 1) (by omega) (by omega)
    · have hke : k = l.length := by have := of_decide_eq_false hge; omega
      subst hke
      rw [hout]; exact ⟨rfl, rfl⟩
theorem rkids_spec (l : List Ev.Stat) (i : Int) (hl : l.length ≤ 1466015503701) : Does Tryz.prog 83 [.l .stat l, .i i] [] (.x (.c (.own 0))) [.own 3 .int (rkidsM l i l.length)] := by
  refine Does.go (cfg := cfgRp) cfgRp_ok Tryz.func83 (by kernel_rfl) (by kernel_rfl) (t := (.stop [.code [1, 1, 0, 1, 0, 0], .inLoop [1, 1, 0, 1, 0, 0], .inBlock 0, .code [1, 1, 1]] { n := 31, fr := [(0, .p (.lst .stat l)), (1, .i i), (4, .p (.v (Value.slice none 0 0))), (5, .p (.v (Value.slice none 0 0))), (6, .i (0 : Int))], ck := [] })) (by kernel_rfl) fun Γ => ?_
  refine J.nilOwn 5 3 .int rfl (by kernel_rfl) ?_
  exact rk_loop l i hl Γ l.length 0 (by omega) (by omega)
def eRkids : Nat × (List SX → List Chunk → Option (Option Prop × SV × List Chunk)) := (83, fun
  | [.c (.pd (.lst .stat l)), .c (.pd (.int .i64 i))], [] => some (some (l.length ≤ 1466015503701), .x (.c (.own 0)), [.own 3 .int (rkidsM l i l.length)])
  | _, _ => none)
theorem eRkids_ok (vs : List SX) (ck : List Chunk) (p : Option Prop) (ret : SV) (ck' : List Chunk) (h : eRkids.2 vs ck = some (p, ret, ck')) (hp : Holds p) : Does Tryz.prog eRkids.1 vs ck ret ck' := by
  unfold eRkids at h
  simp only at h
  split at h
  · rename_i l i
    simp only [Option.some.injEq, Prod.mk.injEq] at h
    obtain ⟨rfl, rfl, rfl⟩ := h
    exact rkids_spec l i hp
  · simp at h
def cfgRr : Cfg := ⟨tys0, [eRpar, eRkids, eRpast]⟩
theorem cfgRr_ok : TabOk Tryz.prog cfgRr.tab := (TabOk.cons eRpar_ok (TabOk.cons eRkids_ok (TabOk.cons eRpast_ok TabOk.nil)))


theorem rbad_eq (l : List Ev.Stat) (k : Nat) (hk : k < 9223372036854775807) : (decide ((ETy.get .stat l k).kind < 1) || decide ((ETy.get .stat l k).kind > 6) || decide ((ETy.get .stat l k).depth < 0) || decide ((ETy.get .stat l k).depth > 5) || decide ((k : Int) > 0) && decide ((ETy.get .stat l k).depth > IntKind.wrap .i64 ((ETy.get .stat l (IntKind.wrap .i64 ((k : Int) - 1)).toNat).depth + 1))) = rbadS l k := by
  unfold rbadS
  congr 1
  by_cases h0 : 0 < k
  · have e : (IntKind.wrap .i64 ((k : Int) - 1)).toNat = k - 1 := by rw [wrapI (by omega) (by omega)]; omega
    rw [e, decide_eq_true h0, decide_eq_true (show (k : Int) > 0 by omega)]
  · rw [decide_eq_false h0, decide_eq_false (show ¬ (k : Int) > 0 by omega), Bool.false_and, Bool.false_and]
theorem and_ge0 {b : Bool} {i : Int} (h : (decide (i ≥ 0) && b) = true) : 0 ≤ i := by
  rw [Bool.and_eq_true] at h; exact of_decide_eq_true h.1

theorem rr3_loop (l : List Ev.Stat) (r : Int) (k : Nat) (ks : List Int) (hks : ∀ y ∈ ks, 0 ≤ y ∧ y < (l.length : Int)) (hlen : ks.length ≤ maxLen) (Γ : Ctx) (res : Bool) : ∀ (n j : Nat) (b : Bool), ks.length - j ≤ n → j ≤ ks.length →
    ((b || (ks.drop j).any fun y => !pastM (ETy.get .stat l y.toNat).kind) = true → J Tryz.prog 46 (bodyOf Tryz.f46) Γ (Eq2 (.x (.b res)) []) [.code [1, 1, 1, 1, 0, 1, 0, 0], .inLoop [1, 1, 1, 1, 0, 1, 0, 0], .inBlock 2, .code [1, 1, 1, 1, 1]] ({ n := 158, fr := [(0, .p (.lst .stat l)), (2, .p (.bool false)), (3, .i r), (6, .i ((IntKind.wrap .i64 ((k : Int) + 1))))], ck := [], kn := [2] })) → ((b || (ks.drop j).any fun y => !pastM (ETy.get .stat l y.toNat).kind) = false → res = false) →
    J Tryz.prog 46 (bodyOf Tryz.f46) Γ (Eq2 (.x (.b res)) []) [.code [1, 1, 1, 1, 0, 1, 0, 0, 1, 0, 0, 1, 1, 1, 1, 1, 0, 1, 0, 0], .inLoop [1, 1, 1, 1, 0, 1, 0, 0, 1, 0, 0, 1, 1, 1, 1, 1, 0, 1, 0, 0], .inBlock 4, .code [1, 1, 1, 1, 0, 1, 0, 0, 1, 0, 0, 1, 1, 1, 1, 1, 1], .inBlock 3, .code [1, 1, 1, 1, 0, 1, 0, 0, 1, 1], .inLoop [1, 1, 1, 1, 0, 1, 0, 0], .inBlock 2, .code [1, 1, 1, 1, 1]] ({ n := 158, fr := [(0, .p (.lst .stat l)), (2, .p (.bool false)), (3, .i r), (6, .i (↑k : Int)), (8, .p (.bool (b))), (9, .x (.c (.own 0))), (10, .i ((j : Int)))], ck := [.own 3 .int ks], kn := [2] }) := by
  intro n
  induction n with
  | zero => ?_
  | succ n ih => ?_
  all_goals
    intro j b hn hj h1 h0
    refine J.go (cfg := cfgRr) cfgRr_ok Tryz.func46 1000 (t := (.ite (decide ((↑j : Int) < (↑(List.length ks) : Int))) (.need (b = false → (0 : Int) ≤ (↑j : Int) ∧ (↑j : Int) < (↑(List.length ks) : Int)) (.need (b = false → j < List.length ks) (.need (b = false → (0 : Int) ≤ ETy.get .int ks j ∧ ETy.get .int ks j < (↑(List.length l) : Int)) (.stop [.code [1, 1, 1, 1, 0, 1, 0, 0, 1, 0, 0, 1, 1, 1, 1, 1, 0, 1, 0, 0], .inLoop [1, 1, 1, 1, 0, 1, 0, 0, 1, 0, 0, 1, 1, 1, 1, 1, 0, 1, 0, 0], .inBlock 4, .code [1, 1, 1, 1, 0, 1, 0, 0, 1, 0, 0, 1, 1, 1, 1, 1, 1], .inBlock 3, .code [1, 1, 1, 1, 0, 1, 0, 0, 1, 1], .inLoop [1, 1, 1, 1, 0, 1, 0, 0], .inBlock 2, .code [1, 1, 1, 1, 1]] { n := 158, fr := [(0, .p (.lst .stat l)), (2, .p (.bool false)), (3, .i r), (6, .i (↑k : Int)), (8, .p (.bool (b || !pastM (Stat.kind (ETy.get .stat l (Int.toNat (ETy.get .int ks j))))))), (9, .x (.c (.own 0))), (10, .i (IntKind.wrap .i64 ((↑j : Int) + (1 : Int))))], ck := [.own 3 .int ks], kn := [2] })))) (.ite (!b) (.ret (.p (.bool false)) []) (.stop [.code [1, 1, 1, 1, 0, 1, 0, 0], .inLoop [1, 1, 1, 1, 0, 1, 0, 0], .inBlock 2, .code [1, 1, 1, 1, 1]] { n := 158, fr := [(0, .p (.lst .stat l)), (2, .p (.bool false)), (3, .i r), (6, .i (IntKind.wrap .i64 ((↑k : Int) + (1 : Int))))], ck := [], kn := [2] })))) (by kernel_rfl) ?_
    refine ⟨fun hlt => ?_, fun hge => ?_⟩
    · have hj' : j < ks.length := by have := of_decide_eq_true hlt; omega
      have hy := hks (ETy.get .int ks j) (by rw [ETy.get_eq (t := .int) (List.getElem?_eq_getElem hj')]; exact List.getElem_mem hj')
      refine ⟨fun _ => ⟨by omega, by omega⟩, fun _ => hj', fun _ => hy, ?_⟩
      rw [wrapK (maxLen_lt hj' hlen)]
      have ed : ks.drop j = ETy.get .int ks j :: ks.drop (j + 1) := drop_get (t := .int) (l := ks) hj'
      rw [ed, List.any_cons, ← Bool.or_assoc] at h1 h0
      first
      | (exfalso; omega)
      | exact ih (j + 1) _ (by omega) (by omega) h1 h0
    · have hje : ks.drop j = [] := drop_end (by have := of_decide_eq_false hge; omega)
      rw [hje, List.any_nil, Bool.or_false] at h1 h0
      refine ⟨fun hb => ?_, fun hb => ?_⟩
      · rw [h0 (by simpa using hb)]; exact ⟨rfl, rfl⟩
      · exact h1 (by simpa using hb)
theorem rr2_loop (l : List Ev.Stat) (r : Int) (hl : l.length ≤ 1466015503701) (Γ : Ctx) : ∀ n k : Nat, l.length - k = n → k ≤ l.length →
    J Tryz.prog 46 (bodyOf Tryz.f46) Γ (Eq2 (.x (.b (rtreeGo l n k && decide (r ≤ 4)))) []) [.code [1, 1, 1, 1, 0, 1, 0, 0], .inLoop [1, 1, 1, 1, 0, 1, 0, 0], .inBlock 2, .code [1, 1, 1, 1, 1]] ({ n := 158, fr := [(0, .p (.lst .stat l)), (2, .p (.bool false)), (3, .i r), (6, .i ((k : Int)))], ck := [], kn := [2] }) := by
  have hm : l.length ≤ maxLen := Nat.le_trans hl (by decide)
  intro n
  induction n with
  | zero => ?_
  | succ n ih => ?_
  all_goals
    intro k hn hk
    refine J.go (cfg := cfgRr) cfgRr_ok Tryz.func46 1000 (t := (.ite (decide ((↑k : Int) < (↑(List.length l) : Int))) (.need ((0 : Int) ≤ (↑k : Int) ∧ (↑k : Int) < (↑(List.length l) : Int) ∧ List.length l ≤ maxLen) (.need (decide (rparM l k ≥ (0 : Int)) = true → (0 : Int) ≤ rparM l k ∧ rparM l k < (↑(List.length l) : Int)) (.need ((decide (rparM l k ≥ (0 : Int)) && Stat.kind (ETy.get .stat l (Int.toNat (rparM l k))) != (2 : Int)) = true → (0 : Int) ≤ rparM l k ∧ rparM l k < (↑(List.length l) : Int)) (.need ((decide (rparM l k ≥ (0 : Int)) && Stat.kind (ETy.get .stat l (Int.toNat (rparM l k))) != (2 : Int)) = true ∧ (Stat.kind (ETy.get .stat l (Int.toNat (rparM l k))) != (3 : Int)) = false → (0 : Int) ≤ (↑k : Int) ∧ (↑k : Int) < (↑(List.length l) : Int)) (.ite (decide (rparM l k ≥ (0 : Int)) && Stat.kind (ETy.get .stat l (Int.toNat (rparM l k))) != (2 : Int) && (Stat.kind (ETy.get .stat l (Int.toNat (rparM l k))) != (3 : Int) || decide (Stat.kind (ETy.get .stat l k) > (3 : Int)))) (.ret (.p (.bool false)) []) (.need ((0 : Int) ≤ (↑k : Int) ∧ (↑k : Int) < (↑(List.length l) : Int)) (.need ((Stat.kind (ETy.get .stat l k) != (2 : Int)) = true → (0 : Int) ≤ (↑k : Int) ∧ (↑k : Int) < (↑(List.length l) : Int)) (.ite (Stat.kind (ETy.get .stat l k) != (2 : Int) && Stat.kind (ETy.get .stat l k) != (3 : Int)) (.stop [.code [1, 1, 1, 1, 0, 1, 0, 0], .inLoop [1, 1, 1, 1, 0, 1, 0, 0], .inBlock 2, .code [1, 1, 1, 1, 1]] { n := 158, fr := [(0, .p (.lst .stat l)), (2, .p (.bool false)), (3, .i r), (6, .i (IntKind.wrap .i64 ((↑k : Int) + (1 : Int))))], ck := [], kn := [2] }) (.need (List.length l ≤ 1466015503701) (.stop [.code [1, 1, 1, 1, 0, 1, 0, 0, 1, 0, 0, 1, 1, 1, 1, 1, 0, 1, 0, 0], .inLoop [1, 1, 1, 1, 0, 1, 0, 0, 1, 0, 0, 1, 1, 1, 1, 1, 0, 1, 0, 0], .inBlock 4, .code [1, 1, 1, 1, 0, 1, 0, 0, 1, 0, 0, 1, 1, 1, 1, 1, 1], .inBlock 3, .code [1, 1, 1, 1, 0, 1, 0, 0, 1, 1], .inLoop [1, 1, 1, 1, 0, 1, 0, 0], .inBlock 2, .code [1, 1, 1, 1, 1]] { n := 158, fr := [(0, .p (.lst .stat l)), (2, .p (.bool false)), (3, .i r), (6, .i (↑k : Int)), (8, .p (.bool false)), (9, .x (.c (.own 0))), (10, .i (0 : Int))], ck := [.own 3 .int (rkidsM l (↑k : Int) (List.length l))], kn := [8, 2] })))))))))) (.ret (.p (.bool (decide (r ≤ (4 : Int))))) []))) (by kernel_rfl) ?_
    refine ⟨fun hlt => ?_, fun hge => ?_⟩
    · have hk' : k < l.length := by have := of_decide_eq_true hlt; omega
      have hp := rpar_in l k
      refine ⟨⟨by omega, by omega, hm⟩, fun h => ⟨of_decide_eq_true h, by omega⟩, fun h => ⟨and_ge0 h, by omega⟩, fun _ => ⟨by omega, by omega⟩, fun hb => ?_, fun hb => ⟨⟨by omega, by omega⟩, fun _ => ⟨by omega, by omega⟩, fun hs => ?_, fun hs => ⟨hl, ?_⟩⟩⟩
      · have e : rokAt l k = false := by unfold rokAt; rw [hb]; rfl
        first
        | (exfalso; omega)
        | (rw [rtreeGo, e]; exact ⟨rfl, rfl⟩)
      · have e : rokAt l k = true := by unfold rokAt; rw [hb, hs]; rfl
        rw [wrapK (maxLen_lt hk' hm)]
        first
        | (exfalso; omega)
        | (rw [rtreeGo, e, Bool.true_and]; exact ih (k + 1) (by omega) (by omega))
      · have e : rokAt l k = (rkidsM l (k : Int) l.length).any fun y => !pastM (ETy.get .stat l y.toNat).kind := by unfold rokAt; rw [hb, hs]; rfl
        refine J.kn [2] (rr3_loop l r k _ (fun y hy => rkids_in l k hy) (Nat.le_trans (rkids_le l k l.length) hm) Γ _ (rkidsM l k l.length).length 0 false (by omega) (by omega) (fun h => ?_) (fun h => ?_))
        · rw [List.drop_zero, Bool.false_or, ← e] at h
          rw [wrapK (maxLen_lt hk' hm)]
          first
          | (exfalso; omega)
          | (rw [rtreeGo, h, Bool.true_and]; exact ih (k + 1) (by omega) (by omega))
        · rw [List.drop_zero, Bool.false_or, ← e] at h
          first
          | (exfalso; omega)
          | (rw [rtreeGo, h]; rfl)
    · have := of_decide_eq_false hge
      first
      | (exfalso; omega)
      | exact ⟨rfl, rfl⟩
def rrFrom (l : List Ev.Stat) : Option Int → Bool
  | none => false
  | some q => rtreeGo l l.length 0 && decide (q ≤ 4)
theorem rr1_loop (l : List Ev.Stat) (hl : l.length ≤ 1466015503701) (Γ : Ctx) : ∀ (n k : Nat) (r : Int), l.length - k = n → k ≤ l.length →
    J Tryz.prog 46 (bodyOf Tryz.f46) Γ (Eq2 (.x (.b (rrFrom l (rshGo l n k r)))) []) [.code [1, 1, 1, 0, 1, 0, 0], .inLoop [1, 1, 1, 0, 1, 0, 0], .inBlock 0, .code [1, 1, 1, 1]] ({ n := 158, fr := [(0, .p (.lst .stat l)), (2, .p (.bool false)), (3, .i (r)), (4, .i ((k : Int)))], ck := [], kn := [2] }) := by
  have hm : l.length ≤ maxLen := Nat.le_trans hl (by decide)
  intro n
  induction n with
  | zero => ?_
  | succ n ih => ?_
  all_goals
    intro k r hn hk
    refine J.go (cfg := cfgRr) cfgRr_ok Tryz.func46 1000 (t := (.ite (decide ((↑k : Int) < (↑(List.length l) : Int))) (.need ((0 : Int) ≤ (↑k : Int) ∧ (↑k : Int) < (↑(List.length l) : Int)) (.need (Prod.snd (Prod.snd (Prod.snd (21, 57, true, onBy true (decide ((↑k : Int) > (0 : Int))) (some (18, 54, false, onBy false (decide (Stat.kind (ETy.get .stat l k) < (1 : Int)) || decide (Stat.kind (ETy.get .stat l k) > (6 : Int)) || decide (Stat.depth (ETy.get .stat l k) < (0 : Int)) || decide (Stat.depth (ETy.get .stat l k) > (5 : Int))) none))))) → (0 : Int) ≤ IntKind.wrap .i64 ((↑k : Int) - (1 : Int)) ∧ IntKind.wrap .i64 ((↑k : Int) - (1 : Int)) < (↑(List.length l) : Int)) (.ite (decide (Stat.kind (ETy.get .stat l k) < (1 : Int)) || decide (Stat.kind (ETy.get .stat l k) > (6 : Int)) || decide (Stat.depth (ETy.get .stat l k) < (0 : Int)) || decide (Stat.depth (ETy.get .stat l k) > (5 : Int)) || decide ((↑k : Int) > (0 : Int)) && decide (Stat.depth (ETy.get .stat l k) > IntKind.wrap .i64 (Stat.depth (ETy.get .stat l (Int.toNat (IntKind.wrap .i64 ((↑k : Int) - (1 : Int))))) + (1 : Int)))) (.ret (.p (.bool false)) []) (.ite (Stat.depth (ETy.get .stat l k) == (0 : Int)) (.ite (Stat.depth (ETy.get .stat l k) == (0 : Int) && Stat.kind (ETy.get .stat l k) != (2 : Int)) (.ret (.p (.bool false)) []) (.stop [.code [1, 1, 1, 0, 1, 0, 0], .inLoop [1, 1, 1, 0, 1, 0, 0], .inBlock 0, .code [1, 1, 1, 1]] { n := 158, fr := [(0, .p (.lst .stat l)), (2, .p (.bool false)), (3, .i (IntKind.wrap .i64 (r + (1 : Int)))), (4, .i (IntKind.wrap .i64 ((↑k : Int) + (1 : Int))))], ck := [] })) (.ite (Stat.depth (ETy.get .stat l k) == (0 : Int) && Stat.kind (ETy.get .stat l k) != (2 : Int)) (.ret (.p (.bool false)) []) (.stop [.code [1, 1, 1, 0, 1, 0, 0], .inLoop [1, 1, 1, 0, 1, 0, 0], .inBlock 0, .code [1, 1, 1, 1]] { n := 158, fr := [(0, .p (.lst .stat l)), (2, .p (.bool false)), (3, .i r), (4, .i (IntKind.wrap .i64 ((↑k : Int) + (1 : Int))))], ck := [] })))))) (.stop [.code [1, 1, 1, 1, 0, 1, 0, 0], .inLoop [1, 1, 1, 1, 0, 1, 0, 0], .inBlock 2, .code [1, 1, 1, 1, 1]] { n := 158, fr := [(0, .p (.lst .stat l)), (2, .p (.bool false)), (3, .i r), (6, .i (0 : Int))], ck := [], kn := [2] }))) (by kernel_rfl) ?_
    refine ⟨fun hlt => ?_, fun hge => ?_⟩
    · have hk' : k < l.length := by have := of_decide_eq_true hlt; omega
      have hmx := maxLen_lt hk' hm
      have hbe := rbad_eq l k hmx
      rw [wrapK hmx]
      refine ⟨⟨by omega, by omega⟩, fun h => ?_, fun hb => ?_, fun hb => ⟨fun h0 => ⟨fun h2 => ?_, fun h2 => ?_⟩, fun h0 => ⟨fun h2 => ?_, fun h2 => ?_⟩⟩⟩
      · have h1 : decide ((k : Int) > 0) = true := h.2
        have := of_decide_eq_true h1
        rw [wrapI (by omega) (by omega)]; omega
      · have hb' : rbadS l k = true := by rw [← hbe]; exact hb
        first
        | (exfalso; omega)
        | (rw [rshGo, if_pos hb']; exact ⟨rfl, rfl⟩)
      · have hb' : rbadS l k = false := by rw [← hbe]; exact hb
        rw [h0, Bool.true_and] at h2
        first
        | (exfalso; omega)
        | (rw [rshGo, if_neg (by rw [hb']; decide), if_pos h0, if_pos h2]; exact ⟨rfl, rfl⟩)
      · have hb' : rbadS l k = false := by rw [← hbe]; exact hb
        rw [h0, Bool.true_and] at h2
        first
        | (exfalso; omega)
        | (rw [rshGo, if_neg (by rw [hb']; decide), if_pos h0, if_neg (by rw [h2]; decide)]; exact J.kn [2] (ih (k + 1) _ (by omega) (by omega)))
      · rw [h0, Bool.false_and] at h2; cases h2
      · have hb' : rbadS l k = false := by rw [← hbe]; exact hb
        first
        | (exfalso; omega)
        | (rw [rshGo, if_neg (by rw [hb']; decide), if_neg (by rw [h0]; decide)]; exact J.kn [2] (ih (k + 1) _ (by omega) (by omega)))
    · have := of_decide_eq_false hge
      first
      | (exfalso; omega)
      | exact rr2_loop l r hl Γ l.length 0 (by omega) (Nat.zero_le _)
theorem rright_spec (l : List Ev.Stat) (hl : l.length ≤ 1466015503701) : Does Tryz.prog 46 [.l .stat l] [] (.x (.b (rrightT l))) [] := by
  have eh : (decide ((l.length : Int) < 1) || decide ((l.length : Int) > 40) || (ETy.get .stat l 0).depth != 0) = (decide (l.length < 1) || decide (l.length > 40) || (ETy.get .stat l 0).depth != 0) := by
    rw [decide_eq_decide.2 (show (l.length : Int) < 1 ↔ l.length < 1 by omega), decide_eq_decide.2 (show (l.length : Int) > 40 ↔ l.length > 40 by omega)]
  refine Does.go (cfg := cfgRr) cfgRr_ok Tryz.func46 (by kernel_rfl) (by kernel_rfl) (t := (.need ((decide ((↑(List.length l) : Int) < (1 : Int)) || decide ((↑(List.length l) : Int) > (40 : Int))) = false → (0 : Int) ≤ (0 : Int) ∧ (0 : Int) < (↑(List.length l) : Int)) (.ite (decide ((↑(List.length l) : Int) < (1 : Int)) || decide ((↑(List.length l) : Int) > (40 : Int)) || Stat.depth (ETy.get .stat l 0) != (0 : Int)) (.ret (.p (.bool false)) []) (.stop [.code [1, 1, 1, 0, 1, 0, 0], .inLoop [1, 1, 1, 0, 1, 0, 0], .inBlock 0, .code [1, 1, 1, 1]] { n := 158, fr := [(0, .p (.lst .stat l)), (2, .p (.bool false)), (3, .i (0 : Int)), (4, .i (0 : Int))], ck := [], kn := [2] })))) (by kernel_rfl) fun Γ => ?_
  refine ⟨fun h => ⟨by omega, ?_⟩, fun h => ?_, fun h => ?_⟩
  · rw [Bool.or_eq_false_iff] at h
    have := of_decide_eq_false h.1
    omega
  · have h' := eh.symm.trans h
    unfold rrightT rshapeM; rw [h']; exact ⟨rfl, rfl⟩
  · have h' := eh.symm.trans h
    have e : rrightT l = rrFrom l (rshGo l l.length 0 0) := by
      unfold rrightT rshapeM; rw [h', Bool.not_false, Bool.true_and]
      cases rshGo l l.length 0 0 with
      | none => rfl
      | some q => unfold rshR rrFrom; simp only; rw [Bool.and_comm]
    rw [e]
    exact rr1_loop l hl Γ l.length 0 0 (by omega) (Nat.zero_le _)
def eRrt : Nat × (List SX → List Chunk → Option (Option Prop × SV × List Chunk)) := (46, fun
  | [.c (.pd (.lst .stat l))], [] => some (some (l.length ≤ 1466015503701), .x (.c (.pd (.bool (rrightT l)))), [])
  | _, _ => none)
theorem eRrt_ok (vs : List SX) (ck : List Chunk) (p : Option Prop) (ret : SV) (ck' : List Chunk) (h : eRrt.2 vs ck = some (p, ret, ck')) (hp : Holds p) : Does Tryz.prog eRrt.1 vs ck ret ck' := by
  unfold eRrt at h
  simp only at h
  split at h
  · rename_i l
    simp only [Option.some.injEq, Prod.mk.injEq] at h
    obtain ⟨rfl, rfl, rfl⟩ := h
    exact rright_spec l hp
  · simp at h
def cfgRd : Cfg := ⟨tys0, [eRpar, eRwit]⟩
theorem cfgRd_ok : TabOk Tryz.prog cfgRd.tab := (TabOk.cons eRpar_ok (TabOk.cons eRwit_ok TabOk.nil))

theorem rd_loop (l : List Ev.Stat) (j : Nat) (hj : j < l.length) (hl : l.length ≤ maxLen) (Γ : Ctx) : ∀ (n : Nat) (k : Int), -1 ≤ k → k < (l.length : Int) → k + 1 < (n : Int) →
    J Tryz.prog 91 (bodyOf Tryz.f91) Γ (Eq2 (.x (.i (rdomGo l j n k))) []) [.code [1, 1, 0, 0, 0], .inLoop [1, 1, 0, 0, 0], .inBlock 0, .code [1, 1, 1]] ({ n := 30, fr := [(0, .p (.lst .stat l)), (2, .i (↑j : Int)), (6, .i (0 : Int)), (7, .i (k))], ck := [] }) := by
  intro n
  induction n with
  | zero => intro k h1 h2 h3; omega
  | succ n ih =>
    intro k h1 h2 h3
    refine J.go (cfg := cfgRd) cfgRd_ok Tryz.func91 1000 (t := (.need (decide (k ≥ (0 : Int)) = true → (0 : Int) ≤ k ∧ k < (↑(List.length l) : Int)) (.need (decide (k ≥ (0 : Int)) = true ∧ (Stat.kind (ETy.get .stat l (Int.toNat k)) == (2 : Int)) = true → (0 : Int) ≤ (↑j : Int) ∧ (↑j : Int) < (↑(List.length l) : Int) ∧ List.length l ≤ maxLen) (.ite (decide (k ≥ (0 : Int)) && !(Stat.kind (ETy.get .stat l (Int.toNat k)) == (2 : Int) && rwitM l k j)) (.need ((0 : Int) ≤ k ∧ k < (↑(List.length l) : Int) ∧ List.length l ≤ maxLen) (.stop [.code [1, 1, 0, 0, 0], .inLoop [1, 1, 0, 0, 0], .inBlock 0, .code [1, 1, 1]] { n := 30, fr := [(0, .p (.lst .stat l)), (2, .i (↑j : Int)), (6, .i (0 : Int)), (7, .i (rparM l (Int.toNat k)))], ck := [] })) (.ret (.i k) []))))) (by kernel_rfl) ?_
    refine ⟨fun h => ⟨of_decide_eq_true h, h2⟩, fun h => ⟨by omega, by omega, hl⟩, fun h => ?_, fun h => ?_⟩
    · rw [Bool.and_eq_true] at h
      have hk : k ≥ 0 := of_decide_eq_true h.1
      have hp := rpar_in l k.toNat
      have e : ((k.toNat : Nat) : Int) = k := Int.toNat_of_nonneg hk
      refine ⟨⟨hk, h2, hl⟩, ?_⟩
      have hc : ((ETy.get .stat l k.toNat).kind == 2 && rwitM l k j) = false := by
        have h4 := h.2
        cases hx : ((ETy.get .stat l k.toNat).kind == 2 && rwitM l k j)
        · rfl
        · rw [hx] at h4; cases h4
      rw [rdomGo, if_neg (by omega), if_neg (by rw [hc]; decide)]
      exact ih (rparM l k.toNat) hp.1 (by omega) (by omega)
    · by_cases hk : k < 0
      · rw [rdomGo, if_pos hk]; exact ⟨rfl, rfl⟩
      · rw [decide_eq_true (show k ≥ 0 by omega), Bool.true_and] at h
        have hc : ((ETy.get .stat l k.toNat).kind == 2 && rwitM l k j) = true := by simpa using h
        rw [rdomGo, if_neg hk, if_pos hc]; exact ⟨rfl, rfl⟩
theorem rdom_nat (l : List Ev.Stat) (i j : Nat) (hi : i < l.length) (hj : j < l.length) (hl : l.length ≤ maxLen) : Does Tryz.prog 91 [.l .stat l, .i (i : Int), .i (j : Int)] [] (.x (.i (rdomM l i j))) [] := by
  refine Does.go (cfg := cfgRd) cfgRd_ok Tryz.func91 (by kernel_rfl) (by kernel_rfl) (t := (.stop [.code [1, 1, 0, 0, 0], .inLoop [1, 1, 0, 0, 0], .inBlock 0, .code [1, 1, 1]] { n := 30, fr := [(0, .p (.lst .stat l)), (2, .i (↑j : Int)), (6, .i (0 : Int)), (7, .i (↑i : Int))], ck := [] })) (by kernel_rfl) fun Γ => ?_
  exact rd_loop l j hj hl Γ (l.length + 1) (i : Int) (by omega) (by omega) (by omega)
theorem rdom_spec (l : List Ev.Stat) (i j : Int) (h : 0 ≤ i ∧ i < (l.length : Int) ∧ 0 ≤ j ∧ j < (l.length : Int) ∧ l.length ≤ maxLen) : Does Tryz.prog 91 [.l .stat l, .i i, .i j] [] (.x (.i (rdomM l i.toNat j.toNat))) [] := by
  obtain ⟨a, rfl⟩ := Int.eq_ofNat_of_zero_le h.1
  obtain ⟨b, rfl⟩ := Int.eq_ofNat_of_zero_le h.2.2.1
  rw [Int.toNat_natCast, Int.toNat_natCast]
  exact rdom_nat l a b (by omega) (by omega) h.2.2.2.2
def eRdom : Nat × (List SX → List Chunk → Option (Option Prop × SV × List Chunk)) := (91, fun
  | [.c (.pd (.lst .stat l)), .c (.pd (.int .i64 i)), .c (.pd (.int .i64 j))], [] => some (some (0 ≤ i ∧ i < (l.length : Int) ∧ 0 ≤ j ∧ j < (l.length : Int) ∧ l.length ≤ maxLen), .x (.c (.pd (.int .i64 (rdomM l i.toNat j.toNat)))), [])
  | _, _ => none)
theorem eRdom_ok (vs : List SX) (ck : List Chunk) (p : Option Prop) (ret : SV) (ck' : List Chunk) (h : eRdom.2 vs ck = some (p, ret, ck')) (hp : Holds p) : Does Tryz.prog eRdom.1 vs ck ret ck' := by
  unfold eRdom at h
  simp only at h
  split at h
  · rename_i l i j
    simp only [Option.some.injEq, Prod.mk.injEq] at h
    obtain ⟨rfl, rfl, rfl⟩ := h
    exact rdom_spec l i j hp
  · simp at h
end Go.Proofs.YtcpnicfkpkonkaaGreatDoor

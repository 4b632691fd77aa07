/- Contracts: lists of cells alike; two rules of the executor. Conditions: none. Contracts: the document's blocks that may be, blocks alike. Conditions: sizes. Contracts: valid: small functions. Conditions: sizes. Plain laws: floats that are whole numbers, their sums and products; parts of points. Conditions: each theorem's own. Contracts of the program's functions on points: made, parted. Conditions: none. Plain laws: whole numbers within int64, products; what operations on values come to. Conditions: each theorem's own. Contracts: values that may be. Conditions: none. -/
import Derived.Test.YtcpnicfkpkonkaaGreatDoorTa
import Derived.Test.YtcpnicfkpkonkaaGreatDoorUz
import Derived.Test.YtcpnicfkpkonkaaGreatDoorFa
import Derived.Laws.ComplexArith
import Derived.Test.YtcpnicfkpkonkaaGreatDoorPC
import Derived.Test.YtcpnicfkpkonkaaGreatDoorPX
import Derived.Laws.MathBits
namespace Go.Proofs.YtcpnicfkpkonkaaGreatDoor
open Go Go.Ev
set_option maxRecDepth 100000
theorem J.settle {P : Program} {f : FuncId} {root : Code} {Γ : Ctx} {Q : Out} {todo : List PI} {st : ST} {t s : Nat} {want : Bool} {v : SX} (hm : (t, SV.grd s want v) ∈ st.fr) (hb : lookup st.fr s = some (.x (.c (.pd (.bool want))))) {fr' : List (Nat × SV)} (hf : ∀ p ∈ fr', p ∈ st.fr ∨ p = (t, .x v))
    (hk : J P f root Γ Q todo { st with fr := fr' }) : J P f root Γ Q todo st := by
  intro hT V a w r
  have hon : a.tmps.getD s undef = .bool want := by
    have := r.slots s _ (lookup_mem hb)
    have h2 : SX.R V (.c (.pd (.bool want))) (a.tmps.getD s undef) := this
    generalize a.tmps.getD s undef = u at h2 ⊢
    cases h2; rfl
  have hv : SlotOk V a t (.x v) := (r.slots t _ hm).1 hon
  refine hk hT V a w ⟨r.1, r.2, fun t' sv h' => ?_, r.4, r.5⟩
  rcases hf _ h' with h | h
  · exact r.slots _ _ h
  · simp only [Prod.mk.injEq] at h
    obtain ⟨rfl, rfl⟩ := h; exact hv
def stepRun (P : Program) (cfg : Cfg) (root : Code) (p : List Nat) (i : Nat) (st : ST) : Option (Option Prop × ST) :=
  match (opsOf (sub root p))[i]? with
  | some o => match o.guard with
    | none => op1a P cfg o st
    | some _ => none
  | none => none
theorem J.step {P : Program} {cfg : Cfg} {f : FuncId} {root : Code} {Γ : Ctx} {Q : Out} {st st' : ST} (ht : TabOk P cfg.tab) {p : List Nat} {i : Nat} {k : List PI} {q : Option Prop} (h : stepRun P cfg root p i st = some (q, st')) (hq : Holds q) (hk : J P f root Γ Q (.ops p (i + 1) :: k) st') : J P f root Γ Q (.ops p i :: k) st := by
  unfold stepRun at h
  split at h
  · rename_i o ho
    split at h
    · rename_i hg
      intro hT V a w r
      have hi : i < (opsOf (sub root p)).size := (Array.getElem?_eq_some_iff.1 ho).1
      have hsz : (opsOf (sub root p)).size - i = ((opsOf (sub root p)).size - (i + 1)) + 1 := by omega
      simp only [List.map_cons, PI.den]
      rw [hsz, List.range'_succ]
      exact op1a_sound ⟨ht, hT⟩ r ho (by simp only [Region.wanted, hg]) h hq fun V' a' w' r' => hk hT V' a' w' r'
    · cases h
  · cases h
/-! ### lists, alike -/

theorem ra_loop (l : List Cell) (Γ : Ctx) (hl : l.length ≤ maxLen)  : ∀ (n k : Nat), l.length - k ≤ n → k ≤ l.length →
    J Tryz.prog 185 (bodyOf Tryz.f185) Γ (Eq2 (.x (.b (asksM (l.drop k)))) []) [.code [1, 0, 1, 0, 0], .inLoop [1, 0, 1, 0, 0], .inBlock 0, .code [1, 1]] ({ n := 16, fr := [(0, .p (.lst .cell l)), (2, .p (.bool false)), (3, .i (k))], ck := [], kn := [2] }) := by
  intro n
  induction n with
  | zero => ?_
  | succ n ih => ?_
  all_goals
    intro k hn hk
    refine J.go (cfg := cfg0) cfg0_ok Tryz.func185 1000 (t := (.ite (decide ((↑k : Int) < (↑(List.length l) : Int))) (.need ((0 : Int) ≤ (↑k : Int) ∧ (↑k : Int) < (↑(List.length l) : Int)) (.ite (Cell.op (ETy.get .cell l k) == (6 : Int)) (.ret (.p (.bool true)) []) (.stop [.code [1, 0, 1, 0, 0], .inLoop [1, 0, 1, 0, 0], .inBlock 0, .code [1, 1]] { n := 16, fr := [(0, .p (.lst .cell l)), (2, .p (.bool false)), (3, .i (IntKind.wrap .i64 ((↑k : Int) + (1 : Int))))], ck := [], kn := [2] }))) (.ret (.p (.bool false)) []))) (by kernel_rfl) ?_
    refine ⟨fun hlt => ?_, fun hge => ?_⟩
    · have hk' : k < l.length := by have := of_decide_eq_true hlt; omega
      rw [drop_get (t := .cell) (l := l) hk']
      refine ⟨by omega, ?_⟩
      generalize ETy.get .cell l k = v
      have e : asksM (v :: l.drop (k + 1)) = (v.op == 6 || asksM (l.drop (k + 1))) := List.any_cons
      rw [e]
      refine ⟨fun hb => ⟨?_, rfl⟩, fun hb => ?_⟩
      · have hb' : (v.op == 6) = true := hb
        rw [hb']; rfl
      · have hb' : (v.op == 6) = false := hb
        rw [hb', Bool.false_or]; (rw [wrapK (maxLen_lt hk' hl)]; first | (exfalso; omega) | exact J.kn [2] (ih (k + 1) (by omega) (by omega)))
    · rw [drop_end (l := l) (by have := of_decide_eq_false hge; omega)]
      exact ⟨rfl, rfl⟩
theorem ra_spec (l : List Cell) : Does Tryz.prog 185 [.l .cell (l)] [] (.x (.b (asksM l))) [] := by
  refine Does.go (cfg := cfg0) cfg0_ok Tryz.func185 (by kernel_rfl) (by kernel_rfl) (t := (.stop [.code [1, 0, 1, 0, 0], .inLoop [1, 0, 1, 0, 0], .inBlock 0, .code [1, 1]] { n := 16, fr := [(0, .p (.lst .cell l)), (2, .p (.bool false)), (3, .i (0 : Int))], ck := [], kn := [2] })) (by kernel_rfl) fun Γ => ?_
  exact J.len 0 rfl fun hl => ra_loop l Γ hl l.length 0 (by omega) (by omega)
def eRasks : Nat × (List SX → List Chunk → Option (Option Prop × SV × List Chunk)) := (185, fun
  | [.c (.pd (.lst .cell l))], [] => some (none, .x (.c (.pd (.bool (asksM l)))), [])
  | _, _ => none)
theorem eRasks_ok (vs : List SX) (ck : List Chunk) (p : Option Prop) (ret : SV) (ck' : List Chunk) (h : eRasks.2 vs ck = some (p, ret, ck')) (hp : Holds p) : Does Tryz.prog eRasks.1 vs ck ret ck' := by
  unfold eRasks at h
  simp only at h
  split at h
  · rename_i l
    simp only [Option.some.injEq, Prod.mk.injEq] at h
    obtain ⟨rfl, rfl, rfl⟩ := h
    exact ra_spec l
  · simp at h
def cfgRone : Cfg := ⟨tys0, [eRnm, eRright, eRasks, eRefEvent]⟩
theorem cfgRone_ok : TabOk Tryz.prog cfgRone.tab := (TabOk.cons eRnm_ok (TabOk.cons eRright_ok (TabOk.cons eRasks_ok (TabOk.cons eRefEvent_ok TabOk.nil))))
theorem rone_spec (d : Deed) : Does Tryz.prog 139 [.e .deed d] [] (.x (.b (deedOk d))) [] := by
  refine Does.go (cfg := cfgRone) cfgRone_ok Tryz.func139 (by kernel_rfl) (by kernel_rfl) (t := (.ite (Deed.kind d == (1 : Int)) (.ret (.p (.bool (nameM (Deed.name d) && rightM (Deed.expr d) && !asksM (Deed.expr d)))) []) (.ret (.p (.bool ((Deed.kind d == (2 : Int) || Deed.kind d == (3 : Int)) && eventM (Deed.name d) && (↑(List.length (Deed.expr d)) : Int) == (0 : Int)))) []))) (by kernel_rfl) fun Γ => ?_
  unfold deedOk plainM
  refine ⟨fun h => ?_, fun h => ?_⟩
  · rw [h, cond_true, ← Bool.and_assoc]; exact ⟨rfl, rfl⟩
  · rw [h, cond_false]
    cases h2 : (d.kind == 2 || d.kind == 3)
    · rw [Bool.false_and, Bool.false_and]; exact ⟨rfl, rfl⟩
    · rw [Bool.true_and]; exact ⟨rfl, rfl⟩
def eRone : Nat × (List SX → List Chunk → Option (Option Prop × SV × List Chunk)) := (139, fun
  | [.agg [.pd (.int .i64 a), .pd (.str b), .pd (.lst .cell d)]], [] => some (none, .x (.c (.pd (.bool (deedOk ⟨a, b, d⟩)))), [])
  | _, _ => none)
theorem eRone_ok (vs : List SX) (ck : List Chunk) (p : Option Prop) (ret : SV) (ck' : List Chunk) (h : eRone.2 vs ck = some (p, ret, ck')) (hp : Holds p) : Does Tryz.prog eRone.1 vs ck ret ck' := by
  unfold eRone at h
  simp only at h
  split at h
  · rename_i a b d
    simp only [Option.some.injEq, Prod.mk.injEq] at h
    obtain ⟨rfl, rfl, rfl⟩ := h
    exact rone_spec ⟨a, b, d⟩
  · simp at h
def cfgRblock : Cfg := ⟨tys0, [eRone]⟩
theorem cfgRblock_ok : TabOk Tryz.prog cfgRblock.tab := (TabOk.cons eRone_ok TabOk.nil)

theorem rrl_loop (l : List Deed) (Γ : Ctx) (hl : l.length ≤ maxLen)  : ∀ (n k : Nat), l.length - k ≤ n → k ≤ l.length →
    J Tryz.prog 87 (bodyOf Tryz.f87) Γ (Eq2 (.x (.b ((l.drop k).all deedOk))) []) [.code [1, 1, 0, 1, 0, 0], .inLoop [1, 1, 0, 1, 0, 0], .inBlock 0, .code [1, 1, 1]] ({ n := 24, fr := [(0, .p (.lst .deed l)), (2, .p (.bool false)), (3, .i (k))], ck := [], kn := [2] }) := by
  intro n
  induction n with
  | zero => ?_
  | succ n ih => ?_
  all_goals
    intro k hn hk
    refine J.go (cfg := cfgRblock) cfgRblock_ok Tryz.func87 1000 (t := (.ite (decide ((↑k : Int) < (↑(List.length l) : Int))) (.need ((0 : Int) ≤ (↑k : Int) ∧ (↑k : Int) < (↑(List.length l) : Int)) (.ite (!deedOk { kind := Deed.kind (ETy.get .deed l k), name := Deed.name (ETy.get .deed l k), expr := Deed.expr (ETy.get .deed l k) }) (.ret (.p (.bool false)) []) (.stop [.code [1, 1, 0, 1, 0, 0], .inLoop [1, 1, 0, 1, 0, 0], .inBlock 0, .code [1, 1, 1]] { n := 24, fr := [(0, .p (.lst .deed l)), (2, .p (.bool false)), (3, .i (IntKind.wrap .i64 ((↑k : Int) + (1 : Int))))], ck := [], kn := [2] }))) (.ret (.p (.bool true)) []))) (by kernel_rfl) ?_
    refine ⟨fun hlt => ?_, fun hge => ?_⟩
    · have hk' : k < l.length := by have := of_decide_eq_true hlt; omega
      rw [drop_get (t := .deed) (l := l) hk']
      refine ⟨by omega, ?_⟩
      generalize ETy.get .deed l k = v
      rw [List.all_cons]
      refine ⟨fun hb => ⟨?_, rfl⟩, fun hb => ?_⟩
      · have hb' : deedOk v = false := nt hb
        rw [hb']; rfl
      · have hb' : deedOk v = true := nf hb
        rw [hb', Bool.true_and]; (rw [wrapK (maxLen_lt hk' hl)]; first | (exfalso; omega) | exact J.kn [2] (ih (k + 1) (by omega) (by omega)))
    · rw [drop_end (l := l) (by have := of_decide_eq_false hge; omega)]
      exact ⟨rfl, rfl⟩
theorem rblock_spec (l : List Deed) : Does Tryz.prog 87 [.l .deed l] [] (.x (.b (blockOk l))) [] := by
  refine Does.go (cfg := cfgRblock) cfgRblock_ok Tryz.func87 (by kernel_rfl) (by kernel_rfl) (t := (.ite (decide ((↑(List.length l) : Int) < (1 : Int)) || decide ((↑(List.length l) : Int) > (8 : Int))) (.ret (.p (.bool false)) []) (.stop [.code [1, 1, 0, 1, 0, 0], .inLoop [1, 1, 0, 1, 0, 0], .inBlock 0, .code [1, 1, 1]] { n := 24, fr := [(0, .p (.lst .deed l)), (2, .p (.bool false)), (3, .i (0 : Int))], ck := [], kn := [2] }))) (by kernel_rfl) fun Γ => ?_
  refine ⟨fun h => ⟨?_, rfl⟩, fun h => ?_⟩
  · have : blockOk l = false := by
      unfold blockOk
      simp only [Bool.or_eq_true, decide_eq_true_eq] at h
      cases l.all deedOk
      · rfl
      · rw [Bool.true_and, Bool.and_eq_false_iff]
        rcases h with h | h
        · left; exact decide_eq_false (by omega)
        · right; exact decide_eq_false (by omega)
    rw [this]
  · simp only [Bool.or_eq_false_iff, decide_eq_false_iff_not] at h
    have : blockOk l = (l.drop 0).all deedOk := by
      unfold blockOk
      rw [decide_eq_true (show (l.length : Int) > 0 by omega), decide_eq_true (show (l.length : Int) ≤ 8 by omega)]; simp
    rw [this]
    exact J.len 0 rfl fun hl => rrl_loop l Γ hl l.length 0 (by omega) (by omega)
def eRblock : Nat × (List SX → List Chunk → Option (Option Prop × SV × List Chunk)) := (87, fun
  | [.c (.pd (.lst .deed l))], [] => some (none, .x (.c (.pd (.bool (blockOk l)))), [])
  | _, _ => none)
theorem eRblock_ok (vs : List SX) (ck : List Chunk) (p : Option Prop) (ret : SV) (ck' : List Chunk) (h : eRblock.2 vs ck = some (p, ret, ck')) (hp : Holds p) : Does Tryz.prog eRblock.1 vs ck ret ck' := by
  unfold eRblock at h
  simp only at h
  split at h
  · rename_i l
    simp only [Option.some.injEq, Prod.mk.injEq] at h
    obtain ⟨rfl, rfl, rfl⟩ := h
    exact rblock_spec l
  · simp at h
/-! ### alike -/
theorem vpast_spec (k : Int) : Does Tryz.prog 21 [.i k] [] (.x (.b (pastM k))) [] := by
  refine Does.go (cfg := cfg0) cfg0_ok Tryz.func21 (by kernel_rfl) (by kernel_rfl) (t := (.ret (.p (.bool (k == (5 : Int) || k == (6 : Int)))) [])) (by kernel_rfl) fun Γ => ?_
  exact ⟨rfl, rfl⟩
def eVpast : Nat × (List SX → List Chunk → Option (Option Prop × SV × List Chunk)) := (21, fun
  | [.c (.pd (.int .i64 k))], [] => some (none, .x (.c (.pd (.bool (pastM k)))), [])
  | _, _ => none)
theorem eVpast_ok (vs : List SX) (ck : List Chunk) (p : Option Prop) (ret : SV) (ck' : List Chunk) (h : eVpast.2 vs ck = some (p, ret, ck')) (hp : Holds p) : Does Tryz.prog eVpast.1 vs ck ret ck' := by
  unfold eVpast at h
  simp only at h
  split at h
  · rename_i k
    simp only [Option.some.injEq, Prod.mk.injEq] at h
    obtain ⟨rfl, rfl, rfl⟩ := h
    exact vpast_spec k
  · simp at h
def mustM (b : Bool) (e : Int) : Int := if b = true then 0 else e
def placeM (l : List Ev.Stat) (n : Str) : Int := firstAt (fun s : Ev.Stat => s.name == n) l 0
theorem vmust_spec (b : Bool) (e : Int) : Does Tryz.prog 25 [.b b, .i e] [] (.x (.i (mustM b e))) [] := by
  refine Does.go (cfg := cfg0) cfg0_ok Tryz.func25 (by kernel_rfl) (by kernel_rfl) (t := (.ite b (.ret (.i (0 : Int)) []) (.ret (.i e) []))) (by kernel_rfl) fun Γ => ?_
  refine ⟨fun h => ?_, fun h => ?_⟩
  · unfold mustM; rw [if_pos h]; exact ⟨rfl, rfl⟩
  · unfold mustM; rw [if_neg (by rw [h]; decide)]; exact ⟨rfl, rfl⟩
def eMust : Nat × (List SX → List Chunk → Option (Option Prop × SV × List Chunk)) := (25, fun
  | [.c (.pd (.bool b)), .c (.pd (.int .i64 e))], [] => some (none, .x (.c (.pd (.int .i64 (mustM b e)))), [])
  | _, _ => none)
theorem eMust_ok (vs : List SX) (ck : List Chunk) (p : Option Prop) (ret : SV) (ck' : List Chunk) (h : eMust.2 vs ck = some (p, ret, ck')) (hp : Holds p) : Does Tryz.prog eMust.1 vs ck ret ck' := by
  unfold eMust at h
  simp only at h
  split at h
  · rename_i b e
    simp only [Option.some.injEq, Prod.mk.injEq] at h
    obtain ⟨rfl, rfl, rfl⟩ := h
    exact vmust_spec b e
  · simp at h
/-! ### a state's place -/
theorem pl1_spec (s : Ev.Stat) (n : Str) : Does Tryz.prog 53 [.e .stat s, .p (.ref .str n 0)] [] (.x (.b (s.name == n))) [] := by
  refine Does.go (cfg := cfg0) cfg0_ok Tryz.func53 (by kernel_rfl) (by kernel_rfl) (t := (.ret (.p (.bool (Stat.name s == n))) [])) (by kernel_rfl) fun Γ => ⟨rfl, rfl⟩
def ePl1 : Nat × (List SX → List Chunk → Option (Option Prop × SV × List Chunk)) := (53, fun
  | [.agg [.pd (.str a), .pd (.int .i64 b), .pd (.int .i64 c), .pd (.str d), .pd (.lst .deed e), .pd (.lst .deed f)], .c (.pd (.ref .str n 0))], [] => some (none, .x (.c (.pd (.bool (a == n)))), [])
  | _, _ => none)
theorem ePl1_ok (vs : List SX) (ck : List Chunk) (p : Option Prop) (ret : SV) (ck' : List Chunk) (h : ePl1.2 vs ck = some (p, ret, ck')) (hp : Holds p) : Does Tryz.prog ePl1.1 vs ck ret ck' := by
  unfold ePl1 at h
  simp only at h
  split at h
  · rename_i a b c d e f n
    simp only [Option.some.injEq, Prod.mk.injEq] at h
    obtain ⟨rfl, rfl, rfl⟩ := h
    exact pl1_spec ⟨a, b, c, d, e, f⟩ n
  · simp at h
def cfgPl1 : Cfg := ⟨tys0, [ePl1]⟩
theorem cfgPl1_ok : TabOk Tryz.prog cfgPl1.tab := (TabOk.cons ePl1_ok TabOk.nil)

theorem ixs_loop (l : List Ev.Stat) (s : Str) (Γ : Ctx) (hl : l.length ≤ maxLen)  : ∀ (n k : Nat), l.length - k ≤ n → k ≤ l.length →
    J Tryz.prog 52 (bodyOf Tryz.f52) Γ (Eq2 (.x (.i (firstAt (fun v : Ev.Stat => v.name == s) (l.drop k) k))) []) [.code [1, 0, 1, 0, 0], .inLoop [1, 0, 1, 0, 0], .inBlock 0, .code [1, 1]] ({ n := 19, fr := [(0, .p (.lst .stat l)), (1, .x (.c (.fn (.func 53) [] [.pd (.ref .str s 0)]))), (4, .i (0 : Int)), (7, .i (↑(List.length l) : Int)), (8, .i (k))], ck := [] }) := by
  intro n
  induction n with
  | zero => ?_
  | succ n ih => ?_
  all_goals
    intro k hn hk
    refine J.go (cfg := cfgPl1) cfgPl1_ok Tryz.func52 1000 (t := (.ite (decide ((↑k : Int) < (↑(List.length l) : Int))) (.need ((0 : Int) ≤ (↑k : Int) ∧ (↑k : Int) < (↑(List.length l) : Int)) (.ite (Stat.name (ETy.get .stat l k) == s) (.ret (.i (↑k : Int)) []) (.stop [.code [1, 0, 1, 0, 0], .inLoop [1, 0, 1, 0, 0], .inBlock 0, .code [1, 1]] { n := 19, fr := [(0, .p (.lst .stat l)), (1, .x (.c (.fn (.func 53) [] [.pd (.ref .str s 0)]))), (4, .i (0 : Int)), (7, .i (↑(List.length l) : Int)), (8, .i (IntKind.wrap .i64 ((↑k : Int) + (1 : Int))))], ck := [] }))) (.ret (.i (-1 : Int)) []))) (by kernel_rfl) ?_
    refine ⟨fun hlt => ?_, fun hge => ?_⟩
    · have hk' : k < l.length := by have := of_decide_eq_true hlt; omega
      rw [drop_get (t := .stat) (l := l) hk']
      refine ⟨by omega, ?_⟩
      generalize ETy.get .stat l k = v
      refine ⟨fun hb => ⟨?_, rfl⟩, fun hb => ?_⟩
      · simp only [firstAt, hb, cond_true]
      · simp only [firstAt, hb, cond_false]; (rw [wrapK (maxLen_lt hk' hl)]; first | (exfalso; omega) | exact ih (k + 1) (by omega) (by omega))
    · rw [drop_end (l := l) (by have := of_decide_eq_false hge; omega)]
      exact ⟨rfl, rfl⟩
theorem ixs_spec (l : List Ev.Stat) (s : Str) : Does Tryz.prog 52 [.l .stat (l), SX.c (SC.fn (Fn.func 53) [] [RC.pd (PD.ref ETy.str s 0)])] [] (.x (.i (firstAt (fun v : Ev.Stat => v.name == s) l 0))) [] := by
  refine Does.go (cfg := cfgPl1) cfgPl1_ok Tryz.func52 (by kernel_rfl) (by kernel_rfl) (t := (.stop [.code [1, 0, 1, 0, 0], .inLoop [1, 0, 1, 0, 0], .inBlock 0, .code [1, 1]] { n := 19, fr := [(0, .p (.lst .stat l)), (1, .x (.c (.fn (.func 53) [] [.pd (.ref .str s 0)]))), (4, .i (0 : Int)), (7, .i (↑(List.length l) : Int)), (8, .i (0 : Int))], ck := [] })) (by kernel_rfl) fun Γ => ?_
  exact J.len 0 rfl fun hl => ixs_loop l s Γ hl l.length 0 (by omega) (by omega)
def eIxs : Nat × (List SX → List Chunk → Option (Option Prop × SV × List Chunk)) := (52, fun
  | [.c (.pd (.lst .stat l)), .c (.fn (.func 53) [] [.pd (.ref .str s 0)])], [] => some (none, .x (.c (.pd (.int .i64 (firstAt (fun v : Ev.Stat => v.name == s) l 0)))), [])
  | _, _ => none)
theorem eIxs_ok (vs : List SX) (ck : List Chunk) (p : Option Prop) (ret : SV) (ck' : List Chunk) (h : eIxs.2 vs ck = some (p, ret, ck')) (hp : Holds p) : Does Tryz.prog eIxs.1 vs ck ret ck' := by
  unfold eIxs at h
  simp only at h
  split at h
  · rename_i l s
    simp only [Option.some.injEq, Prod.mk.injEq] at h
    obtain ⟨rfl, rfl, rfl⟩ := h
    exact ixs_spec l s
  · simp at h
def cfgPlc : Cfg := ⟨tys0, [eIxs]⟩
theorem cfgPlc_ok : TabOk Tryz.prog cfgPlc.tab := (TabOk.cons eIxs_ok TabOk.nil)
theorem place_spec (c : Chart) (n : Str) : Does Tryz.prog 13 [.e .chart c, .s n] [] (.x (.i (placeM c.states n))) [] := by
  refine Does.go (cfg := cfgPlc) cfgPlc_ok Tryz.func13 (by kernel_rfl) (by kernel_rfl) (t := (.ret (.i (firstAt (fun v => Stat.name v == n) (Chart.states c) (0 : Int))) [])) (by kernel_rfl) fun Γ => ?_
  exact ⟨rfl, rfl⟩
def ePlace : Nat × (List SX → List Chunk → Option (Option Prop × SV × List Chunk)) := (13, fun
  | [.agg [.pd (.str a), .pd (.lst .str b), .pd (.lst .var c), .pd (.lst .stat d), .pd (.lst .tran e)], .c (.pd (.str n))], [] => some (none, .x (.c (.pd (.int .i64 (placeM d n)))), [])
  | _, _ => none)
theorem ePlace_ok (vs : List SX) (ck : List Chunk) (p : Option Prop) (ret : SV) (ck' : List Chunk) (h : ePlace.2 vs ck = some (p, ret, ck')) (hp : Holds p) : Does Tryz.prog ePlace.1 vs ck ret ck' := by
  unfold ePlace at h
  simp only at h
  split at h
  · rename_i a b c d e n
    simp only [Option.some.injEq, Prod.mk.injEq] at h
    obtain ⟨rfl, rfl, rfl⟩ := h
    exact place_spec ⟨a, b, c, d, e⟩ n
  · simp at h
end Go.Proofs.YtcpnicfkpkonkaaGreatDoor
namespace Go.Ev
open Ieee

end Go.Ev

namespace Go.Ev
open Ieee

theorem base_eq (k l : Nat) : min (-(k : Int)) (-(l : Int)) = -((max k l : Nat) : Int) := by omega
end Go.Ev

namespace Go.Ev
open Ieee

end Go.Ev

namespace Go.Ev
open Ieee

def pIn (a : Int) : Bool := decide (-1048576 ≤ a) && decide (a ≤ 1048576)
/-! ### points, by the bits of their parts -/
def num (n : Int) : Nat := FloatKind.f64.nearest n
def madeP (a b : Int) : Nat × Nat := if pIn a && pIn b then (num a, num b) else (0, 0)
def madeE (a b : Int) : Int := if pIn a && pIn b then 0 else 5
end Go.Ev
namespace Go.Proofs.YtcpnicfkpkonkaaGreatDoor
open Go Go.Ev
set_option maxRecDepth 100000
theorem pmade_spec (a b : Int) : Does Tryz.prog 94 [.i a, .i b] [] (.tup [.c (.pd (.cx (some (madeP a b)))), .i (madeE a b)]) [] := by
  refine Does.go (cfg := cfg0) cfg0_ok Tryz.func94 (by kernel_rfl) (by kernel_rfl) (t := (.ite (decide (a < (-1048576 : Int)) || decide (a > (1048576 : Int)) || decide (b < (-1048576 : Int)) || decide (b > (1048576 : Int))) (.ret (.tup [.p (.cx (some (0, 0))), .i (5 : Int)]) []) (.ret (.tup [.p (.cx (some (FloatKind.nearest FloatKind.f64 a, FloatKind.nearest FloatKind.f64 b))), .i (0 : Int)]) []))) (by kernel_rfl) fun Γ => ?_
  refine ⟨fun h => ⟨?_, rfl⟩, fun h => ⟨?_, rfl⟩⟩
  · have : (pIn a && pIn b) = false := by
      simp only [Bool.or_eq_true, decide_eq_true_eq] at h
      simp only [pIn, Bool.and_eq_false_iff, decide_eq_false_iff_not]; omega
    simp [madeP, madeE, this]
  · have : (pIn a && pIn b) = true := by
      simp only [Bool.or_eq_false_iff, decide_eq_false_iff_not] at h
      simp only [pIn, Bool.and_eq_true, decide_eq_true_eq]; omega
    simp [madeP, madeE, this, num]
def ePMade : Nat × (List SX → List Chunk → Option (Option Prop × SV × List Chunk)) := (94, fun
  | [.c (.pd (.int .i64 a)), .c (.pd (.int .i64 b))], [] => some (none, .tup [.c (.pd (.cx (some (madeP a b)))), .c (.pd (.int .i64 (madeE a b)))], [])
  | _, _ => none)
theorem ePMade_ok (vs : List SX) (ck : List Chunk) (p : Option Prop) (ret : SV) (ck' : List Chunk) (h : ePMade.2 vs ck = some (p, ret, ck')) (hp : Holds p) : Does Tryz.prog ePMade.1 vs ck ret ck' := by
  unfold ePMade at h
  simp only at h
  split at h
  · rename_i a b
    simp only [Option.some.injEq, Prod.mk.injEq] at h
    obtain ⟨rfl, rfl, rfl⟩ := h
    exact pmade_spec a b
  · simp at h
end Go.Proofs.YtcpnicfkpkonkaaGreatDoor
namespace Go.Ev

def i64 (n : Int) : Bool := decide (-9223372036854775808 ≤ n) && decide (n ≤ 9223372036854775807)
def u64 (n : Int) : Bool := decide (0 ≤ n) && decide (n < 18446744073709551616)
end Go.Ev

namespace Go.Ev

def vR (v : Val) : Bool := if v.kind = 1 then v.b == 0 else if v.kind = 2 then v.b == 0 && (v.a == 0 || v.a == 1) else if v.kind = 3 then pIn v.a && pIn v.b else false
/-! ### points -/
/-! ### what comes of values that may be may be, too -/
end Go.Ev
namespace Go.Proofs.YtcpnicfkpkonkaaGreatDoor
open Go Go.Ev
set_option maxRecDepth 100000
theorem in_spec (a : Int) : Does Tryz.prog 138 [.i a] [] (.x (.b (pIn a))) [] := by
  refine Does.go (cfg := cfg0) cfg0_ok Tryz.func138 (by kernel_rfl) (by kernel_rfl) (t := (.ret (.p (.bool (decide (a ≥ (-1048576 : Int)) && decide (a ≤ (1048576 : Int))))) [])) (by kernel_rfl) fun Γ => ?_
  exact ⟨rfl, rfl⟩
def eIn : Nat × (List SX → List Chunk → Option (Option Prop × SV × List Chunk)) := (138, fun
  | [.c (.pd (.int .i64 a))], [] => some (none, .x (.c (.pd (.bool (pIn a)))), [])
  | _, _ => none)
theorem eIn_ok (vs : List SX) (ck : List Chunk) (p : Option Prop) (ret : SV) (ck' : List Chunk) (h : eIn.2 vs ck = some (p, ret, ck')) (hp : Holds p) : Does Tryz.prog eIn.1 vs ck ret ck' := by
  unfold eIn at h
  simp only at h
  split at h
  · rename_i a
    simp only [Option.some.injEq, Prod.mk.injEq] at h
    obtain ⟨rfl, rfl, rfl⟩ := h
    exact in_spec a
  · simp at h
def cfgIn : Cfg := ⟨tys0, [eIn]⟩
theorem cfgIn_ok : TabOk Tryz.prog cfgIn.tab := (TabOk.cons eIn_ok TabOk.nil)
def cfgMade : Cfg := ⟨tys0, [ePMade]⟩
theorem cfgMade_ok : TabOk Tryz.prog cfgMade.tab := (TabOk.cons ePMade_ok TabOk.nil)
theorem evright_spec (k a b : Int) : Does Tryz.prog 77 [.agg [.pd (.i k), .pd (.i a), .pd (.i b)]] [] (.x (.b (vR ⟨k, a, b⟩))) [] := by
  refine Does.go (cfg := (cfgMade)) cfgMade_ok Tryz.func77 (by kernel_rfl) (by kernel_rfl) (t := (.ite (k == (1 : Int)) (.ret (.p (.bool (b == (0 : Int)))) []) (.ite (k == (2 : Int)) (.ret (.p (.bool (b == (0 : Int) && (a == (0 : Int) || a == (1 : Int))))) []) (.ite (k == (3 : Int)) (.ret (.p (.bool (madeE a b == (0 : Int)))) []) (.ret (.p (.bool false)) []))))) (by kernel_rfl) fun Γ => ?_
  refine ⟨fun h => ⟨?_, rfl⟩, fun h1 => ⟨fun h => ⟨?_, rfl⟩, fun h2 => ⟨fun h => ⟨?_, rfl⟩, fun h3 => ⟨?_, rfl⟩⟩⟩⟩
  · simp_all [vR]
  · simp_all [vR]
  · have e : vR ⟨k, a, b⟩ = (pIn a && pIn b) := by simp_all [vR]
    rw [e]
    cases h' : (pIn a && pIn b)
    · simp [madeE, h']
    · simp [madeE, h']
  · simp_all [vR]
def eEvRight : Nat × (List SX → List Chunk → Option (Option Prop × SV × List Chunk)) := (77, fun
  | [.agg [.pd (.int .i64 k), .pd (.int .i64 a), .pd (.int .i64 b)]], [] => some (none, .x (.c (.pd (.bool (vR ⟨k, a, b⟩)))), [])
  | _, _ => none)
theorem eEvRight_ok (vs : List SX) (ck : List Chunk) (p : Option Prop) (ret : SV) (ck' : List Chunk) (h : eEvRight.2 vs ck = some (p, ret, ck')) (hp : Holds p) : Does Tryz.prog eEvRight.1 vs ck ret ck' := by
  unfold eEvRight at h
  simp only at h
  split at h
  · rename_i k a b
    simp only [Option.some.injEq, Prod.mk.injEq] at h
    obtain ⟨rfl, rfl, rfl⟩ := h
    exact evright_spec k a b
  · simp at h
theorem refright_spec (k a b : Int) : Does Tryz.prog 85 [.agg [.pd (.i k), .pd (.i a), .pd (.i b)]] [] (.x (.b (vR ⟨k, a, b⟩))) [] := by
  refine Does.go (cfg := (cfgIn)) cfgIn_ok Tryz.func85 (by kernel_rfl) (by kernel_rfl) (t := (.ite (k == (1 : Int)) (.ret (.p (.bool (b == (0 : Int)))) []) (.ite (k == (2 : Int)) (.ret (.p (.bool (k == (2 : Int) && (a == (0 : Int) && b == (0 : Int)) || k == (2 : Int) && (a == (1 : Int) && b == (0 : Int))))) []) (.ite (k == (3 : Int)) (.ret (.p (.bool (pIn a && pIn b))) []) (.ret (.p (.bool false)) []))))) (by kernel_rfl) fun Γ => ?_
  refine ⟨fun h => ⟨?_, rfl⟩, fun h1 => ⟨fun h => ⟨?_, rfl⟩, fun h2 => ⟨fun h => ⟨?_, rfl⟩, fun h3 => ⟨?_, rfl⟩⟩⟩⟩
  · simp_all [vR]
  · have e : k = 2 := by simpa using h
    subst e
    have e2 : vR ⟨2, a, b⟩ = (b == 0 && (a == 0 || a == 1)) := by simp [vR]
    rw [e2]
    cases hb : b == 0 <;> cases h0 : a == 0 <;> cases h4 : a == 1 <;> simp
  · simp_all [vR]
  · simp_all [vR]
def eRefRight : Nat × (List SX → List Chunk → Option (Option Prop × SV × List Chunk)) := (85, fun
  | [.agg [.pd (.int .i64 k), .pd (.int .i64 a), .pd (.int .i64 b)]], [] => some (none, .x (.c (.pd (.bool (vR ⟨k, a, b⟩)))), [])
  | _, _ => none)
theorem eRefRight_ok (vs : List SX) (ck : List Chunk) (p : Option Prop) (ret : SV) (ck' : List Chunk) (h : eRefRight.2 vs ck = some (p, ret, ck')) (hp : Holds p) : Does Tryz.prog eRefRight.1 vs ck ret ck' := by
  unfold eRefRight at h
  simp only at h
  split at h
  · rename_i k a b
    simp only [Option.some.injEq, Prod.mk.injEq] at h
    obtain ⟨rfl, rfl, rfl⟩ := h
    exact refright_spec k a b
  · simp at h
end Go.Proofs.YtcpnicfkpkonkaaGreatDoor

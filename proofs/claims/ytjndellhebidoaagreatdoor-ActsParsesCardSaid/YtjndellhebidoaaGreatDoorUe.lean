/- Contracts: lists of cells alike; two rules of the executor. Conditions: none. Contracts: the document's blocks that may be, blocks alike, blocks copied. Conditions: sizes. The library's contracts of the shelf, laid at this dump by the kit's tools. Conditions: each one's own. The library's contracts of the shelf, laid at this dump by the kit's tools. Conditions: each one's own. Contracts: strings.Cut, Split, Join. Conditions: texts that are not too long; the library's variable. -/
import Derived.Test.YtjndellhebidoaaGreatDoorDa
import Derived.Test.YtjndellhebidoaaGreatDoorJd
import Derived.Test.YtjndellhebidoaaGreatDoorUb
import Derived.Shelf.LaysM
import Derived.Shelf.Strings.Split
import Derived.Test.YtjndellhebidoaaGreatDoorProg
import Derived.Shelf.Strings.Cut
import Derived.Shelf.Lays
import Derived.Shelf.Strings.OnBuilder
namespace Go.Proofs.YtjndellhebidoaaGreatDoor
open Go Go.Ev
set_option maxRecDepth 100000
/-- A plain operation, by a table of its own. -/
def stepRun (P : Program) (cfg : Cfg) (root : Code) (p : List Nat) (i : Nat) (st : ST) : Option (Option Prop × ST) :=
  match (opsOf (sub root p))[i]? with
  | some o => match o.guard with
    | none => op1a P cfg o st
    | some _ => none
  | none => none
theorem J.step {P : Program} {cfg : Cfg} {f : FuncId} {root : Code} {Γ : Ctx} {Q : Out} {st st' : ST} (ht : TabOk P cfg.tab) {p : List Nat} {i : Nat} {k : List PI} {q : Option Prop} (h : stepRun P cfg root p i st = some (q, st')) (hq : Holds q) (hk : J P f root Γ Q (.ops p (i + 1) :: k) st') : J P f root Γ Q (.ops p i :: k) st := by
  unfold stepRun at h
  split at h
  · rename_i o ho
    split at h
    · rename_i hg
      intro hT V a w r
      have hi : i < (opsOf (sub root p)).size := (Array.getElem?_eq_some_iff.1 ho).1
      have hsz : (opsOf (sub root p)).size - i = ((opsOf (sub root p)).size - (i + 1)) + 1 := by omega
      simp only [List.map_cons, PI.den]
      rw [hsz, List.range'_succ]
      exact op1a_sound ⟨ht, hT⟩ r ho (by simp only [Region.wanted, hg]) h hq fun V' a' w' r' => hk hT V' a' w' r'
    · cases h
  · cases h
/-! ### lists, alike -/
def sameGo : List Cell → List Cell → Bool
  | [], [] => true
  | x :: r, y :: q => (x.op == y.op && (x.a == y.a && x.name == y.name)) && sameGo r q
  | _, _ => false
theorem sameGo_self : ∀ l : List Cell, sameGo l l = true
  | [] => rfl
  | x :: r => by simp [sameGo, sameGo_self r]
theorem sameGo_len : ∀ a b : List Cell, a.length ≠ b.length → sameGo a b = false
  | [], [], h => absurd rfl h
  | [], _ :: _, _ => rfl
  | _ :: _, [], _ => rfl
  | x :: r, y :: q, h => by
    rw [sameGo, sameGo_len r q (fun e => h (by simp [e])), Bool.and_false]

theorem same_loop (a b : List Cell) (Γ : Ctx) (hab : a.length = b.length) (ha : a.length ≤ 1000000) : ∀ (n k : Nat), a.length - k ≤ n → k ≤ a.length →
    J Tryz.prog 27 (bodyOf Tryz.f27) Γ (Eq2 (.x (.b (sameGo (a.drop k) (b.drop k)))) []) [.code [1, 1, 0, 1, 0, 0], .inLoop [1, 1, 0, 1, 0, 0], .inBlock 0, .code [1, 1, 1]] ({ n := 26, fr := [(0, .p (.lst .cell a)), (1, .p (.lst .cell b)), (4, .p (.bool false)), (5, .i ((k : Int)))], ck := [], kn := [4] }) := by
  intro n
  induction n with
  | zero => ?_
  | succ n ih => ?_
  all_goals
    intro k hn hk
    refine J.go (cfg := cfg0) cfg0_ok Tryz.func27 1000 (t := (.ite (decide ((↑k : Int) < (↑(List.length a) : Int))) (.need ((0 : Int) ≤ (↑k : Int) ∧ (↑k : Int) < (↑(List.length a) : Int)) (.need ((0 : Int) ≤ (↑k : Int) ∧ (↑k : Int) < (↑(List.length b) : Int)) (.ite (!(Cell.op (ETy.get .cell a k) == Cell.op (ETy.get .cell b k) && (Cell.a (ETy.get .cell a k) == Cell.a (ETy.get .cell b k) && Cell.name (ETy.get .cell a k) == Cell.name (ETy.get .cell b k)))) (.ret (.p (.bool false)) []) (.stop [.code [1, 1, 0, 1, 0, 0], .inLoop [1, 1, 0, 1, 0, 0], .inBlock 0, .code [1, 1, 1]] { n := 26, fr := [(0, .p (.lst .cell a)), (1, .p (.lst .cell b)), (4, .p (.bool false)), (5, .i (IntKind.wrap .i64 ((↑k : Int) + (1 : Int))))], ck := [] })))) (.ret (.p (.bool true)) []))) (by kernel_rfl) ?_
    refine ⟨fun hlt => ?_, fun hge => ?_⟩
    · have hk' : k < a.length := by have := of_decide_eq_true hlt; omega
      have hkb : k < b.length := by omega
      rw [drop_get (t := .cell) (l := a) hk', drop_get (t := .cell) (l := b) hkb]
      refine ⟨by omega, by omega, ?_⟩
      generalize ETy.get .cell a k = x
      generalize ETy.get .cell b k = y
      refine ⟨fun h => ?_, fun h => ?_⟩
      · have h' : (x.op == y.op && (x.a == y.a && x.name == y.name)) = false := by rw [Bool.not_eq_true'] at h; exact h
        rw [sameGo, h', Bool.false_and]; exact ⟨rfl, rfl⟩
      · have h' : (x.op == y.op && (x.a == y.a && x.name == y.name)) = true := by rw [Bool.not_eq_false'] at h; exact h
        rw [sameGo, h', Bool.true_and, wrapK (by omega)]
        first
        | (exfalso; omega)
        | exact J.kn [4] (ih (k + 1) (by omega) (by omega))
    · have hk2 : k = a.length := by have := of_decide_eq_false hge; omega
      have e : a.drop k = [] := drop_end (by omega)
      have e2 : b.drop k = [] := drop_end (by omega)
      rw [e, e2]; exact ⟨rfl, rfl⟩
theorem same_spec (a b : List Cell) (ha : a.length ≤ 1000000) : Does Tryz.prog 27 [.l .cell a, .l .cell b] [] (.x (.b (sameGo a b))) [] := by
  refine Does.go (cfg := cfg0) cfg0_ok Tryz.func27 (by kernel_rfl) (by kernel_rfl) (t := (.ite ((↑(List.length a) : Int) != (↑(List.length b) : Int)) (.ret (.p (.bool false)) []) (.stop [.code [1, 1, 0, 1, 0, 0], .inLoop [1, 1, 0, 1, 0, 0], .inBlock 0, .code [1, 1, 1]] { n := 26, fr := [(0, .p (.lst .cell a)), (1, .p (.lst .cell b)), (4, .p (.bool false)), (5, .i (0 : Int))], ck := [], kn := [4] }))) (by kernel_rfl) fun Γ => ?_
  refine ⟨fun h => ?_, fun h => ?_⟩
  · rw [sameGo_len a b (by have : (a.length : Int) ≠ b.length := by simpa using h
                           omega)]; exact ⟨rfl, rfl⟩
  · have hab : a.length = b.length := by
      have : (a.length : Int) = b.length := by simpa using h
      omega
    exact same_loop a b Γ hab ha a.length 0 (by omega) (Nat.zero_le _)
def eSame : Nat × (List SX → List Chunk → Option (Option Prop × SV × List Chunk)) := (27, fun
  | [.c (.pd (.lst .cell a)), .c (.pd (.lst .cell b))], [] => some (some (a.length ≤ 1000000), .x (.c (.pd (.bool (sameGo a b)))), [])
  | _, _ => none)
theorem eSame_ok (vs : List SX) (ck : List Chunk) (p : Option Prop) (ret : SV) (ck' : List Chunk) (h : eSame.2 vs ck = some (p, ret, ck')) (hp : Holds p) : Does Tryz.prog eSame.1 vs ck ret ck' := by
  unfold eSame at h
  simp only at h
  split at h
  · rename_i a b
    simp only [Option.some.injEq, Prod.mk.injEq] at h
    obtain ⟨rfl, rfl, rfl⟩ := h
    exact same_spec a b hp
  · simp at h
end Go.Proofs.YtjndellhebidoaaGreatDoor
namespace Go.Proofs.YtjndellhebidoaaGreatDoor
open Go Go.Ev
set_option maxRecDepth 100000

theorem ra_loop (l : List Cell) (Γ : Ctx) (hl : l.length ≤ maxLen)  : ∀ (n k : Nat), l.length - k ≤ n → k ≤ l.length →
    J Tryz.prog 71 (bodyOf Tryz.f71) Γ (Eq2 (.x (.b (asksM (l.drop k)))) []) [.code [1, 0, 1, 0, 0], .inLoop [1, 0, 1, 0, 0], .inBlock 0, .code [1, 1]] ({ n := 16, fr := [(0, .p (.lst .cell l)), (2, .p (.bool false)), (3, .i (k))], ck := [], kn := [2] }) := by
  intro n
  induction n with
  | zero => ?_
  | succ n ih => ?_
  all_goals
    intro k hn hk
    refine J.go (cfg := cfg0) cfg0_ok Tryz.func71 1000 (t := (.ite (decide ((↑k : Int) < (↑(List.length l) : Int))) (.need ((0 : Int) ≤ (↑k : Int) ∧ (↑k : Int) < (↑(List.length l) : Int)) (.ite (Cell.op (ETy.get .cell l k) == (6 : Int)) (.ret (.p (.bool true)) []) (.stop [.code [1, 0, 1, 0, 0], .inLoop [1, 0, 1, 0, 0], .inBlock 0, .code [1, 1]] { n := 16, fr := [(0, .p (.lst .cell l)), (2, .p (.bool false)), (3, .i (IntKind.wrap .i64 ((↑k : Int) + (1 : Int))))], ck := [], kn := [2] }))) (.ret (.p (.bool false)) []))) (by kernel_rfl) ?_
    refine ⟨fun hlt => ?_, fun hge => ?_⟩
    · have hk' : k < l.length := by have := of_decide_eq_true hlt; omega
      rw [drop_get (t := .cell) (l := l) hk']
      refine ⟨by omega, ?_⟩
      generalize ETy.get .cell l k = v
      have e : asksM (v :: l.drop (k + 1)) = (v.op == 6 || asksM (l.drop (k + 1))) := List.any_cons
      rw [e]
      refine ⟨fun hb => ⟨?_, rfl⟩, fun hb => ?_⟩
      · have hb' : (v.op == 6) = true := hb
        rw [hb']; rfl
      · have hb' : (v.op == 6) = false := hb
        rw [hb', Bool.false_or]; (rw [wrapK (maxLen_lt hk' hl)]; first | (exfalso; omega) | exact J.kn [2] (ih (k + 1) (by omega) (by omega)))
    · rw [drop_end (l := l) (by have := of_decide_eq_false hge; omega)]
      exact ⟨rfl, rfl⟩
theorem ra_spec (l : List Cell) : Does Tryz.prog 71 [.l .cell (l)] [] (.x (.b (asksM l))) [] := by
  refine Does.go (cfg := cfg0) cfg0_ok Tryz.func71 (by kernel_rfl) (by kernel_rfl) (t := (.stop [.code [1, 0, 1, 0, 0], .inLoop [1, 0, 1, 0, 0], .inBlock 0, .code [1, 1]] { n := 16, fr := [(0, .p (.lst .cell l)), (2, .p (.bool false)), (3, .i (0 : Int))], ck := [], kn := [2] })) (by kernel_rfl) fun Γ => ?_
  exact J.len 0 rfl fun hl => ra_loop l Γ hl l.length 0 (by omega) (by omega)
def eRasks : Nat × (List SX → List Chunk → Option (Option Prop × SV × List Chunk)) := (71, fun
  | [.c (.pd (.lst .cell l))], [] => some (none, .x (.c (.pd (.bool (asksM l)))), [])
  | _, _ => none)
theorem eRasks_ok (vs : List SX) (ck : List Chunk) (p : Option Prop) (ret : SV) (ck' : List Chunk) (h : eRasks.2 vs ck = some (p, ret, ck')) (hp : Holds p) : Does Tryz.prog eRasks.1 vs ck ret ck' := by
  unfold eRasks at h
  simp only at h
  split at h
  · rename_i l
    simp only [Option.some.injEq, Prod.mk.injEq] at h
    obtain ⟨rfl, rfl, rfl⟩ := h
    exact ra_spec l
  · simp at h
def cfgRone : Cfg := ⟨tys0, [eRnm, eRright, eRasks, eRefEvent]⟩
theorem cfgRone_ok : TabOk Tryz.prog cfgRone.tab := (TabOk.cons eRnm_ok (TabOk.cons eRright_ok (TabOk.cons eRasks_ok (TabOk.cons eRefEvent_ok TabOk.nil))))
theorem rone_spec (d : Deed) : Does Tryz.prog 39 [.e .deed d] [] (.x (.b (deedOk d))) [] := by
  refine Does.go (cfg := cfgRone) cfgRone_ok Tryz.func39 (by kernel_rfl) (by kernel_rfl) (t := (.ite (Deed.kind d == (1 : Int)) (.ret (.p (.bool (nameM (Deed.name d) && rightM (Deed.expr d) && !asksM (Deed.expr d)))) []) (.ret (.p (.bool ((Deed.kind d == (2 : Int) || Deed.kind d == (3 : Int)) && eventM (Deed.name d) && (↑(List.length (Deed.expr d)) : Int) == (0 : Int)))) []))) (by kernel_rfl) fun Γ => ?_
  unfold deedOk plainM
  refine ⟨fun h => ?_, fun h => ?_⟩
  · rw [h, cond_true, ← Bool.and_assoc]; exact ⟨rfl, rfl⟩
  · rw [h, cond_false]
    cases h2 : (d.kind == 2 || d.kind == 3)
    · rw [Bool.false_and, Bool.false_and]; exact ⟨rfl, rfl⟩
    · rw [Bool.true_and]; exact ⟨rfl, rfl⟩
def eRone : Nat × (List SX → List Chunk → Option (Option Prop × SV × List Chunk)) := (39, fun
  | [.agg [.pd (.int .i64 a), .pd (.str b), .pd (.lst .cell d)]], [] => some (none, .x (.c (.pd (.bool (deedOk ⟨a, b, d⟩)))), [])
  | _, _ => none)
theorem eRone_ok (vs : List SX) (ck : List Chunk) (p : Option Prop) (ret : SV) (ck' : List Chunk) (h : eRone.2 vs ck = some (p, ret, ck')) (hp : Holds p) : Does Tryz.prog eRone.1 vs ck ret ck' := by
  unfold eRone at h
  simp only at h
  split at h
  · rename_i a b d
    simp only [Option.some.injEq, Prod.mk.injEq] at h
    obtain ⟨rfl, rfl, rfl⟩ := h
    exact rone_spec ⟨a, b, d⟩
  · simp at h
/-! ### alike -/
def sameDeed (x y : Deed) : Bool := x.kind == y.kind && (x.name == y.name && sameGo x.expr y.expr)
def sameDeeds : List Deed → List Deed → Bool
  | [], [] => true
  | x :: r, y :: q => sameDeed x y && sameDeeds r q
  | _, _ => false
theorem sameDeeds_self : ∀ l : List Deed, sameDeeds l l = true
  | [] => rfl
  | x :: r => by simp [sameDeeds, sameDeed, sameGo_self, sameDeeds_self r]
theorem sameDeeds_len : ∀ a b : List Deed, a.length ≠ b.length → sameDeeds a b = false
  | [], [], h => absurd rfl h
  | [], _ :: _, _ => rfl
  | _ :: _, [], _ => rfl
  | x :: r, y :: q, h => by rw [sameDeeds, sameDeeds_len r q (fun e => h (by simp [e])), Bool.and_false]
def cfgSm : Cfg := ⟨tys0, [eSame]⟩
theorem cfgSm_ok : TabOk Tryz.prog cfgSm.tab := (TabOk.cons eSame_ok TabOk.nil)

theorem sm_loop (a b : List Deed) (Γ : Ctx) (hl : a.length ≤ maxLen) (hab : a.length = b.length) (ha : ∀ d ∈ a, d.expr.length ≤ 1000000) : ∀ (n k : Nat), a.length - k ≤ n → k ≤ a.length →
    J Tryz.prog 12 (bodyOf Tryz.f12) Γ (Eq2 (.x (.b (sameDeeds (a.drop k) (b.drop k)))) []) [.code [1, 1, 0, 1, 0, 0], .inLoop [1, 1, 0, 1, 0, 0], .inBlock 0, .code [1, 1, 1]] ({ n := 55, fr := [(0, .p (.lst .deed a)), (1, .p (.lst .deed b)), (4, .p (.bool false)), (5, .i (k))], ck := [], kn := [4] }) := by
  intro n
  induction n with
  | zero => ?_
  | succ n ih => ?_
  all_goals
    intro k hn hk
    refine J.go (cfg := cfgSm) cfgSm_ok Tryz.func12 1000 (t := (.ite (decide ((↑k : Int) < (↑(List.length a) : Int))) (.need ((0 : Int) ≤ (↑k : Int) ∧ (↑k : Int) < (↑(List.length a) : Int)) (.need ((0 : Int) ≤ (↑k : Int) ∧ (↑k : Int) < (↑(List.length b) : Int)) (.need (Prod.snd (Prod.snd (Prod.snd (11, 28, false, onBy false (Deed.kind (ETy.get .deed a k) != Deed.kind (ETy.get .deed b k)) none))) → (0 : Int) ≤ (↑k : Int) ∧ (↑k : Int) < (↑(List.length a) : Int)) (.need (Prod.snd (Prod.snd (Prod.snd (11, 28, false, onBy false (Deed.kind (ETy.get .deed a k) != Deed.kind (ETy.get .deed b k)) none))) → (0 : Int) ≤ (↑k : Int) ∧ (↑k : Int) < (↑(List.length b) : Int)) (.need (Prod.snd (Prod.snd (Prod.snd (24, 41, false, onBy false (Deed.kind (ETy.get .deed a k) != Deed.kind (ETy.get .deed b k) || !Deed.name (ETy.get .deed a k) == Deed.name (ETy.get .deed b k)) none))) → (0 : Int) ≤ (↑k : Int) ∧ (↑k : Int) < (↑(List.length a) : Int)) (.need (Prod.snd (Prod.snd (Prod.snd (24, 41, false, onBy false (Deed.kind (ETy.get .deed a k) != Deed.kind (ETy.get .deed b k) || !Deed.name (ETy.get .deed a k) == Deed.name (ETy.get .deed b k)) none))) → (0 : Int) ≤ (↑k : Int) ∧ (↑k : Int) < (↑(List.length b) : Int)) (.need (Prod.snd (Prod.snd (Prod.snd (24, 41, false, onBy false (Deed.kind (ETy.get .deed a k) != Deed.kind (ETy.get .deed b k) || !Deed.name (ETy.get .deed a k) == Deed.name (ETy.get .deed b k)) none))) → List.length (Deed.expr (ETy.get .deed a k)) ≤ 1000000) (.ite (Deed.kind (ETy.get .deed a k) != Deed.kind (ETy.get .deed b k) || !Deed.name (ETy.get .deed a k) == Deed.name (ETy.get .deed b k) || !sameGo (Deed.expr (ETy.get .deed a k)) (Deed.expr (ETy.get .deed b k))) (.ret (.p (.bool false)) []) (.stop [.code [1, 1, 0, 1, 0, 0], .inLoop [1, 1, 0, 1, 0, 0], .inBlock 0, .code [1, 1, 1]] { n := 55, fr := [(0, .p (.lst .deed a)), (1, .p (.lst .deed b)), (4, .p (.bool false)), (5, .i (IntKind.wrap .i64 ((↑k : Int) + (1 : Int))))], ck := [] }))))))))) (.ret (.p (.bool true)) []))) (by kernel_rfl) ?_
    refine ⟨fun hlt => ?_, fun hge => ?_⟩
    · have hk' : k < a.length := by have := of_decide_eq_true hlt; omega
      have hx : (ETy.get .deed a k).expr.length ≤ 1000000 := ha _ (List.mem_of_getElem? (ETy.getElem?_get (t := .deed) hk'))
      rw [drop_get (t := .deed) (l := a) hk', drop_get (t := .deed) (l := b) (by omega)]
      refine ⟨by omega, by omega, fun _ => by omega, fun _ => by omega, fun _ => by omega, fun _ => by omega, fun _ => hx, ?_⟩
      generalize ETy.get .deed a k = x
      generalize ETy.get .deed b k = y
      have e : sameDeed x y = !(x.kind != y.kind || !(x.name == y.name) || !sameGo x.expr y.expr) := by
        simp only [sameDeed, bne, Bool.not_or, Bool.not_not, Bool.and_assoc]
      refine ⟨fun hb => ⟨?_, rfl⟩, fun hb => ?_⟩
      · rw [sameDeeds, e, hb]; rfl
      · rw [sameDeeds, e, hb, Bool.not_false, Bool.true_and, wrapK (maxLen_lt hk' hl)]
        first
        | (exfalso; omega)
        | exact J.kn [4] (ih (k + 1) (by omega) (by omega))
    · rw [drop_end (l := a) (by have := of_decide_eq_false hge; omega), drop_end (l := b) (by have := of_decide_eq_false hge; omega)]
      exact ⟨rfl, rfl⟩
theorem sm_spec (a b : List Deed) (ha : ∀ d ∈ a, d.expr.length ≤ 1000000) : Does Tryz.prog 12 [.l .deed a, .l .deed b] [] (.x (.b (sameDeeds a b))) [] := by
  refine Does.go (cfg := cfgSm) cfgSm_ok Tryz.func12 (by kernel_rfl) (by kernel_rfl) (t := (.ite ((↑(List.length a) : Int) != (↑(List.length b) : Int)) (.ret (.p (.bool false)) []) (.stop [.code [1, 1, 0, 1, 0, 0], .inLoop [1, 1, 0, 1, 0, 0], .inBlock 0, .code [1, 1, 1]] { n := 55, fr := [(0, .p (.lst .deed a)), (1, .p (.lst .deed b)), (4, .p (.bool false)), (5, .i (0 : Int))], ck := [], kn := [4] }))) (by kernel_rfl) fun Γ => ?_
  refine ⟨fun h => ?_, fun h => ?_⟩
  · rw [sameDeeds_len a b (by have : (a.length : Int) ≠ b.length := by simpa using h
                              omega)]; exact ⟨rfl, rfl⟩
  · have hab : a.length = b.length := by
      have : (a.length : Int) = b.length := by simpa using h
      omega
    exact J.len 0 rfl fun hl => sm_loop a b Γ hl hab ha a.length 0 (by omega) (by omega)
def eSameD : Nat × (List SX → List Chunk → Option (Option Prop × SV × List Chunk)) := (12, fun
  | [.c (.pd (.lst .deed a)), .c (.pd (.lst .deed b))], [] => some (some (∀ d ∈ a, d.expr.length ≤ 1000000), .x (.c (.pd (.bool (sameDeeds a b)))), [])
  | _, _ => none)
theorem eSameD_ok (vs : List SX) (ck : List Chunk) (p : Option Prop) (ret : SV) (ck' : List Chunk) (h : eSameD.2 vs ck = some (p, ret, ck')) (hp : Holds p) : Does Tryz.prog eSameD.1 vs ck ret ck' := by
  unfold eSameD at h
  simp only at h
  split at h
  · rename_i a b
    simp only [Option.some.injEq, Prod.mk.injEq] at h
    obtain ⟨rfl, rfl, rfl⟩ := h
    exact sm_spec a b hp
  · simp at h
/-! ### copied -/

end Go.Proofs.YtjndellhebidoaaGreatDoor
namespace Go.Proofs
open Go.Shelf
def Tryz.lays146_ren : Go.Shelf.Ren := ⟨fun | 146 => 24 | 221 => 40 | 268 => 73 | 138 => 74 | 143 => 75 | 195 => 106 | 197 => 107 | 218 => 108 | 219 => 109 | 260 => 130 | 217 => 131 | 225 => 132 | 224 => 133 | 267 => 134 | 266 => 150 | 314 => 151 | n => n, fun | 9 => 9 | 31 => 36 | 3 => 3 | 4 => 4 | 0 => 0 | 105 => 148 | 21 => 21 | 5 => 5 | 46 => 173 | 119 => 187 | 139 => 190 | 138 => 189 | 146 => 192 | 51 => 191 | n => n, fun | 1 => 0 | 3 => 1 | 4 => 2 | n => n⟩
theorem Tryz.lays146 : Go.Proofs.Lays.n146 Tryz.prog Tryz.lays146_ren := {
  mixed := by kernel_rfl
  f138 := Tryz.func74.trans (congrArg some (by kernel_rfl))
  f143 := Tryz.func75.trans (congrArg some (by kernel_rfl))
  f146 := Tryz.func24.trans (congrArg some (by kernel_rfl))
  f195 := Tryz.func106.trans (congrArg some (by kernel_rfl))
  f197 := Tryz.func107.trans (congrArg some (by kernel_rfl))
  f217 := Tryz.func131.trans (congrArg some (by kernel_rfl))
  f218 := Tryz.func108.trans (congrArg some (by kernel_rfl))
  f219 := Tryz.func109.trans (congrArg some (by kernel_rfl))
  f221 := Tryz.func40.trans (congrArg some (by kernel_rfl))
  f224 := Tryz.func133.trans (congrArg some (by kernel_rfl))
  f225 := Tryz.func132.trans (congrArg some (by kernel_rfl))
  f260 := Tryz.func130.trans (congrArg some (by kernel_rfl))
  f266 := Tryz.func150.trans (congrArg some (by kernel_rfl))
  f267 := Tryz.func134.trans (congrArg some (by kernel_rfl))
  f268 := Tryz.func73.trans (congrArg some (by kernel_rfl))
  f314 := Tryz.func151.trans (congrArg some (by kernel_rfl))
  t0 := Tryz.underlying0
  a0 := Tryz.isAgg0
  z0 := Tryz.sizeOf0
  v0 := Tryz.zeroValue0
  t3 := Tryz.underlying3
  a3 := Tryz.isAgg3
  z3 := Tryz.sizeOf3
  v3 := Tryz.zeroValue3
  t4 := Tryz.underlying4
  a4 := Tryz.isAgg4
  z4 := Tryz.sizeOf4
  v4 := Tryz.zeroValue4
  t5 := Tryz.underlying5
  a5 := Tryz.isAgg5
  z5 := Tryz.sizeOf5
  v5 := Tryz.zeroValue5
  t9 := Tryz.underlying9
  a9 := Tryz.isAgg9
  z9 := Tryz.sizeOf9
  v9 := Tryz.zeroValue9
  t21 := Tryz.underlying21
  a21 := Tryz.isAgg21
  z21 := Tryz.sizeOf21
  v21 := Tryz.zeroValue21
  t31 := Tryz.underlying36
  a31 := Tryz.isAgg36
  z31 := Tryz.sizeOf36
  v31 := Tryz.zeroValue36
  t46 := Tryz.underlying173
  a46 := Tryz.isAgg173
  z46 := Tryz.sizeOf173
  v46 := Tryz.zeroValue173
  t51 := Tryz.underlying191
  a51 := Tryz.isAgg191
  z51 := Tryz.sizeOf191
  v51 := Tryz.zeroValue191
  t105 := Tryz.underlying148
  a105 := Tryz.isAgg148
  z105 := Tryz.sizeOf148
  v105 := Tryz.zeroValue148
  t119 := Tryz.underlying187
  a119 := Tryz.isAgg187
  z119 := Tryz.sizeOf187
  t138 := Tryz.underlying189
  a138 := Tryz.isAgg189
  z138 := Tryz.sizeOf189
  v138 := Tryz.zeroValue189
  t139 := Tryz.underlying190
  a139 := Tryz.isAgg190
  z139 := Tryz.sizeOf190
  v139 := Tryz.zeroValue190
  t146 := Tryz.underlying192
  a146 := Tryz.isAgg192
  z146 := Tryz.sizeOf192
  v146 := Tryz.zeroValue192
  g1 := by kernel_rfl
  g3 := by kernel_rfl
  g4 := by kernel_rfl }
open Go.RowKit Go.Lib in
/-- strings.Split. (LAID: no walk: one application.) -/
theorem Tryz.strings_Split (s sep : ByteArray) (m : Int) (w : World) (hs : s.size < 4294967281) (hm : w.cell? ⟨0, 0, none⟩ = some (.int .i64 m)) (h1 : 1 ≤ sep.size) :
    Calls Tryz.prog 24 #[.string s, .string sep] w fun e w' =>
      e = .returned (.slice (some ⟨w.heap.size, 0, none⟩) (Lib.countB s sep + 1) (Lib.countB s sep + 1)) ∧ w' = w.alloc (.cells ((Lib.splitB sep 0 (Lib.countB s sep) s).map Value.string).toArray 9) := Any.strings_Split Tryz.lays146 (by kernel_rfl) s sep m w hs hm h1
end Go.Proofs
namespace Go.Proofs
open Go.Shelf
def Tryz.lays145_ren : Go.Shelf.Ren := ⟨fun | 145 => 43 | 220 => 77 | 219 => 109 | 217 => 131 | 225 => 132 | 224 => 133 | 267 => 134 | 266 => 150 | 314 => 151 | n => n, fun | 9 => 9 | 4 => 4 | 59 => 79 | 3 => 3 | 5 => 5 | 46 => 173 | 146 => 192 | 51 => 191 | n => n, fun | 1 => 0 | n => n⟩
theorem Tryz.lays145 : Go.Proofs.Lays.n145 Tryz.prog Tryz.lays145_ren := {
  mixed := by kernel_rfl
  f145 := Tryz.func43.trans (congrArg some (by kernel_rfl))
  f217 := Tryz.func131.trans (congrArg some (by kernel_rfl))
  f219 := Tryz.func109.trans (congrArg some (by kernel_rfl))
  f220 := Tryz.func77.trans (congrArg some (by kernel_rfl))
  f224 := Tryz.func133.trans (congrArg some (by kernel_rfl))
  f225 := Tryz.func132.trans (congrArg some (by kernel_rfl))
  f266 := Tryz.func150.trans (congrArg some (by kernel_rfl))
  f267 := Tryz.func134.trans (congrArg some (by kernel_rfl))
  f314 := Tryz.func151.trans (congrArg some (by kernel_rfl))
  t3 := Tryz.underlying3
  a3 := Tryz.isAgg3
  z3 := Tryz.sizeOf3
  v3 := Tryz.zeroValue3
  t4 := Tryz.underlying4
  a4 := Tryz.isAgg4
  z4 := Tryz.sizeOf4
  v4 := Tryz.zeroValue4
  t5 := Tryz.underlying5
  a5 := Tryz.isAgg5
  z5 := Tryz.sizeOf5
  v5 := Tryz.zeroValue5
  t9 := Tryz.underlying9
  a9 := Tryz.isAgg9
  z9 := Tryz.sizeOf9
  v9 := Tryz.zeroValue9
  t46 := Tryz.underlying173
  a46 := Tryz.isAgg173
  z46 := Tryz.sizeOf173
  v46 := Tryz.zeroValue173
  t51 := Tryz.underlying191
  a51 := Tryz.isAgg191
  z51 := Tryz.sizeOf191
  v51 := Tryz.zeroValue191
  t59 := Tryz.underlying79
  a59 := Tryz.isAgg79
  z59 := Tryz.sizeOf79
  v59 := Tryz.zeroValue79
  t146 := Tryz.underlying192
  a146 := Tryz.isAgg192
  z146 := Tryz.sizeOf192
  v146 := Tryz.zeroValue192
  g1 := by kernel_rfl }
open Go.RowKit Go.Lib in
/-- strings.Cut: "Cut slices s around the first instance of sep, returning the text before and after sep. The found result reports whether sep appears in s. If sep does not appear in s, cut returns s, "", false.": IT RETURNS 'Lib.cut s sep'; the world is as it was but for the count of draws. (LAID: no walk: one application.) -/
theorem Tryz.strings_Cut (s sep : ByteArray) (m : Int) (w : World) (hs : s.size < 4294967281) (hm : w.cell? ⟨0, 0, none⟩ = some (.int .i64 m)) :
    Calls Tryz.prog 43 #[.string s, .string sep] w fun e w' => e = .returned (.tuple #[.string ⟨(Lib.cut s.data.toList sep.data.toList).1.toArray⟩, .string ⟨(Lib.cut s.data.toList sep.data.toList).2.1.toArray⟩, .bool (Lib.cut s.data.toList sep.data.toList).2.2]) ∧ ∃ n, w' = w.drewN n := Any.strings_Cut Tryz.lays145 s sep m w hs hm
end Go.Proofs
namespace Go.Proofs.YtjndellhebidoaaGreatDoor
open Go Go.Ev Go.RowKit
set_option maxRecDepth 100000
theorem maxlen_cell {V : Vn} {w : World} (hT : Tabs Tryz.prog V.H) (hi : HIn V.H w) : ∃ m, w.cell? ⟨0, 0, none⟩ = some (.int .i64 m) := by
  obtain ⟨g, cs, e, fr, m, h1, h2, h3⟩ := hT.2.2.2 (by kernel_rfl)
  have e1 : g = 0 := (Option.some.inj ((show Tryz.prog.globalNamed "internal/bytealg.MaxLen" = some 0 by kernel_rfl).symm.trans h1)).symm
  subst e1
  have h4 := hi _ _ h2
  exact ⟨m, by simp only [World.cell?, h4]; exact h3⟩
theorem two_strs {V : Vn} {a b : Str} {vs : List Value} (hv : All2 (SX.R V) [SX.s a, SX.s b] vs) : vs = [.string (bs a), .string (bs b)] := by
  cases hv with
  | cons a1 hv => cases hv with
    | cons a2 hv =>
      cases hv
      have a1' : PR V.H (.str a) _ := a1
      have a2' : PR V.H (.str b) _ := a2
      cases a1'; cases a2'
      rfl
theorem cut_spec (s : Str) (hs : s.length < 4294967281) : Does Tryz.prog 43 [.s s, .s [61]] [] (.tup [.s (preM s), .s (postM s), .b (hasEq s)]) [] := by
  intro w V vs hw hT hv
  rw [two_strs hv]
  obtain ⟨m, hm⟩ := maxlen_cell hT hw.imm
  refine (Tryz.strings_Cut (bs s) (bs [61]) m w (by rw [bs_size]; exact hs) hm).mono fun e w' ⟨he, n, hw'⟩ => ?_
  subst he; subst hw'
  refine ⟨_, V, rfl, ?_, hw.kept ⟨rfl, rfl, rfl, Nat.le_refl _, fun _ _ _ => rfl⟩⟩
  rw [bs_toList, bs_toList, cut_eq]
  have key : (if hasEq s = true then (preM s, postM s, true) else (s, [], false)) = (preM s, postM s, hasEq s) := by
    cases h : hasEq s
    · obtain ⟨h1, h2⟩ := pre_no s h
      rw [h1, h2]; rfl
    · rfl
  rw [key]
  exact ⟨_, rfl, .cons (PR.str _) (.cons (PR.str _) (.cons (PR.bool _) .nil))⟩
def eCutB : Nat × (List SX → List Chunk → Option (Option Prop × SV × List Chunk)) := (43, fun
  | [.c (.pd (.str s)), .c (.pd (.str [61]))], [] => some (some (s.length < 4294967281), .tup [.c (.pd (.str (preM s))), .c (.pd (.str (postM s))), .c (.pd (.bool (hasEq s)))], [])
  | _, _ => none)
theorem eCutB_ok (vs : List SX) (ck : List Chunk) (p : Option Prop) (ret : SV) (ck' : List Chunk) (h : eCutB.2 vs ck = some (p, ret, ck')) (hp : Holds p) : Does Tryz.prog eCutB.1 vs ck ret ck' := by
  unfold eCutB at h
  simp only at h
  split at h
  · rename_i s
    simp only [Option.some.injEq, Prod.mk.injEq] at h
    obtain ⟨rfl, rfl, rfl⟩ := h
    exact cut_spec s hp
  · simp at h
theorem partsGo_len : ∀ (s cur : Str), (partsGo cur s).length = s.countP (· == 59) + 1
  | [], cur => rfl
  | c :: r, cur => by
    rw [partsGo, List.countP_cons]
    cases h : c == 59
    · rw [cond_false, partsGo_len r]; simp
    · rw [cond_true, List.length_cons, partsGo_len r]; simp
theorem parts_length (s : Str) : (partsGo [] s).length ≤ s.length + 1 := by
  rw [partsGo_len]; have := List.countP_le_length (p := (· == (59 : UInt8))) (l := s); omega
theorem str_flat {H : Mem} : ∀ (l : List Str), All2 (PR H) (l.flatMap ETy.str.enc) (l.map fun s => Value.string (bs s))
  | [] => .nil
  | s :: r => .cons (.str s) (str_flat r)
theorem split_spec (s : Str) (hs : s.length < 4294967281) : Does Tryz.prog 24 [.s s, .s [59]] [] (.x (.c (.own 0))) [.own 9 .str (partsGo [] s)] := by
  intro w V vs hw hT hv
  rw [two_strs hv]
  obtain ⟨m, hm⟩ := maxlen_cell hT hw.imm
  have hp := split_parts s
  have hl := congrArg List.length hp
  rw [List.length_map] at hl
  have hc : Lib.countB (bs s) ⟨#[59]⟩ + 1 = (partsGo [] s).length := by
    rw [← hl]; exact (Lib.splitB_all ⟨#[59]⟩ (by decide) 0 _ (bs s) rfl).symm
  refine (Tryz.strings_Split (bs s) (bs [59]) m w (by rw [bs_size]; exact hs) hm (by decide)).mono fun e w' ⟨he, hw'⟩ => ?_
  subst he; subst hw'
  have hcells : (Lib.splitB (bs [59]) 0 (Lib.countB (bs s) (bs [59])) (bs s)).map Value.string = (partsGo [] s).map fun s => Value.string (bs s) := by
    rw [← hp, List.map_map]
    exact List.map_congr_left fun x _ => by simp [bs_eta]
  have hc' : Lib.countB (bs s) (bs [59]) + 1 = (partsGo [] s).length := hc
  rw [hcells, hc']
  have hlen := parts_length s
  obtain ⟨V2, hag, _, _, e2, hw2⟩ := hw.regrow (ck := []) rfl (Nat.zero_le _) none (c := .own 9 .str (partsGo [] s)) (v' := .slice (some ⟨w.heap.size, 0, none⟩) (partsGo [] s).length (partsGo [] s).length) (s' := w.heap.size) (w' := w.alloc (.cells ((partsGo [] s).map fun s => Value.string (bs s)).toArray 9)) (row := none) (by simp) (World.grownBy_alloc w _ none) (fun V' hag hH f1 f2 => by
    have f3 : V'.ov 0 = .slice (some ⟨w.heap.size, 0, none⟩) (partsGo [] s).length (partsGo [] s).length := f2
    have f4 : V'.σ 0 = w.heap.size := f1
    refine ⟨⟨(partsGo [] s).map fun s => Value.string (bs s), ?_, str_flat _, fun b hb => ?_⟩, fun b hb => ?_⟩
    · rw [f2]
      have := World.ownsRow_lit (base := 0) (size := 1) (e := 9) w ((partsGo [] s).map fun s => Value.string (bs s)).toArray (partsGo [] s).length (Nat.zero_le _) (by unfold maxLen; omega) (by simp)
      exact this
    · rw [f2] at hb; simp only [Value.ownBlock, Option.some.injEq] at hb; rw [f1, ← hb]
    · right; simp only [Chunk.blk] at hb; rw [f2] at hb; simp only [Value.ownBlock, Option.some.injEq] at hb; omega)
  exact ⟨_, V2, rfl, e2.symm, hw2⟩
def eSplit : Nat × (List SX → List Chunk → Option (Option Prop × SV × List Chunk)) := (24, fun
  | [.c (.pd (.str s)), .c (.pd (.str [59]))], [] => some (some (s.length < 4294967281), .x (.c (.own 0)), [.own 9 .str (partsGo [] s)])
  | _, _ => none)
theorem eSplit_ok (vs : List SX) (ck : List Chunk) (p : Option Prop) (ret : SV) (ck' : List Chunk) (h : eSplit.2 vs ck = some (p, ret, ck')) (hp : Holds p) : Does Tryz.prog eSplit.1 vs ck ret ck' := by
  unfold eSplit at h
  simp only at h
  split at h
  · rename_i s
    simp only [Option.some.injEq, Prod.mk.injEq] at h
    obtain ⟨rfl, rfl, rfl⟩ := h
    exact split_spec s hp
  · simp at h
end Go.Proofs.YtjndellhebidoaaGreatDoor

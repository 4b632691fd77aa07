/- Contracts: lists of cells alike; two rules of the executor. Conditions: none. Contracts: the document's blocks that may be, blocks alike, blocks copied. Conditions: sizes. -/
import Derived.Test.YtjndellhebidoaaGreatDoorDa
import Derived.Test.YtjndellhebidoaaGreatDoorNr
import Derived.Test.YtjndellhebidoaaGreatDoorUc
namespace Go.Proofs.YtjndellhebidoaaGreatDoor
open Go Go.Ev
set_option maxRecDepth 100000
def stepRun (P : Program) (cfg : Cfg) (root : Code) (p : List Nat) (i : Nat) (st : ST) : Option (Option Prop × ST) :=
  match (opsOf (sub root p))[i]? with
  | some o => match o.guard with
    | none => op1a P cfg o st
    | some _ => none
  | none => none
theorem J.step {P : Program} {cfg : Cfg} {f : FuncId} {root : Code} {Γ : Ctx} {Q : Out} {st st' : ST} (ht : TabOk P cfg.tab) {p : List Nat} {i : Nat} {k : List PI} {q : Option Prop} (h : stepRun P cfg root p i st = some (q, st')) (hq : Holds q) (hk : J P f root Γ Q (.ops p (i + 1) :: k) st') : J P f root Γ Q (.ops p i :: k) st := by
  unfold stepRun at h
  split at h
  · rename_i o ho
    split at h
    · rename_i hg
      intro hT V a w r
      have hi : i < (opsOf (sub root p)).size := (Array.getElem?_eq_some_iff.1 ho).1
      have hsz : (opsOf (sub root p)).size - i = ((opsOf (sub root p)).size - (i + 1)) + 1 := by omega
      simp only [List.map_cons, PI.den]
      rw [hsz, List.range'_succ]
      exact op1a_sound ⟨ht, hT⟩ r ho (by simp only [Region.wanted, hg]) h hq fun V' a' w' r' => hk hT V' a' w' r'
    · cases h
  · cases h
/-! ### lists, alike -/
def sameGo : List Cell → List Cell → Bool
  | [], [] => true
  | x :: r, y :: q => (x.op == y.op && (x.a == y.a && x.name == y.name)) && sameGo r q
  | _, _ => false
theorem sameGo_self : ∀ l : List Cell, sameGo l l = true
  | [] => rfl
  | x :: r => by simp [sameGo, sameGo_self r]
theorem sameGo_len : ∀ a b : List Cell, a.length ≠ b.length → sameGo a b = false
  | [], [], h => absurd rfl h
  | [], _ :: _, _ => rfl
  | _ :: _, [], _ => rfl
  | x :: r, y :: q, h => by
    rw [sameGo, sameGo_len r q (fun e => h (by simp [e])), Bool.and_false]

theorem same_loop (a b : List Cell) (Γ : Ctx) (hab : a.length = b.length) (ha : a.length ≤ 1000000) : ∀ (n k : Nat), a.length - k ≤ n → k ≤ a.length →
    J Tryz.prog 27 (bodyOf Tryz.f27) Γ (Eq2 (.x (.b (sameGo (a.drop k) (b.drop k)))) []) [.code [1, 1, 0, 1, 0, 0], .inLoop [1, 1, 0, 1, 0, 0], .inBlock 0, .code [1, 1, 1]] ({ n := 26, fr := [(0, .p (.lst .cell a)), (1, .p (.lst .cell b)), (4, .p (.bool false)), (5, .i ((k : Int)))], ck := [], kn := [4] }) := by
  intro n
  induction n with
  | zero => ?_
  | succ n ih => ?_
  all_goals
    intro k hn hk
    refine J.go (cfg := cfg0) cfg0_ok Tryz.func27 1000 (t := (.ite (decide ((↑k : Int) < (↑(List.length a) : Int))) (.need ((0 : Int) ≤ (↑k : Int) ∧ (↑k : Int) < (↑(List.length a) : Int)) (.need ((0 : Int) ≤ (↑k : Int) ∧ (↑k : Int) < (↑(List.length b) : Int)) (.ite (!(Cell.op (ETy.get .cell a k) == Cell.op (ETy.get .cell b k) && (Cell.a (ETy.get .cell a k) == Cell.a (ETy.get .cell b k) && Cell.name (ETy.get .cell a k) == Cell.name (ETy.get .cell b k)))) (.ret (.p (.bool false)) []) (.stop [.code [1, 1, 0, 1, 0, 0], .inLoop [1, 1, 0, 1, 0, 0], .inBlock 0, .code [1, 1, 1]] { n := 26, fr := [(0, .p (.lst .cell a)), (1, .p (.lst .cell b)), (4, .p (.bool false)), (5, .i (IntKind.wrap .i64 ((↑k : Int) + (1 : Int))))], ck := [] })))) (.ret (.p (.bool true)) []))) (by kernel_rfl) ?_
    refine ⟨fun hlt => ?_, fun hge => ?_⟩
    · have hk' : k < a.length := by have := of_decide_eq_true hlt; omega
      have hkb : k < b.length := by omega
      rw [drop_get (t := .cell) (l := a) hk', drop_get (t := .cell) (l := b) hkb]
      refine ⟨by omega, by omega, ?_⟩
      generalize ETy.get .cell a k = x
      generalize ETy.get .cell b k = y
      refine ⟨fun h => ?_, fun h => ?_⟩
      · have h' : (x.op == y.op && (x.a == y.a && x.name == y.name)) = false := by rw [Bool.not_eq_true'] at h; exact h
        rw [sameGo, h', Bool.false_and]; exact ⟨rfl, rfl⟩
      · have h' : (x.op == y.op && (x.a == y.a && x.name == y.name)) = true := by rw [Bool.not_eq_false'] at h; exact h
        rw [sameGo, h', Bool.true_and, wrapK (by omega)]
        first
        | (exfalso; omega)
        | exact J.kn [4] (ih (k + 1) (by omega) (by omega))
    · have hk2 : k = a.length := by have := of_decide_eq_false hge; omega
      have e : a.drop k = [] := drop_end (by omega)
      have e2 : b.drop k = [] := drop_end (by omega)
      rw [e, e2]; exact ⟨rfl, rfl⟩
theorem same_spec (a b : List Cell) (ha : a.length ≤ 1000000) : Does Tryz.prog 27 [.l .cell a, .l .cell b] [] (.x (.b (sameGo a b))) [] := by
  refine Does.go (cfg := cfg0) cfg0_ok Tryz.func27 (by kernel_rfl) (by kernel_rfl) (t := (.ite ((↑(List.length a) : Int) != (↑(List.length b) : Int)) (.ret (.p (.bool false)) []) (.stop [.code [1, 1, 0, 1, 0, 0], .inLoop [1, 1, 0, 1, 0, 0], .inBlock 0, .code [1, 1, 1]] { n := 26, fr := [(0, .p (.lst .cell a)), (1, .p (.lst .cell b)), (4, .p (.bool false)), (5, .i (0 : Int))], ck := [], kn := [4] }))) (by kernel_rfl) fun Γ => ?_
  refine ⟨fun h => ?_, fun h => ?_⟩
  · rw [sameGo_len a b (by have : (a.length : Int) ≠ b.length := by simpa using h
                           omega)]; exact ⟨rfl, rfl⟩
  · have hab : a.length = b.length := by
      have : (a.length : Int) = b.length := by simpa using h
      omega
    exact same_loop a b Γ hab ha a.length 0 (by omega) (Nat.zero_le _)
def eSame : Nat × (List SX → List Chunk → Option (Option Prop × SV × List Chunk)) := (27, fun
  | [.c (.pd (.lst .cell a)), .c (.pd (.lst .cell b))], [] => some (some (a.length ≤ 1000000), .x (.c (.pd (.bool (sameGo a b)))), [])
  | _, _ => none)
theorem eSame_ok (vs : List SX) (ck : List Chunk) (p : Option Prop) (ret : SV) (ck' : List Chunk) (h : eSame.2 vs ck = some (p, ret, ck')) (hp : Holds p) : Does Tryz.prog eSame.1 vs ck ret ck' := by
  unfold eSame at h
  simp only at h
  split at h
  · rename_i a b
    simp only [Option.some.injEq, Prod.mk.injEq] at h
    obtain ⟨rfl, rfl, rfl⟩ := h
    exact same_spec a b hp
  · simp at h
end Go.Proofs.YtjndellhebidoaaGreatDoor
namespace Go.Proofs.YtjndellhebidoaaGreatDoor
open Go Go.Ev
set_option maxRecDepth 100000

/-! ### alike -/
def sameDeed (x y : Deed) : Bool := x.kind == y.kind && (x.name == y.name && sameGo x.expr y.expr)
def sameDeeds : List Deed → List Deed → Bool
  | [], [] => true
  | x :: r, y :: q => sameDeed x y && sameDeeds r q
  | _, _ => false
theorem sameDeeds_self : ∀ l : List Deed, sameDeeds l l = true
  | [] => rfl
  | x :: r => by simp [sameDeeds, sameDeed, sameGo_self, sameDeeds_self r]
theorem sameDeeds_len : ∀ a b : List Deed, a.length ≠ b.length → sameDeeds a b = false
  | [], [], h => absurd rfl h
  | [], _ :: _, _ => rfl
  | _ :: _, [], _ => rfl
  | x :: r, y :: q, h => by rw [sameDeeds, sameDeeds_len r q (fun e => h (by simp [e])), Bool.and_false]
def cfgSm : Cfg := ⟨tys0, [eSame]⟩
theorem cfgSm_ok : TabOk Tryz.prog cfgSm.tab := (TabOk.cons eSame_ok TabOk.nil)

theorem sm_loop (a b : List Deed) (Γ : Ctx) (hl : a.length ≤ maxLen) (hab : a.length = b.length) (ha : ∀ d ∈ a, d.expr.length ≤ 1000000) : ∀ (n k : Nat), a.length - k ≤ n → k ≤ a.length →
    J Tryz.prog 12 (bodyOf Tryz.f12) Γ (Eq2 (.x (.b (sameDeeds (a.drop k) (b.drop k)))) []) [.code [1, 1, 0, 1, 0, 0], .inLoop [1, 1, 0, 1, 0, 0], .inBlock 0, .code [1, 1, 1]] ({ n := 55, fr := [(0, .p (.lst .deed a)), (1, .p (.lst .deed b)), (4, .p (.bool false)), (5, .i (k))], ck := [], kn := [4] }) := by
  intro n
  induction n with
  | zero => ?_
  | succ n ih => ?_
  all_goals
    intro k hn hk
    refine J.go (cfg := cfgSm) cfgSm_ok Tryz.func12 1000 (t := (.ite (decide ((↑k : Int) < (↑(List.length a) : Int))) (.need ((0 : Int) ≤ (↑k : Int) ∧ (↑k : Int) < (↑(List.length a) : Int)) (.need ((0 : Int) ≤ (↑k : Int) ∧ (↑k : Int) < (↑(List.length b) : Int)) (.need (Prod.snd (Prod.snd (Prod.snd (11, 28, false, onBy false (Deed.kind (ETy.get .deed a k) != Deed.kind (ETy.get .deed b k)) none))) → (0 : Int) ≤ (↑k : Int) ∧ (↑k : Int) < (↑(List.length a) : Int)) (.need (Prod.snd (Prod.snd (Prod.snd (11, 28, false, onBy false (Deed.kind (ETy.get .deed a k) != Deed.kind (ETy.get .deed b k)) none))) → (0 : Int) ≤ (↑k : Int) ∧ (↑k : Int) < (↑(List.length b) : Int)) (.need (Prod.snd (Prod.snd (Prod.snd (24, 41, false, onBy false (Deed.kind (ETy.get .deed a k) != Deed.kind (ETy.get .deed b k) || !Deed.name (ETy.get .deed a k) == Deed.name (ETy.get .deed b k)) none))) → (0 : Int) ≤ (↑k : Int) ∧ (↑k : Int) < (↑(List.length a) : Int)) (.need (Prod.snd (Prod.snd (Prod.snd (24, 41, false, onBy false (Deed.kind (ETy.get .deed a k) != Deed.kind (ETy.get .deed b k) || !Deed.name (ETy.get .deed a k) == Deed.name (ETy.get .deed b k)) none))) → (0 : Int) ≤ (↑k : Int) ∧ (↑k : Int) < (↑(List.length b) : Int)) (.need (Prod.snd (Prod.snd (Prod.snd (24, 41, false, onBy false (Deed.kind (ETy.get .deed a k) != Deed.kind (ETy.get .deed b k) || !Deed.name (ETy.get .deed a k) == Deed.name (ETy.get .deed b k)) none))) → List.length (Deed.expr (ETy.get .deed a k)) ≤ 1000000) (.ite (Deed.kind (ETy.get .deed a k) != Deed.kind (ETy.get .deed b k) || !Deed.name (ETy.get .deed a k) == Deed.name (ETy.get .deed b k) || !sameGo (Deed.expr (ETy.get .deed a k)) (Deed.expr (ETy.get .deed b k))) (.ret (.p (.bool false)) []) (.stop [.code [1, 1, 0, 1, 0, 0], .inLoop [1, 1, 0, 1, 0, 0], .inBlock 0, .code [1, 1, 1]] { n := 55, fr := [(0, .p (.lst .deed a)), (1, .p (.lst .deed b)), (4, .p (.bool false)), (5, .i (IntKind.wrap .i64 ((↑k : Int) + (1 : Int))))], ck := [] }))))))))) (.ret (.p (.bool true)) []))) (by kernel_rfl) ?_
    refine ⟨fun hlt => ?_, fun hge => ?_⟩
    · have hk' : k < a.length := by have := of_decide_eq_true hlt; omega
      have hx : (ETy.get .deed a k).expr.length ≤ 1000000 := ha _ (List.mem_of_getElem? (ETy.getElem?_get (t := .deed) hk'))
      rw [drop_get (t := .deed) (l := a) hk', drop_get (t := .deed) (l := b) (by omega)]
      refine ⟨by omega, by omega, fun _ => by omega, fun _ => by omega, fun _ => by omega, fun _ => by omega, fun _ => hx, ?_⟩
      generalize ETy.get .deed a k = x
      generalize ETy.get .deed b k = y
      have e : sameDeed x y = !(x.kind != y.kind || !(x.name == y.name) || !sameGo x.expr y.expr) := by
        simp only [sameDeed, bne, Bool.not_or, Bool.not_not, Bool.and_assoc]
      refine ⟨fun hb => ⟨?_, rfl⟩, fun hb => ?_⟩
      · rw [sameDeeds, e, hb]; rfl
      · rw [sameDeeds, e, hb, Bool.not_false, Bool.true_and, wrapK (maxLen_lt hk' hl)]
        first
        | (exfalso; omega)
        | exact J.kn [4] (ih (k + 1) (by omega) (by omega))
    · rw [drop_end (l := a) (by have := of_decide_eq_false hge; omega), drop_end (l := b) (by have := of_decide_eq_false hge; omega)]
      exact ⟨rfl, rfl⟩
theorem sm_spec (a b : List Deed) (ha : ∀ d ∈ a, d.expr.length ≤ 1000000) : Does Tryz.prog 12 [.l .deed a, .l .deed b] [] (.x (.b (sameDeeds a b))) [] := by
  refine Does.go (cfg := cfgSm) cfgSm_ok Tryz.func12 (by kernel_rfl) (by kernel_rfl) (t := (.ite ((↑(List.length a) : Int) != (↑(List.length b) : Int)) (.ret (.p (.bool false)) []) (.stop [.code [1, 1, 0, 1, 0, 0], .inLoop [1, 1, 0, 1, 0, 0], .inBlock 0, .code [1, 1, 1]] { n := 55, fr := [(0, .p (.lst .deed a)), (1, .p (.lst .deed b)), (4, .p (.bool false)), (5, .i (0 : Int))], ck := [], kn := [4] }))) (by kernel_rfl) fun Γ => ?_
  refine ⟨fun h => ?_, fun h => ?_⟩
  · rw [sameDeeds_len a b (by have : (a.length : Int) ≠ b.length := by simpa using h
                              omega)]; exact ⟨rfl, rfl⟩
  · have hab : a.length = b.length := by
      have : (a.length : Int) = b.length := by simpa using h
      omega
    exact J.len 0 rfl fun hl => sm_loop a b Γ hl hab ha a.length 0 (by omega) (by omega)
def eSameD : Nat × (List SX → List Chunk → Option (Option Prop × SV × List Chunk)) := (12, fun
  | [.c (.pd (.lst .deed a)), .c (.pd (.lst .deed b))], [] => some (some (∀ d ∈ a, d.expr.length ≤ 1000000), .x (.c (.pd (.bool (sameDeeds a b)))), [])
  | _, _ => none)
theorem eSameD_ok (vs : List SX) (ck : List Chunk) (p : Option Prop) (ret : SV) (ck' : List Chunk) (h : eSameD.2 vs ck = some (p, ret, ck')) (hp : Holds p) : Does Tryz.prog eSameD.1 vs ck ret ck' := by
  unfold eSameD at h
  simp only at h
  split at h
  · rename_i a b
    simp only [Option.some.injEq, Prod.mk.injEq] at h
    obtain ⟨rfl, rfl, rfl⟩ := h
    exact sm_spec a b hp
  · simp at h
/-! ### copied -/

theorem deed_eta {l : List Deed} {k : Nat} (hk : k < l.length) : l.set k (ETy.get .deed l k) = l := by
  apply List.ext_getElem? ; intro i
  rw [List.getElem?_set]
  split
  · rename_i h; subst h; simp [ETy.get, List.getD_eq_getElem?_getD, hk]
  · rfl
theorem cp_loop (l : List Deed) (Γ : Ctx) (hl : l.length ≤ maxLen) (hr : ∀ a ∈ l, room a.expr.length 32) : ∀ (n k : Nat), l.length - k ≤ n → k ≤ l.length →
    J Tryz.prog 15 (bodyOf Tryz.f15) Γ (Eq2 (.x (.c (.own 0))) [.own 60 .deed l]) [.code [1, 1, 0, 1, 0, 0], .inLoop [1, 1, 0, 1, 0, 0], .inBlock 0, .code [1, 1, 1]] ({ n := 26, fr := [(2, .p (.v (Value.slice none 0 0))), (3, .x (.c (.own 0))), (9, .i (↑(List.length ([] ++ l)) : Int)), (10, .i (k))], ck := [.own 60 .deed l] }) := by
  intro n
  induction n with
  | zero => ?_
  | succ n ih => ?_
  all_goals
    intro k hn hk
    refine J.go (cfg := cfg0) cfg0_ok Tryz.func15 1000 (t := (.ite (decide ((↑k : Int) < (↑(List.length ([] ++ l)) : Int))) (.need ((0 : Int) ≤ (↑k : Int) ∧ (↑k : Int) < (↑(List.length l) : Int)) (.need (k < List.length l) (.need (room (List.length ([] ++ Deed.expr (ETy.get .deed l k))) 32) (.need ((0 : Int) ≤ (↑k : Int) ∧ (↑k : Int) < (↑(List.length l) : Int)) (.stop [.ops [1, 1, 0, 1, 0, 0, 1, 1, 0, 0, 1] 11, .inBlock 1, .code [1, 1, 0, 1, 0, 0, 1, 1, 1], .inLoop [1, 1, 0, 1, 0, 0], .inBlock 0, .code [1, 1, 1]] { n := 26, fr := [(2, .p (.v (Value.slice none 0 0))), (3, .x (.c (.own 0))), (9, .i (↑(List.length ([] ++ l)) : Int)), (10, .i (↑k : Int)), (21, .x (.c (.own 1))), (23, .x (.c (.oat 0 k 3 2)))], ck := [.own 60 .deed l, .own 88 .cell ([] ++ Deed.expr (ETy.get .deed l k))] }))))) (.ret (.x (.c (.own 0))) [.own 60 .deed l]))) (by kernel_rfl) ?_
    refine ⟨fun hlt => ?_, fun hge => ⟨rfl, rfl⟩⟩
    have hk' : k < l.length := by have : (k : Int) < (l.length : Int) := of_decide_eq_true hlt
                                  omega
    have hx := hr _ (List.mem_of_getElem? (ETy.getElem?_get (t := .deed) hk'))
    refine ⟨⟨by omega, by omega⟩, by omega, hx, ⟨by omega, by omega⟩, ?_⟩
    have hz : J Tryz.prog 15 (bodyOf Tryz.f15) Γ (Eq2 (.x (.c (.own 0))) [.own 60 .deed l]) [.ops [1, 1, 0, 1, 0, 0, 1, 1, 0, 0, 1] 11, .inBlock 1, .code [1, 1, 0, 1, 0, 0, 1, 1, 1], .inLoop [1, 1, 0, 1, 0, 0], .inBlock 0, .code [1, 1, 1]] ({ n := 26, fr := [(2, .p (.v (Value.slice none 0 0))), (3, .x (.c (.own 0))), (9, .i (↑(List.length ([] ++ l)) : Int)), (10, .i (↑k : Int)), (21, .p (.lst .cell ((Deed.expr (ETy.get .deed l k))))), (23, .x (.c (.oat 0 k 3 2)))], ck := [.own 60 .deed l, .dead] }) := by
      refine J.go (cfg := cfg0) cfg0_ok Tryz.func15 1000 (t := (.need (k < List.length l) (.stop [.code [1, 1, 0, 1, 0, 0], .inLoop [1, 1, 0, 1, 0, 0], .inBlock 0, .code [1, 1, 1]] { n := 26, fr := [(2, .p (.v (Value.slice none 0 0))), (3, .x (.c (.own 0))), (9, .i (↑(List.length ([] ++ l)) : Int)), (10, .i (IntKind.wrap .i64 ((↑k : Int) + (1 : Int))))], ck := [.own 60 .deed (List.set l k { kind := Deed.kind (ETy.get .deed l k), name := Deed.name (ETy.get .deed l k), expr := Deed.expr (ETy.get .deed l k) })] }))) (by kernel_rfl) ?_
      refine ⟨by omega, ?_⟩
      have e : List.set l k (⟨(ETy.get .deed l k).kind, (ETy.get .deed l k).name, (ETy.get .deed l k).expr⟩ : Deed) = l := deed_eta hk'
      rw [e, wrapK (maxLen_lt hk' hl)]
      first
      | (exfalso; omega)
      | exact ih (k + 1) (by omega) (by omega)
    exact J.freeze tys0 [1] (by kernel_rfl) hz
theorem cp_spec (l : List Deed) (hr : room l.length 48) (hx : ∀ a ∈ l, room a.expr.length 32) : Does Tryz.prog 15 [.l .deed l] [] (.x (.c (.own 0))) [.own 60 .deed l] := by
  refine Does.go (cfg := cfg0) cfg0_ok Tryz.func15 (by kernel_rfl) (by kernel_rfl) (t := (.need (room (List.length ([] ++ l)) 48) (.stop [.code [1, 1, 0, 1, 0, 0], .inLoop [1, 1, 0, 1, 0, 0], .inBlock 0, .code [1, 1, 1]] { n := 26, fr := [(2, .p (.v (Value.slice none 0 0))), (3, .x (.c (.own 0))), (9, .i (↑(List.length ([] ++ l)) : Int)), (10, .i (0 : Int))], ck := [.own 60 .deed ([] ++ l)] }))) (by kernel_rfl) fun Γ => ?_
  exact ⟨hr, cp_loop l Γ hr.2 hx l.length 0 (by omega) (by omega)⟩
def eCpd : Nat × (List SX → List Chunk → Option (Option Prop × SV × List Chunk)) := (15, fun
  | [.c (.pd (.lst .deed l))], [] => some (some (room l.length 48 ∧ ∀ a ∈ l, room a.expr.length 32), .x (.c (.own 0)), [.own 60 .deed l])
  | _, _ => none)
theorem eCpd_ok (vs : List SX) (ck : List Chunk) (p : Option Prop) (ret : SV) (ck' : List Chunk) (h : eCpd.2 vs ck = some (p, ret, ck')) (hp : Holds p) : Does Tryz.prog eCpd.1 vs ck ret ck' := by
  unfold eCpd at h
  simp only at h
  split at h
  · rename_i l
    simp only [Option.some.injEq, Prod.mk.injEq] at h
    obtain ⟨rfl, rfl, rfl⟩ := h
    exact cp_spec l hp.1 hp.2
  · simp at h
theorem long_spec (l : List Deed) : Does Tryz.prog 13 [.l .deed l] [] (.x (.b (decide ((l.length : Int) > 100)))) [] := by
  refine Does.go (cfg := cfg0) cfg0_ok Tryz.func13 (by kernel_rfl) (by kernel_rfl) (t := (.ret (.p (.bool (decide ((↑(List.length l) : Int) > (100 : Int))))) [])) (by kernel_rfl) fun Γ => ⟨rfl, rfl⟩
def eLong : Nat × (List SX → List Chunk → Option (Option Prop × SV × List Chunk)) := (13, fun
  | [.c (.pd (.lst .deed l))], [] => some (none, .x (.c (.pd (.bool (decide ((l.length : Int) > 100))))), [])
  | _, _ => none)
theorem eLong_ok (vs : List SX) (ck : List Chunk) (p : Option Prop) (ret : SV) (ck' : List Chunk) (h : eLong.2 vs ck = some (p, ret, ck')) (hp : Holds p) : Does Tryz.prog eLong.1 vs ck ret ck' := by
  unfold eLong at h
  simp only at h
  split at h
  · rename_i l
    simp only [Option.some.injEq, Prod.mk.injEq] at h
    obtain ⟨rfl, rfl, rfl⟩ := h
    exact long_spec l
  · simp at h
end Go.Proofs.YtjndellhebidoaaGreatDoor

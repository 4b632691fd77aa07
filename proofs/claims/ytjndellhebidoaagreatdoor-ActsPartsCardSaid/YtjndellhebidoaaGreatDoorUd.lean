/- Contracts: the document's blocks done. Conditions: numbers are such. Contracts: lists of cells alike; two rules of the executor. Conditions: none. Contracts: the document's blocks that may be, blocks alike, blocks copied. Conditions: sizes. -/
import Derived.Test.YtjndellhebidoaaGreatDoorUb
import Derived.Test.YtjndellhebidoaaGreatDoorDa
import Derived.Test.YtjndellhebidoaaGreatDoorNr
namespace Go.Proofs.YtjndellhebidoaaGreatDoor
open Go Go.Ev
set_option maxRecDepth 100000
theorem rfits_spec (v : Var) (x : Val) : Does Tryz.prog 19 [.e .var v, .e .val x] [] (.x (.b (fitsM v x))) [] := by
  refine Does.go (cfg := cfg0) cfg0_ok Tryz.func19 (by kernel_rfl) (by kernel_rfl) (t := (.ite (Var.kind v != Val.kind x || decide (Val.a x < Var.lo v) || decide (Val.a x > Var.hi v)) (.ret (.p (.bool false)) []) (.ret (.p (.bool (Val.kind x != (3 : Int) || decide (Val.b x ≥ Var.lo v) && decide (Val.b x ≤ Var.hi v)))) []))) (by kernel_rfl) fun Γ => ?_
  have e : ∀ b : Bool, b = fitsM v x → Eq2 (.x (.b (fitsM v x))) [] (SV.x (SX.c (SC.pd (PD.bool b)))) [] := fun b h => by rw [h]; exact ⟨rfl, rfl⟩
  refine ⟨fun h => e _ ?_, fun h => e _ ?_⟩
  · unfold fitsM
    simp only [Bool.or_eq_true, bne_iff_ne, decide_eq_true_eq] at h
    symm
    cases hb : (v.kind == x.kind && (decide (x.a ≥ v.lo) && decide (x.a ≤ v.hi) && (x.kind != 3 || (decide (x.b ≥ v.lo) && decide (x.b ≤ v.hi)))))
    · rfl
    · simp only [Bool.and_eq_true, beq_iff_eq, decide_eq_true_eq] at hb
      omega
  · unfold fitsM
    simp only [Bool.or_eq_false_iff, bne_eq_false_iff_eq, decide_eq_false_iff_not] at h
    rw [show (v.kind == x.kind) = true by simpa using h.1.1, show decide (x.a ≥ v.lo) = true by simpa using h.1.2, show decide (x.a ≤ v.hi) = true by simpa using h.2]
    rfl
def eRfits : Nat × (List SX → List Chunk → Option (Option Prop × SV × List Chunk)) := (19, fun
  | [.agg [.pd (.str n), .pd (.int .i64 k), .pd (.int .i64 lo), .pd (.int .i64 hi), .pd (.int .i64 ik), .pd (.int .i64 ia), .pd (.int .i64 ib)], .agg [.pd (.int .i64 xk), .pd (.int .i64 xa), .pd (.int .i64 xb)]], [] => some (none, .x (.c (.pd (.bool (fitsM ⟨n, k, lo, hi, ⟨ik, ia, ib⟩⟩ ⟨xk, xa, xb⟩)))), [])
  | _, _ => none)
theorem eRfits_ok (vs : List SX) (ck : List Chunk) (p : Option Prop) (ret : SV) (ck' : List Chunk) (h : eRfits.2 vs ck = some (p, ret, ck')) (hp : Holds p) : Does Tryz.prog eRfits.1 vs ck ret ck' := by
  unfold eRfits at h
  simp only at h
  split at h
  · rename_i n k lo hi ik ia ib xk xa xb
    simp only [Option.some.injEq, Prod.mk.injEq] at h
    obtain ⟨rfl, rfl, rfl⟩ := h
    exact rfits_spec ⟨n, k, lo, hi, ⟨ik, ia, ib⟩⟩ ⟨xk, xa, xb⟩
  · simp at h
def sameVal (x y : Val) : Bool := x.kind == y.kind && (x.a == y.a && x.b == y.b)
def sameVals : List Val → List Val → Bool
  | [], [] => true
  | x :: r, y :: q => sameVal x y && sameVals r q
  | _, _ => false
theorem sameVals_self : ∀ l : List Val, sameVals l l = true
  | [] => rfl
  | x :: r => by simp [sameVals, sameVal, sameVals_self r]
theorem sameVals_len : ∀ a b : List Val, a.length ≠ b.length → sameVals a b = false
  | [], [], h => absurd rfl h
  | [], _ :: _, _ => rfl
  | _ :: _, [], _ => rfl
  | x :: r, y :: q, h => by rw [sameVals, sameVals_len r q (fun e => h (by simp [e])), Bool.and_false]

theorem sv_loop (a b : List Val) (Γ : Ctx) (hl : a.length ≤ maxLen) (hab : a.length = b.length) : ∀ (n k : Nat), a.length - k ≤ n → k ≤ a.length →
    J Tryz.prog 17 (bodyOf Tryz.f17) Γ (Eq2 (.x (.b (sameVals (a.drop k) (b.drop k)))) []) [.code [1, 1, 0, 1, 0, 0], .inLoop [1, 1, 0, 1, 0, 0], .inBlock 0, .code [1, 1, 1]] ({ n := 26, fr := [(0, .p (.lst .val a)), (1, .p (.lst .val b)), (4, .p (.bool false)), (5, .i (k))], ck := [], kn := [4] }) := by
  intro n
  induction n with
  | zero => ?_
  | succ n ih => ?_
  all_goals
    intro k hn hk
    refine J.go (cfg := cfg0) cfg0_ok Tryz.func17 1000 (t := (.ite (decide ((↑k : Int) < (↑(List.length a) : Int))) (.need ((0 : Int) ≤ (↑k : Int) ∧ (↑k : Int) < (↑(List.length a) : Int)) (.need ((0 : Int) ≤ (↑k : Int) ∧ (↑k : Int) < (↑(List.length b) : Int)) (.ite (!(Val.kind (ETy.get .val a k) == Val.kind (ETy.get .val b k) && (Val.a (ETy.get .val a k) == Val.a (ETy.get .val b k) && Val.b (ETy.get .val a k) == Val.b (ETy.get .val b k)))) (.ret (.p (.bool false)) []) (.stop [.code [1, 1, 0, 1, 0, 0], .inLoop [1, 1, 0, 1, 0, 0], .inBlock 0, .code [1, 1, 1]] { n := 26, fr := [(0, .p (.lst .val a)), (1, .p (.lst .val b)), (4, .p (.bool false)), (5, .i (IntKind.wrap .i64 ((↑k : Int) + (1 : Int))))], ck := [] })))) (.ret (.p (.bool true)) []))) (by kernel_rfl) ?_
    refine ⟨fun hlt => ?_, fun hge => ?_⟩
    · have hk' : k < a.length := by have := of_decide_eq_true hlt; omega
      rw [drop_get (t := .val) (l := a) hk', drop_get (t := .val) (l := b) (by omega)]
      refine ⟨by omega, by omega, ?_⟩
      generalize ETy.get .val a k = x
      generalize ETy.get .val b k = y
      refine ⟨fun hb => ⟨?_, rfl⟩, fun hb => ?_⟩
      · have hb' : sameVal x y = false := nt hb
        rw [sameVals, hb']; rfl
      · have hb' : sameVal x y = true := nf hb
        rw [sameVals, hb', Bool.true_and, wrapK (maxLen_lt hk' hl)]
        first
        | (exfalso; omega)
        | exact J.kn [4] (ih (k + 1) (by omega) (by omega))
    · rw [drop_end (l := a) (by have := of_decide_eq_false hge; omega), drop_end (l := b) (by have := of_decide_eq_false hge; omega)]
      exact ⟨rfl, rfl⟩
theorem sv_spec (a b : List Val) : Does Tryz.prog 17 [.l .val a, .l .val b] [] (.x (.b (sameVals a b))) [] := by
  refine Does.go (cfg := cfg0) cfg0_ok Tryz.func17 (by kernel_rfl) (by kernel_rfl) (t := (.ite ((↑(List.length a) : Int) != (↑(List.length b) : Int)) (.ret (.p (.bool false)) []) (.stop [.code [1, 1, 0, 1, 0, 0], .inLoop [1, 1, 0, 1, 0, 0], .inBlock 0, .code [1, 1, 1]] { n := 26, fr := [(0, .p (.lst .val a)), (1, .p (.lst .val b)), (4, .p (.bool false)), (5, .i (0 : Int))], ck := [], kn := [4] }))) (by kernel_rfl) fun Γ => ?_
  refine ⟨fun h => ?_, fun h => ?_⟩
  · rw [sameVals_len a b (by have : (a.length : Int) ≠ b.length := by simpa using h
                             omega)]; exact ⟨rfl, rfl⟩
  · have hab : a.length = b.length := by
      have : (a.length : Int) = b.length := by simpa using h
      omega
    exact J.len 0 rfl fun hl => sv_loop a b Γ hl hab a.length 0 (by omega) (by omega)
def eSv : Nat × (List SX → List Chunk → Option (Option Prop × SV × List Chunk)) := (17, fun
  | [.c (.pd (.lst .val a)), .c (.pd (.lst .val b))], [] => some (none, .x (.c (.pd (.bool (sameVals a b)))), [])
  | _, _ => none)
theorem eSv_ok (vs : List SX) (ck : List Chunk) (p : Option Prop) (ret : SV) (ck' : List Chunk) (h : eSv.2 vs ck = some (p, ret, ck')) (hp : Holds p) : Does Tryz.prog eSv.1 vs ck ret ck' := by
  unfold eSv at h
  simp only at h
  split at h
  · rename_i a b
    simp only [Option.some.injEq, Prod.mk.injEq] at h
    obtain ⟨rfl, rfl, rfl⟩ := h
    exact sv_spec a b
  · simp at h
end Go.Proofs.YtjndellhebidoaaGreatDoor
namespace Go.Proofs.YtjndellhebidoaaGreatDoor
open Go Go.Ev
set_option maxRecDepth 100000
theorem J.settle {P : Program} {f : FuncId} {root : Code} {Γ : Ctx} {Q : Out} {todo : List PI} {st : ST} {t s : Nat} {want : Bool} {v : SX} (hm : (t, SV.grd s want v) ∈ st.fr) (hb : lookup st.fr s = some (.x (.c (.pd (.bool want))))) {fr' : List (Nat × SV)} (hf : ∀ p ∈ fr', p ∈ st.fr ∨ p = (t, .x v))
    (hk : J P f root Γ Q todo { st with fr := fr' }) : J P f root Γ Q todo st := by
  intro hT V a w r
  have hon : a.tmps.getD s undef = .bool want := by
    have := r.slots s _ (lookup_mem hb)
    have h2 : SX.R V (.c (.pd (.bool want))) (a.tmps.getD s undef) := this
    generalize a.tmps.getD s undef = u at h2 ⊢
    cases h2; rfl
  have hv : SlotOk V a t (.x v) := (r.slots t _ hm).1 hon
  refine hk hT V a w ⟨r.1, r.2, fun t' sv h' => ?_, r.4, r.5⟩
  rcases hf _ h' with h | h
  · exact r.slots _ _ h
  · simp only [Prod.mk.injEq] at h
    obtain ⟨rfl, rfl⟩ := h; exact hv
def stepRun (P : Program) (cfg : Cfg) (root : Code) (p : List Nat) (i : Nat) (st : ST) : Option (Option Prop × ST) :=
  match (opsOf (sub root p))[i]? with
  | some o => match o.guard with
    | none => op1a P cfg o st
    | some _ => none
  | none => none
theorem J.step {P : Program} {cfg : Cfg} {f : FuncId} {root : Code} {Γ : Ctx} {Q : Out} {st st' : ST} (ht : TabOk P cfg.tab) {p : List Nat} {i : Nat} {k : List PI} {q : Option Prop} (h : stepRun P cfg root p i st = some (q, st')) (hq : Holds q) (hk : J P f root Γ Q (.ops p (i + 1) :: k) st') : J P f root Γ Q (.ops p i :: k) st := by
  unfold stepRun at h
  split at h
  · rename_i o ho
    split at h
    · rename_i hg
      intro hT V a w r
      have hi : i < (opsOf (sub root p)).size := (Array.getElem?_eq_some_iff.1 ho).1
      have hsz : (opsOf (sub root p)).size - i = ((opsOf (sub root p)).size - (i + 1)) + 1 := by omega
      simp only [List.map_cons, PI.den]
      rw [hsz, List.range'_succ]
      exact op1a_sound ⟨ht, hT⟩ r ho (by simp only [Region.wanted, hg]) h hq fun V' a' w' r' => hk hT V' a' w' r'
    · cases h
  · cases h
/-! ### lists, alike -/
end Go.Proofs.YtjndellhebidoaaGreatDoor
namespace Go.Proofs.YtjndellhebidoaaGreatDoor
open Go Go.Ev
set_option maxRecDepth 100000

theorem ra_loop (l : List Cell) (Γ : Ctx) (hl : l.length ≤ maxLen)  : ∀ (n k : Nat), l.length - k ≤ n → k ≤ l.length →
    J Tryz.prog 71 (bodyOf Tryz.f71) Γ (Eq2 (.x (.b (asksM (l.drop k)))) []) [.code [1, 0, 1, 0, 0], .inLoop [1, 0, 1, 0, 0], .inBlock 0, .code [1, 1]] ({ n := 16, fr := [(0, .p (.lst .cell l)), (2, .p (.bool false)), (3, .i (k))], ck := [], kn := [2] }) := by
  intro n
  induction n with
  | zero => ?_
  | succ n ih => ?_
  all_goals
    intro k hn hk
    refine J.go (cfg := cfg0) cfg0_ok Tryz.func71 1000 (t := (.ite (decide ((↑k : Int) < (↑(List.length l) : Int))) (.need ((0 : Int) ≤ (↑k : Int) ∧ (↑k : Int) < (↑(List.length l) : Int)) (.ite (Cell.op (ETy.get .cell l k) == (6 : Int)) (.ret (.p (.bool true)) []) (.stop [.code [1, 0, 1, 0, 0], .inLoop [1, 0, 1, 0, 0], .inBlock 0, .code [1, 1]] { n := 16, fr := [(0, .p (.lst .cell l)), (2, .p (.bool false)), (3, .i (IntKind.wrap .i64 ((↑k : Int) + (1 : Int))))], ck := [], kn := [2] }))) (.ret (.p (.bool false)) []))) (by kernel_rfl) ?_
    refine ⟨fun hlt => ?_, fun hge => ?_⟩
    · have hk' : k < l.length := by have := of_decide_eq_true hlt; omega
      rw [drop_get (t := .cell) (l := l) hk']
      refine ⟨by omega, ?_⟩
      generalize ETy.get .cell l k = v
      have e : asksM (v :: l.drop (k + 1)) = (v.op == 6 || asksM (l.drop (k + 1))) := List.any_cons
      rw [e]
      refine ⟨fun hb => ⟨?_, rfl⟩, fun hb => ?_⟩
      · have hb' : (v.op == 6) = true := hb
        rw [hb']; rfl
      · have hb' : (v.op == 6) = false := hb
        rw [hb', Bool.false_or]; (rw [wrapK (maxLen_lt hk' hl)]; first | (exfalso; omega) | exact J.kn [2] (ih (k + 1) (by omega) (by omega)))
    · rw [drop_end (l := l) (by have := of_decide_eq_false hge; omega)]
      exact ⟨rfl, rfl⟩
theorem ra_spec (l : List Cell) : Does Tryz.prog 71 [.l .cell (l)] [] (.x (.b (asksM l))) [] := by
  refine Does.go (cfg := cfg0) cfg0_ok Tryz.func71 (by kernel_rfl) (by kernel_rfl) (t := (.stop [.code [1, 0, 1, 0, 0], .inLoop [1, 0, 1, 0, 0], .inBlock 0, .code [1, 1]] { n := 16, fr := [(0, .p (.lst .cell l)), (2, .p (.bool false)), (3, .i (0 : Int))], ck := [], kn := [2] })) (by kernel_rfl) fun Γ => ?_
  exact J.len 0 rfl fun hl => ra_loop l Γ hl l.length 0 (by omega) (by omega)
def eRasks : Nat × (List SX → List Chunk → Option (Option Prop × SV × List Chunk)) := (71, fun
  | [.c (.pd (.lst .cell l))], [] => some (none, .x (.c (.pd (.bool (asksM l)))), [])
  | _, _ => none)
theorem eRasks_ok (vs : List SX) (ck : List Chunk) (p : Option Prop) (ret : SV) (ck' : List Chunk) (h : eRasks.2 vs ck = some (p, ret, ck')) (hp : Holds p) : Does Tryz.prog eRasks.1 vs ck ret ck' := by
  unfold eRasks at h
  simp only at h
  split at h
  · rename_i l
    simp only [Option.some.injEq, Prod.mk.injEq] at h
    obtain ⟨rfl, rfl, rfl⟩ := h
    exact ra_spec l
  · simp at h
def cfgRone : Cfg := ⟨tys0, [eRnm, eRright, eRasks, eRefEvent]⟩
theorem cfgRone_ok : TabOk Tryz.prog cfgRone.tab := (TabOk.cons eRnm_ok (TabOk.cons eRright_ok (TabOk.cons eRasks_ok (TabOk.cons eRefEvent_ok TabOk.nil))))
theorem rone_spec (d : Deed) : Does Tryz.prog 39 [.e .deed d] [] (.x (.b (deedOk d))) [] := by
  refine Does.go (cfg := cfgRone) cfgRone_ok Tryz.func39 (by kernel_rfl) (by kernel_rfl) (t := (.ite (Deed.kind d == (1 : Int)) (.ret (.p (.bool (nameM (Deed.name d) && rightM (Deed.expr d) && !asksM (Deed.expr d)))) []) (.ret (.p (.bool ((Deed.kind d == (2 : Int) || Deed.kind d == (3 : Int)) && eventM (Deed.name d) && (↑(List.length (Deed.expr d)) : Int) == (0 : Int)))) []))) (by kernel_rfl) fun Γ => ?_
  unfold deedOk plainM
  refine ⟨fun h => ?_, fun h => ?_⟩
  · rw [h, cond_true, ← Bool.and_assoc]; exact ⟨rfl, rfl⟩
  · rw [h, cond_false]
    cases h2 : (d.kind == 2 || d.kind == 3)
    · rw [Bool.false_and, Bool.false_and]; exact ⟨rfl, rfl⟩
    · rw [Bool.true_and]; exact ⟨rfl, rfl⟩
def eRone : Nat × (List SX → List Chunk → Option (Option Prop × SV × List Chunk)) := (39, fun
  | [.agg [.pd (.int .i64 a), .pd (.str b), .pd (.lst .cell d)]], [] => some (none, .x (.c (.pd (.bool (deedOk ⟨a, b, d⟩)))), [])
  | _, _ => none)
theorem eRone_ok (vs : List SX) (ck : List Chunk) (p : Option Prop) (ret : SV) (ck' : List Chunk) (h : eRone.2 vs ck = some (p, ret, ck')) (hp : Holds p) : Does Tryz.prog eRone.1 vs ck ret ck' := by
  unfold eRone at h
  simp only at h
  split at h
  · rename_i a b d
    simp only [Option.some.injEq, Prod.mk.injEq] at h
    obtain ⟨rfl, rfl, rfl⟩ := h
    exact rone_spec ⟨a, b, d⟩
  · simp at h
def cfgRblock : Cfg := ⟨tys0, [eRone]⟩
theorem cfgRblock_ok : TabOk Tryz.prog cfgRblock.tab := (TabOk.cons eRone_ok TabOk.nil)

theorem rrl_loop (l : List Deed) (Γ : Ctx) (hl : l.length ≤ maxLen)  : ∀ (n k : Nat), l.length - k ≤ n → k ≤ l.length →
    J Tryz.prog 23 (bodyOf Tryz.f23) Γ (Eq2 (.x (.b ((l.drop k).all deedOk))) []) [.code [1, 1, 0, 1, 0, 0], .inLoop [1, 1, 0, 1, 0, 0], .inBlock 0, .code [1, 1, 1]] ({ n := 24, fr := [(0, .p (.lst .deed l)), (2, .p (.bool false)), (3, .i (k))], ck := [], kn := [2] }) := by
  intro n
  induction n with
  | zero => ?_
  | succ n ih => ?_
  all_goals
    intro k hn hk
    refine J.go (cfg := cfgRblock) cfgRblock_ok Tryz.func23 1000 (t := (.ite (decide ((↑k : Int) < (↑(List.length l) : Int))) (.need ((0 : Int) ≤ (↑k : Int) ∧ (↑k : Int) < (↑(List.length l) : Int)) (.ite (!deedOk { kind := Deed.kind (ETy.get .deed l k), name := Deed.name (ETy.get .deed l k), expr := Deed.expr (ETy.get .deed l k) }) (.ret (.p (.bool false)) []) (.stop [.code [1, 1, 0, 1, 0, 0], .inLoop [1, 1, 0, 1, 0, 0], .inBlock 0, .code [1, 1, 1]] { n := 24, fr := [(0, .p (.lst .deed l)), (2, .p (.bool false)), (3, .i (IntKind.wrap .i64 ((↑k : Int) + (1 : Int))))], ck := [], kn := [2] }))) (.ret (.p (.bool true)) []))) (by kernel_rfl) ?_
    refine ⟨fun hlt => ?_, fun hge => ?_⟩
    · have hk' : k < l.length := by have := of_decide_eq_true hlt; omega
      rw [drop_get (t := .deed) (l := l) hk']
      refine ⟨by omega, ?_⟩
      generalize ETy.get .deed l k = v
      rw [List.all_cons]
      refine ⟨fun hb => ⟨?_, rfl⟩, fun hb => ?_⟩
      · have hb' : deedOk v = false := nt hb
        rw [hb']; rfl
      · have hb' : deedOk v = true := nf hb
        rw [hb', Bool.true_and]; (rw [wrapK (maxLen_lt hk' hl)]; first | (exfalso; omega) | exact J.kn [2] (ih (k + 1) (by omega) (by omega)))
    · rw [drop_end (l := l) (by have := of_decide_eq_false hge; omega)]
      exact ⟨rfl, rfl⟩
theorem rblock_spec (l : List Deed) : Does Tryz.prog 23 [.l .deed l] [] (.x (.b (blockOk l))) [] := by
  refine Does.go (cfg := cfgRblock) cfgRblock_ok Tryz.func23 (by kernel_rfl) (by kernel_rfl) (t := (.ite (decide ((↑(List.length l) : Int) < (1 : Int)) || decide ((↑(List.length l) : Int) > (8 : Int))) (.ret (.p (.bool false)) []) (.stop [.code [1, 1, 0, 1, 0, 0], .inLoop [1, 1, 0, 1, 0, 0], .inBlock 0, .code [1, 1, 1]] { n := 24, fr := [(0, .p (.lst .deed l)), (2, .p (.bool false)), (3, .i (0 : Int))], ck := [], kn := [2] }))) (by kernel_rfl) fun Γ => ?_
  refine ⟨fun h => ⟨?_, rfl⟩, fun h => ?_⟩
  · have : blockOk l = false := by
      unfold blockOk
      simp only [Bool.or_eq_true, decide_eq_true_eq] at h
      cases l.all deedOk
      · rfl
      · rw [Bool.true_and, Bool.and_eq_false_iff]
        rcases h with h | h
        · left; exact decide_eq_false (by omega)
        · right; exact decide_eq_false (by omega)
    rw [this]
  · simp only [Bool.or_eq_false_iff, decide_eq_false_iff_not] at h
    have : blockOk l = (l.drop 0).all deedOk := by
      unfold blockOk
      rw [decide_eq_true (show (l.length : Int) > 0 by omega), decide_eq_true (show (l.length : Int) ≤ 8 by omega)]; simp
    rw [this]
    exact J.len 0 rfl fun hl => rrl_loop l Γ hl l.length 0 (by omega) (by omega)
def eRblock : Nat × (List SX → List Chunk → Option (Option Prop × SV × List Chunk)) := (23, fun
  | [.c (.pd (.lst .deed l))], [] => some (none, .x (.c (.pd (.bool (blockOk l)))), [])
  | _, _ => none)
theorem eRblock_ok (vs : List SX) (ck : List Chunk) (p : Option Prop) (ret : SV) (ck' : List Chunk) (h : eRblock.2 vs ck = some (p, ret, ck')) (hp : Holds p) : Does Tryz.prog eRblock.1 vs ck ret ck' := by
  unfold eRblock at h
  simp only at h
  split at h
  · rename_i l
    simp only [Option.some.injEq, Prod.mk.injEq] at h
    obtain ⟨rfl, rfl, rfl⟩ := h
    exact rblock_spec l
  · simp at h
/-! ### alike -/
/-! ### copied -/

theorem deed_eta {l : List Deed} {k : Nat} (hk : k < l.length) : l.set k (ETy.get .deed l k) = l := by
  apply List.ext_getElem? ; intro i
  rw [List.getElem?_set]
  split
  · rename_i h; subst h; simp [ETy.get, List.getD_eq_getElem?_getD, hk]
  · rfl
theorem cp_loop (l : List Deed) (Γ : Ctx) (hl : l.length ≤ maxLen) (hr : ∀ a ∈ l, room a.expr.length 32) : ∀ (n k : Nat), l.length - k ≤ n → k ≤ l.length →
    J Tryz.prog 15 (bodyOf Tryz.f15) Γ (Eq2 (.x (.c (.own 0))) [.own 60 .deed l]) [.code [1, 1, 0, 1, 0, 0], .inLoop [1, 1, 0, 1, 0, 0], .inBlock 0, .code [1, 1, 1]] ({ n := 26, fr := [(2, .p (.v (Value.slice none 0 0))), (3, .x (.c (.own 0))), (9, .i (↑(List.length ([] ++ l)) : Int)), (10, .i (k))], ck := [.own 60 .deed l] }) := by
  intro n
  induction n with
  | zero => ?_
  | succ n ih => ?_
  all_goals
    intro k hn hk
    refine J.go (cfg := cfg0) cfg0_ok Tryz.func15 1000 (t := (.ite (decide ((↑k : Int) < (↑(List.length ([] ++ l)) : Int))) (.need ((0 : Int) ≤ (↑k : Int) ∧ (↑k : Int) < (↑(List.length l) : Int)) (.need (k < List.length l) (.need (room (List.length ([] ++ Deed.expr (ETy.get .deed l k))) 32) (.need ((0 : Int) ≤ (↑k : Int) ∧ (↑k : Int) < (↑(List.length l) : Int)) (.stop [.ops [1, 1, 0, 1, 0, 0, 1, 1, 0, 0, 1] 11, .inBlock 1, .code [1, 1, 0, 1, 0, 0, 1, 1, 1], .inLoop [1, 1, 0, 1, 0, 0], .inBlock 0, .code [1, 1, 1]] { n := 26, fr := [(2, .p (.v (Value.slice none 0 0))), (3, .x (.c (.own 0))), (9, .i (↑(List.length ([] ++ l)) : Int)), (10, .i (↑k : Int)), (21, .x (.c (.own 1))), (23, .x (.c (.oat 0 k 3 2)))], ck := [.own 60 .deed l, .own 88 .cell ([] ++ Deed.expr (ETy.get .deed l k))] }))))) (.ret (.x (.c (.own 0))) [.own 60 .deed l]))) (by kernel_rfl) ?_
    refine ⟨fun hlt => ?_, fun hge => ⟨rfl, rfl⟩⟩
    have hk' : k < l.length := by have : (k : Int) < (l.length : Int) := of_decide_eq_true hlt
                                  omega
    have hx := hr _ (List.mem_of_getElem? (ETy.getElem?_get (t := .deed) hk'))
    refine ⟨⟨by omega, by omega⟩, by omega, hx, ⟨by omega, by omega⟩, ?_⟩
    have hz : J Tryz.prog 15 (bodyOf Tryz.f15) Γ (Eq2 (.x (.c (.own 0))) [.own 60 .deed l]) [.ops [1, 1, 0, 1, 0, 0, 1, 1, 0, 0, 1] 11, .inBlock 1, .code [1, 1, 0, 1, 0, 0, 1, 1, 1], .inLoop [1, 1, 0, 1, 0, 0], .inBlock 0, .code [1, 1, 1]] ({ n := 26, fr := [(2, .p (.v (Value.slice none 0 0))), (3, .x (.c (.own 0))), (9, .i (↑(List.length ([] ++ l)) : Int)), (10, .i (↑k : Int)), (21, .p (.lst .cell ((Deed.expr (ETy.get .deed l k))))), (23, .x (.c (.oat 0 k 3 2)))], ck := [.own 60 .deed l, .dead] }) := by
      refine J.go (cfg := cfg0) cfg0_ok Tryz.func15 1000 (t := (.need (k < List.length l) (.stop [.code [1, 1, 0, 1, 0, 0], .inLoop [1, 1, 0, 1, 0, 0], .inBlock 0, .code [1, 1, 1]] { n := 26, fr := [(2, .p (.v (Value.slice none 0 0))), (3, .x (.c (.own 0))), (9, .i (↑(List.length ([] ++ l)) : Int)), (10, .i (IntKind.wrap .i64 ((↑k : Int) + (1 : Int))))], ck := [.own 60 .deed (List.set l k { kind := Deed.kind (ETy.get .deed l k), name := Deed.name (ETy.get .deed l k), expr := Deed.expr (ETy.get .deed l k) })] }))) (by kernel_rfl) ?_
      refine ⟨by omega, ?_⟩
      have e : List.set l k (⟨(ETy.get .deed l k).kind, (ETy.get .deed l k).name, (ETy.get .deed l k).expr⟩ : Deed) = l := deed_eta hk'
      rw [e, wrapK (maxLen_lt hk' hl)]
      first
      | (exfalso; omega)
      | exact ih (k + 1) (by omega) (by omega)
    exact J.freeze tys0 [1] (by kernel_rfl) hz
theorem cp_spec (l : List Deed) (hr : room l.length 48) (hx : ∀ a ∈ l, room a.expr.length 32) : Does Tryz.prog 15 [.l .deed l] [] (.x (.c (.own 0))) [.own 60 .deed l] := by
  refine Does.go (cfg := cfg0) cfg0_ok Tryz.func15 (by kernel_rfl) (by kernel_rfl) (t := (.need (room (List.length ([] ++ l)) 48) (.stop [.code [1, 1, 0, 1, 0, 0], .inLoop [1, 1, 0, 1, 0, 0], .inBlock 0, .code [1, 1, 1]] { n := 26, fr := [(2, .p (.v (Value.slice none 0 0))), (3, .x (.c (.own 0))), (9, .i (↑(List.length ([] ++ l)) : Int)), (10, .i (0 : Int))], ck := [.own 60 .deed ([] ++ l)] }))) (by kernel_rfl) fun Γ => ?_
  exact ⟨hr, cp_loop l Γ hr.2 hx l.length 0 (by omega) (by omega)⟩
def eCpd : Nat × (List SX → List Chunk → Option (Option Prop × SV × List Chunk)) := (15, fun
  | [.c (.pd (.lst .deed l))], [] => some (some (room l.length 48 ∧ ∀ a ∈ l, room a.expr.length 32), .x (.c (.own 0)), [.own 60 .deed l])
  | _, _ => none)
theorem eCpd_ok (vs : List SX) (ck : List Chunk) (p : Option Prop) (ret : SV) (ck' : List Chunk) (h : eCpd.2 vs ck = some (p, ret, ck')) (hp : Holds p) : Does Tryz.prog eCpd.1 vs ck ret ck' := by
  unfold eCpd at h
  simp only at h
  split at h
  · rename_i l
    simp only [Option.some.injEq, Prod.mk.injEq] at h
    obtain ⟨rfl, rfl, rfl⟩ := h
    exact cp_spec l hp.1 hp.2
  · simp at h
theorem long_spec (l : List Deed) : Does Tryz.prog 13 [.l .deed l] [] (.x (.b (decide ((l.length : Int) > 100)))) [] := by
  refine Does.go (cfg := cfg0) cfg0_ok Tryz.func13 (by kernel_rfl) (by kernel_rfl) (t := (.ret (.p (.bool (decide ((↑(List.length l) : Int) > (100 : Int))))) [])) (by kernel_rfl) fun Γ => ⟨rfl, rfl⟩
def eLong : Nat × (List SX → List Chunk → Option (Option Prop × SV × List Chunk)) := (13, fun
  | [.c (.pd (.lst .deed l))], [] => some (none, .x (.c (.pd (.bool (decide ((l.length : Int) > 100))))), [])
  | _, _ => none)
theorem eLong_ok (vs : List SX) (ck : List Chunk) (p : Option Prop) (ret : SV) (ck' : List Chunk) (h : eLong.2 vs ck = some (p, ret, ck')) (hp : Holds p) : Does Tryz.prog eLong.1 vs ck ret ck' := by
  unfold eLong at h
  simp only at h
  split at h
  · rename_i l
    simp only [Option.some.injEq, Prod.mk.injEq] at h
    obtain ⟨rfl, rfl, rfl⟩ := h
    exact long_spec l
  · simp at h
end Go.Proofs.YtjndellhebidoaaGreatDoor

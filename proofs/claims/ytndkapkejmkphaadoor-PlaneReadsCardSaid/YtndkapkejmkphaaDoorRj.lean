/- Contracts: the law PlaneReads. Conditions: a text of at most 2^47 bytes. -/
import Derived.Test.YtndkapkejmkphaaDoorRi
namespace Go.Proofs.YtndkapkejmkphaaDoor
open Go Go.Ev
set_option maxRecDepth 100000
theorem nu_spec (a b : Int) : Does Tryd.prog 18 [.agg [.pd (.int .i64 a), .pd (.int .i64 b)]] [] (.x (.c (.pd (.cx (some (num a, num b)))))) [] := by
  refine Does.go (cfg := cfg0) cfg0_ok Tryd.func18 (by kernel_rfl) (by kernel_rfl) (t := (.ret (.p (.cx (some (FloatKind.nearest FloatKind.f64 a, FloatKind.nearest FloatKind.f64 b)))) [])) (by kernel_rfl) fun Γ => ?_
  exact ⟨rfl, rfl⟩
def eNu : Nat × (List SX → List Chunk → Option (Option Prop × SV × List Chunk)) := (18, fun
  | [.agg [.pd (.int .i64 a), .pd (.int .i64 b)]], [] => some (none, .x (.c (.pd (.cx (some (num a, num b))))), [])
  | _, _ => none)
theorem eNu_ok (vs : List SX) (ck : List Chunk) (p : Option Prop) (ret : SV) (ck' : List Chunk) (h : eNu.2 vs ck = some (p, ret, ck')) (hp : Holds p) : Does Tryd.prog eNu.1 vs ck ret ck' := by
  unfold eNu at h
  simp only at h
  split at h
  · rename_i a b
    simp only [Option.some.injEq, Prod.mk.injEq] at h
    obtain ⟨rfl, rfl, rfl⟩ := h
    exact nu_spec a b
  · simp at h
def cfgWk : Cfg := ⟨tys0, [eMul, eTurn, eShP]⟩
theorem cfgWk_ok : TabOk Tryd.prog cfgWk.tab := (TabOk.cons eMul_ok (TabOk.cons eTurn_ok (TabOk.cons eShP_ok TabOk.nil)))
theorem wk_spec : Does Tryd.prog 6 [] [] (.x (.b true)) [] := by
  refine Does.go (cfg := cfgWk) cfgWk_ok Tryd.func6 (by kernel_rfl) (by kernel_rfl) (t := (.need (pRight (4613937818241073152, 13839561654909534208) = true) (.ret (.p (.bool true)) []))) (by kernel_rfl) fun Γ => ?_
  exact ⟨by decide +kernel, rfl, rfl⟩
def eWk : Nat × (List SX → List Chunk → Option (Option Prop × SV × List Chunk)) := (6, fun
  | [], [] => some (none, .x (.c (.pd (.bool true))), [])
  | _, _ => none)
theorem eWk_ok (vs : List SX) (ck : List Chunk) (p : Option Prop) (ret : SV) (ck' : List Chunk) (h : eWk.2 vs ck = some (p, ret, ck')) (hp : Holds p) : Does Tryd.prog eWk.1 vs ck ret ck' := by
  unfold eWk at h
  simp only at h
  split at h
  · simp only [Option.some.injEq, Prod.mk.injEq] at h
    obtain ⟨rfl, rfl, rfl⟩ := h
    exact wk_spec
  · simp at h
def cfgSm : Cfg := ⟨tys0, [eNu]⟩
theorem cfgSm_ok : TabOk Tryd.prog cfgSm.tab := (TabOk.cons eNu_ok TabOk.nil)
def sameB (p : Nat × Nat) (a b e f : Int) : Bool := bif e != f then false else (f != 0 && (fOrd (Prod.fst p) 0 == some Ordering.eq && fOrd (Prod.snd p) 0 == some Ordering.eq) || f == 0 && (fOrd (Prod.fst p) (num a) == some Ordering.eq && fOrd (Prod.snd p) (num b) == some Ordering.eq))
theorem same_spec (p : Nat × Nat) (a b e f : Int) : Does Tryd.prog 7 [.c (.pd (.cx (some p))), .i e, .agg [.pd (.int .i64 a), .pd (.int .i64 b)], .i f] [] (.x (.b (sameB p a b e f))) [] := by
  refine Does.go (cfg := cfgSm) cfgSm_ok Tryd.func7 (by kernel_rfl) (by kernel_rfl) (t := (.ite (e != f) (.ret (.p (.bool false)) []) (.ret (.p (.bool (f != (0 : Int) && (fOrd (Prod.fst p) 0 == some Ordering.eq && fOrd (Prod.snd p) 0 == some Ordering.eq) || f == (0 : Int) && (fOrd (Prod.fst p) (Prod.fst (num a, num b)) == some Ordering.eq && fOrd (Prod.snd p) (Prod.snd (num a, num b)) == some Ordering.eq)))) []))) (by kernel_rfl) fun Γ => ?_
  refine ⟨fun h => ⟨?_, rfl⟩, fun h => ⟨?_, rfl⟩⟩
  · unfold sameB; rw [h]; rfl
  · unfold sameB; rw [h]; rfl
def eSm : Nat × (List SX → List Chunk → Option (Option Prop × SV × List Chunk)) := (7, fun
  | [.c (.pd (.cx (some p))), .c (.pd (.int .i64 e)), .agg [.pd (.int .i64 a), .pd (.int .i64 b)], .c (.pd (.int .i64 f))], [] => some (none, .x (.c (.pd (.bool (sameB p a b e f)))), [])
  | _, _ => none)
theorem eSm_ok (vs : List SX) (ck : List Chunk) (p : Option Prop) (ret : SV) (ck' : List Chunk) (h : eSm.2 vs ck = some (p, ret, ck')) (hp : Holds p) : Does Tryd.prog eSm.1 vs ck ret ck' := by
  unfold eSm at h
  simp only at h
  split at h
  · rename_i p e a b f
    simp only [Option.some.injEq, Prod.mk.injEq] at h
    obtain ⟨rfl, rfl, rfl⟩ := h
    exact same_spec p a b e f
  · simp at h
noncomputable def cfgLr1 : Cfg := ⟨tys0, [nPrd1, nRpr1, eWk, eSm]⟩
theorem cfgLr1_ok : TabOk Tryd.prog cfgLr1.tab := (TabOk.cons nPrd1_ok (TabOk.cons nRpr1_ok (TabOk.cons eWk_ok (TabOk.cons eSm_ok TabOk.nil))))
noncomputable def cfgLr0 : Cfg := ⟨tys0, [nPrd0, nRpr0, eWk, eSm]⟩
theorem cfgLr0_ok : TabOk Tryd.prog cfgLr0.tab := (TabOk.cons nPrd0_ok (TabOk.cons nRpr0_ok (TabOk.cons eWk_ok (TabOk.cons eSm_ok TabOk.nil))))


theorem num_self {a : Int} (h : pIn a = true) : (fOrd (num a) (num a) == some Ordering.eq) = true := by
  have hb := pIn_num h
  have hp := isP_num (a := a) (b := a) (by omega) (by omega)
  have e : fOrd (num a) (num a) = some (compare a a) := isI_ord hp.1 hp.1
  rw [e]; simp
theorem same_yes {a b : Int} (ha : pIn a = true) (hb : pIn b = true) : sameB (madeP a b) a b 0 0 = true := by
  have e : madeP a b = (num a, num b) := by unfold madeP; rw [ha, hb]; rfl
  rw [e]
  show (bif (0 : Int) != 0 then false else ((0 : Int) != 0 && _ || (0 : Int) == 0 && ((fOrd (num a) (num a) == some Ordering.eq) && (fOrd (num b) (num b) == some Ordering.eq)))) = true
  rw [num_self ha, num_self hb]; simp
theorem reads_law (s : Str) (hs : s.length ≤ 140737488355328) : Does Tryd.prog 3 [.s s] [] (.x (.b true)) [] := by
  by_cases h : readsP s
  · refine Does.go (cfg := cfgLr1) cfgLr1_ok Tryd.func3 (by kernel_rfl) (by kernel_rfl) (t := (.need (List.length s ≤ 140737488355328 ∧ readsP s) (.need (List.length s ≤ 140737488355328 ∧ readsP s) (.ret (.p (.bool (true && sameB (madeP (ptA s) (ptB s)) (ptA s) (ptB s) (0 : Int) (0 : Int)))) [])))) (by kernel_rfl) fun Γ => ?_
    have hp := readP_spec h
    refine ⟨⟨hs, h⟩, ⟨hs, h⟩, congrArg (fun b => SV.x (.c (.pd (.bool b)))) ?_, rfl⟩
    show (true && sameB (madeP (ptA s) (ptB s)) (ptA s) (ptB s) 0 0) = true
    rw [same_yes hp.1 hp.2.1]; rfl
  · refine Does.go (cfg := cfgLr0) cfgLr0_ok Tryd.func3 (by kernel_rfl) (by kernel_rfl) (t := (.need (List.length s ≤ 140737488355328 ∧ ¬readsP s) (.need (List.length s ≤ 140737488355328 ∧ ¬readsP s) (.ret (.p (.bool true)) [])))) (by kernel_rfl) fun Γ => ?_
    exact ⟨⟨hs, h⟩, ⟨hs, h⟩, rfl, rfl⟩
end Go.Proofs.YtndkapkejmkphaaDoor

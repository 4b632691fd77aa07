/- Contracts of the program's functions on points. Conditions: none. -/
import Derived.Test.YtndkapkejmkphaaDoorDa
import Derived.Test.YtndkapkejmkphaaDoorId
namespace Go.Proofs.YtndkapkejmkphaaDoor
open Go Go.Ev Go.RowKit
set_option maxRecDepth 100000

theorem whole_spec (x : Nat) : Does Tryd.prog 47 [.c (.pd (.fl (some x)))] [] (.x (.b (pWhole x))) [] := by
  refine Does.go (cfg := cfg0) cfg0_ok Tryd.func47 (by kernel_rfl) (by kernel_rfl) (t := (.need (((fOrd x 13920626448202203136 == some Ordering.gt || fOrd x 13920626448202203136 == some Ordering.eq) && (fOrd x 4697254411347427328 == some Ordering.lt || fOrd x 4697254411347427328 == some Ordering.eq)) = true → fWhole .i64 x) (.ret (.p (.bool ((fOrd x 13920626448202203136 == some Ordering.gt || fOrd x 13920626448202203136 == some Ordering.eq) && (fOrd x 4697254411347427328 == some Ordering.lt || fOrd x 4697254411347427328 == some Ordering.eq) && fOrd x (FloatKind.nearest FloatKind.f64 (fInt x)) == some Ordering.eq))) []))) (by kernel_rfl) fun Γ => ?_
  exact ⟨fun h => inB_fWhole h, rfl, rfl⟩
def eWhole : Nat × (List SX → List Chunk → Option (Option Prop × SV × List Chunk)) := (47, fun
  | [.c (.pd (.fl (some x)))], [] => some (none, .x (.c (.pd (.bool (pWhole x)))), [])
  | _, _ => none)
theorem eWhole_ok (vs : List SX) (ck : List Chunk) (p : Option Prop) (ret : SV) (ck' : List Chunk) (h : eWhole.2 vs ck = some (p, ret, ck')) (hp : Holds p) : Does Tryd.prog eWhole.1 vs ck ret ck' := by
  unfold eWhole at h
  simp only at h
  split at h
  · rename_i x
    simp only [Option.some.injEq, Prod.mk.injEq] at h
    obtain ⟨rfl, rfl, rfl⟩ := h
    exact whole_spec x
  · simp at h
def cfgWhole : Cfg := ⟨tys0, [eWhole]⟩
theorem cfgWhole_ok : TabOk Tryd.prog cfgWhole.tab := (TabOk.cons eWhole_ok TabOk.nil)
theorem pright_spec (p : Nat × Nat) : Does Tryd.prog 31 [.c (.pd (.cx (some p)))] [] (.x (.b (pRight p))) [] := by
  refine Does.go (cfg := cfgWhole) cfgWhole_ok Tryd.func31 (by kernel_rfl) (by kernel_rfl) (t := (.ret (.p (.bool (pWhole (Prod.fst p) && pWhole (Prod.snd p)))) [])) (by kernel_rfl) fun Γ => ?_
  exact ⟨rfl, rfl⟩
theorem right_specO (o : Option (Nat × Nat)) (h : o.isSome = true) : Does Tryd.prog 31 [.c (.pd (.cx o))] [] (.x (.b (rightO o))) [] := by
  obtain ⟨p, rfl⟩ := Option.isSome_iff_exists.1 h
  exact pright_spec p
def eRightO : Nat × (List SX → List Chunk → Option (Option Prop × SV × List Chunk)) := (31, fun
  | [.c (.pd (.cx o))], [] => some (some (o.isSome = true), .x (.c (.pd (.bool (rightO o)))), [])
  | _, _ => none)
theorem eRightO_ok (vs : List SX) (ck : List Chunk) (p : Option Prop) (ret : SV) (ck' : List Chunk) (h : eRightO.2 vs ck = some (p, ret, ck')) (hp : Holds p) : Does Tryd.prog eRightO.1 vs ck ret ck' := by
  unfold eRightO at h
  simp only at h
  split at h
  · rename_i o
    simp only [Option.some.injEq, Prod.mk.injEq] at h
    obtain ⟨rfl, rfl, rfl⟩ := h
    exact right_specO o hp
  · simp at h
theorem clean_spec (p : Nat × Nat) (h : pRight p = true) : Does Tryd.prog 32 [.c (.pd (.cx (some p)))] [] (.x (.c (.pd (.cx (some (cleanP p)))))) [] := by
  refine Does.go (cfg := cfg0) cfg0_ok Tryd.func32 (by kernel_rfl) (by kernel_rfl) (t := (.need (fWhole .i64 (Prod.fst p)) (.need (fWhole .i64 (Prod.snd p)) (.ret (.p (.cx (some (FloatKind.nearest FloatKind.f64 (fInt (Prod.fst p)), FloatKind.nearest FloatKind.f64 (fInt (Prod.snd p)))))) [])))) (by kernel_rfl) fun Γ => ?_
  obtain ⟨h1, h2⟩ := pRight_whole h
  exact ⟨h1, h2, rfl, rfl⟩
theorem clean_specO (o : Option (Nat × Nat)) (h : rightO o = true) : Does Tryd.prog 32 [.c (.pd (.cx o))] [] (.x (.c (.pd (.cx (some (cleanO o)))))) [] := by
  cases o with
  | none => cases h
  | some p => exact clean_spec p h
def eClean : Nat × (List SX → List Chunk → Option (Option Prop × SV × List Chunk)) := (32, fun
  | [.c (.pd (.cx o))], [] => some (some (rightO o = true), .x (.c (.pd (.cx (some (cleanO o))))), [])
  | _, _ => none)
theorem eClean_ok (vs : List SX) (ck : List Chunk) (p : Option Prop) (ret : SV) (ck' : List Chunk) (h : eClean.2 vs ck = some (p, ret, ck')) (hp : Holds p) : Does Tryd.prog eClean.1 vs ck ret ck' := by
  unfold eClean at h
  simp only at h
  split at h
  · rename_i o
    simp only [Option.some.injEq, Prod.mk.injEq] at h
    obtain ⟨rfl, rfl, rfl⟩ := h
    exact clean_specO o hp
  · simp at h
def cfgRight : Cfg := ⟨tys0, [eRightO, eClean]⟩
theorem cfgRight_ok : TabOk Tryd.prog cfgRight.tab := (TabOk.cons eRightO_ok (TabOk.cons eClean_ok TabOk.nil))
theorem pmade_spec (a b : Int) : Does Tryd.prog 12 [.i a, .i b] [] (.tup [.c (.pd (.cx (some (madeP a b)))), .i (madeE a b)]) [] := by
  refine Does.go (cfg := cfg0) cfg0_ok Tryd.func12 (by kernel_rfl) (by kernel_rfl) (t := (.ite (decide (a < (-1048576 : Int)) || decide (a > (1048576 : Int)) || decide (b < (-1048576 : Int)) || decide (b > (1048576 : Int))) (.ret (.tup [.p (.cx (some (0, 0))), .i (5 : Int)]) []) (.ret (.tup [.p (.cx (some (FloatKind.nearest FloatKind.f64 a, FloatKind.nearest FloatKind.f64 b))), .i (0 : Int)]) []))) (by kernel_rfl) fun Γ => ?_
  refine ⟨fun h => ⟨?_, rfl⟩, fun h => ⟨?_, rfl⟩⟩
  · have : (pIn a && pIn b) = false := by
      simp only [Bool.or_eq_true, decide_eq_true_eq] at h
      simp only [pIn, Bool.and_eq_false_iff, decide_eq_false_iff_not]; omega
    simp [madeP, madeE, this]
  · have : (pIn a && pIn b) = true := by
      simp only [Bool.or_eq_false_iff, decide_eq_false_iff_not] at h
      simp only [pIn, Bool.and_eq_true, decide_eq_true_eq]; omega
    simp [madeP, madeE, this, num]
def ePMade : Nat × (List SX → List Chunk → Option (Option Prop × SV × List Chunk)) := (12, fun
  | [.c (.pd (.int .i64 a)), .c (.pd (.int .i64 b))], [] => some (none, .tup [.c (.pd (.cx (some (madeP a b)))), .c (.pd (.int .i64 (madeE a b)))], [])
  | _, _ => none)
theorem ePMade_ok (vs : List SX) (ck : List Chunk) (p : Option Prop) (ret : SV) (ck' : List Chunk) (h : ePMade.2 vs ck = some (p, ret, ck')) (hp : Holds p) : Does Tryd.prog ePMade.1 vs ck ret ck' := by
  unfold ePMade at h
  simp only at h
  split at h
  · rename_i a b
    simp only [Option.some.injEq, Prod.mk.injEq] at h
    obtain ⟨rfl, rfl, rfl⟩ := h
    exact pmade_spec a b
  · simp at h
theorem pparts_spec (p : Nat × Nat) : Does Tryd.prog 28 [.c (.pd (.cx (some p)))] [] (.tup [.i (partA p), .i (partB p), .i (partE p)]) [] := by
  refine Does.go (cfg := cfgRight) cfgRight_ok Tryd.func28 (by kernel_rfl) (by kernel_rfl) (t := (.need (Option.isSome (some p) = true) (.ite (!rightO (some p)) (.ret (.tup [.i (0 : Int), .i (0 : Int), .i (12 : Int)]) []) (.need (fWhole .i64 (Prod.fst p)) (.need (fWhole .i64 (Prod.snd p)) (.ret (.tup [.i (fInt (Prod.fst p)), .i (fInt (Prod.snd p)), .i (0 : Int)]) [])))))) (by kernel_rfl) fun Γ => ?_
  refine ⟨rfl, fun h => ?_, fun h => ?_⟩
  · have h' : pRight p = false := by simpa [rightO] using h
    refine ⟨?_, rfl⟩; simp [partA, partB, partE, h']
  · have h' : pRight p = true := by simpa [rightO] using h
    obtain ⟨h1, h2⟩ := pRight_whole h'
    refine ⟨h1, h2, ?_, rfl⟩; simp [partA, partB, partE, h']
def eParts : Nat × (List SX → List Chunk → Option (Option Prop × SV × List Chunk)) := (28, fun
  | [.c (.pd (.cx (some p)))], [] => some (none, .tup [.c (.pd (.int .i64 (partA p))), .c (.pd (.int .i64 (partB p))), .c (.pd (.int .i64 (partE p)))], [])
  | _, _ => none)
theorem eParts_ok (vs : List SX) (ck : List Chunk) (p : Option Prop) (ret : SV) (ck' : List Chunk) (h : eParts.2 vs ck = some (p, ret, ck')) (hp : Holds p) : Does Tryd.prog eParts.1 vs ck ret ck' := by
  unfold eParts at h
  simp only at h
  split at h
  · rename_i p
    simp only [Option.some.injEq, Prod.mk.injEq] at h
    obtain ⟨rfl, rfl, rfl⟩ := h
    exact pparts_spec p
  · simp at h
theorem told_spec (p q : Nat × Nat) (o : Option (Nat × Nat)) (h : pRight p = true → pRight q = true → o.isSome = true) : Does Tryd.prog 30 [.c (.pd (.cx (some p))), .c (.pd (.cx (some q))), .c (.pd (.cx o))] [] (.tup [.c (.pd (.cx (some (toldP p q o)))), .i (toldE p q o)]) [] := by
  refine Does.go (cfg := cfgRight) cfgRight_ok Tryd.func30 (by kernel_rfl) (by kernel_rfl) (t := (.need (Option.isSome (some p) = true) (.need ((!rightO (some p)) = false → Option.isSome (some q) = true) (.ite (!rightO (some p) || !rightO (some q)) (.ret (.tup [.p (.cx (some (0, 0))), .i (12 : Int)]) []) (.need (Option.isSome o = true) (.ite (!rightO o) (.ret (.tup [.p (.cx (some (0, 0))), .i (5 : Int)]) []) (.need (rightO o = true) (.ret (.tup [.p (.cx (some (cleanO o))), .i (0 : Int)]) [])))))))) (by kernel_rfl) fun Γ => ?_
  refine ⟨rfl, fun _ => rfl, fun h1 => ?_, fun h1 => ?_⟩
  · have h' : (pRight p && pRight q) = false := by
      simp only [rightO, Bool.or_eq_true, Bool.not_eq_true'] at h1
      simp only [Bool.and_eq_false_iff]; exact h1
    refine ⟨?_, rfl⟩; simp [toldP, toldE, h']
  · have h' : pRight p = true ∧ pRight q = true := by
      simpa only [rightO, Bool.or_eq_false_iff, Bool.not_eq_false'] using h1
    refine ⟨h h'.1 h'.2, fun h2 => ?_, fun h2 => ?_⟩
    · have h3 : rightO o = false := by simpa using h2
      refine ⟨?_, rfl⟩; simp [toldP, toldE, h', h3]
    · have h3 : rightO o = true := by simpa using h2
      refine ⟨h3, ?_, rfl⟩; simp [toldP, toldE, h', h3]
def ePlTold : Nat × (List SX → List Chunk → Option (Option Prop × SV × List Chunk)) := (30, fun
  | [.c (.pd (.cx (some p))), .c (.pd (.cx (some q))), .c (.pd (.cx o))], [] => some (some (pRight p = true → pRight q = true → o.isSome = true), .tup [.c (.pd (.cx (some (toldP p q o)))), .c (.pd (.int .i64 (toldE p q o)))], [])
  | _, _ => none)
theorem ePlTold_ok (vs : List SX) (ck : List Chunk) (p : Option Prop) (ret : SV) (ck' : List Chunk) (h : ePlTold.2 vs ck = some (p, ret, ck')) (hp : Holds p) : Does Tryd.prog ePlTold.1 vs ck ret ck' := by
  unfold ePlTold at h
  simp only at h
  split at h
  · rename_i p q o
    simp only [Option.some.injEq, Prod.mk.injEq] at h
    obtain ⟨rfl, rfl, rfl⟩ := h
    exact told_spec p q o hp
  · simp at h
def cfgTold : Cfg := ⟨tys0, [ePlTold]⟩
theorem cfgTold_ok : TabOk Tryd.prog cfgTold.tab := (TabOk.cons ePlTold_ok TabOk.nil)
theorem mul_spec (p q : Nat × Nat) : Does Tryd.prog 16 [.c (.pd (.cx (some p))), .c (.pd (.cx (some q)))] [] (.tup [.c (.pd (.cx (some (toldP p q (cMulBits p.1 p.2 q.1 q.2))))), .i (toldE p q (cMulBits p.1 p.2 q.1 q.2))]) [] := by
  refine Does.go (cfg := cfgTold) cfgTold_ok Tryd.func16 (by kernel_rfl) (by kernel_rfl) (t := (.need (pRight p = true → pRight q = true → Option.isSome (Option.bind (some p) fun p => Option.bind (some q) fun q => cMulBits (Prod.fst p) (Prod.snd p) (Prod.fst q) (Prod.snd q)) = true) (.ret (.tup [.p (.cx (some (toldP p q (Option.bind (some p) fun p => Option.bind (some q) fun q => cMulBits (Prod.fst p) (Prod.snd p) (Prod.fst q) (Prod.snd q))))), .i (toldE p q (Option.bind (some p) fun p => Option.bind (some q) fun q => cMulBits (Prod.fst p) (Prod.snd p) (Prod.fst q) (Prod.snd q)))]) []))) (by kernel_rfl) fun Γ => ?_
  exact ⟨fun h1 h2 => mul_some h1 h2, rfl, rfl⟩
def eMul : Nat × (List SX → List Chunk → Option (Option Prop × SV × List Chunk)) := (16, fun
  | [.c (.pd (.cx (some p))), .c (.pd (.cx (some q)))], [] => some (none, .tup [.c (.pd (.cx (some (toldP p q (cMulBits p.1 p.2 q.1 q.2))))), .c (.pd (.int .i64 (toldE p q (cMulBits p.1 p.2 q.1 q.2))))], [])
  | _, _ => none)
theorem eMul_ok (vs : List SX) (ck : List Chunk) (p : Option Prop) (ret : SV) (ck' : List Chunk) (h : eMul.2 vs ck = some (p, ret, ck')) (hp : Holds p) : Does Tryd.prog eMul.1 vs ck ret ck' := by
  unfold eMul at h
  simp only at h
  split at h
  · rename_i p q
    simp only [Option.some.injEq, Prod.mk.injEq] at h
    obtain ⟨rfl, rfl, rfl⟩ := h
    exact mul_spec p q
  · simp at h

theorem turn_loop (m : Int) (Γ : Ctx) (hm : m ≤ 3) : ∀ (n : Nat) (k : Int) (p : Nat × Nat) (a b : Int), m - k ≤ n → 0 ≤ k → k ≤ m → isP p a b → pIn a = true → pIn b = true →
    J Tryd.prog 17 (bodyOf Tryd.f17) Γ (Eq2 (.tup [.c (.pd (.cx (some (num (turnI (m - k).toNat (a, b)).1, num (turnI (m - k).toNat (a, b)).2)))), .i 0]) []) [.code [1, 1, 0, 1, 0, 0], .inLoop [1, 1, 0, 1, 0, 0], .inBlock 0, .code [1, 1, 1]] ({ n := 18, fr := [(0, .x (.c (.pd (.cx (some p))))), (4, .p (.cx (some (0, 0)))), (5, .i (0 : Int)), (10, .i (m)), (11, .i (k))], ck := [] }) := by
  intro n
  induction n with
  | zero => ?_
  | succ n ih => ?_
  all_goals
    intro k p a b hn h0 hk hp ha hb
    refine J.go (cfg := cfgRight) cfgRight_ok Tryd.func17 1000 (t := (.ite (decide (k < m)) (.stop [.code [1, 1, 0, 1, 0, 0], .inLoop [1, 1, 0, 1, 0, 0], .inBlock 0, .code [1, 1, 1]] { n := 18, fr := [(0, .p (.cx (Option.bind (some p) fun p => Option.bind (some (0, 4607182418800017408)) fun q => cMulBits (Prod.fst p) (Prod.snd p) (Prod.fst q) (Prod.snd q)))), (4, .p (.cx (some (0, 0)))), (5, .i (0 : Int)), (10, .i m), (11, .i (IntKind.wrap .i64 (k + (1 : Int))))], ck := [] }) (.need (rightO (some p) = true) (.ret (.tup [.p (.cx (some (num (fInt (Prod.fst p)), num (fInt (Prod.snd p))))), .i (0 : Int)]) [])))) (by kernel_rfl) ?_
    refine ⟨fun h => ?_, fun h => ?_⟩
    · have hlt := of_decide_eq_true h
      first
      | (exfalso; omega)
      | (have ha' := pIn_abs ha
         have hb' := pIn_abs hb
         obtain ⟨r, hr, g1, g2⟩ := mulBits_isI (c := 0) (d := 4607182418800017408) hp.1 hp.2 (isI_zero) (isI_one) (z := 0) (u := 1) ha' hb' (by decide) (by decide)
         have hr' : (Option.bind (some p) fun p => Option.bind (some (0, 4607182418800017408)) fun q => cMulBits (Prod.fst p) (Prod.snd p) (Prod.fst q) (Prod.snd q)) = some r := hr
         have hx : a * 0 - b * 1 = -b := by omega
         have hy : a * 1 + b * 0 = a := by omega
         rw [hx] at g1
         rw [hy] at g2
         have hw : IntKind.i64.wrap (k + 1) = k + 1 := wrapI (by omega) (by omega)
         have hnb : pIn (-b) = true := by simp only [pIn, Bool.and_eq_true, decide_eq_true_eq] at hb ⊢; omega
         have := ih (k + 1) r (-b) a (by omega) (by omega) (by omega) ⟨g1, g2⟩ hnb ha
         rw [hr', hw]
         have ht : (m - k).toNat = (m - (k + 1)).toNat + 1 := by omega
         rw [ht]
         exact this)
    · have hge := of_decide_eq_false h
      have hz : (m - k).toNat = 0 := by omega
      have hr : rightO (some p) = true := by show pRight p = true; rw [isP_right hp, ha, hb]; rfl
      have hc : cleanP p = (num a, num b) := isP_clean hp
      refine ⟨hr, ?_, rfl⟩
      rw [hz]
      have hc2 : (num (fInt (Prod.fst p)), num (fInt (Prod.snd p))) = (num a, num b) := hc
      rw [hc2]
      rfl
theorem turn_spec (p : Nat × Nat) (n : Int) : Does Tryd.prog 17 [.c (.pd (.cx (some p))), .i n] [] (.tup [.c (.pd (.cx (some (turnP p n)))), .i (turnE p)]) [] := by
  refine Does.go (cfg := cfgRight) cfgRight_ok Tryd.func17 (by kernel_rfl) (by kernel_rfl) (t := (.need (Option.isSome (some p) = true) (.ite (!rightO (some p)) (.ret (.tup [.p (.cx (some (0, 0))), .i (12 : Int)]) []) (.stop [.code [1, 1, 0, 1, 0, 0], .inLoop [1, 1, 0, 1, 0, 0], .inBlock 0, .code [1, 1, 1]] { n := 18, fr := [(0, .p (.cx (some p))), (4, .p (.cx (some (0, 0)))), (5, .i (0 : Int)), (10, .i (IntKind.wrap .i64 (↑(BitVec.toNat (BitVec.ofInt 64 n &&& BitVec.ofInt 64 (3 : Int))) : Int))), (11, .i (0 : Int))], ck := [] })))) (by kernel_rfl) fun Γ => ?_
  refine ⟨rfl, fun h => ?_, fun h => ?_⟩
  · have h' : pRight p = false := by simpa [rightO] using h
    refine ⟨?_, rfl⟩; simp [turnP, turnE, h']
  · have h' : pRight p = true := by simpa [rightO] using h
    obtain ⟨a1, a2, a3, a4⟩ := pRight_isI h'
    have hq := quart_range n
    have := turn_loop (quart n) Γ (by omega) 3 0 p _ _ (by omega) (by omega) hq.1 ⟨a1, a2⟩ a3 a4
    rw [Int.sub_zero] at this
    have e1 : turnP p n = (num (turnI (quart n).toNat (fInt p.1, fInt p.2)).1, num (turnI (quart n).toNat (fInt p.1, fInt p.2)).2) := by simp [turnP, h']
    have e2 : turnE p = 0 := by simp [turnE, h']
    rw [e1, e2]
    exact this
def eTurn : Nat × (List SX → List Chunk → Option (Option Prop × SV × List Chunk)) := (17, fun
  | [.c (.pd (.cx (some p))), .c (.pd (.int .i64 n))], [] => some (none, .tup [.c (.pd (.cx (some (turnP p n)))), .c (.pd (.int .i64 (turnE p)))], [])
  | _, _ => none)
theorem eTurn_ok (vs : List SX) (ck : List Chunk) (p : Option Prop) (ret : SV) (ck' : List Chunk) (h : eTurn.2 vs ck = some (p, ret, ck')) (hp : Holds p) : Does Tryd.prog eTurn.1 vs ck ret ck' := by
  unfold eTurn at h
  simp only at h
  split at h
  · rename_i p n
    simp only [Option.some.injEq, Prod.mk.injEq] at h
    obtain ⟨rfl, rfl, rfl⟩ := h
    exact turn_spec p n
  · simp at h
end Go.Proofs.YtndkapkejmkphaaDoor

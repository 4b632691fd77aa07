/- Contracts: points told and read by the program. Conditions: texts of at most 2^47 bytes. -/
import Derived.Test.YtndkapkejmkphaaDoorRc
import Derived.Test.YtndkapkejmkphaaDoorRe
import Derived.Test.YtndkapkejmkphaaDoorRl
namespace Go.Proofs.YtndkapkejmkphaaDoor
open Go Go.Ev Go.RowKit
set_option maxRecDepth 100000
/-! ### the program's -/
theorem partA_in {p : Nat × Nat} : -1048576 ≤ partA p ∧ partA p ≤ 1048576 := by
  unfold partA; split
  · rename_i h; exact pIn_num (pRight_isI h).2.2.1
  · omega
theorem partB_in {p : Nat × Nat} : -1048576 ≤ partB p ∧ partB p ≤ 1048576 := by
  unfold partB; split
  · rename_i h; exact pIn_num (pRight_isI h).2.2.2
  · omega
def cfgPs0 : Cfg := ⟨tys0, [eParts, eFi]⟩
theorem cfgPs0_ok : TabOk Tryd.prog cfgPs0.tab := (TabOk.cons eParts_ok (TabOk.cons eFi_ok TabOk.nil))
theorem pshow_ok (p : Nat × Nat) (h : pRight p = true) : Does Tryd.prog 13 [.c (.pd (.cx (some p)))] [] (.tup [.s (showP (partA p) (partB p)), .i 0]) [] := by
  refine Does.go (cfg := cfgPs0) cfgPs0_ok Tryd.func13 (by kernel_rfl) (by kernel_rfl) (t := (.ite (partE p != (0 : Int)) (.ret (.tup [.p (.str []), .i (partE p)]) []) (.ite (decide (partB p < (0 : Int))) (.need ((-9223372036854775808 : Int) ≤ partA p ∧ partA p ≤ (9223372036854775807 : Int)) (.need (List.length (Lib.itoa (partA p)) + 0 ≤ 9223372036854775807) (.need ((-9223372036854775808 : Int) ≤ partB p ∧ partB p ≤ (9223372036854775807 : Int)) (.need (List.length (Lib.itoa (partA p) ++ []) + List.length (Lib.itoa (partB p)) ≤ 9223372036854775807) (.need (List.length (Lib.itoa (partA p) ++ [] ++ Lib.itoa (partB p)) + 1 ≤ 9223372036854775807) (.ret (.tup [.p (.str (Lib.itoa (partA p) ++ [] ++ Lib.itoa (partB p) ++ [(105 : UInt8)])), .i (0 : Int)]) [])))))) (.need ((-9223372036854775808 : Int) ≤ partA p ∧ partA p ≤ (9223372036854775807 : Int)) (.need (List.length (Lib.itoa (partA p)) + 1 ≤ 9223372036854775807) (.need ((-9223372036854775808 : Int) ≤ partB p ∧ partB p ≤ (9223372036854775807 : Int)) (.need (List.length (Lib.itoa (partA p) ++ [(43 : UInt8)]) + List.length (Lib.itoa (partB p)) ≤ 9223372036854775807) (.need (List.length (Lib.itoa (partA p) ++ [(43 : UInt8)] ++ Lib.itoa (partB p)) + 1 ≤ 9223372036854775807) (.ret (.tup [.p (.str (Lib.itoa (partA p) ++ [(43 : UInt8)] ++ Lib.itoa (partB p) ++ [(105 : UInt8)])), .i (0 : Int)]) []))))))))) (by kernel_rfl) fun Γ => ?_
  have hA := partA_in (p := p)
  have hB := partB_in (p := p)
  have hE : partE p = 0 := by unfold partE; rw [if_pos h]
  have pa : pIn (partA p) = true := by simp only [pIn, Bool.and_eq_true, decide_eq_true_eq]; exact hA
  have pb : pIn (partB p) = true := by simp only [pIn, Bool.and_eq_true, decide_eq_true_eq]; exact hB
  have lA := (itoa_small pa).1
  have lB := (itoa_small pb).1
  rw [hE]
  refine ⟨fun h => Bool.noConfusion h, fun _ => ⟨fun h => ?_, fun h => ?_⟩⟩
  · have h' := of_decide_eq_true h
    refine ⟨⟨by omega, by omega⟩, by omega, ⟨by omega, by omega⟩, by simp only [List.length_append, List.length_nil]; omega, by simp only [List.length_append, List.length_nil]; omega, ?_, rfl⟩
    unfold showP; rw [if_pos h']
  · have h' := of_decide_eq_false h
    refine ⟨⟨by omega, by omega⟩, by omega, ⟨by omega, by omega⟩, by simp only [List.length_append, List.length_cons, List.length_nil]; omega, by simp only [List.length_append, List.length_cons, List.length_nil]; omega, ?_, rfl⟩
    unfold showP; rw [if_neg h']
def eShP : Nat × (List SX → List Chunk → Option (Option Prop × SV × List Chunk)) := (13, fun
  | [.c (.pd (.cx (some p)))], [] => some (some (pRight p = true), .tup [.c (.pd (.str (showP (partA p) (partB p)))), .c (.pd (.int .i64 0))], [])
  | _, _ => none)
theorem eShP_ok (vs : List SX) (ck : List Chunk) (p : Option Prop) (ret : SV) (ck' : List Chunk) (h : eShP.2 vs ck = some (p, ret, ck')) (hp : Holds p) : Does Tryd.prog eShP.1 vs ck ret ck' := by
  unfold eShP at h
  simp only at h
  split at h
  · rename_i p
    simp only [Option.some.injEq, Prod.mk.injEq] at h
    obtain ⟨rfl, rfl, rfl⟩ := h
    exact pshow_ok p hp
  · simp at h
def cfgPr : Cfg := ⟨tys0, [eLany, eTrimS, eTrimP, ePMade, eShP]⟩
theorem cfgPr_ok : TabOk Tryd.prog cfgPr.tab := (TabOk.cons eLany_ok (TabOk.cons eTrimS_ok (TabOk.cons eTrimP_ok (TabOk.cons ePMade_ok (TabOk.cons eShP_ok TabOk.nil)))))
theorem made_parts {a b : Int} (ha : pIn a = true) (hb : pIn b = true) : pRight (madeP a b) = true ∧ partA (madeP a b) = a ∧ partB (madeP a b) = b ∧ partE (madeP a b) = 0 := by
  have h1 := pIn_num ha; have h2 := pIn_num hb
  have e : madeP a b = (num a, num b) := by unfold madeP; rw [ha, hb]; rfl
  have hp := isP_num (a := a) (b := b) (by omega) (by omega)
  have hr : pRight (num a, num b) = true := by rw [isP_right hp, ha, hb]; rfl
  rw [e]
  refine ⟨hr, ?_, ?_, ?_⟩
  · unfold partA; rw [if_pos hr]; exact isI_fInt hp.1
  · unfold partB; rw [if_pos hr]; exact isI_fInt hp.2
  · unfold partE; rw [if_pos hr]
theorem made_zero {a b : Int} (h : (pIn a && pIn b) = false) : madeP a b = (0, 0) ∧ madeE a b = 5 := by
  unfold madeP madeE; rw [h]; exact ⟨rfl, rfl⟩
theorem made_ok {a b : Int} (ha : pIn a = true) (hb : pIn b = true) : madeE a b = 0 := by unfold madeE; rw [ha, hb]; rfl

def cfgPp1 : Cfg := ⟨tys0, [eParse1]⟩
theorem cfgPp1_ok : TabOk Tryd.prog cfgPp1.tab := (TabOk.cons eParse1_ok TabOk.nil)
def cfgPp0 : Cfg := ⟨tys0, [eParse0]⟩
theorem cfgPp0_ok : TabOk Tryd.prog cfgPp0.tab := (TabOk.cons eParse0_ok TabOk.nil)


theorem zero_right : pRight (0, 0) = true := by rw [isP_right (p := (0, 0)) ⟨isI_zero, isI_zero⟩]; decide
theorem made_right (a b : Int) : pRight (madeP a b) = true := by
  cases h : (pIn a && pIn b)
  · rw [(made_zero h).1]; exact zero_right
  · rw [Bool.and_eq_true] at h; exact (made_parts h.1 h.2).1
def PrQ (s : Str) : Out := fun v k => (readsP s → v = .tup [.c (.pd (.cx (some (madeP (ptA s) (ptB s))))), .i 0]) ∧ (¬ readsP s → v = .tup [.c (.pd (.cx (some (0, 0)))), .i 1]) ∧ k = []
theorem PrQ.no {s : Str} (h : ¬ readsP s) : PrQ s (.tup [.c (.pd (.cx (some (0, 0)))), .i 1]) [] := ⟨fun h' => absurd h' h, fun _ => rfl, rfl⟩
theorem PrQ.yes {s : Str} {a b : Int} (h : isPt s (a, b)) : PrQ s (.tup [.c (.pd (.cx (some (madeP a b)))), .i 0]) [] := by
  have hr : readsP s := ⟨(a, b), h⟩
  obtain ⟨g1, g2, g3⟩ := readP_spec hr
  obtain ⟨k1, k2, k3⟩ := h
  have := showP_inj g1 g2 k1 k2 (g3.trans k3.symm)
  have t1 : ptA s = a := this.1
  have t2 : ptB s = b := this.2
  exact ⟨fun _ => by rw [t1, t2], fun h' => absurd hr h', rfl⟩
theorem cut_to {s : Str} {k : Int} : (cutL s none (some k)).2 = s.take k.toNat := by simp [cutL]
theorem cut_from {s : Str} {k : Int} : (cutL s (some k) none).2 = s.drop k.toNat := by simp [cutL]
theorem pread_q (s : Str) (hs : s.length ≤ 140737488355328) (Γ : Ctx) : J Tryd.prog 4 (bodyOf Tryd.f4) Γ (PrQ s) [.code []] (initST Tryd.f4.ntmps [.s s] []) := by
  refine J.go (cfg := cfgPr) cfgPr_ok Tryd.func4 1000 (t := (.need (List.length s ≤ 9223372036854775807) (.ite (decide (lastAny s < (1 : Int)) || decide (strLen s > (20 : Int))) (.ret (.tup [.p (.cx (some (0, 0))), .i (1 : Int)]) []) (.need ((0 : Int) ≤ lastAny s ∧ lastAny s ≤ (↑(List.length s) : Int)) (.stop [.ops [1, 1, 1, 0] 3, .code [1, 1, 1, 1]] { n := 67, fr := [(0, .p (.str s)), (2, .p (.cx (some (0, 0)))), (3, .i (0 : Int)), (4, .i (lastAny s)), (25, .p (.str (Prod.snd (cutL s none (some (lastAny s))))))], ck := [] }))))) (by kernel_rfl) ?_
  have hL : strLen s = (s.length : Int) := rfl
  have hb := lastPM_bounds s s.length
  have hb1 : -1 ≤ lastAny s ∧ lastAny s < s.length := hb
  have facts : ∀ a b : Int, isPt s (a, b) → lastAny s = ((Lib.itoa a).length : Int) ∧ s.length ≤ 20 ∧ 0 < (Lib.itoa a).length ∧ (cutL s none (some (lastAny s))).2 = Lib.itoa a ∧ (Lib.trimPrefix (Lib.trimSuffix (Prod.snd (cutL s (some (lastAny s)) none)) [(105 : UInt8)]) [(43 : UInt8)]) = Lib.itoa b := fun a b h => by
    obtain ⟨f1, f2, f3, f4, f5⟩ := showP_facts h
    refine ⟨f1, f2, f3, ?_, ?_⟩
    · rw [cut_to, f1, Int.toNat_natCast]; exact f4
    · rw [cut_from, f1, Int.toNat_natCast]; exact f5
  refine ⟨by omega, fun h => PrQ.no ?_, fun h => ⟨?_, ?_⟩⟩
  · rintro ⟨⟨a, b⟩, hp⟩
    obtain ⟨f1, f2, f3, _⟩ := facts a b hp
    rw [Bool.or_eq_true] at h
    rcases h with h | h
    · have := of_decide_eq_true h; omega
    · have := of_decide_eq_true h; omega
  · rw [Bool.or_eq_false_iff] at h
    have := of_decide_eq_false h.1
    omega
  · rw [Bool.or_eq_false_iff] at h
    have hk1 := of_decide_eq_false h.1
    have hk2 := of_decide_eq_false h.2
    have lX : (cutL s none (some (lastAny s))).2.length ≤ 281474976710656 := by rw [cut_to, List.length_take]; omega
    have lY : (Lib.trimPrefix (Lib.trimSuffix (Prod.snd (cutL s (some (lastAny s)) none)) [(105 : UInt8)]) [(43 : UInt8)]).length ≤ 281474976710656 := by
      have h1 : ∀ (a p : Str), (Lib.trimPrefix a p).length ≤ a.length := fun a p => by unfold Lib.trimPrefix; split; rw [List.length_drop]; omega; exact Nat.le_refl _
      have h2 : ∀ (a p : Str), (Lib.trimSuffix a p).length ≤ a.length := fun a p => by unfold Lib.trimSuffix; split; rw [List.length_take]; omega; exact Nat.le_refl _
      have h3 := h1 (Lib.trimSuffix (Prod.snd (cutL s (some (lastAny s)) none)) [(105 : UInt8)]) [(43 : UInt8)]
      have h4 := h2 (Prod.snd (cutL s (some (lastAny s)) none)) [(105 : UInt8)]
      have h5 : (Prod.snd (cutL s (some (lastAny s)) none)).length ≤ s.length := by rw [cut_from, List.length_drop]; omega
      omega
    have ld : (Prod.snd (cutL s (some (lastAny s)) none)).length ≤ 9223372036854775807 := by rw [cut_from, List.length_drop]; omega
    have pokX : parsedOk (cutL s none (some (lastAny s))).2 = false → ¬ readsP s := fun hp => by
      rintro ⟨⟨a, b⟩, q⟩
      obtain ⟨_, _, _, f4, _⟩ := facts a b q
      rw [f4, (parsed_itoa (n := a) (by have := pIn_num q.1; omega) (by have := pIn_num q.1; omega)).1] at hp; cases hp
    have pokY : parsedOk (Lib.trimPrefix (Lib.trimSuffix (Prod.snd (cutL s (some (lastAny s)) none)) [(105 : UInt8)]) [(43 : UInt8)]) = false → ¬ readsP s := fun hp => by
      rintro ⟨⟨a, b⟩, q⟩
      obtain ⟨_, _, _, _, f5⟩ := facts a b q
      rw [f5, (parsed_itoa (n := b) (by have := pIn_num q.2.1; omega) (by have := pIn_num q.2.1; omega)).1] at hp; cases hp
    cases hX : parsedOk (cutL s none (some (lastAny s))).2
    · have hno := pokX hX
      have h0 : J Tryd.prog 4 (bodyOf Tryd.f4) Γ (PrQ s) [.ops [1, 1, 1, 0] 4, .code [1, 1, 1, 1]] ({ n := 67, fr := [(0, .p (.str s)), (2, .p (.cx (some (0, 0)))), (3, .i (0 : Int)), (4, .i (lastAny s)), (25, .p (.str (Prod.snd (cutL s none (some (lastAny s)))))), (26, .tup [.i (parsedM (cutL s none (some (lastAny s))).2), .c (.pd .err)])], ck := [] }) := by
        refine J.go (cfg := cfgPr) cfgPr_ok Tryd.func4 1000 (t := (.need ((0 : Int) ≤ lastAny s ∧ lastAny s ≤ (↑(List.length s) : Int)) (.need (List.length (Prod.snd (cutL s (some (lastAny s)) none)) ≤ 9223372036854775807) (.stop [.ops [1, 1, 1, 1, 0] 5, .code [1, 1, 1, 1, 1]] { n := 67, fr := [(0, .p (.str s)), (2, .p (.cx (some (0, 0)))), (3, .i (0 : Int)), (5, .i (parsedM (Prod.snd (cutL s none (some (lastAny s)))))), (6, .x (.c (.pd .err))), (34, .p (.str (Lib.trimPrefix (Lib.trimSuffix (Prod.snd (cutL s (some (lastAny s)) none)) [(105 : UInt8)]) [(43 : UInt8)])))], ck := [] })))) (by kernel_rfl) ?_
        refine ⟨⟨by omega, by omega⟩, ld, ?_⟩
        cases hY : parsedOk (Lib.trimPrefix (Lib.trimSuffix (Prod.snd (cutL s (some (lastAny s)) none)) [(105 : UInt8)]) [(43 : UInt8)])
        · have hz : J Tryd.prog 4 (bodyOf Tryd.f4) Γ (PrQ s) [.ops [1, 1, 1, 1, 0] 6, .code [1, 1, 1, 1, 1]] ({ n := 67, fr := [(0, .p (.str s)), (2, .p (.cx (some (0, 0)))), (3, .i (0 : Int)), (5, .i (parsedM (Prod.snd (cutL s none (some (lastAny s)))))), (6, .x (.c (.pd .err))), (34, .p (.str (Lib.trimPrefix (Lib.trimSuffix (Prod.snd (cutL s (some (lastAny s)) none)) [(105 : UInt8)]) [(43 : UInt8)]))), (35, .tup [.i (parsedM (Lib.trimPrefix (Lib.trimSuffix (Prod.snd (cutL s (some (lastAny s)) none)) [(105 : UInt8)]) [(43 : UInt8)])), .c (.pd .err)])], ck := [] }) := by
            refine J.go (cfg := cfgPr) cfgPr_ok Tryd.func4 1000 (t := (.ite true (.ret (.tup [.p (.cx (some (0, 0))), .i (1 : Int)]) []) (.need (pRight (madeP (parsedM (Prod.snd (cutL s none (some (lastAny s))))) (parsedM (Lib.trimPrefix (Lib.trimSuffix (Prod.snd (cutL s (some (lastAny s)) none)) [(105 : UInt8)]) [(43 : UInt8)]))) = true) (.ite (madeE (parsedM (Prod.snd (cutL s none (some (lastAny s))))) (parsedM (Lib.trimPrefix (Lib.trimSuffix (Prod.snd (cutL s (some (lastAny s)) none)) [(105 : UInt8)]) [(43 : UInt8)])) != (0 : Int) || (0 : Int) != (0 : Int) || !showP (partA (madeP (parsedM (Prod.snd (cutL s none (some (lastAny s))))) (parsedM (Lib.trimPrefix (Lib.trimSuffix (Prod.snd (cutL s (some (lastAny s)) none)) [(105 : UInt8)]) [(43 : UInt8)])))) (partB (madeP (parsedM (Prod.snd (cutL s none (some (lastAny s))))) (parsedM (Lib.trimPrefix (Lib.trimSuffix (Prod.snd (cutL s (some (lastAny s)) none)) [(105 : UInt8)]) [(43 : UInt8)])))) == s) (.ret (.tup [.p (.cx (some (0, 0))), .i (1 : Int)]) []) (.ret (.tup [.p (.cx (some (madeP (parsedM (Prod.snd (cutL s none (some (lastAny s))))) (parsedM (Lib.trimPrefix (Lib.trimSuffix (Prod.snd (cutL s (some (lastAny s)) none)) [(105 : UInt8)]) [(43 : UInt8)]))))), .i (0 : Int)]) []))))) (by kernel_rfl) ?_
            exact ⟨fun _ => PrQ.no hno, fun x => Bool.noConfusion x⟩
          exact J.step (cfg := cfgPp0) cfgPp0_ok (q := some (_ ∧ _)) (by kernel_rfl) ⟨lY, hY⟩ hz
        · have hz : J Tryd.prog 4 (bodyOf Tryd.f4) Γ (PrQ s) [.ops [1, 1, 1, 1, 0] 6, .code [1, 1, 1, 1, 1]] ({ n := 67, fr := [(0, .p (.str s)), (2, .p (.cx (some (0, 0)))), (3, .i (0 : Int)), (5, .i (parsedM (Prod.snd (cutL s none (some (lastAny s)))))), (6, .x (.c (.pd .err))), (34, .p (.str (Lib.trimPrefix (Lib.trimSuffix (Prod.snd (cutL s (some (lastAny s)) none)) [(105 : UInt8)]) [(43 : UInt8)]))), (35, .tup [.i (parsedM (Lib.trimPrefix (Lib.trimSuffix (Prod.snd (cutL s (some (lastAny s)) none)) [(105 : UInt8)]) [(43 : UInt8)])), .p (.v Value.nilIface)])], ck := [] }) := by
            refine J.go (cfg := cfgPr) cfgPr_ok Tryd.func4 1000 (t := (.ite true (.ret (.tup [.p (.cx (some (0, 0))), .i (1 : Int)]) []) (.need (pRight (madeP (parsedM (Prod.snd (cutL s none (some (lastAny s))))) (parsedM (Lib.trimPrefix (Lib.trimSuffix (Prod.snd (cutL s (some (lastAny s)) none)) [(105 : UInt8)]) [(43 : UInt8)]))) = true) (.ite (madeE (parsedM (Prod.snd (cutL s none (some (lastAny s))))) (parsedM (Lib.trimPrefix (Lib.trimSuffix (Prod.snd (cutL s (some (lastAny s)) none)) [(105 : UInt8)]) [(43 : UInt8)])) != (0 : Int) || (0 : Int) != (0 : Int) || !showP (partA (madeP (parsedM (Prod.snd (cutL s none (some (lastAny s))))) (parsedM (Lib.trimPrefix (Lib.trimSuffix (Prod.snd (cutL s (some (lastAny s)) none)) [(105 : UInt8)]) [(43 : UInt8)])))) (partB (madeP (parsedM (Prod.snd (cutL s none (some (lastAny s))))) (parsedM (Lib.trimPrefix (Lib.trimSuffix (Prod.snd (cutL s (some (lastAny s)) none)) [(105 : UInt8)]) [(43 : UInt8)])))) == s) (.ret (.tup [.p (.cx (some (0, 0))), .i (1 : Int)]) []) (.ret (.tup [.p (.cx (some (madeP (parsedM (Prod.snd (cutL s none (some (lastAny s))))) (parsedM (Lib.trimPrefix (Lib.trimSuffix (Prod.snd (cutL s (some (lastAny s)) none)) [(105 : UInt8)]) [(43 : UInt8)]))))), .i (0 : Int)]) []))))) (by kernel_rfl) ?_
            exact ⟨fun _ => PrQ.no hno, fun x => Bool.noConfusion x⟩
          exact J.step (cfg := cfgPp1) cfgPp1_ok (q := some (_ ∧ _)) (by kernel_rfl) ⟨lY, hY⟩ hz
      exact J.step (cfg := cfgPp0) cfgPp0_ok (q := some (_ ∧ _)) (by kernel_rfl) ⟨lX, hX⟩ h0
    · have h0 : J Tryd.prog 4 (bodyOf Tryd.f4) Γ (PrQ s) [.ops [1, 1, 1, 0] 4, .code [1, 1, 1, 1]] ({ n := 67, fr := [(0, .p (.str s)), (2, .p (.cx (some (0, 0)))), (3, .i (0 : Int)), (4, .i (lastAny s)), (25, .p (.str (Prod.snd (cutL s none (some (lastAny s)))))), (26, .tup [.i (parsedM (cutL s none (some (lastAny s))).2), .p (.v Value.nilIface)])], ck := [] }) := by
        refine J.go (cfg := cfgPr) cfgPr_ok Tryd.func4 1000 (t := (.need ((0 : Int) ≤ lastAny s ∧ lastAny s ≤ (↑(List.length s) : Int)) (.need (List.length (Prod.snd (cutL s (some (lastAny s)) none)) ≤ 9223372036854775807) (.stop [.ops [1, 1, 1, 1, 0] 5, .code [1, 1, 1, 1, 1]] { n := 67, fr := [(0, .p (.str s)), (2, .p (.cx (some (0, 0)))), (3, .i (0 : Int)), (5, .i (parsedM (Prod.snd (cutL s none (some (lastAny s)))))), (6, .p (.v Value.nilIface)), (34, .p (.str (Lib.trimPrefix (Lib.trimSuffix (Prod.snd (cutL s (some (lastAny s)) none)) [(105 : UInt8)]) [(43 : UInt8)])))], ck := [] })))) (by kernel_rfl) ?_
        refine ⟨⟨by omega, by omega⟩, ld, ?_⟩
        cases hY : parsedOk (Lib.trimPrefix (Lib.trimSuffix (Prod.snd (cutL s (some (lastAny s)) none)) [(105 : UInt8)]) [(43 : UInt8)])
        · have hno := pokY hY
          have hz : J Tryd.prog 4 (bodyOf Tryd.f4) Γ (PrQ s) [.ops [1, 1, 1, 1, 0] 6, .code [1, 1, 1, 1, 1]] ({ n := 67, fr := [(0, .p (.str s)), (2, .p (.cx (some (0, 0)))), (3, .i (0 : Int)), (5, .i (parsedM (Prod.snd (cutL s none (some (lastAny s)))))), (6, .p (.v Value.nilIface)), (34, .p (.str (Lib.trimPrefix (Lib.trimSuffix (Prod.snd (cutL s (some (lastAny s)) none)) [(105 : UInt8)]) [(43 : UInt8)]))), (35, .tup [.i (parsedM (Lib.trimPrefix (Lib.trimSuffix (Prod.snd (cutL s (some (lastAny s)) none)) [(105 : UInt8)]) [(43 : UInt8)])), .c (.pd .err)])], ck := [] }) := by
            refine J.go (cfg := cfgPr) cfgPr_ok Tryd.func4 1000 (t := (.ite true (.ret (.tup [.p (.cx (some (0, 0))), .i (1 : Int)]) []) (.need (pRight (madeP (parsedM (Prod.snd (cutL s none (some (lastAny s))))) (parsedM (Lib.trimPrefix (Lib.trimSuffix (Prod.snd (cutL s (some (lastAny s)) none)) [(105 : UInt8)]) [(43 : UInt8)]))) = true) (.ite (madeE (parsedM (Prod.snd (cutL s none (some (lastAny s))))) (parsedM (Lib.trimPrefix (Lib.trimSuffix (Prod.snd (cutL s (some (lastAny s)) none)) [(105 : UInt8)]) [(43 : UInt8)])) != (0 : Int) || (0 : Int) != (0 : Int) || !showP (partA (madeP (parsedM (Prod.snd (cutL s none (some (lastAny s))))) (parsedM (Lib.trimPrefix (Lib.trimSuffix (Prod.snd (cutL s (some (lastAny s)) none)) [(105 : UInt8)]) [(43 : UInt8)])))) (partB (madeP (parsedM (Prod.snd (cutL s none (some (lastAny s))))) (parsedM (Lib.trimPrefix (Lib.trimSuffix (Prod.snd (cutL s (some (lastAny s)) none)) [(105 : UInt8)]) [(43 : UInt8)])))) == s) (.ret (.tup [.p (.cx (some (0, 0))), .i (1 : Int)]) []) (.ret (.tup [.p (.cx (some (madeP (parsedM (Prod.snd (cutL s none (some (lastAny s))))) (parsedM (Lib.trimPrefix (Lib.trimSuffix (Prod.snd (cutL s (some (lastAny s)) none)) [(105 : UInt8)]) [(43 : UInt8)]))))), .i (0 : Int)]) []))))) (by kernel_rfl) ?_
            exact ⟨fun _ => PrQ.no hno, fun x => Bool.noConfusion x⟩
          exact J.step (cfg := cfgPp0) cfgPp0_ok (q := some (_ ∧ _)) (by kernel_rfl) ⟨lY, hY⟩ hz
        · have hz : J Tryd.prog 4 (bodyOf Tryd.f4) Γ (PrQ s) [.ops [1, 1, 1, 1, 0] 6, .code [1, 1, 1, 1, 1]] ({ n := 67, fr := [(0, .p (.str s)), (2, .p (.cx (some (0, 0)))), (3, .i (0 : Int)), (5, .i (parsedM (Prod.snd (cutL s none (some (lastAny s)))))), (6, .p (.v Value.nilIface)), (34, .p (.str (Lib.trimPrefix (Lib.trimSuffix (Prod.snd (cutL s (some (lastAny s)) none)) [(105 : UInt8)]) [(43 : UInt8)]))), (35, .tup [.i (parsedM (Lib.trimPrefix (Lib.trimSuffix (Prod.snd (cutL s (some (lastAny s)) none)) [(105 : UInt8)]) [(43 : UInt8)])), .p (.v Value.nilIface)])], ck := [] }) := by
            refine J.go (cfg := cfgPr) cfgPr_ok Tryd.func4 1000 (t := (.ite false (.ret (.tup [.p (.cx (some (0, 0))), .i (1 : Int)]) []) (.need (pRight (madeP (parsedM (Prod.snd (cutL s none (some (lastAny s))))) (parsedM (Lib.trimPrefix (Lib.trimSuffix (Prod.snd (cutL s (some (lastAny s)) none)) [(105 : UInt8)]) [(43 : UInt8)]))) = true) (.ite (madeE (parsedM (Prod.snd (cutL s none (some (lastAny s))))) (parsedM (Lib.trimPrefix (Lib.trimSuffix (Prod.snd (cutL s (some (lastAny s)) none)) [(105 : UInt8)]) [(43 : UInt8)])) != (0 : Int) || (0 : Int) != (0 : Int) || !showP (partA (madeP (parsedM (Prod.snd (cutL s none (some (lastAny s))))) (parsedM (Lib.trimPrefix (Lib.trimSuffix (Prod.snd (cutL s (some (lastAny s)) none)) [(105 : UInt8)]) [(43 : UInt8)])))) (partB (madeP (parsedM (Prod.snd (cutL s none (some (lastAny s))))) (parsedM (Lib.trimPrefix (Lib.trimSuffix (Prod.snd (cutL s (some (lastAny s)) none)) [(105 : UInt8)]) [(43 : UInt8)])))) == s) (.ret (.tup [.p (.cx (some (0, 0))), .i (1 : Int)]) []) (.ret (.tup [.p (.cx (some (madeP (parsedM (Prod.snd (cutL s none (some (lastAny s))))) (parsedM (Lib.trimPrefix (Lib.trimSuffix (Prod.snd (cutL s (some (lastAny s)) none)) [(105 : UInt8)]) [(43 : UInt8)]))))), .i (0 : Int)]) []))))) (by kernel_rfl) ?_
            have of_pt : ∀ a b : Int, isPt s (a, b) → parsedM (cutL s none (some (lastAny s))).2 = a ∧ parsedM (Lib.trimPrefix (Lib.trimSuffix (Prod.snd (cutL s (some (lastAny s)) none)) [(105 : UInt8)]) [(43 : UInt8)]) = b := fun a b q => by
              obtain ⟨_, _, _, f4, f5⟩ := facts a b q
              rw [f4, f5]
              exact ⟨(parsed_itoa (n := a) (by have := pIn_num q.1; omega) (by have := pIn_num q.1; omega)).2, (parsed_itoa (n := b) (by have := pIn_num q.2.1; omega) (by have := pIn_num q.2.1; omega)).2⟩
            generalize parsedM (cutL s none (some (lastAny s))).2 = a at of_pt ⊢
            generalize parsedM (Lib.trimPrefix (Lib.trimSuffix (Prod.snd (cutL s (some (lastAny s)) none)) [(105 : UInt8)]) [(43 : UInt8)]) = b at of_pt ⊢
            refine ⟨fun x => Bool.noConfusion x, fun _ => ⟨made_right a b, fun hb => PrQ.no ?_, fun hb => PrQ.yes ?_⟩⟩
            · rintro ⟨⟨x, y⟩, q⟩
              obtain ⟨rfl, rfl⟩ := of_pt x y q
              obtain ⟨m1, m2, m3, m4⟩ := made_parts q.1 q.2.1
              rw [made_ok q.1 q.2.1, m2, m3] at hb
              have e : showP a b = s := q.2.2
              rw [e] at hb
              simp at hb
            · simp only [Bool.or_eq_false_iff, bne_eq_false_iff_eq, Bool.not_eq_false'] at hb
              cases hin : (pIn a && pIn b)
              · rw [(made_zero hin).2] at hb; exact absurd hb.1.1 (by decide)
              · rw [Bool.and_eq_true] at hin
                obtain ⟨m1, m2, m3, m4⟩ := made_parts hin.1 hin.2
                rw [m2, m3] at hb
                exact ⟨hin.1, hin.2, eq_of_beq hb.2⟩
          exact J.step (cfg := cfgPp1) cfgPp1_ok (q := some (_ ∧ _)) (by kernel_rfl) ⟨lY, hY⟩ hz
      exact J.step (cfg := cfgPp1) cfgPp1_ok (q := some (_ ∧ _)) (by kernel_rfl) ⟨lX, hX⟩ h0
theorem pread_ok (s : Str) (hs : s.length ≤ 140737488355328) (h : readsP s) : Does Tryd.prog 4 [.s s] [] (.tup [.c (.pd (.cx (some (madeP (ptA s) (ptB s))))), .i 0]) [] :=
  Does.of Tryd.func4 (by kernel_rfl) (by kernel_rfl) fun Γ => J.mono (fun v k q => ⟨q.1 h, q.2.2⟩) (pread_q s hs Γ)
theorem pread_no (s : Str) (hs : s.length ≤ 140737488355328) (h : ¬ readsP s) : Does Tryd.prog 4 [.s s] [] (.tup [.c (.pd (.cx (some (0, 0)))), .i 1]) [] :=
  Does.of Tryd.func4 (by kernel_rfl) (by kernel_rfl) fun Γ => J.mono (fun v k q => ⟨q.2.1 h, q.2.2⟩) (pread_q s hs Γ)
noncomputable def nPrd1 : Nat × (List SX → List Chunk → Option (Option Prop × SV × List Chunk)) := (4, fun
  | [.c (.pd (.str s))], [] => some (some (s.length ≤ 140737488355328 ∧ readsP s), .tup [.c (.pd (.cx (some (madeP (ptA s) (ptB s))))), .c (.pd (.int .i64 0))], [])
  | _, _ => none)
theorem nPrd1_ok (vs : List SX) (ck : List Chunk) (p : Option Prop) (ret : SV) (ck' : List Chunk) (h : nPrd1.2 vs ck = some (p, ret, ck')) (hp : Holds p) : Does Tryd.prog nPrd1.1 vs ck ret ck' := by
  unfold nPrd1 at h
  simp only at h
  split at h
  · rename_i s
    simp only [Option.some.injEq, Prod.mk.injEq] at h
    obtain ⟨rfl, rfl, rfl⟩ := h
    exact pread_ok s hp.1 hp.2
  · simp at h
noncomputable def nPrd0 : Nat × (List SX → List Chunk → Option (Option Prop × SV × List Chunk)) := (4, fun
  | [.c (.pd (.str s))], [] => some (some (s.length ≤ 140737488355328 ∧ ¬ readsP s), .tup [.c (.pd (.cx (some (0, 0)))), .c (.pd (.int .i64 1))], [])
  | _, _ => none)
theorem nPrd0_ok (vs : List SX) (ck : List Chunk) (p : Option Prop) (ret : SV) (ck' : List Chunk) (h : nPrd0.2 vs ck = some (p, ret, ck')) (hp : Holds p) : Does Tryd.prog nPrd0.1 vs ck ret ck' := by
  unfold nPrd0 at h
  simp only at h
  split at h
  · rename_i s
    simp only [Option.some.injEq, Prod.mk.injEq] at h
    obtain ⟨rfl, rfl, rfl⟩ := h
    exact pread_no s hp.1 hp.2
  · simp at h
end Go.Proofs.YtndkapkejmkphaaDoor

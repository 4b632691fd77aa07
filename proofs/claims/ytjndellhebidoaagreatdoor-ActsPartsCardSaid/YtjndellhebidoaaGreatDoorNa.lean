/- Contracts: names; prefixes. Conditions: none. -/
import Derived.Test.YtjndellhebidoaaGreatDoorDa
namespace Go.Proofs.YtjndellhebidoaaGreatDoor
open Go Go.Ev
set_option maxRecDepth 100000

theorem name_loop (s : Str) (Γ : Ctx) (h0 : name0 s = false) : ∀ (n k : Nat), s.length - k ≤ n → k ≤ s.length → (∀ j, j < k → badB (s.getD j 0) = false) →
    J Tryz.prog 45 (bodyOf Tryz.f45) Γ (Eq2 (.x (.b (nameM s))) []) [.code [1, 1, 0, 1, 0, 0], .inLoop [1, 1, 0, 1, 0, 0], .inBlock 0, .code [1, 1, 1]] ({ n := 56, fr := [(0, .p (.str s)), (2, .p (.bool false)), (23, .i (strLen s)), (24, .i (k))], ck := [], kn := [2] }) := by
  have hlen : s.length ≤ 12 := by simp [name0, strLen] at h0; omega
  intro n
  induction n with
  | zero => ?_
  | succ n ih => ?_
  all_goals
    intro k hn hk hb
    refine J.go (cfg := cfg0) cfg0_ok Tryz.func45 1000 (t := (.ite (decide ((↑k : Int) < strLen s)) (.need ((0 : Int) ≤ (↑k : Int) ∧ (↑k : Int) < strLen s) (.ite ((decide ((↑(UInt8.toNat (List.getD s k (0 : UInt8))) : Int) < (97 : Int)) || decide ((↑(UInt8.toNat (List.getD s k (0 : UInt8))) : Int) > (122 : Int))) && (decide ((↑(UInt8.toNat (List.getD s k (0 : UInt8))) : Int) < (48 : Int)) || decide ((↑(UInt8.toNat (List.getD s k (0 : UInt8))) : Int) > (57 : Int))) && (↑(UInt8.toNat (List.getD s k (0 : UInt8))) : Int) != (95 : Int)) (.ret (.p (.bool false)) []) (.stop [.code [1, 1, 0, 1, 0, 0], .inLoop [1, 1, 0, 1, 0, 0], .inBlock 0, .code [1, 1, 1]] { n := 56, fr := [(0, .p (.str s)), (2, .p (.bool false)), (23, .i (strLen s)), (24, .i (IntKind.wrap .i64 ((↑k : Int) + (1 : Int))))], ck := [], kn := [2] }))) (.ite (s == [(116 : UInt8), 114, 117, 101]) (.ret (.p (.bool false)) []) (.ite (s == [(102 : UInt8), 97, 108, 115, 101]) (.ret (.p (.bool false)) []) (.ite (s == [(105 : UInt8), 110]) (.ret (.p (.bool false)) []) (.ite (s == [(114 : UInt8), 101]) (.ret (.p (.bool false)) []) (.ite (s == [(105 : UInt8), 109]) (.ret (.p (.bool false)) []) (.ret (.p (.bool true)) [])))))))) (by kernel_rfl) ?_
    have hend : ¬ k < s.length → s.any badB = false := fun h => not_any_getD fun j hj => hb j (by omega)
    refine ⟨fun hlt => ⟨?_, fun hbad => ⟨?_, rfl⟩, fun hok => ?_⟩, fun hge => ?_⟩
    · have := of_decide_eq_true hlt; simp only [strLen] at this ⊢; omega
    · have := of_decide_eq_true hlt; simp only [strLen] at this
      have hbad' : badB (s.getD k 0) = true := hbad
      simp only [nameM, any_getD (by omega) hbad']; simp
    · have := of_decide_eq_true hlt; simp only [strLen] at this
      first
      | (exfalso; omega)
      | (rw [wrapK (by omega)]
         exact ih (k + 1) (by omega) (by omega) fun j hj => if e : j = k then by rw [e]; exact hok else hb j (by omega))
    · have := of_decide_eq_false hge; simp only [strLen] at this
      have hany := hend (by omega)
      refine ⟨fun h1 => ⟨?_, rfl⟩, fun h1 => ⟨fun h2 => ⟨?_, rfl⟩, fun h2 => ⟨fun h3 => ⟨?_, rfl⟩, fun h3 => ⟨fun h4 => ⟨?_, rfl⟩, fun h4 => ⟨fun h5 => ⟨?_, rfl⟩, fun h5 => ⟨?_, rfl⟩⟩⟩⟩⟩⟩ <;>
        simp [nameM, h0, hany, words5, *]
theorem name_spec (s : Str) : Does Tryz.prog 45 [.s s] [] (.x (.b (nameM s))) [] := by
  refine Does.go (cfg := cfg0) cfg0_ok Tryz.func45 (by kernel_rfl) (by kernel_rfl) (t := (.need ((s == [] || decide (strLen s > (12 : Int))) = false → (0 : Int) ≤ (0 : Int) ∧ (0 : Int) < strLen s) (.need ((s == [] || decide (strLen s > (12 : Int)) || decide ((↑(UInt8.toNat (List.getD s 0 (0 : UInt8))) : Int) < (97 : Int))) = false → (0 : Int) ≤ (0 : Int) ∧ (0 : Int) < strLen s) (.ite (s == [] || decide (strLen s > (12 : Int)) || decide ((↑(UInt8.toNat (List.getD s 0 (0 : UInt8))) : Int) < (97 : Int)) || decide ((↑(UInt8.toNat (List.getD s 0 (0 : UInt8))) : Int) > (122 : Int))) (.ret (.p (.bool false)) []) (.stop [.code [1, 1, 0, 1, 0, 0], .inLoop [1, 1, 0, 1, 0, 0], .inBlock 0, .code [1, 1, 1]] { n := 56, fr := [(0, .p (.str s)), (2, .p (.bool false)), (23, .i (strLen s)), (24, .i (0 : Int))], ck := [], kn := [2] }))))) (by kernel_rfl) fun Γ => ?_
  have hpos : (s == [] || decide (strLen s > 12)) = false → 0 ≤ (0 : Int) ∧ 0 < strLen s := by
    intro h
    cases s with
    | nil => simp at h
    | cons c r => simp [strLen]
  refine ⟨hpos, fun h => hpos ?_, fun h => ⟨?_, rfl⟩, fun h => ?_⟩
  · simp only [Bool.or_eq_false_iff] at h ⊢; exact h.1
  · have h' : name0 s = true := h
    simp [nameM, h']
  · exact name_loop s _ h s.length 0 (by omega) (by omega) (fun j hj => by omega)
def eName : Nat × (List SX → List Chunk → Option (Option Prop × SV × List Chunk)) := (45, fun
  | [.c (.pd (.str s))], [] => some (none, .x (.c (.pd (.bool (nameM s)))), [])
  | _, _ => none)
theorem eName_ok (vs : List SX) (ck : List Chunk) (p : Option Prop) (ret : SV) (ck' : List Chunk) (h : eName.2 vs ck = some (p, ret, ck')) (hp : Holds p) : Does Tryz.prog eName.1 vs ck ret ck' := by
  unfold eName at h
  simp only at h
  split at h
  · rename_i s
    simp only [Option.some.injEq, Prod.mk.injEq] at h
    obtain ⟨rfl, rfl, rfl⟩ := h
    exact name_spec s
  · simp at h
def refBad (k : Int) (c : UInt8) : Bool :=
  !(decide ((c.toNat : Int) ≥ 97) && decide ((c.toNat : Int) ≤ 122)) && (k == 0 || !(decide ((c.toNat : Int) ≥ 48) && decide ((c.toNat : Int) ≤ 57) || (c.toNat : Int) == 95))
def refShort (s : List UInt8) : Bool := decide (strLen s < 1) || decide (strLen s > 12) || s == [116, 114, 117, 101] || s == [102, 97, 108, 115, 101] || s == [105, 110] || s == [114, 101] || s == [105, 109]
theorem refBad_badB {k : Nat} {c : UInt8} (hk : k ≠ 0) (h : refBad k c = true) : badB c = true := by
  have hk' : ((k : Int) == 0) = false := by simp; omega
  simp only [refBad, hk', Bool.false_or, Bool.and_eq_true, Bool.not_eq_true', Bool.and_eq_false_iff, Bool.or_eq_false_iff, decide_eq_false_iff_not, badB, Bool.or_eq_true, decide_eq_true_eq, bne_iff_ne, beq_eq_false_iff_ne] at *
  omega
theorem not_refBad {k : Nat} {c : UInt8} (h : refBad k c = false) : badB c = false := by
  cases hb : badB c
  · rfl
  · exfalso
    have h' : refBad k c = true := by
      cases hk : ((k : Int) == 0) <;>
      simp only [refBad, hk, Bool.false_or, Bool.true_or, Bool.and_true, Bool.and_eq_true, Bool.not_eq_true', Bool.and_eq_false_iff, Bool.or_eq_false_iff, decide_eq_false_iff_not, badB, Bool.or_eq_true, decide_eq_true_eq, bne_iff_ne, beq_eq_false_iff_ne] at * <;> omega
    rw [h] at h'; cases h'
theorem ref_short {s : List UInt8} (h : refShort s = true) : nameM s = false := by
  simp only [refShort, Bool.or_eq_true, decide_eq_true_eq, beq_iff_eq] at h
  cases hn : nameM s
  · rfl
  · exfalso
    simp only [nameM, name0, words5, Bool.and_eq_true, Bool.not_eq_true', Bool.or_eq_false_iff, decide_eq_false_iff_not, beq_eq_false_iff_ne] at hn
    have hl : s = [] ∨ 1 ≤ strLen s := by cases s <;> simp [strLen]; omega
    rcases h with (((((h | h) | h) | h) | h) | h) | h
    · rcases hl with hl | hl
      · exact hn.1.1.1.1.1 hl
      · omega
    · exact hn.1.1.1.1.2 h
    all_goals first | exact hn.2.1.1.1.1 h | exact hn.2.1.1.1.2 h | exact hn.2.1.1.2 h | exact hn.2.1.2 h | exact hn.2.2 h


theorem ref_name_loop (s : Str) (Γ : Ctx) (h0 : refShort s = false) : ∀ (n k : Nat), s.length - k ≤ n → k ≤ s.length → (∀ j, j < k → refBad j (s.getD j 0) = false) →
    J Tryz.prog 70 (bodyOf Tryz.f70) Γ (Eq2 (.x (.b (nameM s))) []) [.code [1, 1, 0, 1, 0, 0], .inLoop [1, 1, 0, 1, 0, 0], .inBlock 0, .code [1, 1, 1]] ({ n := 76, fr := [(0, .p (.str s)), (2, .p (.bool false)), (3, .i (k))], ck := [], kn := [2] }) := by
  have hlen : s.length ≤ 12 ∧ 1 ≤ s.length := by
    simp only [refShort, Bool.or_eq_false_iff, decide_eq_false_iff_not, strLen] at h0
    have h1 := of_decide_eq_false h0.1.1.1.1.1.1
    have h2 := of_decide_eq_false h0.1.1.1.1.1.2
    omega
  intro n
  induction n with
  | zero => ?_
  | succ n ih => ?_
  all_goals
    intro k hn hk hb
    refine J.go (cfg := cfg0) cfg0_ok Tryz.func70 1000 (t := (.ite (decide ((↑k : Int) < strLen s)) (.need ((0 : Int) ≤ (↑k : Int) ∧ (↑k : Int) < strLen s) (.need (decide ((↑(UInt8.toNat (List.getD s k (0 : UInt8))) : Int) ≥ (97 : Int)) = true → (0 : Int) ≤ (↑k : Int) ∧ (↑k : Int) < strLen s) (.need ((0 : Int) ≤ (↑k : Int) ∧ (↑k : Int) < strLen s) (.need (decide ((↑(UInt8.toNat (List.getD s k (0 : UInt8))) : Int) ≥ (48 : Int)) = true → (0 : Int) ≤ (↑k : Int) ∧ (↑k : Int) < strLen s) (.need ((decide ((↑(UInt8.toNat (List.getD s k (0 : UInt8))) : Int) ≥ (48 : Int)) && decide ((↑(UInt8.toNat (List.getD s k (0 : UInt8))) : Int) ≤ (57 : Int))) = false → (0 : Int) ≤ (↑k : Int) ∧ (↑k : Int) < strLen s) (.ite (!(decide ((↑(UInt8.toNat (List.getD s k (0 : UInt8))) : Int) ≥ (97 : Int)) && decide ((↑(UInt8.toNat (List.getD s k (0 : UInt8))) : Int) ≤ (122 : Int))) && ((↑k : Int) == (0 : Int) || !(decide ((↑(UInt8.toNat (List.getD s k (0 : UInt8))) : Int) ≥ (48 : Int)) && decide ((↑(UInt8.toNat (List.getD s k (0 : UInt8))) : Int) ≤ (57 : Int)) || (↑(UInt8.toNat (List.getD s k (0 : UInt8))) : Int) == (95 : Int)))) (.ret (.p (.bool false)) []) (.stop [.code [1, 1, 0, 1, 0, 0], .inLoop [1, 1, 0, 1, 0, 0], .inBlock 0, .code [1, 1, 1]] { n := 76, fr := [(0, .p (.str s)), (2, .p (.bool false)), (3, .i (IntKind.wrap .i64 ((↑k : Int) + (1 : Int))))], ck := [], kn := [2] }))))))) (.ret (.p (.bool true)) []))) (by kernel_rfl) ?_
    have inb : decide ((k : Int) < strLen s) = true → 0 ≤ (k : Int) ∧ (k : Int) < strLen s := fun h => ⟨by omega, of_decide_eq_true h⟩
    refine ⟨fun hlt => ⟨inb hlt, fun _ => inb hlt, inb hlt, fun _ => inb hlt, fun _ => inb hlt, fun hbad => ⟨?_, rfl⟩, fun hok => ?_⟩, fun hge => ⟨?_, rfl⟩⟩
    · have hbad' : refBad k (s.getD k 0) = true := hbad
      have hlt' := of_decide_eq_true hlt
      simp only [strLen] at hlt'
      have e : nameM s = false := by
        by_cases hz : k = 0
        · subst hz
          have : name0 s = true := by
            simp only [refBad, Bool.and_eq_true, Bool.not_eq_true', Bool.and_eq_false_iff, decide_eq_false_iff_not] at hbad'
            simp only [name0, Bool.or_eq_true, decide_eq_true_eq]
            omega
          simp [nameM, this]
        · simp [nameM, any_getD (by omega) (refBad_badB hz hbad')]
      rw [e]
    · have hok' : refBad k (s.getD k 0) = false := hok
      have hlt' := of_decide_eq_true hlt
      simp only [strLen] at hlt'
      first
      | (exfalso; omega)
      | (rw [wrapK (by omega)]
         exact ih (k + 1) (by omega) (by omega) fun j hj => if e : j = k then by rw [e]; exact hok' else hb j (by omega))
    · have hge' := of_decide_eq_false hge
      simp only [strLen] at hge'
      have hany : s.any badB = false := not_any_getD fun j hj => not_refBad (hb j (by omega))
      have h00 := hb 0 (by omega)
      simp only [refBad, Int.ofNat_eq_natCast, Bool.and_eq_false_iff, Bool.not_eq_false', Bool.and_eq_true, decide_eq_true_eq] at h00
      simp only [refShort, Bool.or_eq_false_iff, decide_eq_false_iff_not] at h0
      have hne : (s == []) = false := by cases s with | nil => simp at hlen | cons => rfl
      have hn0 : name0 s = false := by
        simp only [name0, hne, Bool.false_or, Bool.or_eq_false_iff, decide_eq_false_iff_not]
        rcases h00 with h | h
        · refine ⟨⟨by omega, by omega⟩, by omega⟩
        · simp at h
      have hw5 : words5 s = false := by simp [words5, h0]
      simp [nameM, hany, hn0, hw5]
theorem ref_name_spec (s : Str) : Does Tryz.prog 70 [.s s] [] (.x (.b (nameM s))) [] := by
  refine Does.go (cfg := cfg0) cfg0_ok Tryz.func70 (by kernel_rfl) (by kernel_rfl) (t := (.ite (decide (strLen s < (1 : Int)) || decide (strLen s > (12 : Int)) || s == [(116 : UInt8), 114, 117, 101] || s == [(102 : UInt8), 97, 108, 115, 101] || s == [(105 : UInt8), 110] || s == [(114 : UInt8), 101] || s == [(105 : UInt8), 109]) (.ret (.p (.bool false)) []) (.stop [.code [1, 1, 0, 1, 0, 0], .inLoop [1, 1, 0, 1, 0, 0], .inBlock 0, .code [1, 1, 1]] { n := 76, fr := [(0, .p (.str s)), (2, .p (.bool false)), (3, .i (0 : Int))], ck := [], kn := [2] }))) (by kernel_rfl) fun Γ => ?_
  refine ⟨fun h => ⟨?_, rfl⟩, fun h => ?_⟩
  · rw [ref_short h]
  · exact ref_name_loop s Γ h s.length 0 (by omega) (by omega) (fun j hj => by omega)
def eRnm : Nat × (List SX → List Chunk → Option (Option Prop × SV × List Chunk)) := (70, fun
  | [.c (.pd (.str s))], [] => some (none, .x (.c (.pd (.bool (nameM s)))), [])
  | _, _ => none)
theorem eRnm_ok (vs : List SX) (ck : List Chunk) (p : Option Prop) (ret : SV) (ck' : List Chunk) (h : eRnm.2 vs ck = some (p, ret, ck')) (hp : Holds p) : Does Tryz.prog eRnm.1 vs ck ret ck' := by
  unfold eRnm at h
  simp only at h
  split at h
  · rename_i s
    simp only [Option.some.injEq, Prod.mk.injEq] at h
    obtain ⟨rfl, rfl, rfl⟩ := h
    exact ref_name_spec s
  · simp at h
theorem hasPrefix_spec (a b : Str) : Does Tryz.prog 110 [.s a, .s b] [] (.x (.b (decide (strLen a ≥ strLen b) && a.take (strLen b).toNat == b))) [] := by
  refine Does.go (cfg := cfg0) cfg0_ok Tryz.func110 (by kernel_rfl) (by kernel_rfl) (t := (.need (decide (strLen a ≥ strLen b) = true → (0 : Int) ≤ strLen b ∧ strLen b ≤ (↑(List.length a) : Int)) (.ret (.p (.bool (decide (strLen a ≥ strLen b) && Prod.snd (cutL a none (some (strLen b))) == b))) []))) (by kernel_rfl) fun Γ => ?_
  refine ⟨fun h => ?_, rfl, rfl⟩
  have := of_decide_eq_true h
  have h1 : strLen b = (b.length : Int) := rfl
  have h2 : strLen a = (a.length : Int) := rfl
  omega
def eHp : Nat × (List SX → List Chunk → Option (Option Prop × SV × List Chunk)) := (110, fun
  | [.c (.pd (.str a)), .c (.pd (.str b))], [] => some (none, .x (.c (.pd (.bool (decide (strLen a ≥ strLen b) && a.take (strLen b).toNat == b)))), [])
  | _, _ => none)
theorem eHp_ok (vs : List SX) (ck : List Chunk) (p : Option Prop) (ret : SV) (ck' : List Chunk) (h : eHp.2 vs ck = some (p, ret, ck')) (hp : Holds p) : Does Tryz.prog eHp.1 vs ck ret ck' := by
  unfold eHp at h
  simp only at h
  split at h
  · rename_i a b
    simp only [Option.some.injEq, Prod.mk.injEq] at h
    obtain ⟨rfl, rfl, rfl⟩ := h
    exact hasPrefix_spec a b
  · simp at h
def cfgHp : Cfg := ⟨tys0, [eHp]⟩
theorem cfgHp_ok : TabOk Tryz.prog cfgHp.tab := (TabOk.cons eHp_ok TabOk.nil)
def hasP (a b : Str) : Bool := decide (strLen a ≥ strLen b) && a.take (strLen b).toNat == b
def cutP (a b : Str) : Str := bif hasP a b then a.drop (strLen b).toNat else a
def eventM (s : Str) : Bool := nameM (cutP s [100, 111, 110, 101, 46])
theorem cutPrefix1_spec (a b : Str) : Does Tryz.prog 76 [.s a, .s b] [] (.tup [.s (cutP a b), .b (hasP a b)]) [] := by
  refine Does.go (cfg := cfgHp) cfgHp_ok Tryz.func76 (by kernel_rfl) (by kernel_rfl) (t := (.ite (!(decide (strLen a ≥ strLen b) && List.take (Int.toNat (strLen b)) a == b)) (.ret (.tup [.p (.str a), .p (.bool false)]) []) (.need ((0 : Int) ≤ strLen b ∧ strLen b ≤ (↑(List.length a) : Int)) (.ret (.tup [.p (.str (Prod.snd (cutL a (some (strLen b)) none))), .p (.bool true)]) [])))) (by kernel_rfl) fun Γ => ?_
  refine ⟨fun h => ⟨?_, rfl⟩, fun h => ⟨?_, ?_, rfl⟩⟩
  · have h' : hasP a b = false := by have h2 : (!hasP a b) = true := h
                                     simpa using h2
    simp [cutP, h']
  · have h' : hasP a b = true := by have h2 : (!hasP a b) = false := h
                                    simpa using h2
    simp only [hasP, Bool.and_eq_true, decide_eq_true_eq] at h'
    have h1 : strLen b = (b.length : Int) := rfl
    have h2 : strLen a = (a.length : Int) := rfl
    omega
  · have h' : hasP a b = true := by have h2 : (!hasP a b) = false := h
                                    simpa using h2
    simp [cutP, h', cutL]
def eCut1 : Nat × (List SX → List Chunk → Option (Option Prop × SV × List Chunk)) := (76, fun
  | [.c (.pd (.str a)), .c (.pd (.str b))], [] => some (none, .tup [.c (.pd (.str (cutP a b))), .c (.pd (.bool (hasP a b)))], [])
  | _, _ => none)
theorem eCut1_ok (vs : List SX) (ck : List Chunk) (p : Option Prop) (ret : SV) (ck' : List Chunk) (h : eCut1.2 vs ck = some (p, ret, ck')) (hp : Holds p) : Does Tryz.prog eCut1.1 vs ck ret ck' := by
  unfold eCut1 at h
  simp only at h
  split at h
  · rename_i a b
    simp only [Option.some.injEq, Prod.mk.injEq] at h
    obtain ⟨rfl, rfl, rfl⟩ := h
    exact cutPrefix1_spec a b
  · simp at h
def cfgCut1 : Cfg := ⟨tys0, [eCut1]⟩
theorem cfgCut1_ok : TabOk Tryz.prog cfgCut1.tab := (TabOk.cons eCut1_ok TabOk.nil)
theorem cutPrefix_spec (a b : Str) : Does Tryz.prog 41 [.s a, .s b] [] (.tup [.s (cutP a b), .b (hasP a b)]) [] := by
  refine Does.go (cfg := cfgCut1) cfgCut1_ok Tryz.func41 (by kernel_rfl) (by kernel_rfl) (t := (.ret (.tup [.p (.str (cutP a b)), .p (.bool (hasP a b))]) [])) (by kernel_rfl) fun Γ => ?_
  exact ⟨rfl, rfl⟩
def eCut : Nat × (List SX → List Chunk → Option (Option Prop × SV × List Chunk)) := (41, fun
  | [.c (.pd (.str a)), .c (.pd (.str b))], [] => some (none, .tup [.c (.pd (.str (cutP a b))), .c (.pd (.bool (hasP a b)))], [])
  | _, _ => none)
theorem eCut_ok (vs : List SX) (ck : List Chunk) (p : Option Prop) (ret : SV) (ck' : List Chunk) (h : eCut.2 vs ck = some (p, ret, ck')) (hp : Holds p) : Does Tryz.prog eCut.1 vs ck ret ck' := by
  unfold eCut at h
  simp only at h
  split at h
  · rename_i a b
    simp only [Option.some.injEq, Prod.mk.injEq] at h
    obtain ⟨rfl, rfl, rfl⟩ := h
    exact cutPrefix_spec a b
  · simp at h
end Go.Proofs.YtjndellhebidoaaGreatDoor

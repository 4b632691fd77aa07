/- Numbers read by the document. Conditions: texts of at most 2^48 bytes. -/
import Derived.Test.YtjndellhebidoaaGreatDoorMa
namespace Go.Proofs.YtjndellhebidoaaGreatDoor
open Go Go.Ev
set_option maxRecDepth 100000
/-! ### plain -/
/-- What the document's loop has: it stops growing past the greatest. -/
def capV : Nat → List UInt8 → Nat
  | a, [] => a
  | a, c :: r => capV (if a ≤ 1099511627776 then 10 * a + (c.toNat - 48) else a) r
theorem capV_val : ∀ (l : List UInt8) (a : Nat), (valD a l ≤ 1099511627776 → capV a l = valD a l) ∧ (1099511627776 < valD a l → 1099511627776 < capV a l)
  | [], a => ⟨fun _ => rfl, fun h => h⟩
  | c :: r, a => by
    have ih := capV_val r (10 * a + (c.toNat - 48))
    have e1 : capV a (c :: r) = capV (if a ≤ 1099511627776 then 10 * a + (c.toNat - 48) else a) r := rfl
    have e2 : valD a (c :: r) = valD (10 * a + (c.toNat - 48)) r := rfl
    rw [e1, e2]
    by_cases h : a ≤ 1099511627776
    · rw [if_pos h]; exact ih
    · rw [if_neg h]
      have hge := valD_ge r (10 * a + (c.toNat - 48))
      refine ⟨fun h2 => by omega, fun _ => ?_⟩
      have : ∀ (l : List UInt8) (b : Nat), 1099511627776 < b → capV b l = b := by
        intro l
        induction l with
        | nil => intro b _; rfl
        | cons d l ih =>
          intro b hb
          have : capV b (d :: l) = capV (if b ≤ 1099511627776 then 10 * b + (d.toNat - 48) else b) l := rfl
          rw [this, if_neg (by omega)]; exact ih b hb
      rw [this r a (by omega)]; omega
def finM (a m : Nat) (l : List UInt8) : Int × Int := if l.all isD = true then (if 1099511627776 < capV m l then (0, 5) else (if a = 1 then -(capV m l : Int) else (capV m l : Int), 0)) else (0, 1)
theorem fin_cons (a m : Nat) (c : UInt8) (l : List UInt8) (h : isD c = true) : finM a m (c :: l) = finM a (if m ≤ 1099511627776 then 10 * m + (c.toNat - 48) else m) l := by
  have e : (c :: l).all isD = l.all isD := by rw [List.all_cons, h, Bool.true_and]
  unfold finM; rw [e]; rfl
theorem fin_bad (a m : Nat) (c : UInt8) (l : List UInt8) (h : isD c = false) : finM a m (c :: l) = (0, 1) := by
  simp only [finM, List.all_cons, h, Bool.false_and]; rfl
theorem notD (c : UInt8) : (decide ((c.toNat : Int) < 48) || decide ((c.toNat : Int) > 57)) = !isD c := by
  simp only [isD, Bool.not_and, ← decide_not, Int.not_le]
/-- What the document's reading gives, from what comes behind the minus. -/
theorem fin_num {s : Str} (h : (cutP s [45] == [] || (((cutP s [45]).getD 0 0).toNat : Int) == 48 && (decide (strLen (cutP s [45]) > 1) || hasP s [45])) = false) : finM (if hasP s [45] = true then 1 else 0) 0 (cutP s [45]) = numM s := by
  have hc := capV_val (cutP s [45]) 0
  have e : formBad s = !(cutP s [45]).all isD := by
    simp only [Bool.or_eq_false_iff] at h
    rw [formBad, h.1, h.2, Bool.false_or, Bool.or_false]
  rw [numM, e, finM]
  generalize cutP s [45] = t at *
  cases ha : t.all isD
  · rfl
  · rw [if_pos rfl]
    show _ = if 1099511627776 < valD 0 t then _ else _
    by_cases hv : 1099511627776 < valD 0 t
    · rw [if_pos hv, if_pos (hc.2 hv)]
    · rw [if_neg hv, hc.1 (by omega), if_neg hv]
      cases hasP s [45]
      · rfl
      · rfl
theorem num_bad {s : Str} (h : (cutP s [45] == [] || (((cutP s [45]).getD 0 0).toNat : Int) == 48 && (decide (strLen (cutP s [45]) > 1) || hasP s [45])) = true) : numM s = (0, 1) := by
  have e : formBad s = true := by
    simp only [Bool.or_eq_true] at h
    rw [formBad]
    rcases h with h | h
    · rw [h]; rfl
    · rw [h, Bool.or_true]
  rw [numM, if_pos e]
/-! ### the walk -/

theorem rn_loop (s : Str) (Γ : Ctx) (a : Nat) (h9 : s.length ≤ 281474976710656) : ∀ (n k m : Nat), s.length - k ≤ n → k ≤ s.length → m ≤ 1000000000000000 →
    J Tryz.prog 138 (bodyOf Tryz.f138) Γ (Eq2 (intP (finM a m (s.drop k))) []) [.code [1, 1, 1, 1, 1, 0, 1, 0, 0], .inLoop [1, 1, 1, 1, 1, 0, 1, 0, 0], .inBlock 0, .code [1, 1, 1, 1, 1, 1]] ({ n := 64, fr := [(0, .p (.str s)), (2, .i (0 : Int)), (3, .i (0 : Int)), (4, .i ((a : Int))), (5, .i ((m : Int))), (6, .i ((k : Int)))], ck := [] }) := by
  intro n
  induction n with
  | zero => ?_
  | succ n ih => ?_
  all_goals
    intro k m hn hk hm
    refine J.go (cfg := cfg0) cfg0_ok Tryz.func138 1000 (t := (.ite (decide ((↑k : Int) < strLen s)) (.need ((0 : Int) ≤ (↑k : Int) ∧ (↑k : Int) < strLen s) (.need (decide ((↑(UInt8.toNat (List.getD s k (0 : UInt8))) : Int) < (48 : Int)) = false → (0 : Int) ≤ (↑k : Int) ∧ (↑k : Int) < strLen s) (.ite (decide ((↑(UInt8.toNat (List.getD s k (0 : UInt8))) : Int) < (48 : Int)) || decide ((↑(UInt8.toNat (List.getD s k (0 : UInt8))) : Int) > (57 : Int))) (.ret (.tup [.i (0 : Int), .i (1 : Int)]) []) (.ite (decide ((↑m : Int) ≤ (1099511627776 : Int))) (.need ((0 : Int) ≤ (↑k : Int) ∧ (↑k : Int) < strLen s) (.stop [.code [1, 1, 1, 1, 1, 0, 1, 0, 0], .inLoop [1, 1, 1, 1, 1, 0, 1, 0, 0], .inBlock 0, .code [1, 1, 1, 1, 1, 1]] { n := 64, fr := [(0, .p (.str s)), (2, .i (0 : Int)), (3, .i (0 : Int)), (4, .i (↑a : Int)), (5, .i (IntKind.wrap .i64 (IntKind.wrap .i64 ((10 : Int) * (↑m : Int)) + IntKind.wrap .i64 (IntKind.wrap .u8 ((↑(UInt8.toNat (List.getD s k (0 : UInt8))) : Int) - (48 : Int)))))), (6, .i (IntKind.wrap .i64 ((↑k : Int) + (1 : Int))))], ck := [] })) (.stop [.code [1, 1, 1, 1, 1, 0, 1, 0, 0], .inLoop [1, 1, 1, 1, 1, 0, 1, 0, 0], .inBlock 0, .code [1, 1, 1, 1, 1, 1]] { n := 64, fr := [(0, .p (.str s)), (2, .i (0 : Int)), (3, .i (0 : Int)), (4, .i (↑a : Int)), (5, .i (↑m : Int)), (6, .i (IntKind.wrap .i64 ((↑k : Int) + (1 : Int))))], ck := [] }))))) (.ite (decide ((↑m : Int) > (1099511627776 : Int))) (.ret (.tup [.i (0 : Int), .i (5 : Int)]) []) (.ite ((↑a : Int) == (1 : Int)) (.ret (.tup [.i (IntKind.wrap .i64 ((0 : Int) - (↑m : Int))), .i (0 : Int)]) []) (.ret (.tup [.i (↑m : Int), .i (0 : Int)]) []))))) (by kernel_rfl) ?_
    have hL : strLen s = (s.length : Int) := rfl
    refine ⟨fun hlt => ?_, fun hge => ?_⟩
    · have hk' : k < s.length := by have := of_decide_eq_true hlt; omega
      have hg : s.getD k 0 = s[k] := by rw [List.getD_eq_getElem?_getD, List.getElem?_eq_getElem hk']; rfl
      rw [hg, notD, List.drop_eq_getElem_cons hk']
      refine ⟨by omega, fun _ => by omega, fun hb => ?_, fun hb => ?_⟩
      · have hb' : isD s[k] = false := by simpa using hb
        rw [fin_bad a m _ _ hb']; exact ⟨rfl, rfl⟩
      · have hb' : isD s[k] = true := by simpa using hb
        have hd : 48 ≤ s[k].toNat ∧ s[k].toNat ≤ 57 := by
          have := hb'
          simp only [isD, Bool.and_eq_true, decide_eq_true_eq] at this
          omega
        rw [fin_cons a m _ _ hb', wrapK (by omega)]
        refine ⟨fun h => ⟨by omega, ?_⟩, fun h => ?_⟩
        · have h' : m ≤ 1099511627776 := by have := of_decide_eq_true h; omega
          rw [if_pos h']
          have ew : IntKind.i64.wrap (IntKind.i64.wrap (10 * (m : Int)) + IntKind.i64.wrap (IntKind.u8.wrap ((s[k].toNat : Int) - 48))) = ((10 * m + (s[k].toNat - 48) : Nat) : Int) := by
            have e1 : IntKind.u8.wrap ((s[k].toNat : Int) - 48) = ((s[k].toNat - 48 : Nat) : Int) := by
              have : ((s[k].toNat : Int) - 48) = ((s[k].toNat - 48 : Nat) : Int) := by omega
              rw [this]; show (((s[k].toNat - 48 : Nat) : Int)) % 256 = _; omega
            rw [e1, wrapI (n := 10 * (m : Int)) (by omega) (by omega), wrapI (n := ((s[k].toNat - 48 : Nat) : Int)) (by omega) (by omega), wrapI (by omega) (by omega)]
            omega
          rw [ew]
          first
          | (exfalso; omega)
          | exact ih (k + 1) _ (by omega) (by omega) (by omega)
        · have h' : ¬ m ≤ 1099511627776 := by have := of_decide_eq_false h; omega
          rw [if_neg h']
          first
          | (exfalso; omega)
          | exact ih (k + 1) _ (by omega) (by omega) hm
    · have hke : k = s.length := by have := of_decide_eq_false hge; omega
      subst hke
      rw [List.drop_length]
      have ec : finM a m [] = if 1099511627776 < m then (0, 5) else (if a = 1 then -(m : Int) else (m : Int), 0) := rfl
      rw [ec]
      refine ⟨fun h => ?_, fun h => ⟨fun h2 => ?_, fun h2 => ?_⟩⟩
      · rw [if_pos (by have := of_decide_eq_true h; omega)]; exact ⟨rfl, rfl⟩
      · have e1 : a = 1 := by have := eq_of_beq h2; omega
        rw [if_neg (by have := of_decide_eq_false h; omega), if_pos e1, wrapI (by omega) (by omega)]
        exact ⟨by rw [Int.zero_sub]; rfl, rfl⟩
      · have e1 : ¬ a = 1 := by have := ne_of_beq_false h2; omega
        rw [if_neg (by have := of_decide_eq_false h; omega), if_neg e1]
        exact ⟨rfl, rfl⟩
theorem ref_number_spec (s : Str) (hs : s.length ≤ 281474976710656) : Does Tryz.prog 138 [.s s] [] (intP (numM s)) [] := by
  refine Does.go (cfg := cfg0) cfg0_ok Tryz.func138 (by kernel_rfl) (by kernel_rfl) (t := (.need (decide (strLen s > (0 : Int)) = true → (0 : Int) ≤ (0 : Int) ∧ (0 : Int) < strLen s) (.ite (decide (strLen s > (0 : Int)) && (↑(UInt8.toNat (List.getD s 0 (0 : UInt8))) : Int) == (45 : Int)) (.need (((1 : Int) == strLen s) = false → (0 : Int) ≤ (1 : Int) ∧ (1 : Int) < strLen s) (.ite ((1 : Int) == strLen s || (↑(UInt8.toNat (List.getD s 1 (0 : UInt8))) : Int) == (48 : Int) && decide (strLen s > (1 : Int))) (.ret (.tup [.i (0 : Int), .i (1 : Int)]) []) (.stop [.code [1, 1, 1, 1, 1, 0, 1, 0, 0], .inLoop [1, 1, 1, 1, 1, 0, 1, 0, 0], .inBlock 0, .code [1, 1, 1, 1, 1, 1]] { n := 64, fr := [(0, .p (.str s)), (2, .i (0 : Int)), (3, .i (0 : Int)), (4, .i (1 : Int)), (5, .i (0 : Int)), (6, .i (1 : Int))], ck := [] }))) (.need (((0 : Int) == strLen s) = false → (0 : Int) ≤ (0 : Int) ∧ (0 : Int) < strLen s) (.ite ((0 : Int) == strLen s || (↑(UInt8.toNat (List.getD s 0 (0 : UInt8))) : Int) == (48 : Int) && decide (strLen s > (1 : Int))) (.ret (.tup [.i (0 : Int), .i (1 : Int)]) []) (.stop [.code [1, 1, 1, 1, 1, 0, 1, 0, 0], .inLoop [1, 1, 1, 1, 1, 0, 1, 0, 0], .inBlock 0, .code [1, 1, 1, 1, 1, 1]] { n := 64, fr := [(0, .p (.str s)), (2, .i (0 : Int)), (3, .i (0 : Int)), (4, .i (0 : Int)), (5, .i (0 : Int)), (6, .i (0 : Int))], ck := [] })))))) (by kernel_rfl) fun Γ => ?_
  have hL : strLen s = (s.length : Int) := rfl
  cases s with
  | nil =>
    refine ⟨fun h => by simp [strLen] at h, fun h => by simp [strLen] at h, fun _ => ⟨fun h => by simp [strLen] at h, fun _ => ⟨congrArg intP (a₁ := (0, 1)) ?_, rfl⟩, fun h => by simp [strLen] at h⟩⟩
    exact (num_bad (by rw [cut_nil.1]; rfl)).symm
  | cons c r =>
    have hl : (c :: r).length = r.length + 1 := rfl
    have hd0 : decide (strLen (c :: r) > 0) = true := decide_eq_true (by omega)
    have g0 : (c :: r).getD 0 0 = c := rfl
    have g1 : (c :: r).getD 1 0 = r.getD 0 0 := rfl
    have hLr : strLen r = (r.length : Int) := rfl
    rw [hd0, Bool.true_and, g0, g1]
    refine ⟨fun _ => by omega, fun hb => ⟨fun h => by have := ne_of_beq_false h; omega, fun h => ⟨congrArg intP (a₁ := (0, 1)) ?_, rfl⟩, fun h => ?_⟩, fun hb => ⟨fun h => by omega, fun h => ⟨congrArg intP (a₁ := (0, 1)) ?_, rfl⟩, fun h => ?_⟩⟩
    · have hc : c = 45 := UInt8.toNat_inj.1 (by have := eq_of_beq hb; show c.toNat = 45; omega)
      subst hc
      refine (num_bad ?_).symm
      rw [(cut_minus r).1, (cut_minus r).2, Bool.or_true, Bool.and_true]
      simp only [Bool.or_eq_true, Bool.and_eq_true] at h ⊢
      rcases h with h | h
      · have := eq_of_beq h
        have : r = [] := List.length_eq_zero_iff.1 (by omega)
        exact .inl (by rw [this]; rfl)
      · exact .inr h.1
    · have hc : c = 45 := UInt8.toNat_inj.1 (by have := eq_of_beq hb; show c.toNat = 45; omega)
      subst hc
      have e := fin_num (s := 45 :: r) (by
        rw [(cut_minus r).1, (cut_minus r).2, Bool.or_true, Bool.and_true]
        simp only [Bool.or_eq_false_iff] at h ⊢
        have h1 := ne_of_beq_false h.1
        have hr : 0 < r.length := by omega
        refine ⟨by cases r <;> simp at hr ⊢, ?_⟩
        have h2 := h.2
        rw [decide_eq_true (by omega), Bool.and_true] at h2
        exact h2)
      rw [(cut_minus r).1, (cut_minus r).2, if_pos rfl] at e
      rw [← e]
      exact rn_loop (45 :: r) Γ 1 hs (45 :: r).length 1 0 (by omega) (by omega) (by omega)
    · have hc : c ≠ 45 := fun e => by subst e; simp at hb
      refine (num_bad ?_).symm
      rw [(cut_other r hc).1, (cut_other r hc).2, Bool.or_false]
      simp only [Bool.or_eq_true] at h ⊢
      rcases h with h | h
      · have := eq_of_beq h; omega
      · exact .inr h
    · have hc : c ≠ 45 := fun e => by subst e; simp at hb
      have e := fin_num (s := c :: r) (by
        rw [(cut_other r hc).1, (cut_other r hc).2, Bool.or_false]
        simp only [Bool.or_eq_false_iff] at h ⊢
        exact ⟨by simp, h.2⟩)
      rw [(cut_other r hc).1, (cut_other r hc).2, if_neg (by simp)] at e
      rw [← e]
      exact rn_loop (c :: r) Γ 0 hs (c :: r).length 0 0 (by omega) (by omega) (by omega)
def eNb : Nat × (List SX → List Chunk → Option (Option Prop × SV × List Chunk)) := (161, fun
  | [.c (.pd (.str s))], [] => some (some (s.length ≤ 281474976710656), .tup [.c (.pd (.int .i64 (numM s).1)), .c (.pd (.int .i64 (numM s).2))], [])
  | _, _ => none)
theorem eNb_ok (vs : List SX) (ck : List Chunk) (p : Option Prop) (ret : SV) (ck' : List Chunk) (h : eNb.2 vs ck = some (p, ret, ck')) (hp : Holds p) : Does Tryz.prog eNb.1 vs ck ret ck' := by
  unfold eNb at h
  simp only at h
  split at h
  · rename_i s
    simp only [Option.some.injEq, Prod.mk.injEq] at h
    obtain ⟨rfl, rfl, rfl⟩ := h
    exact number_spec s hp
  · simp at h
def eRnb : Nat × (List SX → List Chunk → Option (Option Prop × SV × List Chunk)) := (138, fun
  | [.c (.pd (.str s))], [] => some (some (s.length ≤ 281474976710656), .tup [.c (.pd (.int .i64 (numM s).1)), .c (.pd (.int .i64 (numM s).2))], [])
  | _, _ => none)
theorem eRnb_ok (vs : List SX) (ck : List Chunk) (p : Option Prop) (ret : SV) (ck' : List Chunk) (h : eRnb.2 vs ck = some (p, ret, ck')) (hp : Holds p) : Does Tryz.prog eRnb.1 vs ck ret ck' := by
  unfold eRnb at h
  simp only at h
  split at h
  · rename_i s
    simp only [Option.some.injEq, Prod.mk.injEq] at h
    obtain ⟨rfl, rfl, rfl⟩ := h
    exact ref_number_spec s hp
  · simp at h
end Go.Proofs.YtjndellhebidoaaGreatDoor

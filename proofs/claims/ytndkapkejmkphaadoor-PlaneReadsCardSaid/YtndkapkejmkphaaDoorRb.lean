/- Contracts: strconv.FormatInt, ParseInt; plain: numbers' texts. Conditions: int64; texts that are not too long; the library's variables. -/
import Derived.Test.YtndkapkejmkphaaDoorDa
import Derived.Test.YtndkapkejmkphaaDoorShelf
import Derived.Test.YtndkapkejmkphaaDoorShelfb
import Derived.Lib.AppendIntMem
import Derived.Lib.AtoiErrMem
import Derived.Lib.ItoaMem
namespace Go.Proofs.YtndkapkejmkphaaDoor
open Go Go.Ev Go.RowKit
set_option maxRecDepth 100000
theorem fr_below {w w' : World} (h : Below w.heap.size w w') : Fr (fun _ => False) w w' := ⟨h.os, h.tape, h.output, h.size, fun k hk _ => h.block k hk⟩
theorem formatInt_spec (n : Int) (h0 : -9223372036854775808 ≤ n) (h1 : n ≤ 9223372036854775807) : Does Tryd.prog 29 [.i n, .i 10] [] (.x (.s (Lib.itoa n))) [] := by
  intro w V vs hw hT hv
  cases hv with
  | cons a1 hv => cases hv with
    | cons a2 hv =>
      cases hv
      have a1' : PR V.H (.int .i64 n) _ := a1
      have a2' : PR V.H (.int .i64 10) _ := a2
      cases a1'
      cases a2'
      have ht : Lib.TabIs Tryd.prog w "internal/strconv.uint64pow10" .u64 Lib.pow10Tab := (hT.1 (by kernel_rfl)).world hw.imm
      refine (Tryd.strconv_FormatInt_10 n h0 h1 w ht).mono fun e w' ⟨he, k, os, hw'⟩ => ?_
      subst he; subst hw'
      exact ⟨_, V, rfl, .str (Lib.itoa n), hw.kept (fr_below (Lib.below_grow w.heap.size w (Nat.le_refl _) k os))⟩
def eFi : Nat × (List SX → List Chunk → Option (Option Prop × SV × List Chunk)) := (29, fun
  | [.c (.pd (.int .i64 n)), .c (.pd (.int .i64 10))], [] => some (some (-9223372036854775808 ≤ n ∧ n ≤ 9223372036854775807), .x (.c (.pd (.str (Lib.itoa n)))), [])
  | _, _ => none)
theorem eFi_ok (vs : List SX) (ck : List Chunk) (p : Option Prop) (ret : SV) (ck' : List Chunk) (h : eFi.2 vs ck = some (p, ret, ck')) (hp : Holds p) : Does Tryd.prog eFi.1 vs ck ret ck' := by
  unfold eFi at h
  simp only at h
  split at h
  · rename_i n
    simp only [Option.some.injEq, Prod.mk.injEq] at h
    obtain ⟨rfl, rfl, rfl⟩ := h
    exact formatInt_spec n hp.1 hp.2
  · simp at h
def hasP (a b : Str) : Bool := decide (strLen a ≥ strLen b) && a.take (strLen b).toNat == b
def cutP (a b : Str) : Str := bif hasP a b then a.drop (strLen b).toNat else a
theorem hasP_split {s p : Str} (h : hasP s p = true) : ∃ r, s = p ++ r := by
  simp only [hasP, Bool.and_eq_true, beq_iff_eq, decide_eq_true_eq] at h
  refine ⟨s.drop (strLen p).toNat, ?_⟩
  have := List.take_append_drop (strLen p).toNat s
  rw [h.2] at this; exact this.symm
def parsedM (s : Str) : Int := match Lib.parseIntB 64 s with
  | .ok v => v
  | .syntax => 0
  | .range => Lib.intSat 64 s
def parsedOk (s : Str) : Bool := match Lib.parseIntB 64 s with
  | .ok _ => true
  | _ => false
theorem parse_args {V : Vn} {s : Str} {vs : List Value} (hv : All2 (SX.R V) [SX.s s, SX.i 10, SX.i 64] vs) : vs = [.string (bs s), .int .i64 10, .int .i64 64] := by
  cases hv with
  | cons a1 hv => cases hv with
    | cons a2 hv => cases hv with
      | cons a3 hv =>
        cases hv
        have a1' : PR V.H (.str s) _ := a1
        have a2' : PR V.H (.int .i64 10) _ := a2
        have a3' : PR V.H (.int .i64 64) _ := a3
        cases a1'; cases a2'; cases a3'
        rfl
theorem parse_ok (s : Str) (hs : s.length ≤ 281474976710656) (h : parsedOk s = true) : Does Tryd.prog 9 [.s s, .i 10, .i 64] [] (.tup [.i (parsedM s), .c (.pd (.v .nilIface))]) [] := by
  intro w V vs hw hT hv
  rw [parse_args hv]
  have hsz : (bs s).size = s.length := bs_size s
  unfold parsedOk at h
  split at h
  · rename_i v hp
    refine (Tryd.strconv_ParseInt_10_at64_ok (bs s) (by omega) v (by rw [bs_toList]; exact hp) w).mono fun e w' ⟨he, hw'⟩ => ?_
    subst he
    have hb : Below w.heap.size w w' := by
      rcases hw' with rfl | ⟨t, rfl⟩
      · exact Below.refl _ _
      · exact Lib.bytesWorld_below w _ t
    have ev : parsedM s = v := by simp [parsedM, hp]
    exact ⟨_, V, rfl, ⟨_, rfl, .cons (by rw [ev]; exact PR.int _ _) (.cons (PR.v _ rfl) .nil)⟩, hw.kept (fr_below hb)⟩
  · cases h
theorem parse_bad (s : Str) (hs : s.length ≤ 281474976710656) (h : parsedOk s = false) : Does Tryd.prog 9 [.s s, .i 10, .i 64] [] (.tup [.i (parsedM s), .c (.pd .err)]) [] := by
  intro w V vs hw hT hv
  rw [parse_args hv]
  have hsz : (bs s).size = s.length := bs_size s
  unfold parsedOk at h
  split at h
  · cases h
  · rename_i hn
    rcases hp : Lib.parseIntB 64 s with v | - | -
    · exact absurd hp (hn v)
    · obtain ⟨tp, p, hm⟩ := (hT.2.1) (by kernel_rfl)
      refine (Tryd.strconv_ParseInt_10_at64_syntax_var (bs s) (by omega) (by rw [bs_toList]; exact hp) tp p w (hm.world hw.imm)).mono fun e w' ⟨N, he, _, _, hb⟩ => ?_
      subst he
      have ev : parsedM s = 0 := by simp [parsedM, hp]
      exact ⟨_, V, rfl, ⟨_, rfl, .cons (by rw [ev]; exact PR.int _ _) (.cons (PR.err _ _) .nil)⟩, hw.kept (fr_below hb)⟩
    · obtain ⟨tp, p, hm⟩ := (hT.2.2.1) (by kernel_rfl)
      refine (Tryd.strconv_ParseInt_10_at64_range_var (bs s) (by omega) (by rw [bs_toList]; exact hp) tp p w (hm.world hw.imm)).mono fun e w' ⟨N, he, _, _, hb⟩ => ?_
      subst he
      have ev : parsedM s = Lib.intSat 64 s := by simp [parsedM, hp]
      exact ⟨_, V, rfl, ⟨_, rfl, .cons (by rw [ev]; have := PR.int (H := V.H) .i64 (Lib.intSat 64 s); rw [bs_toList]; exact this) (.cons (PR.err _ _) .nil)⟩, hw.kept (fr_below hb)⟩
def eParse1 : Nat × (List SX → List Chunk → Option (Option Prop × SV × List Chunk)) := (9, fun
  | [.c (.pd (.str s)), .c (.pd (.int .i64 10)), .c (.pd (.int .i64 64))], [] => some (some (s.length ≤ 281474976710656 ∧ parsedOk s = true), .tup [.c (.pd (.int .i64 (parsedM s))), .c (.pd (.v .nilIface))], [])
  | _, _ => none)
theorem eParse1_ok (vs : List SX) (ck : List Chunk) (p : Option Prop) (ret : SV) (ck' : List Chunk) (h : eParse1.2 vs ck = some (p, ret, ck')) (hp : Holds p) : Does Tryd.prog eParse1.1 vs ck ret ck' := by
  unfold eParse1 at h
  simp only at h
  split at h
  · rename_i s
    simp only [Option.some.injEq, Prod.mk.injEq] at h
    obtain ⟨rfl, rfl, rfl⟩ := h
    exact parse_ok s hp.1 hp.2
  · simp at h
def eParse0 : Nat × (List SX → List Chunk → Option (Option Prop × SV × List Chunk)) := (9, fun
  | [.c (.pd (.str s)), .c (.pd (.int .i64 10)), .c (.pd (.int .i64 64))], [] => some (some (s.length ≤ 281474976710656 ∧ parsedOk s = false), .tup [.c (.pd (.int .i64 (parsedM s))), .c (.pd .err)], [])
  | _, _ => none)
theorem eParse0_ok (vs : List SX) (ck : List Chunk) (p : Option Prop) (ret : SV) (ck' : List Chunk) (h : eParse0.2 vs ck = some (p, ret, ck')) (hp : Holds p) : Does Tryd.prog eParse0.1 vs ck ret ck' := by
  unfold eParse0 at h
  simp only at h
  split at h
  · rename_i s
    simp only [Option.some.injEq, Prod.mk.injEq] at h
    obtain ⟨rfl, rfl, rfl⟩ := h
    exact parse_bad s hp.1 hp.2
  · simp at h
/-! ### plain -/
def isD (c : UInt8) : Bool := decide (48 ≤ (c.toNat : Int)) && decide ((c.toNat : Int) ≤ 57)
def valD : Nat → List UInt8 → Nat
  | a, [] => a
  | a, c :: r => valD (10 * a + (c.toNat - 48)) r
def formBad (s : Str) : Bool := cutP s [45] == [] || !(cutP s [45]).all isD || (((cutP s [45]).getD 0 0).toNat : Int) == 48 && (decide (strLen (cutP s [45]) > 1) || hasP s [45])
def numM (s : Str) : Int × Int := if formBad s = true then (0, 1) else if 1099511627776 < valD 0 (cutP s [45]) then (0, 5) else (if hasP s [45] = true then -(valD 0 (cutP s [45]) : Int) else (valD 0 (cutP s [45]) : Int), 0)
theorem valD_ge : ∀ (l : List UInt8) (a : Nat), a ≤ valD a l
  | [], a => Nat.le_refl _
  | c :: r, a => by
    have h1 := valD_ge r (10 * a + (c.toNat - 48))
    have h2 : a ≤ 10 * a + (c.toNat - 48) := by omega
    exact Nat.le_trans h2 h1
theorem parseM (M : Nat) (hM : M = 18446744073709551615) : ∀ (l : List UInt8) (a : Nat), l.all isD = true → a ≤ M → Lib.parseUintM M a l = if valD a l ≤ M then .ok (valD a l) else .range
  | [], a, _, h => by
    have e : valD a [] = a := rfl
    rw [e, if_pos h]; rfl
  | c :: r, a, h, ha => by
    simp only [List.all_cons, Bool.and_eq_true] at h
    have hd : 48 ≤ c.toNat ∧ c.toNat ≤ 57 := by
      have := h.1
      simp only [isD, Bool.and_eq_true, decide_eq_true_eq] at this
      omega
    have hge := valD_ge r (10 * a + (c.toNat - 48))
    have hc : a * 10 + (c.toNat - 48) = 10 * a + (c.toNat - 48) := by omega
    have hv : valD a (c :: r) = valD (10 * a + (c.toNat - 48)) r := rfl
    have hu : Lib.parseUintM M a (c :: r) = if 48 ≤ c.toNat ∧ c.toNat ≤ 57 then (if 1844674407370955162 ≤ a then .range else if M < a * 10 + (c.toNat - 48) then .range else Lib.parseUintM M (a * 10 + (c.toNat - 48)) r) else .syntax := rfl
    rw [hu, if_pos hd, hv, hc]
    generalize 10 * a + (c.toNat - 48) = b at *
    by_cases h1 : 1844674407370955162 ≤ a
    · rw [if_pos h1, if_neg (by omega)]
    · rw [if_neg h1]
      by_cases h2 : M < b
      · rw [if_pos h2, if_neg (by omega)]
      · rw [if_neg h2]
        exact parseM M hM r b h.2 (by omega)
theorem cut_minus (r : Str) : cutP (45 :: r) [45] = r ∧ hasP (45 :: r) [45] = true := by
  have h : hasP (45 :: r) [45] = true := by simp [hasP, strLen]; omega
  exact ⟨by rw [cutP, h]; rfl, h⟩
theorem cut_other {c : UInt8} (r : Str) (h : c ≠ 45) : cutP (c :: r) [45] = c :: r ∧ hasP (c :: r) [45] = false := by
  have h' : hasP (c :: r) [45] = false := by simp [hasP, strLen, h]
  exact ⟨by rw [cutP, h']; rfl, h'⟩
theorem cut_nil : cutP [] [45] = [] ∧ hasP [] [45] = false := by decide
theorem parsed_of {s : Str} (h : formBad s = false) : (parsedOk s = true → parsedM s = if hasP s [45] = true then -(valD 0 (cutP s [45]) : Int) else (valD 0 (cutP s [45]) : Int)) ∧ (parsedOk s = false → 9223372036854775808 ≤ valD 0 (cutP s [45])) := by
  simp only [formBad, Bool.or_eq_false_iff, Bool.not_eq_false'] at h
  obtain ⟨⟨hne, hall⟩, _⟩ := h
  cases s with
  | nil => rw [cut_nil.1] at hne; simp at hne
  | cons c r =>
    by_cases hc : c = 45
    · subst hc
      rw [(cut_minus r).1] at hne hall ⊢
      rw [(cut_minus r).2]
      have hr : r ≠ [] := by simpa using hne
      have hu : Lib.parseUintB 64 r = if valD 0 r ≤ 18446744073709551615 then .ok (valD 0 r) else .range := by
        rw [Lib.parseUintB, if_neg hr]; exact parseM _ rfl r 0 hall (Nat.zero_le _)
      have hp : Lib.parseIntB 64 (45 :: r) = if valD 0 r ≤ 18446744073709551615 then (if 9223372036854775808 < valD 0 r then .range else .ok (-(valD 0 r : Int))) else .range := by
        simp only [Lib.parseIntB]
        have e1 : ((45 : UInt8).toNat = 43 ∨ (45 : UInt8).toNat = 45) := .inr rfl
        rw [if_pos e1, hu]
        by_cases hv : valD 0 r ≤ 18446744073709551615
        · rw [if_pos hv, if_pos hv]; simp
        · rw [if_neg hv, if_neg hv]
      unfold parsedOk parsedM
      rw [hp]
      by_cases hv : valD 0 r ≤ 18446744073709551615
      · rw [if_pos hv]
        by_cases h2 : 9223372036854775808 < valD 0 r
        · rw [if_pos h2]; exact ⟨fun h => absurd h (by simp), fun _ => by omega⟩
        · rw [if_neg h2]; exact ⟨fun _ => by simp, fun h => absurd h (by simp)⟩
      · rw [if_neg hv]; exact ⟨fun h => absurd h (by simp), fun _ => by omega⟩
    · rw [(cut_other r hc).1] at hne hall ⊢
      rw [(cut_other r hc).2]
      have hdig : 48 ≤ c.toNat := by
        have := hall
        simp only [List.all_cons, Bool.and_eq_true, isD, decide_eq_true_eq] at this; omega
      have hu : Lib.parseUintB 64 (c :: r) = if valD 0 (c :: r) ≤ 18446744073709551615 then .ok (valD 0 (c :: r)) else .range := by
        rw [Lib.parseUintB, if_neg (by simp)]; exact parseM _ rfl (c :: r) 0 hall (Nat.zero_le _)
      have hp : Lib.parseIntB 64 (c :: r) = if valD 0 (c :: r) ≤ 18446744073709551615 then (if 9223372036854775808 ≤ valD 0 (c :: r) then .range else .ok (valD 0 (c :: r) : Int)) else .range := by
        simp only [Lib.parseIntB]
        have e1 : ¬ (c.toNat = 43 ∨ c.toNat = 45) := by omega
        have e2 : ¬ c.toNat = 45 := by omega
        rw [if_neg e1, hu]
        by_cases hv : valD 0 (c :: r) ≤ 18446744073709551615
        · rw [if_pos hv, if_pos hv]; simp [e2]
        · rw [if_neg hv, if_neg hv]
      unfold parsedOk parsedM
      rw [hp]
      by_cases hv : valD 0 (c :: r) ≤ 18446744073709551615
      · rw [if_pos hv]
        by_cases h2 : 9223372036854775808 ≤ valD 0 (c :: r)
        · rw [if_pos h2]; exact ⟨fun h => absurd h (by simp), fun _ => by omega⟩
        · rw [if_neg h2]; exact ⟨fun _ => by simp, fun h => absurd h (by simp)⟩
      · rw [if_neg hv]; exact ⟨fun h => absurd h (by simp), fun _ => by omega⟩
theorem valD_append : ∀ (l : List UInt8) (a : Nat) (c : UInt8), valD a (l ++ [c]) = 10 * valD a l + (c.toNat - 48)
  | [], a, c => rfl
  | d :: r, a, c => valD_append r (10 * a + (d.toNat - 48)) c
theorem digit_nat {r : Nat} (h : r < 10) : (UInt8.ofNat (48 + r)).toNat = 48 + r := by
  simp only [UInt8.toNat_ofNat']; omega
theorem dec_all (u : Nat) : (Lib.decDigits u).all isD = true ∧ Lib.decDigits u ≠ [] ∧ valD 0 (Lib.decDigits u) = u ∧ (1 ≤ u → ((Lib.decDigits u).getD 0 0).toNat ≠ 48) ∧ (u < 10 → (Lib.decDigits u).length = 1) := by
  induction u using Nat.strongRecOn with
  | _ u ih =>
    by_cases h : u < 10
    · have e : Lib.decDigits u = [UInt8.ofNat (48 + u)] := Lib.decDigits_one h
      have ed := digit_nat h
      rw [e]
      refine ⟨?_, by simp, ?_, fun h1 => ?_, fun _ => rfl⟩
      · simp only [List.all_cons, List.all_nil, Bool.and_true, isD, ed, Bool.and_eq_true, decide_eq_true_eq]; omega
      · show 10 * 0 + ((UInt8.ofNat (48 + u)).toNat - 48) = u
        rw [ed]; omega
      · show (UInt8.ofNat (48 + u)).toNat ≠ 48
        rw [ed]; omega
    · have e : Lib.decDigits u = Lib.decDigits (u / 10) ++ [UInt8.ofNat (48 + u % 10)] := by rw [Lib.decDigits, dif_neg h]
      have hm : u % 10 < 10 := Nat.mod_lt _ (by omega)
      have ed := digit_nat hm
      obtain ⟨i1, i2, i3, i4, _⟩ := ih (u / 10) (by omega)
      rw [e]
      refine ⟨?_, by simp, ?_, fun _ => ?_, fun h2 => absurd h2 h⟩
      · rw [List.all_append, i1]
        simp only [List.all_cons, List.all_nil, Bool.and_true, Bool.true_and, isD, ed, Bool.and_eq_true, decide_eq_true_eq]; omega
      · rw [valD_append, i3, ed]; omega
      · have := i4 (by omega)
        cases hd : Lib.decDigits (u / 10) with
        | nil => exact absurd hd i2
        | cons c r => rw [hd] at this; exact this
theorem num_itoa (n : Int) : numM (Lib.itoa n) = if n < -1099511627776 ∨ 1099511627776 < n then (0, 5) else (n, 0) := by
  by_cases hn : n < 0
  · have e : Lib.itoa n = 45 :: Lib.decDigits n.natAbs := by unfold Lib.itoa; rw [if_pos hn]
    obtain ⟨i1, i2, i3, i4, _⟩ := dec_all n.natAbs
    rw [e, numM, formBad, (cut_minus _).1, (cut_minus _).2, i1, i3]
    have h4 := i4 (by omega)
    have hb : (Lib.decDigits n.natAbs == [] || !true || (((Lib.decDigits n.natAbs).getD 0 0).toNat : Int) == 48 && (decide (strLen (Lib.decDigits n.natAbs) > 1) || true)) = false := by
      have h5 : ((((Lib.decDigits n.natAbs).getD 0 0).toNat : Int) == 48) = false := by rw [beq_eq_false_iff_ne]; omega
      rw [h5]; simp [i2]
    rw [hb, if_neg (by simp)]
    by_cases hr : n < -1099511627776
    · rw [if_pos (by omega), if_pos (.inl hr)]
    · rw [if_neg (by omega), if_pos rfl, if_neg (by omega)]
      congr 1; omega
  · have e : Lib.itoa n = Lib.decDigits n.toNat := by unfold Lib.itoa; rw [if_neg hn]
    obtain ⟨i1, i2, i3, i4, i5⟩ := dec_all n.toNat
    cases hd : Lib.decDigits n.toNat with
    | nil => exact absurd hd i2
    | cons c r =>
      have hc : c ≠ 45 := by
        rw [hd] at i1
        simp only [List.all_cons, Bool.and_eq_true, isD, decide_eq_true_eq] at i1
        intro hc; subst hc; simp at i1
      rw [e, hd, numM, formBad, (cut_other r hc).1, (cut_other r hc).2, ← hd, i1, i3]
      have hb : (Lib.decDigits n.toNat == [] || !true || (((Lib.decDigits n.toNat).getD 0 0).toNat : Int) == 48 && (decide (strLen (Lib.decDigits n.toNat) > 1) || false)) = false := by
        by_cases h1 : 1 ≤ n.toNat
        · have h5 : ((((Lib.decDigits n.toNat).getD 0 0).toNat : Int) == 48) = false := by have := i4 h1; rw [beq_eq_false_iff_ne]; omega
          rw [h5]; simp [i2]
        · have h5 : decide (strLen (Lib.decDigits n.toNat) > 1) = false := by
            have := i5 (by omega)
            refine decide_eq_false ?_
            show ¬ ((Lib.decDigits n.toNat).length : Int) > 1
            omega
          rw [h5]; simp [i2]
      rw [hb, if_neg (by simp)]
      by_cases hr : 1099511627776 < n
      · rw [if_pos (by omega), if_pos (.inr hr)]
      · rw [if_neg (by omega), if_neg (by simp), if_neg (by omega)]
        congr 1; omega
theorem dec_le : ∀ (k u : Nat), u < 10 ^ (k + 1) → (Lib.decDigits u).length ≤ k + 1
  | 0, u, h => by
    have : u < 10 := by simpa using h
    rw [Lib.decDigits_one this]; simp
  | k + 1, u, h => by
    by_cases h' : u < 10
    · rw [Lib.decDigits_one h']; simp
    · rw [Lib.decDigits, dif_neg h', List.length_append]
      have := dec_le k (u / 10) (by rw [Nat.pow_succ] at h; omega)
      simp only [List.length_cons, List.length_nil]; omega
end Go.Proofs.YtndkapkejmkphaaDoor

/- Plain: points' texts. Contracts: strings.TrimPrefix, TrimSuffix. Conditions: texts that are not too long. -/
import Derived.Test.YtndkapkejmkphaaDoorRd
import Derived.Test.YtndkapkejmkphaaDoorId
import Derived.Test.YtndkapkejmkphaaDoorShelfh
namespace Go.Proofs.YtndkapkejmkphaaDoor
open Go Go.Ev Go.RowKit
set_option maxRecDepth 100000
theorem two_strs {V : Vn} {a b : Str} {vs : List Value} (hv : All2 (SX.R V) [SX.s a, SX.s b] vs) : vs = [.string (bs a), .string (bs b)] := by
  cases hv with
  | cons a1 hv => cases hv with
    | cons a2 hv =>
      cases hv
      have a1' : PR V.H (.str a) _ := a1
      have a2' : PR V.H (.str b) _ := a2
      cases a1'; cases a2'
      rfl
theorem trimSuffix_spec (s p : Str) (hs : s.length ≤ 9223372036854775807) : Does Tryd.prog 11 [.s s, .s p] [] (.x (.s (Lib.trimSuffix s p))) [] := by
  intro w V vs hw hT hv
  rw [two_strs hv]
  have hsz : (bs s).size = s.length := bs_size s
  refine (Tryd.strings_TrimSuffix (bs s) (bs p) w (by omega)).mono fun e w' ⟨he, hw'⟩ => ?_
  subst he; subst hw'
  refine ⟨_, V, rfl, ?_, hw.kept ⟨rfl, rfl, rfl, Nat.le_refl _, fun _ _ _ => rfl⟩⟩
  rw [bs_toList, bs_toList]
  exact PR.str (Lib.trimSuffix s p)
def eTrimS : Nat × (List SX → List Chunk → Option (Option Prop × SV × List Chunk)) := (11, fun
  | [.c (.pd (.str s)), .c (.pd (.str p))], [] => some (some (s.length ≤ 9223372036854775807), .x (.c (.pd (.str (Lib.trimSuffix s p)))), [])
  | _, _ => none)
theorem eTrimS_ok (vs : List SX) (ck : List Chunk) (p : Option Prop) (ret : SV) (ck' : List Chunk) (h : eTrimS.2 vs ck = some (p, ret, ck')) (hp : Holds p) : Does Tryd.prog eTrimS.1 vs ck ret ck' := by
  unfold eTrimS at h
  simp only at h
  split at h
  · rename_i s p
    simp only [Option.some.injEq, Prod.mk.injEq] at h
    obtain ⟨rfl, rfl, rfl⟩ := h
    exact trimSuffix_spec s p hp
  · simp at h
theorem trimPrefix_spec (s p : Str) : Does Tryd.prog 10 [.s s, .s p] [] (.x (.s (Lib.trimPrefix s p))) [] := by
  intro w V vs hw hT hv
  rw [two_strs hv]
  refine (Tryd.strings_TrimPrefix (bs s) (bs p) w).mono fun e w' ⟨he, hw'⟩ => ?_
  subst he; subst hw'
  refine ⟨_, V, rfl, ?_, hw.kept ⟨rfl, rfl, rfl, Nat.le_refl _, fun _ _ _ => rfl⟩⟩
  rw [bs_toList, bs_toList]
  exact PR.str (Lib.trimPrefix s p)
def eTrimP : Nat × (List SX → List Chunk → Option (Option Prop × SV × List Chunk)) := (10, fun
  | [.c (.pd (.str s)), .c (.pd (.str p))], [] => some (none, .x (.c (.pd (.str (Lib.trimPrefix s p)))), [])
  | _, _ => none)
theorem eTrimP_ok (vs : List SX) (ck : List Chunk) (p : Option Prop) (ret : SV) (ck' : List Chunk) (h : eTrimP.2 vs ck = some (p, ret, ck')) (hp : Holds p) : Does Tryd.prog eTrimP.1 vs ck ret ck' := by
  unfold eTrimP at h
  simp only at h
  split at h
  · rename_i s p
    simp only [Option.some.injEq, Prod.mk.injEq] at h
    obtain ⟨rfl, rfl, rfl⟩ := h
    exact trimPrefix_spec s p
  · simp at h
def showP (a b : Int) : Str := Lib.itoa a ++ (if b < 0 then [] else [43]) ++ Lib.itoa b ++ [105]
def isPt (s : Str) (p : Int × Int) : Prop := pIn p.1 = true ∧ pIn p.2 = true ∧ showP p.1 p.2 = s
open Classical in
noncomputable def readP (s : Str) : Option (Int × Int) := if h : ∃ p, isPt s p then some h.choose else none
def readsP (s : Str) : Prop := ∃ p, isPt s p
noncomputable def ptA (s : Str) : Int := match readP s with | some p => p.1 | none => 0
noncomputable def ptB (s : Str) : Int := match readP s with | some p => p.2 | none => 0
theorem readP_spec {s : Str} (h : readsP s) : isPt s (ptA s, ptB s) := by
  have e : readP s = some h.choose := dif_pos h
  unfold ptA ptB
  rw [e]
  exact h.choose_spec
/-! ### a number is told by the text that is read -/
theorem isD_nat {c : UInt8} (h : isD c = true) : 48 ≤ c.toNat ∧ c.toNat ≤ 57 := by
  simp only [isD, Bool.and_eq_true, decide_eq_true_eq] at h; omega
theorem isD_of {c : UInt8} (h1 : 48 ≤ c.toNat) (h2 : c.toNat ≤ 57) : isD c = true := by
  simp only [isD, Bool.and_eq_true, decide_eq_true_eq]; omega
theorem digit_back {c : UInt8} (h : isD c = true) : UInt8.ofNat (48 + (c.toNat - 48)) = c := by
  have := isD_nat h
  apply UInt8.toNat_inj.1
  rw [show 48 + (c.toNat - 48) = c.toNat by omega]
  simp
theorem dec_back (n : Nat) : ∀ l : List UInt8, l.length = n → l.all isD = true → l ≠ [] → (l.length = 1 ∨ (l.getD 0 0).toNat ≠ 48) → Lib.decDigits (valD 0 l) = l := by
  induction n with
  | zero => intro l h _ hn; exact absurd (List.length_eq_zero_iff.1 h) hn
  | succ n ih =>
    intro l hl hd hn h0
    obtain ⟨r, c, rfl⟩ : ∃ r c, l = r ++ [c] := ⟨l.dropLast, l.getLast hn, (List.dropLast_concat_getLast hn).symm⟩
    rw [List.all_append, Bool.and_eq_true] at hd
    have hc : isD c = true := by simpa using hd.2
    have hcn := isD_nat hc
    rw [valD_append]
    cases r with
    | nil =>
      have h9 : c.toNat - 48 < 10 := by omega
      have e : 10 * valD 0 [] + (c.toNat - 48) = c.toNat - 48 := by show 10 * 0 + (c.toNat - 48) = _; omega
      rw [e, Lib.decDigits_one h9, digit_back hc]; rfl
    | cons x r =>
      have hx : x.toNat ≠ 48 := by
        rcases h0 with h0 | h0
        · simp at h0
        · simpa using h0
      have hxd : isD x = true := by have := hd.1; simp only [List.all_cons, Bool.and_eq_true] at this; exact this.1
      have hge : 1 ≤ valD 0 (x :: r) := by
        have := valD_ge r (10 * 0 + (x.toNat - 48))
        have h2 := isD_nat hxd
        show 1 ≤ valD (10 * 0 + (x.toNat - 48)) r
        omega
      have e := ih (x :: r) (by simp at hl ⊢; omega) hd.1 (by simp) (.inr (by simpa using hx))
      generalize valD 0 (x :: r) = v at hge e ⊢
      rw [Lib.decDigits, dif_neg (by omega), show (10 * v + (c.toNat - 48)) / 10 = v by omega, show (10 * v + (c.toNat - 48)) % 10 = c.toNat - 48 by omega, e, digit_back hc]
theorem isD_notPM {c : UInt8} (h : isD c = true) : isPM c = false := by
  have := isD_nat h
  cases hb : isPM c
  · rfl
  · simp only [isPM, Bool.or_eq_true, beq_iff_eq] at hb
    rcases hb with rfl | rfl <;> simp at this
/-! ### a point's text in parts -/
theorem parsed_itoa {n : Int} (h : -1099511627776 ≤ n) (h' : n ≤ 1099511627776) : parsedOk (Lib.itoa n) = true ∧ parsedM (Lib.itoa n) = n := by
  have hn := num_itoa n
  rw [if_neg (by omega)] at hn
  have hf : formBad (Lib.itoa n) = false := by
    cases hb : formBad (Lib.itoa n)
    · rfl
    · rw [numM, if_pos hb] at hn; simp at hn
  rw [numM, if_neg (by rw [hf]; simp)] at hn
  split at hn
  · simp at hn
  · rename_i hv
    obtain ⟨g1, g2⟩ := parsed_of hf
    have hok : parsedOk (Lib.itoa n) = true := by
      cases hb : parsedOk (Lib.itoa n)
      · have := g2 hb; omega
      · rfl
    refine ⟨hok, ?_⟩
    rw [g1 hok]
    simpa using hn
theorem pIn_num {a : Int} (h : pIn a = true) : -1048576 ≤ a ∧ a ≤ 1048576 := by
  simp only [pIn, Bool.and_eq_true, decide_eq_true_eq] at h; exact h
theorem itoa_small {a : Int} (h : pIn a = true) : (Lib.itoa a).length ≤ 8 ∧ 0 < (Lib.itoa a).length := by
  have := pIn_num h
  unfold Lib.itoa
  split
  · have h1 := dec_le 6 a.natAbs (by omega)
    simp only [List.length_cons]; omega
  · have h1 := dec_le 6 a.toNat (by omega)
    have h2 := (dec_all a.toNat).2.1
    exact ⟨by omega, List.length_pos_iff.2 h2⟩
theorem showP_tail (a b : Int) : ∃ c d, isPM c = true ∧ d.all isD = true ∧ showP a b = Lib.itoa a ++ c :: (d ++ [105]) ∧ d = Lib.decDigits b.natAbs ∧ (b < 0 → c = 45 ∧ Lib.itoa b = 45 :: d) ∧ (¬ b < 0 → c = 43 ∧ Lib.itoa b = d) := by
  by_cases hb : b < 0
  · refine ⟨45, Lib.decDigits b.natAbs, by decide, (dec_all _).1, ?_, rfl, fun _ => ⟨rfl, by unfold Lib.itoa; rw [if_pos hb]⟩, fun h => absurd hb h⟩
    show Lib.itoa a ++ (if b < 0 then [] else [43]) ++ Lib.itoa b ++ [105] = _
    rw [if_pos hb, show Lib.itoa b = 45 :: Lib.decDigits b.natAbs by unfold Lib.itoa; rw [if_pos hb]]; simp
  · have e : b.natAbs = b.toNat := by omega
    refine ⟨43, Lib.decDigits b.natAbs, by decide, (dec_all _).1, ?_, rfl, fun h => absurd h hb, fun _ => ⟨rfl, by unfold Lib.itoa; rw [if_neg hb, e]⟩⟩
    show Lib.itoa a ++ (if b < 0 then [] else [43]) ++ Lib.itoa b ++ [105] = _
    rw [if_neg hb, show Lib.itoa b = Lib.decDigits b.natAbs by unfold Lib.itoa; rw [if_neg hb, e]]; simp
theorem showP_facts {s : Str} {a b : Int} (h : isPt s (a, b)) : lastAny s = ((Lib.itoa a).length : Int) ∧ s.length ≤ 20 ∧ 0 < (Lib.itoa a).length ∧ s.take (Lib.itoa a).length = Lib.itoa a ∧ Lib.trimPrefix (Lib.trimSuffix (s.drop (Lib.itoa a).length) [105]) [43] = Lib.itoa b := by
  obtain ⟨ha, hb, hs⟩ := h
  have ha : pIn a = true := ha
  have hb : pIn b = true := hb
  obtain ⟨c, d, hc, hd, e, ed, h1, h2⟩ := showP_tail a b
  have hs' : s = Lib.itoa a ++ c :: (d ++ [105]) := by rw [← e]; exact hs.symm
  have hla := itoa_small ha
  have hlb := itoa_small hb
  subst hs'
  have hdl : d.length ≤ 8 := by
    by_cases hn : b < 0
    · have := congrArg List.length (h1 hn).2; simp at this; omega
    · have := congrArg List.length (h2 hn).2; omega
  have hsuf : Lib.trimSuffix (c :: (d ++ [105])) [105] = c :: d := by
    have hh : Lib.hasSuffix (c :: (d ++ [105])) [105] = true := by
      unfold Lib.hasSuffix; rw [List.isSuffixOf_iff_suffix]; exact ⟨c :: d, by simp⟩
    unfold Lib.trimSuffix
    rw [if_pos hh]
    have : c :: (d ++ [105]) = (c :: d) ++ [105] := by simp
    rw [this, List.take_left' (by simp)]
  refine ⟨lastAny_at hc fun x hx => ?_, by simp; omega, hla.2, List.take_left, ?_⟩
  · rcases List.mem_append.1 hx with hx | hx
    · exact isD_notPM (List.all_eq_true.1 hd x hx)
    · simp only [List.mem_singleton] at hx; subst hx; rfl
  · rw [List.drop_left, hsuf]
    by_cases hn : b < 0
    · obtain ⟨rfl, e2⟩ := h1 hn
      rw [e2]; rfl
    · obtain ⟨rfl, e2⟩ := h2 hn
      rw [e2]; rfl
theorem showP_inj {a b x y : Int} (h1 : pIn a = true) (h2 : pIn b = true) (h3 : pIn x = true) (h4 : pIn y = true) (h : showP a b = showP x y) : a = x ∧ b = y := by
  have f1 := showP_facts (s := showP a b) (a := a) (b := b) ⟨h1, h2, rfl⟩
  have f2 := showP_facts (s := showP a b) (a := x) (b := y) ⟨h3, h4, h.symm⟩
  have hl : (Lib.itoa a).length = (Lib.itoa x).length := by have := f1.1.symm.trans f2.1; omega
  have e1 : Lib.itoa a = Lib.itoa x := by rw [← f1.2.2.2.1, ← f2.2.2.2.1, hl]
  have e2 : Lib.itoa b = Lib.itoa y := by rw [← f1.2.2.2.2, ← f2.2.2.2.2, hl]
  have p1 := pIn_num h1; have p2 := pIn_num h2; have p3 := pIn_num h3; have p4 := pIn_num h4
  have g1 := (parsed_itoa (n := a) (by omega) (by omega)).2
  have g2 := (parsed_itoa (n := x) (by omega) (by omega)).2
  have g3 := (parsed_itoa (n := b) (by omega) (by omega)).2
  have g4 := (parsed_itoa (n := y) (by omega) (by omega)).2
  rw [e1] at g1; rw [e2] at g3
  exact ⟨g1.symm.trans g2, g3.symm.trans g4⟩
end Go.Proofs.YtndkapkejmkphaaDoor

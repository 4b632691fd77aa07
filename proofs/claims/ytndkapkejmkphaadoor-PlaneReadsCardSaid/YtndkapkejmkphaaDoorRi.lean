/- Contracts: the document's points read. Conditions: texts of at most 2^47 bytes. -/
import Derived.Test.YtndkapkejmkphaaDoorRh
namespace Go.Proofs.YtndkapkejmkphaaDoor
open Go Go.Ev Go.RowKit
set_option maxRecDepth 100000
theorem in_spec (a : Int) : Does Tryd.prog 15 [.i a] [] (.x (.b (pIn a))) [] := by
  refine Does.go (cfg := cfg0) cfg0_ok Tryd.func15 (by kernel_rfl) (by kernel_rfl) (t := (.ret (.p (.bool (decide (a ≥ (-1048576 : Int)) && decide (a ≤ (1048576 : Int))))) [])) (by kernel_rfl) fun Γ => ?_
  exact ⟨rfl, rfl⟩
def eIn : Nat × (List SX → List Chunk → Option (Option Prop × SV × List Chunk)) := (15, fun
  | [.c (.pd (.int .i64 a))], [] => some (none, .x (.c (.pd (.bool (pIn a)))), [])
  | _, _ => none)
theorem eIn_ok (vs : List SX) (ck : List Chunk) (p : Option Prop) (ret : SV) (ck' : List Chunk) (h : eIn.2 vs ck = some (p, ret, ck')) (hp : Holds p) : Does Tryd.prog eIn.1 vs ck ret ck' := by
  unfold eIn at h
  simp only at h
  split at h
  · rename_i a
    simp only [Option.some.injEq, Prod.mk.injEq] at h
    obtain ⟨rfl, rfl, rfl⟩ := h
    exact in_spec a
  · simp at h
def eWhl : Nat × (List SX → List Chunk → Option (Option Prop × SV × List Chunk)) := (14, fun
  | [.c (.pd (.str s))], [] => some (some (s.length ≤ 140737488355328), .tup [.c (.pd (.int .i64 (wholeM s).1)), .c (.pd (.int .i64 (wholeM s).2))], [])
  | _, _ => none)
theorem eWhl_ok (vs : List SX) (ck : List Chunk) (p : Option Prop) (ret : SV) (ck' : List Chunk) (h : eWhl.2 vs ck = some (p, ret, ck')) (hp : Holds p) : Does Tryd.prog eWhl.1 vs ck ret ck' := by
  unfold eWhl at h
  simp only at h
  split at h
  · rename_i s
    simp only [Option.some.injEq, Prod.mk.injEq] at h
    obtain ⟨rfl, rfl, rfl⟩ := h
    exact wholeR_spec s hp
  · simp at h
def cfgRr : Cfg := ⟨tys0, [eIn, eWhl]⟩
theorem cfgRr_ok : TabOk Tryd.prog cfgRr.tab := (TabOk.cons eIn_ok (TabOk.cons eWhl_ok TabOk.nil))
/-! ### plain -/
theorem wholeM_len (s : Str) : 0 ≤ (wholeM s).2 ∧ (wholeM s).2 ≤ s.length := by
  have fin : ∀ (f : Nat) (ng : Bool) (t : Str), f + t.length ≤ s.length → 0 ≤ (wFin s f ng (wGo 0 t)).2 ∧ (wFin s f ng (wGo 0 t)).2 ≤ s.length := fun f ng t h => by
    have hb := (wGo_take t 0).2.2
    unfold wFin
    split
    · exact ⟨Int.le_refl _, by show (0 : Int) ≤ _; omega⟩
    · exact ⟨by show (0 : Int) ≤ ((_ : Nat) : Int); omega, by show ((_ : Nat) : Int) ≤ _; omega⟩
  unfold wholeM
  split
  · rename_i h
    obtain ⟨r, hr⟩ := hasP_split h
    refine fin 1 true _ ?_
    rw [hr, List.length_drop]; simp only [List.length_append, List.length_cons, List.length_nil]; omega
  · exact fin 0 false _ (by omega)
theorem itoa_neg {b : Int} (h : b < 0) : ∃ q, Lib.itoa b = 45 :: q := ⟨Lib.decDigits b.natAbs, by unfold Lib.itoa; rw [if_pos h]⟩
theorem itoa_pos {b : Int} (h : 0 ≤ b) : ∃ c q, Lib.itoa b = c :: q ∧ isD c = true := by
  have e : Lib.itoa b = Lib.decDigits b.toNat := by unfold Lib.itoa; rw [if_neg (by omega)]
  obtain ⟨i1, i2, _⟩ := dec_all b.toNat
  rw [e]
  cases hd : Lib.decDigits b.toNat with
  | nil => exact absurd hd i2
  | cons c q =>
    rw [hd] at i1
    simp only [List.all_cons, Bool.and_eq_true] at i1
    exact ⟨c, q, rfl, i1.1⟩
theorem itoa_some (b : Int) : 0 < (Lib.itoa b).length := by
  rcases Int.lt_or_le b 0 with h | h
  · obtain ⟨q, e⟩ := itoa_neg h; rw [e]; simp
  · obtain ⟨c, q, e, _⟩ := itoa_pos h; rw [e]; simp
theorem showP_split (a b : Int) : showP a b = Lib.itoa a ++ (if b < 0 then Lib.itoa b ++ [105] else 43 :: (Lib.itoa b ++ [105])) := by
  unfold showP
  split
  · simp only [List.append_assoc, List.append_nil, List.nil_append]
  · simp only [List.append_assoc, List.cons_append, List.nil_append]
theorem pt_facts {s : Str} {a b : Int} (h : isPt s (a, b)) : wholeM s = (a, ((Lib.itoa a).length : Int)) ∧ 0 < (Lib.itoa a).length ∧ (Lib.itoa a).length < s.length ∧ s.drop (Lib.itoa a).length = (if b < 0 then Lib.itoa b ++ [105] else 43 :: (Lib.itoa b ++ [105])) := by
  obtain ⟨h1, h2, h3⟩ := h
  have e : Lib.itoa a ++ (if b < 0 then Lib.itoa b ++ [105] else 43 :: (Lib.itoa b ++ [105])) = s := (showP_split a b).symm.trans h3
  refine ⟨?_, itoa_some a, ?_, ?_⟩
  · rw [← e]
    refine whole_itoa h1 fun c q hq => ?_
    split at hq
    · rename_i hb
      obtain ⟨r, hr⟩ := itoa_neg hb
      rw [hr, List.cons_append] at hq
      rw [← (List.cons.inj hq).1]; rfl
    · rw [← (List.cons.inj hq).1]; rfl
  · rw [← e, List.length_append]
    split <;> simp only [List.length_append, List.length_cons, List.length_nil] <;> omega
  · rw [← e, List.drop_left]
theorem i_fwd {b : Int} (hb : pIn b = true) : wholeM (Lib.itoa b ++ [105]) = (b, ((Lib.itoa b).length : Int)) := whole_itoa hb fun c q hq => by
  rw [← (List.cons.inj hq).1]; rfl
theorem i_back {u : Str} (h0 : (wholeM u).2 ≠ 0) (hd : u.drop (wholeM u).2.toNat = [105]) (hp : pIn (wholeM u).1 = true) : u = Lib.itoa (wholeM u).1 ++ [105] := by
  have h := (whole_back h0 hp).2.2
  rw [← h, ← hd, List.take_append_drop]
theorem pt_back {s : Str} {b : Int} (h0 : (wholeM s).2 ≠ 0) (hp : pIn (wholeM s).1 = true) (hb : pIn b = true) (hd : s.drop (wholeM s).2.toNat = (if b < 0 then Lib.itoa b ++ [105] else 43 :: (Lib.itoa b ++ [105]))) : isPt s ((wholeM s).1, b) := by
  refine ⟨hp, hb, ?_⟩
  have h := (whole_back h0 hp).2.2
  rw [showP_split, ← h, ← hd, List.take_append_drop]
theorem pt_only {s : Str} {a b : Int} (h : isPt s (a, b)) : ptA s = a ∧ ptB s = b := by
  obtain ⟨g1, g2, g3⟩ := readP_spec ⟨(a, b), h⟩
  obtain ⟨k1, k2, k3⟩ := h
  have := showP_inj g1 g2 k1 k2 (g3.trans k3.symm)
  exact ⟨this.1, this.2⟩
def RpQ (s : Str) : Out := fun v k => (readsP s → v = .tup [.agg [.pd (.int .i64 (ptA s)), .pd (.int .i64 (ptB s))], .c (.pd (.int .i64 0))]) ∧ (¬ readsP s → v = .tup [.agg [.pd (.int .i64 0), .pd (.int .i64 0)], .c (.pd (.int .i64 1))]) ∧ k = []
theorem RpQ.no {s : Str} (h : ¬ readsP s) : RpQ s (.tup [.agg [.pd (.int .i64 0), .pd (.int .i64 0)], .c (.pd (.int .i64 1))]) [] := ⟨fun h' => absurd h' h, fun _ => rfl, rfl⟩
theorem RpQ.yes {s : Str} {a b : Int} (h : isPt s (a, b)) : RpQ s (.tup [.agg [.pd (.int .i64 a), .pd (.int .i64 b)], .c (.pd (.int .i64 0))]) [] := by
  obtain ⟨t1, t2⟩ := pt_only h
  exact ⟨fun _ => by rw [t1, t2], fun h' => absurd ⟨(a, b), h⟩ h', rfl⟩
/-! ### the walk -/
theorem rpread_q (s : Str) (hs : s.length ≤ 140737488355328) (Γ : Ctx) : J Tryd.prog 5 (bodyOf Tryd.f5) Γ (RpQ s) [.code []] (initST Tryd.f5.ntmps [.s s] []) := by
  refine J.go (cfg := cfgRr) cfgRr_ok Tryd.func5 1000 (t := (.need (List.length s ≤ 140737488355328) (.ite (Prod.snd (wholeM s) == (0 : Int) || Prod.snd (wholeM s) == strLen s) (.ret (.tup [.agg [.i (0 : Int), .i (0 : Int)], .i (1 : Int)]) []) (.need ((0 : Int) ≤ Prod.snd (wholeM s) ∧ Prod.snd (wholeM s) ≤ (↑(List.length s) : Int)) (.need ((0 : Int) ≤ (0 : Int) ∧ (0 : Int) < strLen (Prod.snd (cutL s (some (Prod.snd (wholeM s))) none))) (.ite ((↑(UInt8.toNat (List.getD (Prod.snd (cutL s (some (Prod.snd (wholeM s))) none)) 0 (0 : UInt8))) : Int) == (43 : Int)) (.need ((0 : Int) ≤ (1 : Int) ∧ (1 : Int) ≤ (↑(List.length (Prod.snd (cutL s (some (Prod.snd (wholeM s))) none))) : Int)) (.need (decide (strLen (Prod.snd (cutL (Prod.snd (cutL s (some (Prod.snd (wholeM s))) none)) (some (1 : Int)) none)) > (0 : Int)) = true → (0 : Int) ≤ (0 : Int) ∧ (0 : Int) < strLen (Prod.snd (cutL (Prod.snd (cutL s (some (Prod.snd (wholeM s))) none)) (some (1 : Int)) none))) (.ite (decide (strLen (Prod.snd (cutL (Prod.snd (cutL s (some (Prod.snd (wholeM s))) none)) (some (1 : Int)) none)) > (0 : Int)) && (↑(UInt8.toNat (List.getD (Prod.snd (cutL (Prod.snd (cutL s (some (Prod.snd (wholeM s))) none)) (some (1 : Int)) none)) 0 (0 : UInt8))) : Int) == (45 : Int)) (.ret (.tup [.agg [.i (0 : Int), .i (0 : Int)], .i (1 : Int)]) []) (.need (List.length (Prod.snd (cutL (Prod.snd (cutL s (some (Prod.snd (wholeM s))) none)) (some (1 : Int)) none)) ≤ 140737488355328) (.need ((Prod.snd (wholeM (Prod.snd (cutL (Prod.snd (cutL s (some (Prod.snd (wholeM s))) none)) (some (1 : Int)) none))) == (0 : Int)) = false → (0 : Int) ≤ Prod.snd (wholeM (Prod.snd (cutL (Prod.snd (cutL s (some (Prod.snd (wholeM s))) none)) (some (1 : Int)) none))) ∧ Prod.snd (wholeM (Prod.snd (cutL (Prod.snd (cutL s (some (Prod.snd (wholeM s))) none)) (some (1 : Int)) none))) ≤ (↑(List.length (Prod.snd (cutL (Prod.snd (cutL s (some (Prod.snd (wholeM s))) none)) (some (1 : Int)) none))) : Int)) (.ite (Prod.snd (wholeM (Prod.snd (cutL (Prod.snd (cutL s (some (Prod.snd (wholeM s))) none)) (some (1 : Int)) none))) == (0 : Int) || !Prod.snd (cutL (Prod.snd (cutL (Prod.snd (cutL s (some (Prod.snd (wholeM s))) none)) (some (1 : Int)) none)) (some (Prod.snd (wholeM (Prod.snd (cutL (Prod.snd (cutL s (some (Prod.snd (wholeM s))) none)) (some (1 : Int)) none))))) none) == [(105 : UInt8)] || !pIn (Prod.fst (wholeM s)) || !pIn (Prod.fst (wholeM (Prod.snd (cutL (Prod.snd (cutL s (some (Prod.snd (wholeM s))) none)) (some (1 : Int)) none))))) (.ret (.tup [.agg [.i (0 : Int), .i (0 : Int)], .i (1 : Int)]) []) (.ret (.tup [.agg [.i (Prod.fst (wholeM s)), .i (Prod.fst (wholeM (Prod.snd (cutL (Prod.snd (cutL s (some (Prod.snd (wholeM s))) none)) (some (1 : Int)) none))))], .i (0 : Int)]) []))))))) (.need ((0 : Int) ≤ (0 : Int) ∧ (0 : Int) < strLen (Prod.snd (cutL s (some (Prod.snd (wholeM s))) none))) (.ite ((↑(UInt8.toNat (List.getD (Prod.snd (cutL s (some (Prod.snd (wholeM s))) none)) 0 (0 : UInt8))) : Int) != (45 : Int)) (.ret (.tup [.agg [.i (0 : Int), .i (0 : Int)], .i (1 : Int)]) []) (.need (List.length (Prod.snd (cutL s (some (Prod.snd (wholeM s))) none)) ≤ 140737488355328) (.need ((Prod.snd (wholeM (Prod.snd (cutL s (some (Prod.snd (wholeM s))) none))) == (0 : Int)) = false → (0 : Int) ≤ Prod.snd (wholeM (Prod.snd (cutL s (some (Prod.snd (wholeM s))) none))) ∧ Prod.snd (wholeM (Prod.snd (cutL s (some (Prod.snd (wholeM s))) none))) ≤ (↑(List.length (Prod.snd (cutL s (some (Prod.snd (wholeM s))) none))) : Int)) (.ite (Prod.snd (wholeM (Prod.snd (cutL s (some (Prod.snd (wholeM s))) none))) == (0 : Int) || !Prod.snd (cutL (Prod.snd (cutL s (some (Prod.snd (wholeM s))) none)) (some (Prod.snd (wholeM (Prod.snd (cutL s (some (Prod.snd (wholeM s))) none))))) none) == [(105 : UInt8)] || !pIn (Prod.fst (wholeM s)) || !pIn (Prod.fst (wholeM (Prod.snd (cutL s (some (Prod.snd (wholeM s))) none))))) (.ret (.tup [.agg [.i (0 : Int), .i (0 : Int)], .i (1 : Int)]) []) (.ret (.tup [.agg [.i (Prod.fst (wholeM s)), .i (Prod.fst (wholeM (Prod.snd (cutL s (some (Prod.snd (wholeM s))) none))))], .i (0 : Int)]) [])))))))))))) (by kernel_rfl) ?_
  have hL : strLen s = (s.length : Int) := rfl
  have hw := wholeM_len s
  simp only [cut_from, Int.toNat_one]
  refine ⟨hs, fun h => RpQ.no ?_, fun h => ?_⟩
  · rintro ⟨⟨a, b⟩, hp⟩
    obtain ⟨f1, f2, f3, f4⟩ := pt_facts hp
    rw [f1] at h
    simp only [Bool.or_eq_true, beq_iff_eq] at h
    omega
  simp only [Bool.or_eq_false_iff, beq_eq_false_iff_ne] at h
  obtain ⟨h0, h1⟩ := h
  have hne : (s.drop (wholeM s).2.toNat).length = s.length - (wholeM s).2.toNat := List.length_drop ..
  obtain ⟨c, u, hcu⟩ : ∃ c u, s.drop (wholeM s).2.toNat = c :: u := by
    cases hc : s.drop (wholeM s).2.toNat with
    | nil => rw [hc, List.length_nil] at hne; omega
    | cons c u => exact ⟨c, u, rfl⟩
  rw [hcu] at hne ⊢
  have hlu : u.length + 1 ≤ s.length := by rw [← List.length_cons (a := c), hne]; omega
  have hLt : strLen (c :: u) = (u.length : Int) + 1 := by show (((c :: u).length : Nat) : Int) = _; rw [List.length_cons]; omega
  have hLu : strLen u = (u.length : Int) := rfl
  have e1 : List.drop 1 (c :: u) = u := rfl
  have e2 : (c :: u).getD 0 0 = c := rfl
  rw [e1, e2]
  refine ⟨⟨by omega, by omega⟩, ⟨by omega, by omega⟩, fun h43 => ?_, fun h43 => ?_⟩
  · have hc : c = 43 := UInt8.toNat_inj.1 (by have h9 : ((c.toNat : Nat) : Int) = 43 := eq_of_beq h43; show c.toNat = 43; omega)
    subst hc
    have hwu := wholeM_len u
    refine ⟨⟨by omega, by omega⟩, fun hu => ⟨by omega, of_decide_eq_true hu⟩, fun hu => RpQ.no ?_, fun hu => ⟨by omega, fun _ => hwu, fun hb => RpQ.no ?_, fun hb => ?_⟩⟩
    · rintro ⟨⟨a, b⟩, hp⟩
      obtain ⟨f1, f2, f3, f4⟩ := pt_facts hp
      have en : (wholeM s).2.toNat = (Lib.itoa a).length := by rw [f1]; show (((Lib.itoa a).length : Nat) : Int).toNat = _; omega
      rw [en, f4] at hcu
      split at hcu
      · rename_i hb
        obtain ⟨q, hq⟩ := itoa_neg hb
        rw [hq, List.cons_append] at hcu
        exact absurd (List.cons.inj hcu).1 (by decide)
      · rename_i hb
        obtain ⟨x, q, hq, hx⟩ := itoa_pos (b := b) (by omega)
        have e := (List.cons.inj hcu).2
        rw [← e, hq, List.cons_append] at hu
        rw [Bool.and_eq_true] at hu
        have h9 : ((x.toNat : Nat) : Int) = 45 := eq_of_beq hu.2
        have := isD_nat hx
        omega
    · rintro ⟨⟨a, b⟩, hp⟩
      obtain ⟨f1, f2, f3, f4⟩ := pt_facts hp
      have en : (wholeM s).2.toNat = (Lib.itoa a).length := by rw [f1]; show (((Lib.itoa a).length : Nat) : Int).toNat = _; omega
      rw [en, f4] at hcu
      split at hcu
      · rename_i hb
        obtain ⟨q, hq⟩ := itoa_neg hb
        rw [hq, List.cons_append] at hcu
        exact absurd (List.cons.inj hcu).1 (by decide)
      · have e := (List.cons.inj hcu).2
        have fu := i_fwd hp.2.1
        have h7 := itoa_some b
        rw [e] at fu
        have ea : pIn (wholeM s).1 = true := by rw [f1]; exact hp.1
        have ed : u.drop (Lib.itoa b).length = [105] := by rw [← e, List.drop_left]
        rw [fu, ea] at hb
        have h8 : (((Lib.itoa b).length : Int) == 0) = false := by rw [beq_eq_false_iff_ne]; omega
        have h6 : pIn b = true := hp.2.1
        simp only [Int.toNat_natCast, ed, h8, h6] at hb
        exact absurd hb (by decide)
    · simp only [Bool.or_eq_false_iff, Bool.not_eq_false', beq_eq_false_iff_ne, beq_iff_eq] at hb
      obtain ⟨⟨⟨b1, b2⟩, b3⟩, b4⟩ := hb
      have hub := i_back b1 b2 b4
      refine RpQ.yes (pt_back h0 b3 b4 ?_)
      rw [hcu]
      split
      · rename_i hn
        exfalso
        obtain ⟨q, hq⟩ := itoa_neg hn
        rw [hq, List.cons_append] at hub
        have hlen : 0 < u.length := by rw [hub]; simp
        have : u.getD 0 0 = 45 := by rw [hub]; rfl
        rw [this, decide_eq_true (by omega)] at hu
        exact absurd hu (by decide)
      · exact congrArg _ hub
  · have hc : c ≠ 43 := by rintro rfl; exact absurd h43 (by decide)
    have hwu := wholeM_len (c :: u)
    have hlc : (c :: u).length = u.length + 1 := List.length_cons ..
    refine ⟨⟨by omega, by omega⟩, fun hu => RpQ.no ?_, fun hu => ⟨by omega, fun _ => hwu, fun hb => RpQ.no ?_, fun hb => ?_⟩⟩
    · rintro ⟨⟨a, b⟩, hp⟩
      obtain ⟨f1, f2, f3, f4⟩ := pt_facts hp
      have en : (wholeM s).2.toNat = (Lib.itoa a).length := by rw [f1]; show (((Lib.itoa a).length : Nat) : Int).toNat = _; omega
      rw [en, f4] at hcu
      split at hcu
      · rename_i hb
        obtain ⟨q, hq⟩ := itoa_neg hb
        rw [hq, List.cons_append] at hcu
        rw [← (List.cons.inj hcu).1] at hu
        exact absurd hu (by decide)
      · exact hc (List.cons.inj hcu).1.symm
    · rintro ⟨⟨a, b⟩, hp⟩
      obtain ⟨f1, f2, f3, f4⟩ := pt_facts hp
      have en : (wholeM s).2.toNat = (Lib.itoa a).length := by rw [f1]; show (((Lib.itoa a).length : Nat) : Int).toNat = _; omega
      rw [en, f4] at hcu
      split at hcu
      · have fu := i_fwd hp.2.1
        have h7 := itoa_some b
        rw [hcu] at fu
        have ea : pIn (wholeM s).1 = true := by rw [f1]; exact hp.1
        have ed : (c :: u).drop (Lib.itoa b).length = [105] := by rw [← hcu, List.drop_left]
        rw [fu, ea] at hb
        have h8 : (((Lib.itoa b).length : Int) == 0) = false := by rw [beq_eq_false_iff_ne]; omega
        have h6 : pIn b = true := hp.2.1
        simp only [Int.toNat_natCast, ed, h8, h6] at hb
        exact absurd hb (by decide)
      · exact hc (List.cons.inj hcu).1.symm
    · simp only [Bool.or_eq_false_iff, Bool.not_eq_false', beq_eq_false_iff_ne, beq_iff_eq] at hb
      obtain ⟨⟨⟨b1, b2⟩, b3⟩, b4⟩ := hb
      have hub := i_back b1 b2 b4
      refine RpQ.yes (pt_back h0 b3 b4 ?_)
      rw [hcu]
      split
      · exact hub
      · rename_i hn
        exfalso
        obtain ⟨x, q, hq, hx⟩ := itoa_pos (b := (wholeM (c :: u)).1) (by omega)
        rw [hq, List.cons_append] at hub
        have e := (List.cons.inj hub).1
        have h9 : c = 45 := UInt8.toNat_inj.1 (by have h9 : ((c.toNat : Nat) : Int) = 45 := by simpa using hu
                                                  show c.toNat = 45; omega)
        rw [← e, h9] at hx
        exact absurd hx (by decide)
theorem rpread_ok (s : Str) (hs : s.length ≤ 140737488355328) (h : readsP s) : Does Tryd.prog 5 [.s s] [] (.tup [.agg [.pd (.int .i64 (ptA s)), .pd (.int .i64 (ptB s))], .c (.pd (.int .i64 0))]) [] :=
  Does.of Tryd.func5 (by kernel_rfl) (by kernel_rfl) fun Γ => J.mono (fun v k q => ⟨q.1 h, q.2.2⟩) (rpread_q s hs Γ)
theorem rpread_no (s : Str) (hs : s.length ≤ 140737488355328) (h : ¬ readsP s) : Does Tryd.prog 5 [.s s] [] (.tup [.agg [.pd (.int .i64 0), .pd (.int .i64 0)], .c (.pd (.int .i64 1))]) [] :=
  Does.of Tryd.func5 (by kernel_rfl) (by kernel_rfl) fun Γ => J.mono (fun v k q => ⟨q.2.1 h, q.2.2⟩) (rpread_q s hs Γ)
noncomputable def nRpr1 : Nat × (List SX → List Chunk → Option (Option Prop × SV × List Chunk)) := (5, fun
  | [.c (.pd (.str s))], [] => some (some (s.length ≤ 140737488355328 ∧ readsP s), .tup [.agg [.pd (.int .i64 (ptA s)), .pd (.int .i64 (ptB s))], .c (.pd (.int .i64 0))], [])
  | _, _ => none)
theorem nRpr1_ok (vs : List SX) (ck : List Chunk) (p : Option Prop) (ret : SV) (ck' : List Chunk) (h : nRpr1.2 vs ck = some (p, ret, ck')) (hp : Holds p) : Does Tryd.prog nRpr1.1 vs ck ret ck' := by
  unfold nRpr1 at h
  simp only at h
  split at h
  · rename_i s
    simp only [Option.some.injEq, Prod.mk.injEq] at h
    obtain ⟨rfl, rfl, rfl⟩ := h
    exact rpread_ok s hp.1 hp.2
  · simp at h
noncomputable def nRpr0 : Nat × (List SX → List Chunk → Option (Option Prop × SV × List Chunk)) := (5, fun
  | [.c (.pd (.str s))], [] => some (some (s.length ≤ 140737488355328 ∧ ¬ readsP s), .tup [.agg [.pd (.int .i64 0), .pd (.int .i64 0)], .c (.pd (.int .i64 1))], [])
  | _, _ => none)
theorem nRpr0_ok (vs : List SX) (ck : List Chunk) (p : Option Prop) (ret : SV) (ck' : List Chunk) (h : nRpr0.2 vs ck = some (p, ret, ck')) (hp : Holds p) : Does Tryd.prog nRpr0.1 vs ck ret ck' := by
  unfold nRpr0 at h
  simp only at h
  split at h
  · rename_i s
    simp only [Option.some.injEq, Prod.mk.injEq] at h
    obtain ⟨rfl, rfl, rfl⟩ := h
    exact rpread_no s hp.1 hp.2
  · simp at h
end Go.Proofs.YtndkapkejmkphaaDoor

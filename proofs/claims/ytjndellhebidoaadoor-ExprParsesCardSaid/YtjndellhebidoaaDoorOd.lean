/- What is read is a tree, whose text is no longer. Conditions: none. -/
import Derived.Test.YtjndellhebidoaaDoorOa
namespace Go.Proofs.YtjndellhebidoaaDoor
open Go Go.Ev
set_option maxRecDepth 100000
variable {s : Str}
theorem valD_lt (w : List UInt8) : ∀ a : Nat, w.all isD = true → valD a w < (a + 1) * 10 ^ w.length := by
  induction w with
  | nil =>
    intro a _
    rw [List.length_nil, Nat.pow_zero, Nat.mul_one]
    exact Nat.lt_succ_self a
  | cons c r ih =>
    intro a h
    rw [List.all_cons, Bool.and_eq_true] at h
    have h1 := h.1
    simp only [isD, Bool.and_eq_true, decide_eq_true_eq] at h1
    have h2 := ih (10 * a + (c.toNat - 48)) h.2
    have e : valD a (c :: r) = valD (10 * a + (c.toNat - 48)) r := rfl
    rw [e]
    refine Nat.lt_of_lt_of_le h2 ?_
    rw [List.length_cons, Nat.pow_succ, Nat.mul_comm (10 ^ r.length) 10, ← Nat.mul_assoc]
    exact Nat.mul_le_mul_right _ (by omega)
theorem dec_le : ∀ (k u : Nat), u < 10 ^ (k + 1) → (Lib.decDigits u).length ≤ k + 1
  | 0, u, h => by
    have : u < 10 := by simpa using h
    rw [Lib.decDigits_one this]; simp
  | k + 1, u, h => by
    by_cases h' : u < 10
    · rw [Lib.decDigits_one h']; simp
    · rw [Lib.decDigits, dif_neg h', List.length_append]
      have := dec_le k (u / 10) (by rw [Nat.pow_succ] at h; omega)
      simp only [List.length_cons, List.length_nil]; omega
/-- A number that was read is told no longer. -/
theorem num_short {w : Str} (h1 : w.all isD = true) (h2 : (numM w).2 = 0) : 0 ≤ (numM w).1 ∧ strLen (Lib.itoa (numM w).1) ≤ strLen w := by
  cases w with
  | nil => exact absurd h2 (by decide)
  | cons c r =>
    have hc : c ≠ 45 := by
      intro e; subst e
      simp only [List.all_cons, Bool.and_eq_true] at h1
      exact absurd h1.1 (by decide)
    obtain ⟨e1, e2⟩ := cut_other r hc
    have hn : numM (c :: r) = if formBad (c :: r) = true then (0, 1) else if 1099511627776 < valD 0 (c :: r) then (0, 5) else ((valD 0 (c :: r) : Int), 0) := by
      unfold numM; rw [e1, e2]; rfl
    rw [hn] at h2 ⊢
    split at h2
    · exact absurd h2 (by decide)
    · rename_i hf
      split at h2
      · exact absurd h2 (by decide)
      · rename_i hm
        rw [if_neg hf, if_neg hm]
        have hl := valD_lt (c :: r) 0 h1
        rw [Nat.zero_add, Nat.one_mul, List.length_cons] at hl
        show 0 ≤ ((valD 0 (c :: r) : Nat) : Int) ∧ strLen (Lib.itoa ((valD 0 (c :: r) : Nat) : Int)) ≤ strLen (c :: r)
        rw [itoa_nat (Int.natCast_nonneg _), Int.toNat_natCast]
        refine ⟨Int.natCast_nonneg _, ?_⟩
        have h3 := dec_le r.length _ hl
        simp only [strLen, List.length_cons]; omega
theorem takeWhile_all {p : UInt8 → Bool} : ∀ l : List UInt8, (l.takeWhile p).all p = true
  | [] => rfl
  | c :: r => by
    rw [List.takeWhile_cons]
    split
    · rename_i h; rw [List.all_cons, h, takeWhile_all r]; rfl
    · rfl
theorem numText_facts {k : Int} (h0 : 0 ≤ k) (h1 : k < strLen s) (hd : isD (s.getD k.toNat 0) = true) : (numText s k).all isD = true ∧ strLen (numText s k) = numEnd s k - k := by
  have hb := numEnd_bounds h0 h1 hd
  have hL : strLen s = (s.length : Int) := rfl
  have hlen : strLen (numText s k) = numEnd s k - k := by
    unfold numText
    simp only [strLen, List.length_drop, List.length_take]; omega
  refine ⟨?_, hlen⟩
  by_cases h48 : byteAt s k = 48
  · have e : numEnd s k = k + 1 := by unfold numEnd; rw [if_pos h48]
    have : numText s k = [s.getD k.toNat 0] := by
      unfold numText
      rw [e, List.drop_take, drop_at h0 h1, show (k + 1).toNat - k.toNat = 1 by omega]; rfl
    rw [this]; simp only [List.all_cons, hd, List.all_nil]; rfl
  · have e : numEnd s k = k + strLen ((s.drop k.toNat).takeWhile isD) := by unfold numEnd; rw [if_neg h48]
    have : numText s k = (s.drop k.toNat).takeWhile isD := by
      unfold numText
      have e2 : (numEnd s k).toNat - k.toNat = ((s.drop k.toNat).takeWhile isD).length := by rw [e]; simp only [strLen]; omega
      rw [List.drop_take, e2]
      exact (List.prefix_iff_eq_take.1 (List.takeWhile_prefix isD)).symm
    rw [this]; exact takeWhile_all _
/-! ### texts of trees, by strengths -/
theorem tin_le (t : Tm) {p q : Int} (h : p ≤ q) : strLen (t.tin p) ≤ strLen (t.tin q) := by
  by_cases hq : t.pow < q
  · by_cases hp : t.pow < p
    · rw [Tm.tin_paren hp, Tm.tin_paren hq]; exact Int.le_refl _
    · rw [Tm.tin_body (by omega), Tm.tin_paren hq]; simp [strLen]; omega
  · rw [Tm.tin_body (by omega), Tm.tin_body (by omega)]; exact Int.le_refl _
theorem tin_two (t : Tm) (p : Int) : strLen (t.tin p) ≤ strLen t.body + 2 := by
  have := paren_len t.pow t.body p
  unfold Tm.tin
  simp only [strLen]; omega
theorem bin_wants {op : Int} (h1 : 11 ≤ op) (h2 : op ≤ 23) : wantsC ⟨op, 0, []⟩ = 2 := by
  have h : op = 11 ∨ op = 12 ∨ op = 13 ∨ op = 14 ∨ op = 15 ∨ op = 16 ∨ op = 17 ∨ op = 18 ∨ op = 19 ∨ op = 20 ∨ op = 21 ∨ op = 22 ∨ op = 23 := by omega
  rcases h with rfl | rfl | rfl | rfl | rfl | rfl | rfl | rfl | rfl | rfl | rfl | rfl | rfl <;> decide
theorem sign_bytes {op : Int} {b : UInt8} (h1 : 11 ≤ op) (h2 : op ≤ 23) : 1 ≤ strLen (signM op).1 := (sign_ahead h1 h2 (b := 0) (by decide) []).2.2.1
/-- The operator ahead has its sign's bytes. -/
theorem ahead_sign (x : Str) (h : (opAhead x).1 ≠ 0) : (opAhead x).2 = strLen (signM (opAhead x).1).1 := by
  have key : ∀ a : UInt8, (opAt1 a).1 ≠ 0 → (opAt1 a).2 = strLen (signM (opAt1 a).1).1 := by
    intro a h
    by_cases e0 : a = 43
    · subst e0; rfl
    by_cases e1 : a = 45
    · subst e1; rfl
    by_cases e2 : a = 42
    · subst e2; rfl
    by_cases e3 : a = 47
    · subst e3; rfl
    by_cases e4 : a = 37
    · subst e4; rfl
    by_cases e5 : a = 61
    · subst e5; rfl
    by_cases e6 : a = 60
    · subst e6; rfl
    by_cases e7 : a = 62
    · subst e7; rfl
    by_cases e8 : a = 38
    · subst e8; rfl
    by_cases e9 : a = 124
    · subst e9; rfl
    have e : opAt1 a = (0, 0) := by simp only [opAt1, oneOp, e0, e1, e2, e3, e4, e5, e6, e7, e8, e9, if_false, if_true]
    rw [e] at h; exact absurd rfl h
  match x, h with
  | [], h => exact absurd rfl h
  | [a], h => exact key a h
  | a :: b :: r, h =>
    by_cases h2 : twoOp a b = 0
    · have e : opAhead (a :: b :: r) = opAt1 a := by simp only [opAhead, h2, if_true]
      rw [e] at h ⊢; exact key a h
    · have e : opAhead (a :: b :: r) = (twoOp a b, 2) := by simp only [opAhead, h2, if_false]
      rw [e]
      have ht : twoOp a b = 17 ∨ twoOp a b = 19 ∨ twoOp a b = 21 := by
        unfold twoOp at h2 ⊢
        repeat' (split at h2)
        all_goals first | (exact absurd rfl h2) | skip
        · rename_i g1 g2; rw [if_pos g1, if_pos g2]; exact .inl rfl
        · rename_i g1 g2 g3; rw [if_pos g1, if_neg g2, if_pos g3]; exact .inr (.inl rfl)
        · rename_i g1 g2 g3 g4; rw [if_pos g1, if_neg g2, if_neg g3, if_pos g4]; exact .inr (.inr rfl)
      rcases ht with e | e | e <;> rw [e] <;> rfl
/-! ### leaves -/
theorem leaf_tin {c : Cell} (h : wantsC c = 0) {p : Int} (hp : p ≤ 7) : (Tm.leaf c).tin p = leafS c := by
  have hpw : (Tm.leaf c).pow = 7 := by
    rcases leaf_cell h with ⟨a, rfl, _⟩ | ⟨a, rfl, _⟩ | rfl | rfl | ⟨n, rfl, _⟩ | ⟨n, rfl, _⟩ <;> rfl
  rw [Tm.tin_body (by omega)]; rfl
theorem wants_name {op : Int} {n : Str} (h : op = 5 ∨ op = 6) (hn : nameM n = true) : wantsC ⟨op, 0, n⟩ = 0 := by
  rcases h with rfl | rfl <;> simp [wantsC, wantsM, hn]
theorem leaf_got {r : Rd} (hok : Ok s r) (hl : r.pos < strLen s) (hb : (leafR s r).bad < 0) : ∃ c, wantsC c = 0 ∧ (leafR s r).out = r.out ++ [c] ∧ strLen (leafS c) ≤ (leafR s r).pos - r.pos := by
  have h0 := hok.low
  have hbad := hok.bad
  have hwr : ∀ k, 0 ≤ k → 0 ≤ (r.wrong k).bad := by intro k hk; simp only [Rd.wrong, hbad]; rw [if_pos (by omega)]; exact hk
  unfold leafR at hb ⊢
  split at hb
  · rename_i hd
    rw [if_pos hd]
    obtain ⟨f1, f2⟩ := numText_facts h0 hl hd
    have hnb := numEnd_bounds h0 hl hd
    unfold numberR at hb ⊢
    split at hb
    · have := hwr r.pos h0; omega
    · rename_i hx
      rw [if_neg hx]
      simp only [not_or, ne_eq, Classical.not_not, Int.not_lt] at hx
      obtain ⟨g1, g2⟩ := num_short f1 hx.1
      have hw0 : wantsC (numC s r.pos) = 0 := by
        rcases wants_op (numC s r.pos) hx.2 with ⟨h, _⟩ | ⟨_, h, _⟩ | ⟨_, h⟩
        · exact h
        · exfalso; unfold numC at h; simp only at h; split at h <;> omega
        · exfalso; unfold numC at h; simp only at h; split at h <;> omega
      refine ⟨numC s r.pos, hw0, rfl, ?_⟩
      unfold numC
      cases himg : numImag s r.pos
      · show strLen (Lib.itoa (numM (numText s r.pos)).1) ≤ numEnd s r.pos - r.pos
        omega
      · show strLen (Lib.itoa (numM (numText s r.pos)).1 ++ [105]) ≤ numEnd s r.pos + 1 - r.pos
        rw [strLen_app]; show _ + 1 ≤ _; omega
  · rename_i hd
    rw [if_neg hd]
    split at hb
    · rename_i hw
      rw [if_pos hw]
      refine ⟨⟨3, 0, []⟩, by decide, rfl, ?_⟩
      show (4 : Int) ≤ r.pos + 4 - r.pos; omega
    · rename_i hw1
      rw [if_neg hw1]
      split at hb
      · rename_i hw
        rw [if_pos hw]
        refine ⟨⟨4, 0, []⟩, by decide, rfl, ?_⟩
        show (5 : Int) ≤ r.pos + 5 - r.pos; omega
      · rename_i hw2
        rw [if_neg hw2]
        split at hb
        · rename_i hi
          rw [if_pos hi]
          unfold inR at hb ⊢
          split at hb
          · exfalso
            have e : ((r.to (r.pos + 3)).wrong (r.pos + 3)).bad = r.pos + 3 := by simp [Rd.wrong, Rd.to, hbad]
            omega
          · rename_i hn
            have hn' : nameM (wordM s (r.pos + 3)) = true := by simpa using hn
            rw [if_neg hn]
            refine ⟨⟨6, 0, wordM s (r.pos + 3)⟩, wants_name (.inr rfl) hn', ?_, ?_⟩
            · unfold closeR; split <;> rfl
            · have e : (closeR s (r.to (r.pos + 3 + strLen (wordM s (r.pos + 3))))).pos = r.pos + 3 + strLen (wordM s (r.pos + 3)) + 1 := by unfold closeR; split <;> rfl
              show strLen ([105, 110, 40] ++ wordM s (r.pos + 3) ++ [41]) ≤ (closeR s _).pos - r.pos
              rw [e, strLen_app, strLen_app]
              show 3 + _ + 1 ≤ _; omega
        · rename_i hi
          rw [if_neg hi]
          split at hb
          · rename_i hn
            rw [if_pos hn]
            refine ⟨⟨5, 0, wordM s r.pos⟩, wants_name (.inl rfl) hn, rfl, ?_⟩
            show strLen (wordM s r.pos) ≤ r.pos + strLen (wordM s r.pos) - r.pos; omega
          · have := hwr r.pos h0; omega
theorem head_pre_op {k op : Int} (h : headM s k = .pre op) : op = 7 ∨ op = 8 := by
  unfold headM at h
  repeat' (split at h)
  all_goals (cases h)
  · exact .inl rfl
  · exact .inr rfl
/-! ### trees -/
def GotT (s : Str) : Task → Rd → Rd → Prop
  | .bin p, r, o => Ok s r → o.bad < 0 → 1 ≤ p → p ≤ 6 → ∃ t : Tm, t.ok ∧ o.out = r.out ++ t.flat ∧ strLen (t.tin p) ≤ o.pos - r.pos
  | .una, r, o => Ok s r → o.bad < 0 → ∃ t : Tm, t.ok ∧ o.out = r.out ++ t.flat ∧ strLen (t.tin 6) ≤ o.pos - r.pos
  | .loop p, r, o => Ok s r → o.bad < 0 → 1 ≤ p → p ≤ 5 → ∀ (t : Tm) (out : List Cell) (k : Int), t.ok → r.out = out ++ t.flat → strLen (t.tin (leftP p)) ≤ r.pos - k → ∃ t' : Tm, t'.ok ∧ o.out = out ++ t'.flat ∧ strLen (t'.tin p) ≤ o.pos - k
theorem leftP_le (p : Int) : p ≤ leftP p ∧ leftP p ≤ p + 1 := by
  unfold leftP
  cases h : p == 3
  · show p ≤ p ∧ p ≤ p + 1; omega
  · have := eq_of_beq h; show p ≤ 4 ∧ 4 ≤ p + 1; omega
theorem made_bin {op p : Int} (h1 : 11 ≤ op) (h2 : op ≤ 23) (hp : (signM op).2 = p) {t u : Tm} (ht : t.ok) (hu : u.ok) : (Tm.bin ⟨op, 0, []⟩ t u).ok ∧ (Tm.bin ⟨op, 0, []⟩ t u).tin p = t.tin (leftP p) ++ (signM op).1 ++ u.tin (p + 1) := by
  refine ⟨⟨bin_wants h1 h2, ht, hu⟩, ?_⟩
  rw [Tm.tin_body (by show p ≤ (signM op).2; omega), ← hp]; rfl
theorem Run.got {t : Task} {r o : Rd} (h : Run s t r o) : GotT s t r o := by
  induction h with
  | six _ ih => intro hok hb _ _; exact ih hok hb
  | @bin p r q o h1 h5 hr hl ih1 ih2 =>
    intro hok hb _ _
    rcases hr.inv hok with ⟨g1, g2, _⟩ | ⟨_, g2, _⟩
    · obtain ⟨t, ht, e1, e2⟩ := ih1 hok (by have := g1.bad; omega) (by omega) (by omega)
      exact ih2 g1 hb h1 h5 t r.out r.pos ht e1 (by have := tin_le t (leftP_le p).2; omega)
    · have := hl.stop g2
      subst this; omega
  | @done p r he =>
    intro hok hb h1 h5 t out k ht e1 e2
    exact ⟨t, ht, e1, by have := tin_le t (leftP_le p).1; omega⟩
  | @more p r q o h1 h5 h3 hn hr hl ih1 ih2 =>
    intro hok hb _ _ t out k ht e1 e2
    obtain ⟨f1, f2, f3, f4, f5, f6, f7⟩ := oper_facts h1 h5 hok.low hok.high hn
    have hlow := hok.low
    have hok1 : Ok s (r.to (r.pos + (operM (s.drop r.pos.toNat) p).2)) := ⟨hok.bad, by simp only [Rd.to]; omega, by simp only [Rd.to]; omega⟩
    rcases hr.inv hok1 with ⟨g1, g2, _⟩ | ⟨_, g2, _⟩
    · obtain ⟨u, hu, m1, m2⟩ := ih1 hok1 (by have := g1.bad; omega) (by omega) (by omega)
      obtain ⟨n1, n2⟩ := made_bin f4 f5 f3 ht hu
      have hlp : leftP p = p := by unfold leftP; rw [beq_eq_false_iff_ne.2 h3]; rfl
      have hsn := ahead_sign (s.drop r.pos.toNat) (by rw [f2]; omega)
      rw [f2] at hsn
      refine ih2 g1.emit hb h1 h5 (.bin ⟨(operM (s.drop r.pos.toNat) p).1, 0, []⟩ t u) out k n1 ?_ ?_
      · show q.out ++ [_] = out ++ (t.flat ++ u.flat ++ [_])
        rw [m1]; show r.out ++ u.flat ++ [_] = _
        rw [e1]; simp
      · rw [hlp, n2, strLen_app, strLen_app, ← hsn]
        simp only [Rd.emit, Rd.to] at m2 g2 ⊢
        rw [hlp] at e2 ⊢
        omega
    · have := hl.stop (r := _) g2
      subst this
      exfalso; have : q.bad < 0 := hb; omega
  | @once r q hn hr ih1 =>
    intro hok hb _ _ t out k ht e1 e2
    obtain ⟨f1, f2, f3, f4, f5, f6, f7⟩ := oper_facts (by omega) (by omega) hok.low hok.high hn
    have hlow := hok.low
    have hok1 : Ok s (r.to (r.pos + (operM (s.drop r.pos.toNat) 3).2)) := ⟨hok.bad, by simp only [Rd.to]; omega, by simp only [Rd.to]; omega⟩
    obtain ⟨u, hu, m1, m2⟩ := ih1 hok1 hb (by omega) (by omega)
    obtain ⟨n1, n2⟩ := made_bin f4 f5 f3 ht hu
    have hsn := ahead_sign (s.drop r.pos.toNat) (by rw [f2]; omega)
    rw [f2] at hsn
    refine ⟨.bin ⟨(operM (s.drop r.pos.toNat) 3).1, 0, []⟩ t u, n1, ?_, ?_⟩
    · show q.out ++ [_] = out ++ (t.flat ++ u.flat ++ [_])
      rw [m1]; show r.out ++ u.flat ++ [_] = _
      rw [e1]; simp
    · rw [n2, strLen_app, strLen_app, ← hsn]
      simp only [Rd.emit, Rd.to] at m2 ⊢
      rw [show (3 : Int) + 1 = 4 from rfl]
      omega
  | @lost r hl =>
    intro hok hb
    exfalso
    have := hok.bad; have := hok.low
    have e : (r.wrong r.pos).bad = r.pos := by simp only [Rd.wrong]; rw [if_pos (by omega)]
    omega
  | @sign r q op hb0 hh hr ih =>
    intro hok hb
    have hlt := hok.lt (fun x e => by rw [hh] at e; subst e; simp)
    have hlow := hok.low
    have hok1 : Ok s (r.to (r.pos + 1)) := ⟨hok.bad, by simp only [Rd.to]; omega, by simp only [Rd.to]; omega⟩
    obtain ⟨t, ht, e1, e2⟩ := ih hok1 hb
    simp only [Rd.to, Rd.emit] at e1 e2 ⊢
    have hop := head_pre_op hh
    refine ⟨.un ⟨op, 0, []⟩ t, ⟨?_, ht⟩, ?_, ?_⟩
    · rcases hop with rfl | rfl <;> decide
    · rw [e1]; simp [Tm.flat]
    · have e3 : (Tm.un ⟨op, 0, []⟩ t).tin 6 = (signM op).1 ++ t.tin 6 := by
        rcases hop with rfl | rfl
        · rw [Tm.tin_body (show (6 : Int) ≤ 6 from Int.le_refl _)]; rfl
        · rw [Tm.tin_body (show (6 : Int) ≤ 6 from Int.le_refl _)]; rfl
      have e4 : strLen (signM op).1 = 1 := by rcases hop with rfl | rfl <;> rfl
      rw [e3, strLen_app, e4]; omega
  | @leaf r hb0 hh =>
    intro hok hb
    have hlt := hok.lt (fun x e => by rw [hh] at e; subst e; simp)
    obtain ⟨c, g1, g2, g3⟩ := leaf_got hok hlt hb
    exact ⟨.leaf c, g1, g2, by rw [leaf_tin g1 (by omega)]; exact g3⟩
  | @par r q hb0 hh hr ih =>
    intro hok hb
    have hlt := hok.lt (fun x e => by rw [hh] at e; subst e; simp)
    have hlow := hok.low
    have hok1 : Ok s (r.to (r.pos + 1)) := ⟨hok.bad, by simp only [Rd.to]; omega, by simp only [Rd.to]; omega⟩
    rcases hr.inv hok1 with ⟨g1, _, _⟩ | ⟨_, g2, _⟩
    · obtain ⟨t, ht, e1, e2⟩ := ih hok1 (by have := g1.bad; omega) (by omega) (by omega)
      rw [Tm.tin_body (t.pow_bounds ht).1] at e2
      have h2 := tin_two t 6
      rcases closeR_ok g1 with ⟨_, k2, k3, _⟩ | ⟨k1, _⟩
      · refine ⟨t, ht, by rw [k3, e1]; rfl, ?_⟩
        rw [k2]; simp only [Rd.to] at e2; omega
      · have := g1.low; omega
    · rw [closeR_bad g2] at hb
      have : q.bad < 0 := hb; omega
  | @call r q op hb0 hh hr ih =>
    intro hok hb
    have hlow := hok.low
    obtain ⟨hop, _, _, _, _, _, hlt⟩ := callS hh
    have hok1 : Ok s (r.to (r.pos + 3)) := ⟨hok.bad, by simp only [Rd.to]; omega, by simp only [Rd.to]; omega⟩
    rcases hr.inv hok1 with ⟨g1, _, _⟩ | ⟨_, g2, _⟩
    · obtain ⟨t, ht, e1, e2⟩ := ih hok1 (by have := g1.bad; omega) (by omega) (by omega)
      rw [Tm.tin_body (t.pow_bounds ht).1] at e2
      rcases closeR_ok g1 with ⟨_, k2, k3, _⟩ | ⟨k1, _⟩
      · have hop' : op = 9 ∨ op = 10 := by rcases hop with ⟨_, h⟩ | ⟨_, h⟩; exact .inl h; exact .inr h
        refine ⟨.un ⟨op, 0, []⟩ t, ⟨by rcases hop' with rfl | rfl <;> decide, ht⟩, ?_, ?_⟩
        · show (closeR s q).out ++ [_] = r.out ++ (t.flat ++ [_])
          rw [k3, e1]; simp [Rd.to]
        · have e3 : strLen ((Tm.un ⟨op, 0, []⟩ t).tin 6) = strLen t.body + 4 := by
            rcases hop' with rfl | rfl
            · rw [Tm.tin_body (show (6 : Int) ≤ 7 by decide)]
              show strLen ([114, 101, 40] ++ t.body ++ [41]) = _
              rw [strLen_app, strLen_app]; show 3 + _ + 1 = _; omega
            · rw [Tm.tin_body (show (6 : Int) ≤ 7 by decide)]
              show strLen ([105, 109, 40] ++ t.body ++ [41]) = _
              rw [strLen_app, strLen_app]; show 3 + _ + 1 = _; omega
          rw [e3]
          show _ ≤ (closeR s q).pos - r.pos
          rw [k2]; simp only [Rd.to] at e2; omega
      · exfalso
        have : (closeR s q).bad < 0 := hb
        have := g1.low; omega
    · exfalso
      rw [closeR_bad g2] at hb
      have : q.bad < 0 := hb; omega
/-- WHAT IS READ IS A TREE OF AT MOST 32 CELLS, AND ITS TEXT IS NO LONGER. -/
theorem parse_tree (h : (parseE s).2.2 = 0) : ∃ t : Tm, t.ok ∧ parseE s = (t.flat, 0, 0) ∧ t.flat.length ≤ 32 ∧ strLen t.body ≤ strLen s := by
  unfold parseE at h ⊢
  split at h
  · exact absurd (show (4 : Int) = 0 from h) (by decide)
  · rename_i h1
    split at h
    · exact absurd (show (1 : Int) = 0 from h) (by decide)
    · rename_i h2
      split at h
      · exact absurd (show (1 : Int) = 0 from h) (by decide)
      · rename_i h3
        split at h
        · exact absurd (show (4 : Int) = 0 from h) (by decide)
        · rename_i h4
          rw [if_neg h1, if_neg h2, if_neg h3, if_neg h4]
          have hok : Ok s ⟨0, [], -1⟩ := ⟨rfl, Int.le_refl _, by simp [strLen]⟩
          obtain ⟨t, ht, e1, e2⟩ := (runAll_run s).got hok (by omega) (by omega) (by omega)
          have e1' : (runAll s).out = t.flat := e1
          have hleft := (runAll_run s).inv hok
          rw [Tm.tin_body (t.pow_bounds ht).1] at e2
          refine ⟨t, ht, by rw [e1'], by rw [e1'] at h4; omega, ?_⟩
          rcases hleft with ⟨g1, _⟩ | ⟨_, g2, _⟩
          · have := g1.high
            have : strLen t.body ≤ (runAll s).pos - 0 := e2
            omega
          · omega
theorem parse_none (h : (parseE s).2.2 ≠ 0) : (parseE s).1 = [] := by
  unfold parseE at h ⊢
  repeat' (split at h)
  all_goals first | (exact absurd rfl h) | skip
  all_goals simp only [*, if_true, if_false]
end Go.Proofs.YtjndellhebidoaaDoor

/- What is read is a tree, whose text is no longer. Conditions: none. Contracts: blocks told. Conditions: none. Contracts of the document's reader of expressions: numbers, operands. Conditions: places within the text. Contracts of the document's reader of expressions: what stands behind an operand. Conditions: places within the text. -/
import Derived.Test.YtpfidgnkokidoaaGreatDoorOb
import Derived.Test.YtpfidgnkokidoaaGreatDoorUe
namespace Go.Proofs.YtpfidgnkokidoaaGreatDoor
open Go Go.Ev
set_option maxRecDepth 100000
variable {s : Str}
theorem ET (w : List UInt8) : ∀ a : Nat, w.all isD = true → cR a w < (a + 1) * 10 ^ w.length := by
 induction w with
 | nil =>
   intro a _
   rw [au, Nat.pow_zero, Nat.mul_one]
   exact Nat.lt_succ_self a
 | cons c r ih =>
   intro a h
   rw [bq, af] at h
   have h1 := h.1
   simp only [isD, af, decide_eq_true_eq] at h1
   have h2 := ih (10 * a + (c.toNat - 48)) h.2
   have e : cR a (c :: r) = cR (10 * a + (c.toNat - 48)) r := rfl
   rw [e]
   refine cH h2 ?_
   rw [ak, Nat.pow_succ, Nat.mul_comm (10 ^ r.length) 10, ← eo]
   exact bz _ (by omega)
theorem o4 : ∀ (k u : Nat), u < 10 ^ (k + 1) → (Lib.decDigits u).length ≤ k + 1
 | 0, u, h => by
   have : u < 10 := by simpa using h
   rw [Lib.decDigits_one this]; simp
 | k + 1, u, h => by
   by_cases h' : u < 10
   · rw [Lib.decDigits_one h']; simp
   · rw [Lib.decDigits, dif_neg h', aj]
     have := o4 k (u / 10) (by rw [Nat.pow_succ] at h; omega)
     simp only [ak, au]; omega
theorem yC {w : Str} (h1 : w.all isD = true) (h2 : (a7 w).2 = 0) : 0 ≤ (a7 w).1 ∧ ae (Lib.itoa (a7 w).1) ≤ ae w := by
 cases w with
 | nil => exact absurd h2 (by decide)
 | cons c r =>
   have hc : c ≠ 45 := by
    intro e; subst e
    simp only [bq, af] at h1
    exact absurd h1.1 (by decide)
   obtain ⟨e1, e2⟩ := iu r hc
   have hn : a7 (c :: r) = if eS (c :: r) = true then (0, 1) else if 1099511627776 < cR 0 (c :: r) then (0, 5) else ((cR 0 (c :: r) : Int), 0) := by
    unfold a7; rw [e1, e2]; rfl
   rw [hn] at h2 ⊢
   split at h2
   · exact absurd h2 (by decide)
   · rename_i hf
     split at h2
     · exact absurd h2 (by decide)
     · rename_i hm
       rw [if_neg hf, if_neg hm]
       have hl := ET (c :: r) 0 h1
       rw [a8, Nat.one_mul, ak] at hl
       show 0 ≤ ((cR 0 (c :: r) : Nat) : Int) ∧ ae (Lib.itoa ((cR 0 (c :: r) : Nat) : Int)) ≤ ae (c :: r)
       rw [BZ (eC _), bx]
       refine ⟨eC _, ?_⟩
       have h3 := o4 r.length _ hl
       simp only [ae, ak]; omega
theorem lv {p : UInt8 → Bool} : ∀ l : List UInt8, (l.takeWhile p).all p = true
 | [] => rfl
 | c :: r => by
   rw [cX]
   split
   · rename_i h; rw [bq, h, lv r]; rfl
   · rfl
theorem rX {k : Int} (h0 : 0 ≤ k) (h1 : k < ae s) (hd : isD (s.getD k.toNat 0) = true) : (cq s k).all isD = true ∧ ae (cq s k) = bK s k - k := by
 have hb := gp h0 h1 hd
 have hL : ae s = (s.length : Int) := rfl
 have hlen : ae (cq s k) = bK s k - k := by
  unfold cq
  simp only [ae, ba, aX]; omega
 refine ⟨?_, hlen⟩
 by_cases h48 : bJ s k = 48
 · have e : bK s k = k + 1 := by unfold bK; rw [if_pos h48]
   have : cq s k = [s.getD k.toNat 0] := by
    unfold cq
    rw [e, eJ, drop_at h0 h1, show (k + 1).toNat - k.toNat = 1 by omega]; rfl
   rw [this]; simp only [bq, hd, List.all_nil]; rfl
 · have e : bK s k = k + ae ((s.drop k.toNat).takeWhile isD) := by unfold bK; rw [if_neg h48]
   have : cq s k = (s.drop k.toNat).takeWhile isD := by
    unfold cq
    have e2 : (bK s k).toNat - k.toNat = ((s.drop k.toNat).takeWhile isD).length := by rw [e]; simp only [ae]; omega
    rw [eJ, e2]
    exact (List.prefix_iff_eq_take.1 (List.takeWhile_prefix isD)).symm
   rw [this]; exact lv _
/-! ### texts of trees, by strengths -/
theorem Ai (t : Tm) {p q : Int} (h : p ≤ q) : ae (t.tin p) ≤ ae (t.tin q) := by
 by_cases hq : t.pow < q
 · by_cases hp : t.pow < p
   · rw [Tm.tin_paren hp, Tm.tin_paren hq]; exact b3 _
   · rw [Tm.tin_body (by omega), Tm.tin_paren hq]; simp [ae]; omega
 · rw [Tm.tin_body (by omega), Tm.tin_body (by omega)]; exact b3 _
theorem D7 (t : Tm) (p : Int) : ae (t.tin p) ≤ ae t.body + 2 := by
 have := Aq t.pow t.body p
 unfold Tm.tin
 simp only [ae]; omega
theorem Al {op : Int} (h1 : 11 ≤ op) (h2 : op ≤ 23) : bI ⟨op, 0, []⟩ = 2 := by
 have h : op = 11 ∨ op = 12 ∨ op = 13 ∨ op = 14 ∨ op = 15 ∨ op = 16 ∨ op = 17 ∨ op = 18 ∨ op = 19 ∨ op = 20 ∨ op = 21 ∨ op = 22 ∨ op = 23 := by omega
 rcases h with rfl | rfl | rfl | rfl | rfl | rfl | rfl | rfl | rfl | rfl | rfl | rfl | rfl <;> decide
theorem pZ (x : Str) (h : (bG x).1 ≠ 0) : (bG x).2 = ae (aI (bG x).1).1 := by
 have key : ∀ a : UInt8, (fc a).1 ≠ 0 → (fc a).2 = ae (aI (fc a).1).1 := by
  intro a h
  by_cases e0 : a = 43
  · subst e0; rfl
  by_cases e1 : a = 45
  · subst e1; rfl
  by_cases e2 : a = 42
  · subst e2; rfl
  by_cases e3 : a = 47
  · subst e3; rfl
  by_cases e4 : a = 37
  · subst e4; rfl
  by_cases e5 : a = 61
  · subst e5; rfl
  by_cases e6 : a = 60
  · subst e6; rfl
  by_cases e7 : a = 62
  · subst e7; rfl
  by_cases e8 : a = 38
  · subst e8; rfl
  by_cases e9 : a = 124
  · subst e9; rfl
  have e : fc a = (0, 0) := by simp only [fc, mN, e0, e1, e2, e3, e4, e5, e6, e7, e8, e9, if_false, if_true]
  rw [e] at h; exact absurd rfl h
 match x, h with
 | [], h => exact absurd rfl h
 | [a], h => exact key a h
 | a :: b :: r, h =>
   by_cases h2 : eX a b = 0
   · have e : bG (a :: b :: r) = fc a := by simp only [bG, h2, if_true]
     rw [e] at h ⊢; exact key a h
   · have e : bG (a :: b :: r) = (eX a b, 2) := by simp only [bG, h2, if_false]
     rw [e]
     have ht : eX a b = 17 ∨ eX a b = 19 ∨ eX a b = 21 := by
      unfold eX at h2 ⊢
      repeat' (split at h2)
      all_goals first | (exact absurd rfl h2) | skip
      · rename_i g1 g2; rw [if_pos g1, if_pos g2]; exact .inl rfl
      · rename_i g1 g2 g3; rw [if_pos g1, if_neg g2, if_pos g3]; exact .inr (.inl rfl)
      · rename_i g1 g2 g3 g4; rw [if_pos g1, if_neg g2, if_neg g3, if_pos g4]; exact .inr (.inr rfl)
     rcases ht with e | e | e <;> rw [e] <;> rfl
/-! ### leaves -/
theorem Bx {c : Cell} (h : bI c = 0) {p : Int} (hp : p ≤ 7) : (Tm.leaf c).tin p = sj c := by
 have hpw : (Tm.leaf c).pow = 7 := by
  rcases ru h with ⟨a, rfl, _⟩ | ⟨a, rfl, _⟩ | rfl | rfl | ⟨n, rfl, _⟩ | ⟨n, rfl, _⟩ <;> rfl
 rw [Tm.tin_body (by omega)]; rfl
theorem pe {op : Int} {n : Str} (h : op = 5 ∨ op = 6) (hn : aP n = true) : bI ⟨op, 0, n⟩ = 0 := by
 rcases h with rfl | rfl <;> simp [bI, eI, hn]
theorem Bu {r : Rd} (hok : Ok s r) (hl : r.pos < ae s) (hb : (eD s r).bad < 0) : ∃ c, bI c = 0 ∧ (eD s r).out = r.out ++ [c] ∧ ae (sj c) ≤ (eD s r).pos - r.pos := by
 have h0 := hok.low
 have hbad := hok.bad
 have hwr : ∀ k, 0 ≤ k → 0 ≤ (r.wrong k).bad := by intro k hk; simp only [Rd.wrong, hbad]; rw [if_pos (by omega)]; exact hk
 unfold eD at hb ⊢
 split at hb
 · rename_i hd
   rw [if_pos hd]
   obtain ⟨f1, f2⟩ := rX h0 hl hd
   have hnb := gp h0 hl hd
   unfold bW at hb ⊢
   split at hb
   · have := hwr r.pos h0; omega
   · rename_i hx
     rw [if_neg hx]
     simp only [not_or, ne_eq, Classical.not_not, Int.not_lt] at hx
     obtain ⟨g1, g2⟩ := yC f1 hx.1
     have hw0 : bI (eA s r.pos) = 0 := by
      rcases BY (eA s r.pos) hx.2 with ⟨h, _⟩ | ⟨_, h, _⟩ | ⟨_, h⟩
      · exact h
      · exfalso; unfold eA at h; simp only at h; split at h <;> omega
      · exfalso; unfold eA at h; simp only at h; split at h <;> omega
     refine ⟨eA s r.pos, hw0, rfl, ?_⟩
     unfold eA
     cases himg : c6 s r.pos
     · show ae (Lib.itoa (a7 (cq s r.pos)).1) ≤ bK s r.pos - r.pos
       omega
     · show ae (Lib.itoa (a7 (cq s r.pos)).1 ++ [105]) ≤ bK s r.pos + 1 - r.pos
       rw [du]; show _ + 1 ≤ _; omega
 · rename_i hd
   rw [if_neg hd]
   split at hb
   · rename_i hw
     rw [if_pos hw]
     refine ⟨⟨3, 0, []⟩, by decide, rfl, ?_⟩
     show (4 : Int) ≤ r.pos + 4 - r.pos; omega
   · rename_i hw1
     rw [if_neg hw1]
     split at hb
     · rename_i hw
       rw [if_pos hw]
       refine ⟨⟨4, 0, []⟩, by decide, rfl, ?_⟩
       show (5 : Int) ≤ r.pos + 5 - r.pos; omega
     · rename_i hw2
       rw [if_neg hw2]
       split at hb
       · rename_i hi
         rw [if_pos hi]
         unfold inR at hb ⊢
         split at hb
         · exfalso
           have e : ((r.to (r.pos + 3)).wrong (r.pos + 3)).bad = r.pos + 3 := by simp [Rd.wrong, Rd.to, hbad]
           omega
         · rename_i hn
           have hn' : aP (az s (r.pos + 3)) = true := by simpa using hn
           rw [if_neg hn]
           refine ⟨⟨6, 0, az s (r.pos + 3)⟩, pe (.inr rfl) hn', ?_, ?_⟩
           · unfold bD; split <;> rfl
           · have e : (bD s (r.to (r.pos + 3 + ae (az s (r.pos + 3))))).pos = r.pos + 3 + ae (az s (r.pos + 3)) + 1 := by unfold bD; split <;> rfl
             show ae ([105, 110, 40] ++ az s (r.pos + 3) ++ [41]) ≤ (bD s _).pos - r.pos
             rw [e, du, du]
             show 3 + _ + 1 ≤ _; omega
       · rename_i hi
         rw [if_neg hi]
         split at hb
         · rename_i hn
           rw [if_pos hn]
           refine ⟨⟨5, 0, az s r.pos⟩, pe (.inl rfl) hn, rfl, ?_⟩
           show ae (az s r.pos) ≤ r.pos + ae (az s r.pos) - r.pos; omega
         · have := hwr r.pos h0; omega
theorem uV {k op : Int} (h : cB s k = .pre op) : op = 7 ∨ op = 8 := by
 unfold cB at h
 repeat' (split at h)
 all_goals (cases h)
 · exact .inl rfl
 · exact .inr rfl
/-! ### trees -/
def Hb (s : Str) : Task → Rd → Rd → Prop
 | .bin p, r, o => Ok s r → o.bad < 0 → 1 ≤ p → p ≤ 6 → ∃ t : Tm, t.ok ∧ o.out = r.out ++ t.flat ∧ ae (t.tin p) ≤ o.pos - r.pos
 | .una, r, o => Ok s r → o.bad < 0 → ∃ t : Tm, t.ok ∧ o.out = r.out ++ t.flat ∧ ae (t.tin 6) ≤ o.pos - r.pos
 | .loop p, r, o => Ok s r → o.bad < 0 → 1 ≤ p → p ≤ 5 → ∀ (t : Tm) (out : List Cell) (k : Int), t.ok → r.out = out ++ t.flat → ae (t.tin (jL p)) ≤ r.pos - k → ∃ t' : Tm, t'.ok ∧ o.out = out ++ t'.flat ∧ ae (t'.tin p) ≤ o.pos - k
theorem ur (p : Int) : p ≤ jL p ∧ jL p ≤ p + 1 := by
 unfold jL
 cases h : p == 3
 · show p ≤ p ∧ p ≤ p + 1; omega
 · have := eq_of_beq h; show p ≤ 4 ∧ 4 ≤ p + 1; omega
theorem th {op p : Int} (h1 : 11 ≤ op) (h2 : op ≤ 23) (hp : (aI op).2 = p) {t u : Tm} (ht : t.ok) (hu : u.ok) : (Tm.bin ⟨op, 0, []⟩ t u).ok ∧ (Tm.bin ⟨op, 0, []⟩ t u).tin p = t.tin (jL p) ++ (aI op).1 ++ u.tin (p + 1) := by
 refine ⟨⟨Al h1 h2, ht, hu⟩, ?_⟩
 rw [Tm.tin_body (by show p ≤ (aI op).2; omega), ← hp]; rfl
theorem Run.got {t : Task} {r o : Rd} (h : Run s t r o) : Hb s t r o := by
 induction h with
 | six _ ih => intro hok hb _ _; exact ih hok hb
 | @bin p r q o h1 h5 hr hl ih1 ih2 =>
   intro hok hb _ _
   rcases hr.inv hok with ⟨g1, g2, _⟩ | ⟨_, g2, _⟩
   · obtain ⟨t, ht, e1, e2⟩ := ih1 hok (by have := g1.bad; omega) (by omega) (by omega)
     exact ih2 g1 hb h1 h5 t r.out r.pos ht e1 (by have := Ai t (ur p).2; omega)
   · have := hl.stop g2
     subst this; omega
 | @done p r he =>
   intro hok hb h1 h5 t out k ht e1 e2
   exact ⟨t, ht, e1, by have := Ai t (ur p).1; omega⟩
 | @more p r q o h1 h5 h3 hn hr hl ih1 ih2 =>
   intro hok hb _ _ t out k ht e1 e2
   obtain ⟨f1, f2, f3, f4, f5, f6, f7⟩ := eO h1 h5 hok.low hok.high hn
   have hlow := hok.low
   have hok1 : Ok s (r.to (r.pos + (aV (s.drop r.pos.toNat) p).2)) := ⟨hok.bad, by simp only [Rd.to]; omega, by simp only [Rd.to]; omega⟩
   rcases hr.inv hok1 with ⟨g1, g2, _⟩ | ⟨_, g2, _⟩
   · obtain ⟨u, hu, m1, m2⟩ := ih1 hok1 (by have := g1.bad; omega) (by omega) (by omega)
     obtain ⟨n1, n2⟩ := th f4 f5 f3 ht hu
     have hlp : jL p = p := by unfold jL; rw [beq_eq_false_iff_ne.2 h3]; rfl
     have hsn := pZ (s.drop r.pos.toNat) (by rw [f2]; omega)
     rw [f2] at hsn
     refine ih2 g1.emit hb h1 h5 (.bin ⟨(aV (s.drop r.pos.toNat) p).1, 0, []⟩ t u) out k n1 ?_ ?_
     · show q.out ++ [_] = out ++ (t.flat ++ u.flat ++ [_])
       rw [m1]; show r.out ++ u.flat ++ [_] = _
       rw [e1]; simp
     · rw [hlp, n2, du, du, ← hsn]
       simp only [Rd.emit, Rd.to] at m2 g2 ⊢
       rw [hlp] at e2 ⊢
       omega
   · have := hl.stop (r := _) g2
     subst this
     exfalso; have : q.bad < 0 := hb; omega
 | @once r q hn hr ih1 =>
   intro hok hb _ _ t out k ht e1 e2
   obtain ⟨f1, f2, f3, f4, f5, f6, f7⟩ := eO (by omega) (by omega) hok.low hok.high hn
   have hlow := hok.low
   have hok1 : Ok s (r.to (r.pos + (aV (s.drop r.pos.toNat) 3).2)) := ⟨hok.bad, by simp only [Rd.to]; omega, by simp only [Rd.to]; omega⟩
   obtain ⟨u, hu, m1, m2⟩ := ih1 hok1 hb (by omega) (by omega)
   obtain ⟨n1, n2⟩ := th f4 f5 f3 ht hu
   have hsn := pZ (s.drop r.pos.toNat) (by rw [f2]; omega)
   rw [f2] at hsn
   refine ⟨.bin ⟨(aV (s.drop r.pos.toNat) 3).1, 0, []⟩ t u, n1, ?_, ?_⟩
   · show q.out ++ [_] = out ++ (t.flat ++ u.flat ++ [_])
     rw [m1]; show r.out ++ u.flat ++ [_] = _
     rw [e1]; simp
   · rw [n2, du, du, ← hsn]
     simp only [Rd.emit, Rd.to] at m2 ⊢
     rw [show (3 : Int) + 1 = 4 from rfl]
     omega
 | @lost r hl =>
   intro hok hb
   exfalso
   have := hok.bad; have := hok.low
   have e : (r.wrong r.pos).bad = r.pos := by simp only [Rd.wrong]; rw [if_pos (by omega)]
   omega
 | @sign r q op hb0 hh hr ih =>
   intro hok hb
   have hlt := hok.lt (fun x e => by rw [hh] at e; subst e; simp)
   have hlow := hok.low
   have hok1 : Ok s (r.to (r.pos + 1)) := ⟨hok.bad, by simp only [Rd.to]; omega, by simp only [Rd.to]; omega⟩
   obtain ⟨t, ht, e1, e2⟩ := ih hok1 hb
   simp only [Rd.to, Rd.emit] at e1 e2 ⊢
   have hop := uV hh
   refine ⟨.un ⟨op, 0, []⟩ t, ⟨?_, ht⟩, ?_, ?_⟩
   · rcases hop with rfl | rfl <;> decide
   · rw [e1]; simp [Tm.flat]
   · have e3 : (Tm.un ⟨op, 0, []⟩ t).tin 6 = (aI op).1 ++ t.tin 6 := by
      rcases hop with rfl | rfl
      · rw [Tm.tin_body (show (6 : Int) ≤ 6 from b3 _)]; rfl
      · rw [Tm.tin_body (show (6 : Int) ≤ 6 from b3 _)]; rfl
     have e4 : ae (aI op).1 = 1 := by rcases hop with rfl | rfl <;> rfl
     rw [e3, du, e4]; omega
 | @leaf r hb0 hh =>
   intro hok hb
   have hlt := hok.lt (fun x e => by rw [hh] at e; subst e; simp)
   obtain ⟨c, g1, g2, g3⟩ := Bu hok hlt hb
   exact ⟨.leaf c, g1, g2, by rw [Bx g1 (by omega)]; exact g3⟩
 | @par r q hb0 hh hr ih =>
   intro hok hb
   have hlt := hok.lt (fun x e => by rw [hh] at e; subst e; simp)
   have hlow := hok.low
   have hok1 : Ok s (r.to (r.pos + 1)) := ⟨hok.bad, by simp only [Rd.to]; omega, by simp only [Rd.to]; omega⟩
   rcases hr.inv hok1 with ⟨g1, _, _⟩ | ⟨_, g2, _⟩
   · obtain ⟨t, ht, e1, e2⟩ := ih hok1 (by have := g1.bad; omega) (by omega) (by omega)
     rw [Tm.tin_body (t.pow_bounds ht).1] at e2
     have h2 := D7 t 6
     rcases iE g1 with ⟨_, k2, k3, _⟩ | ⟨k1, _⟩
     · refine ⟨t, ht, by rw [k3, e1]; rfl, ?_⟩
       rw [k2]; simp only [Rd.to] at e2; omega
     · have := g1.low; omega
   · rw [iT g2] at hb
     have : q.bad < 0 := hb; omega
 | @call r q op hb0 hh hr ih =>
   intro hok hb
   have hlow := hok.low
   obtain ⟨hop, _, _, _, _, _, hlt⟩ := pH hh
   have hok1 : Ok s (r.to (r.pos + 3)) := ⟨hok.bad, by simp only [Rd.to]; omega, by simp only [Rd.to]; omega⟩
   rcases hr.inv hok1 with ⟨g1, _, _⟩ | ⟨_, g2, _⟩
   · obtain ⟨t, ht, e1, e2⟩ := ih hok1 (by have := g1.bad; omega) (by omega) (by omega)
     rw [Tm.tin_body (t.pow_bounds ht).1] at e2
     rcases iE g1 with ⟨_, k2, k3, _⟩ | ⟨k1, _⟩
     · have hop' : op = 9 ∨ op = 10 := by rcases hop with ⟨_, h⟩ | ⟨_, h⟩; exact .inl h; exact .inr h
       refine ⟨.un ⟨op, 0, []⟩ t, ⟨by rcases hop' with rfl | rfl <;> decide, ht⟩, ?_, ?_⟩
       · show (bD s q).out ++ [_] = r.out ++ (t.flat ++ [_])
         rw [k3, e1]; simp [Rd.to]
       · have e3 : ae ((Tm.un ⟨op, 0, []⟩ t).tin 6) = ae t.body + 4 := by
          rcases hop' with rfl | rfl
          · rw [Tm.tin_body (show (6 : Int) ≤ 7 by decide)]
            show ae ([114, 101, 40] ++ t.body ++ [41]) = _
            rw [du, du]; show 3 + _ + 1 = _; omega
          · rw [Tm.tin_body (show (6 : Int) ≤ 7 by decide)]
            show ae ([105, 109, 40] ++ t.body ++ [41]) = _
            rw [du, du]; show 3 + _ + 1 = _; omega
         rw [e3]
         show _ ≤ (bD s q).pos - r.pos
         rw [k2]; simp only [Rd.to] at e2; omega
     · exfalso
       have : (bD s q).bad < 0 := hb
       have := g1.low; omega
   · exfalso
     rw [iT g2] at hb
     have : q.bad < 0 := hb; omega
def Gy (d : Deed) : Str := bif d.kind == 1 then d.name ++ [61] ++ DM d.expr else bif d.kind == 2 then bU ++ d.name else df ++ d.name
def GK (l : List Deed) : Str := Lib.join (l.map Gy) [59]
/-! ### the document's -/
variable (s : Str) (pos : Int) (out : List Cell) (wt : List Wait)
abbrev mkC : List Chunk := [Chunk.cells [SC.pd (PD.str s), SC.i pos, SC.own 3, SC.own 2] 209, Chunk.dead, Chunk.own 238 ETy.wait wt, Chunk.own 92 ETy.cell out]
abbrev mkD : List Chunk := [Chunk.cells [SC.pd (PD.str s), SC.i pos, SC.own 1, SC.own 3] 209, Chunk.own 92 ETy.cell out, Chunk.dead, Chunk.own 238 ETy.wait wt]
def upC : Nat → Nat
 | 2 => 4
 | n => n
def dnC : Nat → Nat
 | 4 => 2
 | n => n
def upD : Nat → Nat
 | 1 => 3
 | 3 => 4
 | n => n
def dnD : Nat → Nat
 | 3 => 1
 | 4 => 3
 | n => n
theorem rnC : RnW upC dnC 3 (mkC s pos out wt) (mkB s pos out wt) := by
 refine ⟨fun j x' h => ?_, fun j hj => ?_⟩
 · match j, h with
   | 0, h => right; exact ⟨_, rfl, (al h).symm, rfl, by simp [Chunk.refs, SC.refs, upC, dnC]⟩
   | 1, h => left; simpa using h.symm
   | 2, h => left; simpa using h.symm
   | 3, h => right; exact ⟨_, rfl, (al h).symm, rfl, by simp [Chunk.refs]⟩
   | 4, h => right; exact ⟨_, rfl, (al h).symm, rfl, by simp [Chunk.refs]⟩
   | j + 5, h => simp at h
 · match j, hj with
   | 0, _ => rfl
   | 1, _ => rfl
   | 2, _ => rfl
theorem rnD : RnW upD dnD 3 (mkD s pos out wt) (mkB s pos out wt) := by
 refine ⟨fun j x' h => ?_, fun j hj => ?_⟩
 · match j, h with
   | 0, h => right; exact ⟨_, rfl, (al h).symm, rfl, by simp [Chunk.refs, SC.refs, upD, dnD]⟩
   | 1, h => left; simpa using h.symm
   | 2, h => left; simpa using h.symm
   | 3, h => right; exact ⟨_, rfl, (al h).symm, rfl, by simp [Chunk.refs]⟩
   | 4, h => right; exact ⟨_, rfl, (al h).symm, rfl, by simp [Chunk.refs]⟩
   | j + 5, h => simp at h
 · match j, hj with
   | 0, _ => rfl
   | 1, _ => rfl
   | 2, _ => rfl
theorem McQ.c {s : Str} {ret : SV} {pos : Int} {out : List Cell} {wt : List Wait} {c : List Chunk} (h : c = mkC s pos out wt) : McQ s ret pos out wt ret c := ⟨rfl, by rw [h]; exact ⟨_, _, rnC s pos out wt⟩⟩
theorem McQ.d {s : Str} {ret : SV} {pos : Int} {out : List Cell} {wt : List Wait} {c : List Chunk} (h : c = mkD s pos out wt) : McQ s ret pos out wt ret c := ⟨rfl, by rw [h]; exact ⟨_, _, rnD s pos out wt⟩⟩
/-! ### numbers -/
abbrev XnQ (k : Int) (out : List Cell) (wt : List Wait) : Out := McQ s (.x (.b (decide ((bW s ⟨k, out, -1⟩).bad < 0)))) (bW s ⟨k, out, -1⟩).pos (bW s ⟨k, out, -1⟩).out wt
theorem XnQ.no {s : Str} {k : Int} {out : List Cell} {wt : List Wait} (hk : 0 ≤ k) (h : ((a7 (cq s k)).2 != 0 || decide (bI (eA s k) < 0)) = true) : XnQ s k out wt (.x (.b false)) (mkA s k out wt) := by
 have e : bW s ⟨k, out, -1⟩ = ⟨k, out, k⟩ := iv (r := ⟨k, out, -1⟩) h
 unfold XnQ
 rw [e, decide_eq_false (show ¬ k < 0 by omega)]
 exact McQ.a rfl
theorem XnQ.yes {s : Str} {k p : Int} {out : List Cell} {wt : List Wait} (h : ((a7 (cq s k)).2 != 0 || decide (bI (eA s k) < 0)) = false) (hp : p = if c6 s k = true then bK s k + 1 else bK s k) : XnQ s k out wt (.x (.b true)) (mkC s p (out ++ [eA s k]) wt) := by
 have e : bW s ⟨k, out, -1⟩ = ⟨p, out ++ [eA s k], -1⟩ := by rw [hp]; exact iF (r := ⟨k, out, -1⟩) h
 unfold XnQ
 rw [e, decide_eq_true (show (-1 : Int) < 0 by omega)]
 exact McQ.c rfl
def vI (root : Code) (p : List Nat) (i : Nat) (st : ST) (v : SX) : Option ST :=
 match (opsOf (sub root p))[i]? with
 | some o => match o.guard, o.dst with
   | some (j, true), some d => match ((opsOf (sub root p))[j]?).bind (·.dst) with
     | some s => match lookup st.fr s with
       | some (.x (.c (.pd (.bool false)))) => bif Nat.blt d st.n && !Nat.beq s d then some { st with fr := cZ d (.grd s true v) st.fr } else none
       | _ => none
     | none => none
   | _, _ => none
 | none => none
theorem J.skip {P : Program} {f : FuncId} {root : Code} {Γ : Ctx} {Q : Out} {st st' : ST} {p : List Nat} {i : Nat} {k : List PI} {v : SX} (h : vI root p i st v = some st') (hk : J P f root Γ Q (.ops p (i + 1) :: k) st') : J P f root Γ Q (.ops p i :: k) st := by
 unfold vI at h
 split at h
 · rename_i o ho
   split at h
   · rename_i j d hg hd
     split at h
     · rename_i s hs
       split at h
       · rename_i hb
         cases hbb : (Nat.blt d st.n && !Nat.beq s d)
         · rw [hbb] at h; cases h
         · rw [hbb] at h
           simp only [cond_true, aa] at h
           subst h
           simp only [af, aC] at hbb
           have hdn : d < st.n := av hbb.1
           have hsd : s ≠ d := fun e => by rw [e] at hbb; simp at hbb
           intro hT V a w r
           have hoff : ¬ a.tmps.getD s undef = .bool true := by
            have := r.slots s _ (cE hb)
            have h2 : SX.R V (.c (.pd (.bool false))) (a.tmps.getD s undef) := this
            generalize a.tmps.getD s undef = u at h2 ⊢
            cases h2; simp
           have hi : i < (opsOf (sub root p)).size := (Array.getElem?_eq_some_iff.1 ho).1
           have hsz : (opsOf (sub root p)).size - i = ((opsOf (sub root p)).size - (i + 1)) + 1 := by omega
           simp only [ax, PI.den]
           rw [hsz, bM]
           refine Go.Sy.Fin.op_unwanted ho (gR hg hs hoff) ?_
           rw [hd]
           exact hk hT V _ _ (r.put d (.grd s true v) _ hdn fun a' ha h2 => ⟨fun h3 => absurd (by rw [← ha s hsd]; exact h3) hoff, fun _ => h2⟩)
       · cases h
     · cases h
   · cases h
 · cases h
/-! ### signs of one byte, of two -/
def two (x : Str) : Int := match x with | a :: b :: _ => eX a b | _ => 0
def one (x : Str) : Int := match x with | a :: _ => mN a | [] => 0
/-! ### the walk -/
def qe (s : Str) (pos : Int) (out : List Cell) (wt : List Wait) (o : Int × Int) : Out := fun v c =>
 if o.1 = 0 ∨ (aI o.1).2 = 3 ∧ kW wt.reverse = true then McQ s (.tup [.i pos, .i 0]) pos out wt v c
 else McQ s (.tup [.i (-1), .i 0]) (pos + o.2) (out ++ cellsOf (tA (aI o.1).2 wt.reverse)) ((xn (aI o.1).2 wt.reverse).reverse ++ [⟨o.1, (aI o.1).2⟩]) v c
theorem qe.no {s : Str} {pos : Int} {out : List Cell} {wt : List Wait} {o : Int × Int} (h : o.1 = 0 ∨ (aI o.1).2 = 3 ∧ kW wt.reverse = true) : qe s pos out wt o (.tup [.i pos, .i 0]) (mkA s pos out wt) := by
 unfold qe; rw [if_pos h]; exact McQ.a rfl
theorem qe.yes {s : Str} {pos k : Int} {out : List Cell} {wt : List Wait} {o : Int × Int} (h : ¬ (o.1 = 0 ∨ (aI o.1).2 = 3 ∧ kW wt.reverse = true)) (hk : k = pos + o.2) : qe s pos out wt o (.tup [.i (-1), .i 0]) (mkB s k (out ++ cellsOf (tA (aI o.1).2 wt.reverse)) ((xn (aI o.1).2 wt.reverse).reverse ++ [⟨o.1, (aI o.1).2⟩])) := by
 unfold qe; rw [if_neg h, hk]; exact McQ.b rfl
end Go.Proofs.YtpfidgnkokidoaaGreatDoor

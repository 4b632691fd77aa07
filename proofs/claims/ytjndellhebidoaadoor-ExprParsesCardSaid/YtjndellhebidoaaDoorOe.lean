/- Parentheses around an expression. Conditions: none. -/
import Derived.Test.YtjndellhebidoaaDoorOd
namespace Go.Proofs.YtjndellhebidoaaDoor
open Go Go.Ev
set_option maxRecDepth 100000
variable {s : Str}
/-- A text in parentheses. -/
def wrapS (s : Str) : Str := [40] ++ s ++ [41]
def sh (r : Rd) : Rd := ⟨r.pos + 1, r.out, if r.bad < 0 then r.bad else r.bad + 1⟩
theorem wrap_len (s : Str) : strLen (wrapS s) = strLen s + 2 := by simp [wrapS, strLen]; omega
theorem wrap_drop {k : Int} (h0 : 0 ≤ k) (h1 : k ≤ strLen s) : (wrapS s).drop (k + 1).toNat = s.drop k.toNat ++ [41] := by
  have hL : strLen s = (s.length : Int) := rfl
  have e : (k + 1).toNat = k.toNat + 1 := by omega
  have e2 : wrapS s = 40 :: (s ++ [41]) := rfl
  rw [e, e2, List.drop_succ_cons, List.drop_append_of_le_length (by omega)]
theorem wrap_get {k : Int} (h0 : 0 ≤ k) (h1 : k < strLen s) : (wrapS s).getD (k + 1).toNat 0 = s.getD k.toNat 0 := by
  have hL : strLen s = (s.length : Int) := rfl
  have e : (k + 1).toNat = k.toNat + 1 := by omega
  have e2 : wrapS s = 40 :: (s ++ [41]) := rfl
  rw [e, e2, List.getD_cons_succ, List.getD_eq_getElem?_getD, List.getElem?_append_left (by omega), ← List.getD_eq_getElem?_getD]
theorem wrap_byte {k : Int} (h0 : 0 ≤ k) (h1 : k < strLen s) : byteAt (wrapS s) (k + 1) = byteAt s k := by
  unfold byteAt; rw [wrap_get h0 h1]
theorem wrap_last : byteAt (wrapS s) (strLen s + 1) = 41 := by
  have hL : strLen s = (s.length : Int) := rfl
  have e : (strLen s + 1).toNat = s.length + 1 := by omega
  have e2 : wrapS s = 40 :: (s ++ [41]) := rfl
  unfold byteAt
  rw [e, e2, List.getD_cons_succ, List.getD_eq_getElem?_getD, List.getElem?_append_right (Nat.le_refl _), Nat.sub_self]; rfl
theorem take_app {p : UInt8 → Bool} {c : UInt8} (hc : p c = false) : ∀ x : List UInt8, (x ++ [c]).takeWhile p = x.takeWhile p
  | [] => by simp [hc]
  | a :: r => by
    rw [List.cons_append, List.takeWhile_cons, List.takeWhile_cons, take_app hc r]
theorem wrap_word {k : Int} (h0 : 0 ≤ k) (h1 : k ≤ strLen s) : wordM (wrapS s) (k + 1) = wordM s k := by
  unfold wordM
  rw [wrap_drop h0 h1, take_app (by decide)]
theorem wrap_call {k : Int} (h0 : 0 ≤ k) (h1 : k ≤ strLen s) : callB (wrapS s) (k + 1) = callB s k := by
  have hw := wordM_le s h0 h1
  unfold callB
  rw [wrap_word h0 h1, wrap_len]
  by_cases h : k + strLen (wordM s k) < strLen s
  · rw [decide_eq_true h, decide_eq_true (show k + 1 + strLen (wordM s k) < strLen s + 2 by omega), show k + 1 + strLen (wordM s k) = k + strLen (wordM s k) + 1 by omega, wrap_byte (by omega) h]
  · have e : k + 1 + strLen (wordM s k) = strLen s + 1 := by omega
    rw [decide_eq_false h, e, wrap_last]
    simp
theorem wrap_head {k : Int} (h0 : 0 ≤ k) (h1 : k < strLen s) : headM (wrapS s) (k + 1) = headM s k := by
  unfold headM
  rw [wrap_byte h0 h1, wrap_get h0 h1, wrap_word h0 (by omega), wrap_call h0 (by omega), wrap_len, if_neg (show ¬ k + 1 = strLen s + 2 by omega), if_neg (show ¬ k = strLen s by omega)]
theorem ahead_wrap (x : Str) : opAhead (x ++ [41]) = opAhead x := by
  match x with
  | [] => rfl
  | [a] =>
    have e2 : twoOp a 41 = 0 := by unfold twoOp; rw [if_neg (by decide)]
    show opAhead [a, 41] = opAhead [a]
    simp only [opAhead, e2, if_true]
  | a :: b :: r => rfl
theorem wrap_oper {k p : Int} (h0 : 0 ≤ k) (h1 : k ≤ strLen s) (hp : 1 ≤ p) (hp5 : p ≤ 5) : operM ((wrapS s).drop (k + 1).toNat) p = operM (s.drop k.toNat) p := by
  rw [wrap_drop h0 h1, oper_ahead _ p hp hp5, oper_ahead _ p hp hp5, ahead_wrap]
theorem wrap_numEnd {k : Int} (h0 : 0 ≤ k) (h1 : k < strLen s) : numEnd (wrapS s) (k + 1) = numEnd s k + 1 := by
  unfold numEnd
  rw [wrap_byte h0 h1, wrap_drop h0 (by omega), take_app (by decide)]
  split <;> omega
theorem wrap_num {k : Int} (h0 : 0 ≤ k) (h1 : k < strLen s) (hd : isD (s.getD k.toNat 0) = true) : numText (wrapS s) (k + 1) = numText s k ∧ numImag (wrapS s) (k + 1) = numImag s k := by
  have hb := numEnd_bounds h0 h1 hd
  have hL : strLen s = (s.length : Int) := rfl
  have he := wrap_numEnd h0 h1
  constructor
  · unfold numText
    rw [he]
    have e : (numEnd s k + 1).toNat = (numEnd s k).toNat + 1 := by omega
    have e2 : wrapS s = 40 :: (s ++ [41]) := rfl
    have e3 : (k + 1).toNat = k.toNat + 1 := by omega
    rw [e, e3, e2, List.take_succ_cons, List.drop_succ_cons, List.take_append_of_le_length (by omega)]
  · unfold numImag
    rw [he, wrap_len]
    by_cases h : numEnd s k < strLen s
    · rw [decide_eq_true h, decide_eq_true (show numEnd s k + 1 < strLen s + 2 by omega), wrap_byte (by omega) h]
    · have e : numEnd s k + 1 = strLen s + 1 := by omega
      rw [decide_eq_false h, e, wrap_last]; simp
theorem sh_pos (r : Rd) : (sh r).pos = r.pos + 1 := rfl
theorem sh_bad {r : Rd} (h : r.bad < 0) : (sh r).bad = r.bad := by unfold sh; simp only; rw [if_pos h]
theorem sh_to (r : Rd) (k : Int) : (sh r).to (k + 1) = sh (r.to k) := rfl
theorem sh_emit (r : Rd) (c : Cell) : (sh r).emit c = sh (r.emit c) := rfl
theorem sh_wrong {r : Rd} {k : Int} (h : r.bad < 0) (hk : 0 ≤ k) : (sh r).wrong (k + 1) = sh (r.wrong k) := by
  unfold sh Rd.wrong
  simp only [h, if_true]
  rw [if_neg (by omega)]
theorem sh_close {q : Rd} (h : Ok s q) (hb : (closeR s q).bad < strLen s) : closeR (wrapS s) (sh q) = sh (closeR s q) := by
  have hq := h.bad
  have h0 := h.low
  have h1 := h.high
  by_cases hc : q.pos = strLen s ∨ byteAt s q.pos ≠ 41
  · have e : closeR s q = (q.wrong q.pos).to (q.pos + 1) := by unfold closeR; rw [if_pos ⟨by omega, hc⟩]
    have eb : (closeR s q).bad = q.pos := by rw [e]; simp only [Rd.to, Rd.wrong]; rw [if_pos (by omega)]
    have hlt : q.pos < strLen s := by omega
    have hc2 : byteAt s q.pos ≠ 41 := by rcases hc with hx | hx; omega; exact hx
    rw [e]
    unfold closeR
    rw [if_pos]
    · rw [sh_pos, sh_wrong (by omega) h0]; rfl
    · rw [sh_bad (by omega), sh_pos, wrap_len, wrap_byte h0 hlt]
      exact ⟨by omega, .inr hc2⟩
  · have hlt : q.pos < strLen s := by
      have : q.pos ≠ strLen s := fun e => hc (.inl e)
      omega
    have h41 : byteAt s q.pos = 41 := Classical.byContradiction fun e => hc (.inr e)
    have e : closeR s q = q.to (q.pos + 1) := by unfold closeR; rw [if_neg (fun h => hc h.2)]
    rw [e]
    unfold closeR
    rw [if_neg]
    · rfl
    · rw [sh_bad (by omega), sh_pos, wrap_len, wrap_byte h0 hlt]
      rintro ⟨_, hx | hx⟩
      · omega
      · exact hx h41
theorem sh_close_bad {q : Rd} (h : 0 ≤ q.bad) : closeR (wrapS s) (sh q) = sh (closeR s q) := by
  have h2 : 0 ≤ (sh q).bad := by unfold sh; simp only; rw [if_neg (by omega)]; omega
  rw [closeR_bad h, closeR_bad h2]; rfl
theorem sh_leaf {r : Rd} (hok : Ok s r) (hl : r.pos < strLen s) (hb : (leafR s r).bad < strLen s) : leafR (wrapS s) (sh r) = sh (leafR s r) := by
  have h0 := hok.low
  have hbad := hok.bad
  unfold leafR at hb ⊢
  rw [sh_pos, wrap_get h0 hl, wrap_word h0 (by omega), wrap_call h0 (by omega)]
  split
  · rename_i hd
    rw [if_pos hd] at hb
    obtain ⟨n1, n2⟩ := wrap_num h0 hl hd
    have n3 := wrap_numEnd h0 hl
    have n4 : numC (wrapS s) (r.pos + 1) = numC s r.pos := by unfold numC; rw [n1, n2]
    unfold numberR
    rw [sh_pos, n1, n4, n2, n3]
    split
    · exact sh_wrong (by omega) h0
    · rw [← sh_emit]
      cases numImag s r.pos
      · rfl
      · rfl
  · rename_i hd
    rw [if_neg hd] at hb
    split
    · rw [← sh_to, ← sh_emit, show r.pos + 4 + 1 = r.pos + 1 + 4 by omega]
    · rename_i hw1
      rw [if_neg hw1] at hb
      split
      · rw [← sh_to, ← sh_emit, show r.pos + 5 + 1 = r.pos + 1 + 5 by omega]
      · rename_i hw2
        rw [if_neg hw2] at hb
        split
        · rename_i hi
          rw [if_pos hi] at hb
          obtain ⟨hw2', hc⟩ := hi
          have e2 : strLen inS = 2 := by decide
          simp only [callB, hw2', e2, Bool.and_eq_true, decide_eq_true_eq] at hc
          have hw3 := wordM_le s (k := r.pos + 3) (by omega) (by omega)
          unfold inR at hb ⊢
          rw [sh_pos, show r.pos + 1 + 3 = r.pos + 3 + 1 by omega, wrap_word (by omega) (by omega)]
          split
          · rename_i hn
            rw [if_pos hn] at hb
            rw [sh_to]; exact sh_wrong (by show r.bad < 0; omega) (by omega)
          · rename_i hn
            rw [if_neg hn] at hb
            rw [← sh_emit, show r.pos + 3 + 1 + strLen (wordM s (r.pos + 3)) = r.pos + 3 + strLen (wordM s (r.pos + 3)) + 1 by omega, sh_to]
            have hq : Ok s (r.to (r.pos + 3 + strLen (wordM s (r.pos + 3)))) := ⟨hbad, by simp only [Rd.to]; omega, by simp only [Rd.to]; omega⟩
            rw [sh_close hq hb]
        · rename_i hi
          rw [if_neg hi] at hb
          split
          · rw [← sh_to, ← sh_emit, show r.pos + strLen (wordM s r.pos) + 1 = r.pos + 1 + strLen (wordM s r.pos) by omega]
          · exact sh_wrong (by omega) h0
theorem sh_end {p : Int} {r : Rd} (h1 : 1 ≤ p) (h5 : p ≤ 5) (hr : Ok s r ∨ 0 ≤ r.bad) : atEnd (wrapS s) p (sh r) ↔ atEnd s p r := by
  unfold atEnd
  rcases hr with h | h
  · have := h.bad
    rw [sh_bad (by omega), sh_pos, wrap_oper h.low h.high h1 h5]
  · have h2 : 0 ≤ (sh r).bad := by unfold sh; simp only; rw [if_neg (by omega)]; omega
    constructor
    · intro _ hx; omega
    · intro _ hx; omega
def ShT (s : Str) : Task → Rd → Rd → Prop
  | .bin p, r, o => Ok s r → o.bad < strLen s → Run (wrapS s) (.bin p) (sh r) (sh o)
  | .una, r, o => Ok s r → o.bad < strLen s → Run (wrapS s) .una (sh r) (sh o)
  | .loop p, r, o => Ok s r ∨ 0 ≤ r.bad → o.bad < strLen s → 1 ≤ p → p ≤ 5 → Run (wrapS s) (.loop p) (sh r) (sh o)
theorem Run.sh_run {t : Task} {r o : Rd} (h : Run s t r o) : ShT s t r o := by
  induction h with
  | six _ ih => intro hok hb; exact .six (ih hok hb)
  | @bin p r q o h1 h5 hr hl ih1 ih2 =>
    intro hok hb
    rcases hr.inv hok with ⟨g1, _⟩ | ⟨_, g2, _⟩
    · exact .bin h1 h5 (ih1 hok (by have := g1.bad; have := g1.low; have := g1.high; omega)) (ih2 (.inl g1) hb h1 h5)
    · have := hl.stop g2
      subst this
      exact .bin h1 h5 (ih1 hok hb) (ih2 (.inr g2) hb h1 h5)
  | @done p r he =>
    intro hok hb h1 h5
    exact .done ((sh_end h1 h5 hok).2 he)
  | @more p r q o h1 h5 h3 hn hr hl ih1 ih2 =>
    intro hok' hb _ _
    have hbr : r.bad < 0 := (Classical.not_not.1 hn).1
    have hok : Ok s r := by rcases hok' with h | h; exact h; omega
    obtain ⟨f1, f2, f3, f4, f5, f6, f7⟩ := oper_facts h1 h5 hok.low hok.high hn
    have hlow := hok.low
    have hok1 : Ok s (r.to (r.pos + (operM (s.drop r.pos.toNat) p).2)) := ⟨hok.bad, by simp only [Rd.to]; omega, by simp only [Rd.to]; omega⟩
    have hop := wrap_oper hok.low hok.high h1 h5
    have hn' : ¬ atEnd (wrapS s) p (sh r) := fun hx => hn ((sh_end h1 h5 hok').1 hx)
    have eto : (sh r).to ((sh r).pos + (operM ((wrapS s).drop (sh r).pos.toNat) p).2) = sh (r.to (r.pos + (operM (s.drop r.pos.toNat) p).2)) := by
      rw [sh_pos, hop, show r.pos + 1 + (operM (s.drop r.pos.toNat) p).2 = r.pos + (operM (s.drop r.pos.toNat) p).2 + 1 by omega]; rfl
    have eem : (sh q).emit ⟨(operM ((wrapS s).drop (sh r).pos.toNat) p).1, 0, []⟩ = sh (q.emit ⟨(operM (s.drop r.pos.toNat) p).1, 0, []⟩) := by rw [sh_pos, hop]; rfl
    rcases hr.inv hok1 with ⟨g1, _⟩ | ⟨_, g2, _⟩
    · refine .more h1 h5 h3 hn' (by rw [eto]; exact ih1 hok1 (by have := g1.bad; have := g1.low; have := g1.high; omega)) ?_
      rw [eem]; exact ih2 (.inl g1.emit) hb h1 h5
    · have := hl.stop (r := _) g2
      subst this
      refine .more h1 h5 h3 hn' (by rw [eto]; exact ih1 hok1 hb) ?_
      rw [eem]; exact ih2 (.inr g2) hb h1 h5
  | @once r q hn hr ih1 =>
    intro hok' hb _ _
    have hbr : r.bad < 0 := (Classical.not_not.1 hn).1
    have hok : Ok s r := by rcases hok' with h | h; exact h; omega
    obtain ⟨f1, f2, f3, f4, f5, f6, f7⟩ := oper_facts (by omega) (by omega) hok.low hok.high hn
    have hlow := hok.low
    have hok1 : Ok s (r.to (r.pos + (operM (s.drop r.pos.toNat) 3).2)) := ⟨hok.bad, by simp only [Rd.to]; omega, by simp only [Rd.to]; omega⟩
    have hop := wrap_oper (p := 3) hok.low hok.high (by omega) (by omega)
    have hn' : ¬ atEnd (wrapS s) 3 (sh r) := fun hx => hn ((sh_end (by omega) (by omega) hok').1 hx)
    have eto : (sh r).to ((sh r).pos + (operM ((wrapS s).drop (sh r).pos.toNat) 3).2) = sh (r.to (r.pos + (operM (s.drop r.pos.toNat) 3).2)) := by
      rw [sh_pos, hop, show r.pos + 1 + (operM (s.drop r.pos.toNat) 3).2 = r.pos + (operM (s.drop r.pos.toNat) 3).2 + 1 by omega]; rfl
    have eem : (sh q).emit ⟨(operM ((wrapS s).drop (sh r).pos.toNat) 3).1, 0, []⟩ = sh (q.emit ⟨(operM (s.drop r.pos.toNat) 3).1, 0, []⟩) := by rw [sh_pos, hop]; rfl
    have := Run.once (s := wrapS s) (r := sh r) (q := sh q) hn' (by rw [eto]; exact ih1 hok1 hb)
    rw [eem] at this; exact this
  | @lost r hl =>
    intro hok hb
    exfalso
    have hbr := hok.bad
    have := hok.low
    have hf : headM s r.pos = .fin := by rcases hl with h | h; omega; exact h
    have e : (r.wrong r.pos).bad = r.pos := by simp only [Rd.wrong]; rw [if_pos (by omega)]
    have hne : r.pos < strLen s := by omega
    unfold headM at hf
    rw [if_neg (by omega)] at hf
    repeat' (split at hf)
    all_goals (cases hf)
  | @sign r q op hb0 hh hr ih =>
    intro hok hb
    have hlt := hok.lt (fun x e => by rw [hh] at e; subst e; simp)
    have hlow := hok.low
    have hok1 : Ok s (r.to (r.pos + 1)) := ⟨hok.bad, by simp only [Rd.to]; omega, by simp only [Rd.to]; omega⟩
    exact Run.sign (r := sh r) (q := sh q) (by rw [sh_bad hb0]; exact hb0) (by rw [sh_pos, wrap_head hlow hlt]; exact hh) (ih hok1 hb)
  | @leaf r hb0 hh =>
    intro hok hb
    have hlt := hok.lt (fun x e => by rw [hh] at e; subst e; simp)
    rw [← sh_leaf hok hlt hb]
    exact Run.leaf (r := sh r) (by rw [sh_bad hb0]; exact hb0) (by rw [sh_pos, wrap_head hok.low hlt]; exact hh)
  | @par r q hb0 hh hr ih =>
    intro hok hb
    have hlt := hok.lt (fun x e => by rw [hh] at e; subst e; simp)
    have hlow := hok.low
    have hok1 : Ok s (r.to (r.pos + 1)) := ⟨hok.bad, by simp only [Rd.to]; omega, by simp only [Rd.to]; omega⟩
    have hh' : headM (wrapS s) (sh r).pos = .par := by rw [sh_pos, wrap_head hlow hlt]; exact hh
    rcases hr.inv hok1 with ⟨g1, _⟩ | ⟨_, g2, _⟩
    · rw [← sh_close g1 hb]
      exact Run.par (r := sh r) (q := sh q) (by rw [sh_bad hb0]; exact hb0) hh' (ih hok1 (by have := g1.bad; have := g1.low; have := g1.high; omega))
    · rw [← sh_close_bad g2]
      exact Run.par (r := sh r) (q := sh q) (by rw [sh_bad hb0]; exact hb0) hh' (ih hok1 (by rw [closeR_bad g2] at hb; exact hb))
  | @call r q op hb0 hh hr ih =>
    intro hok hb
    have hlow := hok.low
    obtain ⟨_, _, _, _, _, _, hlt⟩ := callS hh
    have hok1 : Ok s (r.to (r.pos + 3)) := ⟨hok.bad, by simp only [Rd.to]; omega, by simp only [Rd.to]; omega⟩
    have hh' : headM (wrapS s) (sh r).pos = .call op := by rw [sh_pos, wrap_head hlow (by omega)]; exact hh
    have e3 : (sh r).to ((sh r).pos + 3) = sh (r.to (r.pos + 3)) := by rw [sh_pos, show r.pos + 1 + 3 = r.pos + 3 + 1 by omega]; rfl
    rcases hr.inv hok1 with ⟨g1, _⟩ | ⟨_, g2, _⟩
    · rw [← sh_emit, ← sh_close g1 hb]
      exact Run.call (r := sh r) (q := sh q) (by rw [sh_bad hb0]; exact hb0) hh' (by rw [e3]; exact ih hok1 (by have := g1.bad; have := g1.low; have := g1.high; omega))
    · rw [← sh_emit, ← sh_close_bad g2]
      exact Run.call (r := sh r) (q := sh q) (by rw [sh_bad hb0]; exact hb0) hh' (by rw [e3]; exact ih hok1 (by have hb' : (closeR s q).bad < strLen s := hb; rw [closeR_bad g2] at hb'; exact hb'))
/-- The whole, in parentheses. -/
theorem wrap_run {o : Rd} (h : Run s (.bin 1) ⟨0, [], -1⟩ o) (hb : o.bad < strLen s) (he : 0 ≤ (closeR (wrapS s) (sh o)).bad ∨ (closeR (wrapS s) (sh o)).pos = strLen (wrapS s)) : runAll (wrapS s) = closeR (wrapS s) (sh o) := by
  have hL := wrap_len s
  have h0 : 0 ≤ strLen s := by simp [strLen]
  have hok : Ok s ⟨0, [], -1⟩ := ⟨rfl, Int.le_refl _, h0⟩
  have h1 := h.sh_run hok hb
  have e1 : sh ⟨0, [], -1⟩ = (⟨0, [], -1⟩ : Rd).to (0 + 1) := rfl
  have hh : headM (wrapS s) 0 = .par := by
    have e2 : wrapS s = 40 :: (s ++ [41]) := rfl
    unfold headM
    rw [if_neg (by omega), e2, if_neg (by simp [byteAt]), if_neg (by simp [byteAt]), if_neg (by simp [isD]), if_pos (by simp [byteAt])]
  have hu := Run.par (s := wrapS s) (r := ⟨0, [], -1⟩) (by show (-1 : Int) < 0; omega) hh (by rw [e1] at h1; exact h1)
  refine run_is (down 5 1 6 _ _ (by omega) (by omega) (by omega) (.six hu) fun j hj hj2 => ?_)
  rintro ⟨hx, hy⟩
  rcases he with he | he
  · omega
  · have e : (wrapS s).drop (closeR (wrapS s) (sh o)).pos.toNat = [] := by
      rw [he]
      refine List.drop_eq_nil_of_le ?_
      have : strLen (wrapS s) = ((wrapS s).length : Int) := rfl
      omega
    rw [e, oper_ahead _ j (by omega) (by omega)] at hy
    split at hy
    · exact hy rfl
    · exact hy rfl
theorem wrap_ok (h : (parseE s).2.2 = 0) (hl : strLen s ≤ 500) : parseE (wrapS s) = parseE s := by
  have hok : Ok s ⟨0, [], -1⟩ := ⟨rfl, Int.le_refl _, by simp [strLen]⟩
  have hinv := (runAll_run s).inv hok
  have hL := wrap_len s
  unfold parseE at h
  split at h
  · exact absurd (show (4 : Int) = 0 from h) (by decide)
  · rename_i h1
    split at h
    · exact absurd (show (1 : Int) = 0 from h) (by decide)
    · rename_i h2
      split at h
      · exact absurd (show (1 : Int) = 0 from h) (by decide)
      · rename_i h3
        split at h
        · exact absurd (show (4 : Int) = 0 from h) (by decide)
        · rename_i h4
          rcases hinv with ⟨g1, _⟩ | ⟨_, g2, _⟩
          · have hb := g1.bad; have hlo := g1.low; have hhi := g1.high
            have hpos : (runAll s).pos = strLen s := by omega
            have hc : closeR (wrapS s) (sh (runAll s)) = ⟨strLen s + 2, (runAll s).out, -1⟩ := by
              unfold closeR
              rw [if_neg]
              · show (⟨(runAll s).pos + 1 + 1, (runAll s).out, if (runAll s).bad < 0 then (runAll s).bad else (runAll s).bad + 1⟩ : Rd) = _
                rw [hpos, hb, if_pos (by omega), show strLen s + 1 + 1 = strLen s + 2 by omega]
              · rw [sh_pos, hpos, wrap_last, wrap_len]
                rintro ⟨_, hx | hx⟩
                · omega
                · exact hx rfl
            have hr := wrap_run (runAll_run s) (by omega) (by rw [hc, hL]; exact .inr rfl)
            rw [hc] at hr
            unfold parseE
            rw [hr, if_neg (by omega), if_neg (show ¬ (-1 : Int) ≥ 0 by omega), if_neg (show ¬ strLen s + 2 < strLen (wrapS s) by omega), if_neg h4, if_neg h1, if_neg h2, if_neg h3]
          · omega
/-- A fault ahead of the end, that is no closing parenthesis, is told one place behind. -/
theorem wrap_bad (h : (parseE s).2.2 = 1) (hl : strLen s ≤ 500) (hp : (parseE s).2.1 < strLen s) (hc : byteAt s (parseE s).2.1 ≠ 41) : (parseE (wrapS s)).2.1 = (parseE s).2.1 + 1 ∧ (parseE (wrapS s)).2.2 = 1 := by
  have hok : Ok s ⟨0, [], -1⟩ := ⟨rfl, Int.le_refl _, by simp [strLen]⟩
  have hinv := (runAll_run s).inv hok
  have hL := wrap_len s
  have hd : 0 ≤ (closeR (wrapS s) (sh (runAll s))).bad ∧ (closeR (wrapS s) (sh (runAll s))).bad = (parseE s).2.1 + 1 ∧ (runAll s).bad < strLen s := by
    unfold parseE at h hp hc ⊢
    split at h
    · exact absurd h (by decide)
    · rename_i h1
      rw [if_neg h1] at hp hc ⊢
      split at h
      · rename_i h2
        rw [if_pos h2] at hp hc ⊢
        have h2' : 0 ≤ (runAll s).bad := h2
        rw [sh_close_bad h2', closeR_bad h2']
        have e : (sh ⟨(runAll s).pos + 1, (runAll s).out, (runAll s).bad⟩).bad = (runAll s).bad + 1 := by unfold sh; simp only; rw [if_neg (by omega)]
        rw [e]
        exact ⟨by omega, rfl, hp⟩
      · rename_i h2
        rw [if_neg h2] at hp hc ⊢
        split at h
        · rename_i h3
          rw [if_pos h3] at hp hc ⊢
          rcases hinv with ⟨g1, _⟩ | ⟨_, g2, _⟩
          · have hb := g1.bad; have hlo := g1.low
            have e : (closeR (wrapS s) (sh (runAll s))).bad = (runAll s).pos + 1 := by
              unfold closeR
              rw [if_pos]
              · rw [sh_pos, sh_wrong (by omega) hlo]
                show (sh ((runAll s).wrong (runAll s).pos)).bad = _
                have : ((runAll s).wrong (runAll s).pos).bad = (runAll s).pos := by simp only [Rd.wrong]; rw [if_pos (by omega)]
                unfold sh; simp only; rw [this, if_neg (by omega)]
              · rw [sh_bad (by omega), sh_pos, wrap_byte hlo h3]
                exact ⟨by omega, .inr hc⟩
            rw [e]
            exact ⟨by omega, rfl, by omega⟩
          · omega
        · split at h
          · exact absurd (show (4 : Int) = 1 from h) (by decide)
          · exact absurd (show (0 : Int) = 1 from h) (by decide)
  obtain ⟨d1, d2, d3⟩ := hd
  have hr := wrap_run (runAll_run s) d3 (.inl d1)
  unfold parseE at d2 ⊢
  rw [hr, if_neg (by omega), if_pos d1]
  exact ⟨by rw [d2], rfl⟩
end Go.Proofs.YtjndellhebidoaaDoor

/- Expressions read: bounds, one result, a result always. Conditions: none. Expressions read by the document's two lists, as a plain relation; both readers agree. Conditions: none. Numbers read by the document. Conditions: texts of at most 2^48 bytes. -/
import Derived.Test.YtjndellhebidoaaGreatDoorMa
import Derived.Test.YtjndellhebidoaaGreatDoorKi
namespace Go.Proofs.YtjndellhebidoaaGreatDoor
open Go Go.Ev
set_option maxRecDepth 100000
variable {s : Str}
theorem Run.stop {p : Int} {r o : Rd} (h : Run s (.loop p) r o) (hb : 0 ≤ r.bad) : o = r := by
  cases h with
  | done _ => rfl
  | more _ _ _ hn => exact absurd (fun h => by omega) hn
  | once hn => exact absurd (fun h => by omega) hn
structure Ok (s : Str) (r : Rd) : Prop where
  bad : r.bad = -1
  low : 0 ≤ r.pos
  high : r.pos ≤ strLen s
def Left (s : Str) (r o : Rd) : Prop :=
  (Ok s o ∧ r.pos ≤ o.pos ∧ (o.out.length : Int) ≤ r.out.length + (o.pos - r.pos)) ∨
  (r.pos ≤ o.bad ∧ 0 ≤ o.bad ∧ o.bad ≤ strLen s ∧ 0 ≤ o.pos ∧ o.pos ≤ o.bad + (o.bad - r.pos) + 1 ∧ (o.out.length : Int) ≤ r.out.length + (o.bad - r.pos))
theorem wordM_le (s : Str) {k : Int} (h0 : 0 ≤ k) (h1 : k ≤ strLen s) : 0 ≤ strLen (wordM s k) ∧ k + strLen (wordM s k) ≤ strLen s := by
  have h : (wordM s k).length ≤ (s.drop k.toNat).length := (List.takeWhile_sublist _).length_le
  rw [List.length_drop] at h
  simp only [strLen] at *
  omega
theorem take_digits (s : Str) (k : Int) : strLen ((s.drop k.toNat).takeWhile isD) ≤ ((s.drop k.toNat).length : Int) := by
  have h : ((s.drop k.toNat).takeWhile isD).length ≤ (s.drop k.toNat).length := (List.takeWhile_sublist _).length_le
  simp only [strLen]; omega
theorem drop_at {s : Str} {k : Int} (h0 : 0 ≤ k) (h1 : k < strLen s) : s.drop k.toNat = s.getD k.toNat 0 :: s.drop (k.toNat + 1) := by
  have h : k.toNat < s.length := by simp only [strLen] at h1; omega
  rw [List.drop_eq_getElem_cons h, List.getD_eq_getElem?_getD, List.getElem?_eq_getElem h]; rfl
theorem numEnd_bounds {k : Int} (h0 : 0 ≤ k) (h1 : k < strLen s) (hd : isD (s.getD k.toNat 0) = true) : k + 1 ≤ numEnd s k ∧ numEnd s k ≤ strLen s := by
  unfold numEnd
  split
  · omega
  · have h := take_digits s k
    have h2 : 1 ≤ strLen ((s.drop k.toNat).takeWhile isD) := by
      rw [drop_at h0 h1, List.takeWhile_cons, if_pos hd]
      simp only [strLen, List.length_cons]; omega
    rw [List.length_drop] at h
    simp only [strLen] at *
    omega
theorem nameM_pos {w : Str} (h : nameM w = true) : 1 ≤ strLen w := by
  cases w with
  | nil => revert h; decide
  | cons a r => simp only [strLen, List.length_cons]; omega
theorem Ok.lt {r : Rd} (h : Ok s r) (hn : ∀ x, headM s r.pos = x → x ≠ .fin) : r.pos < strLen s := by
  have h1 : r.pos ≠ strLen s := fun e => hn .fin (by unfold headM; rw [if_pos e]) rfl
  have := h.high; omega
theorem wrong_left {r o : Rd} {k : Int} (h : Ok s r) (h0 : r.pos ≤ k) (hk : k ≤ strLen s) (hb : o.bad = -1) (ho : o.out = r.out) (hp : o.pos = k) : Left s r (o.wrong k) := by
  right
  have hl := h.low
  have e1 : (o.wrong k).bad = k := by simp [Rd.wrong, hb]
  have e2 : (o.wrong k).pos = k := hp
  have e3 : (o.wrong k).out = r.out := ho
  rw [e1, e2, e3]
  refine ⟨h0, by omega, hk, by omega, by omega, by omega⟩
theorem closeR_ok {q : Rd} (hq : Ok s q) : (Ok s (closeR s q) ∧ (closeR s q).pos = q.pos + 1 ∧ (closeR s q).out = q.out ∧ q.pos < strLen s ∧ byteAt s q.pos = 41) ∨ ((closeR s q).bad = q.pos ∧ (closeR s q).pos = q.pos + 1 ∧ (closeR s q).out = q.out) := by
  obtain ⟨hb, h0, h1⟩ := hq
  unfold closeR
  by_cases h : q.pos = strLen s ∨ byteAt s q.pos ≠ 41
  · right
    rw [if_pos ⟨by omega, h⟩]
    refine ⟨?_, rfl, rfl⟩
    simp [Rd.to, Rd.wrong, hb]
  · left
    rw [if_neg (fun hh => h hh.2)]
    have h2 : q.pos ≠ strLen s := fun e => h (.inl e)
    refine ⟨⟨hb, ?_, ?_⟩, rfl, rfl, by omega, ?_⟩
    · show 0 ≤ q.pos + 1; omega
    · show q.pos + 1 ≤ strLen s; omega
    · exact Classical.byContradiction fun e => h (.inr e)
theorem closeR_bad {q : Rd} (hq : 0 ≤ q.bad) : closeR s q = ⟨q.pos + 1, q.out, q.bad⟩ := by
  unfold closeR
  rw [if_neg (fun h => by omega)]; rfl
theorem leaf_left {r : Rd} (h : Ok s r) (hl : r.pos < strLen s) : Left s r (leafR s r) := by
  obtain ⟨hb, h0, h1⟩ := id h
  have hw := wordM_le s h0 h1
  unfold leafR
  split
  · rename_i hd
    have hn := numEnd_bounds h0 hl hd
    unfold numberR
    split
    · exact wrong_left h (Int.le_refl _) h1 hb rfl rfl
    · left
      have himg : numImag s r.pos = true → numEnd s r.pos + 1 ≤ strLen s := by
        intro hi
        simp only [numImag, Bool.and_eq_true, decide_eq_true_eq] at hi
        omega
      refine ⟨⟨hb, ?_, ?_⟩, ?_, ?_⟩
      · show 0 ≤ (if numImag s r.pos = true then numEnd s r.pos + 1 else numEnd s r.pos); split <;> omega
      · show (if numImag s r.pos = true then numEnd s r.pos + 1 else numEnd s r.pos) ≤ _
        split
        · rename_i hi; exact himg hi
        · omega
      · show r.pos ≤ (if numImag s r.pos = true then numEnd s r.pos + 1 else numEnd s r.pos); split <;> omega
      · show (((r.out ++ [numC s r.pos]).length : Nat) : Int) ≤ r.out.length + ((if numImag s r.pos = true then numEnd s r.pos + 1 else numEnd s r.pos) - r.pos)
        rw [List.length_append]
        have : ([numC s r.pos] : List Cell).length = 1 := rfl
        split <;> omega
  · split
    · rename_i hw4
      rw [hw4] at hw
      have e4 : strLen trueS = 4 := by decide
      rw [e4] at hw
      left
      refine ⟨⟨hb, by show 0 ≤ r.pos + 4; omega, by show r.pos + 4 ≤ _; omega⟩, by show r.pos ≤ r.pos + 4; omega, ?_⟩
      show (((r.out ++ [(⟨3, 0, []⟩ : Cell)]).length : Nat) : Int) ≤ r.out.length + (r.pos + 4 - r.pos)
      rw [List.length_append]; simp only [List.length_cons, List.length_nil]; omega
    · split
      · rename_i hw5
        rw [hw5] at hw
        have e5 : strLen falseS = 5 := by decide
        rw [e5] at hw
        left
        refine ⟨⟨hb, by show 0 ≤ r.pos + 5; omega, by show r.pos + 5 ≤ _; omega⟩, by show r.pos ≤ r.pos + 5; omega, ?_⟩
        show (((r.out ++ [(⟨4, 0, []⟩ : Cell)]).length : Nat) : Int) ≤ r.out.length + (r.pos + 5 - r.pos)
        rw [List.length_append]; simp only [List.length_cons, List.length_nil]; omega
      · split
        · rename_i hin
          obtain ⟨hw2, hc⟩ := hin
          have e2 : strLen inS = 2 := by decide
          simp only [callB, hw2, e2, Bool.and_eq_true, decide_eq_true_eq] at hc
          have hw3 := wordM_le s (k := r.pos + 3) (by omega) (by omega)
          unfold inR
          split
          · refine wrong_left (o := r.to (r.pos + 3)) h (by omega) (by omega) hb rfl rfl
          · rename_i hnm
            have hnp := nameM_pos (by simpa using hnm)
            have hq : Ok s (r.to (r.pos + 3 + strLen (wordM s (r.pos + 3)))) := ⟨hb, by show 0 ≤ r.pos + 3 + _; omega, by show r.pos + 3 + _ ≤ _; omega⟩
            rcases closeR_ok hq with ⟨g1, g2, g3, g4, _⟩ | ⟨g1, g2, g3⟩
            · left
              simp only [Rd.to] at g2 g3 g4
              refine ⟨⟨g1.bad, g1.low, g1.high⟩, ?_, ?_⟩
              · show r.pos ≤ (closeR s _).pos
                simp only [Rd.to] at *; omega
              · show ((((closeR s _).out ++ [_]).length : Nat) : Int) ≤ _ + ((closeR s _).pos - r.pos)
                simp only [Rd.to] at *
                rw [g3, g2, List.length_append]; simp only [List.length_cons, List.length_nil]; omega
            · right
              simp only [Rd.to] at g1 g2 g3
              simp only [Rd.emit, Rd.to, g1, g2, g3, List.length_append, List.length_cons, List.length_nil]
              omega
        · split
          · rename_i hnm
            have hnp := nameM_pos hnm
            left
            refine ⟨⟨hb, by show 0 ≤ r.pos + _; omega, by show r.pos + _ ≤ _; omega⟩, by show r.pos ≤ r.pos + _; omega, ?_⟩
            show (((r.out ++ [(⟨5, 0, wordM s r.pos⟩ : Cell)]).length : Nat) : Int) ≤ r.out.length + (r.pos + strLen (wordM s r.pos) - r.pos)
            rw [List.length_append]; simp only [List.length_cons, List.length_nil]; omega
          · exact wrong_left h (Int.le_refl _) h1 hb rfl rfl
theorem oper_facts {p : Int} {r : Rd} (h1 : 1 ≤ p) (h5 : p ≤ 5) (h0 : 0 ≤ r.pos) (hh : r.pos ≤ strLen s) (hn : ¬ atEnd s p r) : r.bad < 0 ∧ opAhead (s.drop r.pos.toNat) = operM (s.drop r.pos.toNat) p ∧ (signM (operM (s.drop r.pos.toNat) p).1).2 = p ∧ 11 ≤ (operM (s.drop r.pos.toNat) p).1 ∧ (operM (s.drop r.pos.toNat) p).1 ≤ 23 ∧ 1 ≤ (operM (s.drop r.pos.toNat) p).2 ∧ r.pos + (operM (s.drop r.pos.toNat) p).2 ≤ strLen s := by
  unfold atEnd at hn
  have hn' := Classical.not_not.1 hn
  have hx := hn'.2
  rw [oper_ahead _ p h1 h5] at hx ⊢
  by_cases hp : (signM (opAhead (s.drop r.pos.toNat)).1).2 = p
  · rw [if_pos hp] at hx ⊢
    rcases ahead_facts (s.drop r.pos.toNat) with e | ⟨g1, g2, g3, g4, g5, g6, g7⟩
    · rw [e] at hx; exact absurd rfl hx
    · simp only [strLen, List.length_drop] at g4 hh ⊢
      exact ⟨hn'.1, trivial, hp, g1, g2, g3, by omega⟩
  · rw [if_neg hp] at hx; exact absurd rfl hx
theorem Ok.emit {r : Rd} {c : Cell} (h : Ok s r) : Ok s (r.emit c) := ⟨h.bad, h.low, h.high⟩
theorem callS {s : Str} {k op : Int} (h : headM s k = .call op) : (wordM s k = reS ∧ op = 9 ∨ wordM s k = imS ∧ op = 10) ∧ callB s k = true ∧ byteAt s k ≠ 45 ∧ byteAt s k ≠ 33 ∧ byteAt s k ≠ 40 ∧ isD (s.getD k.toNat 0) = false ∧ k + 3 ≤ strLen s := by
  unfold headM at h
  split at h; cases h
  split at h; cases h
  split at h; cases h
  split at h; cases h
  split at h; cases h
  rename_i h1 h2 h3 h4 h5
  split at h
  · rename_i h6
    cases h
    refine ⟨.inl ⟨h6.1, rfl⟩, h6.2, h2, h3, h5, by simpa using h4, ?_⟩
    have hc := h6.2
    have e2 : strLen reS = 2 := by decide
    simp only [callB, h6.1, e2, Bool.and_eq_true, decide_eq_true_eq] at hc
    omega
  · split at h
    · rename_i h6
      cases h
      refine ⟨.inr ⟨h6.1, rfl⟩, h6.2, h2, h3, h5, by simpa using h4, ?_⟩
      have hc := h6.2
      have e2 : strLen imS = 2 := by decide
      simp only [callB, h6.1, e2, Bool.and_eq_true, decide_eq_true_eq] at hc
      omega
    · cases h
theorem Run.inv {t : Task} {r o : Rd} (h : Run s t r o) : Ok s r → Left s r o := by
  induction h with
  | six _ ih => exact ih
  | bin h1 h5 hr hl ih1 ih2 =>
    intro hok
    rcases ih1 hok with ⟨g1, g2, g3⟩ | g
    · rcases ih2 g1 with ⟨k1, k2, k3⟩ | ⟨k1, k2, k3, k4, k5, k6⟩
      · exact .inl ⟨k1, by omega, by omega⟩
      · exact .inr ⟨by omega, k2, k3, k4, by omega, by omega⟩
    · have := hl.stop g.2.1
      subst this; exact .inr g
  | done _ => intro hok; exact .inl ⟨hok, Int.le_refl _, by omega⟩
  | more h1 h5 hp hn hr hl ih1 ih2 =>
    intro hok
    obtain ⟨f1, _, _, _, _, f2, f3⟩ := oper_facts h1 h5 hok.low hok.high hn
    have hlow := hok.low
    rcases ih1 ⟨hok.bad, by simp only [Rd.to]; omega, by simp only [Rd.to]; omega⟩ with ⟨g1, g2, g3⟩ | ⟨g1, g2, g3, g4, g5, g6⟩
    · simp only [Rd.to] at g2 g3
      rcases ih2 g1.emit with ⟨k1, k2, k3⟩ | ⟨k1, k2, k3, k4, k5, k6⟩
      · simp only [Rd.emit, List.length_append, List.length_cons, List.length_nil] at k2 k3
        exact .inl ⟨k1, by omega, by omega⟩
      · simp only [Rd.emit, List.length_append, List.length_cons, List.length_nil] at k1 k5 k6
        exact .inr ⟨by omega, k2, k3, k4, by omega, by omega⟩
    · have := hl.stop (r := _) g2
      subst this
      simp only [Rd.to] at g1 g5 g6
      right
      simp only [Rd.emit, List.length_append, List.length_cons, List.length_nil]
      exact ⟨by omega, g2, g3, g4, by omega, by omega⟩
  | once hn hr ih1 =>
    intro hok
    obtain ⟨f1, _, _, _, _, f2, f3⟩ := oper_facts (by omega) (by omega) hok.low hok.high hn
    have hlow := hok.low
    rcases ih1 ⟨hok.bad, by simp only [Rd.to]; omega, by simp only [Rd.to]; omega⟩ with ⟨g1, g2, g3⟩ | ⟨g1, g2, g3, g4, g5, g6⟩
    · simp only [Rd.to] at g2 g3
      left
      simp only [Rd.emit, List.length_append, List.length_cons, List.length_nil]
      exact ⟨⟨g1.bad, g1.low, g1.high⟩, by omega, by omega⟩
    · simp only [Rd.to] at g1 g5 g6
      right
      simp only [Rd.emit, List.length_append, List.length_cons, List.length_nil]
      exact ⟨by omega, g2, g3, g4, by omega, by omega⟩
  | lost h =>
    intro hok
    exact wrong_left hok (Int.le_refl _) hok.high hok.bad rfl rfl
  | sign hb hh hr ih =>
    intro hok
    have hlt := hok.lt (fun x e => by rw [hh] at e; subst e; simp)
    have hlow := hok.low
    rcases ih ⟨hok.bad, by simp only [Rd.to]; omega, by simp only [Rd.to]; omega⟩ with ⟨g1, g2, g3⟩ | ⟨g1, g2, g3, g4, g5, g6⟩
    · simp only [Rd.to] at g2 g3
      left
      simp only [Rd.emit, List.length_append, List.length_cons, List.length_nil]
      exact ⟨⟨g1.bad, g1.low, g1.high⟩, by omega, by omega⟩
    · simp only [Rd.to] at g1 g5 g6
      right
      simp only [Rd.emit, List.length_append, List.length_cons, List.length_nil]
      exact ⟨by omega, g2, g3, g4, by omega, by omega⟩
  | leaf hb hh =>
    intro hok
    exact leaf_left hok (hok.lt (fun x e => by rw [hh] at e; subst e; simp))
  | par hb hh hr ih =>
    intro hok
    have hlt := hok.lt (fun x e => by rw [hh] at e; subst e; simp)
    have hlow := hok.low
    rcases ih ⟨hok.bad, by simp only [Rd.to]; omega, by simp only [Rd.to]; omega⟩ with ⟨g1, g2, g3⟩ | ⟨g1, g2, g3, g4, g5, g6⟩
    · simp only [Rd.to] at g2 g3
      rcases closeR_ok g1 with ⟨k1, k2, k3, _⟩ | ⟨k1, k2, k3⟩
      · left; rw [k2, k3]; exact ⟨k1, by omega, by omega⟩
      · right; rw [k1, k2, k3]; have := g1.high; have := g1.low; exact ⟨by omega, by omega, by omega, by omega, by omega, by omega⟩
    · simp only [Rd.to] at g1 g5 g6
      rw [closeR_bad g2]
      right
      refine ⟨?_, g2, g3, ?_, ?_, ?_⟩ <;> dsimp only <;> omega
  | call hb hh hr ih =>
    intro hok
    obtain ⟨_, _, _, _, _, _, hlt⟩ := callS hh
    have hlow := hok.low
    rcases ih ⟨hok.bad, by simp only [Rd.to]; omega, by simp only [Rd.to]; omega⟩ with ⟨g1, g2, g3⟩ | ⟨g1, g2, g3, g4, g5, g6⟩
    · simp only [Rd.to] at g2 g3
      rcases closeR_ok g1 with ⟨k1, k2, k3, _⟩ | ⟨k1, k2, k3⟩
      · left
        simp only [Rd.emit, k2, k3, List.length_append, List.length_cons, List.length_nil]
        exact ⟨⟨k1.bad, by have := k1.low; simp only [k2] at this ⊢; exact this, by have := k1.high; simp only [k2] at this ⊢; exact this⟩, by omega, by omega⟩
      · right
        have := g1.high; have := g1.low
        simp only [Rd.emit, k1, k2, k3, List.length_append, List.length_cons, List.length_nil]
        exact ⟨by omega, by omega, by omega, by omega, by omega, by omega⟩
    · simp only [Rd.to] at g1 g5 g6
      rw [closeR_bad g2]
      right
      simp only [Rd.emit, List.length_append, List.length_cons, List.length_nil]
      exact ⟨by omega, g2, g3, by omega, by omega, by omega⟩
theorem Run.det {t : Task} {r o : Rd} (h : Run s t r o) : ∀ {o'}, Run s t r o' → o = o' := by
  induction h with
  | six _ ih => intro o' h'; cases h' with
    | six h2 => exact ih h2
    | bin _ h5 => omega
  | bin h1 h5 hr hl ih1 ih2 => intro o' h'; cases h' with
    | six h2 => omega
    | bin _ _ g1 g2 =>
      have := ih1 g1
      subst this; exact ih2 g2
  | done h => intro o' h'; cases h' with
    | done _ => rfl
    | more _ _ _ hn => exact absurd h hn
    | once hn => exact absurd h hn
  | more h1 h5 hp hn hr hl ih1 ih2 => intro o' h'; cases h' with
    | done h => exact absurd h hn
    | more _ _ _ _ g1 g2 =>
      have := ih1 g1
      subst this; exact ih2 g2
    | once _ => exact absurd rfl hp
  | once hn hr ih1 => intro o' h'; cases h' with
    | done h => exact absurd h hn
    | more _ _ hp => exact absurd rfl hp
    | once _ g1 =>
      have := ih1 g1
      subst this; rfl
  | lost h => intro o' h'; cases h' with
    | lost _ => rfl
    | sign hb hh => rcases h with h | h; omega; (rw [h] at hh; cases hh)
    | leaf hb hh => rcases h with h | h; omega; (rw [h] at hh; cases hh)
    | par hb hh => rcases h with h | h; omega; (rw [h] at hh; cases hh)
    | call hb hh => rcases h with h | h; omega; (rw [h] at hh; cases hh)
  | sign hb hh hr ih => intro o' h'; cases h' with
    | lost h => rcases h with h | h; omega; (rw [hh] at h; cases h)
    | sign _ h2 g =>
      rw [hh] at h2; cases h2
      have := ih g
      subst this; rfl
    | leaf _ h2 => rw [hh] at h2; cases h2
    | par _ h2 => rw [hh] at h2; cases h2
    | call _ h2 => rw [hh] at h2; cases h2
  | leaf hb hh => intro o' h'; cases h' with
    | lost h => rcases h with h | h; omega; (rw [hh] at h; cases h)
    | sign _ h2 => rw [hh] at h2; cases h2
    | leaf _ h2 => rfl
    | par _ h2 => rw [hh] at h2; cases h2
    | call _ h2 => rw [hh] at h2; cases h2
  | par hb hh hr ih => intro o' h'; cases h' with
    | lost h => rcases h with h | h; omega; (rw [hh] at h; cases h)
    | sign _ h2 => rw [hh] at h2; cases h2
    | leaf _ h2 => rw [hh] at h2; cases h2
    | par _ h2 g =>
      have := ih g
      subst this; rfl
    | call _ h2 => rw [hh] at h2; cases h2
  | call hb hh hr ih => intro o' h'; cases h' with
    | lost h => rcases h with h | h; omega; (rw [hh] at h; cases h)
    | sign _ h2 => rw [hh] at h2; cases h2
    | leaf _ h2 => rw [hh] at h2; cases h2
    | par _ h2 => rw [hh] at h2; cases h2
    | call _ h2 g =>
      rw [hh] at h2; cases h2
      have := ih g
      subst this; rfl
def due (s : Str) (r : Rd) : Task → Nat
  | .bin p => 10 * (strLen s - r.pos).toNat + (7 - p).toNat
  | .loop _ => 10 * (strLen s - r.pos).toNat
  | .una => 10 * (strLen s - r.pos).toNat
def fits : Task → Prop
  | .bin p => 1 ≤ p ∧ p ≤ 6
  | .loop p => 1 ≤ p ∧ p ≤ 5
  | .una => True
theorem Run.total : ∀ (n : Nat) (t : Task) (r : Rd), due s r t ≤ n → fits t → Ok s r ∨ (0 ≤ r.bad ∧ ∃ p, t = .loop p) → ∃ o, Run s t r o := by
  intro n
  induction n using Nat.strongRecOn with
  | _ n ih =>
    intro t r hd hf hok
    rcases hok with hok | ⟨hb, p, rfl⟩
    case inr => exact ⟨r, .done (fun h => by omega)⟩
    have hlow := hok.low
    have hhigh := hok.high
    cases t with
    | bin p =>
      obtain ⟨f1, f2⟩ := hf
      simp only [due] at hd
      by_cases h6 : p = 6
      · subst h6
        obtain ⟨o, ho⟩ := ih (10 * (strLen s - r.pos).toNat) (by omega) .una r (Nat.le_refl _) trivial (.inl hok)
        exact ⟨o, .six ho⟩
      · obtain ⟨q, hq⟩ := ih (10 * (strLen s - r.pos).toNat + (7 - (p + 1)).toNat) (by omega) (.bin (p + 1)) r (Nat.le_refl _) ⟨by omega, by omega⟩ (.inl hok)
        rcases hq.inv hok with ⟨g1, g2, _⟩ | ⟨_, g2, _⟩
        · obtain ⟨o, ho⟩ := ih (10 * (strLen s - q.pos).toNat) (by omega) (.loop p) q (Nat.le_refl _) ⟨f1, by omega⟩ (.inl g1)
          exact ⟨o, .bin f1 (by omega) hq ho⟩
        · exact ⟨q, .bin f1 (by omega) hq (.done fun h => by omega)⟩
    | loop p =>
      obtain ⟨f1, f2⟩ := hf
      simp only [due] at hd
      by_cases he : atEnd s p r
      · exact ⟨r, .done he⟩
      · obtain ⟨k1, _, _, _, _, k2, k3⟩ := oper_facts f1 f2 hlow hhigh he
        have hok1 : Ok s (r.to (r.pos + (operM (s.drop r.pos.toNat) p).2)) := ⟨hok.bad, by simp only [Rd.to]; omega, by simp only [Rd.to]; omega⟩
        obtain ⟨q, hq⟩ := ih (10 * (strLen s - (r.pos + (operM (s.drop r.pos.toNat) p).2)).toNat + (7 - (p + 1)).toNat) (by omega) (.bin (p + 1)) _ (Nat.le_refl _) ⟨by omega, by omega⟩ (.inl hok1)
        by_cases h3 : p = 3
        · subst h3; exact ⟨_, .once he hq⟩
        · rcases hq.inv hok1 with ⟨g1, g2, _⟩ | ⟨_, g2, _⟩
          · simp only [Rd.to] at g2
            obtain ⟨o, ho⟩ := ih (10 * (strLen s - q.pos).toNat) (by omega) (.loop p) (q.emit ⟨(operM (s.drop r.pos.toNat) p).1, 0, []⟩) (Nat.le_refl _) ⟨f1, f2⟩ (.inl g1.emit)
            exact ⟨o, .more f1 f2 h3 he hq ho⟩
          · exact ⟨_, .more f1 f2 h3 he hq (.done fun h => by have : (q.emit ⟨(operM (s.drop r.pos.toNat) p).1, 0, []⟩).bad = q.bad := rfl; omega)⟩
    | una =>
      simp only [due] at hd
      cases hh : headM s r.pos with
      | fin => exact ⟨_, .lost (.inr hh)⟩
      | leaf => exact ⟨_, .leaf (by have := hok.bad; omega) hh⟩
      | pre op =>
        have hlt := hok.lt (fun x e => by rw [hh] at e; subst e; simp)
        obtain ⟨q, hq⟩ := ih (10 * (strLen s - (r.pos + 1)).toNat) (by omega) .una (r.to (r.pos + 1)) (Nat.le_refl _) trivial (.inl ⟨hok.bad, by simp only [Rd.to]; omega, by simp only [Rd.to]; omega⟩)
        exact ⟨_, .sign (by have := hok.bad; omega) hh hq⟩
      | par =>
        have hlt := hok.lt (fun x e => by rw [hh] at e; subst e; simp)
        obtain ⟨q, hq⟩ := ih (10 * (strLen s - (r.pos + 1)).toNat + 6) (by omega) (.bin 1) (r.to (r.pos + 1)) (Nat.le_refl _) ⟨by omega, by omega⟩ (.inl ⟨hok.bad, by simp only [Rd.to]; omega, by simp only [Rd.to]; omega⟩)
        exact ⟨_, .par (by have := hok.bad; omega) hh hq⟩
      | call op =>
        obtain ⟨_, _, _, _, _, _, hlt⟩ := callS hh
        obtain ⟨q, hq⟩ := ih (10 * (strLen s - (r.pos + 3)).toNat + 6) (by omega) (.bin 1) (r.to (r.pos + 3)) (Nat.le_refl _) ⟨by omega, by omega⟩ (.inl ⟨hok.bad, by simp only [Rd.to]; omega, by simp only [Rd.to]; omega⟩)
        exact ⟨_, .call (by have := hok.bad; omega) hh hq⟩
theorem run_all (s : Str) : ∃ o, Run s (.bin 1) ⟨0, [], -1⟩ o := Run.total _ (.bin 1) ⟨0, [], -1⟩ (Nat.le_refl _) ⟨by omega, by omega⟩ (.inl ⟨rfl, Int.le_refl _, by simp [strLen]⟩)
noncomputable def runAll (s : Str) : Rd := (run_all s).choose
theorem runAll_run (s : Str) : Run s (.bin 1) ⟨0, [], -1⟩ (runAll s) := (run_all s).choose_spec
noncomputable def parseE (s : Str) : List Cell × Int × Int :=
  if strLen s > 600 then ([], 0, 4)
  else if (runAll s).bad ≥ 0 then ([], (runAll s).bad, 1)
  else if (runAll s).pos < strLen s then ([], (runAll s).pos, 1)
  else if ((runAll s).out.length : Int) > 32 then ([], 0, 4)
  else ((runAll s).out, 0, 0)
theorem run_is {o : Rd} (h : Run s (.bin 1) ⟨0, [], -1⟩ o) : runAll s = o := (runAll_run s).det h
end Go.Proofs.YtjndellhebidoaaGreatDoor
namespace Go.Proofs.YtjndellhebidoaaGreatDoor
open Go Go.Ev
set_option maxRecDepth 100000
def cellsOf (l : List Wait) : List Cell := l.map fun w => ⟨w.op, 0, []⟩
inductive Res where
  | ok (out : List Cell)
  | bad (k : Int)
variable {s : Str}
def Below (p : Int) : List Wait → Prop
  | [] => True
  | w :: l => w.power < p ∧ (w.power > 0 → Below p l)
theorem Below.mono {p q : Int} (h : p ≤ q) : ∀ {l : List Wait}, Below p l → Below q l
  | [], _ => trivial
  | _ :: _, ⟨h1, h2⟩ => ⟨by omega, fun g => Below.mono h (h2 g)⟩
end Go.Proofs.YtjndellhebidoaaGreatDoor
namespace Go.Proofs.YtjndellhebidoaaGreatDoor
open Go Go.Ev
set_option maxRecDepth 100000
/-! ### plain -/
/-! ### the walk -/

def eNb : Nat × (List SX → List Chunk → Option (Option Prop × SV × List Chunk)) := (161, fun
  | [.c (.pd (.str s))], [] => some (some (s.length ≤ 281474976710656), .tup [.c (.pd (.int .i64 (numM s).1)), .c (.pd (.int .i64 (numM s).2))], [])
  | _, _ => none)
theorem eNb_ok (vs : List SX) (ck : List Chunk) (p : Option Prop) (ret : SV) (ck' : List Chunk) (h : eNb.2 vs ck = some (p, ret, ck')) (hp : Holds p) : Does Tryz.prog eNb.1 vs ck ret ck' := by
  unfold eNb at h
  simp only at h
  split at h
  · rename_i s
    simp only [Option.some.injEq, Prod.mk.injEq] at h
    obtain ⟨rfl, rfl, rfl⟩ := h
    exact number_spec s hp
  · simp at h
end Go.Proofs.YtjndellhebidoaaGreatDoor

/- Plain laws: values of lists of cells, of trees. Conditions: each theorem's own. The contract of the program's eval.Of. Conditions: values within int64. -/
import Derived.Test.YtjndellhebidoaaGreatDoorJb
import Derived.Test.YtjndellhebidoaaGreatDoorJd
import Derived.Test.YtjndellhebidoaaGreatDoorJe
namespace Go.Proofs.YtjndellhebidoaaGreatDoor
open Go Go.Ev
set_option maxRecDepth 100000
def evLeaf (vs : List Var) (vals : List Val) (act : List Str) (c : Cell) : Val × Int :=
  if c.op = 1 then (numV c.a, 0) else if c.op = 2 then (⟨3, 0, c.a⟩, 0) else if c.op = 3 ∨ c.op = 4 then (truthV (c.op == 3), 0)
  else if c.op = 6 then (truthV (act.any fun x => c.name == x), 0)
  else if firstAt (fun v : Var => v.name == c.name) vs 0 < 0 then (Val.zero, 2)
  else (ETy.get .val vals (firstAt (fun v : Var => v.name == c.name) vs 0).toNat, 0)
def evStep (vs : List Var) (vals : List Val) (act : List Str) (c : Cell) (st : List Val) : (Val × Int) × List Val :=
  if c.op < 7 then (evLeaf vs vals act c, st) else if c.op < 11 then (oneM c.op (st.headD Val.zero), st.drop 1) else (twoM c.op (st.getD 1 Val.zero) (st.headD Val.zero), st.drop 2)
def evGo (vs : List Var) (vals : List Val) (act : List Str) : List Cell → List Val → Val × Int
  | [], st => (st.headD Val.zero, 0)
  | c :: l, st => if (evStep vs vals act c st).1.2 ≠ 0 then (Val.zero, (evStep vs vals act c st).1.2) else evGo vs vals act l ((evStep vs vals act c st).1.1 :: (evStep vs vals act c st).2)
def worldBad (vs : List Var) (vals : List Val) : Bool := ((vs.length : Int) != (vals.length : Int)) || vals.any fun v => !vR v
def evalM (l : List Cell) (vs : List Var) (vals : List Val) (act : List Str) : Val × Int :=
  if rightM l = false then (Val.zero, 1) else if worldBad vs vals = true then (Val.zero, 12) else evGo vs vals act l []
def Tm.val (vs : List Var) (vals : List Val) (act : List Str) : Tm → Val × Int
  | .leaf c => evLeaf vs vals act c
  | .un c t => if (t.val vs vals act).2 ≠ 0 then (Val.zero, (t.val vs vals act).2) else oneM c.op (t.val vs vals act).1
  | .bin c t u => if (t.val vs vals act).2 ≠ 0 then (Val.zero, (t.val vs vals act).2) else if (u.val vs vals act).2 ≠ 0 then (Val.zero, (u.val vs vals act).2) else twoM c.op (t.val vs vals act).1 (u.val vs vals act).1
def Plain (r : Val × Int) : Prop := r.2 ≠ 0 → r.1 = Val.zero
theorem Plain.ok {v : Val} : Plain (v, 0) := fun h => absurd rfl h
theorem Plain.err {e : Int} : Plain (Val.zero, e) := fun _ => rfl
theorem Plain.ite {c : Prop} [Decidable c] {x y : Val × Int} (hx : Plain x) (hy : Plain y) : Plain (if c then x else y) := by
  by_cases h : c
  · rw [if_pos h]; exact hx
  · rw [if_neg h]; exact hy
theorem numR_plain (r : Int × Int) : Plain (numR r) := Plain.ite .ok .err
theorem pointR_plain (a b : Int) : Plain (pointR a b) := Plain.ite .ok .err
theorem oneM_plain (op : Int) (u : Val) : Plain (oneM op u) := by
  unfold oneM
  repeat' (with_reducible refine Plain.ite ?_ ?_)
  all_goals first
    | exact .ok
    | exact .err
    | exact numR_plain _
theorem twoM_plain (op : Int) (u v : Val) : Plain (twoM op u v) := by
  unfold twoM
  repeat' (with_reducible refine Plain.ite ?_ ?_)
  all_goals first
    | exact .ok
    | exact .err
    | exact numR_plain _
    | exact pointR_plain _ _
theorem evLeaf_plain (vs : List Var) (vals : List Val) (act : List Str) (c : Cell) : Plain (evLeaf vs vals act c) := by
  unfold evLeaf
  repeat' (with_reducible refine Plain.ite ?_ ?_)
  all_goals first
    | exact .ok
    | exact .err
theorem Tm.val_plain (vs : List Var) (vals : List Val) (act : List Str) (t : Tm) : Plain (t.val vs vals act) := by
  cases t with
  | leaf c => exact evLeaf_plain vs vals act c
  | un c t => exact Plain.ite .err (oneM_plain _ _)
  | bin c t u => exact Plain.ite .err (Plain.ite .err (twoM_plain _ _ _))
theorem wants_leaf (c : Cell) (h : wantsC c = 0) : (c.op = 1 ∧ 0 ≤ c.a ∧ c.a ≤ 1099511627776) ∨ (c.op = 2 ∧ 0 ≤ c.a ∧ c.a ≤ 1048576) ∨ c.op = 3 ∨ c.op = 4 ∨ c.op = 5 ∨ c.op = 6 := by
  revert h
  unfold wantsC wantsM
  simp only [cond_eq_ite, beq_iff_eq, Bool.or_eq_true, decide_eq_true_eq, bne_iff_ne]
  intro h
  (repeat' split at h) <;> omega
theorem world_vals {vs : List Var} {vals : List Val} (h : worldBad vs vals = false) : vs.length = vals.length ∧ ∀ v ∈ vals, vR v = true := by
  simp only [worldBad, Bool.or_eq_false_iff, bne_eq_false_iff_eq, List.any_eq_false, Bool.not_eq_true', Bool.not_eq_false] at h
  exact ⟨by omega, h.2⟩
theorem evLeaf_ok {vs : List Var} {vals : List Val} (act : List Str) {c : Cell} (hc : wantsC c = 0) (hl : vs.length = vals.length) (hv : ∀ v ∈ vals, vOk v = true) : (evLeaf vs vals act c).2 = 0 → vOk (evLeaf vs vals act c).1 = true := by
  have hw := wants_leaf c hc
  unfold evLeaf
  by_cases h1 : c.op = 1
  · rw [if_pos h1]; intro _
    refine numV_ok (i64_iff.2 ?_)
    omega
  rw [if_neg h1]
  by_cases h2 : c.op = 2
  · rw [if_pos h2]; intro _
    have h3 : pIn c.a = true := by simp only [pIn, Bool.and_eq_true, decide_eq_true_eq]; omega
    have h4 : pIn 0 = true := by decide
    have h5 : i64 0 = true := by decide
    simp [vOk, vR, h3, h4, h5]
  rw [if_neg h2]
  by_cases h3 : c.op = 3 ∨ c.op = 4
  · rw [if_pos h3]; intro _; exact truthV_ok _
  rw [if_neg h3]
  by_cases h6 : c.op = 6
  · rw [if_pos h6]; intro _; exact truthV_ok _
  rw [if_neg h6]
  rcases firstAt_find (fun v : Var => v.name == c.name) vs 0 with ⟨g1, _⟩ | ⟨k, x, g1, g2, _⟩
  · simp only [Int.natCast_zero] at g1
    rw [g1]
    intro h; simp at h
  · simp only [Int.natCast_zero, Nat.zero_add] at g1
    have hk := (List.getElem?_eq_some_iff.1 g2).1
    rw [g1, if_neg (by omega), Int.toNat_natCast]
    intro _
    have hk' : k < vals.length := by omega
    rw [ETy.get_eq (t := .val) (List.getElem?_eq_getElem hk')]
    exact hv _ (List.getElem_mem hk')
theorem Tm.val_ok {vs : List Var} {vals : List Val} (act : List Str) (hl : vs.length = vals.length) (hv : ∀ v ∈ vals, vOk v = true) : ∀ (t : Tm), t.ok → (t.val vs vals act).2 = 0 → vOk (t.val vs vals act).1 = true
  | .leaf c, h => evLeaf_ok act h hl hv
  | .un c t, ⟨_, ht⟩ => by
    have ih := t.val_ok act hl hv ht
    simp only [Tm.val]
    by_cases h : (t.val vs vals act).2 ≠ 0
    · rw [if_pos h]; intro h'; exact absurd h' h
    · rw [if_neg h]; exact oneM_ok (ih (by simpa using h))
  | .bin c t u, ⟨_, ht, _⟩ => by
    have ih := t.val_ok act hl hv ht
    simp only [Tm.val]
    by_cases h : (t.val vs vals act).2 ≠ 0
    · rw [if_pos h]; intro h'; exact absurd h' h
    · rw [if_neg h]
      by_cases h2 : (u.val vs vals act).2 ≠ 0
      · rw [if_pos h2]; intro h'; exact absurd h' h2
      · rw [if_neg h2]; exact twoM_ok (ih (by simpa using h))
def Own (r : Val × Int) : Prop := r.2 ≠ 12 ∧ r.2 ≠ 1
theorem Own.ite {c : Prop} [Decidable c] {x y : Val × Int} (hx : Own x) (hy : Own y) : Own (if c then x else y) := by
  by_cases h : c
  · rw [if_pos h]; exact hx
  · rw [if_neg h]; exact hy
theorem evGo_flat (vs : List Var) (vals : List Val) (act : List Str) : ∀ (t : Tm), t.ok → ∀ (rest : List Cell) (st : List Val),
    evGo vs vals act (t.flat ++ rest) st = if (t.val vs vals act).2 ≠ 0 then (Val.zero, (t.val vs vals act).2) else evGo vs vals act rest ((t.val vs vals act).1 :: st)
  | .leaf c, h, rest, st => by
    simp only [Tm.ok] at h
    have h7 : c.op < 7 := by rcases wants_cases c (by omega) with ⟨h1, _⟩ | ⟨_, _, h1⟩ | ⟨_, h1⟩ <;> omega
    simp only [Tm.flat, List.cons_append, List.nil_append, evGo, evStep, if_pos h7, Tm.val]
    rfl
  | .un c t, ⟨hw, ht⟩, rest, st => by
    have h7 : ¬ c.op < 7 ∧ c.op < 11 := by rcases wants_cases c (by omega) with ⟨_, h1⟩ | ⟨h1, h2, _⟩ | ⟨_, h1⟩ <;> omega
    rw [Tm.flat, List.append_assoc, evGo_flat vs vals act t ht]
    simp only [Tm.val]
    by_cases hb : (t.val vs vals act).2 ≠ 0
    · simp only [ne_eq, hb, not_true_eq_false, not_false_eq_true, if_true]
    · simp only [hb, if_false]
      simp only [List.cons_append, List.nil_append, evGo, evStep, if_neg h7.1, if_pos h7.2, List.headD_cons, List.drop_one, List.tail_cons]
  | .bin c t u, ⟨hw, ht, hu⟩, rest, st => by
    have h7 : ¬ c.op < 7 ∧ ¬ c.op < 11 := by rcases wants_cases c (by omega) with ⟨_, h1⟩ | ⟨_, _, h1⟩ | ⟨h1, _⟩ <;> omega
    rw [Tm.flat, List.append_assoc, List.append_assoc, evGo_flat vs vals act t ht]
    simp only [Tm.val]
    by_cases hb : (t.val vs vals act).2 ≠ 0
    · simp only [ne_eq, hb, not_true_eq_false, not_false_eq_true, if_true]
    · simp only [hb, if_false]
      rw [evGo_flat vs vals act u hu]
      by_cases hb2 : (u.val vs vals act).2 ≠ 0
      · simp only [ne_eq, hb2, not_true_eq_false, not_false_eq_true, if_true]
      · simp only [hb2, if_false]
        simp only [List.cons_append, List.nil_append, evGo, evStep, if_neg h7.1, if_neg h7.2, List.headD_cons, List.getD_cons_succ, List.getD_cons_zero, List.drop_succ_cons, List.drop_zero]
theorem eval_flat (vs : List Var) (vals : List Val) (act : List Str) {t : Tm} (h : t.ok) (hl : t.flat.length ≤ 32) (hw : worldBad vs vals = false) : evalM t.flat vs vals act = t.val vs vals act := by
  have := evGo_flat vs vals act t h [] []
  rw [List.append_nil] at this
  have hr := tm_right h hl
  simp only [evalM, hr, hw, Bool.true_eq_false, if_false, Bool.false_eq_true, this, evGo, List.headD_cons]
  have hp := t.val_plain vs vals act
  generalize t.val vs vals act = r at *
  obtain ⟨v, e⟩ := r
  by_cases h0 : e ≠ 0
  · rw [if_pos h0, ← hp h0]
  · have : e = 0 := by simpa using h0
    rw [if_neg h0, this]
end Go.Proofs.YtjndellhebidoaaGreatDoor
namespace Go.Proofs.YtjndellhebidoaaGreatDoor
open Go Go.Ev
set_option maxRecDepth 100000
theorem vget_last (t : Val) (st : List Val) : ETy.get .val ((t :: st).reverse) st.length = t := by
  refine ETy.get_eq (t := .val) ?_
  rw [List.reverse_cons, List.getElem?_append_right (by simp)]; simp
theorem vget_last2 (t t2 : Val) (st : List Val) : ETy.get .val ((t :: t2 :: st).reverse) st.length = t2 := by
  refine ETy.get_eq (t := .val) ?_
  rw [List.reverse_cons, List.getElem?_append_left (by simp), List.reverse_cons, List.getElem?_append_right (by simp)]; simp
theorem vtake_last (t : Val) (st : List Val) : ((t :: st).reverse).take st.length = st.reverse := by
  rw [List.reverse_cons, ← List.length_reverse, List.take_left]
theorem vtake_last2 (t t2 : Val) (st : List Val) : ((t :: t2 :: st).reverse).take st.length = st.reverse := by
  rw [List.reverse_cons, List.take_append_of_le_length (by simp), vtake_last]
theorem room_val {n : Nat} (h : n ≤ 100) : room n 24 := by unfold room maxLen; omega
theorem wants_top (c : Cell) (h : 0 ≤ wantsC c) : c.op ≤ 23 := by
  unfold wantsC wantsM at h
  simp only [cond_eq_ite] at h
  repeat' split at h
  all_goals simp_all
  all_goals omega
theorem ev_loop (l : List Cell) (vs : List Var) (vals : List Val) (act : List Str) (Γ : Ctx) (hl : l.length ≤ 32) (hlen : vs.length = vals.length) (hv : ∀ v ∈ vals, vOk v = true) : ∀ (n k : Nat) (st : List Val), l.length - k ≤ n → k ≤ l.length → st.length ≤ k → (∀ v ∈ st, vOk v = true) → rightGo (l.drop k) st.length = true →
    EoJ Γ (Eq2 (rv (evGo vs vals act (l.drop k) st)) []) l vs vals act k st.reverse := by
  intro n
  induction n with
  | zero => ?_
  | succ n ih => ?_
  all_goals
    intro k st hn hk hst hok hright
    refine eo_step l vs vals act k st.reverse Γ _ ?_
    have next : ∀ (kd : Val) (st' : List Val) (c : Cell), st'.length ≤ k → ((st'.length : Int) + 1 = st.length + (1 - wantsC c)) → k < l.length → rightGo (l.drop (k + 1)) (st.length + (1 - wantsC c)) = true → vOk kd = true → (∀ v ∈ st', vOk v = true) →
        EoJ Γ (Eq2 (rv (evGo vs vals act (l.drop (k + 1)) (kd :: st'))) []) l vs vals act (IntKind.wrap .i64 ((k : Int) + 1)) (st'.reverse ++ [kd]) := by
      intro kd st' c h1 h2 h3 h4 h5 h6
      rw [wrapK (by omega), ← List.reverse_cons]
      first
      | (exfalso; omega)
      | exact ih (k + 1) (kd :: st') (by omega) (by omega) (by simp only [List.length_cons]; omega) (by intro v hv; rcases List.mem_cons.1 hv with rfl | hv; exact h5; exact h6 v hv) (by rw [← h2] at h4; simpa using h4)
    refine ⟨fun hlt => ?_, fun hge => ?_⟩
    · have hk' : k < l.length := by have := of_decide_eq_true hlt; omega
      rw [drop_get (t := .cell) hk'] at hright ⊢
      refine ⟨by omega, ?_⟩
      generalize ETy.get .cell l k = c at hright ⊢
      have hw : (decide (wantsC c < 0) || decide (wantsC c > (st.length : Int))) = false := by
        simp only [rightGo] at hright
        cases hb : (decide (wantsC c < 0) || decide (wantsC c > (st.length : Int)))
        · rfl
        · rw [hb] at hright; simp at hright
      have hrest : rightGo (l.drop (k + 1)) (st.length + (1 - wantsC c)) = true := by
        simp only [rightGo, hw, cond_false] at hright; exact hright
      have hw2 : 0 ≤ wantsC c ∧ wantsC c ≤ st.length := by
        simp only [Bool.or_eq_false_iff, decide_eq_false_iff_not] at hw; omega
      have hroom : room (st.reverse.length + 1) 24 := room_val (by simp only [List.length_reverse]; omega)
      have leaf : wantsC c = 0 → ∀ kd : Val, evLeaf vs vals act c = (kd, 0) → EoJ Γ (Eq2 (rv (evGo vs vals act (c :: l.drop (k + 1)) st)) []) l vs vals act (IntKind.wrap .i64 ((k : Int) + 1)) (st.reverse ++ [kd]) := by
        intro h0 kd he
        have h7 : c.op < 7 := by rcases wants_op c hw2.1 with ⟨_, h⟩ | ⟨h, _⟩ | ⟨h, _⟩ <;> omega
        have hk2 := evLeaf_ok act h0 hlen hv
        rw [he] at hk2
        have e : evGo vs vals act (c :: l.drop (k + 1)) st = evGo vs vals act (l.drop (k + 1)) (kd :: st) := by
          simp only [evGo, evStep, if_pos h7, he, ne_eq, not_true_eq_false, if_false]
        rw [e]
        exact next kd st c (by omega) (by omega) hk' hrest (hk2 rfl) hok
      have un : 7 ≤ c.op → c.op < 11 → ∃ (t : Val) (st' : List Val), st = t :: st' ∧ wantsC c = 1 ∧ vOk t = true ∧ (∀ v ∈ st', vOk v = true) := by
        intro g1 g2
        have hw1 : wantsC c = 1 := by
          rcases wants_op c hw2.1 with ⟨_, h⟩ | ⟨h, _⟩ | ⟨_, h⟩ <;> first | exact h | omega
        cases st with
        | nil => simp at hw2; omega
        | cons t st' => exact ⟨t, st', rfl, hw1, hok t (by simp), fun v hv => hok v (by simp [hv])⟩
      refine ⟨fun h => ⟨fun h' => Bool.noConfusion h', fun _ => ⟨by simpa using hroom, ?_⟩⟩, fun n1 => ?_⟩
      · have g : c.op = 1 := by simpa using h
        exact leaf (by rcases wants_op c hw2.1 with ⟨h, _⟩ | ⟨_, h, _⟩ | ⟨_, h⟩ <;> omega) _ (by simp [evLeaf, g])
      have m1 : c.op ≠ 1 := by simpa using n1
      refine ⟨fun h => ⟨fun h' => Bool.noConfusion h', fun _ => ⟨by simpa using hroom, ?_⟩⟩, fun n2 => ?_⟩
      · have g : c.op = 2 := by simpa using h
        exact leaf (by rcases wants_op c hw2.1 with ⟨h, _⟩ | ⟨_, h, _⟩ | ⟨_, h⟩ <;> omega) _ (by simp [evLeaf, g])
      have m2 : c.op ≠ 2 := by simpa using n2
      refine ⟨fun h => ⟨fun h' => Bool.noConfusion h', fun _ => ⟨by simpa using hroom, ?_⟩⟩, fun n3 => ?_⟩
      · have g : c.op = 3 := by simpa using h
        exact leaf (by rcases wants_op c hw2.1 with ⟨h, _⟩ | ⟨_, h, _⟩ | ⟨_, h⟩ <;> omega) _ (by simp [evLeaf, g])
      have m3 : c.op ≠ 3 := by simpa using n3
      refine ⟨fun h => ⟨fun h' => Bool.noConfusion h', fun _ => ⟨by simpa using hroom, ?_⟩⟩, fun n4 => ?_⟩
      · have g : c.op = 4 := by simpa using h
        exact leaf (by rcases wants_op c hw2.1 with ⟨h, _⟩ | ⟨_, h, _⟩ | ⟨_, h⟩ <;> omega) _ (by simp [evLeaf, g])
      have m4 : c.op ≠ 4 := by simpa using n4
      refine ⟨fun h => ⟨fun h' => Bool.noConfusion h', fun _ => ⟨by simpa using hroom, ?_⟩⟩, fun n6 => ?_⟩
      · have g : c.op = 6 := by simpa using h
        exact leaf (by rcases wants_op c hw2.1 with ⟨h, _⟩ | ⟨_, h, _⟩ | ⟨_, h⟩ <;> omega) _ (by simp [evLeaf, g])
      have m6 : c.op ≠ 6 := by simpa using n6
      refine ⟨fun h => ?_, fun n5 => ?_⟩
      · have g : c.op = 5 := by simpa using h
        have hw0 : wantsC c = 0 := by rcases wants_op c hw2.1 with ⟨h, _⟩ | ⟨_, h, _⟩ | ⟨_, h⟩ <;> omega
        refine ⟨fun h => ⟨congrArg rv (a₁ := (Val.zero, 2)) ?_, rfl⟩, fun h => ?_⟩
        · have h' : firstAt (fun v : Var => v.name == c.name) vs 0 < 0 := of_decide_eq_true h
          have he : evLeaf vs vals act c = (Val.zero, 2) := by simp [evLeaf, g, h']
          simp [evGo, evStep, g, he]
        · have h' : ¬ firstAt (fun v : Var => v.name == c.name) vs 0 < 0 := of_decide_eq_false h
          have he : evLeaf vs vals act c = (ETy.get .val vals (firstAt (fun v : Var => v.name == c.name) vs 0).toNat, 0) := by simp [evLeaf, g, h']
          refine ⟨?_, fun h => Bool.noConfusion h, fun _ => ⟨by simpa using hroom, leaf hw0 _ he⟩⟩
          show 0 ≤ firstAt (fun v : Var => v.name == c.name) vs 0 ∧ firstAt (fun v : Var => v.name == c.name) vs 0 < (vals.length : Int)
          rcases firstAt_find (fun v : Var => v.name == c.name) vs 0 with ⟨g1, _⟩ | ⟨j, x, g1, g2, _⟩
          · simp only [Int.natCast_zero] at g1
            rw [g1] at h'; omega
          · simp only [Int.natCast_zero, Nat.zero_add] at g1
            have hj := (List.getElem?_eq_some_iff.1 g2).1
            rw [g1]; omega
      have m5 : c.op ≠ 5 := by simpa using n5
      refine ⟨fun h => ?_, fun n7 => ?_⟩
      · have g : c.op = 7 := by simpa using h
        obtain ⟨t, st', rfl, hw1, ht, hst'⟩ := un (by omega) (by omega)
        have hlen2 : (t :: st').reverse.length = st'.length + 1 := by simp
        have hl2 : (t :: st').length = st'.length + 1 := rfl
        have e1 : IntKind.wrap .i64 (((t :: st').reverse.length : Int) - 1) = (st'.length : Int) := by
          simp only [List.length_reverse, List.length_cons]; rw [wrapI (by omega) (by omega)]; omega
        have g7 : ¬ c.op < 7 := by omega
        have g11 : c.op < 11 := by omega
        have hev : evGo vs vals act (c :: l.drop (k + 1)) (t :: st') = if (oneM c.op t).2 ≠ 0 then (Val.zero, (oneM c.op t).2) else evGo vs vals act (l.drop (k + 1)) ((oneM c.op t).1 :: st') := by
          simp only [evGo, evStep, if_neg g7, if_pos g11, List.headD_cons, List.drop_one, List.tail_cons]
          try rfl
        rw [hev, e1]
        simp only [Int.toNat_natCast]
        rw [vget_last, vtake_last]
        refine ⟨⟨by omega, by omega⟩, by omega, ht, ⟨by omega, by omega⟩, fun h => ⟨congrArg rv (a₁ := (Val.zero, (oneM c.op t).2)) ?_, rfl⟩, fun h => ⟨room_val (by simp; omega), ?_⟩⟩
        · have h' : (oneM c.op t).2 ≠ 0 := by simpa using h
          rw [if_pos h']
        · have h' : ¬ (oneM c.op t).2 ≠ 0 := by simpa using h
          rw [if_neg h']
          exact next (oneM c.op t).1 st' c (by omega) (by omega) hk' hrest (oneM_ok ht (by simpa using h)) hst'
      have m7 : c.op ≠ 7 := by simpa using n7
      refine ⟨fun h => ?_, fun n8 => ?_⟩
      · have g : c.op = 8 := by simpa using h
        obtain ⟨t, st', rfl, hw1, ht, hst'⟩ := un (by omega) (by omega)
        have hlen2 : (t :: st').reverse.length = st'.length + 1 := by simp
        have hl2 : (t :: st').length = st'.length + 1 := rfl
        have e1 : IntKind.wrap .i64 (((t :: st').reverse.length : Int) - 1) = (st'.length : Int) := by
          simp only [List.length_reverse, List.length_cons]; rw [wrapI (by omega) (by omega)]; omega
        have g7 : ¬ c.op < 7 := by omega
        have g11 : c.op < 11 := by omega
        have hev : evGo vs vals act (c :: l.drop (k + 1)) (t :: st') = if (oneM c.op t).2 ≠ 0 then (Val.zero, (oneM c.op t).2) else evGo vs vals act (l.drop (k + 1)) ((oneM c.op t).1 :: st') := by
          simp only [evGo, evStep, if_neg g7, if_pos g11, List.headD_cons, List.drop_one, List.tail_cons]
          try rfl
        rw [hev, e1]
        simp only [Int.toNat_natCast]
        rw [vget_last, vtake_last]
        refine ⟨⟨by omega, by omega⟩, by omega, ht, ⟨by omega, by omega⟩, fun h => ⟨congrArg rv (a₁ := (Val.zero, (oneM c.op t).2)) ?_, rfl⟩, fun h => ⟨room_val (by simp; omega), ?_⟩⟩
        · have h' : (oneM c.op t).2 ≠ 0 := by simpa using h
          rw [if_pos h']
        · have h' : ¬ (oneM c.op t).2 ≠ 0 := by simpa using h
          rw [if_neg h']
          exact next (oneM c.op t).1 st' c (by omega) (by omega) hk' hrest (oneM_ok ht (by simpa using h)) hst'
      have m8 : c.op ≠ 8 := by simpa using n8
      refine ⟨fun h => ?_, fun n9 => ?_⟩
      · have g : c.op = 9 := by simpa using h
        obtain ⟨t, st', rfl, hw1, ht, hst'⟩ := un (by omega) (by omega)
        have hlen2 : (t :: st').reverse.length = st'.length + 1 := by simp
        have hl2 : (t :: st').length = st'.length + 1 := rfl
        have e1 : IntKind.wrap .i64 (((t :: st').reverse.length : Int) - 1) = (st'.length : Int) := by
          simp only [List.length_reverse, List.length_cons]; rw [wrapI (by omega) (by omega)]; omega
        have g7 : ¬ c.op < 7 := by omega
        have g11 : c.op < 11 := by omega
        have hev : evGo vs vals act (c :: l.drop (k + 1)) (t :: st') = if (oneM c.op t).2 ≠ 0 then (Val.zero, (oneM c.op t).2) else evGo vs vals act (l.drop (k + 1)) ((oneM c.op t).1 :: st') := by
          simp only [evGo, evStep, if_neg g7, if_pos g11, List.headD_cons, List.drop_one, List.tail_cons]
          try rfl
        rw [hev, e1]
        simp only [Int.toNat_natCast]
        rw [vget_last, vtake_last]
        refine ⟨⟨by omega, by omega⟩, by omega, ht, ⟨by omega, by omega⟩, fun h => ⟨congrArg rv (a₁ := (Val.zero, (oneM c.op t).2)) ?_, rfl⟩, fun h => ⟨room_val (by simp; omega), ?_⟩⟩
        · have h' : (oneM c.op t).2 ≠ 0 := by simpa using h
          rw [if_pos h']
        · have h' : ¬ (oneM c.op t).2 ≠ 0 := by simpa using h
          rw [if_neg h']
          exact next (oneM c.op t).1 st' c (by omega) (by omega) hk' hrest (oneM_ok ht (by simpa using h)) hst'
      have m9 : c.op ≠ 9 := by simpa using n9
      refine ⟨fun h => ?_, fun n10 => ?_⟩
      · have g : c.op = 10 := by simpa using h
        obtain ⟨t, st', rfl, hw1, ht, hst'⟩ := un (by omega) (by omega)
        have hlen2 : (t :: st').reverse.length = st'.length + 1 := by simp
        have hl2 : (t :: st').length = st'.length + 1 := rfl
        have e1 : IntKind.wrap .i64 (((t :: st').reverse.length : Int) - 1) = (st'.length : Int) := by
          simp only [List.length_reverse, List.length_cons]; rw [wrapI (by omega) (by omega)]; omega
        have g7 : ¬ c.op < 7 := by omega
        have g11 : c.op < 11 := by omega
        have hev : evGo vs vals act (c :: l.drop (k + 1)) (t :: st') = if (oneM c.op t).2 ≠ 0 then (Val.zero, (oneM c.op t).2) else evGo vs vals act (l.drop (k + 1)) ((oneM c.op t).1 :: st') := by
          simp only [evGo, evStep, if_neg g7, if_pos g11, List.headD_cons, List.drop_one, List.tail_cons]
          try rfl
        rw [hev, e1]
        simp only [Int.toNat_natCast]
        rw [vget_last, vtake_last]
        refine ⟨⟨by omega, by omega⟩, by omega, ht, ⟨by omega, by omega⟩, fun h => ⟨congrArg rv (a₁ := (Val.zero, (oneM c.op t).2)) ?_, rfl⟩, fun h => ⟨room_val (by simp; omega), ?_⟩⟩
        · have h' : (oneM c.op t).2 ≠ 0 := by simpa using h
          rw [if_pos h']
        · have h' : ¬ (oneM c.op t).2 ≠ 0 := by simpa using h
          rw [if_neg h']
          exact next (oneM c.op t).1 st' c (by omega) (by omega) hk' hrest (oneM_ok ht (by simpa using h)) hst'
      have m10 : c.op ≠ 10 := by simpa using n10
      have hop := wants_op c hw2.1
      have hop0 : c.op ≥ 11 ∧ wantsC c = 2 := by
        rcases hop with ⟨h0, _⟩ | ⟨_, _, h⟩ | ⟨h, h2⟩
        · rcases wants_leaf c h0 with ⟨h, _⟩ | ⟨h, _⟩ | h | h | h | h <;> exact absurd h (by assumption)
        · omega
        · exact ⟨h2, h⟩
      have hw1 := hop0.2
      have hmax := wants_top c hw2.1
      obtain ⟨t, t2, st', rfl⟩ : ∃ t t2 st', st = t :: t2 :: st' := by
        cases st with
        | nil => simp at hw2; omega
        | cons t st' => cases st' with
          | nil => simp at hw2; omega
          | cons t2 st' => exact ⟨t, t2, st', rfl⟩
      have ht := hok t (by simp)
      have ht2 := hok t2 (by simp)
      have hst' : ∀ v ∈ st', vOk v = true := fun v hv => hok v (by simp [hv])
      have hlen2 : (t :: t2 :: st').reverse.length = st'.length + 2 := by simp
      have hl2 : (t :: t2 :: st').length = st'.length + 2 := rfl
      have hl3 : (t2 :: st').length = st'.length + 1 := rfl
      have e1 : IntKind.wrap .i64 (((t :: t2 :: st').reverse.length : Int) - 1) = ((t2 :: st').length : Int) := by
        simp only [List.length_reverse, List.length_cons]; rw [wrapI (by omega) (by omega)]; omega
      have e2 : IntKind.wrap .i64 (((t :: t2 :: st').reverse.length : Int) - 2) = (st'.length : Int) := by
        simp only [List.length_reverse, List.length_cons]; rw [wrapI (by omega) (by omega)]; omega
      have g7 : ¬ c.op < 7 := by omega
      have g11 : ¬ c.op < 11 := by omega
      have hev : evGo vs vals act (c :: l.drop (k + 1)) (t :: t2 :: st') = if (twoM c.op t2 t).2 ≠ 0 then (Val.zero, (twoM c.op t2 t).2) else evGo vs vals act (l.drop (k + 1)) ((twoM c.op t2 t).1 :: st') := by
        simp only [evGo, evStep, if_neg g7, if_neg g11, List.headD_cons, List.getD_cons_succ, List.getD_cons_zero, List.drop_succ_cons, List.drop_zero]
        try rfl
      rw [hev, e1, e2]
      simp only [Int.toNat_natCast]
      rw [vget_last, vget_last2, vtake_last2]
      refine ⟨⟨by omega, by omega⟩, by omega, ⟨by omega, by omega⟩, by omega, ⟨⟨by omega, by omega⟩, ht2, ht⟩, ⟨by omega, by omega⟩, fun h => ⟨congrArg rv (a₁ := (Val.zero, (twoM c.op t2 t).2)) ?_, rfl⟩, fun h => ⟨room_val (by simp; omega), ?_⟩⟩
      · have h' : (twoM c.op t2 t).2 ≠ 0 := by simpa using h
        rw [if_pos h']
      · have h' : ¬ (twoM c.op t2 t).2 ≠ 0 := by simpa using h
        rw [if_neg h']
        exact next (twoM c.op t2 t).1 st' c (by omega) (by omega) hk' hrest (twoM_ok ht2 (by simpa using h)) hst'
    · have hk' : k = l.length := by have := of_decide_eq_false hge; omega
      rw [hk', List.drop_length] at hright ⊢
      simp only [rightGo] at hright
      have hone : st.length = 1 := by have h1 : (st.length : Int) = 1 := (by simpa using hright); omega
      obtain ⟨t, rfl⟩ : ∃ t, st = [t] := List.length_eq_one_iff.1 hone
      exact ⟨by simp, by simp, rfl, rfl⟩
theorem eval_spec (l : List Cell) (vs : List Var) (vals : List Val) (act : List Str) (hv : ∀ v ∈ vals, i64 v.a = true) : Does Tryz.prog 31 [.l .cell l, .l .var vs, .l .val vals, .l .str act] [] (rv (evalM l vs vals act)) [] := by
  refine eo_begin l vs vals act (fun h => ?_) (fun h h' => ?_) (fun h h' Γ => ?_)
  · simp only [evalM, h, if_true]; rfl
  · have hw : worldBad vs vals = true := h'
    simp only [evalM, h, hw, Bool.true_eq_false, if_false, if_true]; rfl
  · have hw : worldBad vs vals = false := h'
    obtain ⟨hlen, hr⟩ := world_vals hw
    have e : evalM l vs vals act = evGo vs vals act (l.drop 0) [] := by simp only [evalM, h, hw, Bool.true_eq_false, Bool.false_eq_true, if_false, List.drop_zero]
    simp only [rightM, Bool.and_eq_true] at h
    have h32 : l.length ≤ 32 := by have h1 := h.1; simp at h1; omega
    rw [e]
    exact ev_loop l vs vals act Γ h32 hlen (fun v hx => by simp [vOk, hr v hx, hv v hx]) l.length 0 [] (by omega) (by omega) (by simp) (by simp) (by simpa using h.2)
def eEval : Nat × (List SX → List Chunk → Option (Option Prop × SV × List Chunk)) := (31, fun
  | [.c (.pd (.lst .cell l)), .c (.pd (.lst .var vs)), .c (.pd (.lst .val vals)), .c (.pd (.lst .str act))], [] => some (some (∀ v ∈ vals, i64 v.a = true), .tup [.agg [.pd (.int .i64 (evalM l vs vals act).1.kind), .pd (.int .i64 (evalM l vs vals act).1.a), .pd (.int .i64 (evalM l vs vals act).1.b)], .c (.pd (.int .i64 (evalM l vs vals act).2))], [])
  | _, _ => none)
theorem eEval_ok (vs : List SX) (ck : List Chunk) (p : Option Prop) (ret : SV) (ck' : List Chunk) (h : eEval.2 vs ck = some (p, ret, ck')) (hp : Holds p) : Does Tryz.prog eEval.1 vs ck ret ck' := by
  unfold eEval at h
  simp only at h
  split at h
  · rename_i l vs vals act
    simp only [Option.some.injEq, Prod.mk.injEq] at h
    obtain ⟨rfl, rfl, rfl⟩ := h
    exact eval_spec l vs vals act hp
  · simp at h
end Go.Proofs.YtjndellhebidoaaGreatDoor

/- Plain laws: values of lists of cells, of trees. Conditions: each theorem's own. -/
import Derived.Test.YtgoihhnfkoklpaaIf
import Derived.Test.YtgoihhnfkoklpaaTn
namespace Go.Proofs.Ytgoihhnfkoklpaa
open Go Go.Ev
set_option maxRecDepth 100000
/-- the value of a cell without operands -/
def evLeaf (vs : List Var) (vals : List Val) (act : List Str) (c : Cell) : Val × Int :=
  if c.op = 1 then (numV c.a, 0) else if c.op = 2 then (⟨3, 0, c.a⟩, 0) else if c.op = 3 ∨ c.op = 4 then (truthV (c.op == 3), 0)
  else if c.op = 6 then (truthV (act.any fun x => c.name == x), 0)
  else if firstAt (fun v : Var => v.name == c.name) vs 0 < 0 then (Val.zero, 2)
  else (ETy.get .val vals (firstAt (fun v : Var => v.name == c.name) vs 0).toNat, 0)
/-- one cell: its value, the stack that is left -/
def evStep (vs : List Var) (vals : List Val) (act : List Str) (c : Cell) (st : List Val) : (Val × Int) × List Val :=
  if c.op < 7 then (evLeaf vs vals act c, st) else if c.op < 11 then (oneM c.op (st.headD Val.zero), st.drop 1) else (twoM c.op (st.getD 1 Val.zero) (st.headD Val.zero), st.drop 2)
def evGo (vs : List Var) (vals : List Val) (act : List Str) : List Cell → List Val → Val × Int
  | [], st => (st.headD Val.zero, 0)
  | c :: l, st => if (evStep vs vals act c st).1.2 ≠ 0 then (Val.zero, (evStep vs vals act c st).1.2) else evGo vs vals act l ((evStep vs vals act c st).1.1 :: (evStep vs vals act c st).2)
def worldBad (vs : List Var) (vals : List Val) : Bool := ((vs.length : Int) != (vals.length : Int)) || vals.any fun v => !vR v
/-- eval.Of -/
def evalM (l : List Cell) (vs : List Var) (vals : List Val) (act : List Str) : Val × Int :=
  if rightM l = false then (Val.zero, 1) else if worldBad vs vals = true then (Val.zero, 12) else evGo vs vals act l []
/-- the value of a tree -/
def Tm.val (vs : List Var) (vals : List Val) (act : List Str) : Tm → Val × Int
  | .leaf c => evLeaf vs vals act c
  | .un c t => if (t.val vs vals act).2 ≠ 0 then (Val.zero, (t.val vs vals act).2) else oneM c.op (t.val vs vals act).1
  | .bin c t u => if (t.val vs vals act).2 ≠ 0 then (Val.zero, (t.val vs vals act).2) else if (u.val vs vals act).2 ≠ 0 then (Val.zero, (u.val vs vals act).2) else twoM c.op (t.val vs vals act).1 (u.val vs vals act).1
/-- An error has no value beside it. -/
def Plain (r : Val × Int) : Prop := r.2 ≠ 0 → r.1 = Val.zero
theorem Plain.ok {v : Val} : Plain (v, 0) := fun h => absurd rfl h
theorem Plain.err {e : Int} : Plain (Val.zero, e) := fun _ => rfl
theorem Plain.ite {c : Prop} [Decidable c] {x y : Val × Int} (hx : Plain x) (hy : Plain y) : Plain (if c then x else y) := by
  by_cases h : c
  · rw [if_pos h]; exact hx
  · rw [if_neg h]; exact hy
theorem numR_plain (r : Int × Int) : Plain (numR r) := Plain.ite .ok .err
theorem pointR_plain (a b : Int) : Plain (pointR a b) := Plain.ite .ok .err
theorem oneM_plain (op : Int) (u : Val) : Plain (oneM op u) := by
  unfold oneM
  repeat' (with_reducible refine Plain.ite ?_ ?_)
  all_goals first
    | exact .ok
    | exact .err
    | exact numR_plain _
theorem twoM_plain (op : Int) (u v : Val) : Plain (twoM op u v) := by
  unfold twoM
  repeat' (with_reducible refine Plain.ite ?_ ?_)
  all_goals first
    | exact .ok
    | exact .err
    | exact numR_plain _
    | exact pointR_plain _ _
theorem evLeaf_plain (vs : List Var) (vals : List Val) (act : List Str) (c : Cell) : Plain (evLeaf vs vals act c) := by
  unfold evLeaf
  repeat' (with_reducible refine Plain.ite ?_ ?_)
  all_goals first
    | exact .ok
    | exact .err
theorem Tm.val_plain (vs : List Var) (vals : List Val) (act : List Str) (t : Tm) : Plain (t.val vs vals act) := by
  cases t with
  | leaf c => exact evLeaf_plain vs vals act c
  | un c t => exact Plain.ite .err (oneM_plain _ _)
  | bin c t u => exact Plain.ite .err (Plain.ite .err (twoM_plain _ _ _))
theorem wants_leaf (c : Cell) (h : wantsC c = 0) : (c.op = 1 ∧ 0 ≤ c.a ∧ c.a ≤ 1099511627776) ∨ (c.op = 2 ∧ 0 ≤ c.a ∧ c.a ≤ 1048576) ∨ c.op = 3 ∨ c.op = 4 ∨ c.op = 5 ∨ c.op = 6 := by
  revert h
  unfold wantsC wantsM
  simp only [cond_eq_ite, beq_iff_eq, Bool.or_eq_true, decide_eq_true_eq, bne_iff_ne]
  intro h
  (repeat' split at h) <;> omega
theorem world_vals {vs : List Var} {vals : List Val} (h : worldBad vs vals = false) : vs.length = vals.length ∧ ∀ v ∈ vals, vR v = true := by
  simp only [worldBad, Bool.or_eq_false_iff, bne_eq_false_iff_eq, List.any_eq_false, Bool.not_eq_true', Bool.not_eq_false] at h
  exact ⟨by omega, h.2⟩
theorem evLeaf_ok {vs : List Var} {vals : List Val} (act : List Str) {c : Cell} (hc : wantsC c = 0) (hl : vs.length = vals.length) (hv : ∀ v ∈ vals, vOk v = true) : (evLeaf vs vals act c).2 = 0 → vOk (evLeaf vs vals act c).1 = true := by
  have hw := wants_leaf c hc
  unfold evLeaf
  by_cases h1 : c.op = 1
  · rw [if_pos h1]; intro _
    refine numV_ok (i64_iff.2 ?_)
    omega
  rw [if_neg h1]
  by_cases h2 : c.op = 2
  · rw [if_pos h2]; intro _
    have h3 : pIn c.a = true := by simp only [pIn, Bool.and_eq_true, decide_eq_true_eq]; omega
    have h4 : pIn 0 = true := by decide
    have h5 : i64 0 = true := by decide
    simp [vOk, vR, h3, h4, h5]
  rw [if_neg h2]
  by_cases h3 : c.op = 3 ∨ c.op = 4
  · rw [if_pos h3]; intro _; exact truthV_ok _
  rw [if_neg h3]
  by_cases h6 : c.op = 6
  · rw [if_pos h6]; intro _; exact truthV_ok _
  rw [if_neg h6]
  rcases firstAt_find (fun v : Var => v.name == c.name) vs 0 with ⟨g1, _⟩ | ⟨k, x, g1, g2, _⟩
  · simp only [Int.natCast_zero] at g1
    rw [g1]
    intro h; simp at h
  · simp only [Int.natCast_zero, Nat.zero_add] at g1
    have hk := (List.getElem?_eq_some_iff.1 g2).1
    rw [g1, if_neg (by omega), Int.toNat_natCast]
    intro _
    have hk' : k < vals.length := by omega
    rw [ETy.get_eq (t := .val) (List.getElem?_eq_getElem hk')]
    exact hv _ (List.getElem_mem hk')
theorem Tm.val_ok {vs : List Var} {vals : List Val} (act : List Str) (hl : vs.length = vals.length) (hv : ∀ v ∈ vals, vOk v = true) : ∀ (t : Tm), t.ok → (t.val vs vals act).2 = 0 → vOk (t.val vs vals act).1 = true
  | .leaf c, h => evLeaf_ok act h hl hv
  | .un c t, ⟨_, ht⟩ => by
    have ih := t.val_ok act hl hv ht
    simp only [Tm.val]
    by_cases h : (t.val vs vals act).2 ≠ 0
    · rw [if_pos h]; intro h'; exact absurd h' h
    · rw [if_neg h]; exact oneM_ok (ih (by simpa using h))
  | .bin c t u, ⟨_, ht, _⟩ => by
    have ih := t.val_ok act hl hv ht
    simp only [Tm.val]
    by_cases h : (t.val vs vals act).2 ≠ 0
    · rw [if_pos h]; intro h'; exact absurd h' h
    · rw [if_neg h]
      by_cases h2 : (u.val vs vals act).2 ≠ 0
      · rw [if_pos h2]; intro h'; exact absurd h' h2
      · rw [if_neg h2]; exact twoM_ok (ih (by simpa using h))
/-- The errors of values: none of them is ErrArg, or ErrForm. -/
def Own (r : Val × Int) : Prop := r.2 ≠ 12 ∧ r.2 ≠ 1
theorem Own.ite {c : Prop} [Decidable c] {x y : Val × Int} (hx : Own x) (hy : Own y) : Own (if c then x else y) := by
  by_cases h : c
  · rw [if_pos h]; exact hx
  · rw [if_neg h]; exact hy
theorem okI_own (n : Int) : (okI n).2 ≠ 12 ∧ (okI n).2 ≠ 1 := by
  unfold okI; cases i64 n <;> simp
theorem wholeM_own (op a b : Int) : (wholeM op a b).2 ≠ 12 ∧ (wholeM op a b).2 ≠ 1 := by
  unfold wholeM
  repeat' split
  all_goals first
    | exact okI_own _
    | simp
theorem numR_own {r : Int × Int} (h : r.2 ≠ 12 ∧ r.2 ≠ 1) : Own (numR r) := by
  unfold numR
  by_cases h0 : r.2 = 0
  · rw [if_pos h0]; exact ⟨by simp, by simp⟩
  · rw [if_neg h0]; exact h
theorem pointR_own (a b : Int) : Own (pointR a b) := Own.ite ⟨by simp, by simp⟩ ⟨by simp, by simp⟩
theorem oneM_own (op : Int) (u : Val) : Own (oneM op u) := by
  unfold oneM
  repeat' (with_reducible refine Own.ite ?_ ?_)
  all_goals first
    | exact numR_own (okI_own _)
    | exact ⟨by simp, by simp⟩
theorem twoM_own (op : Int) (u v : Val) : Own (twoM op u v) := by
  unfold twoM
  repeat' (with_reducible refine Own.ite ?_ ?_)
  all_goals first
    | exact numR_own (wholeM_own _ _ _)
    | exact pointR_own _ _
    | exact ⟨by simp, by simp⟩
theorem evLeaf_own (vs : List Var) (vals : List Val) (act : List Str) (c : Cell) : Own (evLeaf vs vals act c) := by
  unfold evLeaf
  repeat' (with_reducible refine Own.ite ?_ ?_)
  all_goals exact ⟨by simp, by simp⟩
theorem Tm.val_own (vs : List Var) (vals : List Val) (act : List Str) : ∀ t : Tm, Own (t.val vs vals act)
  | .leaf c => evLeaf_own vs vals act c
  | .un c t => Own.ite (t.val_own vs vals act) (oneM_own _ _)
  | .bin c t u => Own.ite (t.val_own vs vals act) (Own.ite (u.val_own vs vals act) (twoM_own _ _ _))
theorem Tm.val_err (vs : List Var) (vals : List Val) (act : List Str) (t : Tm) : (t.val vs vals act).2 ≠ 12 := (t.val_own vs vals act).1
theorem evGo_flat (vs : List Var) (vals : List Val) (act : List Str) : ∀ (t : Tm), t.ok → ∀ (rest : List Cell) (st : List Val),
    evGo vs vals act (t.flat ++ rest) st = if (t.val vs vals act).2 ≠ 0 then (Val.zero, (t.val vs vals act).2) else evGo vs vals act rest ((t.val vs vals act).1 :: st)
  | .leaf c, h, rest, st => by
    simp only [Tm.ok] at h
    have h7 : c.op < 7 := by rcases wants_cases c (by omega) with ⟨h1, _⟩ | ⟨_, _, h1⟩ | ⟨_, h1⟩ <;> omega
    simp only [Tm.flat, List.cons_append, List.nil_append, evGo, evStep, if_pos h7, Tm.val]
    rfl
  | .un c t, ⟨hw, ht⟩, rest, st => by
    have h7 : ¬ c.op < 7 ∧ c.op < 11 := by rcases wants_cases c (by omega) with ⟨_, h1⟩ | ⟨h1, h2, _⟩ | ⟨_, h1⟩ <;> omega
    rw [Tm.flat, List.append_assoc, evGo_flat vs vals act t ht]
    simp only [Tm.val]
    by_cases hb : (t.val vs vals act).2 ≠ 0
    · simp only [ne_eq, hb, not_true_eq_false, not_false_eq_true, if_true]
    · simp only [hb, if_false]
      simp only [List.cons_append, List.nil_append, evGo, evStep, if_neg h7.1, if_pos h7.2, List.headD_cons, List.drop_one, List.tail_cons]
  | .bin c t u, ⟨hw, ht, hu⟩, rest, st => by
    have h7 : ¬ c.op < 7 ∧ ¬ c.op < 11 := by rcases wants_cases c (by omega) with ⟨_, h1⟩ | ⟨_, _, h1⟩ | ⟨h1, _⟩ <;> omega
    rw [Tm.flat, List.append_assoc, List.append_assoc, evGo_flat vs vals act t ht]
    simp only [Tm.val]
    by_cases hb : (t.val vs vals act).2 ≠ 0
    · simp only [ne_eq, hb, not_true_eq_false, not_false_eq_true, if_true]
    · simp only [hb, if_false]
      rw [evGo_flat vs vals act u hu]
      by_cases hb2 : (u.val vs vals act).2 ≠ 0
      · simp only [ne_eq, hb2, not_true_eq_false, not_false_eq_true, if_true]
      · simp only [hb2, if_false]
        simp only [List.cons_append, List.nil_append, evGo, evStep, if_neg h7.1, if_neg h7.2, List.headD_cons, List.getD_cons_succ, List.getD_cons_zero, List.drop_succ_cons, List.drop_zero]
/-- the value of a right list is its tree's -/
theorem eval_flat (vs : List Var) (vals : List Val) (act : List Str) {t : Tm} (h : t.ok) (hl : t.flat.length ≤ 32) (hw : worldBad vs vals = false) : evalM t.flat vs vals act = t.val vs vals act := by
  have := evGo_flat vs vals act t h [] []
  rw [List.append_nil] at this
  have hr := tm_right h hl
  simp only [evalM, hr, hw, Bool.true_eq_false, if_false, Bool.false_eq_true, this, evGo, List.headD_cons]
  have hp := t.val_plain vs vals act
  generalize t.val vs vals act = r at *
  obtain ⟨v, e⟩ := r
  by_cases h0 : e ≠ 0
  · rw [if_pos h0, ← hp h0]
  · have : e = 0 := by simpa using h0
    rw [if_neg h0, this]
end Go.Proofs.Ytgoihhnfkoklpaa

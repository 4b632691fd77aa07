/- Plain laws: lists of cells as trees; the kinds of trees. Conditions: none. -/
import Derived.Test.YtgoihhnfkoklpaaFc
namespace Go.Proofs.Ytgoihhnfkoklpaa
open Go Go.Ev
set_option maxRecDepth 100000
theorem wants_cases (c : Cell) (h : wantsC c ≥ 0) : (c.op < 7 ∧ wantsC c = 0) ∨ (7 ≤ c.op ∧ c.op < 11 ∧ wantsC c = 1) ∨ (11 ≤ c.op ∧ wantsC c = 2) := by
  rcases wants_op c h with ⟨h1, h2⟩ | ⟨h1, h2, h3⟩ | ⟨h1, h2⟩
  · exact .inl ⟨h2, h1⟩
  · exact .inr (.inl ⟨h2, h3, h1⟩)
  · exact .inr (.inr ⟨h2, h1⟩)
/-- an expression's tree -/
inductive Tm where
  | leaf (c : Cell)
  | un (c : Cell) (t : Tm)
  | bin (c : Cell) (t u : Tm)
def Tm.flat : Tm → List Cell
  | .leaf c => [c]
  | .un c t => t.flat ++ [c]
  | .bin c t u => t.flat ++ u.flat ++ [c]
def Tm.ok : Tm → Prop
  | .leaf c => wantsC c = 0
  | .un c t => wantsC c = 1 ∧ t.ok
  | .bin c t u => wantsC c = 2 ∧ t.ok ∧ u.ok
theorem Tm.flat_pos (t : Tm) : 1 ≤ t.flat.length := by cases t <;> simp only [Tm.flat, List.length_append, List.length_cons, List.length_nil] <;> omega
/-- the trees that lie on the stack, the top one first -/
def flats : List Tm → List Cell
  | [] => []
  | t :: r => flats r ++ t.flat
theorem right_parse : ∀ (rest : List Cell) (ts : List Tm), (∀ t ∈ ts, t.ok) → rightGo rest ts.length = true → ∃ t : Tm, t.ok ∧ t.flat = flats ts ++ rest
  | [], ts, hok, h => by
    simp only [rightGo] at h
    have h1 : ts.length = 1 := by have h2 : (ts.length : Int) = 1 := (by simpa using h); omega
    obtain ⟨t, rfl⟩ := List.length_eq_one_iff.1 h1
    exact ⟨t, hok t (by simp), by simp [flats]⟩
  | c :: rest, ts, hok, h => by
    simp only [rightGo] at h
    cases hb : (decide (wantsC c < 0) || decide (wantsC c > (ts.length : Int)))
    · rw [hb, cond_false] at h
      simp only [Bool.or_eq_false_iff] at hb
      have h1 := of_decide_eq_false hb.1
      have h2 := of_decide_eq_false hb.2
      rcases wants_cases c (by omega) with ⟨_, hw⟩ | ⟨_, _, hw⟩ | ⟨_, hw⟩
      · obtain ⟨t, q1, q2⟩ := right_parse rest (.leaf c :: ts) (by intro t ht; rcases List.mem_cons.1 ht with rfl | ht; exact hw; exact hok t ht) (by rw [← h]; congr 1; simp only [List.length_cons]; omega)
        exact ⟨t, q1, by rw [q2]; simp [flats, Tm.flat]⟩
      · cases ts with
        | nil => simp at h2; omega
        | cons a ts =>
          obtain ⟨t, q1, q2⟩ := right_parse rest (.un c a :: ts) (by intro t ht; rcases List.mem_cons.1 ht with rfl | ht; exact ⟨hw, hok a (by simp)⟩; exact hok t (by simp [ht])) (by rw [← h]; congr 1; simp only [List.length_cons]; omega)
          exact ⟨t, q1, by rw [q2]; simp [flats, Tm.flat]⟩
      · cases ts with
        | nil => simp at h2; omega
        | cons a ts => cases ts with
          | nil => simp at h2; omega
          | cons b ts =>
            obtain ⟨t, q1, q2⟩ := right_parse rest (.bin c b a :: ts) (by intro t ht; rcases List.mem_cons.1 ht with rfl | ht; exact ⟨hw, hok b (by simp), hok a (by simp)⟩; exact hok t (by simp [ht])) (by rw [← h]; congr 1; simp only [List.length_cons]; omega)
            exact ⟨t, q1, by rw [q2]; simp [flats, Tm.flat]⟩
    · rw [hb] at h; simp at h
/-- a right list is a tree -/
theorem right_tm {l : List Cell} (h : rightM l = true) : l.length ≤ 32 ∧ ∃ t : Tm, t.ok ∧ t.flat = l := by
  simp only [rightM, Bool.and_eq_true, Bool.not_eq_true', decide_eq_false_iff_not] at h
  obtain ⟨t, h1, h2⟩ := right_parse l [] (by simp) (by simpa using h.2)
  exact ⟨by omega, t, h1, by simpa [flats] using h2⟩
theorem rightGo_flat (rest : List Cell) : ∀ (t : Tm), t.ok → ∀ n : Int, 0 ≤ n → rightGo (t.flat ++ rest) n = rightGo rest (n + 1)
  | .leaf c, h, n, hn => by
    simp only [Tm.ok] at h
    simp [Tm.flat, rightGo, h, show ¬ (n < 0) from by omega]
  | .un c t, h, n, hn => by
    obtain ⟨hw, ht⟩ := h
    rw [Tm.flat, List.append_assoc, rightGo_flat _ t ht n hn]
    simp [rightGo, hw, show ¬ (n + 1 < 1) from by omega]
  | .bin c t u, h, n, hn => by
    obtain ⟨hw, ht, hu⟩ := h
    rw [Tm.flat, List.append_assoc, List.append_assoc, rightGo_flat _ t ht n hn, rightGo_flat _ u hu _ (by omega)]
    have : ¬ (n + 1 + 1 < 2) := by omega
    simp only [List.cons_append, List.nil_append, rightGo, hw, show decide ((2 : Int) < 0) = false from rfl, Bool.false_or, show decide ((2 : Int) > n + 1 + 1) = false from by simpa using this, cond_false]
    congr 1; omega
theorem tm_right {t : Tm} (h : t.ok) (hl : t.flat.length ≤ 32) : rightM t.flat = true := by
  have := rightGo_flat [] t h 0 (by omega)
  rw [List.append_nil] at this
  simp only [rightM, this, rightGo, Bool.and_eq_true, Bool.not_eq_true', decide_eq_false_iff_not]
  exact ⟨by omega, rfl⟩
/-! ### kinds -/
/-- a kind, or an error -/
def orErr (k : Int) : Int × Int := bif k == 0 then (0, 8) else (k, 0)
def unK (op a : Int) : Int × Int := orErr (madeM op a 0)
def binK (op a b : Int) : Int × Int := orErr (madeM op a b)
def Tm.kind (vars : List Var) (states : List (List UInt8)) : Tm → Int × Int
  | .leaf c => leafM c vars states
  | .un c t => bif (t.kind vars states).2 != 0 then (0, (t.kind vars states).2) else unK c.op (t.kind vars states).1
  | .bin c t u => bif (t.kind vars states).2 != 0 then (0, (t.kind vars states).2) else bif (u.kind vars states).2 != 0 then (0, (u.kind vars states).2) else binK c.op (t.kind vars states).1 (u.kind vars states).1
def OneKind (p : Int × Int) : Prop := (p.2 = 0 → 1 ≤ p.1 ∧ p.1 ≤ 3) ∧ (p.2 ≠ 0 → p.1 = 0)
theorem OneKind.ok {k : Int} (h1 : 1 ≤ k) (h2 : k ≤ 3) : OneKind (k, 0) := ⟨fun _ => ⟨h1, h2⟩, fun h => absurd rfl h⟩
theorem OneKind.err {e : Int} (h : e ≠ 0) : OneKind (0, e) := ⟨fun h1 => absurd h1 h, fun _ => rfl⟩
theorem leaf_one (c : Cell) (vars : List Var) (states : List (List UInt8)) : OneKind (leafM c vars states) := by
  unfold leafM
  cases c.op == 1
  · cases c.op == 2
    · cases c.op == 5
      · cases c.op == 6
        · exact .ok (by decide) (by decide)
        · cases !(states.any fun s => s == c.name)
          · exact .ok (by decide) (by decide)
          · exact .err (by decide)
      · show OneKind (match findVar vars c.name with
          | none => (0, 2)
          | some v => bif decide (v.kind ≥ 1) && decide (v.kind ≤ 3) then (v.kind, 0) else (0, 8))
        cases findVar vars c.name with
        | none => exact .err (by decide)
        | some v =>
          cases hk : (decide (v.kind ≥ 1) && decide (v.kind ≤ 3))
          · simp only [hk, cond_false]; exact .err (by decide)
          · simp only [hk, cond_true]
            simp only [Bool.and_eq_true, decide_eq_true_eq] at hk
            exact .ok (by omega) (by omega)
    · exact .ok (by decide) (by decide)
  · exact .ok (by decide) (by decide)
theorem made_range (op l r : Int) : 0 ≤ madeM op l r ∧ madeM op l r ≤ 3 := by
  have h : ∀ rows : List KRow, (∀ k ∈ rows, 0 ≤ k.out ∧ k.out ≤ 3) → 0 ≤ madeGo op l r rows ∧ madeGo op l r rows ≤ 3 := by
    intro rows
    induction rows with
    | nil => intro _; exact ⟨by simp [madeGo], by simp [madeGo]⟩
    | cons k rows ih =>
      intro hk
      simp only [madeGo]
      cases fitsK op l r k
      · exact ih fun x hx => hk x (List.mem_cons_of_mem _ hx)
      · exact hk k List.mem_cons_self
  exact h krows (by decide)
theorem orErr_one (k : Int) (h : 0 ≤ k ∧ k ≤ 3) : OneKind (orErr k) := by
  unfold orErr
  cases hk : (k == 0)
  · have : k ≠ 0 := by simpa using hk
    exact .ok (by omega) (by omega)
  · exact .err (by decide)
theorem Tm.kind_one (vars : List Var) (states : List (List UInt8)) (t : Tm) : OneKind (t.kind vars states) := by
  cases t with
  | leaf c => exact leaf_one c vars states
  | un c t =>
    simp only [Tm.kind]
    cases hb : ((t.kind vars states).2 != 0)
    · exact orErr_one _ (made_range _ _ _)
    · exact .err (by simpa using hb)
  | bin c t u =>
    simp only [Tm.kind]
    cases hb : ((t.kind vars states).2 != 0)
    · cases hb2 : ((u.kind vars states).2 != 0)
      · exact orErr_one _ (made_range _ _ _)
      · exact .err (by simpa using hb2)
    · exact .err (by simpa using hb)
theorem orErr_step (k : Int) : (bif (0 : Int) == 0 && k == 0 then (8 : Int) else 0) = (orErr k).2 ∧ ((orErr k).2 = 0 → (orErr k).1 = k) := by
  unfold orErr
  cases hk : (k == 0) <;> simp
theorem kindGo_flat (vars : List Var) (states : List (List UInt8)) : ∀ (t : Tm), t.ok → ∀ (rest : List Cell) (st : List Int),
    kindGo vars states (t.flat ++ rest) st = bif (t.kind vars states).2 != 0 then (0, (t.kind vars states).2) else kindGo vars states rest ((t.kind vars states).1 :: st)
  | .leaf c, h, rest, st => by
    simp only [Tm.ok] at h
    have h7 : decide (c.op < 7) = true := by rcases wants_cases c (by omega) with ⟨h1, _⟩ | ⟨_, _, h1⟩ | ⟨_, h1⟩ <;> first | exact decide_eq_true h1 | omega
    have hl := leaf_one c vars states
    have e : (bif (leafM c vars states).2 == 0 && (leafM c vars states).1 == 0 then (8 : Int) else (leafM c vars states).2) = (leafM c vars states).2 := by
      cases hb : ((leafM c vars states).2 == 0 && (leafM c vars states).1 == 0)
      · rfl
      · simp only [Bool.and_eq_true, beq_iff_eq] at hb
        have := hl.1 hb.1; omega
    simp only [Tm.flat, List.cons_append, List.nil_append, kindGo, kindStep, h7, cond_true, e, Tm.kind]
  | .un c t, ⟨hw, ht⟩, rest, st => by
    have h7 : decide (c.op < 7) = false ∧ decide (c.op < 11) = true := by rcases wants_cases c (by omega) with ⟨_, h1⟩ | ⟨h1, h2, _⟩ | ⟨_, h1⟩ <;> first | exact ⟨decide_eq_false (by omega), decide_eq_true (by omega)⟩ | omega
    rw [Tm.flat, List.append_assoc, kindGo_flat vars states t ht]
    simp only [Tm.kind]
    cases hb : ((t.kind vars states).2 != 0)
    · have ho := orErr_step (madeM c.op (t.kind vars states).1 0)
      simp only [cond_false, List.cons_append, List.nil_append, kindGo, kindStep, h7.1, h7.2, cond_true, List.getD_cons_zero, ho.1, unK, List.drop_one, List.tail_cons]
      cases hb2 : ((orErr (madeM c.op (t.kind vars states).1 0)).2 != 0)
      · have : (orErr (madeM c.op (t.kind vars states).1 0)).2 = 0 := by simpa using hb2
        simp only [cond_false, ho.2 this]
      · rfl
    · simp only [cond_true, hb]
  | .bin c t u, ⟨hw, ht, hu⟩, rest, st => by
    have h7 : decide (c.op < 7) = false ∧ decide (c.op < 11) = false := by rcases wants_cases c (by omega) with ⟨_, h1⟩ | ⟨_, _, h1⟩ | ⟨h1, _⟩ <;> first | exact ⟨decide_eq_false (by omega), decide_eq_false (by omega)⟩ | omega
    rw [Tm.flat, List.append_assoc, List.append_assoc, kindGo_flat vars states t ht]
    simp only [Tm.kind]
    cases hb : ((t.kind vars states).2 != 0)
    · simp only [cond_false]
      rw [kindGo_flat vars states u hu]
      cases hb3 : ((u.kind vars states).2 != 0)
      · have ho := orErr_step (madeM c.op (t.kind vars states).1 (u.kind vars states).1)
        simp only [cond_false, List.cons_append, List.nil_append, kindGo, kindStep, h7.1, h7.2, List.getD_cons_zero, List.getD_cons_succ, ho.1, binK, List.drop_succ_cons, List.drop_zero]
        cases hb2 : ((orErr (madeM c.op (t.kind vars states).1 (u.kind vars states).1)).2 != 0)
        · have : (orErr (madeM c.op (t.kind vars states).1 (u.kind vars states).1)).2 = 0 := by simpa using hb2
          simp only [cond_false, ho.2 this]
        · rfl
      · simp only [cond_true, hb3]
    · simp only [cond_true, hb]
theorem kinds_flat (vars : List Var) (states : List (List UInt8)) {t : Tm} (h : t.ok) (hl : t.flat.length ≤ 32) : kindsM t.flat vars states = t.kind vars states := by
  have := kindGo_flat vars states t h [] []
  rw [List.append_nil] at this
  simp only [kindsM, tm_right h hl, Bool.not_true, cond_false, this, kindGo]
  have hk := t.kind_one vars states
  cases hb : ((t.kind vars states).2 != 0)
  · have h0 : (t.kind vars states).2 = 0 := by simpa using hb
    simp only [cond_false, List.getLastD_cons, List.getLastD_nil]; rw [← h0]
  · simp only [cond_true]
    have := hk.2 (by simpa using hb)
    rw [← this]
/-! ### the document's rules -/
def unRef (op a : Int) : Int × Int :=
  bif op == 7 && a != 2 then (a, 0) else bif op == 8 && a == 2 then (a, 0) else bif decide (op > 8) && a == 3 then (1, 0) else (0, 8)
def joinedM (op k : Int) : Int × Int :=
  bif op == 16 || op == 17 then (2, 0)
  else bif op == 22 || op == 23 then (bif k == 2 then (k, 0) else (0, 8))
  else bif decide (op ≥ 18) then (bif k == 1 then (2, 0) else (0, 8))
  else bif decide (op ≥ 14) then (bif k == 1 then (k, 0) else (0, 8))
  else bif k != 2 then (k, 0) else (0, 8)
def binRef (op a b : Int) : Int × Int := bif a != b then (0, 8) else joinedM op a
theorem un_ref (op a : Int) (h1 : 7 ≤ op) (h2 : op < 11) (h3 : 1 ≤ a) (h4 : a ≤ 3) : unRef op a = unK op a := by
  have ho : op = 7 ∨ op = 8 ∨ op = 9 ∨ op = 10 := by omega
  have ha : a = 1 ∨ a = 2 ∨ a = 3 := by omega
  rcases ho with rfl | rfl | rfl | rfl <;> rcases ha with rfl | rfl | rfl <;> rfl
theorem bin_ref (op a b : Int) (h1 : 11 ≤ op) (h2 : op ≤ 23) (h3 : 1 ≤ a) (h4 : a ≤ 3) (h5 : 1 ≤ b) (h6 : b ≤ 3) : binRef op a b = binK op a b := by
  have ho : op = 11 ∨ op = 12 ∨ op = 13 ∨ op = 14 ∨ op = 15 ∨ op = 16 ∨ op = 17 ∨ op = 18 ∨ op = 19 ∨ op = 20 ∨ op = 21 ∨ op = 22 ∨ op = 23 := by omega
  have ha : a = 1 ∨ a = 2 ∨ a = 3 := by omega
  have hb : b = 1 ∨ b = 2 ∨ b = 3 := by omega
  rcases ho with rfl | rfl | rfl | rfl | rfl | rfl | rfl | rfl | rfl | rfl | rfl | rfl | rfl <;> rcases ha with rfl | rfl | rfl <;> rcases hb with rfl | rfl | rfl <;> rfl
end Go.Proofs.Ytgoihhnfkoklpaa

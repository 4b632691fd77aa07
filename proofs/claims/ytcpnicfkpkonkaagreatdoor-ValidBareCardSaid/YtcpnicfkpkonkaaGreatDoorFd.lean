/- Plain laws: lists of cells as trees; the kinds of trees. Conditions: none. Contracts: the document's names, operands, right lists. Conditions: none. -/
import Derived.Test.YtcpnicfkpkonkaaGreatDoorFc
namespace Go.Proofs.YtcpnicfkpkonkaaGreatDoor
open Go Go.Ev
set_option maxRecDepth 100000
theorem wants_cases (c : Cell) (h : wantsC c ≥ 0) : (c.op < 7 ∧ wantsC c = 0) ∨ (7 ≤ c.op ∧ c.op < 11 ∧ wantsC c = 1) ∨ (11 ≤ c.op ∧ wantsC c = 2) := by
  rcases wants_op c h with ⟨h1, h2⟩ | ⟨h1, h2, h3⟩ | ⟨h1, h2⟩
  · exact .inl ⟨h2, h1⟩
  · exact .inr (.inl ⟨h2, h3, h1⟩)
  · exact .inr (.inr ⟨h2, h1⟩)
inductive Tm where
  | leaf (c : Cell)
  | un (c : Cell) (t : Tm)
  | bin (c : Cell) (t u : Tm)
def Tm.flat : Tm → List Cell
  | .leaf c => [c]
  | .un c t => t.flat ++ [c]
  | .bin c t u => t.flat ++ u.flat ++ [c]
def Tm.ok : Tm → Prop
  | .leaf c => wantsC c = 0
  | .un c t => wantsC c = 1 ∧ t.ok
  | .bin c t u => wantsC c = 2 ∧ t.ok ∧ u.ok
theorem Tm.flat_pos (t : Tm) : 1 ≤ t.flat.length := by cases t <;> simp only [Tm.flat, List.length_append, List.length_cons, List.length_nil] <;> omega
def flats : List Tm → List Cell
  | [] => []
  | t :: r => flats r ++ t.flat
theorem right_parse : ∀ (rest : List Cell) (ts : List Tm), (∀ t ∈ ts, t.ok) → rightGo rest ts.length = true → ∃ t : Tm, t.ok ∧ t.flat = flats ts ++ rest
  | [], ts, hok, h => by
    simp only [rightGo] at h
    have h1 : ts.length = 1 := by have h2 : (ts.length : Int) = 1 := (by simpa using h); omega
    obtain ⟨t, rfl⟩ := List.length_eq_one_iff.1 h1
    exact ⟨t, hok t (by simp), by simp [flats]⟩
  | c :: rest, ts, hok, h => by
    simp only [rightGo] at h
    cases hb : (decide (wantsC c < 0) || decide (wantsC c > (ts.length : Int)))
    · rw [hb, cond_false] at h
      simp only [Bool.or_eq_false_iff] at hb
      have h1 := of_decide_eq_false hb.1
      have h2 := of_decide_eq_false hb.2
      rcases wants_cases c (by omega) with ⟨_, hw⟩ | ⟨_, _, hw⟩ | ⟨_, hw⟩
      · obtain ⟨t, q1, q2⟩ := right_parse rest (.leaf c :: ts) (by intro t ht; rcases List.mem_cons.1 ht with rfl | ht; exact hw; exact hok t ht) (by rw [← h]; congr 1; simp only [List.length_cons]; omega)
        exact ⟨t, q1, by rw [q2]; simp [flats, Tm.flat]⟩
      · cases ts with
        | nil => simp at h2; omega
        | cons a ts =>
          obtain ⟨t, q1, q2⟩ := right_parse rest (.un c a :: ts) (by intro t ht; rcases List.mem_cons.1 ht with rfl | ht; exact ⟨hw, hok a (by simp)⟩; exact hok t (by simp [ht])) (by rw [← h]; congr 1; simp only [List.length_cons]; omega)
          exact ⟨t, q1, by rw [q2]; simp [flats, Tm.flat]⟩
      · cases ts with
        | nil => simp at h2; omega
        | cons a ts => cases ts with
          | nil => simp at h2; omega
          | cons b ts =>
            obtain ⟨t, q1, q2⟩ := right_parse rest (.bin c b a :: ts) (by intro t ht; rcases List.mem_cons.1 ht with rfl | ht; exact ⟨hw, hok b (by simp), hok a (by simp)⟩; exact hok t (by simp [ht])) (by rw [← h]; congr 1; simp only [List.length_cons]; omega)
            exact ⟨t, q1, by rw [q2]; simp [flats, Tm.flat]⟩
    · rw [hb] at h; simp at h
theorem right_tm {l : List Cell} (h : rightM l = true) : l.length ≤ 32 ∧ ∃ t : Tm, t.ok ∧ t.flat = l := by
  simp only [rightM, Bool.and_eq_true, Bool.not_eq_true', decide_eq_false_iff_not] at h
  obtain ⟨t, h1, h2⟩ := right_parse l [] (by simp) (by simpa using h.2)
  exact ⟨by omega, t, h1, by simpa [flats] using h2⟩
theorem rightGo_flat (rest : List Cell) : ∀ (t : Tm), t.ok → ∀ n : Int, 0 ≤ n → rightGo (t.flat ++ rest) n = rightGo rest (n + 1)
  | .leaf c, h, n, hn => by
    simp only [Tm.ok] at h
    simp [Tm.flat, rightGo, h, show ¬ (n < 0) from by omega]
  | .un c t, h, n, hn => by
    obtain ⟨hw, ht⟩ := h
    rw [Tm.flat, List.append_assoc, rightGo_flat _ t ht n hn]
    simp [rightGo, hw, show ¬ (n + 1 < 1) from by omega]
  | .bin c t u, h, n, hn => by
    obtain ⟨hw, ht, hu⟩ := h
    rw [Tm.flat, List.append_assoc, List.append_assoc, rightGo_flat _ t ht n hn, rightGo_flat _ u hu _ (by omega)]
    have : ¬ (n + 1 + 1 < 2) := by omega
    simp only [List.cons_append, List.nil_append, rightGo, hw, show decide ((2 : Int) < 0) = false from rfl, Bool.false_or, show decide ((2 : Int) > n + 1 + 1) = false from by simpa using this, cond_false]
    congr 1; omega
theorem tm_right {t : Tm} (h : t.ok) (hl : t.flat.length ≤ 32) : rightM t.flat = true := by
  have := rightGo_flat [] t h 0 (by omega)
  rw [List.append_nil] at this
  simp only [rightM, this, rightGo, Bool.and_eq_true, Bool.not_eq_true', decide_eq_false_iff_not]
  exact ⟨by omega, rfl⟩
/-! ### kinds -/
def orErr (k : Int) : Int × Int := bif k == 0 then (0, 8) else (k, 0)
def unK (op a : Int) : Int × Int := orErr (madeM op a 0)
def binK (op a b : Int) : Int × Int := orErr (madeM op a b)
def Tm.kind (vars : List Var) (states : List (List UInt8)) : Tm → Int × Int
  | .leaf c => leafM c vars states
  | .un c t => bif (t.kind vars states).2 != 0 then (0, (t.kind vars states).2) else unK c.op (t.kind vars states).1
  | .bin c t u => bif (t.kind vars states).2 != 0 then (0, (t.kind vars states).2) else bif (u.kind vars states).2 != 0 then (0, (u.kind vars states).2) else binK c.op (t.kind vars states).1 (u.kind vars states).1
def OneKind (p : Int × Int) : Prop := (p.2 = 0 → 1 ≤ p.1 ∧ p.1 ≤ 3) ∧ (p.2 ≠ 0 → p.1 = 0)
theorem OneKind.ok {k : Int} (h1 : 1 ≤ k) (h2 : k ≤ 3) : OneKind (k, 0) := ⟨fun _ => ⟨h1, h2⟩, fun h => absurd rfl h⟩
theorem OneKind.err {e : Int} (h : e ≠ 0) : OneKind (0, e) := ⟨fun h1 => absurd h1 h, fun _ => rfl⟩
theorem leaf_one (c : Cell) (vars : List Var) (states : List (List UInt8)) : OneKind (leafM c vars states) := by
  unfold leafM
  cases c.op == 1
  · cases c.op == 2
    · cases c.op == 5
      · cases c.op == 6
        · exact .ok (by decide) (by decide)
        · cases !(states.any fun s => s == c.name)
          · exact .ok (by decide) (by decide)
          · exact .err (by decide)
      · show OneKind (match findVar vars c.name with
          | none => (0, 2)
          | some v => bif decide (v.kind ≥ 1) && decide (v.kind ≤ 3) then (v.kind, 0) else (0, 8))
        cases findVar vars c.name with
        | none => exact .err (by decide)
        | some v =>
          cases hk : (decide (v.kind ≥ 1) && decide (v.kind ≤ 3))
          · simp only [hk, cond_false]; exact .err (by decide)
          · simp only [hk, cond_true]
            simp only [Bool.and_eq_true, decide_eq_true_eq] at hk
            exact .ok (by omega) (by omega)
    · exact .ok (by decide) (by decide)
  · exact .ok (by decide) (by decide)
theorem made_range (op l r : Int) : 0 ≤ madeM op l r ∧ madeM op l r ≤ 3 := by
  have h : ∀ rows : List KRow, (∀ k ∈ rows, 0 ≤ k.out ∧ k.out ≤ 3) → 0 ≤ madeGo op l r rows ∧ madeGo op l r rows ≤ 3 := by
    intro rows
    induction rows with
    | nil => intro _; exact ⟨by simp [madeGo], by simp [madeGo]⟩
    | cons k rows ih =>
      intro hk
      simp only [madeGo]
      cases fitsK op l r k
      · exact ih fun x hx => hk x (List.mem_cons_of_mem _ hx)
      · exact hk k List.mem_cons_self
  exact h krows (by decide)
theorem orErr_one (k : Int) (h : 0 ≤ k ∧ k ≤ 3) : OneKind (orErr k) := by
  unfold orErr
  cases hk : (k == 0)
  · have : k ≠ 0 := by simpa using hk
    exact .ok (by omega) (by omega)
  · exact .err (by decide)
theorem Tm.kind_one (vars : List Var) (states : List (List UInt8)) (t : Tm) : OneKind (t.kind vars states) := by
  cases t with
  | leaf c => exact leaf_one c vars states
  | un c t =>
    simp only [Tm.kind]
    cases hb : ((t.kind vars states).2 != 0)
    · exact orErr_one _ (made_range _ _ _)
    · exact .err (by simpa using hb)
  | bin c t u =>
    simp only [Tm.kind]
    cases hb : ((t.kind vars states).2 != 0)
    · cases hb2 : ((u.kind vars states).2 != 0)
      · exact orErr_one _ (made_range _ _ _)
      · exact .err (by simpa using hb2)
    · exact .err (by simpa using hb)
theorem orErr_step (k : Int) : (bif (0 : Int) == 0 && k == 0 then (8 : Int) else 0) = (orErr k).2 ∧ ((orErr k).2 = 0 → (orErr k).1 = k) := by
  unfold orErr
  cases hk : (k == 0) <;> simp
theorem kindGo_flat (vars : List Var) (states : List (List UInt8)) : ∀ (t : Tm), t.ok → ∀ (rest : List Cell) (st : List Int),
    kindGo vars states (t.flat ++ rest) st = bif (t.kind vars states).2 != 0 then (0, (t.kind vars states).2) else kindGo vars states rest ((t.kind vars states).1 :: st)
  | .leaf c, h, rest, st => by
    simp only [Tm.ok] at h
    have h7 : decide (c.op < 7) = true := by rcases wants_cases c (by omega) with ⟨h1, _⟩ | ⟨_, _, h1⟩ | ⟨_, h1⟩ <;> first | exact decide_eq_true h1 | omega
    have hl := leaf_one c vars states
    have e : (bif (leafM c vars states).2 == 0 && (leafM c vars states).1 == 0 then (8 : Int) else (leafM c vars states).2) = (leafM c vars states).2 := by
      cases hb : ((leafM c vars states).2 == 0 && (leafM c vars states).1 == 0)
      · rfl
      · simp only [Bool.and_eq_true, beq_iff_eq] at hb
        have := hl.1 hb.1; omega
    simp only [Tm.flat, List.cons_append, List.nil_append, kindGo, kindStep, h7, cond_true, e, Tm.kind]
  | .un c t, ⟨hw, ht⟩, rest, st => by
    have h7 : decide (c.op < 7) = false ∧ decide (c.op < 11) = true := by rcases wants_cases c (by omega) with ⟨_, h1⟩ | ⟨h1, h2, _⟩ | ⟨_, h1⟩ <;> first | exact ⟨decide_eq_false (by omega), decide_eq_true (by omega)⟩ | omega
    rw [Tm.flat, List.append_assoc, kindGo_flat vars states t ht]
    simp only [Tm.kind]
    cases hb : ((t.kind vars states).2 != 0)
    · have ho := orErr_step (madeM c.op (t.kind vars states).1 0)
      simp only [cond_false, List.cons_append, List.nil_append, kindGo, kindStep, h7.1, h7.2, cond_true, List.getD_cons_zero, ho.1, unK, List.drop_one, List.tail_cons]
      cases hb2 : ((orErr (madeM c.op (t.kind vars states).1 0)).2 != 0)
      · have : (orErr (madeM c.op (t.kind vars states).1 0)).2 = 0 := by simpa using hb2
        simp only [cond_false, ho.2 this]
      · rfl
    · simp only [cond_true, hb]
  | .bin c t u, ⟨hw, ht, hu⟩, rest, st => by
    have h7 : decide (c.op < 7) = false ∧ decide (c.op < 11) = false := by rcases wants_cases c (by omega) with ⟨_, h1⟩ | ⟨_, _, h1⟩ | ⟨h1, _⟩ <;> first | exact ⟨decide_eq_false (by omega), decide_eq_false (by omega)⟩ | omega
    rw [Tm.flat, List.append_assoc, List.append_assoc, kindGo_flat vars states t ht]
    simp only [Tm.kind]
    cases hb : ((t.kind vars states).2 != 0)
    · simp only [cond_false]
      rw [kindGo_flat vars states u hu]
      cases hb3 : ((u.kind vars states).2 != 0)
      · have ho := orErr_step (madeM c.op (t.kind vars states).1 (u.kind vars states).1)
        simp only [cond_false, List.cons_append, List.nil_append, kindGo, kindStep, h7.1, h7.2, List.getD_cons_zero, List.getD_cons_succ, ho.1, binK, List.drop_succ_cons, List.drop_zero]
        cases hb2 : ((orErr (madeM c.op (t.kind vars states).1 (u.kind vars states).1)).2 != 0)
        · have : (orErr (madeM c.op (t.kind vars states).1 (u.kind vars states).1)).2 = 0 := by simpa using hb2
          simp only [cond_false, ho.2 this]
        · rfl
      · simp only [cond_true, hb3]
    · simp only [cond_true, hb]
theorem kinds_flat (vars : List Var) (states : List (List UInt8)) {t : Tm} (h : t.ok) (hl : t.flat.length ≤ 32) : kindsM t.flat vars states = t.kind vars states := by
  have := kindGo_flat vars states t h [] []
  rw [List.append_nil] at this
  simp only [kindsM, tm_right h hl, Bool.not_true, cond_false, this, kindGo]
  have hk := t.kind_one vars states
  cases hb : ((t.kind vars states).2 != 0)
  · have h0 : (t.kind vars states).2 = 0 := by simpa using hb
    simp only [cond_false, List.getLastD_cons, List.getLastD_nil]; rw [← h0]
  · simp only [cond_true]
    have := hk.2 (by simpa using hb)
    rw [← this]
/-! ### the document's rules -/
def unRef (op a : Int) : Int × Int :=
  bif op == 7 && a != 2 then (a, 0) else bif op == 8 && a == 2 then (a, 0) else bif decide (op > 8) && a == 3 then (1, 0) else (0, 8)
def joinedM (op k : Int) : Int × Int :=
  bif op == 16 || op == 17 then (2, 0)
  else bif op == 22 || op == 23 then (bif k == 2 then (k, 0) else (0, 8))
  else bif decide (op ≥ 18) then (bif k == 1 then (2, 0) else (0, 8))
  else bif decide (op ≥ 14) then (bif k == 1 then (k, 0) else (0, 8))
  else bif k != 2 then (k, 0) else (0, 8)
def binRef (op a b : Int) : Int × Int := bif a != b then (0, 8) else joinedM op a
theorem un_ref (op a : Int) (h1 : 7 ≤ op) (h2 : op < 11) (h3 : 1 ≤ a) (h4 : a ≤ 3) : unRef op a = unK op a := by
  have ho : op = 7 ∨ op = 8 ∨ op = 9 ∨ op = 10 := by omega
  have ha : a = 1 ∨ a = 2 ∨ a = 3 := by omega
  rcases ho with rfl | rfl | rfl | rfl <;> rcases ha with rfl | rfl | rfl <;> rfl
theorem bin_ref (op a b : Int) (h1 : 11 ≤ op) (h2 : op ≤ 23) (h3 : 1 ≤ a) (h4 : a ≤ 3) (h5 : 1 ≤ b) (h6 : b ≤ 3) : binRef op a b = binK op a b := by
  have ho : op = 11 ∨ op = 12 ∨ op = 13 ∨ op = 14 ∨ op = 15 ∨ op = 16 ∨ op = 17 ∨ op = 18 ∨ op = 19 ∨ op = 20 ∨ op = 21 ∨ op = 22 ∨ op = 23 := by omega
  have ha : a = 1 ∨ a = 2 ∨ a = 3 := by omega
  have hb : b = 1 ∨ b = 2 ∨ b = 3 := by omega
  rcases ho with rfl | rfl | rfl | rfl | rfl | rfl | rfl | rfl | rfl | rfl | rfl | rfl | rfl <;> rcases ha with rfl | rfl | rfl <;> rcases hb with rfl | rfl | rfl <;> rfl
def refBad (k : Int) (c : UInt8) : Bool :=
  !(decide ((c.toNat : Int) ≥ 97) && decide ((c.toNat : Int) ≤ 122)) && (k == 0 || !(decide ((c.toNat : Int) ≥ 48) && decide ((c.toNat : Int) ≤ 57) || (c.toNat : Int) == 95))
def refShort (s : List UInt8) : Bool := decide (strLen s < 1) || decide (strLen s > 12) || s == [116, 114, 117, 101] || s == [102, 97, 108, 115, 101] || s == [105, 110] || s == [114, 101] || s == [105, 109]
theorem refBad_badB {k : Nat} {c : UInt8} (hk : k ≠ 0) (h : refBad k c = true) : badB c = true := by
  have hk' : ((k : Int) == 0) = false := by simp; omega
  simp only [refBad, hk', Bool.false_or, Bool.and_eq_true, Bool.not_eq_true', Bool.and_eq_false_iff, Bool.or_eq_false_iff, decide_eq_false_iff_not, badB, Bool.or_eq_true, decide_eq_true_eq, bne_iff_ne, beq_eq_false_iff_ne] at *
  omega
theorem not_refBad {k : Nat} {c : UInt8} (h : refBad k c = false) : badB c = false := by
  cases hb : badB c
  · rfl
  · exfalso
    have h' : refBad k c = true := by
      cases hk : ((k : Int) == 0) <;>
      simp only [refBad, hk, Bool.false_or, Bool.true_or, Bool.and_true, Bool.and_eq_true, Bool.not_eq_true', Bool.and_eq_false_iff, Bool.or_eq_false_iff, decide_eq_false_iff_not, badB, Bool.or_eq_true, decide_eq_true_eq, bne_iff_ne, beq_eq_false_iff_ne] at * <;> omega
    rw [h] at h'; cases h'
theorem ref_short {s : List UInt8} (h : refShort s = true) : nameM s = false := by
  simp only [refShort, Bool.or_eq_true, decide_eq_true_eq, beq_iff_eq] at h
  cases hn : nameM s
  · rfl
  · exfalso
    simp only [nameM, name0, words5, Bool.and_eq_true, Bool.not_eq_true', Bool.or_eq_false_iff, decide_eq_false_iff_not, beq_eq_false_iff_ne] at hn
    have hl : s = [] ∨ 1 ≤ strLen s := by cases s <;> simp [strLen]; omega
    rcases h with (((((h | h) | h) | h) | h) | h) | h
    · rcases hl with hl | hl
      · exact hn.1.1.1.1.1 hl
      · omega
    · exact hn.1.1.1.1.2 h
    all_goals first | exact hn.2.1.1.1.1 h | exact hn.2.1.1.1.2 h | exact hn.2.1.1.2 h | exact hn.2.1.2 h | exact hn.2.2 h


theorem ref_name_loop (s : Str) (Γ : Ctx) (h0 : refShort s = false) : ∀ (n k : Nat), s.length - k ≤ n → k ≤ s.length → (∀ j, j < k → refBad j (s.getD j 0) = false) →
    J Tryz.prog 42 (bodyOf Tryz.f42) Γ (Eq2 (.x (.b (nameM s))) []) [.code [1, 1, 0, 1, 0, 0], .inLoop [1, 1, 0, 1, 0, 0], .inBlock 0, .code [1, 1, 1]] ({ n := 76, fr := [(0, .p (.str s)), (2, .p (.bool false)), (3, .i (k))], ck := [], kn := [2] }) := by
  have hlen : s.length ≤ 12 ∧ 1 ≤ s.length := by
    simp only [refShort, Bool.or_eq_false_iff, decide_eq_false_iff_not, strLen] at h0
    have h1 := of_decide_eq_false h0.1.1.1.1.1.1
    have h2 := of_decide_eq_false h0.1.1.1.1.1.2
    omega
  intro n
  induction n with
  | zero => ?_
  | succ n ih => ?_
  all_goals
    intro k hn hk hb
    refine J.go (cfg := cfg0) cfg0_ok Tryz.func42 1000 (t := (.ite (decide ((↑k : Int) < strLen s)) (.need ((0 : Int) ≤ (↑k : Int) ∧ (↑k : Int) < strLen s) (.need (decide ((↑(UInt8.toNat (List.getD s k (0 : UInt8))) : Int) ≥ (97 : Int)) = true → (0 : Int) ≤ (↑k : Int) ∧ (↑k : Int) < strLen s) (.need ((0 : Int) ≤ (↑k : Int) ∧ (↑k : Int) < strLen s) (.need (decide ((↑(UInt8.toNat (List.getD s k (0 : UInt8))) : Int) ≥ (48 : Int)) = true → (0 : Int) ≤ (↑k : Int) ∧ (↑k : Int) < strLen s) (.need ((decide ((↑(UInt8.toNat (List.getD s k (0 : UInt8))) : Int) ≥ (48 : Int)) && decide ((↑(UInt8.toNat (List.getD s k (0 : UInt8))) : Int) ≤ (57 : Int))) = false → (0 : Int) ≤ (↑k : Int) ∧ (↑k : Int) < strLen s) (.ite (!(decide ((↑(UInt8.toNat (List.getD s k (0 : UInt8))) : Int) ≥ (97 : Int)) && decide ((↑(UInt8.toNat (List.getD s k (0 : UInt8))) : Int) ≤ (122 : Int))) && ((↑k : Int) == (0 : Int) || !(decide ((↑(UInt8.toNat (List.getD s k (0 : UInt8))) : Int) ≥ (48 : Int)) && decide ((↑(UInt8.toNat (List.getD s k (0 : UInt8))) : Int) ≤ (57 : Int)) || (↑(UInt8.toNat (List.getD s k (0 : UInt8))) : Int) == (95 : Int)))) (.ret (.p (.bool false)) []) (.stop [.code [1, 1, 0, 1, 0, 0], .inLoop [1, 1, 0, 1, 0, 0], .inBlock 0, .code [1, 1, 1]] { n := 76, fr := [(0, .p (.str s)), (2, .p (.bool false)), (3, .i (IntKind.wrap .i64 ((↑k : Int) + (1 : Int))))], ck := [], kn := [2] }))))))) (.ret (.p (.bool true)) []))) (by kernel_rfl) ?_
    have inb : decide ((k : Int) < strLen s) = true → 0 ≤ (k : Int) ∧ (k : Int) < strLen s := fun h => ⟨by omega, of_decide_eq_true h⟩
    refine ⟨fun hlt => ⟨inb hlt, fun _ => inb hlt, inb hlt, fun _ => inb hlt, fun _ => inb hlt, fun hbad => ⟨?_, rfl⟩, fun hok => ?_⟩, fun hge => ⟨?_, rfl⟩⟩
    · have hbad' : refBad k (s.getD k 0) = true := hbad
      have hlt' := of_decide_eq_true hlt
      simp only [strLen] at hlt'
      have e : nameM s = false := by
        by_cases hz : k = 0
        · subst hz
          have : name0 s = true := by
            simp only [refBad, Bool.and_eq_true, Bool.not_eq_true', Bool.and_eq_false_iff, decide_eq_false_iff_not] at hbad'
            simp only [name0, Bool.or_eq_true, decide_eq_true_eq]
            omega
          simp [nameM, this]
        · simp [nameM, any_getD (by omega) (refBad_badB hz hbad')]
      rw [e]
    · have hok' : refBad k (s.getD k 0) = false := hok
      have hlt' := of_decide_eq_true hlt
      simp only [strLen] at hlt'
      first
      | (exfalso; omega)
      | (rw [wrapK (by omega)]
         exact ih (k + 1) (by omega) (by omega) fun j hj => if e : j = k then by rw [e]; exact hok' else hb j (by omega))
    · have hge' := of_decide_eq_false hge
      simp only [strLen] at hge'
      have hany : s.any badB = false := not_any_getD fun j hj => not_refBad (hb j (by omega))
      have h00 := hb 0 (by omega)
      simp only [refBad, Int.ofNat_eq_natCast, Bool.and_eq_false_iff, Bool.not_eq_false', Bool.and_eq_true, decide_eq_true_eq] at h00
      simp only [refShort, Bool.or_eq_false_iff, decide_eq_false_iff_not] at h0
      have hne : (s == []) = false := by cases s with | nil => simp at hlen | cons => rfl
      have hn0 : name0 s = false := by
        simp only [name0, hne, Bool.false_or, Bool.or_eq_false_iff, decide_eq_false_iff_not]
        rcases h00 with h | h
        · refine ⟨⟨by omega, by omega⟩, by omega⟩
        · simp at h
      have hw5 : words5 s = false := by simp [words5, h0]
      simp [nameM, hany, hn0, hw5]
theorem ref_name_spec (s : Str) : Does Tryz.prog 42 [.s s] [] (.x (.b (nameM s))) [] := by
  refine Does.go (cfg := cfg0) cfg0_ok Tryz.func42 (by kernel_rfl) (by kernel_rfl) (t := (.ite (decide (strLen s < (1 : Int)) || decide (strLen s > (12 : Int)) || s == [(116 : UInt8), 114, 117, 101] || s == [(102 : UInt8), 97, 108, 115, 101] || s == [(105 : UInt8), 110] || s == [(114 : UInt8), 101] || s == [(105 : UInt8), 109]) (.ret (.p (.bool false)) []) (.stop [.code [1, 1, 0, 1, 0, 0], .inLoop [1, 1, 0, 1, 0, 0], .inBlock 0, .code [1, 1, 1]] { n := 76, fr := [(0, .p (.str s)), (2, .p (.bool false)), (3, .i (0 : Int))], ck := [], kn := [2] }))) (by kernel_rfl) fun Γ => ?_
  refine ⟨fun h => ⟨?_, rfl⟩, fun h => ?_⟩
  · rw [ref_short h]
  · exact ref_name_loop s Γ h s.length 0 (by omega) (by omega) (fun j hj => by omega)
def eRnm : Nat × (List SX → List Chunk → Option (Option Prop × SV × List Chunk)) := (42, fun
  | [.c (.pd (.str s))], [] => some (none, .x (.c (.pd (.bool (nameM s)))), [])
  | _, _ => none)
theorem eRnm_ok (vs : List SX) (ck : List Chunk) (p : Option Prop) (ret : SV) (ck' : List Chunk) (h : eRnm.2 vs ck = some (p, ret, ck')) (hp : Holds p) : Does Tryz.prog eRnm.1 vs ck ret ck' := by
  unfold eRnm at h
  simp only at h
  split at h
  · rename_i s
    simp only [Option.some.injEq, Prod.mk.injEq] at h
    obtain ⟨rfl, rfl, rfl⟩ := h
    exact ref_name_spec s
  · simp at h
def cfgRnm : Cfg := ⟨tys0, [eRnm]⟩
theorem cfgRnm_ok : TabOk Tryz.prog cfgRnm.tab := (TabOk.cons eRnm_ok TabOk.nil)
theorem operands_eq (op a : Int) (s : List UInt8) :
    (bif (!((op == 5 || op == 6) == decide (strLen s > 0)) || (op == 5 || op == 6) && !nameM s || !(op == 1 || op == 2) && a != 0 || decide (a < 0)) then (-1 : Int)
      else bif (op == 1 && decide (a > 1099511627776) || op == 2 && decide (a > 1048576) || decide (op < 1) || decide (op > 23)) then -1
      else bif decide (op ≤ 6) then 0 else bif decide (op ≤ 10) then 1 else 2) = wantsM op a s := by
  have hs : decide (strLen s > 0) = !(s == []) := by cases s <;> simp [strLen]
  rw [hs]
  have hn : (s == []) = true → nameM s = false := by intro h; have : s = [] := by simpa using h
                                                     subst this; rfl
  unfold wantsM
  generalize hx : (s == []) = x at *
  generalize nameM s = y at *
  by_cases h1 : op = 1
  · subst h1
    cases x <;> simp [cond_eq_ite] <;> (repeat' split) <;> omega
  · by_cases h2 : op = 2
    · subst h2
      cases x <;> simp [cond_eq_ite] <;> (repeat' split) <;> omega
    · by_cases h5 : op = 5
      · subst h5
        cases x <;> cases y <;> simp_all [cond_eq_ite] <;> (repeat' split) <;> omega
      · by_cases h6 : op = 6
        · subst h6
          cases x <;> cases y <;> simp_all [cond_eq_ite] <;> (repeat' split) <;> omega
        · cases x <;> simp_all [cond_eq_ite] <;> (repeat' split) <;> omega
theorem operands_spec (op a : Int) (s : Str) : Does Tryz.prog 187 [.agg [.i op, .i a, .pd (.str s)]] [] (.x (.i (wantsM op a s))) [] := by
  rw [← operands_eq]
  refine Does.go (cfg := cfgRnm) cfgRnm_ok Tryz.func187 (by kernel_rfl) (by kernel_rfl) (t := (.ite (!(op == (5 : Int) || op == (6 : Int)) == decide (strLen s > (0 : Int)) || (op == (5 : Int) || op == (6 : Int)) && !nameM s || !(op == (1 : Int) || op == (2 : Int)) && a != (0 : Int) || decide (a < (0 : Int))) (.ret (.i (-1 : Int)) []) (.ite (op == (1 : Int) && decide (a > (1099511627776 : Int)) || op == (2 : Int) && decide (a > (1048576 : Int)) || decide (op < (1 : Int)) || decide (op > (23 : Int))) (.ret (.i (-1 : Int)) []) (.ite (decide (op ≤ (6 : Int))) (.ret (.i (0 : Int)) []) (.ite (decide (op ≤ (10 : Int))) (.ret (.i (1 : Int)) []) (.ret (.i (2 : Int)) [])))))) (by kernel_rfl) fun Γ => ?_
  refine ⟨fun h => ?_, fun h => ⟨fun h1 => ?_, fun h1 => ⟨fun h2 => ?_, fun h2 => ⟨fun h3 => ?_, fun h3 => ?_⟩⟩⟩⟩
  all_goals
    refine ⟨?_, rfl⟩
    simp only [*, cond_true, cond_false]
def eRop : Nat × (List SX → List Chunk → Option (Option Prop × SV × List Chunk)) := (187, fun
  | [.agg [.pd (.int .i64 op), .pd (.int .i64 a), .pd (.str s)]], [] => some (none, .x (.c (.pd (.int .i64 (wantsM op a s)))), [])
  | _, _ => none)
theorem eRop_ok (vs : List SX) (ck : List Chunk) (p : Option Prop) (ret : SV) (ck' : List Chunk) (h : eRop.2 vs ck = some (p, ret, ck')) (hp : Holds p) : Does Tryz.prog eRop.1 vs ck ret ck' := by
  unfold eRop at h
  simp only at h
  split at h
  · rename_i op a s
    simp only [Option.some.injEq, Prod.mk.injEq] at h
    obtain ⟨rfl, rfl, rfl⟩ := h
    exact operands_spec op a s
  · simp at h
def cfgRop : Cfg := ⟨tys0, [eRop]⟩
theorem cfgRop_ok : TabOk Tryz.prog cfgRop.tab := (TabOk.cons eRop_ok TabOk.nil)

theorem ref_right_loop (l : List Cell) (Γ : Ctx) : ∀ (n k : Nat) (m : Int), 33 - k ≤ n → k ≤ l.length → k ≤ 32 → 0 ≤ m → m ≤ k →
    J Tryz.prog 140 (bodyOf Tryz.f140) Γ (Eq2 (.x (.b (!decide ((l.length : Int) > 32) && rightGo (l.drop k) m))) []) [.code [1, 1, 0, 1, 0, 0], .inLoop [1, 1, 0, 1, 0, 0], .inBlock 0, .code [1, 1, 1]] ({ n := 34, fr := [(0, .p (.lst .cell l)), (2, .p (.bool false)), (3, .i (m)), (4, .i (k))], ck := [], kn := [2] }) := by
  intro n
  induction n with
  | zero => intro k m h1 h2 h3; omega
  | succ n ih => ?_
  intro k m hn hk hk32 hm0 hm
  refine J.go (cfg := cfgRop) cfgRop_ok Tryz.func140 1000 (t := (.ite (decide ((↑k : Int) < (↑(List.length l) : Int))) (.need ((0 : Int) ≤ (↑k : Int) ∧ (↑k : Int) < (↑(List.length l) : Int)) (.ite (decide (wantsM (Cell.op (ETy.get .cell l k)) (Cell.a (ETy.get .cell l k)) (Cell.name (ETy.get .cell l k)) < (0 : Int)) || decide (m < wantsM (Cell.op (ETy.get .cell l k)) (Cell.a (ETy.get .cell l k)) (Cell.name (ETy.get .cell l k))) || decide ((↑k : Int) ≥ (32 : Int))) (.ret (.p (.bool false)) []) (.stop [.code [1, 1, 0, 1, 0, 0], .inLoop [1, 1, 0, 1, 0, 0], .inBlock 0, .code [1, 1, 1]] { n := 34, fr := [(0, .p (.lst .cell l)), (2, .p (.bool false)), (3, .i (IntKind.wrap .i64 (IntKind.wrap .i64 (m - wantsM (Cell.op (ETy.get .cell l k)) (Cell.a (ETy.get .cell l k)) (Cell.name (ETy.get .cell l k))) + (1 : Int)))), (4, .i (IntKind.wrap .i64 ((↑k : Int) + (1 : Int))))], ck := [], kn := [2] }))) (.ret (.p (.bool (m == (1 : Int)))) []))) (by kernel_rfl) ?_
  refine ⟨fun hlt => ?_, fun hge => ⟨?_, rfl⟩⟩
  · have hk' : k < l.length := by have := of_decide_eq_true hlt; omega
    refine ⟨⟨by omega, by omega⟩, ?_⟩
    rw [drop_get (t := .cell) hk']
    generalize ETy.get .cell l k = c
    refine ⟨fun h => ⟨?_, rfl⟩, fun h => ?_⟩
    · have h' : (decide (wantsC c < 0) || decide (m < wantsC c) || decide ((k : Int) ≥ 32)) = true := h
      simp only [Bool.or_eq_true] at h'
      have e : (!decide ((l.length : Int) > 32) && rightGo (c :: l.drop (k + 1)) m) = false := by
        rcases h' with h | h
        · have h' : (decide (wantsC c < 0) || decide (wantsC c > m)) = true := by
            rcases h with h | h
            · rw [h]; rfl
            · have : decide (wantsC c > m) = true := h
              rw [this, Bool.or_true]
          simp only [rightGo, h', cond_true, Bool.and_false]
        · have : decide ((l.length : Int) > 32) = true := decide_eq_true (by have := of_decide_eq_true h; omega)
          rw [this]; rfl
      rw [e]
    · have h' : (decide (wantsC c < 0) || decide (m < wantsC c) || decide ((k : Int) ≥ 32)) = false := h
      simp only [Bool.or_eq_false_iff] at h'
      have h1 := of_decide_eq_false h'.1.1
      have h2 := of_decide_eq_false h'.1.2
      have h3 := of_decide_eq_false h'.2
      show J Tryz.prog 140 (bodyOf Tryz.f140) Γ _ [.code [1, 1, 0, 1, 0, 0], .inLoop [1, 1, 0, 1, 0, 0], .inBlock 0, .code [1, 1, 1]] ({ n := 34, fr := [(0, .p (.lst .cell l)), (2, .p (.bool false)), (3, .i (IntKind.wrap .i64 (IntKind.wrap .i64 (m - wantsC c) + 1))), (4, .i (IntKind.wrap .i64 ((↑k : Int) + (1 : Int))))], ck := [], kn := [2] })
      have e1 : IntKind.wrap IntKind.i64 (IntKind.wrap IntKind.i64 (m - wantsC c) + 1) = m + (1 - wantsC c) := by
        rw [wrapI (n := m - _) (by omega) (by omega), wrapI (by omega) (by omega)]; omega
      have e2 : rightGo (c :: l.drop (k + 1)) m = rightGo (l.drop (k + 1)) (m + (1 - wantsC c)) := by
        have hb' : (decide (wantsC c < 0) || decide (wantsC c > m)) = false := by
          rw [Bool.or_eq_false_iff]; exact ⟨decide_eq_false h1, decide_eq_false (by omega)⟩
        simp only [rightGo, hb', cond_false]
      rw [e1, e2, wrapK (by omega)]
      exact ih (k + 1) (m + (1 - wantsC c)) (by omega) (by omega) (by omega) (by omega) (by omega)
  · have h2 := of_decide_eq_false hge
    rw [drop_end (by omega), rightGo, show decide ((l.length : Int) > 32) = false from decide_eq_false (by omega)]; rfl
theorem ref_right_spec (l : List Cell) : Does Tryz.prog 140 [.l .cell l] [] (.x (.b (rightM l))) [] := by
  refine Does.go (cfg := cfgRop) cfgRop_ok Tryz.func140 (by kernel_rfl) (by kernel_rfl) (t := (.stop [.code [1, 1, 0, 1, 0, 0], .inLoop [1, 1, 0, 1, 0, 0], .inBlock 0, .code [1, 1, 1]] { n := 34, fr := [(0, .p (.lst .cell l)), (2, .p (.bool false)), (3, .i (0 : Int)), (4, .i (0 : Int))], ck := [], kn := [2] })) (by kernel_rfl) fun Γ => ?_
  exact ref_right_loop l Γ 33 0 0 (by omega) (by omega) (by omega) (by omega) (by omega)
def eRright : Nat × (List SX → List Chunk → Option (Option Prop × SV × List Chunk)) := (140, fun
  | [.c (.pd (.lst .cell l))], [] => some (none, .x (.c (.pd (.bool (rightM l)))), [])
  | _, _ => none)
theorem eRright_ok (vs : List SX) (ck : List Chunk) (p : Option Prop) (ret : SV) (ck' : List Chunk) (h : eRright.2 vs ck = some (p, ret, ck')) (hp : Holds p) : Does Tryz.prog eRright.1 vs ck ret ck' := by
  unfold eRright at h
  simp only at h
  split at h
  · rename_i l
    simp only [Option.some.injEq, Prod.mk.injEq] at h
    obtain ⟨rfl, rfl, rfl⟩ := h
    exact ref_right_spec l
  · simp at h
end Go.Proofs.YtcpnicfkpkonkaaGreatDoor

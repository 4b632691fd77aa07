/- Contracts: cells, right lists, by the program and the document; lists of cells as trees. Conditions: none. -/
import Derived.Test.YtjndellhebidoaaGreatDoorNa
namespace Go.Proofs.YtjndellhebidoaaGreatDoor
open Go Go.Ev
set_option maxRecDepth 100000
def cfgName : Cfg := ⟨tys0, [eName]⟩
theorem cfgName_ok : TabOk Tryz.prog cfgName.tab := (TabOk.cons eName_ok TabOk.nil)
theorem wants_spec (op a : Int) (s : Str) : Does Tryz.prog 63 [.agg [.i op, .i a, .pd (.str s)]] [] (.x (.i (wantsM op a s))) [] := by
  refine Does.go (cfg := cfgName) cfgName_ok Tryz.func63 (by kernel_rfl) (by kernel_rfl) (t := (.ite (op == (1 : Int)) (.ite (decide (a < (0 : Int)) || decide (a > (1099511627776 : Int)) || !s == []) (.ret (.i (-1 : Int)) []) (.ret (.i (0 : Int)) [])) (.ite (op == (2 : Int)) (.ite (decide (a < (0 : Int)) || decide (a > (1048576 : Int)) || !s == []) (.ret (.i (-1 : Int)) []) (.ret (.i (0 : Int)) [])) (.ite (op == (5 : Int)) (.ite (a != (0 : Int) || !nameM s) (.ret (.i (-1 : Int)) []) (.ret (.i (0 : Int)) [])) (.ite (op == (6 : Int)) (.ite (a != (0 : Int) || !nameM s) (.ret (.i (-1 : Int)) []) (.ret (.i (0 : Int)) [])) (.ite (decide (op < (3 : Int)) || decide (op > (23 : Int)) || a != (0 : Int) || !s == []) (.ret (.i (-1 : Int)) []) (.ite (decide (op ≤ (4 : Int))) (.ret (.i (0 : Int)) []) (.ite (decide (op ≤ (10 : Int))) (.ret (.i (1 : Int)) []) (.ret (.i (2 : Int)) []))))))))) (by kernel_rfl) fun Γ => ?_
  (repeat' (first | intro h | constructor)) <;> simp only [wantsM, *, cond_true, cond_false]
def eWants : Nat × (List SX → List Chunk → Option (Option Prop × SV × List Chunk)) := (63, fun
  | [.agg [.pd (.int .i64 op), .pd (.int .i64 a), .pd (.str s)]], [] => some (none, .x (.c (.pd (.int .i64 (wantsM op a s)))), [])
  | _, _ => none)
theorem eWants_ok (vs : List SX) (ck : List Chunk) (p : Option Prop) (ret : SV) (ck' : List Chunk) (h : eWants.2 vs ck = some (p, ret, ck')) (hp : Holds p) : Does Tryz.prog eWants.1 vs ck ret ck' := by
  unfold eWants at h
  simp only at h
  split at h
  · rename_i op a s
    simp only [Option.some.injEq, Prod.mk.injEq] at h
    obtain ⟨rfl, rfl, rfl⟩ := h
    exact wants_spec op a s
  · simp at h
def cfgWants : Cfg := ⟨tys0, [eWants]⟩
theorem cfgWants_ok : TabOk Tryz.prog cfgWants.tab := (TabOk.cons eWants_ok TabOk.nil)

theorem right_loop (l : List Cell) (Γ : Ctx) (hl : l.length ≤ 32) : ∀ (n k : Nat) (m : Int), l.length - k ≤ n → k ≤ l.length → 0 ≤ m → m ≤ k →
    J Tryz.prog 49 (bodyOf Tryz.f49) Γ (Eq2 (.x (.b (rightGo (l.drop k) m))) []) [.code [1, 1, 1, 0, 1, 0, 0], .inLoop [1, 1, 1, 0, 1, 0, 0], .inBlock 0, .code [1, 1, 1, 1]] ({ n := 32, fr := [(2, .p (.bool false)), (3, .i (m)), (10, .p (.lst .cell l)), (11, .i (↑(List.length l) : Int)), (12, .i (k))], ck := [], kn := [2] }) := by
  intro n
  induction n with
  | zero => ?_
  | succ n ih => ?_
  all_goals
    intro k m hn hk h0 hm
    refine J.go (cfg := cfgWants) cfgWants_ok Tryz.func49 1000 (t := (.ite (decide ((↑k : Int) < (↑(List.length l) : Int))) (.need ((0 : Int) ≤ (↑k : Int) ∧ (↑k : Int) < (↑(List.length l) : Int)) (.ite (decide (wantsM (Cell.op (ETy.get .cell l k)) (Cell.a (ETy.get .cell l k)) (Cell.name (ETy.get .cell l k)) < (0 : Int)) || decide (wantsM (Cell.op (ETy.get .cell l k)) (Cell.a (ETy.get .cell l k)) (Cell.name (ETy.get .cell l k)) > m)) (.ret (.p (.bool false)) []) (.stop [.code [1, 1, 1, 0, 1, 0, 0], .inLoop [1, 1, 1, 0, 1, 0, 0], .inBlock 0, .code [1, 1, 1, 1]] { n := 32, fr := [(2, .p (.bool false)), (3, .i (IntKind.wrap .i64 (m + IntKind.wrap .i64 ((1 : Int) - wantsM (Cell.op (ETy.get .cell l k)) (Cell.a (ETy.get .cell l k)) (Cell.name (ETy.get .cell l k)))))), (10, .p (.lst .cell l)), (11, .i (↑(List.length l) : Int)), (12, .i (IntKind.wrap .i64 ((↑k : Int) + (1 : Int))))], ck := [], kn := [2] }))) (.ret (.p (.bool (m == (1 : Int)))) []))) (by kernel_rfl) ?_
    refine ⟨fun hlt => ⟨?_, ?_⟩, fun hge => ⟨?_, rfl⟩⟩
    · have := of_decide_eq_true hlt; omega
    · have hk' : k < l.length := by have := of_decide_eq_true hlt; omega
      rw [drop_get (t := .cell) hk']
      generalize ETy.get .cell l k = c
      refine ⟨fun hb => ⟨?_, rfl⟩, fun hb => ?_⟩
      · have hb' : (decide (wantsC c < 0) || decide (wantsC c > m)) = true := hb
        simp only [rightGo, hb', cond_true]
      · have hb' : (decide (wantsC c < 0) || decide (wantsC c > m)) = false := hb
        have hw : 0 ≤ wantsC c ∧ wantsC c ≤ m := by
          simp only [Bool.or_eq_false_iff, decide_eq_false_iff_not] at hb'
          omega
        simp only [rightGo, hb', cond_false]
        show J Tryz.prog 49 (bodyOf Tryz.f49) Γ _ [.code [1, 1, 1, 0, 1, 0, 0], .inLoop [1, 1, 1, 0, 1, 0, 0], .inBlock 0, .code [1, 1, 1, 1]] ({ n := 32, fr := [(2, .p (.bool false)), (3, .i (IntKind.wrap .i64 (m + IntKind.wrap .i64 (1 - wantsC c)))), (10, .p (.lst .cell l)), (11, .i (↑(List.length l) : Int)), (12, .i (IntKind.wrap .i64 ((↑k : Int) + (1 : Int))))], ck := [], kn := [2] })
        rw [wrapI (n := 1 - wantsC c) (by omega) (by omega), wrapI (by omega) (by omega), wrapK (by omega)]
        first
        | (exfalso; omega)
        | exact ih (k + 1) (m + (1 - wantsC c)) (by omega) (by omega) (by omega) (by omega)
    · rw [drop_end (by have := of_decide_eq_false hge; omega)]; rfl
theorem right_spec (l : List Cell) : Does Tryz.prog 49 [.l .cell l] [] (.x (.b (rightM l))) [] := by
  refine Does.go (cfg := cfgWants) cfgWants_ok Tryz.func49 (by kernel_rfl) (by kernel_rfl) (t := (.ite (decide ((↑(List.length l) : Int) > (32 : Int))) (.ret (.p (.bool false)) []) (.stop [.code [1, 1, 1, 0, 1, 0, 0], .inLoop [1, 1, 1, 0, 1, 0, 0], .inBlock 0, .code [1, 1, 1, 1]] { n := 32, fr := [(2, .p (.bool false)), (3, .i (0 : Int)), (10, .p (.lst .cell l)), (11, .i (↑(List.length l) : Int)), (12, .i (0 : Int))], ck := [], kn := [2] }))) (by kernel_rfl) fun Γ => ?_
  refine ⟨fun h => ⟨by simp only [rightM, h]; rfl, rfl⟩, fun h => ?_⟩
  have hl : l.length ≤ 32 := by have := of_decide_eq_false h; omega
  simp only [rightM, h]
  exact right_loop l Γ hl l.length 0 0 (by omega) (by omega) (by omega) (by omega)
def eRight : Nat × (List SX → List Chunk → Option (Option Prop × SV × List Chunk)) := (49, fun
  | [.c (.pd (.lst .cell l))], [] => some (none, .x (.c (.pd (.bool (rightM l)))), [])
  | _, _ => none)
theorem eRight_ok (vs : List SX) (ck : List Chunk) (p : Option Prop) (ret : SV) (ck' : List Chunk) (h : eRight.2 vs ck = some (p, ret, ck')) (hp : Holds p) : Does Tryz.prog eRight.1 vs ck ret ck' := by
  unfold eRight at h
  simp only at h
  split at h
  · rename_i l
    simp only [Option.some.injEq, Prod.mk.injEq] at h
    obtain ⟨rfl, rfl, rfl⟩ := h
    exact right_spec l
  · simp at h
theorem wants_op (c : Cell) (h : wantsC c ≥ 0) : (wantsC c = 0 ∧ c.op < 7) ∨ (wantsC c = 1 ∧ 7 ≤ c.op ∧ c.op < 11) ∨ (wantsC c = 2 ∧ 11 ≤ c.op) := by
  revert h
  unfold wantsC wantsM
  simp only [cond_eq_ite, beq_iff_eq, Bool.or_eq_true, decide_eq_true_eq, bne_iff_ne]
  intro h
  (repeat' split at h) <;> (repeat' split) <;> omega
theorem wants_cases (c : Cell) (h : wantsC c ≥ 0) : (c.op < 7 ∧ wantsC c = 0) ∨ (7 ≤ c.op ∧ c.op < 11 ∧ wantsC c = 1) ∨ (11 ≤ c.op ∧ wantsC c = 2) := by
  rcases wants_op c h with ⟨h1, h2⟩ | ⟨h1, h2, h3⟩ | ⟨h1, h2⟩
  · exact .inl ⟨h2, h1⟩
  · exact .inr (.inl ⟨h2, h3, h1⟩)
  · exact .inr (.inr ⟨h2, h1⟩)
inductive Tm where
  | leaf (c : Cell)
  | un (c : Cell) (t : Tm)
  | bin (c : Cell) (t u : Tm)
def Tm.flat : Tm → List Cell
  | .leaf c => [c]
  | .un c t => t.flat ++ [c]
  | .bin c t u => t.flat ++ u.flat ++ [c]
def Tm.ok : Tm → Prop
  | .leaf c => wantsC c = 0
  | .un c t => wantsC c = 1 ∧ t.ok
  | .bin c t u => wantsC c = 2 ∧ t.ok ∧ u.ok
theorem Tm.flat_pos (t : Tm) : 1 ≤ t.flat.length := by cases t <;> simp only [Tm.flat, List.length_append, List.length_cons, List.length_nil] <;> omega
def flats : List Tm → List Cell
  | [] => []
  | t :: r => flats r ++ t.flat
theorem right_parse : ∀ (rest : List Cell) (ts : List Tm), (∀ t ∈ ts, t.ok) → rightGo rest ts.length = true → ∃ t : Tm, t.ok ∧ t.flat = flats ts ++ rest
  | [], ts, hok, h => by
    simp only [rightGo] at h
    have h1 : ts.length = 1 := by have h2 : (ts.length : Int) = 1 := (by simpa using h); omega
    obtain ⟨t, rfl⟩ := List.length_eq_one_iff.1 h1
    exact ⟨t, hok t (by simp), by simp [flats]⟩
  | c :: rest, ts, hok, h => by
    simp only [rightGo] at h
    cases hb : (decide (wantsC c < 0) || decide (wantsC c > (ts.length : Int)))
    · rw [hb, cond_false] at h
      simp only [Bool.or_eq_false_iff] at hb
      have h1 := of_decide_eq_false hb.1
      have h2 := of_decide_eq_false hb.2
      rcases wants_cases c (by omega) with ⟨_, hw⟩ | ⟨_, _, hw⟩ | ⟨_, hw⟩
      · obtain ⟨t, q1, q2⟩ := right_parse rest (.leaf c :: ts) (by intro t ht; rcases List.mem_cons.1 ht with rfl | ht; exact hw; exact hok t ht) (by rw [← h]; congr 1; simp only [List.length_cons]; omega)
        exact ⟨t, q1, by rw [q2]; simp [flats, Tm.flat]⟩
      · cases ts with
        | nil => simp at h2; omega
        | cons a ts =>
          obtain ⟨t, q1, q2⟩ := right_parse rest (.un c a :: ts) (by intro t ht; rcases List.mem_cons.1 ht with rfl | ht; exact ⟨hw, hok a (by simp)⟩; exact hok t (by simp [ht])) (by rw [← h]; congr 1; simp only [List.length_cons]; omega)
          exact ⟨t, q1, by rw [q2]; simp [flats, Tm.flat]⟩
      · cases ts with
        | nil => simp at h2; omega
        | cons a ts => cases ts with
          | nil => simp at h2; omega
          | cons b ts =>
            obtain ⟨t, q1, q2⟩ := right_parse rest (.bin c b a :: ts) (by intro t ht; rcases List.mem_cons.1 ht with rfl | ht; exact ⟨hw, hok b (by simp), hok a (by simp)⟩; exact hok t (by simp [ht])) (by rw [← h]; congr 1; simp only [List.length_cons]; omega)
            exact ⟨t, q1, by rw [q2]; simp [flats, Tm.flat]⟩
    · rw [hb] at h; simp at h
theorem right_tm {l : List Cell} (h : rightM l = true) : l.length ≤ 32 ∧ ∃ t : Tm, t.ok ∧ t.flat = l := by
  simp only [rightM, Bool.and_eq_true, Bool.not_eq_true', decide_eq_false_iff_not] at h
  obtain ⟨t, h1, h2⟩ := right_parse l [] (by simp) (by simpa using h.2)
  exact ⟨by omega, t, h1, by simpa [flats] using h2⟩
theorem rightGo_flat (rest : List Cell) : ∀ (t : Tm), t.ok → ∀ n : Int, 0 ≤ n → rightGo (t.flat ++ rest) n = rightGo rest (n + 1)
  | .leaf c, h, n, hn => by
    simp only [Tm.ok] at h
    simp [Tm.flat, rightGo, h, show ¬ (n < 0) from by omega]
  | .un c t, h, n, hn => by
    obtain ⟨hw, ht⟩ := h
    rw [Tm.flat, List.append_assoc, rightGo_flat _ t ht n hn]
    simp [rightGo, hw, show ¬ (n + 1 < 1) from by omega]
  | .bin c t u, h, n, hn => by
    obtain ⟨hw, ht, hu⟩ := h
    rw [Tm.flat, List.append_assoc, List.append_assoc, rightGo_flat _ t ht n hn, rightGo_flat _ u hu _ (by omega)]
    have : ¬ (n + 1 + 1 < 2) := by omega
    simp only [List.cons_append, List.nil_append, rightGo, hw, show decide ((2 : Int) < 0) = false from rfl, Bool.false_or, show decide ((2 : Int) > n + 1 + 1) = false from by simpa using this, cond_false]
    congr 1; omega
theorem tm_right {t : Tm} (h : t.ok) (hl : t.flat.length ≤ 32) : rightM t.flat = true := by
  have := rightGo_flat [] t h 0 (by omega)
  rw [List.append_nil] at this
  simp only [rightM, this, rightGo, Bool.and_eq_true, Bool.not_eq_true', decide_eq_false_iff_not]
  exact ⟨by omega, rfl⟩
def cfgRnm : Cfg := ⟨tys0, [eRnm]⟩
theorem cfgRnm_ok : TabOk Tryz.prog cfgRnm.tab := (TabOk.cons eRnm_ok TabOk.nil)
theorem operands_eq (op a : Int) (s : List UInt8) :
    (bif (!((op == 5 || op == 6) == decide (strLen s > 0)) || (op == 5 || op == 6) && !nameM s || !(op == 1 || op == 2) && a != 0 || decide (a < 0)) then (-1 : Int)
      else bif (op == 1 && decide (a > 1099511627776) || op == 2 && decide (a > 1048576) || decide (op < 1) || decide (op > 23)) then -1
      else bif decide (op ≤ 6) then 0 else bif decide (op ≤ 10) then 1 else 2) = wantsM op a s := by
  have hs : decide (strLen s > 0) = !(s == []) := by cases s <;> simp [strLen]
  rw [hs]
  have hn : (s == []) = true → nameM s = false := by intro h; have : s = [] := by simpa using h
                                                     subst this; rfl
  unfold wantsM
  generalize hx : (s == []) = x at *
  generalize nameM s = y at *
  by_cases h1 : op = 1
  · subst h1
    cases x <;> simp [cond_eq_ite] <;> (repeat' split) <;> omega
  · by_cases h2 : op = 2
    · subst h2
      cases x <;> simp [cond_eq_ite] <;> (repeat' split) <;> omega
    · by_cases h5 : op = 5
      · subst h5
        cases x <;> cases y <;> simp_all [cond_eq_ite] <;> (repeat' split) <;> omega
      · by_cases h6 : op = 6
        · subst h6
          cases x <;> cases y <;> simp_all [cond_eq_ite] <;> (repeat' split) <;> omega
        · cases x <;> simp_all [cond_eq_ite] <;> (repeat' split) <;> omega
theorem operands_spec (op a : Int) (s : Str) : Does Tryz.prog 94 [.agg [.i op, .i a, .pd (.str s)]] [] (.x (.i (wantsM op a s))) [] := by
  rw [← operands_eq]
  refine Does.go (cfg := cfgRnm) cfgRnm_ok Tryz.func94 (by kernel_rfl) (by kernel_rfl) (t := (.ite (!(op == (5 : Int) || op == (6 : Int)) == decide (strLen s > (0 : Int)) || (op == (5 : Int) || op == (6 : Int)) && !nameM s || !(op == (1 : Int) || op == (2 : Int)) && a != (0 : Int) || decide (a < (0 : Int))) (.ret (.i (-1 : Int)) []) (.ite (op == (1 : Int) && decide (a > (1099511627776 : Int)) || op == (2 : Int) && decide (a > (1048576 : Int)) || decide (op < (1 : Int)) || decide (op > (23 : Int))) (.ret (.i (-1 : Int)) []) (.ite (decide (op ≤ (6 : Int))) (.ret (.i (0 : Int)) []) (.ite (decide (op ≤ (10 : Int))) (.ret (.i (1 : Int)) []) (.ret (.i (2 : Int)) [])))))) (by kernel_rfl) fun Γ => ?_
  refine ⟨fun h => ?_, fun h => ⟨fun h1 => ?_, fun h1 => ⟨fun h2 => ?_, fun h2 => ⟨fun h3 => ?_, fun h3 => ?_⟩⟩⟩⟩
  all_goals
    refine ⟨?_, rfl⟩
    simp only [*, cond_true, cond_false]
def eRop : Nat × (List SX → List Chunk → Option (Option Prop × SV × List Chunk)) := (94, fun
  | [.agg [.pd (.int .i64 op), .pd (.int .i64 a), .pd (.str s)]], [] => some (none, .x (.c (.pd (.int .i64 (wantsM op a s)))), [])
  | _, _ => none)
theorem eRop_ok (vs : List SX) (ck : List Chunk) (p : Option Prop) (ret : SV) (ck' : List Chunk) (h : eRop.2 vs ck = some (p, ret, ck')) (hp : Holds p) : Does Tryz.prog eRop.1 vs ck ret ck' := by
  unfold eRop at h
  simp only at h
  split at h
  · rename_i op a s
    simp only [Option.some.injEq, Prod.mk.injEq] at h
    obtain ⟨rfl, rfl, rfl⟩ := h
    exact operands_spec op a s
  · simp at h
def cfgRop : Cfg := ⟨tys0, [eRop]⟩
theorem cfgRop_ok : TabOk Tryz.prog cfgRop.tab := (TabOk.cons eRop_ok TabOk.nil)

theorem ref_right_loop (l : List Cell) (Γ : Ctx) : ∀ (n k : Nat) (m : Int), 33 - k ≤ n → k ≤ l.length → k ≤ 32 → 0 ≤ m → m ≤ k →
    J Tryz.prog 59 (bodyOf Tryz.f59) Γ (Eq2 (.x (.b (!decide ((l.length : Int) > 32) && rightGo (l.drop k) m))) []) [.code [1, 1, 0, 1, 0, 0], .inLoop [1, 1, 0, 1, 0, 0], .inBlock 0, .code [1, 1, 1]] ({ n := 34, fr := [(0, .p (.lst .cell l)), (2, .p (.bool false)), (3, .i (m)), (4, .i (k))], ck := [], kn := [2] }) := by
  intro n
  induction n with
  | zero => intro k m h1 h2 h3; omega
  | succ n ih => ?_
  intro k m hn hk hk32 hm0 hm
  refine J.go (cfg := cfgRop) cfgRop_ok Tryz.func59 1000 (t := (.ite (decide ((↑k : Int) < (↑(List.length l) : Int))) (.need ((0 : Int) ≤ (↑k : Int) ∧ (↑k : Int) < (↑(List.length l) : Int)) (.ite (decide (wantsM (Cell.op (ETy.get .cell l k)) (Cell.a (ETy.get .cell l k)) (Cell.name (ETy.get .cell l k)) < (0 : Int)) || decide (m < wantsM (Cell.op (ETy.get .cell l k)) (Cell.a (ETy.get .cell l k)) (Cell.name (ETy.get .cell l k))) || decide ((↑k : Int) ≥ (32 : Int))) (.ret (.p (.bool false)) []) (.stop [.code [1, 1, 0, 1, 0, 0], .inLoop [1, 1, 0, 1, 0, 0], .inBlock 0, .code [1, 1, 1]] { n := 34, fr := [(0, .p (.lst .cell l)), (2, .p (.bool false)), (3, .i (IntKind.wrap .i64 (IntKind.wrap .i64 (m - wantsM (Cell.op (ETy.get .cell l k)) (Cell.a (ETy.get .cell l k)) (Cell.name (ETy.get .cell l k))) + (1 : Int)))), (4, .i (IntKind.wrap .i64 ((↑k : Int) + (1 : Int))))], ck := [], kn := [2] }))) (.ret (.p (.bool (m == (1 : Int)))) []))) (by kernel_rfl) ?_
  refine ⟨fun hlt => ?_, fun hge => ⟨?_, rfl⟩⟩
  · have hk' : k < l.length := by have := of_decide_eq_true hlt; omega
    refine ⟨⟨by omega, by omega⟩, ?_⟩
    rw [drop_get (t := .cell) hk']
    generalize ETy.get .cell l k = c
    refine ⟨fun h => ⟨?_, rfl⟩, fun h => ?_⟩
    · have h' : (decide (wantsC c < 0) || decide (m < wantsC c) || decide ((k : Int) ≥ 32)) = true := h
      simp only [Bool.or_eq_true] at h'
      have e : (!decide ((l.length : Int) > 32) && rightGo (c :: l.drop (k + 1)) m) = false := by
        rcases h' with h | h
        · have h' : (decide (wantsC c < 0) || decide (wantsC c > m)) = true := by
            rcases h with h | h
            · rw [h]; rfl
            · have : decide (wantsC c > m) = true := h
              rw [this, Bool.or_true]
          simp only [rightGo, h', cond_true, Bool.and_false]
        · have : decide ((l.length : Int) > 32) = true := decide_eq_true (by have := of_decide_eq_true h; omega)
          rw [this]; rfl
      rw [e]
    · have h' : (decide (wantsC c < 0) || decide (m < wantsC c) || decide ((k : Int) ≥ 32)) = false := h
      simp only [Bool.or_eq_false_iff] at h'
      have h1 := of_decide_eq_false h'.1.1
      have h2 := of_decide_eq_false h'.1.2
      have h3 := of_decide_eq_false h'.2
      show J Tryz.prog 59 (bodyOf Tryz.f59) Γ _ [.code [1, 1, 0, 1, 0, 0], .inLoop [1, 1, 0, 1, 0, 0], .inBlock 0, .code [1, 1, 1]] ({ n := 34, fr := [(0, .p (.lst .cell l)), (2, .p (.bool false)), (3, .i (IntKind.wrap .i64 (IntKind.wrap .i64 (m - wantsC c) + 1))), (4, .i (IntKind.wrap .i64 ((↑k : Int) + (1 : Int))))], ck := [], kn := [2] })
      have e1 : IntKind.wrap IntKind.i64 (IntKind.wrap IntKind.i64 (m - wantsC c) + 1) = m + (1 - wantsC c) := by
        rw [wrapI (n := m - _) (by omega) (by omega), wrapI (by omega) (by omega)]; omega
      have e2 : rightGo (c :: l.drop (k + 1)) m = rightGo (l.drop (k + 1)) (m + (1 - wantsC c)) := by
        have hb' : (decide (wantsC c < 0) || decide (wantsC c > m)) = false := by
          rw [Bool.or_eq_false_iff]; exact ⟨decide_eq_false h1, decide_eq_false (by omega)⟩
        simp only [rightGo, hb', cond_false]
      rw [e1, e2, wrapK (by omega)]
      exact ih (k + 1) (m + (1 - wantsC c)) (by omega) (by omega) (by omega) (by omega) (by omega)
  · have h2 := of_decide_eq_false hge
    rw [drop_end (by omega), rightGo, show decide ((l.length : Int) > 32) = false from decide_eq_false (by omega)]; rfl
theorem ref_right_spec (l : List Cell) : Does Tryz.prog 59 [.l .cell l] [] (.x (.b (rightM l))) [] := by
  refine Does.go (cfg := cfgRop) cfgRop_ok Tryz.func59 (by kernel_rfl) (by kernel_rfl) (t := (.stop [.code [1, 1, 0, 1, 0, 0], .inLoop [1, 1, 0, 1, 0, 0], .inBlock 0, .code [1, 1, 1]] { n := 34, fr := [(0, .p (.lst .cell l)), (2, .p (.bool false)), (3, .i (0 : Int)), (4, .i (0 : Int))], ck := [], kn := [2] })) (by kernel_rfl) fun Γ => ?_
  exact ref_right_loop l Γ 33 0 0 (by omega) (by omega) (by omega) (by omega) (by omega)
def eRright : Nat × (List SX → List Chunk → Option (Option Prop × SV × List Chunk)) := (59, fun
  | [.c (.pd (.lst .cell l))], [] => some (none, .x (.c (.pd (.bool (rightM l)))), [])
  | _, _ => none)
theorem eRright_ok (vs : List SX) (ck : List Chunk) (p : Option Prop) (ret : SV) (ck' : List Chunk) (h : eRright.2 vs ck = some (p, ret, ck')) (hp : Holds p) : Does Tryz.prog eRright.1 vs ck ret ck' := by
  unfold eRright at h
  simp only at h
  split at h
  · rename_i l
    simp only [Option.some.injEq, Prod.mk.injEq] at h
    obtain ⟨rfl, rfl, rfl⟩ := h
    exact ref_right_spec l
  · simp at h
theorem wants_le (c : Cell) : wantsC c ≤ 2 := by
  unfold wantsC wantsM
  simp only [cond_eq_ite]
  repeat' split
  all_goals omega

theorem begin_step (l : List Cell) (Γ : Ctx) (hl : l.length ≤ 32) {e : Nat} (he : e < l.length) (m : Int) (h1 : 1 ≤ m) (h2 : m ≤ 100) {Q : Out}
    (hw : 0 ≤ wantsC l[e]) (hend : m - 1 + wantsC l[e] = 0 → Q (.x (.i (e : Int))) [])
    (hgo : m - 1 + wantsC l[e] ≠ 0 → J Tryz.prog 99 (bodyOf Tryz.f99) Γ Q [.code [1, 1, 1, 0, 0], .inLoop [1, 1, 1, 0, 0], .inBlock 0] ({ n := 21, fr := [(0, .p (.lst .cell l)), (4, .i (0 : Int)), (5, .i (m - 1 + wantsC l[e])), (6, .i ((e : Int) - 1))], ck := [] })) :
    J Tryz.prog 99 (bodyOf Tryz.f99) Γ Q [.code [1, 1, 1, 0, 0], .inLoop [1, 1, 1, 0, 0], .inBlock 0] ({ n := 21, fr := [(0, .p (.lst .cell l)), (4, .i (0 : Int)), (5, .i (m)), (6, .i ((e : Int)))], ck := [] }) := by
  have hle := wants_le l[e]
  have hg : ETy.get .cell l e = l[e] := ETy.get_eq (t := .cell) (List.getElem?_eq_getElem he)
  refine J.go (cfg := cfgRop) cfgRop_ok Tryz.func99 1000 (t := (.need ((0 : Int) ≤ (↑e : Int) ∧ (↑e : Int) < (↑(List.length l) : Int)) (.ite (IntKind.wrap .i64 (IntKind.wrap .i64 (m - (1 : Int)) + wantsM (Cell.op (ETy.get .cell l e)) (Cell.a (ETy.get .cell l e)) (Cell.name (ETy.get .cell l e))) == (0 : Int)) (.ret (.i (↑e : Int)) []) (.stop [.code [1, 1, 1, 0, 0], .inLoop [1, 1, 1, 0, 0], .inBlock 0] { n := 21, fr := [(0, .p (.lst .cell l)), (4, .i (0 : Int)), (5, .i (IntKind.wrap .i64 (IntKind.wrap .i64 (m - (1 : Int)) + wantsM (Cell.op (ETy.get .cell l e)) (Cell.a (ETy.get .cell l e)) (Cell.name (ETy.get .cell l e))))), (6, .i (IntKind.wrap .i64 ((↑e : Int) - (1 : Int))))], ck := [] })))) (by kernel_rfl) ?_
  rw [hg]
  generalize l[e] = c at *
  refine ⟨⟨by omega, by omega⟩, ?_⟩
  have e1 : IntKind.wrap IntKind.i64 (IntKind.wrap IntKind.i64 (m - 1) + wantsC c) = m - 1 + wantsC c := by
    rw [wrapI (n := m - 1) (by omega) (by omega), wrapI (by omega) (by omega)]
  have e2 : IntKind.wrap IntKind.i64 ((e : Int) - 1) = (e : Int) - 1 := wrapI (by omega) (by omega)
  refine ⟨fun h => ?_, fun h => ?_⟩
  · have h' : (IntKind.wrap IntKind.i64 (IntKind.wrap IntKind.i64 (m - 1) + wantsC c) == 0) = true := h
    rw [e1] at h'
    exact hend (by simpa using h')
  · have h' : (IntKind.wrap IntKind.i64 (IntKind.wrap IntKind.i64 (m - 1) + wantsC c) == 0) = false := h
    rw [e1] at h'
    show J Tryz.prog 99 (bodyOf Tryz.f99) Γ Q [.code [1, 1, 1, 0, 0], .inLoop [1, 1, 1, 0, 0], .inBlock 0] ({ n := 21, fr := [(0, .p (.lst .cell l)), (4, .i (0 : Int)), (5, .i (IntKind.wrap .i64 (IntKind.wrap .i64 (m - 1) + wantsC c))), (6, .i (IntKind.wrap .i64 ((↑e : Int) - (1 : Int))))], ck := [] })
    rw [e1, e2]
    exact hgo (by simpa using h')
theorem begin_tm (l : List Cell) (Γ : Ctx) (hl : l.length ≤ 32) {Q : Out} :
    ∀ (t : Tm), t.ok → ∀ (pre post : List Cell) (m : Int), l = pre ++ t.flat ++ post → 1 ≤ m → m + (t.flat.length : Int) ≤ 100 → (m = 1 → Q (.x (.i (pre.length : Int))) []) →
      (m ≠ 1 → J Tryz.prog 99 (bodyOf Tryz.f99) Γ Q [.code [1, 1, 1, 0, 0], .inLoop [1, 1, 1, 0, 0], .inBlock 0] ({ n := 21, fr := [(0, .p (.lst .cell l)), (4, .i (0 : Int)), (5, .i (m - 1)), (6, .i ((pre.length : Int) - 1))], ck := [] })) →
      J Tryz.prog 99 (bodyOf Tryz.f99) Γ Q [.code [1, 1, 1, 0, 0], .inLoop [1, 1, 1, 0, 0], .inBlock 0] ({ n := 21, fr := [(0, .p (.lst .cell l)), (4, .i (0 : Int)), (5, .i (m)), (6, .i (((pre.length : Int) + t.flat.length - 1)))], ck := [] })
  | .leaf c, h, pre, post, m, hq, h1, h2, hend, hgo => by
    have he : pre.length < l.length := by rw [hq]; simp [Tm.flat]
    have hc : l[pre.length] = c := by
      have : l[pre.length]? = some c := by rw [hq]; simp [Tm.flat]
      rw [List.getElem?_eq_getElem he] at this; simpa using this
    have hw : wantsC c = 0 := h
    have e1 : (pre.length : Int) + ((Tm.leaf c).flat.length : Int) - 1 = (pre.length : Int) := by simp [Tm.flat]
    rw [e1]
    refine begin_step l Γ hl he m h1 (by omega) (by rw [hc, hw]; exact Int.le_refl _) (fun h0 => hend (by rw [hc, hw] at h0; omega)) (fun h0 => ?_)
    rw [hc, hw] at h0 ⊢
    have e2 : m - 1 + 0 = m - 1 := by omega
    rw [e2]
    exact hgo (by omega)
  | .un c t, ⟨hw, ht⟩, pre, post, m, hq, h1, h2, hend, hgo => by
    simp only [Tm.flat, List.length_append, List.length_cons, List.length_nil] at h2 ⊢
    have hq2 : l = pre ++ t.flat ++ ([c] ++ post) := by rw [hq]; simp [Tm.flat]
    have he : pre.length + t.flat.length < l.length := by rw [hq2]; simp
    have hc : l[pre.length + t.flat.length] = c := by
      have : l[pre.length + t.flat.length]? = some c := by rw [hq2, List.getElem?_append_right (by simp)]; simp
      rw [List.getElem?_eq_getElem he] at this; simpa using this
    have e1 : (pre.length : Int) + ((t.flat.length + (0 + 1) : Nat) : Int) - 1 = ((pre.length + t.flat.length : Nat) : Int) := by omega
    rw [e1]
    have htp := t.flat_pos
    refine begin_step l Γ hl he m h1 (by omega) (by rw [hc, hw]; decide) (fun h0 => absurd h0 (by rw [hc, hw]; omega)) (fun _ => ?_)
    rw [hc, hw]
    have e2 : m - 1 + 1 = m := by omega
    have e3 : ((pre.length + t.flat.length : Nat) : Int) - 1 = (pre.length : Int) + t.flat.length - 1 := by omega
    rw [e2, e3]
    exact begin_tm l Γ hl t ht pre ([c] ++ post) m hq2 h1 (by omega) hend hgo
  | .bin c t u, ⟨hw, ht, hu⟩, pre, post, m, hq, h1, h2, hend, hgo => by
    simp only [Tm.flat, List.length_append, List.length_cons, List.length_nil] at h2 ⊢
    have hq1 : l = pre ++ t.flat ++ (u.flat ++ [c] ++ post) := by rw [hq]; simp [Tm.flat]
    have hq2 : l = (pre ++ t.flat) ++ u.flat ++ ([c] ++ post) := by rw [hq]; simp [Tm.flat]
    have he : pre.length + t.flat.length + u.flat.length < l.length := by rw [hq2]; simp; omega
    have hc : l[pre.length + t.flat.length + u.flat.length] = c := by
      have hx : pre.length + t.flat.length + u.flat.length = (pre ++ t.flat ++ u.flat).length := by simp [Nat.add_assoc]
      have : l[pre.length + t.flat.length + u.flat.length]? = some c := by rw [hx, hq2, List.getElem?_append_right (Nat.le_refl _), Nat.sub_self]; rfl
      rw [List.getElem?_eq_getElem he] at this; simpa using this
    have e1 : (pre.length : Int) + ((t.flat.length + u.flat.length + (0 + 1) : Nat) : Int) - 1 = ((pre.length + t.flat.length + u.flat.length : Nat) : Int) := by omega
    rw [e1]
    have htp := t.flat_pos
    have hup := u.flat_pos
    refine begin_step l Γ hl he m h1 (by omega) (by rw [hc, hw]; decide) (fun h0 => absurd h0 (by rw [hc, hw]; omega)) (fun _ => ?_)
    rw [hc, hw]
    have e2 : m - 1 + 2 = m + 1 := by omega
    have e3 : ((pre.length + t.flat.length + u.flat.length : Nat) : Int) - 1 = ((pre ++ t.flat).length : Int) + u.flat.length - 1 := by simp only [List.length_append]; omega
    rw [e2, e3]
    refine begin_tm l Γ hl u hu (pre ++ t.flat) ([c] ++ post) (m + 1) hq2 (by omega) (by omega) (fun h0 => absurd h0 (by omega)) (fun _ => ?_)
    have e4 : m + 1 - 1 = m := by omega
    have e5 : (((pre ++ t.flat).length : Nat) : Int) - 1 = (pre.length : Int) + t.flat.length - 1 := by simp
    rw [e4, e5]
    exact begin_tm l Γ hl t ht pre (u.flat ++ [c] ++ post) m hq1 h1 (by omega) hend hgo
theorem begin_spec (l : List Cell) (t : Tm) (ht : t.ok) (pre post : List Cell) (hq : l = pre ++ t.flat ++ post) (hl : l.length ≤ 32) :
    Does Tryz.prog 99 [.l .cell l, .i ((pre.length : Int) + t.flat.length - 1)] [] (.x (.i (pre.length : Int))) [] := by
  generalize he : (pre.length : Int) + t.flat.length - 1 = e
  refine Does.go (cfg := cfg0) cfg0_ok Tryz.func99 (by kernel_rfl) (by kernel_rfl) (t := (.stop [.code [1, 1, 1, 0, 0], .inLoop [1, 1, 1, 0, 0], .inBlock 0] { n := 21, fr := [(0, .p (.lst .cell l)), (4, .i (0 : Int)), (5, .i (1 : Int)), (6, .i e)], ck := [] })) (by kernel_rfl) fun Γ => ?_
  rw [← he]
  exact begin_tm l Γ hl t ht pre post 1 hq (by omega) (by have : l.length = pre.length + t.flat.length + post.length := by rw [hq, List.length_append, List.length_append]
                                                          omega) (fun _ => ⟨rfl, rfl⟩) (fun h => absurd rfl h)
end Go.Proofs.YtjndellhebidoaaGreatDoor

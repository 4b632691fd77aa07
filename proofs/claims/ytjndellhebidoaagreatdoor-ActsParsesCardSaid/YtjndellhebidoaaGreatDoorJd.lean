/- Contracts: cells, right lists, by the program and the document; lists of cells as trees. Conditions: none. Contracts: searches over lists, for seats without kinds. Conditions: none. Contracts: what eval's searches find. Conditions: none. -/
import Derived.Test.YtjndellhebidoaaGreatDoorNa
import Derived.Test.YtjndellhebidoaaGreatDoorJc
namespace Go.Proofs.YtjndellhebidoaaGreatDoor
open Go Go.Ev
set_option maxRecDepth 100000
def cfgName : Cfg := ⟨tys0, [eName]⟩
theorem cfgName_ok : TabOk Tryz.prog cfgName.tab := (TabOk.cons eName_ok TabOk.nil)
theorem wants_spec (op a : Int) (s : Str) : Does Tryz.prog 63 [.agg [.i op, .i a, .pd (.str s)]] [] (.x (.i (wantsM op a s))) [] := by
  refine Does.go (cfg := cfgName) cfgName_ok Tryz.func63 (by kernel_rfl) (by kernel_rfl) (t := (.ite (op == (1 : Int)) (.ite (decide (a < (0 : Int)) || decide (a > (1099511627776 : Int)) || !s == []) (.ret (.i (-1 : Int)) []) (.ret (.i (0 : Int)) [])) (.ite (op == (2 : Int)) (.ite (decide (a < (0 : Int)) || decide (a > (1048576 : Int)) || !s == []) (.ret (.i (-1 : Int)) []) (.ret (.i (0 : Int)) [])) (.ite (op == (5 : Int)) (.ite (a != (0 : Int) || !nameM s) (.ret (.i (-1 : Int)) []) (.ret (.i (0 : Int)) [])) (.ite (op == (6 : Int)) (.ite (a != (0 : Int) || !nameM s) (.ret (.i (-1 : Int)) []) (.ret (.i (0 : Int)) [])) (.ite (decide (op < (3 : Int)) || decide (op > (23 : Int)) || a != (0 : Int) || !s == []) (.ret (.i (-1 : Int)) []) (.ite (decide (op ≤ (4 : Int))) (.ret (.i (0 : Int)) []) (.ite (decide (op ≤ (10 : Int))) (.ret (.i (1 : Int)) []) (.ret (.i (2 : Int)) []))))))))) (by kernel_rfl) fun Γ => ?_
  (repeat' (first | intro h | constructor)) <;> simp only [wantsM, *, cond_true, cond_false]
def eWants : Nat × (List SX → List Chunk → Option (Option Prop × SV × List Chunk)) := (63, fun
  | [.agg [.pd (.int .i64 op), .pd (.int .i64 a), .pd (.str s)]], [] => some (none, .x (.c (.pd (.int .i64 (wantsM op a s)))), [])
  | _, _ => none)
theorem eWants_ok (vs : List SX) (ck : List Chunk) (p : Option Prop) (ret : SV) (ck' : List Chunk) (h : eWants.2 vs ck = some (p, ret, ck')) (hp : Holds p) : Does Tryz.prog eWants.1 vs ck ret ck' := by
  unfold eWants at h
  simp only at h
  split at h
  · rename_i op a s
    simp only [Option.some.injEq, Prod.mk.injEq] at h
    obtain ⟨rfl, rfl, rfl⟩ := h
    exact wants_spec op a s
  · simp at h
def cfgWants : Cfg := ⟨tys0, [eWants]⟩
theorem cfgWants_ok : TabOk Tryz.prog cfgWants.tab := (TabOk.cons eWants_ok TabOk.nil)

theorem right_loop (l : List Cell) (Γ : Ctx) (hl : l.length ≤ 32) : ∀ (n k : Nat) (m : Int), l.length - k ≤ n → k ≤ l.length → 0 ≤ m → m ≤ k →
    J Tryz.prog 49 (bodyOf Tryz.f49) Γ (Eq2 (.x (.b (rightGo (l.drop k) m))) []) [.code [1, 1, 1, 0, 1, 0, 0], .inLoop [1, 1, 1, 0, 1, 0, 0], .inBlock 0, .code [1, 1, 1, 1]] ({ n := 32, fr := [(2, .p (.bool false)), (3, .i (m)), (10, .p (.lst .cell l)), (11, .i (↑(List.length l) : Int)), (12, .i (k))], ck := [], kn := [2] }) := by
  intro n
  induction n with
  | zero => ?_
  | succ n ih => ?_
  all_goals
    intro k m hn hk h0 hm
    refine J.go (cfg := cfgWants) cfgWants_ok Tryz.func49 1000 (t := (.ite (decide ((↑k : Int) < (↑(List.length l) : Int))) (.need ((0 : Int) ≤ (↑k : Int) ∧ (↑k : Int) < (↑(List.length l) : Int)) (.ite (decide (wantsM (Cell.op (ETy.get .cell l k)) (Cell.a (ETy.get .cell l k)) (Cell.name (ETy.get .cell l k)) < (0 : Int)) || decide (wantsM (Cell.op (ETy.get .cell l k)) (Cell.a (ETy.get .cell l k)) (Cell.name (ETy.get .cell l k)) > m)) (.ret (.p (.bool false)) []) (.stop [.code [1, 1, 1, 0, 1, 0, 0], .inLoop [1, 1, 1, 0, 1, 0, 0], .inBlock 0, .code [1, 1, 1, 1]] { n := 32, fr := [(2, .p (.bool false)), (3, .i (IntKind.wrap .i64 (m + IntKind.wrap .i64 ((1 : Int) - wantsM (Cell.op (ETy.get .cell l k)) (Cell.a (ETy.get .cell l k)) (Cell.name (ETy.get .cell l k)))))), (10, .p (.lst .cell l)), (11, .i (↑(List.length l) : Int)), (12, .i (IntKind.wrap .i64 ((↑k : Int) + (1 : Int))))], ck := [], kn := [2] }))) (.ret (.p (.bool (m == (1 : Int)))) []))) (by kernel_rfl) ?_
    refine ⟨fun hlt => ⟨?_, ?_⟩, fun hge => ⟨?_, rfl⟩⟩
    · have := of_decide_eq_true hlt; omega
    · have hk' : k < l.length := by have := of_decide_eq_true hlt; omega
      rw [drop_get (t := .cell) hk']
      generalize ETy.get .cell l k = c
      refine ⟨fun hb => ⟨?_, rfl⟩, fun hb => ?_⟩
      · have hb' : (decide (wantsC c < 0) || decide (wantsC c > m)) = true := hb
        simp only [rightGo, hb', cond_true]
      · have hb' : (decide (wantsC c < 0) || decide (wantsC c > m)) = false := hb
        have hw : 0 ≤ wantsC c ∧ wantsC c ≤ m := by
          simp only [Bool.or_eq_false_iff, decide_eq_false_iff_not] at hb'
          omega
        simp only [rightGo, hb', cond_false]
        show J Tryz.prog 49 (bodyOf Tryz.f49) Γ _ [.code [1, 1, 1, 0, 1, 0, 0], .inLoop [1, 1, 1, 0, 1, 0, 0], .inBlock 0, .code [1, 1, 1, 1]] ({ n := 32, fr := [(2, .p (.bool false)), (3, .i (IntKind.wrap .i64 (m + IntKind.wrap .i64 (1 - wantsC c)))), (10, .p (.lst .cell l)), (11, .i (↑(List.length l) : Int)), (12, .i (IntKind.wrap .i64 ((↑k : Int) + (1 : Int))))], ck := [], kn := [2] })
        rw [wrapI (n := 1 - wantsC c) (by omega) (by omega), wrapI (by omega) (by omega), wrapK (by omega)]
        first
        | (exfalso; omega)
        | exact ih (k + 1) (m + (1 - wantsC c)) (by omega) (by omega) (by omega) (by omega)
    · rw [drop_end (by have := of_decide_eq_false hge; omega)]; rfl
theorem right_spec (l : List Cell) : Does Tryz.prog 49 [.l .cell l] [] (.x (.b (rightM l))) [] := by
  refine Does.go (cfg := cfgWants) cfgWants_ok Tryz.func49 (by kernel_rfl) (by kernel_rfl) (t := (.ite (decide ((↑(List.length l) : Int) > (32 : Int))) (.ret (.p (.bool false)) []) (.stop [.code [1, 1, 1, 0, 1, 0, 0], .inLoop [1, 1, 1, 0, 1, 0, 0], .inBlock 0, .code [1, 1, 1, 1]] { n := 32, fr := [(2, .p (.bool false)), (3, .i (0 : Int)), (10, .p (.lst .cell l)), (11, .i (↑(List.length l) : Int)), (12, .i (0 : Int))], ck := [], kn := [2] }))) (by kernel_rfl) fun Γ => ?_
  refine ⟨fun h => ⟨by simp only [rightM, h]; rfl, rfl⟩, fun h => ?_⟩
  have hl : l.length ≤ 32 := by have := of_decide_eq_false h; omega
  simp only [rightM, h]
  exact right_loop l Γ hl l.length 0 0 (by omega) (by omega) (by omega) (by omega)
def eRight : Nat × (List SX → List Chunk → Option (Option Prop × SV × List Chunk)) := (49, fun
  | [.c (.pd (.lst .cell l))], [] => some (none, .x (.c (.pd (.bool (rightM l)))), [])
  | _, _ => none)
theorem eRight_ok (vs : List SX) (ck : List Chunk) (p : Option Prop) (ret : SV) (ck' : List Chunk) (h : eRight.2 vs ck = some (p, ret, ck')) (hp : Holds p) : Does Tryz.prog eRight.1 vs ck ret ck' := by
  unfold eRight at h
  simp only at h
  split at h
  · rename_i l
    simp only [Option.some.injEq, Prod.mk.injEq] at h
    obtain ⟨rfl, rfl, rfl⟩ := h
    exact right_spec l
  · simp at h
theorem wants_op (c : Cell) (h : wantsC c ≥ 0) : (wantsC c = 0 ∧ c.op < 7) ∨ (wantsC c = 1 ∧ 7 ≤ c.op ∧ c.op < 11) ∨ (wantsC c = 2 ∧ 11 ≤ c.op) := by
  revert h
  unfold wantsC wantsM
  simp only [cond_eq_ite, beq_iff_eq, Bool.or_eq_true, decide_eq_true_eq, bne_iff_ne]
  intro h
  (repeat' split at h) <;> (repeat' split) <;> omega
theorem wants_cases (c : Cell) (h : wantsC c ≥ 0) : (c.op < 7 ∧ wantsC c = 0) ∨ (7 ≤ c.op ∧ c.op < 11 ∧ wantsC c = 1) ∨ (11 ≤ c.op ∧ wantsC c = 2) := by
  rcases wants_op c h with ⟨h1, h2⟩ | ⟨h1, h2, h3⟩ | ⟨h1, h2⟩
  · exact .inl ⟨h2, h1⟩
  · exact .inr (.inl ⟨h2, h3, h1⟩)
  · exact .inr (.inr ⟨h2, h1⟩)
/-- an expression's tree -/
inductive Tm where
  | leaf (c : Cell)
  | un (c : Cell) (t : Tm)
  | bin (c : Cell) (t u : Tm)
def Tm.flat : Tm → List Cell
  | .leaf c => [c]
  | .un c t => t.flat ++ [c]
  | .bin c t u => t.flat ++ u.flat ++ [c]
def Tm.ok : Tm → Prop
  | .leaf c => wantsC c = 0
  | .un c t => wantsC c = 1 ∧ t.ok
  | .bin c t u => wantsC c = 2 ∧ t.ok ∧ u.ok
/-- the trees that lie on the stack, the top one first -/
def flats : List Tm → List Cell
  | [] => []
  | t :: r => flats r ++ t.flat
theorem right_parse : ∀ (rest : List Cell) (ts : List Tm), (∀ t ∈ ts, t.ok) → rightGo rest ts.length = true → ∃ t : Tm, t.ok ∧ t.flat = flats ts ++ rest
  | [], ts, hok, h => by
    simp only [rightGo] at h
    have h1 : ts.length = 1 := by have h2 : (ts.length : Int) = 1 := (by simpa using h); omega
    obtain ⟨t, rfl⟩ := List.length_eq_one_iff.1 h1
    exact ⟨t, hok t (by simp), by simp [flats]⟩
  | c :: rest, ts, hok, h => by
    simp only [rightGo] at h
    cases hb : (decide (wantsC c < 0) || decide (wantsC c > (ts.length : Int)))
    · rw [hb, cond_false] at h
      simp only [Bool.or_eq_false_iff] at hb
      have h1 := of_decide_eq_false hb.1
      have h2 := of_decide_eq_false hb.2
      rcases wants_cases c (by omega) with ⟨_, hw⟩ | ⟨_, _, hw⟩ | ⟨_, hw⟩
      · obtain ⟨t, q1, q2⟩ := right_parse rest (.leaf c :: ts) (by intro t ht; rcases List.mem_cons.1 ht with rfl | ht; exact hw; exact hok t ht) (by rw [← h]; congr 1; simp only [List.length_cons]; omega)
        exact ⟨t, q1, by rw [q2]; simp [flats, Tm.flat]⟩
      · cases ts with
        | nil => simp at h2; omega
        | cons a ts =>
          obtain ⟨t, q1, q2⟩ := right_parse rest (.un c a :: ts) (by intro t ht; rcases List.mem_cons.1 ht with rfl | ht; exact ⟨hw, hok a (by simp)⟩; exact hok t (by simp [ht])) (by rw [← h]; congr 1; simp only [List.length_cons]; omega)
          exact ⟨t, q1, by rw [q2]; simp [flats, Tm.flat]⟩
      · cases ts with
        | nil => simp at h2; omega
        | cons a ts => cases ts with
          | nil => simp at h2; omega
          | cons b ts =>
            obtain ⟨t, q1, q2⟩ := right_parse rest (.bin c b a :: ts) (by intro t ht; rcases List.mem_cons.1 ht with rfl | ht; exact ⟨hw, hok b (by simp), hok a (by simp)⟩; exact hok t (by simp [ht])) (by rw [← h]; congr 1; simp only [List.length_cons]; omega)
            exact ⟨t, q1, by rw [q2]; simp [flats, Tm.flat]⟩
    · rw [hb] at h; simp at h
/-- a right list is a tree -/
theorem right_tm {l : List Cell} (h : rightM l = true) : l.length ≤ 32 ∧ ∃ t : Tm, t.ok ∧ t.flat = l := by
  simp only [rightM, Bool.and_eq_true, Bool.not_eq_true', decide_eq_false_iff_not] at h
  obtain ⟨t, h1, h2⟩ := right_parse l [] (by simp) (by simpa using h.2)
  exact ⟨by omega, t, h1, by simpa [flats] using h2⟩
theorem rightGo_flat (rest : List Cell) : ∀ (t : Tm), t.ok → ∀ n : Int, 0 ≤ n → rightGo (t.flat ++ rest) n = rightGo rest (n + 1)
  | .leaf c, h, n, hn => by
    simp only [Tm.ok] at h
    simp [Tm.flat, rightGo, h, show ¬ (n < 0) from by omega]
  | .un c t, h, n, hn => by
    obtain ⟨hw, ht⟩ := h
    rw [Tm.flat, List.append_assoc, rightGo_flat _ t ht n hn]
    simp [rightGo, hw, show ¬ (n + 1 < 1) from by omega]
  | .bin c t u, h, n, hn => by
    obtain ⟨hw, ht, hu⟩ := h
    rw [Tm.flat, List.append_assoc, List.append_assoc, rightGo_flat _ t ht n hn, rightGo_flat _ u hu _ (by omega)]
    have : ¬ (n + 1 + 1 < 2) := by omega
    simp only [List.cons_append, List.nil_append, rightGo, hw, show decide ((2 : Int) < 0) = false from rfl, Bool.false_or, show decide ((2 : Int) > n + 1 + 1) = false from by simpa using this, cond_false]
    congr 1; omega
theorem tm_right {t : Tm} (h : t.ok) (hl : t.flat.length ≤ 32) : rightM t.flat = true := by
  have := rightGo_flat [] t h 0 (by omega)
  rw [List.append_nil] at this
  simp only [rightM, this, rightGo, Bool.and_eq_true, Bool.not_eq_true', decide_eq_false_iff_not]
  exact ⟨by omega, rfl⟩
def cfgRnm : Cfg := ⟨tys0, [eRnm]⟩
theorem cfgRnm_ok : TabOk Tryz.prog cfgRnm.tab := (TabOk.cons eRnm_ok TabOk.nil)
theorem operands_eq (op a : Int) (s : List UInt8) :
    (bif (!((op == 5 || op == 6) == decide (strLen s > 0)) || (op == 5 || op == 6) && !nameM s || !(op == 1 || op == 2) && a != 0 || decide (a < 0)) then (-1 : Int)
      else bif (op == 1 && decide (a > 1099511627776) || op == 2 && decide (a > 1048576) || decide (op < 1) || decide (op > 23)) then -1
      else bif decide (op ≤ 6) then 0 else bif decide (op ≤ 10) then 1 else 2) = wantsM op a s := by
  have hs : decide (strLen s > 0) = !(s == []) := by cases s <;> simp [strLen]
  rw [hs]
  have hn : (s == []) = true → nameM s = false := by intro h; have : s = [] := by simpa using h
                                                     subst this; rfl
  unfold wantsM
  generalize hx : (s == []) = x at *
  generalize nameM s = y at *
  by_cases h1 : op = 1
  · subst h1
    cases x <;> simp [cond_eq_ite] <;> (repeat' split) <;> omega
  · by_cases h2 : op = 2
    · subst h2
      cases x <;> simp [cond_eq_ite] <;> (repeat' split) <;> omega
    · by_cases h5 : op = 5
      · subst h5
        cases x <;> cases y <;> simp_all [cond_eq_ite] <;> (repeat' split) <;> omega
      · by_cases h6 : op = 6
        · subst h6
          cases x <;> cases y <;> simp_all [cond_eq_ite] <;> (repeat' split) <;> omega
        · cases x <;> simp_all [cond_eq_ite] <;> (repeat' split) <;> omega
theorem operands_spec (op a : Int) (s : Str) : Does Tryz.prog 94 [.agg [.i op, .i a, .pd (.str s)]] [] (.x (.i (wantsM op a s))) [] := by
  rw [← operands_eq]
  refine Does.go (cfg := cfgRnm) cfgRnm_ok Tryz.func94 (by kernel_rfl) (by kernel_rfl) (t := (.ite (!(op == (5 : Int) || op == (6 : Int)) == decide (strLen s > (0 : Int)) || (op == (5 : Int) || op == (6 : Int)) && !nameM s || !(op == (1 : Int) || op == (2 : Int)) && a != (0 : Int) || decide (a < (0 : Int))) (.ret (.i (-1 : Int)) []) (.ite (op == (1 : Int) && decide (a > (1099511627776 : Int)) || op == (2 : Int) && decide (a > (1048576 : Int)) || decide (op < (1 : Int)) || decide (op > (23 : Int))) (.ret (.i (-1 : Int)) []) (.ite (decide (op ≤ (6 : Int))) (.ret (.i (0 : Int)) []) (.ite (decide (op ≤ (10 : Int))) (.ret (.i (1 : Int)) []) (.ret (.i (2 : Int)) [])))))) (by kernel_rfl) fun Γ => ?_
  refine ⟨fun h => ?_, fun h => ⟨fun h1 => ?_, fun h1 => ⟨fun h2 => ?_, fun h2 => ⟨fun h3 => ?_, fun h3 => ?_⟩⟩⟩⟩
  all_goals
    refine ⟨?_, rfl⟩
    simp only [*, cond_true, cond_false]
def eRop : Nat × (List SX → List Chunk → Option (Option Prop × SV × List Chunk)) := (94, fun
  | [.agg [.pd (.int .i64 op), .pd (.int .i64 a), .pd (.str s)]], [] => some (none, .x (.c (.pd (.int .i64 (wantsM op a s)))), [])
  | _, _ => none)
theorem eRop_ok (vs : List SX) (ck : List Chunk) (p : Option Prop) (ret : SV) (ck' : List Chunk) (h : eRop.2 vs ck = some (p, ret, ck')) (hp : Holds p) : Does Tryz.prog eRop.1 vs ck ret ck' := by
  unfold eRop at h
  simp only at h
  split at h
  · rename_i op a s
    simp only [Option.some.injEq, Prod.mk.injEq] at h
    obtain ⟨rfl, rfl, rfl⟩ := h
    exact operands_spec op a s
  · simp at h
def cfgRop : Cfg := ⟨tys0, [eRop]⟩
theorem cfgRop_ok : TabOk Tryz.prog cfgRop.tab := (TabOk.cons eRop_ok TabOk.nil)

theorem ref_right_loop (l : List Cell) (Γ : Ctx) : ∀ (n k : Nat) (m : Int), 33 - k ≤ n → k ≤ l.length → k ≤ 32 → 0 ≤ m → m ≤ k →
    J Tryz.prog 59 (bodyOf Tryz.f59) Γ (Eq2 (.x (.b (!decide ((l.length : Int) > 32) && rightGo (l.drop k) m))) []) [.code [1, 1, 0, 1, 0, 0], .inLoop [1, 1, 0, 1, 0, 0], .inBlock 0, .code [1, 1, 1]] ({ n := 34, fr := [(0, .p (.lst .cell l)), (2, .p (.bool false)), (3, .i (m)), (4, .i (k))], ck := [], kn := [2] }) := by
  intro n
  induction n with
  | zero => intro k m h1 h2 h3; omega
  | succ n ih => ?_
  intro k m hn hk hk32 hm0 hm
  refine J.go (cfg := cfgRop) cfgRop_ok Tryz.func59 1000 (t := (.ite (decide ((↑k : Int) < (↑(List.length l) : Int))) (.need ((0 : Int) ≤ (↑k : Int) ∧ (↑k : Int) < (↑(List.length l) : Int)) (.ite (decide (wantsM (Cell.op (ETy.get .cell l k)) (Cell.a (ETy.get .cell l k)) (Cell.name (ETy.get .cell l k)) < (0 : Int)) || decide (m < wantsM (Cell.op (ETy.get .cell l k)) (Cell.a (ETy.get .cell l k)) (Cell.name (ETy.get .cell l k))) || decide ((↑k : Int) ≥ (32 : Int))) (.ret (.p (.bool false)) []) (.stop [.code [1, 1, 0, 1, 0, 0], .inLoop [1, 1, 0, 1, 0, 0], .inBlock 0, .code [1, 1, 1]] { n := 34, fr := [(0, .p (.lst .cell l)), (2, .p (.bool false)), (3, .i (IntKind.wrap .i64 (IntKind.wrap .i64 (m - wantsM (Cell.op (ETy.get .cell l k)) (Cell.a (ETy.get .cell l k)) (Cell.name (ETy.get .cell l k))) + (1 : Int)))), (4, .i (IntKind.wrap .i64 ((↑k : Int) + (1 : Int))))], ck := [], kn := [2] }))) (.ret (.p (.bool (m == (1 : Int)))) []))) (by kernel_rfl) ?_
  refine ⟨fun hlt => ?_, fun hge => ⟨?_, rfl⟩⟩
  · have hk' : k < l.length := by have := of_decide_eq_true hlt; omega
    refine ⟨⟨by omega, by omega⟩, ?_⟩
    rw [drop_get (t := .cell) hk']
    generalize ETy.get .cell l k = c
    refine ⟨fun h => ⟨?_, rfl⟩, fun h => ?_⟩
    · have h' : (decide (wantsC c < 0) || decide (m < wantsC c) || decide ((k : Int) ≥ 32)) = true := h
      simp only [Bool.or_eq_true] at h'
      have e : (!decide ((l.length : Int) > 32) && rightGo (c :: l.drop (k + 1)) m) = false := by
        rcases h' with h | h
        · have h' : (decide (wantsC c < 0) || decide (wantsC c > m)) = true := by
            rcases h with h | h
            · rw [h]; rfl
            · have : decide (wantsC c > m) = true := h
              rw [this, Bool.or_true]
          simp only [rightGo, h', cond_true, Bool.and_false]
        · have : decide ((l.length : Int) > 32) = true := decide_eq_true (by have := of_decide_eq_true h; omega)
          rw [this]; rfl
      rw [e]
    · have h' : (decide (wantsC c < 0) || decide (m < wantsC c) || decide ((k : Int) ≥ 32)) = false := h
      simp only [Bool.or_eq_false_iff] at h'
      have h1 := of_decide_eq_false h'.1.1
      have h2 := of_decide_eq_false h'.1.2
      have h3 := of_decide_eq_false h'.2
      show J Tryz.prog 59 (bodyOf Tryz.f59) Γ _ [.code [1, 1, 0, 1, 0, 0], .inLoop [1, 1, 0, 1, 0, 0], .inBlock 0, .code [1, 1, 1]] ({ n := 34, fr := [(0, .p (.lst .cell l)), (2, .p (.bool false)), (3, .i (IntKind.wrap .i64 (IntKind.wrap .i64 (m - wantsC c) + 1))), (4, .i (IntKind.wrap .i64 ((↑k : Int) + (1 : Int))))], ck := [], kn := [2] })
      have e1 : IntKind.wrap IntKind.i64 (IntKind.wrap IntKind.i64 (m - wantsC c) + 1) = m + (1 - wantsC c) := by
        rw [wrapI (n := m - _) (by omega) (by omega), wrapI (by omega) (by omega)]; omega
      have e2 : rightGo (c :: l.drop (k + 1)) m = rightGo (l.drop (k + 1)) (m + (1 - wantsC c)) := by
        have hb' : (decide (wantsC c < 0) || decide (wantsC c > m)) = false := by
          rw [Bool.or_eq_false_iff]; exact ⟨decide_eq_false h1, decide_eq_false (by omega)⟩
        simp only [rightGo, hb', cond_false]
      rw [e1, e2, wrapK (by omega)]
      exact ih (k + 1) (m + (1 - wantsC c)) (by omega) (by omega) (by omega) (by omega) (by omega)
  · have h2 := of_decide_eq_false hge
    rw [drop_end (by omega), rightGo, show decide ((l.length : Int) > 32) = false from decide_eq_false (by omega)]; rfl
theorem ref_right_spec (l : List Cell) : Does Tryz.prog 59 [.l .cell l] [] (.x (.b (rightM l))) [] := by
  refine Does.go (cfg := cfgRop) cfgRop_ok Tryz.func59 (by kernel_rfl) (by kernel_rfl) (t := (.stop [.code [1, 1, 0, 1, 0, 0], .inLoop [1, 1, 0, 1, 0, 0], .inBlock 0, .code [1, 1, 1]] { n := 34, fr := [(0, .p (.lst .cell l)), (2, .p (.bool false)), (3, .i (0 : Int)), (4, .i (0 : Int))], ck := [], kn := [2] })) (by kernel_rfl) fun Γ => ?_
  exact ref_right_loop l Γ 33 0 0 (by omega) (by omega) (by omega) (by omega) (by omega)
def eRright : Nat × (List SX → List Chunk → Option (Option Prop × SV × List Chunk)) := (59, fun
  | [.c (.pd (.lst .cell l))], [] => some (none, .x (.c (.pd (.bool (rightM l)))), [])
  | _, _ => none)
theorem eRright_ok (vs : List SX) (ck : List Chunk) (p : Option Prop) (ret : SV) (ck' : List Chunk) (h : eRright.2 vs ck = some (p, ret, ck')) (hp : Holds p) : Does Tryz.prog eRright.1 vs ck ret ck' := by
  unfold eRright at h
  simp only at h
  split at h
  · rename_i l
    simp only [Option.some.injEq, Prod.mk.injEq] at h
    obtain ⟨rfl, rfl, rfl⟩ := h
    exact ref_right_spec l
  · simp at h
end Go.Proofs.YtjndellhebidoaaGreatDoor
namespace Go.Proofs.YtjndellhebidoaaGreatDoor
open Go Go.Ev
set_option maxRecDepth 100000
theorem firstAt_iff {α : Type} (p : α → Bool) : ∀ (l : List α) (i : Int), 0 ≤ i → (firstAt p l i ≥ 0 ↔ l.any p = true)
  | [], i, _ => by simp [firstAt]
  | x :: r, i, h => by
    have ih := firstAt_iff p r (i + 1) (by omega)
    unfold firstAt
    rw [List.any_cons]
    cases hp : p x
    · simpa using ih
    · simpa using h
theorem firstAt_any {α : Type} (p : α → Bool) (l : List α) (i : Int) (h : 0 ≤ i) : decide (firstAt p l i ≥ 0) = l.any p := by
  have := firstAt_iff p l i h
  cases hl : l.any p
  · rw [hl] at this; exact decide_eq_false (fun h2 => by simp at this; omega)
  · rw [hl] at this; exact decide_eq_true (this.2 rfl)

theorem si_loop (l : List Str) (s : Str) (Γ : Ctx) (hl : l.length ≤ maxLen) : ∀ (n k : Nat), l.length - k ≤ n → k ≤ l.length →
    J Tryz.prog 86 (bodyOf Tryz.f86) Γ (Eq2 (.x (.i (firstAt (fun x => s == x) (l.drop k) k))) []) [.code [1, 0, 1, 0, 0], .inLoop [1, 0, 1, 0, 0], .inBlock 0, .code [1, 1]] ({ n := 19, fr := [(0, .p (.lst .str l)), (1, .p (.str s)), (4, .i (0 : Int)), (7, .i (↑(List.length l) : Int)), (8, .i (k))], ck := [] }) := by
  intro n
  induction n with
  | zero => ?_
  | succ n ih => ?_
  all_goals
    intro k hn hk
    refine J.go (cfg := cfg0) cfg0_ok Tryz.func86 1000 (t := (.ite (decide ((↑k : Int) < (↑(List.length l) : Int))) (.need ((0 : Int) ≤ (↑k : Int) ∧ (↑k : Int) < (↑(List.length l) : Int)) (.ite (s == ETy.get .str l k) (.ret (.i (↑k : Int)) []) (.stop [.code [1, 0, 1, 0, 0], .inLoop [1, 0, 1, 0, 0], .inBlock 0, .code [1, 1]] { n := 19, fr := [(0, .p (.lst .str l)), (1, .p (.str s)), (4, .i (0 : Int)), (7, .i (↑(List.length l) : Int)), (8, .i (IntKind.wrap .i64 ((↑k : Int) + (1 : Int))))], ck := [] }))) (.ret (.i (-1 : Int)) []))) (by kernel_rfl) ?_
    refine ⟨fun hlt => ?_, fun hge => ⟨?_, rfl⟩⟩
    · have hk' : k < l.length := by have := of_decide_eq_true hlt; omega
      rw [drop_get (t := .str) hk']
      refine ⟨by omega, ?_⟩
      generalize ETy.get .str l k = v
      refine ⟨fun hb => ⟨?_, rfl⟩, fun hb => ?_⟩
      · simp only [firstAt, hb, cond_true]
      · simp only [firstAt, hb, cond_false]
        rw [wrapK (maxLen_lt hk' hl)]
        first
        | (exfalso; omega)
        | exact ih (k + 1) (by omega) (by omega)
    · rw [drop_end (by have := of_decide_eq_false hge; omega)]; rfl
theorem si_spec (l : List Str) (s : Str) : Does Tryz.prog 86 [.l .str l, .s s] [] (.x (.i (firstAt (fun x => s == x) l 0))) [] := by
  refine Does.go (cfg := cfg0) cfg0_ok Tryz.func86 (by kernel_rfl) (by kernel_rfl) (t := (.stop [.code [1, 0, 1, 0, 0], .inLoop [1, 0, 1, 0, 0], .inBlock 0, .code [1, 1]] { n := 19, fr := [(0, .p (.lst .str l)), (1, .p (.str s)), (4, .i (0 : Int)), (7, .i (↑(List.length l) : Int)), (8, .i (0 : Int))], ck := [] })) (by kernel_rfl) fun Γ => ?_
  exact J.len 0 rfl fun hl => si_loop l s Γ hl l.length 0 (by omega) (by omega)
def eSi : Nat × (List SX → List Chunk → Option (Option Prop × SV × List Chunk)) := (86, fun
  | [.c (.pd (.lst .str l)), .c (.pd (.str s))], [] => some (none, .x (.c (.pd (.int .i64 (firstAt (fun x => s == x) l 0)))), [])
  | _, _ => none)
theorem eSi_ok (vs : List SX) (ck : List Chunk) (p : Option Prop) (ret : SV) (ck' : List Chunk) (h : eSi.2 vs ck = some (p, ret, ck')) (hp : Holds p) : Does Tryz.prog eSi.1 vs ck ret ck' := by
  unfold eSi at h
  simp only at h
  split at h
  · rename_i l s
    simp only [Option.some.injEq, Prod.mk.injEq] at h
    obtain ⟨rfl, rfl, rfl⟩ := h
    exact si_spec l s
  · simp at h
def cfgSi : Cfg := ⟨tys0, [eSi]⟩
theorem cfgSi_ok : TabOk Tryz.prog cfgSi.tab := (TabOk.cons eSi_ok TabOk.nil)
theorem sc_spec (l : List Str) (s : Str) : Does Tryz.prog 55 [.l .str l, .s s] [] (.x (.b (l.any fun x => s == x))) [] := by
  refine Does.go (cfg := cfgSi) cfgSi_ok Tryz.func55 (by kernel_rfl) (by kernel_rfl) (t := (.ret (.p (.bool (decide (firstAt (fun x => s == x) l (0 : Int) ≥ (0 : Int))))) [])) (by kernel_rfl) fun Γ => ⟨?_, rfl⟩
  rw [firstAt_any _ _ _ (by omega)]
def eSc : Nat × (List SX → List Chunk → Option (Option Prop × SV × List Chunk)) := (55, fun
  | [.c (.pd (.lst .str l)), .c (.pd (.str s))], [] => some (none, .x (.c (.pd (.bool (l.any fun x => s == x)))), [])
  | _, _ => none)
theorem eSc_ok (vs : List SX) (ck : List Chunk) (p : Option Prop) (ret : SV) (ck' : List Chunk) (h : eSc.2 vs ck = some (p, ret, ck')) (hp : Holds p) : Does Tryz.prog eSc.1 vs ck ret ck' := by
  unfold eSc at h
  simp only at h
  split at h
  · rename_i l s
    simp only [Option.some.injEq, Prod.mk.injEq] at h
    obtain ⟨rfl, rfl, rfl⟩ := h
    exact sc_spec l s
  · simp at h
theorem firstAt_find {α : Type} (p : α → Bool) : ∀ (l : List α) (i : Nat), (firstAt p l i = -1 ∧ l.find? p = none) ∨ ∃ k x, firstAt p l i = ((i + k : Nat) : Int) ∧ l[k]? = some x ∧ l.find? p = some x
  | [], i => .inl ⟨rfl, rfl⟩
  | x :: r, i => by
    simp only [firstAt, List.find?_cons]
    cases hp : p x
    · rcases firstAt_find p r (i + 1) with ⟨h1, h2⟩ | ⟨k, y, h1, h2, h3⟩
      · exact .inl ⟨h1, h2⟩
      · exact .inr ⟨k + 1, y, by simp only [cond_false]; rw [show (i : Int) + 1 = ((i + 1 : Nat) : Int) from rfl, h1]; omega, by simpa using h2, h3⟩
    · exact .inr ⟨0, x, by simp, by simp, rfl⟩

end Go.Proofs.YtjndellhebidoaaGreatDoor
namespace Go.Proofs.YtjndellhebidoaaGreatDoor
open Go Go.Ev
set_option maxRecDepth 100000
def cfgOf1 : Cfg := ⟨tys0, [eEvRight]⟩
theorem cfgOf1_ok : TabOk Tryz.prog cfgOf1.tab := (TabOk.cons eEvRight_ok TabOk.nil)
theorem evof1_spec (v : Val) : Does Tryz.prog 51 [.e .val v] [] (.x (.b (!vR v))) [] := by
  refine Does.go (cfg := cfgOf1) cfgOf1_ok Tryz.func51 (by kernel_rfl) (by kernel_rfl) (t := (.ret (.p (.bool !vR { kind := Val.kind v, a := Val.a v, b := Val.b v })) [])) (by kernel_rfl) fun Γ => ⟨rfl, rfl⟩
def eEvof1 : Nat × (List SX → List Chunk → Option (Option Prop × SV × List Chunk)) := (51, fun
  | [.agg [.pd (.int .i64 a), .pd (.int .i64 b), .pd (.int .i64 d)]], [] => some (none, .x (.c (.pd (.bool (!vR ⟨a, b, d⟩)))), [])
  | _, _ => none)
theorem eEvof1_ok (vs : List SX) (ck : List Chunk) (p : Option Prop) (ret : SV) (ck' : List Chunk) (h : eEvof1.2 vs ck = some (p, ret, ck')) (hp : Holds p) : Does Tryz.prog eEvof1.1 vs ck ret ck' := by
  unfold eEvof1 at h
  simp only at h
  split at h
  · rename_i a b d
    simp only [Option.some.injEq, Prod.mk.injEq] at h
    obtain ⟨rfl, rfl, rfl⟩ := h
    exact evof1_spec ⟨a, b, d⟩
  · simp at h
theorem evof2_spec (v : Var) (c : Cell) : Does Tryz.prog 56 [.e .var v, .p (.ref .cell c 0)] [] (.x (.b (v.name == c.name))) [] := by
  refine Does.go (cfg := cfg0) cfg0_ok Tryz.func56 (by kernel_rfl) (by kernel_rfl) (t := (.ret (.p (.bool (Var.name v == Cell.name c))) [])) (by kernel_rfl) fun Γ => ⟨rfl, rfl⟩
def eEvof2 : Nat × (List SX → List Chunk → Option (Option Prop × SV × List Chunk)) := (56, fun
  | [.agg [.pd (.str a), .pd (.int .i64 b), .pd (.int .i64 d), .pd (.int .i64 e), .pd (.int .i64 f), .pd (.int .i64 g), .pd (.int .i64 h)], .c (.pd (.ref .cell c 0))], [] => some (none, .x (.c (.pd (.bool (a == c.name)))), [])
  | _, _ => none)
theorem eEvof2_ok (vs : List SX) (ck : List Chunk) (p : Option Prop) (ret : SV) (ck' : List Chunk) (h : eEvof2.2 vs ck = some (p, ret, ck')) (hp : Holds p) : Does Tryz.prog eEvof2.1 vs ck ret ck' := by
  unfold eEvof2 at h
  simp only at h
  split at h
  · rename_i a b d e f g h c
    simp only [Option.some.injEq, Prod.mk.injEq] at h
    obtain ⟨rfl, rfl, rfl⟩ := h
    exact evof2_spec ⟨a, b, d, e, ⟨f, g, h⟩⟩ c
  · simp at h
def cfgEo1 : Cfg := ⟨tys0, [eEvof1]⟩
theorem cfgEo1_ok : TabOk Tryz.prog cfgEo1.tab := (TabOk.cons eEvof1_ok TabOk.nil)
def cfgEo2 : Cfg := ⟨tys0, [eEvof2]⟩
theorem cfgEo2_ok : TabOk Tryz.prog cfgEo2.tab := (TabOk.cons eEvof2_ok TabOk.nil)

theorem iv_loop (vs : List Val) (Γ : Ctx) (hl : vs.length ≤ maxLen) : ∀ (n k : Nat), vs.length - k ≤ n → k ≤ vs.length →
    J Tryz.prog 84 (bodyOf Tryz.f84) Γ (Eq2 (.x (.i (firstAt (fun v : Val => !vR v) (vs.drop k) k))) []) [.code [1, 0, 1, 0, 0], .inLoop [1, 0, 1, 0, 0], .inBlock 0, .code [1, 1]] ({ n := 19, fr := [(0, .p (.lst .val vs)), (1, .x (.c (.fn (.func 51) [] []))), (4, .i (0 : Int)), (7, .i (↑(List.length vs) : Int)), (8, .i (k))], ck := [] }) := by
  intro n
  induction n with
  | zero => ?_
  | succ n ih => ?_
  all_goals
    intro k hn hk
    refine J.go (cfg := cfgEo1) cfgEo1_ok Tryz.func84 1000 (t := (.ite (decide ((↑k : Int) < (↑(List.length vs) : Int))) (.need ((0 : Int) ≤ (↑k : Int) ∧ (↑k : Int) < (↑(List.length vs) : Int)) (.ite (!vR { kind := Val.kind (ETy.get .val vs k), a := Val.a (ETy.get .val vs k), b := Val.b (ETy.get .val vs k) }) (.ret (.i (↑k : Int)) []) (.stop [.code [1, 0, 1, 0, 0], .inLoop [1, 0, 1, 0, 0], .inBlock 0, .code [1, 1]] { n := 19, fr := [(0, .p (.lst .val vs)), (1, .x (.c (.fn (.func 51) [] []))), (4, .i (0 : Int)), (7, .i (↑(List.length vs) : Int)), (8, .i (IntKind.wrap .i64 ((↑k : Int) + (1 : Int))))], ck := [] }))) (.ret (.i (-1 : Int)) []))) (by kernel_rfl) ?_
    refine ⟨fun hlt => ?_, fun hge => ⟨?_, rfl⟩⟩
    · have hk' : k < vs.length := by have := of_decide_eq_true hlt; omega
      rw [drop_get (t := .val) hk']
      refine ⟨by omega, ?_⟩
      generalize ETy.get .val vs k = v
      refine ⟨fun hb => ⟨?_, rfl⟩, fun hb => ?_⟩
      · have hb' : (!vR v) = true := hb
        simp only [firstAt, hb', cond_true]
      · have hb' : (!vR v) = false := hb
        simp only [firstAt, hb', cond_false]
        rw [wrapK (maxLen_lt hk' hl)]
        first
        | (exfalso; omega)
        | exact ih (k + 1) (by omega) (by omega)
    · rw [drop_end (by have := of_decide_eq_false hge; omega)]; rfl
theorem iv_spec (vs : List Val) : Does Tryz.prog 84 [.l .val vs, .c (.fn (.func 51) [] [])] [] (.x (.i (firstAt (fun v : Val => !vR v) vs 0))) [] := by
  refine Does.go (cfg := cfgEo1) cfgEo1_ok Tryz.func84 (by kernel_rfl) (by kernel_rfl) (t := (.stop [.code [1, 0, 1, 0, 0], .inLoop [1, 0, 1, 0, 0], .inBlock 0, .code [1, 1]] { n := 19, fr := [(0, .p (.lst .val vs)), (1, .x (.c (.fn (.func 51) [] []))), (4, .i (0 : Int)), (7, .i (↑(List.length vs) : Int)), (8, .i (0 : Int))], ck := [] })) (by kernel_rfl) fun Γ => ?_
  exact J.len 0 rfl fun hl => iv_loop vs Γ hl vs.length 0 (by omega) (by omega)
def eIv : Nat × (List SX → List Chunk → Option (Option Prop × SV × List Chunk)) := (84, fun
  | [.c (.pd (.lst .val vs)), .c (.fn (.func 51) [] [])], [] => some (none, .x (.c (.pd (.int .i64 (firstAt (fun v : Val => !vR v) vs 0)))), [])
  | _, _ => none)
theorem eIv_ok (vs : List SX) (ck : List Chunk) (p : Option Prop) (ret : SV) (ck' : List Chunk) (h : eIv.2 vs ck = some (p, ret, ck')) (hp : Holds p) : Does Tryz.prog eIv.1 vs ck ret ck' := by
  unfold eIv at h
  simp only at h
  split at h
  · rename_i vs
    simp only [Option.some.injEq, Prod.mk.injEq] at h
    obtain ⟨rfl, rfl, rfl⟩ := h
    exact iv_spec vs
  · simp at h
def cfgCf : Cfg := ⟨tys0, [eIv]⟩
theorem cfgCf_ok : TabOk Tryz.prog cfgCf.tab := (TabOk.cons eIv_ok TabOk.nil)
theorem cv_spec (vs : List Val) : Does Tryz.prog 50 [.l .val vs, .c (.fn (.func 51) [] [])] [] (.x (.b (vs.any fun v => !vR v))) [] := by
  refine Does.go (cfg := cfgCf) cfgCf_ok Tryz.func50 (by kernel_rfl) (by kernel_rfl) (t := (.ret (.p (.bool (decide (firstAt (fun v => !vR v) vs (0 : Int) ≥ (0 : Int))))) [])) (by kernel_rfl) fun Γ => ⟨?_, rfl⟩
  rw [firstAt_any _ _ _ (by omega)]
def eCv : Nat × (List SX → List Chunk → Option (Option Prop × SV × List Chunk)) := (50, fun
  | [.c (.pd (.lst .val vs)), .c (.fn (.func 51) [] [])], [] => some (none, .x (.c (.pd (.bool (vs.any fun v => !vR v)))), [])
  | _, _ => none)
theorem eCv_ok (vs : List SX) (ck : List Chunk) (p : Option Prop) (ret : SV) (ck' : List Chunk) (h : eCv.2 vs ck = some (p, ret, ck')) (hp : Holds p) : Does Tryz.prog eCv.1 vs ck ret ck' := by
  unfold eCv at h
  simp only at h
  split at h
  · rename_i vs
    simp only [Option.some.injEq, Prod.mk.injEq] at h
    obtain ⟨rfl, rfl, rfl⟩ := h
    exact cv_spec vs
  · simp at h

theorem ixe_loop (vs : List Var) (c : Cell) (Γ : Ctx) (hl : vs.length ≤ maxLen) : ∀ (n k : Nat), vs.length - k ≤ n → k ≤ vs.length →
    J Tryz.prog 29 (bodyOf Tryz.f29) Γ (Eq2 (.x (.i (firstAt (fun v : Var => v.name == c.name) (vs.drop k) k))) []) [.code [1, 0, 1, 0, 0], .inLoop [1, 0, 1, 0, 0], .inBlock 0, .code [1, 1]] ({ n := 19, fr := [(0, .p (.lst .var vs)), (1, .x (.c (.fn (.func 56) [] [.pd (.ref .cell c 0)]))), (4, .i (0 : Int)), (7, .i (↑(List.length vs) : Int)), (8, .i (k))], ck := [] }) := by
  intro n
  induction n with
  | zero => ?_
  | succ n ih => ?_
  all_goals
    intro k hn hk
    refine J.go (cfg := cfgEo2) cfgEo2_ok Tryz.func29 1000 (t := (.ite (decide ((↑k : Int) < (↑(List.length vs) : Int))) (.need ((0 : Int) ≤ (↑k : Int) ∧ (↑k : Int) < (↑(List.length vs) : Int)) (.ite (Var.name (ETy.get .var vs k) == Cell.name c) (.ret (.i (↑k : Int)) []) (.stop [.code [1, 0, 1, 0, 0], .inLoop [1, 0, 1, 0, 0], .inBlock 0, .code [1, 1]] { n := 19, fr := [(0, .p (.lst .var vs)), (1, .x (.c (.fn (.func 56) [] [.pd (.ref .cell c 0)]))), (4, .i (0 : Int)), (7, .i (↑(List.length vs) : Int)), (8, .i (IntKind.wrap .i64 ((↑k : Int) + (1 : Int))))], ck := [] }))) (.ret (.i (-1 : Int)) []))) (by kernel_rfl) ?_
    refine ⟨fun hlt => ?_, fun hge => ⟨?_, rfl⟩⟩
    · have hk' : k < vs.length := by have := of_decide_eq_true hlt; omega
      rw [drop_get (t := .var) hk']
      refine ⟨by omega, ?_⟩
      generalize ETy.get .var vs k = v
      refine ⟨fun hb => ⟨?_, rfl⟩, fun hb => ?_⟩
      · simp only [firstAt, hb, cond_true]
      · simp only [firstAt, hb, cond_false]
        rw [wrapK (maxLen_lt hk' hl)]
        first
        | (exfalso; omega)
        | exact ih (k + 1) (by omega) (by omega)
    · rw [drop_end (by have := of_decide_eq_false hge; omega)]; rfl
theorem ixe_spec (vs : List Var) (c : Cell) : Does Tryz.prog 29 [.l .var vs, .c (.fn (.func 56) [] [.pd (.ref .cell c 0)])] [] (.x (.i (firstAt (fun v : Var => v.name == c.name) vs 0))) [] := by
  refine Does.go (cfg := cfgEo2) cfgEo2_ok Tryz.func29 (by kernel_rfl) (by kernel_rfl) (t := (.stop [.code [1, 0, 1, 0, 0], .inLoop [1, 0, 1, 0, 0], .inBlock 0, .code [1, 1]] { n := 19, fr := [(0, .p (.lst .var vs)), (1, .x (.c (.fn (.func 56) [] [.pd (.ref .cell c 0)]))), (4, .i (0 : Int)), (7, .i (↑(List.length vs) : Int)), (8, .i (0 : Int))], ck := [] })) (by kernel_rfl) fun Γ => ?_
  exact J.len 0 rfl fun hl => ixe_loop vs c Γ hl vs.length 0 (by omega) (by omega)
def eIxe : Nat × (List SX → List Chunk → Option (Option Prop × SV × List Chunk)) := (29, fun
  | [.c (.pd (.lst .var vs)), .c (.fn (.func 56) [] [.pd (.ref .cell c 0)])], [] => some (none, .x (.c (.pd (.int .i64 (firstAt (fun v : Var => v.name == c.name) vs 0)))), [])
  | _, _ => none)
theorem eIxe_ok (vs : List SX) (ck : List Chunk) (p : Option Prop) (ret : SV) (ck' : List Chunk) (h : eIxe.2 vs ck = some (p, ret, ck')) (hp : Holds p) : Does Tryz.prog eIxe.1 vs ck ret ck' := by
  unfold eIxe at h
  simp only at h
  split at h
  · rename_i vs c
    simp only [Option.some.injEq, Prod.mk.injEq] at h
    obtain ⟨rfl, rfl, rfl⟩ := h
    exact ixe_spec vs c
  · simp at h
end Go.Proofs.YtjndellhebidoaaGreatDoor

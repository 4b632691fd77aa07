/- Contracts: the document's names, operands, right lists. Conditions: none. -/
import Derived.Test.YtgoihhnfkoklpaaTn
namespace Go.Proofs.Ytgoihhnfkoklpaa
open Go Go.Ev
set_option maxRecDepth 100000
/-- one byte refused at place k -/
def refBad (k : Int) (c : UInt8) : Bool :=
  !(decide ((c.toNat : Int) ≥ 97) && decide ((c.toNat : Int) ≤ 122)) && (k == 0 || !(decide ((c.toNat : Int) ≥ 48) && decide ((c.toNat : Int) ≤ 57) || (c.toNat : Int) == 95))
def refShort (s : List UInt8) : Bool := decide (strLen s < 1) || decide (strLen s > 12) || s == [116, 114, 117, 101] || s == [102, 97, 108, 115, 101] || s == [105, 110] || s == [114, 101] || s == [105, 109]
theorem refBad_badB {k : Nat} {c : UInt8} (hk : k ≠ 0) (h : refBad k c = true) : badB c = true := by
  have hk' : ((k : Int) == 0) = false := by simp; omega
  simp only [refBad, hk', Bool.false_or, Bool.and_eq_true, Bool.not_eq_true', Bool.and_eq_false_iff, Bool.or_eq_false_iff, decide_eq_false_iff_not, badB, Bool.or_eq_true, decide_eq_true_eq, bne_iff_ne, beq_eq_false_iff_ne] at *
  omega
theorem not_refBad {k : Nat} {c : UInt8} (h : refBad k c = false) : badB c = false := by
  cases hb : badB c
  · rfl
  · exfalso
    have h' : refBad k c = true := by
      cases hk : ((k : Int) == 0) <;>
      simp only [refBad, hk, Bool.false_or, Bool.true_or, Bool.and_true, Bool.and_eq_true, Bool.not_eq_true', Bool.and_eq_false_iff, Bool.or_eq_false_iff, decide_eq_false_iff_not, badB, Bool.or_eq_true, decide_eq_true_eq, bne_iff_ne, beq_eq_false_iff_ne] at * <;> omega
    rw [h] at h'; cases h'
theorem ref_short {s : List UInt8} (h : refShort s = true) : nameM s = false := by
  simp only [refShort, Bool.or_eq_true, decide_eq_true_eq, beq_iff_eq] at h
  cases hn : nameM s
  · rfl
  · exfalso
    simp only [nameM, name0, words5, Bool.and_eq_true, Bool.not_eq_true', Bool.or_eq_false_iff, decide_eq_false_iff_not, beq_eq_false_iff_ne] at hn
    have hl : s = [] ∨ 1 ≤ strLen s := by cases s <;> simp [strLen]; omega
    rcases h with (((((h | h) | h) | h) | h) | h) | h
    · rcases hl with hl | hl
      · exact hn.1.1.1.1.1 hl
      · omega
    · exact hn.1.1.1.1.2 h
    all_goals first | exact hn.2.1.1.1.1 h | exact hn.2.1.1.1.2 h | exact hn.2.1.1.2 h | exact hn.2.1.2 h | exact hn.2.2 h


theorem ref_name_loop (s : Str) (Γ : Ctx) (h0 : refShort s = false) : ∀ (n k : Nat), s.length - k ≤ n → k ≤ s.length → (∀ j, j < k → refBad j (s.getD j 0) = false) →
    J Try.prog 32 (bodyOf Try.f32) Γ (Eq2 (.x (.b (nameM s))) []) [PI.code [(1 : Nat), (1 : Nat), (0 : Nat), (1 : Nat), (0 : Nat), (0 : Nat)], PI.inLoop [(1 : Nat), (1 : Nat), (0 : Nat), (1 : Nat), (0 : Nat), (0 : Nat)], PI.inBlock (0 : Nat), PI.code [(1 : Nat), (1 : Nat), (1 : Nat)]] ({ n := (76 : Nat), fr := [(0, SV.x (SX.c (SC.pd (PD.str s)))), (2, SV.x (SX.c (SC.pd (PD.bool false)))), (3, SV.x (SX.c (SC.pd (PD.int IntKind.i64 (k)))))], ck := [], kn := [(2 : Nat)] }) := by
  have hlen : s.length ≤ 12 ∧ 1 ≤ s.length := by
    simp only [refShort, Bool.or_eq_false_iff, decide_eq_false_iff_not, strLen] at h0
    have h1 := of_decide_eq_false h0.1.1.1.1.1.1
    have h2 := of_decide_eq_false h0.1.1.1.1.1.2
    omega
  intro n
  induction n with
  | zero => ?_
  | succ n ih => ?_
  all_goals
    intro k hn hk hb
    refine J.go (cfg := cfg0) cfg0_ok Try.func32 1000 (t := (Tree.ite (decide ((↑k : Int) < strLen s)) (Tree.need ((0 : Int) ≤ (↑k : Int) ∧ (↑k : Int) < strLen s) (Tree.need (decide ((↑(UInt8.toNat (List.getD s k (0 : UInt8))) : Int) ≥ (97 : Int)) = true → (0 : Int) ≤ (↑k : Int) ∧ (↑k : Int) < strLen s) (Tree.need ((0 : Int) ≤ (↑k : Int) ∧ (↑k : Int) < strLen s) (Tree.need (decide ((↑(UInt8.toNat (List.getD s k (0 : UInt8))) : Int) ≥ (48 : Int)) = true → (0 : Int) ≤ (↑k : Int) ∧ (↑k : Int) < strLen s) (Tree.need ((decide ((↑(UInt8.toNat (List.getD s k (0 : UInt8))) : Int) ≥ (48 : Int)) && decide ((↑(UInt8.toNat (List.getD s k (0 : UInt8))) : Int) ≤ (57 : Int))) = false → (0 : Int) ≤ (↑k : Int) ∧ (↑k : Int) < strLen s) (Tree.ite (!(decide ((↑(UInt8.toNat (List.getD s k (0 : UInt8))) : Int) ≥ (97 : Int)) && decide ((↑(UInt8.toNat (List.getD s k (0 : UInt8))) : Int) ≤ (122 : Int))) && ((↑k : Int) == (0 : Int) || !(decide ((↑(UInt8.toNat (List.getD s k (0 : UInt8))) : Int) ≥ (48 : Int)) && decide ((↑(UInt8.toNat (List.getD s k (0 : UInt8))) : Int) ≤ (57 : Int)) || (↑(UInt8.toNat (List.getD s k (0 : UInt8))) : Int) == (95 : Int)))) (Tree.ret (SV.x (SX.c (SC.pd (PD.bool false)))) []) (Tree.stop [PI.code [(1 : Nat), (1 : Nat), (0 : Nat), (1 : Nat), (0 : Nat), (0 : Nat)], PI.inLoop [(1 : Nat), (1 : Nat), (0 : Nat), (1 : Nat), (0 : Nat), (0 : Nat)], PI.inBlock (0 : Nat), PI.code [(1 : Nat), (1 : Nat), (1 : Nat)]] { n := (76 : Nat), fr := [((0 : Nat), SV.x (SX.c (SC.pd (PD.str s)))), ((2 : Nat), SV.x (SX.c (SC.pd (PD.bool false)))), ((3 : Nat), SV.x (SX.c (SC.pd (PD.int IntKind.i64 (IntKind.wrap IntKind.i64 ((↑k : Int) + (1 : Int)))))))], ck := [], kn := [(2 : Nat)] }))))))) (Tree.ret (SV.x (SX.c (SC.pd (PD.bool true)))) []))) (by kernel_rfl) ?_
    have inb : decide ((k : Int) < strLen s) = true → 0 ≤ (k : Int) ∧ (k : Int) < strLen s := fun h => ⟨by omega, of_decide_eq_true h⟩
    refine ⟨fun hlt => ⟨inb hlt, fun _ => inb hlt, inb hlt, fun _ => inb hlt, fun _ => inb hlt, fun hbad => ⟨?_, rfl⟩, fun hok => ?_⟩, fun hge => ⟨?_, rfl⟩⟩
    · have hbad' : refBad k (s.getD k 0) = true := hbad
      have hlt' := of_decide_eq_true hlt
      simp only [strLen] at hlt'
      have e : nameM s = false := by
        by_cases hz : k = 0
        · subst hz
          have : name0 s = true := by
            simp only [refBad, Bool.and_eq_true, Bool.not_eq_true', Bool.and_eq_false_iff, decide_eq_false_iff_not] at hbad'
            simp only [name0, Bool.or_eq_true, decide_eq_true_eq]
            omega
          simp [nameM, this]
        · simp [nameM, any_getD (by omega) (refBad_badB hz hbad')]
      rw [e]
    · have hok' : refBad k (s.getD k 0) = false := hok
      have hlt' := of_decide_eq_true hlt
      simp only [strLen] at hlt'
      first
      | (exfalso; omega)
      | (rw [wrapK (by omega)]
         exact ih (k + 1) (by omega) (by omega) fun j hj => if e : j = k then by rw [e]; exact hok' else hb j (by omega))
    · have hge' := of_decide_eq_false hge
      simp only [strLen] at hge'
      have hany : s.any badB = false := not_any_getD fun j hj => not_refBad (hb j (by omega))
      have h00 := hb 0 (by omega)
      simp only [refBad, Int.ofNat_eq_natCast, Bool.and_eq_false_iff, Bool.not_eq_false', Bool.and_eq_true, decide_eq_true_eq] at h00
      simp only [refShort, Bool.or_eq_false_iff, decide_eq_false_iff_not] at h0
      have hne : (s == []) = false := by cases s with | nil => simp at hlen | cons => rfl
      have hn0 : name0 s = false := by
        simp only [name0, hne, Bool.false_or, Bool.or_eq_false_iff, decide_eq_false_iff_not]
        rcases h00 with h | h
        · refine ⟨⟨by omega, by omega⟩, by omega⟩
        · simp at h
      have hw5 : words5 s = false := by simp [words5, h0]
      simp [nameM, hany, hn0, hw5]
theorem ref_name_spec (s : Str) : Does Try.prog 32 [.s s] [] (.x (.b (nameM s))) [] := by
  refine Does.go (cfg := cfg0) cfg0_ok Try.func32 (by kernel_rfl) (by kernel_rfl) (t := (Tree.ite (decide (strLen s < (1 : Int)) || decide (strLen s > (12 : Int)) || s == [(116 : UInt8), (114 : UInt8), (117 : UInt8), (101 : UInt8)] || s == [(102 : UInt8), (97 : UInt8), (108 : UInt8), (115 : UInt8), (101 : UInt8)] || s == [(105 : UInt8), (110 : UInt8)] || s == [(114 : UInt8), (101 : UInt8)] || s == [(105 : UInt8), (109 : UInt8)]) (Tree.ret (SV.x (SX.c (SC.pd (PD.bool false)))) []) (Tree.stop [PI.code [(1 : Nat), (1 : Nat), (0 : Nat), (1 : Nat), (0 : Nat), (0 : Nat)], PI.inLoop [(1 : Nat), (1 : Nat), (0 : Nat), (1 : Nat), (0 : Nat), (0 : Nat)], PI.inBlock (0 : Nat), PI.code [(1 : Nat), (1 : Nat), (1 : Nat)]] { n := (76 : Nat), fr := [((0 : Nat), SV.x (SX.c (SC.pd (PD.str s)))), ((2 : Nat), SV.x (SX.c (SC.pd (PD.bool false)))), ((3 : Nat), SV.x (SX.c (SC.pd (PD.int IntKind.i64 (0 : Int)))))], ck := [], kn := [(2 : Nat)] }))) (by kernel_rfl) fun Γ => ?_
  refine ⟨fun h => ⟨?_, rfl⟩, fun h => ?_⟩
  · rw [ref_short h]
  · exact ref_name_loop s Γ h s.length 0 (by omega) (by omega) (fun j hj => by omega)
def eRnm : Nat × (List SX → List Chunk → Option (Option Prop × SV × List Chunk)) := (32, fun
  | [.c (.pd (.str s))], [] => some (none, .x (.c (.pd (.bool (nameM s)))), [])
  | _, _ => none)
theorem eRnm_ok (vs : List SX) (ck : List Chunk) (p : Option Prop) (ret : SV) (ck' : List Chunk) (h : eRnm.2 vs ck = some (p, ret, ck')) (hp : Holds p) : Does Try.prog eRnm.1 vs ck ret ck' := by
  unfold eRnm at h
  simp only at h
  split at h
  · rename_i s
    simp only [Option.some.injEq, Prod.mk.injEq] at h
    obtain ⟨rfl, rfl, rfl⟩ := h
    exact ref_name_spec s
  · simp at h
def cfgRnm : Cfg := ⟨tys0, [eRnm]⟩
theorem cfgRnm_ok : TabOk Try.prog cfgRnm.tab := (TabOk.cons eRnm_ok TabOk.nil)
theorem operands_eq (op a : Int) (s : List UInt8) :
    (bif (!((op == 5 || op == 6) == decide (strLen s > 0)) || (op == 5 || op == 6) && !nameM s || !(op == 1 || op == 2) && a != 0 || decide (a < 0)) then (-1 : Int)
      else bif (op == 1 && decide (a > 1099511627776) || op == 2 && decide (a > 1048576) || decide (op < 1) || decide (op > 23)) then -1
      else bif decide (op ≤ 6) then 0 else bif decide (op ≤ 10) then 1 else 2) = wantsM op a s := by
  have hs : decide (strLen s > 0) = !(s == []) := by cases s <;> simp [strLen]
  rw [hs]
  have hn : (s == []) = true → nameM s = false := by intro h; have : s = [] := by simpa using h
                                                     subst this; rfl
  unfold wantsM
  generalize hx : (s == []) = x at *
  generalize nameM s = y at *
  by_cases h1 : op = 1
  · subst h1
    cases x <;> simp [cond_eq_ite] <;> (repeat' split) <;> omega
  · by_cases h2 : op = 2
    · subst h2
      cases x <;> simp [cond_eq_ite] <;> (repeat' split) <;> omega
    · by_cases h5 : op = 5
      · subst h5
        cases x <;> cases y <;> simp_all [cond_eq_ite] <;> (repeat' split) <;> omega
      · by_cases h6 : op = 6
        · subst h6
          cases x <;> cases y <;> simp_all [cond_eq_ite] <;> (repeat' split) <;> omega
        · cases x <;> simp_all [cond_eq_ite] <;> (repeat' split) <;> omega
theorem operands_spec (op a : Int) (s : Str) : Does Try.prog 18 [.agg [.i op, .i a, .pd (.str s)]] [] (.x (.i (wantsM op a s))) [] := by
  rw [← operands_eq]
  refine Does.go (cfg := cfgRnm) cfgRnm_ok Try.func18 (by kernel_rfl) (by kernel_rfl) (t := (Tree.ite (!(op == (5 : Int) || op == (6 : Int)) == decide (strLen s > (0 : Int)) || (op == (5 : Int) || op == (6 : Int)) && !nameM s || !(op == (1 : Int) || op == (2 : Int)) && a != (0 : Int) || decide (a < (0 : Int))) (Tree.ret (SV.x (SX.c (SC.pd (PD.int IntKind.i64 (-1 : Int))))) []) (Tree.ite (op == (1 : Int) && decide (a > (1099511627776 : Int)) || op == (2 : Int) && decide (a > (1048576 : Int)) || decide (op < (1 : Int)) || decide (op > (23 : Int))) (Tree.ret (SV.x (SX.c (SC.pd (PD.int IntKind.i64 (-1 : Int))))) []) (Tree.ite (decide (op ≤ (6 : Int))) (Tree.ret (SV.x (SX.c (SC.pd (PD.int IntKind.i64 (0 : Int))))) []) (Tree.ite (decide (op ≤ (10 : Int))) (Tree.ret (SV.x (SX.c (SC.pd (PD.int IntKind.i64 (1 : Int))))) []) (Tree.ret (SV.x (SX.c (SC.pd (PD.int IntKind.i64 (2 : Int))))) [])))))) (by kernel_rfl) fun Γ => ?_
  refine ⟨fun h => ?_, fun h => ⟨fun h1 => ?_, fun h1 => ⟨fun h2 => ?_, fun h2 => ⟨fun h3 => ?_, fun h3 => ?_⟩⟩⟩⟩
  all_goals
    refine ⟨?_, rfl⟩
    simp only [*, cond_true, cond_false]
def eRop : Nat × (List SX → List Chunk → Option (Option Prop × SV × List Chunk)) := (18, fun
  | [.agg [.pd (.int .i64 op), .pd (.int .i64 a), .pd (.str s)]], [] => some (none, .x (.c (.pd (.int .i64 (wantsM op a s)))), [])
  | _, _ => none)
theorem eRop_ok (vs : List SX) (ck : List Chunk) (p : Option Prop) (ret : SV) (ck' : List Chunk) (h : eRop.2 vs ck = some (p, ret, ck')) (hp : Holds p) : Does Try.prog eRop.1 vs ck ret ck' := by
  unfold eRop at h
  simp only at h
  split at h
  · rename_i op a s
    simp only [Option.some.injEq, Prod.mk.injEq] at h
    obtain ⟨rfl, rfl, rfl⟩ := h
    exact operands_spec op a s
  · simp at h
def cfgRop : Cfg := ⟨tys0, [eRop]⟩
theorem cfgRop_ok : TabOk Try.prog cfgRop.tab := (TabOk.cons eRop_ok TabOk.nil)

theorem ref_right_loop (l : List Cell) (Γ : Ctx) : ∀ (n k : Nat) (m : Int), 33 - k ≤ n → k ≤ l.length → k ≤ 32 → 0 ≤ m → m ≤ k →
    J Try.prog 20 (bodyOf Try.f20) Γ (Eq2 (.x (.b (!decide ((l.length : Int) > 32) && rightGo (l.drop k) m))) []) [PI.code [(1 : Nat), (1 : Nat), (0 : Nat), (1 : Nat), (0 : Nat), (0 : Nat)], PI.inLoop [(1 : Nat), (1 : Nat), (0 : Nat), (1 : Nat), (0 : Nat), (0 : Nat)], PI.inBlock (0 : Nat), PI.code [(1 : Nat), (1 : Nat), (1 : Nat)]] ({ n := (34 : Nat), fr := [(0, SV.x (SX.c (SC.pd (PD.lst ETy.cell l)))), (2, SV.x (SX.c (SC.pd (PD.bool false)))), (3, SV.x (SX.c (SC.pd (PD.int IntKind.i64 (m))))), (4, SV.x (SX.c (SC.pd (PD.int IntKind.i64 (k)))))], ck := [], kn := [(2 : Nat)] }) := by
  intro n
  induction n with
  | zero => intro k m h1 h2 h3; omega
  | succ n ih => ?_
  intro k m hn hk hk32 hm0 hm
  refine J.go (cfg := cfgRop) cfgRop_ok Try.func20 1000 (t := (Tree.ite (decide ((↑k : Int) < (↑(List.length l) : Int))) (Tree.need ((0 : Int) ≤ (↑k : Int) ∧ (↑k : Int) < (↑(List.length l) : Int)) (Tree.ite (decide (wantsM (Cell.op (ETy.get ETy.cell l k)) (Cell.a (ETy.get ETy.cell l k)) (Cell.name (ETy.get ETy.cell l k)) < (0 : Int)) || decide (m < wantsM (Cell.op (ETy.get ETy.cell l k)) (Cell.a (ETy.get ETy.cell l k)) (Cell.name (ETy.get ETy.cell l k))) || decide ((↑k : Int) ≥ (32 : Int))) (Tree.ret (SV.x (SX.c (SC.pd (PD.bool false)))) []) (Tree.stop [PI.code [(1 : Nat), (1 : Nat), (0 : Nat), (1 : Nat), (0 : Nat), (0 : Nat)], PI.inLoop [(1 : Nat), (1 : Nat), (0 : Nat), (1 : Nat), (0 : Nat), (0 : Nat)], PI.inBlock (0 : Nat), PI.code [(1 : Nat), (1 : Nat), (1 : Nat)]] { n := (34 : Nat), fr := [((0 : Nat), SV.x (SX.c (SC.pd (PD.lst ETy.cell l)))), ((2 : Nat), SV.x (SX.c (SC.pd (PD.bool false)))), ((3 : Nat), SV.x (SX.c (SC.pd (PD.int IntKind.i64 (IntKind.wrap IntKind.i64 (IntKind.wrap IntKind.i64 (m - wantsM (Cell.op (ETy.get ETy.cell l k)) (Cell.a (ETy.get ETy.cell l k)) (Cell.name (ETy.get ETy.cell l k))) + (1 : Int))))))), ((4 : Nat), SV.x (SX.c (SC.pd (PD.int IntKind.i64 (IntKind.wrap IntKind.i64 ((↑k : Int) + (1 : Int)))))))], ck := [], kn := [(2 : Nat)] }))) (Tree.ret (SV.x (SX.c (SC.pd (PD.bool (m == (1 : Int)))))) []))) (by kernel_rfl) ?_
  refine ⟨fun hlt => ?_, fun hge => ⟨?_, rfl⟩⟩
  · have hk' : k < l.length := by have := of_decide_eq_true hlt; omega
    refine ⟨⟨by omega, by omega⟩, ?_⟩
    rw [drop_get (t := .cell) hk']
    generalize ETy.get .cell l k = c
    refine ⟨fun h => ⟨?_, rfl⟩, fun h => ?_⟩
    · have h' : (decide (wantsC c < 0) || decide (m < wantsC c) || decide ((k : Int) ≥ 32)) = true := h
      simp only [Bool.or_eq_true] at h'
      have e : (!decide ((l.length : Int) > 32) && rightGo (c :: l.drop (k + 1)) m) = false := by
        rcases h' with h | h
        · have h' : (decide (wantsC c < 0) || decide (wantsC c > m)) = true := by
            rcases h with h | h
            · rw [h]; rfl
            · have : decide (wantsC c > m) = true := h
              rw [this, Bool.or_true]
          simp only [rightGo, h', cond_true, Bool.and_false]
        · have : decide ((l.length : Int) > 32) = true := decide_eq_true (by have := of_decide_eq_true h; omega)
          rw [this]; rfl
      rw [e]
    · have h' : (decide (wantsC c < 0) || decide (m < wantsC c) || decide ((k : Int) ≥ 32)) = false := h
      simp only [Bool.or_eq_false_iff] at h'
      have h1 := of_decide_eq_false h'.1.1
      have h2 := of_decide_eq_false h'.1.2
      have h3 := of_decide_eq_false h'.2
      show J Try.prog 20 (bodyOf Try.f20) Γ _ [PI.code [(1 : Nat), (1 : Nat), (0 : Nat), (1 : Nat), (0 : Nat), (0 : Nat)], PI.inLoop [(1 : Nat), (1 : Nat), (0 : Nat), (1 : Nat), (0 : Nat), (0 : Nat)], PI.inBlock (0 : Nat), PI.code [(1 : Nat), (1 : Nat), (1 : Nat)]] ({ n := (34 : Nat), fr := [(0, SV.x (SX.c (SC.pd (PD.lst ETy.cell l)))), (2, SV.x (SX.c (SC.pd (PD.bool false)))), (3, SV.x (SX.c (SC.pd (PD.int IntKind.i64 (IntKind.wrap .i64 (IntKind.wrap .i64 (m - wantsC c) + 1)))))), (4, SV.x (SX.c (SC.pd (PD.int IntKind.i64 (IntKind.wrap IntKind.i64 ((↑k : Int) + (1 : Int)))))))], ck := [], kn := [(2 : Nat)] })
      have e1 : IntKind.wrap IntKind.i64 (IntKind.wrap IntKind.i64 (m - wantsC c) + 1) = m + (1 - wantsC c) := by
        rw [wrapI (n := m - _) (by omega) (by omega), wrapI (by omega) (by omega)]; omega
      have e2 : rightGo (c :: l.drop (k + 1)) m = rightGo (l.drop (k + 1)) (m + (1 - wantsC c)) := by
        have hb' : (decide (wantsC c < 0) || decide (wantsC c > m)) = false := by
          rw [Bool.or_eq_false_iff]; exact ⟨decide_eq_false h1, decide_eq_false (by omega)⟩
        simp only [rightGo, hb', cond_false]
      rw [e1, e2, wrapK (by omega)]
      exact ih (k + 1) (m + (1 - wantsC c)) (by omega) (by omega) (by omega) (by omega) (by omega)
  · have h2 := of_decide_eq_false hge
    rw [drop_end (by omega), rightGo, show decide ((l.length : Int) > 32) = false from decide_eq_false (by omega)]; rfl
theorem ref_right_spec (l : List Cell) : Does Try.prog 20 [.l .cell l] [] (.x (.b (rightM l))) [] := by
  refine Does.go (cfg := cfgRop) cfgRop_ok Try.func20 (by kernel_rfl) (by kernel_rfl) (t := (Tree.stop [PI.code [(1 : Nat), (1 : Nat), (0 : Nat), (1 : Nat), (0 : Nat), (0 : Nat)], PI.inLoop [(1 : Nat), (1 : Nat), (0 : Nat), (1 : Nat), (0 : Nat), (0 : Nat)], PI.inBlock (0 : Nat), PI.code [(1 : Nat), (1 : Nat), (1 : Nat)]] { n := (34 : Nat), fr := [((0 : Nat), SV.x (SX.c (SC.pd (PD.lst ETy.cell l)))), ((2 : Nat), SV.x (SX.c (SC.pd (PD.bool false)))), ((3 : Nat), SV.x (SX.c (SC.pd (PD.int IntKind.i64 (0 : Int))))), ((4 : Nat), SV.x (SX.c (SC.pd (PD.int IntKind.i64 (0 : Int)))))], ck := [], kn := [(2 : Nat)] })) (by kernel_rfl) fun Γ => ?_
  exact ref_right_loop l Γ 33 0 0 (by omega) (by omega) (by omega) (by omega) (by omega)
def eRright : Nat × (List SX → List Chunk → Option (Option Prop × SV × List Chunk)) := (20, fun
  | [.c (.pd (.lst .cell l))], [] => some (none, .x (.c (.pd (.bool (rightM l)))), [])
  | _, _ => none)
theorem eRright_ok (vs : List SX) (ck : List Chunk) (p : Option Prop) (ret : SV) (ck' : List Chunk) (h : eRright.2 vs ck = some (p, ret, ck')) (hp : Holds p) : Does Try.prog eRright.1 vs ck ret ck' := by
  unfold eRright at h
  simp only at h
  split at h
  · rename_i l
    simp only [Option.some.injEq, Prod.mk.injEq] at h
    obtain ⟨rfl, rfl, rfl⟩ := h
    exact ref_right_spec l
  · simp at h
end Go.Proofs.Ytgoihhnfkoklpaa

/- Contracts: the document's names and lists. Conditions: none. -/
import Derived.Test.YtgoihhnfkoklpaaFnG
namespace Go.Proofs.Ytgoihhnfkoklpaa
open Go Go.Sy
set_option maxRecDepth 100000
/-- one byte refused at place k -/
def refBad (k : Int) (c : UInt8) : Bool :=
  !(decide ((c.toNat : Int) ≥ 97) && decide ((c.toNat : Int) ≤ 122)) && (k == 0 || !(decide ((c.toNat : Int) ≥ 48) && decide ((c.toNat : Int) ≤ 57) || (c.toNat : Int) == 95))
def refShort (s : List UInt8) : Bool := decide (strLen s < 1) || decide (strLen s > 12) || s == [116, 114, 117, 101] || s == [102, 97, 108, 115, 101] || s == [105, 110] || s == [114, 101] || s == [105, 109]
theorem refBad_badB {k : Nat} {c : UInt8} (hk : k ≠ 0) (h : refBad k c = true) : badB c = true := by
  have hk' : ((k : Int) == 0) = false := by simp; omega
  simp only [refBad, hk', Bool.false_or, Bool.and_eq_true, Bool.not_eq_true', Bool.and_eq_false_iff, Bool.or_eq_false_iff, decide_eq_false_iff_not, badB, Bool.or_eq_true, decide_eq_true_eq, bne_iff_ne, beq_eq_false_iff_ne] at *
  omega
theorem not_refBad {k : Nat} {c : UInt8} (h : refBad k c = false) : badB c = false := by
  cases hb : badB c
  · rfl
  · exfalso
    have h' : refBad k c = true := by
      cases hk : ((k : Int) == 0) <;>
      simp only [refBad, hk, Bool.false_or, Bool.true_or, Bool.and_true, Bool.and_eq_true, Bool.not_eq_true', Bool.and_eq_false_iff, Bool.or_eq_false_iff, decide_eq_false_iff_not, badB, Bool.or_eq_true, decide_eq_true_eq, bne_iff_ne, beq_eq_false_iff_ne] at * <;> omega
    rw [h] at h'; cases h'
theorem ref_short {s : List UInt8} (h : refShort s = true) : nameM s = false := by
  simp only [refShort, Bool.or_eq_true, decide_eq_true_eq, beq_iff_eq] at h
  cases hn : nameM s
  · rfl
  · exfalso
    simp only [nameM, name0, words5, Bool.and_eq_true, Bool.not_eq_true', Bool.or_eq_false_iff, decide_eq_false_iff_not, beq_eq_false_iff_ne] at hn
    have hl : s = [] ∨ 1 ≤ strLen s := by cases s <;> simp [strLen]; omega
    rcases h with (((((h | h) | h) | h) | h) | h) | h
    · rcases hl with hl | hl
      · exact hn.1.1.1.1.1 hl
      · omega
    · exact hn.1.1.1.1.2 h
    all_goals first | exact hn.2.1.1.1.1 h | exact hn.2.1.1.1.2 h | exact hn.2.1.1.2 h | exact hn.2.1.2 h | exact hn.2.2 h


theorem ref_name_loop (s : List UInt8) (w0 : World) (H : Mem) (h0 : refShort s = false) : ∀ (n k : Nat), s.length - k ≤ n → k ≤ s.length → (∀ j, j < k → refBad j (s.getD j 0) = false) →
    J Try.prog 32 (bodyOf Try.f32) (R0 w0 (.bool (nameM s))) w0 H [PI.code [(1 : Nat), (1 : Nat), (0 : Nat), (1 : Nat), (0 : Nat), (0 : Nat)], PI.inLoop [(1 : Nat), (1 : Nat), (0 : Nat), (1 : Nat), (0 : Nat), (0 : Nat)], PI.inBlock (0 : Nat), PI.code [(1 : Nat), (1 : Nat), (1 : Nat)]] ({ n := (76 : Nat), fr := [(0, SV.c (SC.val (Value.string (bs s)))), (2, SV.c (SC.val (Value.bool false))), (3, SV.c (SC.val (Value.int IntKind.i64 (k))))], ck := [], kn := [(2 : Nat)] }) := by
  have hlen : s.length ≤ 12 ∧ 1 ≤ s.length := by
    simp only [refShort, Bool.or_eq_false_iff, decide_eq_false_iff_not, strLen] at h0
    have h1 := of_decide_eq_false h0.1.1.1.1.1.1
    have h2 := of_decide_eq_false h0.1.1.1.1.1.2
    omega
  intro n
  induction n with
  | zero => ?_
  | succ n ih => ?_
  all_goals
    intro k hn hk hb
    refine J.go TabOk.nil Try.func32 1000 (t := (Tree.ite (decide ((↑k : Int) < strLen s)) (Tree.need ((0 : Int) ≤ (↑k : Int) ∧ (↑k : Int) < strLen s) (Tree.need (decide ((↑(UInt8.toNat (List.getD s k (0 : UInt8))) : Int) ≥ (97 : Int)) = true → (0 : Int) ≤ (↑k : Int) ∧ (↑k : Int) < strLen s) (Tree.need ((0 : Int) ≤ (↑k : Int) ∧ (↑k : Int) < strLen s) (Tree.need (decide ((↑(UInt8.toNat (List.getD s k (0 : UInt8))) : Int) ≥ (48 : Int)) = true → (0 : Int) ≤ (↑k : Int) ∧ (↑k : Int) < strLen s) (Tree.need ((decide ((↑(UInt8.toNat (List.getD s k (0 : UInt8))) : Int) ≥ (48 : Int)) && decide ((↑(UInt8.toNat (List.getD s k (0 : UInt8))) : Int) ≤ (57 : Int))) = false → (0 : Int) ≤ (↑k : Int) ∧ (↑k : Int) < strLen s) (Tree.ite (!(decide ((↑(UInt8.toNat (List.getD s k (0 : UInt8))) : Int) ≥ (97 : Int)) && decide ((↑(UInt8.toNat (List.getD s k (0 : UInt8))) : Int) ≤ (122 : Int))) && ((↑k : Int) == (0 : Int) || !(decide ((↑(UInt8.toNat (List.getD s k (0 : UInt8))) : Int) ≥ (48 : Int)) && decide ((↑(UInt8.toNat (List.getD s k (0 : UInt8))) : Int) ≤ (57 : Int)) || (↑(UInt8.toNat (List.getD s k (0 : UInt8))) : Int) == (95 : Int)))) (Tree.ret (SV.c (SC.val (Value.bool false))) { n := (76 : Nat), fr := [], ck := [] }) (Tree.stop [PI.code [(1 : Nat), (1 : Nat), (0 : Nat), (1 : Nat), (0 : Nat), (0 : Nat)], PI.inLoop [(1 : Nat), (1 : Nat), (0 : Nat), (1 : Nat), (0 : Nat), (0 : Nat)], PI.inBlock (0 : Nat), PI.code [(1 : Nat), (1 : Nat), (1 : Nat)]] { n := (76 : Nat), fr := [((0 : Nat), SV.c (SC.val (Value.string (bs s)))), ((2 : Nat), SV.c (SC.val (Value.bool false))), ((3 : Nat), SV.c (SC.val (Value.int IntKind.i64 (IntKind.wrap IntKind.i64 ((↑k : Int) + (1 : Int))))))], ck := [], kn := [(2 : Nat)] }))))))) (Tree.ret (SV.c (SC.val (Value.bool true))) { n := (76 : Nat), fr := [], ck := [] }))) (by kernel_rfl) ?_
    have inb : decide ((k : Int) < strLen s) = true → 0 ≤ (k : Int) ∧ (k : Int) < strLen s := fun h => ⟨by omega, of_decide_eq_true h⟩
    refine ⟨fun hlt => ⟨inb hlt, fun _ => inb hlt, inb hlt, fun _ => inb hlt, fun _ => inb hlt, fun hbad => Tree.J.val ?_, fun hok => ?_⟩, fun hge => Tree.J.val ?_⟩
    · have hbad' : refBad k (s.getD k 0) = true := hbad
      have hlt' := of_decide_eq_true hlt
      simp only [strLen] at hlt'
      have e : nameM s = false := by
        by_cases hz : k = 0
        · subst hz
          have : name0 s = true := by
            simp only [refBad, Bool.and_eq_true, Bool.not_eq_true', Bool.and_eq_false_iff, decide_eq_false_iff_not] at hbad'
            simp only [name0, Bool.or_eq_true, decide_eq_true_eq]
            omega
          simp [nameM, this]
        · simp [nameM, any_getD (by omega) (refBad_badB hz hbad')]
      rw [e]
    · have hok' : refBad k (s.getD k 0) = false := hok
      have hlt' := of_decide_eq_true hlt
      simp only [strLen] at hlt'
      first
      | (exfalso; omega)
      | (rw [wrapK (by omega)]
         exact ih (k + 1) (by omega) (by omega) fun j hj => if e : j = k then by rw [e]; exact hok' else hb j (by omega))
    · have hge' := of_decide_eq_false hge
      simp only [strLen] at hge'
      have hany : s.any badB = false := not_any_getD fun j hj => not_refBad (hb j (by omega))
      have h00 := hb 0 (by omega)
      simp only [refBad, Int.ofNat_eq_natCast, Bool.and_eq_false_iff, Bool.not_eq_false', Bool.and_eq_true, decide_eq_true_eq] at h00
      simp only [refShort, Bool.or_eq_false_iff, decide_eq_false_iff_not] at h0
      have hne : (s == []) = false := by cases s with | nil => simp at hlen | cons => rfl
      have hn0 : name0 s = false := by
        simp only [name0, hne, Bool.false_or, Bool.or_eq_false_iff, decide_eq_false_iff_not]
        rcases h00 with h | h
        · refine ⟨⟨by omega, by omega⟩, by omega⟩
        · simp at h
      have hw5 : words5 s = false := by simp [words5, h0]
      simp [nameM, hany, hn0, hw5]
theorem ref_name_pure (s : List UInt8) : PureC Try.prog 32 [.string (bs s)] (.bool (nameM s)) := by
  refine (Spec0.of (H := fun _ => none) Try.func32 (body_some (by kernel_rfl)) (by kernel_rfl) fun w0 => ?_).pure
  refine J.go TabOk.nil Try.func32 1000 (t := (Tree.ite (decide (strLen s < (1 : Int)) || decide (strLen s > (12 : Int)) || s == [(116 : UInt8), (114 : UInt8), (117 : UInt8), (101 : UInt8)] || s == [(102 : UInt8), (97 : UInt8), (108 : UInt8), (115 : UInt8), (101 : UInt8)] || s == [(105 : UInt8), (110 : UInt8)] || s == [(114 : UInt8), (101 : UInt8)] || s == [(105 : UInt8), (109 : UInt8)]) (Tree.ret (SV.c (SC.val (Value.bool false))) { n := (76 : Nat), fr := [], ck := [] }) (Tree.stop [PI.code [(1 : Nat), (1 : Nat), (0 : Nat), (1 : Nat), (0 : Nat), (0 : Nat)], PI.inLoop [(1 : Nat), (1 : Nat), (0 : Nat), (1 : Nat), (0 : Nat), (0 : Nat)], PI.inBlock (0 : Nat), PI.code [(1 : Nat), (1 : Nat), (1 : Nat)]] { n := (76 : Nat), fr := [((0 : Nat), SV.c (SC.val (Value.string (bs s)))), ((2 : Nat), SV.c (SC.val (Value.bool false))), ((3 : Nat), SV.c (SC.val (Value.int IntKind.i64 (0 : Int))))], ck := [], kn := [(2 : Nat)] }))) (by kernel_rfl) ?_
  refine ⟨fun h => Tree.J.val ?_, fun h => ?_⟩
  · rw [ref_short h]
  · exact ref_name_loop s w0 _ h s.length 0 (by omega) (by omega) (fun j hj => by omega)
def tabRefName : Tab := [(32, fun | [.string s] => some (none, .bool (nameM s.data.toList)) | _ => none)]
theorem tabRefName_ok : TabOk Try.prog tabRefName := by
  refine TabOk.cons (fun vs p v h _ => ?_) TabOk.nil
  split at h
  · rename_i s
    simp only [Option.some.injEq, Prod.mk.injEq] at h
    obtain ⟨_, rfl⟩ := h
    rw [← bs_eta s, bs_toList]
    exact ref_name_pure _
  · simp at h
end Go.Proofs.Ytgoihhnfkoklpaa

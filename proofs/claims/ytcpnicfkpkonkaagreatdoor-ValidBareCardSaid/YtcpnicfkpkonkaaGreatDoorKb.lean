/- Contracts: lines parted into words. Conditions: texts of at most 2^21 bytes. -/
import Derived.Test.YtcpnicfkpkonkaaGreatDoorTa
import Derived.Test.YtcpnicfkpkonkaaGreatDoorProg
import Derived.Shelf.LaysM
import Derived.Shelf.Strconv.Itoa4
import Derived.Lib.AppendIntMem
namespace Go.Proofs.YtcpnicfkpkonkaaGreatDoor
open Go Go.Ev
set_option maxRecDepth 100000
/-! ### plain -/
def good (c : UInt8) : Bool := decide ((c.toNat : Int) > 32) && decide ((c.toNat : Int) < 127)
def validW (w : Str) : Bool := !(w == []) && w.all good
def splitGo : Str → List UInt8 → List Str
  | cur, [] => [cur]
  | cur, c :: r => bif (c.toNat : Int) == 32 then cur :: splitGo [] r else splitGo (cur ++ [c]) r
def leadB : List UInt8 → Nat
  | [] => 0
  | c :: r => bif (c.toNat : Int) == 32 then leadB r + 1 else 0
def lineW (s : Str) : List Str := splitGo [] (s.drop (leadB s))
def lineOk (s : Str) : Bool := (lineW s).all validW
theorem bad_split : ∀ (rest : List UInt8) (cur : Str), cur.all good = false → (splitGo cur rest).all validW = false
  | [], cur, h => by simp [splitGo, validW, h]
  | c :: r, cur, h => by
    unfold splitGo
    cases ((c.toNat : Int) == 32)
    · simp only [cond_false]
      exact bad_split r (cur ++ [c]) (by rw [List.all_append, h]; rfl)
    · simp only [cond_true, List.all_cons, validW, h, Bool.and_false, Bool.false_and]
theorem nil_split (c : UInt8) (rest : List UInt8) (h : good c = false) : (splitGo [] (c :: rest)).all validW = false := by
  unfold splitGo
  cases ((c.toNat : Int) == 32)
  · simp only [cond_false]
    exact bad_split rest ([] ++ [c]) (by simp [h])
  · simp [validW]
theorem good_not {c : UInt8} (h : good c = true) : ((c.toNat : Int) == 32) = false := by
  simp only [good, Bool.and_eq_true, decide_eq_true_eq] at h
  simp; omega
/-! ### the program's line -/
def LineQ (d : Int) (W : List Str) : Out := fun v ck => (W.all validW = true → v = .tup [.i d, .c (.own 0), .i 0] ∧ ck = [.own 9 .str W]) ∧ (W.all validW = false → v = .tup [.i 0, .c (.pd (.v (.slice none 0 0))), .i 1] ∧ ck = [])
theorem LineQ.ok {d : Int} {W : List Str} (h : W.all validW = true) : LineQ d W (.tup [.i d, .c (.own 0), .i 0]) [.own 9 .str W] := ⟨fun _ => ⟨rfl, rfl⟩, fun h' => by rw [h] at h'; cases h'⟩
theorem LineQ.bad {d : Int} {W : List Str} (h : W.all validW = false) : LineQ d W (.tup [.i 0, .c (.pd (.v (.slice none 0 0))), .i 1]) [] := ⟨fun h' => (by rw [h] at h'; cases h'), fun _ => ⟨rfl, rfl⟩⟩
theorem room_str {n : Nat} (h : n ≤ 3000000) : room n 16 := by unfold room maxLen; omega


theorem word_loop (s : Str) (Γ : Ctx) (W : List Str) (d : Int) (hs : s.length ≤ 2097152) : ∀ (n k f : Nat) (out : List Str), s.length - k ≤ n → k ≤ s.length → f ≤ k → out.length ≤ f → out.all validW = true → (seg s f k).all good = true → out ++ splitGo (seg s f k) (s.drop k) = W →
    J Tryz.prog 63 (bodyOf Tryz.f63) Γ (LineQ d W) [.code [1, 0, 3], .inScope [1, 0]] ({ n := 64, fr := [(0, .p (.str s)), (2, .i (0 : Int)), (3, .p (.v (Value.slice none 0 0))), (4, .i (0 : Int)), (5, .i ((k : Int))), (8, .x (.c (.own 0))), (6, .i (d)), (7, .i ((f : Int)))], ck := [.own 9 .str out] }) := by
  intro n
  induction n with
  | zero => ?_
  | succ n ih => ?_
  all_goals
    intro k f out hn hk hf hlen hout hseg hW
    refine J.go (cfg := cfg0) cfg0_ok Tryz.func63 1000 (t := (.need (decide ((↑k : Int) < strLen s) = true → (0 : Int) ≤ (↑k : Int) ∧ (↑k : Int) < strLen s) (.need ((decide ((↑k : Int) < strLen s) && decide ((↑(UInt8.toNat (List.getD s k (0 : UInt8))) : Int) > (32 : Int))) = true → (0 : Int) ≤ (↑k : Int) ∧ (↑k : Int) < strLen s) (.ite (decide ((↑k : Int) < strLen s) && decide ((↑(UInt8.toNat (List.getD s k (0 : UInt8))) : Int) > (32 : Int)) && decide ((↑(UInt8.toNat (List.getD s k (0 : UInt8))) : Int) < (127 : Int))) (.stop [.code [1, 0, 3], .inScope [1, 0]] { n := 64, fr := [(0, .p (.str s)), (2, .i (0 : Int)), (3, .p (.v (Value.slice none 0 0))), (4, .i (0 : Int)), (5, .i (IntKind.wrap .i64 ((↑k : Int) + (1 : Int)))), (8, .x (.c (.own 0))), (6, .i d), (7, .i (↑f : Int))], ck := [.own 9 .str out] }) (.ite ((↑k : Int) == (↑f : Int)) (.ret (.tup [.i (0 : Int), .p (.v (Value.slice none 0 0)), .i (1 : Int)]) []) (.need ((0 : Int) ≤ (↑f : Int) ∧ (↑f : Int) ≤ (↑k : Int) ∧ (↑k : Int) ≤ (↑(List.length s) : Int)) (.need (room (List.length (out ++ [Prod.snd (cutL s (some (↑f : Int)) (some (↑k : Int)))])) 16) (.ite ((↑k : Int) == strLen s) (.ret (.tup [.i d, .c (.own 0), .i (0 : Int)]) [.own 9 .str (out ++ [Prod.snd (cutL s (some (↑f : Int)) (some (↑k : Int)))])]) (.need ((0 : Int) ≤ (↑k : Int) ∧ (↑k : Int) < strLen s) (.ite ((↑(UInt8.toNat (List.getD s k (0 : UInt8))) : Int) != (32 : Int)) (.ret (.tup [.i (0 : Int), .p (.v (Value.slice none 0 0)), .i (1 : Int)]) []) (.stop [.code [1, 0, 3], .inScope [1, 0]] { n := 64, fr := [(0, .p (.str s)), (2, .i (0 : Int)), (3, .p (.v (Value.slice none 0 0))), (4, .i (0 : Int)), (5, .i (IntKind.wrap .i64 ((↑k : Int) + (1 : Int)))), (8, .x (.c (.own 0))), (6, .i d), (7, .i (IntKind.wrap .i64 ((↑k : Int) + (1 : Int))))], ck := [.own 9 .str (out ++ [Prod.snd (cutL s (some (↑f : Int)) (some (↑k : Int)))])] }))))))))))) (by kernel_rfl) ?_
    have hL : strLen s = (s.length : Int) := rfl
    have hcut : (cutL s (some (f : Int)) (some (k : Int))).2 = seg s f k := rfl
    rw [hcut]
    refine ⟨fun h => by have := of_decide_eq_true h; omega, fun h => by simp only [Bool.and_eq_true, decide_eq_true_eq] at h; omega, fun h => ?_, fun h => ?_⟩
    · have h' : k < s.length ∧ good (s.getD k 0) = true := by
        simp only [Bool.and_eq_true, decide_eq_true_eq] at h
        refine ⟨by omega, ?_⟩
        simp only [good, Bool.and_eq_true, decide_eq_true_eq]; exact ⟨h.1.2, h.2⟩
      rw [wrapK (by omega)]
      first
      | (exfalso; omega)
      | refine ih (k + 1) f out (by omega) (by omega) (by omega) hlen hout ?_ ?_
        · rw [seg_succ h'.1 hf, List.all_append, hseg]; simpa using h'.2
        · rw [← hW, drop_byte h'.1, seg_succ h'.1 hf]
          simp only [splitGo, good_not h'.2, cond_false]
    · have hbad : k < s.length → good (s.getD k 0) = false := by
        intro hlt
        cases hg : good (s.getD k 0)
        · rfl
        · simp only [good, Bool.and_eq_true, decide_eq_true_eq] at hg
          have e1 : decide ((k : Int) < strLen s) = true := decide_eq_true (by omega)
          rw [e1, decide_eq_true hg.1, decide_eq_true hg.2] at h
          simp at h
      refine ⟨fun hkf => ?_, fun hkf => ?_⟩
      · have hkf' : k = f := by
          have : (k : Int) = (f : Int) := by simpa using hkf
          omega
        refine LineQ.bad ?_
        rw [← hW, List.all_append, hkf', seg_self]
        have : (splitGo [] (s.drop f)).all validW = false := by
          by_cases hlt : f < s.length
          · rw [drop_byte hlt]; exact nil_split _ _ (by rw [← hkf'] at hlt ⊢; exact hbad hlt)
          · rw [List.drop_eq_nil_iff.2 (by omega)]; rfl
        rw [this, Bool.and_false]
      · have hkf' : f < k := by
          have : (k : Int) ≠ (f : Int) := by simpa using hkf
          omega
        have hv : validW (seg s f k) = true := by
          simp only [validW, hseg, Bool.and_true, Bool.not_eq_true', beq_eq_false_iff_ne]
          exact seg_ne hkf' hk
        have hout2 : (out ++ [seg s f k]).all validW = true := by rw [List.all_append, hout]; simp [hv]
        refine ⟨⟨by omega, by omega, by omega⟩, room_str (by rw [List.length_append]; simp; omega), fun he => ?_, fun he => ⟨?_, fun hb => ?_, fun hb => ?_⟩⟩
        · have he' : k = s.length := by
            have : (k : Int) = strLen s := by simpa using he
            omega
          have eW : W = out ++ [seg s f k] := by rw [← hW, List.drop_eq_nil_iff.2 (by omega)]; rfl
          rw [eW]
          exact LineQ.ok hout2
        · have : (k : Int) ≠ strLen s := by simpa using he
          omega
        · have hlt : k < s.length := by
            have : (k : Int) ≠ strLen s := by simpa using he
            omega
          refine LineQ.bad ?_
          have hb' : (((s.getD k 0).toNat : Int) == 32) = false := by simpa using hb
          rw [← hW, List.all_append, drop_byte hlt]
          have : (splitGo (seg s f k) (s.getD k 0 :: s.drop (k + 1))).all validW = false := by
            simp only [splitGo, hb', cond_false]
            exact bad_split _ _ (by rw [List.all_append, hseg]; simpa using hbad hlt)
          rw [this, Bool.and_false]
        · have hlt : k < s.length := by
            have : (k : Int) ≠ strLen s := by simpa using he
            omega
          have hb' : (((s.getD k 0).toNat : Int) == 32) = true := by simpa using hb
          rw [wrapK (by omega)]
          first
          | (exfalso; omega)
          | refine ih (k + 1) (k + 1) (out ++ [seg s f k]) (by omega) (by omega) (by omega) (by rw [List.length_append]; simp; omega) hout2 (by rw [seg_self]; rfl) ?_
            rw [← hW, drop_byte hlt, seg_self]
            simp only [splitGo, hb', cond_true, List.append_assoc, List.cons_append, List.nil_append]
theorem J.frame {P : Program} {f : FuncId} {root : Code} {Γ : Ctx} {Q : Out} {todo : List PI} {st : ST} {fr' : List (Nat × SV)} (h : ∀ p ∈ fr', p ∈ st.fr) (hk : J P f root Γ Q todo { st with fr := fr' }) : J P f root Γ Q todo st :=
  fun hT V a w r => hk hT V a w (r.weaken h)
theorem ahead_loop (s : Str) (Γ : Ctx) (Q : Out) (hQ : ∀ v ck, LineQ (leadB s : Nat) (lineW s) v ck → Q v ck) (hs : s.length ≤ 2097152) : ∀ (n k : Nat), s.length - k ≤ n → k ≤ s.length → leadB s = k + leadB (s.drop k) →
    J Tryz.prog 63 (bodyOf Tryz.f63) Γ Q [.code [1, 0, 2], .inScope [1, 0]] ({ n := 64, fr := [(0, .p (.str s)), (2, .i (0 : Int)), (3, .p (.v (Value.slice none 0 0))), (4, .i (0 : Int)), (5, .i ((k : Int))), (8, .p (.v (Value.slice none 0 0)))], ck := [] }) := by
  intro n
  induction n with
  | zero => ?_
  | succ n ih => ?_
  all_goals
    intro k hn hk hlead
    refine J.go (cfg := cfg0) cfg0_ok Tryz.func63 1000 (t := (.need (decide ((↑k : Int) < strLen s) = true → (0 : Int) ≤ (↑k : Int) ∧ (↑k : Int) < strLen s) (.ite (decide ((↑k : Int) < strLen s) && (↑(UInt8.toNat (List.getD s k (0 : UInt8))) : Int) == (32 : Int)) (.stop [.code [1, 0, 2], .inScope [1, 0]] { n := 64, fr := [(0, .p (.str s)), (2, .i (0 : Int)), (3, .p (.v (Value.slice none 0 0))), (4, .i (0 : Int)), (5, .i (IntKind.wrap .i64 ((↑k : Int) + (1 : Int)))), (8, .p (.v (Value.slice none 0 0)))], ck := [] }) (.need (decide ((↑k : Int) < strLen s) = true → (0 : Int) ≤ (↑k : Int) ∧ (↑k : Int) < strLen s) (.need ((decide ((↑k : Int) < strLen s) && decide ((↑(UInt8.toNat (List.getD s k (0 : UInt8))) : Int) > (32 : Int))) = true → (0 : Int) ≤ (↑k : Int) ∧ (↑k : Int) < strLen s) (.ite (decide ((↑k : Int) < strLen s) && decide ((↑(UInt8.toNat (List.getD s k (0 : UInt8))) : Int) > (32 : Int)) && decide ((↑(UInt8.toNat (List.getD s k (0 : UInt8))) : Int) < (127 : Int))) (.stop [.code [1, 0, 3], .inScope [1, 0]] { n := 64, fr := [(0, .p (.str s)), (2, .i (0 : Int)), (3, .p (.v (Value.slice none 0 0))), (4, .i (0 : Int)), (5, .i (IntKind.wrap .i64 ((↑k : Int) + (1 : Int)))), (8, .p (.v (Value.slice none 0 0))), (6, .i (↑k : Int)), (7, .i (↑k : Int))], ck := [] }) (.ite ((↑k : Int) == (↑k : Int)) (.ret (.tup [.i (0 : Int), .p (.v (Value.slice none 0 0)), .i (1 : Int)]) []) (.need ((0 : Int) ≤ (↑k : Int) ∧ (↑k : Int) ≤ (↑k : Int) ∧ (↑k : Int) ≤ (↑(List.length s) : Int)) (.need (room (List.length [Prod.snd (cutL s (some (↑k : Int)) (some (↑k : Int)))]) 16) (.ite ((↑k : Int) == strLen s) (.ret (.tup [.i (↑k : Int), .c (.own 0), .i (0 : Int)]) [.own 9 .str [Prod.snd (cutL s (some (↑k : Int)) (some (↑k : Int)))]]) (.need ((0 : Int) ≤ (↑k : Int) ∧ (↑k : Int) < strLen s) (.ite ((↑(UInt8.toNat (List.getD s k (0 : UInt8))) : Int) != (32 : Int)) (.ret (.tup [.i (0 : Int), .p (.v (Value.slice none 0 0)), .i (1 : Int)]) []) (.stop [.code [1, 0, 3], .inScope [1, 0]] { n := 64, fr := [(0, .p (.str s)), (2, .i (0 : Int)), (3, .p (.v (Value.slice none 0 0))), (4, .i (0 : Int)), (5, .i (IntKind.wrap .i64 ((↑k : Int) + (1 : Int)))), (8, .x (.c (.own 0))), (6, .i (↑k : Int)), (7, .i (IntKind.wrap .i64 ((↑k : Int) + (1 : Int))))], ck := [.own 9 .str [Prod.snd (cutL s (some (↑k : Int)) (some (↑k : Int)))]] }))))))))))))) (by kernel_rfl) ?_
    have hL : strLen s = (s.length : Int) := rfl
    refine ⟨fun h => by have := of_decide_eq_true h; omega, fun h => ?_, fun h => ⟨fun h => by have := of_decide_eq_true h; omega, fun h => by simp only [Bool.and_eq_true, decide_eq_true_eq] at h; omega, fun hg => ?_, fun hg => ⟨fun _ => ?_, fun hne => by simp at hne⟩⟩⟩
    · have h' : k < s.length ∧ (((s.getD k 0).toNat : Int) == 32) = true := by
        simp only [Bool.and_eq_true, decide_eq_true_eq] at h
        exact ⟨by omega, h.2⟩
      have e : leadB s = k + 1 + leadB (s.drop (k + 1)) := by
        rw [hlead, drop_byte h'.1, leadB, h'.2, cond_true]; try omega
      rw [wrapK (by omega)]
      first
      | (exfalso; omega)
      | exact ih (k + 1) (by omega) (by omega) e
    · have h' : k < s.length ∧ good (s.getD k 0) = true := by
        simp only [Bool.and_eq_true, decide_eq_true_eq] at hg
        refine ⟨by omega, ?_⟩
        simp only [good, Bool.and_eq_true, decide_eq_true_eq]; exact ⟨hg.1.2, hg.2⟩
      have e : leadB s = k := by
        rw [hlead, drop_byte h'.1, leadB, good_not h'.2, cond_false]; try omega
      refine J.mono hQ (J.nilOwn 8 9 .str rfl rfl ?_)
      have e2 : IntKind.i64.wrap ((k : Int) + 1) = ((k + 1 : Nat) : Int) := by rw [wrapI (by omega) (by omega)]; omega
      rw [e2]
      have hd : ((leadB s : Nat) : Int) = (k : Int) := by omega
      rw [hd]
      refine word_loop s Γ _ (k : Int) hs s.length (k + 1) k [] (by omega) (by omega) (by omega) (by simp) rfl ?_ ?_
      · rw [seg_succ h'.1 (Nat.le_refl _), seg_self]; simpa using h'.2
      · rw [lineW, e, drop_byte (k := k) h'.1, seg_succ h'.1 (Nat.le_refl _), seg_self]
        simp only [splitGo, good_not h'.2, cond_false, List.nil_append]
    · refine hQ _ _ (LineQ.bad ?_)
      have hnb : k < s.length → (((s.getD k 0).toNat : Int) == 32) = false := by
        intro hlt
        cases hb : (((s.getD k 0).toNat : Int) == 32)
        · rfl
        · have e1 : decide ((k : Int) < strLen s) = true := decide_eq_true (by omega)
          rw [e1, hb] at h; cases h
      have hng : k < s.length → good (s.getD k 0) = false := by
        intro hlt
        cases hg' : good (s.getD k 0)
        · rfl
        · simp only [good, Bool.and_eq_true, decide_eq_true_eq] at hg'
          have e1 : decide ((k : Int) < strLen s) = true := decide_eq_true (by omega)
          rw [e1, decide_eq_true hg'.1, decide_eq_true hg'.2] at hg
          simp at hg
      by_cases hlt : k < s.length
      · have e : leadB s = k := by
          rw [hlead, drop_byte hlt, leadB, hnb hlt, cond_false]; try omega
        rw [lineW, e, drop_byte hlt]
        exact nil_split _ _ (hng hlt)
      · have e : leadB s = s.length := by
          rw [hlead, List.drop_eq_nil_iff.2 (by omega)]; simp [leadB]; omega
        rw [lineW, e, List.drop_length]; rfl
theorem line_start (s : Str) (Γ : Ctx) (Q : Out) (hQ : ∀ v ck, LineQ (leadB s : Nat) (lineW s) v ck → Q v ck) (hs : s.length ≤ 2097152) : J Tryz.prog 63 (bodyOf Tryz.f63) Γ Q [.code []] (initST Tryz.f63.ntmps [.s s] []) := by
  refine J.go (cfg := cfg0) cfg0_ok Tryz.func63 1000 (t := (.need (decide ((0 : Int) < strLen s) = true → (0 : Int) ≤ (0 : Int) ∧ (0 : Int) < strLen s) (.ite (decide ((0 : Int) < strLen s) && (↑(UInt8.toNat (List.getD s 0 (0 : UInt8))) : Int) == (32 : Int)) (.stop [.code [1, 0, 2], .inScope [1, 0]] { n := 64, fr := [(0, .p (.str s)), (2, .i (0 : Int)), (3, .p (.v (Value.slice none 0 0))), (4, .i (0 : Int)), (5, .i (IntKind.wrap .i64 ((0 : Int) + (1 : Int)))), (8, .p (.v (Value.slice none 0 0)))], ck := [] }) (.need (decide ((0 : Int) < strLen s) = true → (0 : Int) ≤ (0 : Int) ∧ (0 : Int) < strLen s) (.need ((decide ((0 : Int) < strLen s) && decide ((↑(UInt8.toNat (List.getD s 0 (0 : UInt8))) : Int) > (32 : Int))) = true → (0 : Int) ≤ (0 : Int) ∧ (0 : Int) < strLen s) (.ite (decide ((0 : Int) < strLen s) && decide ((↑(UInt8.toNat (List.getD s 0 (0 : UInt8))) : Int) > (32 : Int)) && decide ((↑(UInt8.toNat (List.getD s 0 (0 : UInt8))) : Int) < (127 : Int))) (.stop [.code [1, 0, 3], .inScope [1, 0]] { n := 64, fr := [(0, .p (.str s)), (2, .i (0 : Int)), (3, .p (.v (Value.slice none 0 0))), (4, .i (0 : Int)), (5, .i (IntKind.wrap .i64 ((0 : Int) + (1 : Int)))), (6, .i (0 : Int)), (7, .i (0 : Int)), (8, .p (.v (Value.slice none 0 0)))], ck := [] }) (.ite true (.ret (.tup [.i (0 : Int), .p (.v (Value.slice none 0 0)), .i (1 : Int)]) []) (.need ((0 : Int) ≤ (0 : Int) ∧ (0 : Int) ≤ (0 : Int) ∧ (0 : Int) ≤ (↑(List.length s) : Int)) (.need (room (List.length [Prod.snd (cutL s (some (0 : Int)) (some (0 : Int)))]) 16) (.ite ((0 : Int) == strLen s) (.ret (.tup [.i (0 : Int), .c (.own 0), .i (0 : Int)]) [.own 9 .str [Prod.snd (cutL s (some (0 : Int)) (some (0 : Int)))]]) (.need ((0 : Int) ≤ (0 : Int) ∧ (0 : Int) < strLen s) (.ite ((↑(UInt8.toNat (List.getD s 0 (0 : UInt8))) : Int) != (32 : Int)) (.ret (.tup [.i (0 : Int), .p (.v (Value.slice none 0 0)), .i (1 : Int)]) []) (.stop [.code [1, 0, 3], .inScope [1, 0]] { n := 64, fr := [(0, .p (.str s)), (2, .i (0 : Int)), (3, .p (.v (Value.slice none 0 0))), (4, .i (0 : Int)), (5, .i (IntKind.wrap .i64 ((0 : Int) + (1 : Int)))), (6, .i (0 : Int)), (7, .i (IntKind.wrap .i64 ((0 : Int) + (1 : Int)))), (8, .x (.c (.own 0)))], ck := [.own 9 .str [Prod.snd (cutL s (some (0 : Int)) (some (0 : Int)))]] }))))))))))))) (by kernel_rfl) ?_
  have hlead : leadB s = 0 + leadB (s.drop 0) := by simp
  have hL : strLen s = (s.length : Int) := rfl
  refine ⟨fun h => by have := of_decide_eq_true h; omega, fun h => ?_, fun h => ⟨fun h => by have := of_decide_eq_true h; omega, fun h => by simp only [Bool.and_eq_true, decide_eq_true_eq] at h; omega, fun hg => ?_, fun hg => ⟨fun _ => ?_, fun hne => by simp at hne⟩⟩⟩
  · have h' : 0 < s.length ∧ (((s.getD 0 0).toNat : Int) == 32) = true := by
      simp only [Bool.and_eq_true, decide_eq_true_eq] at h
      exact ⟨by omega, h.2⟩
    have e : leadB s = 0 + 1 + leadB (s.drop (0 + 1)) := by
      rw [hlead, drop_byte h'.1, leadB, h'.2, cond_true]; try omega
    exact ahead_loop s Γ Q hQ hs s.length 1 (by omega) (by omega) e
  · have h' : 0 < s.length ∧ good (s.getD 0 0) = true := by
      simp only [Bool.and_eq_true, decide_eq_true_eq] at hg
      refine ⟨by omega, ?_⟩
      simp only [good, Bool.and_eq_true, decide_eq_true_eq]; exact ⟨hg.1.2, hg.2⟩
    have e : leadB s = 0 := by
      rw [hlead, drop_byte h'.1, leadB, good_not h'.2, cond_false]; try omega
    refine J.mono hQ (J.nilOwn 8 9 .str rfl rfl ?_)
    have e2 : IntKind.i64.wrap ((0 : Int) + 1) = ((0 + 1 : Nat) : Int) := by rw [wrapI (by omega) (by omega)]; omega
    rw [e2]
    have hd : ((leadB s : Nat) : Int) = (0 : Int) := by omega
    rw [hd]
    refine J.frame (fun p hp => ?_) (word_loop s Γ _ (0 : Int) hs s.length (0 + 1) 0 [] (by omega) (by omega) (by omega) (by simp) rfl ?_ ?_)
    · simp only [List.mem_cons, List.not_mem_nil, or_false] at hp
      rcases hp with rfl | rfl | rfl | rfl | rfl | rfl | rfl | rfl <;> repeat (first | exact List.Mem.head _ | apply List.Mem.tail)
    · rw [seg_succ h'.1 (Nat.le_refl _), seg_self]; simpa using h'.2
    · rw [lineW, e, drop_byte (k := 0) h'.1, seg_succ h'.1 (Nat.le_refl _), seg_self]
      simp only [splitGo, good_not h'.2, cond_false, List.nil_append]
  · refine hQ _ _ (LineQ.bad ?_)
    have hnb : 0 < s.length → (((s.getD 0 0).toNat : Int) == 32) = false := by
      intro hlt
      cases hb : (((s.getD 0 0).toNat : Int) == 32)
      · rfl
      · have e1 : decide ((0 : Int) < strLen s) = true := decide_eq_true (by omega)
        rw [e1, hb] at h; cases h
    have hng : 0 < s.length → good (s.getD 0 0) = false := by
      intro hlt
      cases hg' : good (s.getD 0 0)
      · rfl
      · simp only [good, Bool.and_eq_true, decide_eq_true_eq] at hg'
        have e1 : decide ((0 : Int) < strLen s) = true := decide_eq_true (by omega)
        rw [e1, decide_eq_true hg'.1, decide_eq_true hg'.2] at hg
        simp at hg
    by_cases hlt : 0 < s.length
    · have e : leadB s = 0 := by
        rw [hlead, drop_byte hlt, leadB, hnb hlt, cond_false]; try omega
      rw [lineW, e, drop_byte hlt]
      exact nil_split _ _ (hng hlt)
    · have e : leadB s = s.length := by
        rw [hlead, List.drop_eq_nil_iff.2 (by omega)]; simp [leadB]; omega
      rw [lineW, e, List.drop_length]; rfl
theorem line_ok (s : Str) (hs : s.length ≤ 2097152) (h : lineOk s = true) : Does Tryz.prog 63 [.s s] [] (.tup [.i (leadB s : Nat), .c (.own 0), .i 0]) [.own 9 .str (lineW s)] :=
  Does.of Tryz.func63 (by kernel_rfl) (by kernel_rfl) fun Γ => line_start s Γ _ (fun v ck q => q.1 h) hs
end Go.Proofs.YtcpnicfkpkonkaaGreatDoor

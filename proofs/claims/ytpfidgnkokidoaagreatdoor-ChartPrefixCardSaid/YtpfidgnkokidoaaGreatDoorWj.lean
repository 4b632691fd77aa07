/- Contracts: lines parted into words. Conditions: texts of at most 2^21 bytes. Contracts: the document's lines. Conditions: texts of at most 2^21 bytes. Contracts: lines parted into words. Conditions: sizes. Plain: lines put together out of words. Conditions: none. -/
import Derived.Test.YtpfidgnkokidoaaGreatDoorKd
namespace Go.Proofs.YtpfidgnkokidoaaGreatDoor
open Go Go.Ev
set_option maxRecDepth 100000
/-! ### plain -/
variable (s : Str) (Γ : Ctx) (Q : Out) (W : List Str) (c : UInt8) (d : Int)
def ej : Bool := decide ((c.toNat : Int) > 32) && decide ((c.toNat : Int) < 127)
def cF (w : Str) : Bool := !(w == []) && w.all ej
def bS : Str → List UInt8 → List Str
 | cur, [] => [cur]
 | cur, c :: r => bif (c.toNat : Int) == 32 then cur :: bS [] r else bS (cur ++ [c]) r
def bt : List UInt8 → Nat
 | [] => 0
 | c :: r => bif (c.toNat : Int) == 32 then bt r + 1 else 0
def bm : List Str := bS [] (s.drop (bt s))
def fk : Bool := (bm s).all cF
theorem tD : ∀ s : List UInt8, bt s ≤ s.length
 | [] => ay _
 | c :: r => by
   have := tD r
   unfold bt
   cases ((c.toNat : Int) == 32) <;> simp <;> omega
theorem lE : ∀ (rest : List UInt8) (cur : Str), cur.all ej = false → (bS cur rest).all cF = false
 | [], cur, h => by simp [bS, cF, h]
 | c :: r, cur, h => by
   unfold bS
   cases ((c.toNat : Int) == 32)
   · simp only [cond_false]
     exact lE r (cur ++ [c]) (by rw [cv, h]; rfl)
   · simp only [cond_true, bq, cF, h, dx, Bool.false_and]
theorem mH (rest : List UInt8) (h : ej c = false) : (bS [] (c :: rest)).all cF = false := by
 unfold bS
 cases ((c.toNat : Int) == 32)
 · simp only [cond_false]
   exact lE rest ([] ++ [c]) (by simp [h])
 · simp [cF]
theorem gx {c : UInt8} (h : ej c = true) : ((c.toNat : Int) == 32) = false := by
 simp only [ej, af, decide_eq_true_eq] at h
 simp; omega
/-! ### the program's line -/
def gm (W : List Str) : Out := fun v ck => (W.all cF = true → v = .tup [.i d, .c (.own 0), .i 0] ∧ ck = [.own 9 .str W]) ∧ (W.all cF = false → v = .tup [.i 0, .c (.pd (.v (.slice none 0 0))), .i 1] ∧ ck = [])
theorem gm.ok {d : Int} {W : List Str} (h : W.all cF = true) : gm d W (.tup [.i d, .c (.own 0), .i 0]) [.own 9 .str W] := ⟨fun _ => ⟨rfl, rfl⟩, fun h' => by rw [h] at h'; cases h'⟩
theorem gm.bad {d : Int} {W : List Str} (h : W.all cF = false) : gm d W (.tup [.i 0, .c (.pd (.v (.slice none 0 0))), .i 1]) [] := ⟨fun h' => (by rw [h] at h'; cases h'), fun _ => ⟨rfl, rfl⟩⟩
theorem C2 {n : Nat} (h : n ≤ 3000000) : room n 16 := by unfold room maxLen; omega
abbrev zKb1 : List PI := [.code [1, 0, 3], .inScope [1, 0]]
theorem rT (hs : s.length ≤ 2097152) : ∀ (n k f : Nat) (out : List Str), s.length - k ≤ n → k ≤ s.length → f ≤ k → out.length ≤ f → out.all cF = true → (seg s f k).all ej = true → out ++ bS (seg s f k) (s.drop k) = W →
 J Tryz.prog 19 (aE Tryz.f19) Γ (gm d W) zKb1 ({ n := 64, fr := [(0, .p (.str s)), (2, .i 0), (3, .p (.v (Value.slice none 0 0))), (4, .i 0), (5, .i ((k : Int))), (8, .x (.c (.own 0))), (6, .i d), (7, .i ((f : Int)))], ck := [.own 9 .str out] }) := by
 intro n
 induction n with
 | zero => ?_
 | succ n ih => ?_
 all_goals
  intro k f out hn hk hf hlen hout hseg hW
  refine jg bN Tryz.func19 (let x1 := (↑((List.getD s k (0 : UInt8)).toNat) : Int); let x2 := (out ++ [(aw s (some (f : Int)) (some (k : Int))).2]); let x3 := (IntKind.wrap .i64 ((k : Int) + 1)); let x4 := (Value.slice none 0 0); let x5 := ((k : Int) < ae s); let x6 : Tree := (.ret (.tup [.i 0, .p (.v x4), .i 1]) []); .need (decide x5 = true → (0 : Int) ≤ (k : Int) ∧ (k : Int) < ae s) (.need ((decide x5 && decide (x1 > 32)) = true → (0 : Int) ≤ (k : Int) ∧ (k : Int) < ae s) (.ite (decide x5 && decide (x1 > 32) && decide (x1 < 127)) (.stop zKb1 { n := 64, fr := [(0, .p (.str s)), (2, .i 0), (3, .p (.v x4)), (4, .i 0), (5, .i x3), (8, .x (.c (.own 0))), (6, .i d), (7, .i f)], ck := [.own 9 .str out] }) (.ite ((k : Int) == (f : Int)) x6 (.need ((0 : Int) ≤ (f : Int) ∧ (f : Int) ≤ (k : Int) ∧ (k : Int) ≤ (s.length : Int)) (.need (room (x2.length) 16) (.ite ((k : Int) == ae s) (.ret (.tup [.i d, .c (.own 0), .i 0]) [.own 9 .str x2]) (.need ((0 : Int) ≤ (k : Int) ∧ (k : Int) < ae s) (.ite (x1 != 32) x6 (.stop zKb1 { n := 64, fr := [(0, .p (.str s)), (2, .i 0), (3, .p (.v x4)), (4, .i 0), (5, .i x3), (8, .x (.c (.own 0))), (6, .i d), (7, .i x3)], ck := [.own 9 .str x2] })))))))))) ?_
  conv => zeta
  have hL : ae s = (s.length : Int) := rfl
  have hcut : (aw s (some (f : Int)) (some (k : Int))).2 = seg s f k := rfl
  rw [hcut]
  refine ⟨fun h => by have := of_decide_eq_true h; omega, fun h => by simp only [af, decide_eq_true_eq] at h; omega, fun h => ?_, fun h => ?_⟩
  · have h' : k < s.length ∧ ej (s.getD k 0) = true := by
     simp only [af, decide_eq_true_eq] at h
     refine ⟨by omega, ?_⟩
     simp only [ej, af, decide_eq_true_eq]; exact ⟨h.1.2, h.2⟩
    rw [fW (by omega)]
    first
    | (exfalso; omega)
    | refine ih (k + 1) f out (by omega) (by omega) (by omega) hlen hout ?_ ?_
      · rw [gC h'.1 hf, cv, hseg]; simpa using h'.2
      · rw [← hW, c8 h'.1, gC h'.1 hf]
        simp only [bS, gx h'.2, cond_false]
  · have hbad : k < s.length → ej (s.getD k 0) = false := by
     intro hlt
     cases hg : ej (s.getD k 0)
     · rfl
     · simp only [ej, af, decide_eq_true_eq] at hg
       have e1 : decide ((k : Int) < ae s) = true := decide_eq_true (by omega)
       rw [e1, decide_eq_true hg.1, decide_eq_true hg.2] at h
       simp at h
    refine ⟨fun hkf => ?_, fun hkf => ?_⟩
    · have hkf' : k = f := by
       have : (k : Int) = (f : Int) := by simpa using hkf
       omega
      refine gm.bad ?_
      rw [← hW, cv, hkf', fE]
      have : (bS [] (s.drop f)).all cF = false := by
       by_cases hlt : f < s.length
       · rw [c8 hlt]; exact mH _ _ (by rw [← hkf'] at hlt ⊢; exact hbad hlt)
       · rw [dv.2 (by omega)]; rfl
      rw [this, dx]
    · have hkf' : f < k := by
       have : (k : Int) ≠ (f : Int) := by simpa using hkf
       omega
      have hv : cF (seg s f k) = true := by
       simp only [cF, hseg, dk, aC, beq_eq_false_iff_ne]
       exact Gl hkf' hk
      have hout2 : (out ++ [seg s f k]).all cF = true := by rw [cv, hout]; simp [hv]
      refine ⟨⟨by omega, by omega, by omega⟩, C2 (by rw [aj]; simp; omega), fun he => ?_, fun he => ⟨?_, fun hb => ?_, fun hb => ?_⟩⟩
      · have he' : k = s.length := by
         have : (k : Int) = ae s := by simpa using he
         omega
        have eW : W = out ++ [seg s f k] := by rw [← hW, dv.2 (by omega)]; rfl
        rw [eW]
        exact gm.ok hout2
      · have : (k : Int) ≠ ae s := by simpa using he
        omega
      · have hlt : k < s.length := by
         have : (k : Int) ≠ ae s := by simpa using he
         omega
        refine gm.bad ?_
        have hb' : (((s.getD k 0).toNat : Int) == 32) = false := by simpa using hb
        rw [← hW, cv, c8 hlt]
        have : (bS (seg s f k) (s.getD k 0 :: s.drop (k + 1))).all cF = false := by
         simp only [bS, hb', cond_false]
         exact lE _ _ (by rw [cv, hseg]; simpa using hbad hlt)
        rw [this, dx]
      · have hlt : k < s.length := by
         have : (k : Int) ≠ ae s := by simpa using he
         omega
        have hb' : (((s.getD k 0).toNat : Int) == 32) = true := by simpa using hb
        rw [fW (by omega)]
        first
        | (exfalso; omega)
        | refine ih (k + 1) (k + 1) (out ++ [seg s f k]) (by omega) (by omega) (by omega) (by rw [aj]; simp; omega) hout2 (by rw [fE]; rfl) ?_
          rw [← hW, c8 hlt, fE]
          simp only [bS, hb', cond_true, cP, bE, cu]
theorem J.frame {P : Program} {f : FuncId} {root : Code} {Γ : Ctx} {Q : Out} {todo : List PI} {st : ST} {fr' : List (Nat × SV)} (h : ∀ p ∈ fr', p ∈ st.fr) (hk : J P f root Γ Q todo { st with fr := fr' }) : J P f root Γ Q todo st :=
 fun hT V a w r => hk hT V a w (r.weaken h)
theorem wW (hQ : ∀ v ck, gm (bt s : Nat) (bm s) v ck → Q v ck) (hs : s.length ≤ 2097152) : ∀ (n k : Nat), s.length - k ≤ n → k ≤ s.length → bt s = k + bt (s.drop k) →
 J Tryz.prog 19 (aE Tryz.f19) Γ Q [.code [1, 0, 2], .inScope [1, 0]] ({ n := 64, fr := [(0, .p (.str s)), (2, .i 0), (3, .p (.v (Value.slice none 0 0))), (4, .i 0), (5, .i ((k : Int))), (8, .p (.v (Value.slice none 0 0)))], ck := [] }) := by
 intro n
 induction n with
 | zero => ?_
 | succ n ih => ?_
 all_goals
  intro k hn hk hlead
  refine jg bN Tryz.func19 (let x1 := (↑((List.getD s k (0 : UInt8)).toNat) : Int); let x2 := (Value.slice none 0 0); let x3 := (IntKind.wrap .i64 ((k : Int) + 1)); let x4 := [(aw s (some (k : Int)) (some (k : Int))).2]; let x6 := ((k : Int) < ae s); let x5 := (decide x6 = true → (0 : Int) ≤ (k : Int) ∧ (k : Int) < ae s); let x7 : Tree := (.ret (.tup [.i 0, .p (.v x2), .i 1]) []); .need x5 (.ite (decide x6 && x1 == 32) (.stop [.code [1, 0, 2], .inScope [1, 0]] { n := 64, fr := [(0, .p (.str s)), (2, .i 0), (3, .p (.v x2)), (4, .i 0), (5, .i x3), (8, .p (.v x2))], ck := [] }) (.need x5 (.need ((decide x6 && decide (x1 > 32)) = true → (0 : Int) ≤ (k : Int) ∧ (k : Int) < ae s) (.ite (decide x6 && decide (x1 > 32) && decide (x1 < 127)) (.stop zKb1 { n := 64, fr := [(0, .p (.str s)), (2, .i 0), (3, .p (.v x2)), (4, .i 0), (5, .i x3), (8, .p (.v x2)), (6, .i k), (7, .i k)], ck := [] }) (.ite ((k : Int) == (k : Int)) x7 (.need ((0 : Int) ≤ (k : Int) ∧ (k : Int) ≤ (k : Int) ∧ (k : Int) ≤ (s.length : Int)) (.need (room (List.length x4) 16) (.ite ((k : Int) == ae s) (.ret (.tup [.i k, .c (.own 0), .i 0]) [.own 9 .str x4]) (.need ((0 : Int) ≤ (k : Int) ∧ (k : Int) < ae s) (.ite (x1 != 32) x7 (.stop zKb1 { n := 64, fr := [(0, .p (.str s)), (2, .i 0), (3, .p (.v x2)), (4, .i 0), (5, .i x3), (8, .x (.c (.own 0))), (6, .i k), (7, .i x3)], ck := [.own 9 .str x4] })))))))))))) ?_
  conv => zeta
  have hL : ae s = (s.length : Int) := rfl
  refine ⟨fun h => by have := of_decide_eq_true h; omega, fun h => ?_, fun h => ⟨fun h => by have := of_decide_eq_true h; omega, fun h => by simp only [af, decide_eq_true_eq] at h; omega, fun hg => ?_, fun hg => ⟨fun _ => ?_, fun hne => by simp at hne⟩⟩⟩
  · have h' : k < s.length ∧ (((s.getD k 0).toNat : Int) == 32) = true := by
     simp only [af, decide_eq_true_eq] at h
     exact ⟨by omega, h.2⟩
    have e : bt s = k + 1 + bt (s.drop (k + 1)) := by
     rw [hlead, c8 h'.1, bt, h'.2, cond_true]; try omega
    rw [fW (by omega)]
    first
    | (exfalso; omega)
    | exact ih (k + 1) (by omega) (by omega) e
  · have h' : k < s.length ∧ ej (s.getD k 0) = true := by
     simp only [af, decide_eq_true_eq] at hg
     refine ⟨by omega, ?_⟩
     simp only [ej, af, decide_eq_true_eq]; exact ⟨hg.1.2, hg.2⟩
    have e : bt s = k := by
     rw [hlead, c8 h'.1, bt, gx h'.2, cond_false]; try omega
    refine J.mono hQ (J.nilOwn 8 9 .str rfl rfl ?_)
    have e2 : IntKind.i64.wrap ((k : Int) + 1) = ((k + 1 : Nat) : Int) := by rw [cg (by omega) (by omega)]; omega
    rw [e2]
    have hd : ((bt s : Nat) : Int) = (k : Int) := by omega
    rw [hd]
    refine rT s Γ _ (k : Int) hs s.length (k + 1) k [] (by omega) (by omega) (by omega) (by simp) rfl ?_ ?_
    · rw [gC h'.1 (ay _), fE]; simpa using h'.2
    · rw [bm, e, c8 (k := k) h'.1, gC h'.1 (ay _), fE]
      simp only [bS, gx h'.2, cond_false, cu]
  · refine hQ _ _ (gm.bad ?_)
    have hnb : k < s.length → (((s.getD k 0).toNat : Int) == 32) = false := by
     intro hlt
     cases hb : (((s.getD k 0).toNat : Int) == 32)
     · rfl
     · have e1 : decide ((k : Int) < ae s) = true := decide_eq_true (by omega)
       rw [e1, hb] at h; cases h
    have hng : k < s.length → ej (s.getD k 0) = false := by
     intro hlt
     cases hg' : ej (s.getD k 0)
     · rfl
     · simp only [ej, af, decide_eq_true_eq] at hg'
       have e1 : decide ((k : Int) < ae s) = true := decide_eq_true (by omega)
       rw [e1, decide_eq_true hg'.1, decide_eq_true hg'.2] at hg
       simp at hg
    by_cases hlt : k < s.length
    · have e : bt s = k := by
       rw [hlead, c8 hlt, bt, hnb hlt, cond_false]; try omega
      rw [bm, e, c8 hlt]
      exact mH _ _ (hng hlt)
    · have e : bt s = s.length := by
       rw [hlead, dv.2 (by omega)]; simp [bt]; omega
      rw [bm, e, List.drop_length]; rfl
theorem pn (hQ : ∀ v ck, gm (bt s : Nat) (bm s) v ck → Q v ck) (hs : s.length ≤ 2097152) : J Tryz.prog 19 (aE Tryz.f19) Γ Q [.code []] (b6 Tryz.f19.ntmps [.s s] []) := by
 refine jg bN Tryz.func19 (let x1 := (↑((List.getD s 0 (0 : UInt8)).toNat) : Int); let x2 := (Value.slice none 0 0); let x3 := (IntKind.wrap .i64 ((0 : Int) + 1)); let x4 := [(aw s (some (0 : Int)) (some (0 : Int))).2]; let x5 := ((0 : Int) < ae s); let x6 := (decide x5 = true → (0 : Int) ≤ 0 ∧ (0 : Int) < ae s); let x7 : Tree := (.ret (.tup [.i 0, .p (.v x2), .i 1]) []); .need x6 (.ite (decide x5 && x1 == 32) (.stop [.code [1, 0, 2], .inScope [1, 0]] { n := 64, fr := [(0, .p (.str s)), (2, .i 0), (3, .p (.v x2)), (4, .i 0), (5, .i x3), (8, .p (.v x2))], ck := [] }) (.need x6 (.need ((decide x5 && decide (x1 > 32)) = true → (0 : Int) ≤ 0 ∧ (0 : Int) < ae s) (.ite (decide x5 && decide (x1 > 32) && decide (x1 < 127)) (.stop zKb1 { n := 64, fr := [(0, .p (.str s)), (2, .i 0), (3, .p (.v x2)), (4, .i 0), (5, .i x3), (6, .i 0), (7, .i 0), (8, .p (.v x2))], ck := [] }) (.ite true x7 (.need ((0 : Int) ≤ 0 ∧ (0 : Int) ≤ 0 ∧ (0 : Int) ≤ (s.length : Int)) (.need (room (List.length x4) 16) (.ite ((0 : Int) == ae s) (.ret (.tup [.i 0, .c (.own 0), .i 0]) [.own 9 .str x4]) (.need ((0 : Int) ≤ 0 ∧ (0 : Int) < ae s) (.ite (x1 != 32) x7 (.stop zKb1 { n := 64, fr := [(0, .p (.str s)), (2, .i 0), (3, .p (.v x2)), (4, .i 0), (5, .i x3), (6, .i 0), (7, .i x3), (8, .x (.c (.own 0)))], ck := [.own 9 .str x4] })))))))))))) ?_
 conv => zeta
 have hlead : bt s = 0 + bt (s.drop 0) := by simp
 have hL : ae s = (s.length : Int) := rfl
 refine ⟨fun h => by have := of_decide_eq_true h; omega, fun h => ?_, fun h => ⟨fun h => by have := of_decide_eq_true h; omega, fun h => by simp only [af, decide_eq_true_eq] at h; omega, fun hg => ?_, fun hg => ⟨fun _ => ?_, fun hne => by simp at hne⟩⟩⟩
 · have h' : 0 < s.length ∧ (((s.getD 0 0).toNat : Int) == 32) = true := by
    simp only [af, decide_eq_true_eq] at h
    exact ⟨by omega, h.2⟩
   have e : bt s = 0 + 1 + bt (s.drop (0 + 1)) := by
    rw [hlead, c8 h'.1, bt, h'.2, cond_true]; try omega
   exact wW s Γ Q hQ hs s.length 1 (by omega) (by omega) e
 · have h' : 0 < s.length ∧ ej (s.getD 0 0) = true := by
    simp only [af, decide_eq_true_eq] at hg
    refine ⟨by omega, ?_⟩
    simp only [ej, af, decide_eq_true_eq]; exact ⟨hg.1.2, hg.2⟩
   have e : bt s = 0 := by
    rw [hlead, c8 h'.1, bt, gx h'.2, cond_false]; try omega
   refine J.mono hQ (J.nilOwn 8 9 .str rfl rfl ?_)
   have e2 : IntKind.i64.wrap ((0 : Int) + 1) = ((0 + 1 : Nat) : Int) := by rw [cg (by omega) (by omega)]; omega
   rw [e2]
   have hd : ((bt s : Nat) : Int) = (0 : Int) := by omega
   rw [hd]
   refine J.frame (fun p hp => ?_) (rT s Γ _ (0 : Int) hs s.length (0 + 1) 0 [] (by omega) (by omega) (by omega) (by simp) rfl ?_ ?_)
   · simp only [aS, List.not_mem_nil, or_false] at hp
     rcases hp with rfl | rfl | rfl | rfl | rfl | rfl | rfl | rfl <;> repeat (first | exact List.Mem.head _ | apply List.Mem.tail)
   · rw [gC h'.1 (ay _), fE]; simpa using h'.2
   · rw [bm, e, c8 (k := 0) h'.1, gC h'.1 (ay _), fE]
     simp only [bS, gx h'.2, cond_false, cu]
 · refine hQ _ _ (gm.bad ?_)
   have hnb : 0 < s.length → (((s.getD 0 0).toNat : Int) == 32) = false := by
    intro hlt
    cases hb : (((s.getD 0 0).toNat : Int) == 32)
    · rfl
    · have e1 : decide ((0 : Int) < ae s) = true := decide_eq_true (by omega)
      rw [e1, hb] at h; cases h
   have hng : 0 < s.length → ej (s.getD 0 0) = false := by
    intro hlt
    cases hg' : ej (s.getD 0 0)
    · rfl
    · simp only [ej, af, decide_eq_true_eq] at hg'
      have e1 : decide ((0 : Int) < ae s) = true := decide_eq_true (by omega)
      rw [e1, decide_eq_true hg'.1, decide_eq_true hg'.2] at hg
      simp at hg
   by_cases hlt : 0 < s.length
   · have e : bt s = 0 := by
      rw [hlead, c8 hlt, bt, hnb hlt, cond_false]; try omega
     rw [bm, e, c8 hlt]
     exact mH _ _ (hng hlt)
   · have e : bt s = s.length := by
      rw [hlead, dv.2 (by omega)]; simp [bt]; omega
     rw [bm, e, List.drop_length]; rfl
theorem Em (hs : s.length ≤ 2097152) (h : fk s = true) : ah Tryz.prog 19 [.s s] [] (.tup [.i (bt s : Nat), .c (.own 0), .i 0]) [.own 9 .str (bm s)] :=
 ah.of Tryz.func19 (by kernel_rfl) (by kernel_rfl) fun Γ => pn s Γ _ (fun v ck q => q.1 h) hs
theorem CJ (hs : s.length ≤ 2097152) (h : fk s = false) : ah Tryz.prog 19 [.s s] [] (.tup [.i 0, .c (.pd (.v (.slice none 0 0))), .i 1]) [] :=
 ah.of Tryz.func19 (by kernel_rfl) (by kernel_rfl) fun Γ => pn s Γ _ (fun v ck q => q.2 h) hs
theorem kP : ∀ (rest : List UInt8) (cur : Str), ∀ w ∈ bS cur rest, w.length ≤ cur.length + rest.length
 | [], cur, w, h => by simp [bS] at h; subst h; simp
 | c :: r, cur, w, h => by
   unfold bS at h
   cases hc : ((c.toNat : Int) == 32)
   · rw [hc, cond_false] at h
     have := kP r (cur ++ [c]) w h
     simp only [aj, ak, au] at this ⊢; omega
   · rw [hc, cond_true] at h
     rcases aS.1 h with rfl | h
     · simp
     · have := kP r [] w h
       simp only [ak, au] at this ⊢; omega
def wq : Ent := (19, fun
 | [.c (.pd (.str s))], [] => some (some (s.length ≤ 2097152 ∧ fk s = true), .tup [.c (.pd (.int .i64 ((bt s : Nat) : Int))), .c (.own 0), .c (.pd (.int .i64 0))], [.own 9 .str (bm s)])
 | _, _ => none)
theorem DO : EntOk Tryz.prog wq := entOk fun vs ck => by
 unfold wq; dsimp only; split
 · rename_i s; exact entS fun hp => Em s hp.1 hp.2
 · exact entN
def wR : Ent := (19, fun
 | [.c (.pd (.str s))], [] => some (some (s.length ≤ 2097152 ∧ fk s = false), .tup [.c (.pd (.int .i64 0)), .c (.pd (.v (.slice none 0 0))), .c (.pd (.int .i64 1))], [])
 | _, _ => none)
theorem EF : EntOk Tryz.prog wR := entOk fun vs ck => by
 unfold wR; dsimp only; split
 · rename_i s; exact entS fun hp => CJ s hp.1 hp.2
 · exact entN
/-! ### plain -/
def glue (l : List Str) : Str := l.flatMap fun w => 32 :: w
def ia : List Str → Str
 | [] => []
 | w :: r => w ++ glue r
theorem Ci (cur : Str) : ∀ rest, bS cur rest ≠ [] := by
 intro rest
 induction rest generalizing cur with
 | nil => simp [bS]
 | cons c r ih =>
   unfold bS
   cases ((c.toNat : Int) == 32)
   · exact ih _
   · simp
theorem CU (s : Str) : bm s ≠ [] := Ci _ _
variable {l : List Str} (n : Nat)
def gh : Str := List.replicate n 32
theorem kI : ∀ (w : Str) (cur rest : List UInt8), w.all ej = true → bS cur (w ++ rest) = bS (cur ++ w) rest
 | [], cur, rest, _ => by simp
 | c :: w, cur, rest, h => by
   simp only [bq, af] at h
   rw [bE, bS, gx h.1, cond_false, kI w (cur ++ [c]) rest h.2]; simp
theorem pS : ∀ (l : List Str) (cur : Str), l.all cF = true → bS cur (glue l) = cur :: l
 | [], cur, _ => rfl
 | w :: r, cur, h => by
   simp only [bq, af] at h
   have hw : w.all ej = true := by simp only [cF, af] at h; exact h.1.2
   have e : glue (w :: r) = 32 :: (w ++ glue r) := by simp [glue]
   have hb : (((32 : UInt8).toNat : Int) == 32) = true := by decide
   rw [e, bS, hb, cond_true, kI w [] _ hw, cu, pS r w h.2]
theorem xw (hl : l ≠ []) (h : l.all cF = true) : bS [] (ia l) = l := by
 cases l with
 | nil => exact absurd rfl hl
 | cons w r =>
   simp only [bq, af] at h
   have hw : w.all ej = true := by simp only [cF, af] at h; exact h.1.2
   rw [ia, kI w [] _ hw, cu, pS r w h.2]
theorem nL (r : List UInt8) (h : bt r = 0) : ∀ n, bt (gh n ++ r) = n
 | 0 => by simpa [gh] using h
 | n + 1 => by
   have hb : (((32 : UInt8).toNat : Int) == 32) = true := by decide
   have e : gh (n + 1) ++ r = 32 :: (gh n ++ r) := by simp [gh, List.replicate_succ]
   rw [e, bt, hb, cond_true, nL r h n]
theorem Ab (hl : l ≠ []) (h : l.all cF = true) : bt (ia l) = 0 := by
 cases l with
 | nil => exact absurd rfl hl
 | cons w r =>
   simp only [bq, af, cF] at h
   cases w with
   | nil => simp at h
   | cons c w =>
     have hc : ej c = true := by have := h.1.2; simp only [bq, af] at this; exact this.1
     rw [ia, bE, bt, gx hc, cond_false]
theorem xY (hl : l ≠ []) (h : l.all cF = true) : bt (gh n ++ ia l) = n ∧ bm (gh n ++ ia l) = l := by
 have e := nL (ia l) (Ab hl h) n
 refine ⟨e, ?_⟩
 rw [bm, e]
 have : (gh n ++ ia l).drop n = ia l := by simp [gh]
 rw [this, xw hl h]
end Go.Proofs.YtpfidgnkokidoaaGreatDoor

/- Contracts: names; prefixes. Conditions: none. Contracts: cells, right lists, by the program and the document; lists of cells as trees. Conditions: none. -/
import Derived.Test.YtpfidgnkokidoaaGreatDoorDa
namespace Go.Proofs.YtpfidgnkokidoaaGreatDoor
open Go Go.Ev
set_option maxRecDepth 100000
abbrev zNa1 : List PI := [.code [1, 1, 0, 1, 0, 0], .inLoop [1, 1, 0, 1, 0, 0], .inBlock 0, .code [1, 1, 1]]
variable (a : Str) {k : Nat} (s b : Str) {c : UInt8} (Γ : Ctx)
theorem FI (h0 : kO s = false) : ∀ (n k : Nat), s.length - k ≤ n → k ≤ s.length → (∀ j, j < k → kH (s.getD j 0) = false) →
 J Tryz.prog 20 (az Tryz.f20) Γ (Eq2 (.x (.b (aC s))) []) zNa1 ({ n := 56, fr := [(0, .p (.str s)), (2, .p (.bool false)), (23, .i (ab s)), (24, .i k)], ck := [], kn := [2] }) := by
 have hlen : s.length ≤ 12 := by simp [kO, ab] at h0; omega
 intro n
 induction n with
 | zero => ?_
 | succ n ih => ?_
 all_goals
  intro k hn hk hb
  refine jg aV Tryz.func20 (let x1 := (↑((List.getD s k (0 : UInt8)).toNat) : Int); let x2 : Tree := (.ret (.p (.bool false)) []); .ite (decide ((k : Int) < ab s)) (.need ((0 : Int) ≤ (k : Int) ∧ (k : Int) < ab s) (.ite ((decide (x1 < 97) || decide (x1 > 122)) && (decide (x1 < 48) || decide (x1 > 57)) && x1 != 95) x2 (.stop zNa1 { n := 56, fr := [(0, .p (.str s)), (2, .p (.bool false)), (23, .i (ab s)), (24, .i (IntKind.wrap .i64 ((k : Int) + 1)))], ck := [], kn := [2] }))) (.ite (s == [116, 114, 117, 101]) x2 (.ite (s == [102, 97, 108, 115, 101]) x2 (.ite (s == [105, 110]) x2 (.ite (s == [114, 101]) x2 (.ite (s == [105, 109]) x2 (.ret (.p (.bool true)) []))))))) ?_
  conv => zeta
  have hend : ¬ k < s.length → s.any kH = false := fun h => pX fun j hj => hb j (by omega)
  refine ⟨fun hlt => ⟨?_, fun hbad => ⟨?_, rfl⟩, fun hok => ?_⟩, fun hge => ?_⟩
  · have := of_decide_eq_true hlt; simp only [ab] at this ⊢; omega
  · have := of_decide_eq_true hlt; simp only [ab] at this
    have hbad' : kH (s.getD k 0) = true := hbad
    simp only [aC, yC (by omega) hbad']; simp
  · have := of_decide_eq_true hlt; simp only [ab] at this
    first
    | (exfalso; omega)
    | (rw [cU (by omega)]
       exact ih (k + 1) (by omega) (by omega) fun j hj => if e : j = k then by rw [e]; exact hok else hb j (by omega))
  · have := of_decide_eq_false hge; simp only [ab] at this
    have hany := hend (by omega)
    refine ⟨fun h1 => ⟨?_, rfl⟩, fun h1 => ⟨fun h2 => ⟨?_, rfl⟩, fun h2 => ⟨fun h3 => ⟨?_, rfl⟩, fun h3 => ⟨fun h4 => ⟨?_, rfl⟩, fun h4 => ⟨fun h5 => ⟨?_, rfl⟩, fun h5 => ⟨?_, rfl⟩⟩⟩⟩⟩⟩ <;>
     simp [aC, h0, hany, pS, *]
theorem EJ : ak Tryz.prog 20 [.s s] [] (.x (.b (aC s))) [] := by
 refine dg aV Tryz.func20 (let x1 := (↑((List.getD s 0 (0 : UInt8)).toNat) : Int); let x2 := (ab s > (12 : Int)); .need ((s == [] || decide x2) = false → (0 : Int) ≤ 0 ∧ (0 : Int) < ab s) (.need ((s == [] || decide x2 || decide (x1 < 97)) = false → (0 : Int) ≤ 0 ∧ (0 : Int) < ab s) (.ite (s == [] || decide x2 || decide (x1 < 97) || decide (x1 > 122)) (.ret (.p (.bool false)) []) (.stop zNa1 { n := 56, fr := [(0, .p (.str s)), (2, .p (.bool false)), (23, .i (ab s)), (24, .i 0)], ck := [], kn := [2] })))) fun Γ => ?_
 conv => zeta
 have hpos : (s == [] || decide (ab s > 12)) = false → 0 ≤ (0 : Int) ∧ 0 < ab s := by
  intro h
  cases s with
  | nil => simp at h
  | cons c r => simp [ab]
 refine ⟨hpos, fun h => hpos ?_, fun h => ⟨?_, rfl⟩, fun h => ?_⟩
 · simp only [aq] at h ⊢; exact h.1
 · have h' : kO s = true := h
   simp [aC, h']
 · exact FI s _ h s.length 0 (by omega) (by omega) (fun j hj => by omega)
def gG : Ent := (20, fun
 | [.c (.pd (.str s))], [] => some (none, .x (.c (.pd (.bool (aC s)))), [])
 | _, _ => none)
theorem fw : EntOk Tryz.prog gG := entOk fun vs ck => by
 unfold gG; dsimp only; split
 · rename_i s; exact entS fun hp => EJ s
 · exact entN
def iS (k : Int) (c : UInt8) : Bool :=
 !(decide ((c.toNat : Int) ≥ 97) && decide ((c.toNat : Int) ≤ 122)) && (k == 0 || !(decide ((c.toNat : Int) ≥ 48) && decide ((c.toNat : Int) ≤ 57) || (c.toNat : Int) == 95))
def lD (s : List UInt8) : Bool := decide (ab s < 1) || decide (ab s > 12) || s == [116, 114, 117, 101] || s == [102, 97, 108, 115, 101] || s == [105, 110] || s == [114, 101] || s == [105, 109]
theorem AT (hk : k ≠ 0) (h : iS k c = true) : kH c = true := by
 have hk' : ((k : Int) == 0) = false := by simp; omega
 simp only [iS, hk', cl, af, aE, c8, aq, decide_eq_false_iff_not, kH, aA, decide_eq_true_eq, bne_iff_ne, beq_eq_false_iff_ne] at *
 omega
theorem Cs (h : iS k c = false) : kH c = false := by
 cases hb : kH c
 · rfl
 · exfalso
   have h' : iS k c = true := by
    cases hk : ((k : Int) == 0) <;>
    simp only [iS, hk, cl, Bool.true_or, cT, af, aE, c8, aq, decide_eq_false_iff_not, kH, aA, decide_eq_true_eq, bne_iff_ne, beq_eq_false_iff_ne] at * <;> omega
   rw [h] at h'; cases h'
theorem GR {s : List UInt8} (h : lD s = true) : aC s = false := by
 simp only [lD, aA, decide_eq_true_eq, beq_iff_eq] at h
 cases hn : aC s
 · rfl
 · exfalso
   simp only [aC, kO, pS, af, aE, aq, decide_eq_false_iff_not, beq_eq_false_iff_ne] at hn
   have hl : s = [] ∨ 1 ≤ ab s := by cases s <;> simp [ab]; omega
   rcases h with (((((h | h) | h) | h) | h) | h) | h
   · rcases hl with hl | hl
     · exact hn.1.1.1.1.1 hl
     · omega
   · exact hn.1.1.1.1.2 h
   all_goals first | exact hn.2.1.1.1.1 h | exact hn.2.1.1.1.2 h | exact hn.2.1.1.2 h | exact hn.2.1.2 h | exact hn.2.2 h
theorem wK (h0 : lD s = false) : ∀ (n k : Nat), s.length - k ≤ n → k ≤ s.length → (∀ j, j < k → iS j (s.getD j 0) = false) →
 J Tryz.prog 50 (az Tryz.f50) Γ (Eq2 (.x (.b (aC s))) []) zNa1 ({ n := 76, fr := [(0, .p (.str s)), (2, .p (.bool false)), (3, .i k)], ck := [], kn := [2] }) := by
 have hlen : s.length ≤ 12 ∧ 1 ≤ s.length := by
  simp only [lD, aq, decide_eq_false_iff_not, ab] at h0
  have h1 := of_decide_eq_false h0.1.1.1.1.1.1
  have h2 := of_decide_eq_false h0.1.1.1.1.1.2
  omega
 intro n
 induction n with
 | zero => ?_
 | succ n ih => ?_
 all_goals
  intro k hn hk hb
  refine jg aV Tryz.func50 (let x1 := (↑((List.getD s k (0 : UInt8)).toNat) : Int); let x2 := ((0 : Int) ≤ (k : Int) ∧ (k : Int) < ab s); .ite (decide ((k : Int) < ab s)) (.need x2 (.need (decide (x1 ≥ 97) = true → (0 : Int) ≤ (k : Int) ∧ (k : Int) < ab s) (.need x2 (.need (decide (x1 ≥ 48) = true → (0 : Int) ≤ (k : Int) ∧ (k : Int) < ab s) (.need ((decide (x1 ≥ 48) && decide (x1 ≤ 57)) = false → (0 : Int) ≤ (k : Int) ∧ (k : Int) < ab s) (.ite (!(decide (x1 ≥ 97) && decide (x1 ≤ 122)) && ((k : Int) == 0 || !(decide (x1 ≥ 48) && decide (x1 ≤ 57) || x1 == 95))) (.ret (.p (.bool false)) []) (.stop zNa1 { n := 76, fr := [(0, .p (.str s)), (2, .p (.bool false)), (3, .i (IntKind.wrap .i64 ((k : Int) + 1)))], ck := [], kn := [2] }))))))) (.ret (.p (.bool true)) [])) ?_
  conv => zeta
  have inb : decide ((k : Int) < ab s) = true → 0 ≤ (k : Int) ∧ (k : Int) < ab s := fun h => ⟨by omega, of_decide_eq_true h⟩
  refine ⟨fun hlt => ⟨inb hlt, fun _ => inb hlt, inb hlt, fun _ => inb hlt, fun _ => inb hlt, fun hbad => ⟨?_, rfl⟩, fun hok => ?_⟩, fun hge => ⟨?_, rfl⟩⟩
  · have hbad' : iS k (s.getD k 0) = true := hbad
    have hlt' := of_decide_eq_true hlt
    simp only [ab] at hlt'
    have e : aC s = false := by
     by_cases hz : k = 0
     · subst hz
       have : kO s = true := by
        simp only [iS, af, aE, c8, decide_eq_false_iff_not] at hbad'
        simp only [kO, aA, decide_eq_true_eq]
        omega
       simp [aC, this]
     · simp [aC, yC (by omega) (AT hz hbad')]
    rw [e]
  · have hok' : iS k (s.getD k 0) = false := hok
    have hlt' := of_decide_eq_true hlt
    simp only [ab] at hlt'
    first
    | (exfalso; omega)
    | (rw [cU (by omega)]
       exact ih (k + 1) (by omega) (by omega) fun j hj => if e : j = k then by rw [e]; exact hok' else hb j (by omega))
  · have hge' := of_decide_eq_false hge
    simp only [ab] at hge'
    have hany : s.any kH = false := pX fun j hj => Cs (hb j (by omega))
    have h00 := hb 0 (by omega)
    simp only [iS, Int.ofNat_eq_natCast, c8, ct, af, decide_eq_true_eq] at h00
    simp only [lD, aq, decide_eq_false_iff_not] at h0
    have hne : (s == []) = false := by cases s with | nil => simp at hlen | cons => rfl
    have hn0 : kO s = false := by
     simp only [kO, hne, cl, aq, decide_eq_false_iff_not]
     rcases h00 with h | h
     · refine ⟨⟨by omega, by omega⟩, by omega⟩
     · simp at h
    have hw5 : pS s = false := by simp [pS, h0]
    simp [aC, hany, hn0, hw5]
theorem wC : ak Tryz.prog 50 [.s s] [] (.x (.b (aC s))) [] := by
 refine dg aV Tryz.func50 (.ite (decide (ab s < (1 : Int)) || decide (ab s > (12 : Int)) || s == [116, 114, 117, 101] || s == [102, 97, 108, 115, 101] || s == [105, 110] || s == [114, 101] || s == [105, 109]) (.ret (.p (.bool false)) []) (.stop zNa1 { n := 76, fr := [(0, .p (.str s)), (2, .p (.bool false)), (3, .i 0)], ck := [], kn := [2] })) fun Γ => ?_
 refine ⟨fun h => ⟨?_, rfl⟩, fun h => ?_⟩
 · rw [GR h]
 · exact wK s Γ h s.length 0 (by omega) (by omega) (fun j hj => by omega)
def jb : Ent := (50, fun
 | [.c (.pd (.str s))], [] => some (none, .x (.c (.pd (.bool (aC s)))), [])
 | _, _ => none)
theorem gD : EntOk Tryz.prog jb := entOk fun vs ck => by
 unfold jb; dsimp only; split
 · rename_i s; exact entS fun hp => wC s
 · exact entN
theorem uR : ak Tryz.prog 135 [.s a, .s b] [] (.x (.b (decide (ab a ≥ ab b) && a.take (ab b).toNat == b))) [] := by
 refine dg aV Tryz.func135 (.need (decide (ab a ≥ ab b) = true → (0 : Int) ≤ ab b ∧ ab b ≤ (a.length : Int)) (.ret (.p (.bool (decide (ab a ≥ ab b) && (aw a none (some (ab b))).2 == b))) [])) fun Γ => ?_
 refine ⟨fun h => ?_, rfl, rfl⟩
 have := of_decide_eq_true h
 have h1 : ab b = (b.length : Int) := rfl
 have h2 : ab a = (a.length : Int) := rfl
 omega
def eHp : Ent := (135, fun
 | [.c (.pd (.str a)), .c (.pd (.str b))], [] => some (none, .x (.c (.pd (.bool (decide (ab a ≥ ab b) && a.take (ab b).toNat == b)))), [])
 | _, _ => none)
theorem Gy : EntOk Tryz.prog eHp := entOk fun vs ck => by
 unfold eHp; dsimp only; split
 · rename_i a b; exact entS fun hp => uR a b
 · exact entN
def KA : Cfg := ⟨a6, [eHp]⟩
theorem II : ah Tryz.prog KA.tab := (ah.cons Gy ah.nil)
def aS : Bool := decide (ab a ≥ ab b) && a.take (ab b).toNat == b
def bf : Str := bif aS a b then a.drop (ab b).toNat else a
def cg : Bool := aC (bf s [100, 111, 110, 101, 46])
theorem te : ak Tryz.prog 143 [.s a, .s b] [] (.tup [.s (bf a b), .b (aS a b)]) [] := by
 refine dg II Tryz.func143 (.ite (!(decide (ab a ≥ ab b) && List.take ((ab b).toNat) a == b)) (.ret (.tup [.p (.str a), .p (.bool false)]) []) (.need ((0 : Int) ≤ ab b ∧ ab b ≤ (a.length : Int)) (.ret (.tup [.p (.str ((aw a (some (ab b)) none).2)), .p (.bool true)]) []))) fun Γ => ?_
 refine ⟨fun h => ⟨?_, rfl⟩, fun h => ⟨?_, ?_, rfl⟩⟩
 · have h' : aS a b = false := by
    have h2 : (!aS a b) = true := h
    simpa using h2
   simp [bf, h']
 · have h' : aS a b = true := by
    have h2 : (!aS a b) = false := h
    simpa using h2
   simp only [aS, af, decide_eq_true_eq] at h'
   have h1 : ab b = (b.length : Int) := rfl
   have h2 : ab a = (a.length : Int) := rfl
   omega
 · have h' : aS a b = true := by
    have h2 : (!aS a b) = false := h
    simpa using h2
   simp [bf, h', aw]
def xi : Ent := (143, fun
 | [.c (.pd (.str a)), .c (.pd (.str b))], [] => some (none, .tup [.c (.pd (.str (bf a b))), .c (.pd (.bool (aS a b)))], [])
 | _, _ => none)
theorem JV : EntOk Tryz.prog xi := entOk fun vs ck => by
 unfold xi; dsimp only; split
 · rename_i a b; exact entS fun hp => te a b
 · exact entN
def Bv : Cfg := ⟨a6, [xi]⟩
theorem C1 : ah Tryz.prog Bv.tab := (ah.cons JV ah.nil)
theorem uw : ak Tryz.prog 114 [.s a, .s b] [] (.tup [.s (bf a b), .b (aS a b)]) [] := by
 refine dg C1 Tryz.func114 (.ret (.tup [.p (.str (bf a b)), .p (.bool (aS a b))]) []) fun Γ => ?_
 exact ⟨rfl, rfl⟩
def p5 : Ent := (114, fun
 | [.c (.pd (.str a)), .c (.pd (.str b))], [] => some (none, .tup [.c (.pd (.str (bf a b))), .c (.pd (.bool (aS a b)))], [])
 | _, _ => none)
theorem mV : EntOk Tryz.prog p5 := entOk fun vs ck => by
 unfold p5; dsimp only; split
 · rename_i a b; exact entS fun hp => uw a b
 · exact entN
end Go.Proofs.YtpfidgnkokidoaaGreatDoor
namespace Go.Proofs.YtpfidgnkokidoaaGreatDoor
open Go Go.Ev
set_option maxRecDepth 100000
def BJ : Cfg := ⟨a6, [gG]⟩
theorem Ep : ah Tryz.prog BJ.tab := (ah.cons fw ah.nil)
variable (op a : Int) (l : List Cell) (s : Str) (Γ : Ctx)
theorem DE : ak Tryz.prog 105 [.agg [.i op, .i a, .pd (.str s)]] [] (.x (.i (dU op a s))) [] := by
 refine dg Ep Tryz.func105 (let x1 : Tree := (.ret (.i (-1 : Int)) []); let x2 : Tree := (.ite (a != (0 : Int) || !aC s) x1 (.ret (.i 0) [])); .ite (op == (1 : Int)) (.ite (decide (a < (0 : Int)) || decide (a > (1099511627776 : Int)) || !s == []) x1 (.ret (.i 0) [])) (.ite (op == (2 : Int)) (.ite (decide (a < (0 : Int)) || decide (a > (1048576 : Int)) || !s == []) x1 (.ret (.i 0) [])) (.ite (op == (5 : Int)) x2 (.ite (op == (6 : Int)) x2 (.ite (decide (op < (3 : Int)) || decide (op > (23 : Int)) || a != (0 : Int) || !s == []) x1 (.ite (decide (op ≤ (4 : Int))) (.ret (.i 0) []) (.ite (decide (op ≤ (10 : Int))) (.ret (.i 1) []) (.ret (.i 2) [])))))))) fun Γ => ?_
 conv => zeta
 (repeat' (first | intro h | constructor)) <;> simp only [dU, *, cond_true, cond_false]
def pk : Ent := (105, fun
 | [.agg [.pd (.int .i64 op), .pd (.int .i64 a), .pd (.str s)]], [] => some (none, .x (.c (.pd (.int .i64 (dU op a s)))), [])
 | _, _ => none)
theorem ve : EntOk Tryz.prog pk := entOk fun vs ck => by
 unfold pk; dsimp only; split
 · rename_i op a s; exact entS fun hp => DE op a s
 · exact entN
def rN : Cfg := ⟨a6, [pk]⟩
theorem q8 : ah Tryz.prog rN.tab := (ah.cons ve ah.nil)
abbrev zNr1 : List PI := [.code [1, 1, 1, 0, 1, 0, 0], .inLoop [1, 1, 1, 0, 1, 0, 0], .inBlock 0, .code [1, 1, 1, 1]]
theorem Ck (hl : l.length ≤ 32) : ∀ (n k : Nat) (m : Int), l.length - k ≤ n → k ≤ l.length → 0 ≤ m → m ≤ k →
 J Tryz.prog 103 (az Tryz.f103) Γ (Eq2 (.x (.b (gC (l.drop k) m))) []) zNr1 ({ n := 32, fr := [(2, .p (.bool false)), (3, .i m), (10, .p (.lst .cell l)), (11, .i l.length), (12, .i k)], ck := [], kn := [2] }) := by
 intro n
 induction n with
 | zero => ?_
 | succ n ih => ?_
 all_goals
  intro k m hn hk h0 hm
  refine jg q8 Tryz.func103 (let x1 := (Cell.name (ETy.get .cell l k)); let x2 := (Cell.op (ETy.get .cell l k)); let x3 := (Cell.a (ETy.get .cell l k)); .ite (decide ((k : Int) < (l.length : Int))) (.need (inRg k l.length) (.ite (decide (dU x2 x3 x1 < (0 : Int)) || decide (dU x2 x3 x1 > m)) (.ret (.p (.bool false)) []) (.stop zNr1 { n := 32, fr := [(2, .p (.bool false)), (3, .i (IntKind.wrap .i64 (m + IntKind.wrap .i64 ((1 : Int) - dU x2 x3 x1)))), (10, .p (.lst .cell l)), (11, .i l.length), (12, .i (IntKind.wrap .i64 ((k : Int) + 1)))], ck := [], kn := [2] }))) (.ret (.p (.bool (m == (1 : Int)))) [])) ?_
  conv => zeta
  refine ⟨fun hlt => ⟨?_, ?_⟩, fun hge => ⟨?_, rfl⟩⟩
  · have := of_decide_eq_true hlt; omega
  · have hk' : k < l.length := by have := of_decide_eq_true hlt; omega
    rw [dw (t := .cell) hk']
    generalize ETy.get .cell l k = c
    refine ⟨fun hb => ⟨?_, rfl⟩, fun hb => ?_⟩
    · have hb' : (decide (bQ c < 0) || decide (bQ c > m)) = true := hb
      simp only [gC, hb', cond_true]
    · have hb' : (decide (bQ c < 0) || decide (bQ c > m)) = false := hb
      have hw : 0 ≤ bQ c ∧ bQ c ≤ m := by
       simp only [aq, decide_eq_false_iff_not] at hb'
       omega
      simp only [gC, hb', cond_false]
      show J Tryz.prog 103 (az Tryz.f103) Γ _ zNr1 ({ n := 32, fr := [(2, .p (.bool false)), (3, .i (IntKind.wrap .i64 (m + IntKind.wrap .i64 (1 - bQ c)))), (10, .p (.lst .cell l)), (11, .i l.length), (12, .i (IntKind.wrap .i64 ((k : Int) + 1)))], ck := [], kn := [2] })
      rw [bG (n := 1 - bQ c) (by omega) (by omega), bG (by omega) (by omega), cU (by omega)]
      first
      | (exfalso; omega)
      | exact ih (k + 1) (m + (1 - bQ c)) (by omega) (by omega) (by omega) (by omega)
  · rw [dy (by have := of_decide_eq_false hge; omega)]; rfl
theorem Eh : ak Tryz.prog 103 [.l .cell l] [] (.x (.b (ir l))) [] := by
 refine dg q8 Tryz.func103 (.ite (decide ((l.length : Int) > 32)) (.ret (.p (.bool false)) []) (.stop zNr1 { n := 32, fr := [(2, .p (.bool false)), (3, .i 0), (10, .p (.lst .cell l)), (11, .i l.length), (12, .i 0)], ck := [], kn := [2] })) fun Γ => ?_
 refine ⟨fun h => ⟨by simp only [ir, h]; rfl, rfl⟩, fun h => ?_⟩
 have hl : l.length ≤ 32 := by have := of_decide_eq_false h; omega
 simp only [ir, h]
 exact Ck l Γ hl l.length 0 0 (by omega) (by omega) (by omega) (by omega)
def pZ : Ent := (103, fun
 | [.c (.pd (.lst .cell l))], [] => some (none, .x (.c (.pd (.bool (ir l)))), [])
 | _, _ => none)
theorem vm : EntOk Tryz.prog pZ := entOk fun vs ck => by
 unfold pZ; dsimp only; split
 · rename_i l; exact entS fun hp => Eh l
 · exact entN
theorem Jq (c : Cell) (h : bQ c ≥ 0) : (bQ c = 0 ∧ c.op < 7) ∨ (bQ c = 1 ∧ 7 ≤ c.op ∧ c.op < 11) ∨ (bQ c = 2 ∧ 11 ≤ c.op) := by
 revert h
 unfold bQ dU
 simp only [cond_eq_ite, beq_iff_eq, aA, decide_eq_true_eq, bne_iff_ne]
 intro h
 (repeat' split at h) <;> (repeat' split) <;> omega
inductive Tm where
 | leaf (c : Cell)
 | un (c : Cell) (t : Tm)
 | bin (c : Cell) (t u : Tm)
def Tm.flat : Tm → List Cell
 | .leaf c => [c]
 | .un c t => t.flat ++ [c]
 | .bin c t u => t.flat ++ u.flat ++ [c]
def Tm.ok : Tm → Prop
 | .leaf c => bQ c = 0
 | .un c t => bQ c = 1 ∧ t.ok
 | .bin c t u => bQ c = 2 ∧ t.ok ∧ u.ok
def E8 : Cfg := ⟨a6, [jb]⟩
theorem EH : ah Tryz.prog E8.tab := (ah.cons gD ah.nil)
theorem AL (s : List UInt8) :
 (bif (!((op == 5 || op == 6) == decide (ab s > 0)) || (op == 5 || op == 6) && !aC s || !(op == 1 || op == 2) && a != 0 || decide (a < 0)) then (-1 : Int)
  else bif (op == 1 && decide (a > 1099511627776) || op == 2 && decide (a > 1048576) || decide (op < 1) || decide (op > 23)) then -1
  else bif decide (op ≤ 6) then 0 else bif decide (op ≤ 10) then 1 else 2) = dU op a s := by
 have hs : decide (ab s > 0) = !(s == []) := by cases s <;> simp [ab]
 rw [hs]
 have hn : (s == []) = true → aC s = false := by
  intro h; have : s = [] := by simpa using h
  subst this; rfl
 unfold dU
 generalize hx : (s == []) = x at *
 generalize aC s = y at *
 by_cases h1 : op = 1
 · subst h1
   cases x <;> simp [cond_eq_ite] <;> (repeat' split) <;> omega
 · by_cases h2 : op = 2
   · subst h2
     cases x <;> simp [cond_eq_ite] <;> (repeat' split) <;> omega
   · by_cases h5 : op = 5
     · subst h5
       cases x <;> cases y <;> simp_all [cond_eq_ite] <;> (repeat' split) <;> omega
     · by_cases h6 : op = 6
       · subst h6
         cases x <;> cases y <;> simp_all [cond_eq_ite] <;> (repeat' split) <;> omega
       · cases x <;> simp_all [cond_eq_ite] <;> (repeat' split) <;> omega
theorem wG : ak Tryz.prog 140 [.agg [.i op, .i a, .pd (.str s)]] [] (.x (.i (dU op a s))) [] := by
 rw [← AL]
 refine dg EH Tryz.func140 (.ite (!(op == (5 : Int) || op == (6 : Int)) == decide (ab s > (0 : Int)) || (op == (5 : Int) || op == (6 : Int)) && !aC s || !(op == (1 : Int) || op == (2 : Int)) && a != (0 : Int) || decide (a < (0 : Int))) (.ret (.i (-1 : Int)) []) (.ite (op == (1 : Int) && decide (a > (1099511627776 : Int)) || op == (2 : Int) && decide (a > (1048576 : Int)) || decide (op < (1 : Int)) || decide (op > (23 : Int))) (.ret (.i (-1 : Int)) []) (.ite (decide (op ≤ (6 : Int))) (.ret (.i 0) []) (.ite (decide (op ≤ (10 : Int))) (.ret (.i 1) []) (.ret (.i 2) []))))) fun Γ => ?_
 refine ⟨fun h => ?_, fun h => ⟨fun h1 => ?_, fun h1 => ⟨fun h2 => ?_, fun h2 => ⟨fun h3 => ?_, fun h3 => ?_⟩⟩⟩⟩
 all_goals
  refine ⟨?_, rfl⟩
  simp only [*, cond_true, cond_false]
def Ap : Ent := (140, fun
 | [.agg [.pd (.int .i64 op), .pd (.int .i64 a), .pd (.str s)]], [] => some (none, .x (.c (.pd (.int .i64 (dU op a s)))), [])
 | _, _ => none)
theorem BO : EntOk Tryz.prog Ap := entOk fun vs ck => by
 unfold Ap; dsimp only; split
 · rename_i op a s; exact entS fun hp => wG op a s
 · exact entN
def yP : Cfg := ⟨a6, [Ap]⟩
theorem wo : ah Tryz.prog yP.tab := (ah.cons BO ah.nil)
abbrev zNr2 : List PI := [.code [1, 1, 0, 1, 0, 0], .inLoop [1, 1, 0, 1, 0, 0], .inBlock 0, .code [1, 1, 1]]
theorem uO : ∀ (n k : Nat) (m : Int), 33 - k ≤ n → k ≤ l.length → k ≤ 32 → 0 ≤ m → m ≤ k →
 J Tryz.prog 112 (az Tryz.f112) Γ (Eq2 (.x (.b (!decide ((l.length : Int) > 32) && gC (l.drop k) m))) []) zNr2 ({ n := 34, fr := [(0, .p (.lst .cell l)), (2, .p (.bool false)), (3, .i m), (4, .i k)], ck := [], kn := [2] }) := by
 intro n
 induction n with
 | zero => intro k m h1 h2 h3; omega
 | succ n ih => ?_
 intro k m hn hk hk32 hm0 hm
 refine jg wo Tryz.func112 (let x1 := (Cell.name (ETy.get .cell l k)); let x2 := (Cell.op (ETy.get .cell l k)); let x3 := (Cell.a (ETy.get .cell l k)); .ite (decide ((k : Int) < (l.length : Int))) (.need (inRg k l.length) (.ite (decide (dU x2 x3 x1 < (0 : Int)) || decide (m < dU x2 x3 x1) || decide ((k : Int) ≥ 32)) (.ret (.p (.bool false)) []) (.stop zNr2 { n := 34, fr := [(0, .p (.lst .cell l)), (2, .p (.bool false)), (3, .i (IntKind.wrap .i64 (IntKind.wrap .i64 (m - dU x2 x3 x1) + (1 : Int)))), (4, .i (IntKind.wrap .i64 ((k : Int) + 1)))], ck := [], kn := [2] }))) (.ret (.p (.bool (m == (1 : Int)))) [])) ?_
 conv => zeta
 refine ⟨fun hlt => ?_, fun hge => ⟨?_, rfl⟩⟩
 · have hk' : k < l.length := by have := of_decide_eq_true hlt; omega
   refine ⟨⟨by omega, by omega⟩, ?_⟩
   rw [dw (t := .cell) hk']
   generalize ETy.get .cell l k = c
   refine ⟨fun h => ⟨?_, rfl⟩, fun h => ?_⟩
   · have h' : (decide (bQ c < 0) || decide (m < bQ c) || decide ((k : Int) ≥ 32)) = true := h
     simp only [aA] at h'
     have e : (!decide ((l.length : Int) > 32) && gC (c :: l.drop (k + 1)) m) = false := by
      rcases h' with h | h
      · have h' : (decide (bQ c < 0) || decide (bQ c > m)) = true := by
         rcases h with h | h
         · rw [h]; rfl
         · have : decide (bQ c > m) = true := h
           rw [this, Bool.or_true]
        simp only [gC, h', cond_true, bu]
      · have : decide ((l.length : Int) > 32) = true := decide_eq_true (by have := of_decide_eq_true h; omega)
        rw [this]; rfl
     rw [e]
   · have h' : (decide (bQ c < 0) || decide (m < bQ c) || decide ((k : Int) ≥ 32)) = false := h
     simp only [aq] at h'
     have h1 := of_decide_eq_false h'.1.1
     have h2 := of_decide_eq_false h'.1.2
     have h3 := of_decide_eq_false h'.2
     show J Tryz.prog 112 (az Tryz.f112) Γ _ zNr2 ({ n := 34, fr := [(0, .p (.lst .cell l)), (2, .p (.bool false)), (3, .i (IntKind.wrap .i64 (IntKind.wrap .i64 (m - bQ c) + 1))), (4, .i (IntKind.wrap .i64 ((k : Int) + 1)))], ck := [], kn := [2] })
     have e1 : IntKind.wrap IntKind.i64 (IntKind.wrap IntKind.i64 (m - bQ c) + 1) = m + (1 - bQ c) := by
      rw [bG (n := m - _) (by omega) (by omega), bG (by omega) (by omega)]; omega
     have e2 : gC (c :: l.drop (k + 1)) m = gC (l.drop (k + 1)) (m + (1 - bQ c)) := by
      have hb' : (decide (bQ c < 0) || decide (bQ c > m)) = false := by
       rw [aq]; exact ⟨decide_eq_false h1, decide_eq_false (by omega)⟩
      simp only [gC, hb', cond_false]
     rw [e1, e2, cU (by omega)]
     exact ih (k + 1) (m + (1 - bQ c)) (by omega) (by omega) (by omega) (by omega) (by omega)
 · have h2 := of_decide_eq_false hge
   rw [dy (by omega), gC, show decide ((l.length : Int) > 32) = false from decide_eq_false (by omega)]; rfl
theorem uU : ak Tryz.prog 112 [.l .cell l] [] (.x (.b (ir l))) [] := by
 refine dg wo Tryz.func112 (.stop zNr2 { n := 34, fr := [(0, .p (.lst .cell l)), (2, .p (.bool false)), (3, .i 0), (4, .i 0)], ck := [], kn := [2] }) fun Γ => ?_
 exact uO l Γ 33 0 0 (by omega) (by omega) (by omega) (by omega) (by omega)
def qE : Ent := (112, fun
 | [.c (.pd (.lst .cell l))], [] => some (none, .x (.c (.pd (.bool (ir l)))), [])
 | _, _ => none)
theorem DQ : EntOk Tryz.prog qE := entOk fun vs ck => by
 unfold qE; dsimp only; split
 · rename_i l; exact entS fun hp => uU l
 · exact entN
end Go.Proofs.YtpfidgnkokidoaaGreatDoor

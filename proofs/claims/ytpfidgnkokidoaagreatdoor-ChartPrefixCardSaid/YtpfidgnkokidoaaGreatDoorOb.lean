/- Contracts of the document's reader of expressions: its small steps. Conditions: places within the text. Numbers told by the document. Conditions: an int64. Trees' texts; what is told is read to the tree that it was. Conditions: none. The contract of the program's expr.Show. Conditions: none. -/
import Derived.Test.YtpfidgnkokidoaaGreatDoorNc
import Derived.Test.YtpfidgnkokidoaaGreatDoorMe
import Derived.Test.YtpfidgnkokidoaaGreatDoorVb
import Derived.Lib.ItoaMem
import Derived.Test.YtpfidgnkokidoaaGreatDoorKd
import Derived.Test.YtpfidgnkokidoaaGreatDoorMd
namespace Go.Proofs.YtpfidgnkokidoaaGreatDoor
open Go Go.Ev
set_option maxRecDepth 100000
variable (s : Str) (pos : Int) (out : List Cell) (wt : List Wait)
abbrev mkA : List Chunk := [Chunk.cells [SC.pd (PD.str s), SC.i pos, SC.own 1, SC.own 2] 209, Chunk.own 92 ETy.cell out, Chunk.own 238 ETy.wait wt]
abbrev mkB : List Chunk := [Chunk.cells [SC.pd (PD.str s), SC.i (pos), SC.own 3, SC.own 4] 209, Chunk.dead, Chunk.dead, Chunk.own 92 ETy.cell (out), Chunk.own 238 ETy.wait (wt)]
def Fj : Nat → Nat
 | 1 => 3
 | 2 => 4
 | n => n
def Ft : Nat → Nat
 | 3 => 1
 | 4 => 2
 | n => n
theorem rnA : RnW Fj Ft 3 (mkA s pos out wt) (mkB s pos out wt) := by
 refine ⟨fun j x' h => ?_, fun j hj => ?_⟩
 · match j, h with
   | 0, h => right; exact ⟨_, rfl, (al h).symm, rfl, by simp [Chunk.refs, SC.refs, Fj, Ft]⟩
   | 1, h => left; simpa using h.symm
   | 2, h => left; simpa using h.symm
   | 3, h => right; exact ⟨_, rfl, (al h).symm, rfl, by simp [Chunk.refs]⟩
   | 4, h => right; exact ⟨_, rfl, (al h).symm, rfl, by simp [Chunk.refs]⟩
   | j + 5, h => simp at h
 · match j, hj with
   | 0, _ => rfl
   | 1, _ => rfl
   | 2, _ => rfl
def McQ (ret : SV) (pos : Int) (out : List Cell) (wt : List Wait) : Out := fun v c => v = ret ∧ Rn 3 c (mkB s pos out wt)
theorem McQ.a {s : Str} {ret : SV} {pos : Int} {out : List Cell} {wt : List Wait} {c : List Chunk} (h : c = mkA s pos out wt) : McQ s ret pos out wt ret c := ⟨rfl, by rw [h]; exact ⟨_, _, rnA s pos out wt⟩⟩
theorem McQ.b {s : Str} {ret : SV} {pos : Int} {out : List Cell} {wt : List Wait} {c : List Chunk} (h : c = mkB s pos out wt) : McQ s ret pos out wt ret c := ⟨rfl, by rw [h]; exact Rn.refl 3 _⟩
/-! ### signs -/
/-! ### what waits -/
/-! ### plain -/
theorem nA : ∀ (l : List UInt8) (a : Nat) (c : UInt8), cR a (l ++ [c]) = 10 * cR a l + (c.toNat - 48)
 | [], a, c => rfl
 | d :: r, a, c => nA r (10 * a + (d.toNat - 48)) c
theorem ry {r : Nat} (h : r < 10) : (UInt8.ofNat (48 + r)).toNat = 48 + r := by
 simp only [UInt8.toNat_ofNat']; omega
theorem kr (u : Nat) : (Lib.decDigits u).all isD = true ∧ Lib.decDigits u ≠ [] ∧ cR 0 (Lib.decDigits u) = u ∧ (1 ≤ u → ((Lib.decDigits u).getD 0 0).toNat ≠ 48) ∧ (u < 10 → (Lib.decDigits u).length = 1) := by
 induction u using Nat.strongRecOn with
 | _ u ih =>
   by_cases h : u < 10
   · have e : Lib.decDigits u = [UInt8.ofNat (48 + u)] := Lib.decDigits_one h
     have ed := ry h
     rw [e]
     refine ⟨?_, by simp, ?_, fun h1 => ?_, fun _ => rfl⟩
     · simp only [bq, List.all_nil, dk, isD, ed, af, decide_eq_true_eq]; omega
     · show 10 * 0 + ((UInt8.ofNat (48 + u)).toNat - 48) = u
       rw [ed]; omega
     · show (UInt8.ofNat (48 + u)).toNat ≠ 48
       rw [ed]; omega
   · have e : Lib.decDigits u = Lib.decDigits (u / 10) ++ [UInt8.ofNat (48 + u % 10)] := by rw [Lib.decDigits, dif_neg h]
     have hm : u % 10 < 10 := Nat.mod_lt _ (by omega)
     have ed := ry hm
     obtain ⟨i1, i2, i3, i4, _⟩ := ih (u / 10) (by omega)
     rw [e]
     refine ⟨?_, by simp, ?_, fun _ => ?_, fun h2 => absurd h2 h⟩
     · rw [cv, i1]
       simp only [bq, List.all_nil, dk, eV, isD, ed, af, decide_eq_true_eq]; omega
     · rw [nA, i3, ed]; omega
     · have := i4 (by omega)
       cases hd : Lib.decDigits (u / 10) with
       | nil => exact absurd hd i2
       | cons c r => rw [hd] at this; exact this
theorem Cg (n : Int) : a7 (Lib.itoa n) = if n < -1099511627776 ∨ 1099511627776 < n then (0, 5) else (n, 0) := by
 by_cases hn : n < 0
 · have e : Lib.itoa n = 45 :: Lib.decDigits n.natAbs := by unfold Lib.itoa; rw [if_pos hn]
   obtain ⟨i1, i2, i3, i4, _⟩ := kr n.natAbs
   rw [e, a7, eS, (jO _).1, (jO _).2, i1, i3]
   have h4 := i4 (by omega)
   have hb : (Lib.decDigits n.natAbs == [] || !true || (((Lib.decDigits n.natAbs).getD 0 0).toNat : Int) == 48 && (decide (ae (Lib.decDigits n.natAbs) > 1) || true)) = false := by
    have h5 : ((((Lib.decDigits n.natAbs).getD 0 0).toNat : Int) == 48) = false := by rw [beq_eq_false_iff_ne]; omega
    rw [h5]; simp [i2]
   rw [hb, if_neg (by simp)]
   by_cases hr : n < -1099511627776
   · rw [if_pos (by omega), if_pos (.inl hr)]
   · rw [if_neg (by omega), if_pos rfl, if_neg (by omega)]
     congr 1; omega
 · have e : Lib.itoa n = Lib.decDigits n.toNat := by unfold Lib.itoa; rw [if_neg hn]
   obtain ⟨i1, i2, i3, i4, i5⟩ := kr n.toNat
   cases hd : Lib.decDigits n.toNat with
   | nil => exact absurd hd i2
   | cons c r =>
     have hc : c ≠ 45 := by
      rw [hd] at i1
      simp only [bq, af, isD, decide_eq_true_eq] at i1
      intro hc; subst hc; simp at i1
     rw [e, hd, a7, eS, (iu r hc).1, (iu r hc).2, ← hd, i1, i3]
     have hb : (Lib.decDigits n.toNat == [] || !true || (((Lib.decDigits n.toNat).getD 0 0).toNat : Int) == 48 && (decide (ae (Lib.decDigits n.toNat) > 1) || false)) = false := by
      by_cases h1 : 1 ≤ n.toNat
      · have h5 : ((((Lib.decDigits n.toNat).getD 0 0).toNat : Int) == 48) = false := by have := i4 h1; rw [beq_eq_false_iff_ne]; omega
        rw [h5]; simp [i2]
      · have h5 : decide (ae (Lib.decDigits n.toNat) > 1) = false := by
         have := i5 (by omega)
         refine decide_eq_false ?_
         show ¬ ((Lib.decDigits n.toNat).length : Int) > 1
         omega
        rw [h5]; simp [i2]
     rw [hb, if_neg (by simp)]
     by_cases hr : 1099511627776 < n
     · rw [if_pos (by omega), if_pos (.inr hr)]
     · rw [if_neg (by omega), if_neg (by simp), if_neg (by omega)]
       congr 1; omega
/-! ### the walk -/
/-! ### cells -/
theorem EY {c : Cell} (h : bI c = 1) : c = ⟨7, 0, []⟩ ∨ c = ⟨8, 0, []⟩ ∨ c = ⟨9, 0, []⟩ ∨ c = ⟨10, 0, []⟩ := by
 obtain ⟨op, a, nm⟩ := c
 simp only [bI, eI, cond_eq_ite] at h
 repeat' (split at h)
 all_goals first | (exfalso; omega) | skip
 rename_i h1 h2 h3 h4 h5 h6 h7
 simp only [aF, decide_eq_true_eq, bne_iff_ne, aC, beq_eq_false_iff_ne, not_or, ne_eq, Classical.not_not, beq_iff_eq] at h1 h2 h3 h4 h5 h6 h7
 obtain ⟨⟨⟨h51, h52⟩, h53⟩, h54⟩ := h5
 subst h53 h54
 have : op = 7 ∨ op = 8 ∨ op = 9 ∨ op = 10 := by omega
 rcases this with rfl | rfl | rfl | rfl <;> simp
theorem Cb {c : Cell} (h : bI c = 2) : c = ⟨c.op, 0, []⟩ ∧ 11 ≤ c.op ∧ c.op ≤ 23 := by
 obtain ⟨op, a, nm⟩ := c
 simp only [bI, eI, cond_eq_ite] at h
 repeat' (split at h)
 all_goals first | (exfalso; omega) | skip
 rename_i h1 h2 h3 h4 h5 h6 h7
 simp only [aF, decide_eq_true_eq, bne_iff_ne, aC, beq_eq_false_iff_ne, not_or, ne_eq, Classical.not_not, beq_iff_eq] at h1 h2 h3 h4 h5 h6 h7
 obtain ⟨⟨⟨h51, h52⟩, h53⟩, h54⟩ := h5
 subst h53 h54
 exact ⟨rfl, by show 11 ≤ op; omega, by show op ≤ 23; omega⟩
theorem ru {c : Cell} (h : bI c = 0) : (∃ a, c = ⟨1, a, []⟩ ∧ 0 ≤ a ∧ a ≤ 1099511627776) ∨ (∃ a, c = ⟨2, a, []⟩ ∧ 0 ≤ a ∧ a ≤ 1048576) ∨ c = ⟨3, 0, []⟩ ∨ c = ⟨4, 0, []⟩ ∨ (∃ n, c = ⟨5, 0, n⟩ ∧ aP n = true) ∨ (∃ n, c = ⟨6, 0, n⟩ ∧ aP n = true) := by
 obtain ⟨op, a, nm⟩ := c
 simp only [bI, eI, cond_eq_ite] at h
 repeat' (split at h)
 all_goals first | (exfalso; omega) | skip
 · rename_i h1 h2
   simp only [aF, decide_eq_true_eq, aC, beq_eq_false_iff_ne, not_or, ne_eq, Classical.not_not, beq_iff_eq] at h1 h2
   obtain ⟨⟨h3, h4⟩, h5⟩ := h2
   subst h1 h5
   exact .inl ⟨a, rfl, by omega, by omega⟩
 · rename_i h0 h1 h2
   simp only [aF, decide_eq_true_eq, aC, beq_eq_false_iff_ne, not_or, ne_eq, Classical.not_not, beq_iff_eq] at h1 h2
   obtain ⟨⟨h3, h4⟩, h5⟩ := h2
   subst h1 h5
   exact .inr (.inl ⟨a, rfl, by omega, by omega⟩)
 · rename_i h1 h2 h3 h4
   simp only [aF, bne_iff_ne, aC, not_or, ne_eq, Classical.not_not, beq_iff_eq, Bool.not_eq_false] at h3 h4
   obtain ⟨h5, h6⟩ := h4
   subst h3 h5
   exact .inr (.inr (.inr (.inr (.inl ⟨nm, rfl, h6⟩))))
 · rename_i h1 h2 h3 h4 h5
   simp only [aF, bne_iff_ne, aC, not_or, ne_eq, Classical.not_not, beq_iff_eq, Bool.not_eq_false] at h4 h5
   obtain ⟨h6, h7⟩ := h5
   subst h4 h6
   exact .inr (.inr (.inr (.inr (.inr ⟨nm, rfl, h7⟩))))
 · rename_i h1 h2 h3 h4 h5 h6
   simp only [aF, decide_eq_true_eq, bne_iff_ne, aC, beq_eq_false_iff_ne, not_or, ne_eq, Classical.not_not, beq_iff_eq] at h1 h2 h3 h4 h5 h6
   obtain ⟨⟨⟨h51, h52⟩, h53⟩, h54⟩ := h5
   subst h53 h54
   have : op = 3 ∨ op = 4 := by omega
   rcases this with rfl | rfl
   · exact .inr (.inr (.inl rfl))
   · exact .inr (.inr (.inr (.inl rfl)))
/-! ### texts -/
def sj (c : Cell) : Str := bif c.op == 1 then Lib.itoa c.a else bif c.op == 2 then Lib.itoa c.a ++ [105] else bif c.op == 3 then fM else bif c.op == 4 then gl else bif c.op == 6 then [105, 110, 40] ++ c.name ++ [41] else c.name
def iC (p : Int) (b : Str) (least : Int) : Str := bif decide (p < least) then [40] ++ b ++ [41] else b
def jL (p : Int) : Int := bif p == 3 then 4 else p
def Tm.top : Tm → Cell
 | .leaf c => c
 | .un c _ => c
 | .bin c _ _ => c
def Tm.pow (t : Tm) : Int := (aI t.top.op).2
def unS (op : Int) (b : Str) (p : Int) : Str := bif op == 9 then [114, 101, 40] ++ b ++ [41] else bif op == 10 then [105, 109, 40] ++ b ++ [41] else (aI op).1 ++ iC p b 6
def FC (op : Int) (b : Str) (p : Int) (d : Str) (q : Int) : Str := iC p b (jL (aI op).2) ++ (aI op).1 ++ iC q d ((aI op).2 + 1)
def Tm.body : Tm → Str
 | .leaf c => sj c
 | .un c t => unS c.op t.body t.pow
 | .bin c t u => FC c.op t.body t.pow u.body u.pow
def Tm.tin (t : Tm) (p : Int) : Str := iC t.pow t.body p
theorem Cf {op : Int} (h1 : 11 ≤ op) (h2 : op ≤ 23) : 1 ≤ (aI op).2 ∧ (aI op).2 ≤ 5 := by
 have h : op = 11 ∨ op = 12 ∨ op = 13 ∨ op = 14 ∨ op = 15 ∨ op = 16 ∨ op = 17 ∨ op = 18 ∨ op = 19 ∨ op = 20 ∨ op = 21 ∨ op = 22 ∨ op = 23 := by omega
 rcases h with rfl | rfl | rfl | rfl | rfl | rfl | rfl | rfl | rfl | rfl | rfl | rfl | rfl <;> decide
theorem Tm.pow_bounds {t : Tm} (h : t.ok) : 1 ≤ t.pow ∧ t.pow ≤ 7 := by
 cases t with
 | leaf c =>
   rcases ru h with ⟨a, rfl, _⟩ | ⟨a, rfl, _⟩ | rfl | rfl | ⟨n, rfl, _⟩ | ⟨n, rfl, _⟩
   all_goals first | (show 1 ≤ (7 : Int) ∧ (7 : Int) ≤ 7; omega)
 | un c u =>
   rcases EY h.1 with rfl | rfl | rfl | rfl
   all_goals first | (show 1 ≤ (7 : Int) ∧ (7 : Int) ≤ 7; omega) | (show 1 ≤ (6 : Int) ∧ (6 : Int) ≤ 7; omega)
 | bin c u v =>
   obtain ⟨_, h1, h2⟩ := Cb h.1
   have := Cf h1 h2
   show 1 ≤ (aI c.op).2 ∧ (aI c.op).2 ≤ 7
   omega
theorem Tm.tin_body {t : Tm} {p : Int} (h : p ≤ t.pow) : t.tin p = t.body := by
 unfold Tm.tin iC
 rw [decide_eq_false (by omega)]; rfl
theorem Tm.tin_paren {t : Tm} {p : Int} (h : t.pow < p) : t.tin p = [40] ++ t.body ++ [41] := by
 unfold Tm.tin iC
 rw [decide_eq_true h]; rfl
/-! ### where a text stands -/
structure At (s : Str) (k : Int) (x : Str) : Prop where
 low : 0 ≤ k
 high : k ≤ ae s
 eq : s.drop k.toNat = x
variable {s : Str}
theorem At.len {k : Int} {x : Str} (h : At s k x) : k + ae x = ae s := by
 have h1 := h.low; have h2 := h.high
 have h3 : (s.drop k.toNat).length = x.length := by rw [h.eq]
 rw [ba] at h3
 simp only [ae] at *; omega
theorem du (a b : Str) : ae (a ++ b) = ae a + ae b := by simp [ae]
theorem At.app {k : Int} {a b : Str} (h : At s k (a ++ b)) : At s (k + ae a) b := by
 have h1 := h.low
 have h2 := h.len
 rw [du] at h2
 refine ⟨by simp only [ae] at *; omega, by simp only [ae] at *; omega, ?_⟩
 have e : (k + ae a).toNat = k.toNat + a.length := by simp only [ae]; omega
 rw [e, ← dW, h.eq, dV]
theorem At.to {k m : Int} {a b : Str} (h : At s k (a ++ b)) (e : m = k + ae a) : At s m b := by rw [e]; exact h.app
theorem At.cons {k : Int} {c : UInt8} {x : Str} (h : At s k (c :: x)) : k < ae s ∧ s.getD k.toNat 0 = c ∧ bJ s k = (c.toNat : Int) := by
 have h1 := h.len
 have h2 : ae (c :: x) = (x.length : Int) + 1 := by simp [ae]
 have h3 : s.getD k.toNat 0 = c := by
  have := congrArg (fun l : List UInt8 => l[0]?) h.eq
  simp only [List.getElem?_drop, bC, List.getElem?_cons_zero] at this
  rw [List.getD_eq_getElem?_getD, this]; rfl
 exact ⟨by omega, h3, by unfold bJ; rw [h3]⟩
theorem At.nil {k : Int} (h : At s k []) : k = ae s := by
 have h1 := h.len
 have : ae ([] : Str) = 0 := rfl
 omega
def DL : Str → Prop
 | [] => True
 | a :: _ => gT a = false ∧ a ≠ 40
def Cw (p : Int) (x : Str) : Prop := (bG x).1 = 0 ∨ (aI (bG x).1).2 ≤ p
theorem Cw.mono {p q : Int} {x : Str} (h : Cw p x) (hq : p ≤ q) : Cw q x := by
 rcases h with h | h
 · exact .inl h
 · exact .inr (by omega)
theorem tS {p : UInt8 → Bool} : ∀ {a b : List UInt8}, a.all p = true → (∀ c r, b = c :: r → p c = false) → (a ++ b).takeWhile p = a
 | [], [], _, _ => rfl
 | [], c :: r, _, h => by rw [cu, cX, if_neg (by rw [h c r rfl]; simp)]
 | c :: a, b, h1, h2 => by
   simp only [bq, af] at h1
   rw [bE, cX, if_pos h1.1, tS h1.2 h2]
theorem DL.word {x : Str} (h : DL x) : ∀ c r, x = c :: r → gT c = false := by
 intro c r e; subst e; exact h.1
theorem At.word {k : Int} {a b : Str} (h : At s k (a ++ b)) (ha : a.all gT = true) (hb : ∀ c r, b = c :: r → gT c = false) : az s k = a := by
 unfold az; rw [h.eq, tS ha hb]
theorem At.call {k : Int} {a b : Str} (h : At s k (a ++ b)) (ha : a.all gT = true) (hb : ∀ c r, b = c :: r → gT c = false) : fB s k = match b with | [] => false | c :: _ => c == 40 := by
 unfold fB
 rw [h.word ha hb]
 have h2 := h.app
 cases b with
 | nil => have := h2.nil; rw [decide_eq_false (by omega)]; rfl
 | cons c r =>
   obtain ⟨g1, _, g3⟩ := h2.cons
   rw [decide_eq_true g1, g3, eV]
   show ((c.toNat : Int) == 40) = (c == 40)
   rw [bZ, beq_iff_eq, beq_iff_eq]
   constructor
   · intro e; exact UInt8.toNat_inj.1 (by show c.toNat = 40; omega)
   · intro e; subst e; rfl
/-! ### operators -/
/-! ### what is told is read -/
/-! ### leaves -/
theorem BZ {a : Int} (h : 0 ≤ a) : Lib.itoa a = Lib.decDigits a.toNat := by
 unfold Lib.itoa; rw [if_neg (by omega)]
/-! ### trees -/
/-! ### lengths -/
theorem Aq (p : Int) (b : Str) (q : Int) : (iC p b q).length ≤ b.length + 2 := by
 unfold iC
 cases decide (p < q)
 · show b.length ≤ _; omega
 · show ([40] ++ b ++ [41]).length ≤ _
   simp only [aj, ak, au]; omega
/-! ### plain -/
def C7 (c : Cell) (st : List Piece) : List Piece :=
 if bI c = 0 then ⟨sj c, 7⟩ :: st
 else if bI c = 1 then (match st with
  | p :: r => ⟨unS c.op p.s p.power, (aI c.op).2⟩ :: r
  | [] => [])
 else (match st with
  | q :: p :: r => ⟨FC c.op p.s p.power q.s q.power, (aI c.op).2⟩ :: r
  | _ => [])
def AV : List Cell → List Piece → Str
 | [], p :: _ => p.s
 | [], [] => []
 | c :: r, st => AV r (C7 c st)
def DM (l : List Cell) : Str := AV l []
/-! ### the walk -/
end Go.Proofs.YtpfidgnkokidoaaGreatDoor

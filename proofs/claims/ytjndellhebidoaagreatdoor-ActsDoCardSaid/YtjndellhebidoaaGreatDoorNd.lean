/- Contracts of the document's reader of expressions: its small steps. Conditions: places within the text. Numbers told by the document. Conditions: an int64. -/
import Derived.Test.YtjndellhebidoaaGreatDoorNc
import Derived.Test.YtjndellhebidoaaGreatDoorMe
import Derived.Test.YtjndellhebidoaaGreatDoorPZ
import Derived.Lib.ItoaMem
namespace Go.Proofs.YtjndellhebidoaaGreatDoor
open Go Go.Ev
set_option maxRecDepth 100000
abbrev mkA (s : Str) (pos : Int) (out : List Cell) (wt : List Wait) : List Chunk := [Chunk.cells [SC.pd (PD.str s), SC.i pos, SC.own 1, SC.own 2] 125, Chunk.own 88 ETy.cell out, Chunk.own 155 ETy.wait wt]
abbrev mkB (s : Str) (pos : Int) (out : List Cell) (wt : List Wait) : List Chunk := [Chunk.cells [SC.pd (PD.str s), SC.i (pos), SC.own 3, SC.own 4] 125, Chunk.dead, Chunk.dead, Chunk.own 88 ETy.cell (out), Chunk.own 155 ETy.wait (wt)]
def up34 : Nat → Nat
  | 1 => 3
  | 2 => 4
  | n => n
def dn34 : Nat → Nat
  | 3 => 1
  | 4 => 2
  | n => n
theorem rnA (s : Str) (pos : Int) (out : List Cell) (wt : List Wait) : RnW up34 dn34 3 (mkA s pos out wt) (mkB s pos out wt) := by
  refine ⟨fun j x' h => ?_, fun j hj => ?_⟩
  · match j, h with
    | 0, h => right; exact ⟨_, rfl, (Option.some.inj h).symm, rfl, by simp [Chunk.refs, SC.refs, up34, dn34]⟩
    | 1, h => left; simpa using h.symm
    | 2, h => left; simpa using h.symm
    | 3, h => right; exact ⟨_, rfl, (Option.some.inj h).symm, rfl, by simp [Chunk.refs]⟩
    | 4, h => right; exact ⟨_, rfl, (Option.some.inj h).symm, rfl, by simp [Chunk.refs]⟩
    | j + 5, h => simp at h
  · match j, hj with
    | 0, _ => rfl
    | 1, _ => rfl
    | 2, _ => rfl
def McQ (s : Str) (ret : SV) (pos : Int) (out : List Cell) (wt : List Wait) : Out := fun v c => v = ret ∧ Rn 3 c (mkB s pos out wt)
theorem McQ.a {s : Str} {ret : SV} {pos : Int} {out : List Cell} {wt : List Wait} {c : List Chunk} (h : c = mkA s pos out wt) : McQ s ret pos out wt ret c := ⟨rfl, by rw [h]; exact ⟨_, _, rnA s pos out wt⟩⟩
theorem McQ.b {s : Str} {ret : SV} {pos : Int} {out : List Cell} {wt : List Wait} {c : List Chunk} (h : c = mkB s pos out wt) : McQ s ret pos out wt ret c := ⟨rfl, by rw [h]; exact Rn.refl 3 _⟩
/-! ### signs -/
/-! ### what waits -/

end Go.Proofs.YtjndellhebidoaaGreatDoor
namespace Go.Proofs.YtjndellhebidoaaGreatDoor
open Go Go.Ev
set_option maxRecDepth 100000
/-! ### plain -/
theorem valD_append : ∀ (l : List UInt8) (a : Nat) (c : UInt8), valD a (l ++ [c]) = 10 * valD a l + (c.toNat - 48)
  | [], a, c => rfl
  | d :: r, a, c => valD_append r (10 * a + (d.toNat - 48)) c
theorem digit_nat {r : Nat} (h : r < 10) : (UInt8.ofNat (48 + r)).toNat = 48 + r := by
  simp only [UInt8.toNat_ofNat']; omega
theorem dec_all (u : Nat) : (Lib.decDigits u).all isD = true ∧ Lib.decDigits u ≠ [] ∧ valD 0 (Lib.decDigits u) = u ∧ (1 ≤ u → ((Lib.decDigits u).getD 0 0).toNat ≠ 48) ∧ (u < 10 → (Lib.decDigits u).length = 1) := by
  induction u using Nat.strongRecOn with
  | _ u ih =>
    by_cases h : u < 10
    · have e : Lib.decDigits u = [UInt8.ofNat (48 + u)] := Lib.decDigits_one h
      have ed := digit_nat h
      rw [e]
      refine ⟨?_, by simp, ?_, fun h1 => ?_, fun _ => rfl⟩
      · simp only [List.all_cons, List.all_nil, Bool.and_true, isD, ed, Bool.and_eq_true, decide_eq_true_eq]; omega
      · show 10 * 0 + ((UInt8.ofNat (48 + u)).toNat - 48) = u
        rw [ed]; omega
      · show (UInt8.ofNat (48 + u)).toNat ≠ 48
        rw [ed]; omega
    · have e : Lib.decDigits u = Lib.decDigits (u / 10) ++ [UInt8.ofNat (48 + u % 10)] := by rw [Lib.decDigits, dif_neg h]
      have hm : u % 10 < 10 := Nat.mod_lt _ (by omega)
      have ed := digit_nat hm
      obtain ⟨i1, i2, i3, i4, _⟩ := ih (u / 10) (by omega)
      rw [e]
      refine ⟨?_, by simp, ?_, fun _ => ?_, fun h2 => absurd h2 h⟩
      · rw [List.all_append, i1]
        simp only [List.all_cons, List.all_nil, Bool.and_true, Bool.true_and, isD, ed, Bool.and_eq_true, decide_eq_true_eq]; omega
      · rw [valD_append, i3, ed]; omega
      · have := i4 (by omega)
        cases hd : Lib.decDigits (u / 10) with
        | nil => exact absurd hd i2
        | cons c r => rw [hd] at this; exact this
theorem ten_digits : ∀ (k u : Nat), u < 10 ^ k → (Lib.decDigits u).length ≤ k + 1
  | 0, u, h => by
    have : u < 10 := by simp at h; omega
    rw [Lib.decDigits_one this]; simp
  | k + 1, u, h => by
    by_cases h' : u < 10
    · rw [Lib.decDigits_one h']; simp
    · rw [Lib.decDigits, dif_neg h', List.length_append]
      have := ten_digits k (u / 10) (by rw [Nat.pow_succ] at h; omega)
      simp only [List.length_cons, List.length_nil]; omega
theorem itoa_len (n : Int) (h0 : -9223372036854775808 ≤ n) (h1 : n ≤ 9223372036854775807) : (Lib.itoa n).length ≤ 22 := by
  unfold Lib.itoa
  split
  · have := ten_digits 20 n.natAbs (by omega)
    simp only [List.length_cons]; omega
  · have := ten_digits 20 n.toNat (by omega); omega
theorem num_itoa (n : Int) : numM (Lib.itoa n) = if n < -1099511627776 ∨ 1099511627776 < n then (0, 5) else (n, 0) := by
  by_cases hn : n < 0
  · have e : Lib.itoa n = 45 :: Lib.decDigits n.natAbs := by unfold Lib.itoa; rw [if_pos hn]
    obtain ⟨i1, i2, i3, i4, _⟩ := dec_all n.natAbs
    rw [e, numM, formBad, (cut_minus _).1, (cut_minus _).2, i1, i3]
    have h4 := i4 (by omega)
    have hb : (Lib.decDigits n.natAbs == [] || !true || (((Lib.decDigits n.natAbs).getD 0 0).toNat : Int) == 48 && (decide (strLen (Lib.decDigits n.natAbs) > 1) || true)) = false := by
      have h5 : ((((Lib.decDigits n.natAbs).getD 0 0).toNat : Int) == 48) = false := by rw [beq_eq_false_iff_ne]; omega
      rw [h5]; simp [i2]
    rw [hb, if_neg (by simp)]
    by_cases hr : n < -1099511627776
    · rw [if_pos (by omega), if_pos (.inl hr)]
    · rw [if_neg (by omega), if_pos rfl, if_neg (by omega)]
      congr 1; omega
  · have e : Lib.itoa n = Lib.decDigits n.toNat := by unfold Lib.itoa; rw [if_neg hn]
    obtain ⟨i1, i2, i3, i4, i5⟩ := dec_all n.toNat
    cases hd : Lib.decDigits n.toNat with
    | nil => exact absurd hd i2
    | cons c r =>
      have hc : c ≠ 45 := by
        rw [hd] at i1
        simp only [List.all_cons, Bool.and_eq_true, isD, decide_eq_true_eq] at i1
        intro hc; subst hc; simp at i1
      rw [e, hd, numM, formBad, (cut_other r hc).1, (cut_other r hc).2, ← hd, i1, i3]
      have hb : (Lib.decDigits n.toNat == [] || !true || (((Lib.decDigits n.toNat).getD 0 0).toNat : Int) == 48 && (decide (strLen (Lib.decDigits n.toNat) > 1) || false)) = false := by
        by_cases h1 : 1 ≤ n.toNat
        · have h5 : ((((Lib.decDigits n.toNat).getD 0 0).toNat : Int) == 48) = false := by have := i4 h1; rw [beq_eq_false_iff_ne]; omega
          rw [h5]; simp [i2]
        · have h5 : decide (strLen (Lib.decDigits n.toNat) > 1) = false := by
            have := i5 (by omega)
            refine decide_eq_false ?_
            show ¬ ((Lib.decDigits n.toNat).length : Int) > 1
            omega
          rw [h5]; simp [i2]
      rw [hb, if_neg (by simp)]
      by_cases hr : 1099511627776 < n
      · rw [if_pos (by omega), if_pos (.inr hr)]
      · rw [if_neg (by omega), if_neg (by simp), if_neg (by omega)]
        congr 1; omega
/-! ### the walk -/

end Go.Proofs.YtjndellhebidoaaGreatDoor

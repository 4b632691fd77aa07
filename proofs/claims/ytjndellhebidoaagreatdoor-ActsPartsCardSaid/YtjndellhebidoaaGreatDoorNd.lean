/- Contracts of the document's reader of expressions: its small steps. Conditions: places within the text. Numbers told by the document. Conditions: an int64. -/
import Derived.Test.YtjndellhebidoaaGreatDoorNc
import Derived.Test.YtjndellhebidoaaGreatDoorMe
import Derived.Test.YtjndellhebidoaaGreatDoorUa
import Derived.Lib.ItoaMem
namespace Go.Proofs.YtjndellhebidoaaGreatDoor
open Go Go.Ev
set_option maxRecDepth 100000
abbrev mkA (s : Str) (pos : Int) (out : List Cell) (wt : List Wait) : List Chunk := [Chunk.cells [SC.pd (PD.str s), SC.i pos, SC.own 1, SC.own 2] 125, Chunk.own 88 ETy.cell out, Chunk.own 155 ETy.wait wt]
abbrev mkB (s : Str) (pos : Int) (out : List Cell) (wt : List Wait) : List Chunk := [Chunk.cells [SC.pd (PD.str s), SC.i (pos), SC.own 3, SC.own 4] 125, Chunk.dead, Chunk.dead, Chunk.own 88 ETy.cell (out), Chunk.own 155 ETy.wait (wt)]
def up34 : Nat → Nat
  | 1 => 3
  | 2 => 4
  | n => n
def dn34 : Nat → Nat
  | 3 => 1
  | 4 => 2
  | n => n
theorem rnA (s : Str) (pos : Int) (out : List Cell) (wt : List Wait) : RnW up34 dn34 3 (mkA s pos out wt) (mkB s pos out wt) := by
  refine ⟨fun j x' h => ?_, fun j hj => ?_⟩
  · match j, h with
    | 0, h => right; exact ⟨_, rfl, (Option.some.inj h).symm, rfl, by simp [Chunk.refs, SC.refs, up34, dn34]⟩
    | 1, h => left; simpa using h.symm
    | 2, h => left; simpa using h.symm
    | 3, h => right; exact ⟨_, rfl, (Option.some.inj h).symm, rfl, by simp [Chunk.refs]⟩
    | 4, h => right; exact ⟨_, rfl, (Option.some.inj h).symm, rfl, by simp [Chunk.refs]⟩
    | j + 5, h => simp at h
  · match j, hj with
    | 0, _ => rfl
    | 1, _ => rfl
    | 2, _ => rfl
def McQ (s : Str) (ret : SV) (pos : Int) (out : List Cell) (wt : List Wait) : Out := fun v c => v = ret ∧ Rn 3 c (mkB s pos out wt)
theorem McQ.a {s : Str} {ret : SV} {pos : Int} {out : List Cell} {wt : List Wait} {c : List Chunk} (h : c = mkA s pos out wt) : McQ s ret pos out wt ret c := ⟨rfl, by rw [h]; exact ⟨_, _, rnA s pos out wt⟩⟩
theorem McQ.b {s : Str} {ret : SV} {pos : Int} {out : List Cell} {wt : List Wait} {c : List Chunk} (h : c = mkB s pos out wt) : McQ s ret pos out wt ret c := ⟨rfl, by rw [h]; exact Rn.refl 3 _⟩
/-! ### signs -/
theorem xsign_spec (op : Int) (h1 : 1 ≤ op) (h2 : op ≤ 23) : Does Tryz.prog 104 [.i op] [] (.tup [.s (signM op).1, .i (signM op).2]) [] := by
  have h : op = 1 ∨ op = 2 ∨ op = 3 ∨ op = 4 ∨ op = 5 ∨ op = 6 ∨ op = 7 ∨ op = 8 ∨ op = 9 ∨ op = 10 ∨ op = 11 ∨ op = 12 ∨ op = 13 ∨ op = 14 ∨ op = 15 ∨ op = 16 ∨ op = 17 ∨ op = 18 ∨ op = 19 ∨ op = 20 ∨ op = 21 ∨ op = 22 ∨ op = 23 := by omega
  rcases h with rfl | rfl | rfl | rfl | rfl | rfl | rfl | rfl | rfl | rfl | rfl | rfl | rfl | rfl | rfl | rfl | rfl | rfl | rfl | rfl | rfl | rfl | rfl
  · exact Does.go (cfg := cfg0) cfg0_ok Tryz.func104 (by kernel_rfl) (by kernel_rfl) (t := (.need ((0 : Int) ≤ (1 : Int) ∧ (1 : Int) < (↑(24 : Nat) : Int)) (.need ((0 : Int) ≤ (1 : Int) ∧ (1 : Int) < (↑(24 : Nat) : Int)) (.ret (.tup [.p (.str []), .i (7 : Int)]) [])))) (by kernel_rfl) fun Γ => ⟨by decide, by decide, rfl, rfl⟩
  · exact Does.go (cfg := cfg0) cfg0_ok Tryz.func104 (by kernel_rfl) (by kernel_rfl) (t := (.need ((0 : Int) ≤ (2 : Int) ∧ (2 : Int) < (↑(24 : Nat) : Int)) (.need ((0 : Int) ≤ (2 : Int) ∧ (2 : Int) < (↑(24 : Nat) : Int)) (.ret (.tup [.p (.str []), .i (7 : Int)]) [])))) (by kernel_rfl) fun Γ => ⟨by decide, by decide, rfl, rfl⟩
  · exact Does.go (cfg := cfg0) cfg0_ok Tryz.func104 (by kernel_rfl) (by kernel_rfl) (t := (.need ((0 : Int) ≤ (3 : Int) ∧ (3 : Int) < (↑(24 : Nat) : Int)) (.need ((0 : Int) ≤ (3 : Int) ∧ (3 : Int) < (↑(24 : Nat) : Int)) (.ret (.tup [.p (.str []), .i (7 : Int)]) [])))) (by kernel_rfl) fun Γ => ⟨by decide, by decide, rfl, rfl⟩
  · exact Does.go (cfg := cfg0) cfg0_ok Tryz.func104 (by kernel_rfl) (by kernel_rfl) (t := (.need ((0 : Int) ≤ (4 : Int) ∧ (4 : Int) < (↑(24 : Nat) : Int)) (.need ((0 : Int) ≤ (4 : Int) ∧ (4 : Int) < (↑(24 : Nat) : Int)) (.ret (.tup [.p (.str []), .i (7 : Int)]) [])))) (by kernel_rfl) fun Γ => ⟨by decide, by decide, rfl, rfl⟩
  · exact Does.go (cfg := cfg0) cfg0_ok Tryz.func104 (by kernel_rfl) (by kernel_rfl) (t := (.need ((0 : Int) ≤ (5 : Int) ∧ (5 : Int) < (↑(24 : Nat) : Int)) (.need ((0 : Int) ≤ (5 : Int) ∧ (5 : Int) < (↑(24 : Nat) : Int)) (.ret (.tup [.p (.str []), .i (7 : Int)]) [])))) (by kernel_rfl) fun Γ => ⟨by decide, by decide, rfl, rfl⟩
  · exact Does.go (cfg := cfg0) cfg0_ok Tryz.func104 (by kernel_rfl) (by kernel_rfl) (t := (.need ((0 : Int) ≤ (6 : Int) ∧ (6 : Int) < (↑(24 : Nat) : Int)) (.need ((0 : Int) ≤ (6 : Int) ∧ (6 : Int) < (↑(24 : Nat) : Int)) (.ret (.tup [.p (.str []), .i (7 : Int)]) [])))) (by kernel_rfl) fun Γ => ⟨by decide, by decide, rfl, rfl⟩
  · exact Does.go (cfg := cfg0) cfg0_ok Tryz.func104 (by kernel_rfl) (by kernel_rfl) (t := (.need ((0 : Int) ≤ (7 : Int) ∧ (7 : Int) < (↑(24 : Nat) : Int)) (.need ((0 : Int) ≤ (7 : Int) ∧ (7 : Int) < (↑(24 : Nat) : Int)) (.ret (.tup [.p (.str [(45 : UInt8)]), .i (6 : Int)]) [])))) (by kernel_rfl) fun Γ => ⟨by decide, by decide, rfl, rfl⟩
  · exact Does.go (cfg := cfg0) cfg0_ok Tryz.func104 (by kernel_rfl) (by kernel_rfl) (t := (.need ((0 : Int) ≤ (8 : Int) ∧ (8 : Int) < (↑(24 : Nat) : Int)) (.need ((0 : Int) ≤ (8 : Int) ∧ (8 : Int) < (↑(24 : Nat) : Int)) (.ret (.tup [.p (.str [(33 : UInt8)]), .i (6 : Int)]) [])))) (by kernel_rfl) fun Γ => ⟨by decide, by decide, rfl, rfl⟩
  · exact Does.go (cfg := cfg0) cfg0_ok Tryz.func104 (by kernel_rfl) (by kernel_rfl) (t := (.need ((0 : Int) ≤ (9 : Int) ∧ (9 : Int) < (↑(24 : Nat) : Int)) (.need ((0 : Int) ≤ (9 : Int) ∧ (9 : Int) < (↑(24 : Nat) : Int)) (.ret (.tup [.p (.str []), .i (7 : Int)]) [])))) (by kernel_rfl) fun Γ => ⟨by decide, by decide, rfl, rfl⟩
  · exact Does.go (cfg := cfg0) cfg0_ok Tryz.func104 (by kernel_rfl) (by kernel_rfl) (t := (.need ((0 : Int) ≤ (10 : Int) ∧ (10 : Int) < (↑(24 : Nat) : Int)) (.need ((0 : Int) ≤ (10 : Int) ∧ (10 : Int) < (↑(24 : Nat) : Int)) (.ret (.tup [.p (.str []), .i (7 : Int)]) [])))) (by kernel_rfl) fun Γ => ⟨by decide, by decide, rfl, rfl⟩
  · exact Does.go (cfg := cfg0) cfg0_ok Tryz.func104 (by kernel_rfl) (by kernel_rfl) (t := (.need ((0 : Int) ≤ (11 : Int) ∧ (11 : Int) < (↑(24 : Nat) : Int)) (.need ((0 : Int) ≤ (11 : Int) ∧ (11 : Int) < (↑(24 : Nat) : Int)) (.ret (.tup [.p (.str [(43 : UInt8)]), .i (4 : Int)]) [])))) (by kernel_rfl) fun Γ => ⟨by decide, by decide, rfl, rfl⟩
  · exact Does.go (cfg := cfg0) cfg0_ok Tryz.func104 (by kernel_rfl) (by kernel_rfl) (t := (.need ((0 : Int) ≤ (12 : Int) ∧ (12 : Int) < (↑(24 : Nat) : Int)) (.need ((0 : Int) ≤ (12 : Int) ∧ (12 : Int) < (↑(24 : Nat) : Int)) (.ret (.tup [.p (.str [(45 : UInt8)]), .i (4 : Int)]) [])))) (by kernel_rfl) fun Γ => ⟨by decide, by decide, rfl, rfl⟩
  · exact Does.go (cfg := cfg0) cfg0_ok Tryz.func104 (by kernel_rfl) (by kernel_rfl) (t := (.need ((0 : Int) ≤ (13 : Int) ∧ (13 : Int) < (↑(24 : Nat) : Int)) (.need ((0 : Int) ≤ (13 : Int) ∧ (13 : Int) < (↑(24 : Nat) : Int)) (.ret (.tup [.p (.str [(42 : UInt8)]), .i (5 : Int)]) [])))) (by kernel_rfl) fun Γ => ⟨by decide, by decide, rfl, rfl⟩
  · exact Does.go (cfg := cfg0) cfg0_ok Tryz.func104 (by kernel_rfl) (by kernel_rfl) (t := (.need ((0 : Int) ≤ (14 : Int) ∧ (14 : Int) < (↑(24 : Nat) : Int)) (.need ((0 : Int) ≤ (14 : Int) ∧ (14 : Int) < (↑(24 : Nat) : Int)) (.ret (.tup [.p (.str [(47 : UInt8)]), .i (5 : Int)]) [])))) (by kernel_rfl) fun Γ => ⟨by decide, by decide, rfl, rfl⟩
  · exact Does.go (cfg := cfg0) cfg0_ok Tryz.func104 (by kernel_rfl) (by kernel_rfl) (t := (.need ((0 : Int) ≤ (15 : Int) ∧ (15 : Int) < (↑(24 : Nat) : Int)) (.need ((0 : Int) ≤ (15 : Int) ∧ (15 : Int) < (↑(24 : Nat) : Int)) (.ret (.tup [.p (.str [(37 : UInt8)]), .i (5 : Int)]) [])))) (by kernel_rfl) fun Γ => ⟨by decide, by decide, rfl, rfl⟩
  · exact Does.go (cfg := cfg0) cfg0_ok Tryz.func104 (by kernel_rfl) (by kernel_rfl) (t := (.need ((0 : Int) ≤ (16 : Int) ∧ (16 : Int) < (↑(24 : Nat) : Int)) (.need ((0 : Int) ≤ (16 : Int) ∧ (16 : Int) < (↑(24 : Nat) : Int)) (.ret (.tup [.p (.str [(61 : UInt8)]), .i (3 : Int)]) [])))) (by kernel_rfl) fun Γ => ⟨by decide, by decide, rfl, rfl⟩
  · exact Does.go (cfg := cfg0) cfg0_ok Tryz.func104 (by kernel_rfl) (by kernel_rfl) (t := (.need ((0 : Int) ≤ (17 : Int) ∧ (17 : Int) < (↑(24 : Nat) : Int)) (.need ((0 : Int) ≤ (17 : Int) ∧ (17 : Int) < (↑(24 : Nat) : Int)) (.ret (.tup [.p (.str [(33 : UInt8), 61]), .i (3 : Int)]) [])))) (by kernel_rfl) fun Γ => ⟨by decide, by decide, rfl, rfl⟩
  · exact Does.go (cfg := cfg0) cfg0_ok Tryz.func104 (by kernel_rfl) (by kernel_rfl) (t := (.need ((0 : Int) ≤ (18 : Int) ∧ (18 : Int) < (↑(24 : Nat) : Int)) (.need ((0 : Int) ≤ (18 : Int) ∧ (18 : Int) < (↑(24 : Nat) : Int)) (.ret (.tup [.p (.str [(60 : UInt8)]), .i (3 : Int)]) [])))) (by kernel_rfl) fun Γ => ⟨by decide, by decide, rfl, rfl⟩
  · exact Does.go (cfg := cfg0) cfg0_ok Tryz.func104 (by kernel_rfl) (by kernel_rfl) (t := (.need ((0 : Int) ≤ (19 : Int) ∧ (19 : Int) < (↑(24 : Nat) : Int)) (.need ((0 : Int) ≤ (19 : Int) ∧ (19 : Int) < (↑(24 : Nat) : Int)) (.ret (.tup [.p (.str [(60 : UInt8), 61]), .i (3 : Int)]) [])))) (by kernel_rfl) fun Γ => ⟨by decide, by decide, rfl, rfl⟩
  · exact Does.go (cfg := cfg0) cfg0_ok Tryz.func104 (by kernel_rfl) (by kernel_rfl) (t := (.need ((0 : Int) ≤ (20 : Int) ∧ (20 : Int) < (↑(24 : Nat) : Int)) (.need ((0 : Int) ≤ (20 : Int) ∧ (20 : Int) < (↑(24 : Nat) : Int)) (.ret (.tup [.p (.str [(62 : UInt8)]), .i (3 : Int)]) [])))) (by kernel_rfl) fun Γ => ⟨by decide, by decide, rfl, rfl⟩
  · exact Does.go (cfg := cfg0) cfg0_ok Tryz.func104 (by kernel_rfl) (by kernel_rfl) (t := (.need ((0 : Int) ≤ (21 : Int) ∧ (21 : Int) < (↑(24 : Nat) : Int)) (.need ((0 : Int) ≤ (21 : Int) ∧ (21 : Int) < (↑(24 : Nat) : Int)) (.ret (.tup [.p (.str [(62 : UInt8), 61]), .i (3 : Int)]) [])))) (by kernel_rfl) fun Γ => ⟨by decide, by decide, rfl, rfl⟩
  · exact Does.go (cfg := cfg0) cfg0_ok Tryz.func104 (by kernel_rfl) (by kernel_rfl) (t := (.need ((0 : Int) ≤ (22 : Int) ∧ (22 : Int) < (↑(24 : Nat) : Int)) (.need ((0 : Int) ≤ (22 : Int) ∧ (22 : Int) < (↑(24 : Nat) : Int)) (.ret (.tup [.p (.str [(38 : UInt8)]), .i (2 : Int)]) [])))) (by kernel_rfl) fun Γ => ⟨by decide, by decide, rfl, rfl⟩
  · exact Does.go (cfg := cfg0) cfg0_ok Tryz.func104 (by kernel_rfl) (by kernel_rfl) (t := (.need ((0 : Int) ≤ (23 : Int) ∧ (23 : Int) < (↑(24 : Nat) : Int)) (.need ((0 : Int) ≤ (23 : Int) ∧ (23 : Int) < (↑(24 : Nat) : Int)) (.ret (.tup [.p (.str [(124 : UInt8)]), .i (1 : Int)]) [])))) (by kernel_rfl) fun Γ => ⟨by decide, by decide, rfl, rfl⟩
def eXsign : Nat × (List SX → List Chunk → Option (Option Prop × SV × List Chunk)) := (104, fun
  | [.c (.pd (.int .i64 op))], [] => some (some (1 ≤ op ∧ op ≤ 23), .tup [.c (.pd (.str (signM op).1)), .c (.pd (.int .i64 (signM op).2))], [])
  | _, _ => none)
theorem eXsign_ok (vs : List SX) (ck : List Chunk) (p : Option Prop) (ret : SV) (ck' : List Chunk) (h : eXsign.2 vs ck = some (p, ret, ck')) (hp : Holds p) : Does Tryz.prog eXsign.1 vs ck ret ck' := by
  unfold eXsign at h
  simp only at h
  split at h
  · rename_i op
    simp only [Option.some.injEq, Prod.mk.injEq] at h
    obtain ⟨rfl, rfl, rfl⟩ := h
    exact xsign_spec op hp.1 hp.2
  · simp at h
/-! ### what waits -/

end Go.Proofs.YtjndellhebidoaaGreatDoor
namespace Go.Proofs.YtjndellhebidoaaGreatDoor
open Go Go.Ev
set_option maxRecDepth 100000
/-! ### plain -/
theorem valD_append : ∀ (l : List UInt8) (a : Nat) (c : UInt8), valD a (l ++ [c]) = 10 * valD a l + (c.toNat - 48)
  | [], a, c => rfl
  | d :: r, a, c => valD_append r (10 * a + (d.toNat - 48)) c
theorem digit_nat {r : Nat} (h : r < 10) : (UInt8.ofNat (48 + r)).toNat = 48 + r := by
  simp only [UInt8.toNat_ofNat']; omega
theorem dec_all (u : Nat) : (Lib.decDigits u).all isD = true ∧ Lib.decDigits u ≠ [] ∧ valD 0 (Lib.decDigits u) = u ∧ (1 ≤ u → ((Lib.decDigits u).getD 0 0).toNat ≠ 48) ∧ (u < 10 → (Lib.decDigits u).length = 1) := by
  induction u using Nat.strongRecOn with
  | _ u ih =>
    by_cases h : u < 10
    · have e : Lib.decDigits u = [UInt8.ofNat (48 + u)] := Lib.decDigits_one h
      have ed := digit_nat h
      rw [e]
      refine ⟨?_, by simp, ?_, fun h1 => ?_, fun _ => rfl⟩
      · simp only [List.all_cons, List.all_nil, Bool.and_true, isD, ed, Bool.and_eq_true, decide_eq_true_eq]; omega
      · show 10 * 0 + ((UInt8.ofNat (48 + u)).toNat - 48) = u
        rw [ed]; omega
      · show (UInt8.ofNat (48 + u)).toNat ≠ 48
        rw [ed]; omega
    · have e : Lib.decDigits u = Lib.decDigits (u / 10) ++ [UInt8.ofNat (48 + u % 10)] := by rw [Lib.decDigits, dif_neg h]
      have hm : u % 10 < 10 := Nat.mod_lt _ (by omega)
      have ed := digit_nat hm
      obtain ⟨i1, i2, i3, i4, _⟩ := ih (u / 10) (by omega)
      rw [e]
      refine ⟨?_, by simp, ?_, fun _ => ?_, fun h2 => absurd h2 h⟩
      · rw [List.all_append, i1]
        simp only [List.all_cons, List.all_nil, Bool.and_true, Bool.true_and, isD, ed, Bool.and_eq_true, decide_eq_true_eq]; omega
      · rw [valD_append, i3, ed]; omega
      · have := i4 (by omega)
        cases hd : Lib.decDigits (u / 10) with
        | nil => exact absurd hd i2
        | cons c r => rw [hd] at this; exact this
theorem ten_digits : ∀ (k u : Nat), u < 10 ^ k → (Lib.decDigits u).length ≤ k + 1
  | 0, u, h => by
    have : u < 10 := by simp at h; omega
    rw [Lib.decDigits_one this]; simp
  | k + 1, u, h => by
    by_cases h' : u < 10
    · rw [Lib.decDigits_one h']; simp
    · rw [Lib.decDigits, dif_neg h', List.length_append]
      have := ten_digits k (u / 10) (by rw [Nat.pow_succ] at h; omega)
      simp only [List.length_cons, List.length_nil]; omega
theorem itoa_len (n : Int) (h0 : -9223372036854775808 ≤ n) (h1 : n ≤ 9223372036854775807) : (Lib.itoa n).length ≤ 22 := by
  unfold Lib.itoa
  split
  · have := ten_digits 20 n.natAbs (by omega)
    simp only [List.length_cons]; omega
  · have := ten_digits 20 n.toNat (by omega); omega
theorem wrapU {x : Int} (h0 : 0 ≤ x) (h1 : x < 18446744073709551616) : IntKind.u64.wrap x = x := by
  unfold IntKind.wrap
  simp only [IntKind.bits, IntKind.signed]
  simp
  omega
theorem told_digit {r : Nat} (h : r < 10) (x : Int) (hx : x = (r : Int)) : strOf [IntKind.u8.wrap (IntKind.u64.wrap (48 + x))] = [UInt8.ofNat (48 + r)] := by
  subst hx
  rw [wrapU (by omega) (by omega)]
  have e : IntKind.u8.wrap (48 + (r : Int)) = ((48 + r : Nat) : Int) := by
    show (48 + (r : Int)) % 256 = _; omega
  rw [e]; rfl
theorem num_itoa (n : Int) : numM (Lib.itoa n) = if n < -1099511627776 ∨ 1099511627776 < n then (0, 5) else (n, 0) := by
  by_cases hn : n < 0
  · have e : Lib.itoa n = 45 :: Lib.decDigits n.natAbs := by unfold Lib.itoa; rw [if_pos hn]
    obtain ⟨i1, i2, i3, i4, _⟩ := dec_all n.natAbs
    rw [e, numM, formBad, (cut_minus _).1, (cut_minus _).2, i1, i3]
    have h4 := i4 (by omega)
    have hb : (Lib.decDigits n.natAbs == [] || !true || (((Lib.decDigits n.natAbs).getD 0 0).toNat : Int) == 48 && (decide (strLen (Lib.decDigits n.natAbs) > 1) || true)) = false := by
      have h5 : ((((Lib.decDigits n.natAbs).getD 0 0).toNat : Int) == 48) = false := by rw [beq_eq_false_iff_ne]; omega
      rw [h5]; simp [i2]
    rw [hb, if_neg (by simp)]
    by_cases hr : n < -1099511627776
    · rw [if_pos (by omega), if_pos (.inl hr)]
    · rw [if_neg (by omega), if_pos rfl, if_neg (by omega)]
      congr 1; omega
  · have e : Lib.itoa n = Lib.decDigits n.toNat := by unfold Lib.itoa; rw [if_neg hn]
    obtain ⟨i1, i2, i3, i4, i5⟩ := dec_all n.toNat
    cases hd : Lib.decDigits n.toNat with
    | nil => exact absurd hd i2
    | cons c r =>
      have hc : c ≠ 45 := by
        rw [hd] at i1
        simp only [List.all_cons, Bool.and_eq_true, isD, decide_eq_true_eq] at i1
        intro hc; subst hc; simp at i1
      rw [e, hd, numM, formBad, (cut_other r hc).1, (cut_other r hc).2, ← hd, i1, i3]
      have hb : (Lib.decDigits n.toNat == [] || !true || (((Lib.decDigits n.toNat).getD 0 0).toNat : Int) == 48 && (decide (strLen (Lib.decDigits n.toNat) > 1) || false)) = false := by
        by_cases h1 : 1 ≤ n.toNat
        · have h5 : ((((Lib.decDigits n.toNat).getD 0 0).toNat : Int) == 48) = false := by have := i4 h1; rw [beq_eq_false_iff_ne]; omega
          rw [h5]; simp [i2]
        · have h5 : decide (strLen (Lib.decDigits n.toNat) > 1) = false := by
            have := i5 (by omega)
            refine decide_eq_false ?_
            show ¬ ((Lib.decDigits n.toNat).length : Int) > 1
            omega
          rw [h5]; simp [i2]
      rw [hb, if_neg (by simp)]
      by_cases hr : 1099511627776 < n
      · rw [if_pos (by omega), if_pos (.inr hr)]
      · rw [if_neg (by omega), if_neg (by simp), if_neg (by omega)]
        congr 1; omega
/-! ### the walk -/

theorem un_loop (n : Int) (Γ : Ctx) : ∀ (k m : Nat) (o : Str), m < 10 ^ k → k ≤ 20 → o.length + k ≤ 40 → m < 18446744073709551616 →
    J Tryz.prog 149 (bodyOf Tryz.f149) Γ (Eq2 (.x (.s (Lib.decDigits m ++ o))) []) [.code [1, 1, 0, 0, 0], .inLoop [1, 1, 0, 0, 0], .inBlock 0, .code [1, 1, 1]] ({ n := 23, fr := [(0, .x (.c (.pd (.int .u64 (m : Int))))), (2, .p (.str [])), (3, .p (.str (o)))], ck := [] }) := by
  intro k
  induction k with
  | zero => ?_
  | succ k ih => ?_
  all_goals
    intro m o hm hk ho hb
    refine J.go (cfg := cfg0) cfg0_ok Tryz.func149 1000 (t := (.ite (decide ((↑m : Int) > (9 : Int))) (.need ((10 : Int) ≠ (0 : Int)) (.need (List.length (strOf [IntKind.wrap .u8 (IntKind.wrap .u64 ((48 : Int) + Int.tmod (↑m : Int) (10 : Int)))]) + List.length o ≤ 9223372036854775807) (.need ((10 : Int) ≠ (0 : Int)) (.stop [.code [1, 1, 0, 0, 0], .inLoop [1, 1, 0, 0, 0], .inBlock 0, .code [1, 1, 1]] { n := 23, fr := [(0, .p (.int .u64 (IntKind.wrap .u64 (Int.tdiv (↑m : Int) (10 : Int))))), (2, .p (.str [])), (3, .p (.str (strOf [IntKind.wrap .u8 (IntKind.wrap .u64 ((48 : Int) + Int.tmod (↑m : Int) (10 : Int)))] ++ o)))], ck := [] })))) (.need (List.length (strOf [IntKind.wrap .u8 (IntKind.wrap .u64 ((48 : Int) + (↑m : Int)))]) + List.length o ≤ 9223372036854775807) (.ret (.p (.str (strOf [IntKind.wrap .u8 (IntKind.wrap .u64 ((48 : Int) + (↑m : Int)))] ++ o))) [])))) (by kernel_rfl) ?_
    have et : Int.tmod (m : Int) 10 = ((m % 10 : Nat) : Int) := by rw [Int.tmod_eq_emod_of_nonneg (by omega)]; omega
    have eq : Int.tdiv (m : Int) 10 = ((m / 10 : Nat) : Int) := by rw [Int.tdiv_eq_ediv_of_nonneg (by omega)]; omega
    refine ⟨fun h => ?_, fun h => ?_⟩
    · have h' : ¬ m < 10 := by have := of_decide_eq_true h; omega
      have e : Lib.decDigits m = Lib.decDigits (m / 10) ++ [UInt8.ofNat (48 + m % 10)] := by rw [Lib.decDigits, dif_neg h']
      rw [told_digit (Nat.mod_lt m (by omega)) _ et, eq, wrapU (by omega) (by omega), e]
      refine ⟨by omega, by simp only [List.length_cons, List.length_nil]; omega, by omega, ?_⟩
      first
      | (exfalso; simp at hm; omega)
      | have := ih (m / 10) ([UInt8.ofNat (48 + m % 10)] ++ o) (by rw [Nat.pow_succ] at hm; omega) (by omega) (by simp only [List.length_append, List.length_cons, List.length_nil]; omega) (by omega)
        rw [List.append_assoc]
        exact this
    · have h' : m < 10 := by have := of_decide_eq_false h; omega
      rw [told_digit h' _ rfl, Lib.decDigits_one h']
      exact ⟨by simp only [List.length_cons, List.length_nil]; omega, rfl, rfl⟩
theorem un_spec (u : Nat) (h : u < 18446744073709551616) : Does Tryz.prog 149 [.c (.pd (.int .u64 (u : Int)))] [] (.x (.s (Lib.decDigits u))) [] := by
  refine Does.go (cfg := cfg0) cfg0_ok Tryz.func149 (by kernel_rfl) (by kernel_rfl) (t := (.stop [.code [1, 1, 0, 0, 0], .inLoop [1, 1, 0, 0, 0], .inBlock 0, .code [1, 1, 1]] { n := 23, fr := [(0, .p (.int .u64 (↑u : Int))), (2, .p (.str [])), (3, .p (.str []))], ck := [] })) (by kernel_rfl) fun Γ => ?_
  have := un_loop (u : Int) Γ 20 u [] (by omega) (by omega) (by simp) h
  rw [List.append_nil] at this
  exact this
theorem un_int (z : Int) (h0 : 0 ≤ z) (h1 : z < 18446744073709551616) : Does Tryz.prog 149 [.c (.pd (.int .u64 z))] [] (.x (.s (Lib.decDigits z.toNat))) [] := by
  obtain ⟨u, rfl⟩ := Int.eq_ofNat_of_zero_le h0
  exact un_spec u (by omega)
def eUn : Nat × (List SX → List Chunk → Option (Option Prop × SV × List Chunk)) := (149, fun
  | [.c (.pd (.int .u64 z))], [] => some (some (0 ≤ z ∧ z < 18446744073709551616), .x (.c (.pd (.str (Lib.decDigits z.toNat)))), [])
  | _, _ => none)
theorem eUn_ok (vs : List SX) (ck : List Chunk) (p : Option Prop) (ret : SV) (ck' : List Chunk) (h : eUn.2 vs ck = some (p, ret, ck')) (hp : Holds p) : Does Tryz.prog eUn.1 vs ck ret ck' := by
  unfold eUn at h
  simp only at h
  split at h
  · rename_i z
    simp only [Option.some.injEq, Prod.mk.injEq] at h
    obtain ⟨rfl, rfl, rfl⟩ := h
    exact un_int z hp.1 hp.2
  · simp at h
def cfgDi : Cfg := ⟨tys0, [eUn]⟩
theorem cfgDi_ok : TabOk Tryz.prog cfgDi.tab := (TabOk.cons eUn_ok TabOk.nil)
theorem ref_digits1 (n : Int) (h0 : -9223372036854775808 ≤ n) (h1 : n ≤ 9223372036854775807) : Does Tryz.prog 129 [.i n] [] (.x (.s (Lib.itoa n))) [] := by
  refine Does.go (cfg := cfgDi) cfgDi_ok Tryz.func129 (by kernel_rfl) (by kernel_rfl) (t := (.ite (decide (n < (0 : Int))) (.need ((0 : Int) ≤ IntKind.wrap .u64 (IntKind.wrap .u64 (IntKind.wrap .i64 ((0 : Int) - IntKind.wrap .i64 (n + (1 : Int)))) + (1 : Int)) ∧ IntKind.wrap .u64 (IntKind.wrap .u64 (IntKind.wrap .i64 ((0 : Int) - IntKind.wrap .i64 (n + (1 : Int)))) + (1 : Int)) < (18446744073709551616 : Int)) (.need (1 + List.length (Lib.decDigits (Int.toNat (IntKind.wrap .u64 (IntKind.wrap .u64 (IntKind.wrap .i64 ((0 : Int) - IntKind.wrap .i64 (n + (1 : Int)))) + (1 : Int))))) ≤ 9223372036854775807) (.ret (.p (.str ([(45 : UInt8)] ++ Lib.decDigits (Int.toNat (IntKind.wrap .u64 (IntKind.wrap .u64 (IntKind.wrap .i64 ((0 : Int) - IntKind.wrap .i64 (n + (1 : Int)))) + (1 : Int))))))) []))) (.need ((0 : Int) ≤ IntKind.wrap .u64 n ∧ IntKind.wrap .u64 n < (18446744073709551616 : Int)) (.ret (.p (.str (Lib.decDigits (Int.toNat (IntKind.wrap .u64 n))))) [])))) (by kernel_rfl) fun Γ => ?_
  refine ⟨fun h => ?_, fun h => ?_⟩
  · have hn : n < 0 := of_decide_eq_true h
    rw [wrapI (n := n + 1) (by omega) (by omega), wrapI (n := 0 - (n + 1)) (by omega) (by omega), wrapU (x := 0 - (n + 1)) (by omega) (by omega), wrapU (by omega) (by omega)]
    have e : (0 - (n + 1) + 1).toNat = n.natAbs := by omega
    have hl : (Lib.decDigits n.natAbs).length ≤ 40 := by
      have := ten_digits 20 n.natAbs (by omega); omega
    rw [e]
    refine ⟨by omega, by omega, ?_, rfl⟩
    have : Lib.itoa n = 45 :: Lib.decDigits n.natAbs := by unfold Lib.itoa; rw [if_pos hn]
    rw [this]; rfl
  · have hn : ¬ n < 0 := of_decide_eq_false h
    rw [wrapU (by omega) (by omega)]
    refine ⟨by omega, ?_, rfl⟩
    have : Lib.itoa n = Lib.decDigits n.toNat := by unfold Lib.itoa; rw [if_neg hn]
    rw [this]
def eDi1 : Nat × (List SX → List Chunk → Option (Option Prop × SV × List Chunk)) := (129, fun
  | [.c (.pd (.int .i64 n))], [] => some (some (-9223372036854775808 ≤ n ∧ n ≤ 9223372036854775807), .x (.c (.pd (.str (Lib.itoa n)))), [])
  | _, _ => none)
theorem eDi1_ok (vs : List SX) (ck : List Chunk) (p : Option Prop) (ret : SV) (ck' : List Chunk) (h : eDi1.2 vs ck = some (p, ret, ck')) (hp : Holds p) : Does Tryz.prog eDi1.1 vs ck ret ck' := by
  unfold eDi1 at h
  simp only at h
  split at h
  · rename_i n
    simp only [Option.some.injEq, Prod.mk.injEq] at h
    obtain ⟨rfl, rfl, rfl⟩ := h
    exact ref_digits1 n hp.1 hp.2
  · simp at h
def cfgDi1 : Cfg := ⟨tys0, [eDi1]⟩
theorem cfgDi1_ok : TabOk Tryz.prog cfgDi1.tab := (TabOk.cons eDi1_ok TabOk.nil)
theorem ref_digits (n : Int) (h0 : -9223372036854775808 ≤ n) (h1 : n ≤ 9223372036854775807) : Does Tryz.prog 105 [.i n] [] (.x (.s (Lib.itoa n))) [] := by
  refine Does.go (cfg := cfgDi1) cfgDi1_ok Tryz.func105 (by kernel_rfl) (by kernel_rfl) (t := (.need ((-9223372036854775808 : Int) ≤ n ∧ n ≤ (9223372036854775807 : Int)) (.ret (.p (.str (Lib.itoa n))) []))) (by kernel_rfl) fun Γ => ?_
  exact ⟨⟨h0, h1⟩, rfl, rfl⟩
def eDi : Nat × (List SX → List Chunk → Option (Option Prop × SV × List Chunk)) := (105, fun
  | [.c (.pd (.int .i64 n))], [] => some (some (-9223372036854775808 ≤ n ∧ n ≤ 9223372036854775807), .x (.c (.pd (.str (Lib.itoa n)))), [])
  | _, _ => none)
theorem eDi_ok (vs : List SX) (ck : List Chunk) (p : Option Prop) (ret : SV) (ck' : List Chunk) (h : eDi.2 vs ck = some (p, ret, ck')) (hp : Holds p) : Does Tryz.prog eDi.1 vs ck ret ck' := by
  unfold eDi at h
  simp only at h
  split at h
  · rename_i n
    simp only [Option.some.injEq, Prod.mk.injEq] at h
    obtain ⟨rfl, rfl, rfl⟩ := h
    exact ref_digits n hp.1 hp.2
  · simp at h
end Go.Proofs.YtjndellhebidoaaGreatDoor

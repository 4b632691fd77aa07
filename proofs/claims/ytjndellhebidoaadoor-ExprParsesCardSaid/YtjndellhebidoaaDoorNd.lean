/- Numbers told by the document. Conditions: an int64. -/
import Derived.Test.YtjndellhebidoaaDoorNc
import Derived.Lib.ItoaMem
namespace Go.Proofs.YtjndellhebidoaaDoor
open Go Go.Ev
set_option maxRecDepth 100000
/-! ### plain -/
theorem valD_append : ∀ (l : List UInt8) (a : Nat) (c : UInt8), valD a (l ++ [c]) = 10 * valD a l + (c.toNat - 48)
  | [], a, c => rfl
  | d :: r, a, c => valD_append r (10 * a + (d.toNat - 48)) c
theorem digit_nat {r : Nat} (h : r < 10) : (UInt8.ofNat (48 + r)).toNat = 48 + r := by
  simp only [UInt8.toNat_ofNat']; omega
theorem dec_all (u : Nat) : (Lib.decDigits u).all isD = true ∧ Lib.decDigits u ≠ [] ∧ valD 0 (Lib.decDigits u) = u ∧ (1 ≤ u → ((Lib.decDigits u).getD 0 0).toNat ≠ 48) ∧ (u < 10 → (Lib.decDigits u).length = 1) := by
  induction u using Nat.strongRecOn with
  | _ u ih =>
    by_cases h : u < 10
    · have e : Lib.decDigits u = [UInt8.ofNat (48 + u)] := Lib.decDigits_one h
      have ed := digit_nat h
      rw [e]
      refine ⟨?_, by simp, ?_, fun h1 => ?_, fun _ => rfl⟩
      · simp only [List.all_cons, List.all_nil, Bool.and_true, isD, ed, Bool.and_eq_true, decide_eq_true_eq]; omega
      · show 10 * 0 + ((UInt8.ofNat (48 + u)).toNat - 48) = u
        rw [ed]; omega
      · show (UInt8.ofNat (48 + u)).toNat ≠ 48
        rw [ed]; omega
    · have e : Lib.decDigits u = Lib.decDigits (u / 10) ++ [UInt8.ofNat (48 + u % 10)] := by rw [Lib.decDigits, dif_neg h]
      have hm : u % 10 < 10 := Nat.mod_lt _ (by omega)
      have ed := digit_nat hm
      obtain ⟨i1, i2, i3, i4, _⟩ := ih (u / 10) (by omega)
      rw [e]
      refine ⟨?_, by simp, ?_, fun _ => ?_, fun h2 => absurd h2 h⟩
      · rw [List.all_append, i1]
        simp only [List.all_cons, List.all_nil, Bool.and_true, Bool.true_and, isD, ed, Bool.and_eq_true, decide_eq_true_eq]; omega
      · rw [valD_append, i3, ed]; omega
      · have := i4 (by omega)
        cases hd : Lib.decDigits (u / 10) with
        | nil => exact absurd hd i2
        | cons c r => rw [hd] at this; exact this
theorem ten_digits : ∀ (k u : Nat), u < 10 ^ k → (Lib.decDigits u).length ≤ k + 1
  | 0, u, h => by
    have : u < 10 := by simp at h; omega
    rw [Lib.decDigits_one this]; simp
  | k + 1, u, h => by
    by_cases h' : u < 10
    · rw [Lib.decDigits_one h']; simp
    · rw [Lib.decDigits, dif_neg h', List.length_append]
      have := ten_digits k (u / 10) (by rw [Nat.pow_succ] at h; omega)
      simp only [List.length_cons, List.length_nil]; omega
theorem itoa_len (n : Int) (h0 : -9223372036854775808 ≤ n) (h1 : n ≤ 9223372036854775807) : (Lib.itoa n).length ≤ 22 := by
  unfold Lib.itoa
  split
  · have := ten_digits 20 n.natAbs (by omega)
    simp only [List.length_cons]; omega
  · have := ten_digits 20 n.toNat (by omega); omega
theorem wrapU {x : Int} (h0 : 0 ≤ x) (h1 : x < 18446744073709551616) : IntKind.u64.wrap x = x := by
  unfold IntKind.wrap
  simp only [IntKind.bits, IntKind.signed]
  simp
  omega
theorem told_digit {r : Nat} (h : r < 10) (x : Int) (hx : x = (r : Int)) : strOf [IntKind.u8.wrap (IntKind.u64.wrap (48 + x))] = [UInt8.ofNat (48 + r)] := by
  subst hx
  rw [wrapU (by omega) (by omega)]
  have e : IntKind.u8.wrap (48 + (r : Int)) = ((48 + r : Nat) : Int) := by
    show (48 + (r : Int)) % 256 = _; omega
  rw [e]; rfl
/-- What is told is read. -/
theorem num_itoa (n : Int) : numM (Lib.itoa n) = if n < -1099511627776 ∨ 1099511627776 < n then (0, 5) else (n, 0) := by
  by_cases hn : n < 0
  · have e : Lib.itoa n = 45 :: Lib.decDigits n.natAbs := by unfold Lib.itoa; rw [if_pos hn]
    obtain ⟨i1, i2, i3, i4, _⟩ := dec_all n.natAbs
    rw [e, numM, formBad, (cut_minus _).1, (cut_minus _).2, i1, i3]
    have h4 := i4 (by omega)
    have hb : (Lib.decDigits n.natAbs == [] || !true || (((Lib.decDigits n.natAbs).getD 0 0).toNat : Int) == 48 && (decide (strLen (Lib.decDigits n.natAbs) > 1) || true)) = false := by
      have h5 : ((((Lib.decDigits n.natAbs).getD 0 0).toNat : Int) == 48) = false := by rw [beq_eq_false_iff_ne]; omega
      rw [h5]; simp [i2]
    rw [hb, if_neg (by simp)]
    by_cases hr : n < -1099511627776
    · rw [if_pos (by omega), if_pos (.inl hr)]
    · rw [if_neg (by omega), if_pos rfl, if_neg (by omega)]
      congr 1; omega
  · have e : Lib.itoa n = Lib.decDigits n.toNat := by unfold Lib.itoa; rw [if_neg hn]
    obtain ⟨i1, i2, i3, i4, i5⟩ := dec_all n.toNat
    cases hd : Lib.decDigits n.toNat with
    | nil => exact absurd hd i2
    | cons c r =>
      have hc : c ≠ 45 := by
        rw [hd] at i1
        simp only [List.all_cons, Bool.and_eq_true, isD, decide_eq_true_eq] at i1
        intro hc; subst hc; simp at i1
      rw [e, hd, numM, formBad, (cut_other r hc).1, (cut_other r hc).2, ← hd, i1, i3]
      have hb : (Lib.decDigits n.toNat == [] || !true || (((Lib.decDigits n.toNat).getD 0 0).toNat : Int) == 48 && (decide (strLen (Lib.decDigits n.toNat) > 1) || false)) = false := by
        by_cases h1 : 1 ≤ n.toNat
        · have h5 : ((((Lib.decDigits n.toNat).getD 0 0).toNat : Int) == 48) = false := by have := i4 h1; rw [beq_eq_false_iff_ne]; omega
          rw [h5]; simp [i2]
        · have h5 : decide (strLen (Lib.decDigits n.toNat) > 1) = false := by
            have := i5 (by omega)
            refine decide_eq_false ?_
            show ¬ ((Lib.decDigits n.toNat).length : Int) > 1
            omega
          rw [h5]; simp [i2]
      rw [hb, if_neg (by simp)]
      by_cases hr : 1099511627776 < n
      · rw [if_pos (by omega), if_pos (.inr hr)]
      · rw [if_neg (by omega), if_neg (by simp), if_neg (by omega)]
        congr 1; omega
/-! ### the walk -/

theorem un_loop (n : Int) (Γ : Ctx) : ∀ (k m : Nat) (o : Str), m < 10 ^ k → k ≤ 20 → o.length + k ≤ 40 → m < 18446744073709551616 →
    J Tryd.prog 48 (bodyOf Tryd.f48) Γ (Eq2 (.x (.s (Lib.decDigits m ++ o))) []) [PI.code [(1 : Nat), (1 : Nat), (0 : Nat), (0 : Nat), (0 : Nat)], PI.inLoop [(1 : Nat), (1 : Nat), (0 : Nat), (0 : Nat), (0 : Nat)], PI.inBlock (0 : Nat), PI.code [(1 : Nat), (1 : Nat), (1 : Nat)]] ({ n := (23 : Nat), fr := [(0, .x (.c (.pd (.int .u64 (m : Int))))), (2, SV.x (SX.c (SC.pd (PD.str [])))), (3, SV.x (SX.c (SC.pd (PD.str (o)))))], ck := [] }) := by
  intro k
  induction k with
  | zero => ?_
  | succ k ih => ?_
  all_goals
    intro m o hm hk ho hb
    refine J.go (cfg := cfg0) cfg0_ok Tryd.func48 1000 (t := (Tree.ite (decide ((↑m : Int) > (9 : Int))) (Tree.need ((10 : Int) ≠ (0 : Int)) (Tree.need (List.length (strOf [IntKind.wrap IntKind.u8 (IntKind.wrap IntKind.u64 ((48 : Int) + Int.tmod (↑m : Int) (10 : Int)))]) + List.length o ≤ (9223372036854775807 : Nat)) (Tree.need ((10 : Int) ≠ (0 : Int)) (Tree.stop [PI.code [(1 : Nat), (1 : Nat), (0 : Nat), (0 : Nat), (0 : Nat)], PI.inLoop [(1 : Nat), (1 : Nat), (0 : Nat), (0 : Nat), (0 : Nat)], PI.inBlock (0 : Nat), PI.code [(1 : Nat), (1 : Nat), (1 : Nat)]] { n := (23 : Nat), fr := [((0 : Nat), SV.x (SX.c (SC.pd (PD.int IntKind.u64 (IntKind.wrap IntKind.u64 (Int.tdiv (↑m : Int) (10 : Int))))))), ((2 : Nat), SV.x (SX.c (SC.pd (PD.str [])))), ((3 : Nat), SV.x (SX.c (SC.pd (PD.str (strOf [IntKind.wrap IntKind.u8 (IntKind.wrap IntKind.u64 ((48 : Int) + Int.tmod (↑m : Int) (10 : Int)))] ++ o)))))], ck := [] })))) (Tree.need (List.length (strOf [IntKind.wrap IntKind.u8 (IntKind.wrap IntKind.u64 ((48 : Int) + (↑m : Int)))]) + List.length o ≤ (9223372036854775807 : Nat)) (Tree.ret (SV.x (SX.c (SC.pd (PD.str (strOf [IntKind.wrap IntKind.u8 (IntKind.wrap IntKind.u64 ((48 : Int) + (↑m : Int)))] ++ o))))) [])))) (by kernel_rfl) ?_
    have et : Int.tmod (m : Int) 10 = ((m % 10 : Nat) : Int) := by rw [Int.tmod_eq_emod_of_nonneg (by omega)]; omega
    have eq : Int.tdiv (m : Int) 10 = ((m / 10 : Nat) : Int) := by rw [Int.tdiv_eq_ediv_of_nonneg (by omega)]; omega
    refine ⟨fun h => ?_, fun h => ?_⟩
    · have h' : ¬ m < 10 := by have := of_decide_eq_true h; omega
      have e : Lib.decDigits m = Lib.decDigits (m / 10) ++ [UInt8.ofNat (48 + m % 10)] := by rw [Lib.decDigits, dif_neg h']
      rw [told_digit (Nat.mod_lt m (by omega)) _ et, eq, wrapU (by omega) (by omega), e]
      refine ⟨by omega, by simp only [List.length_cons, List.length_nil]; omega, by omega, ?_⟩
      first
      | (exfalso; simp at hm; omega)
      | have := ih (m / 10) ([UInt8.ofNat (48 + m % 10)] ++ o) (by rw [Nat.pow_succ] at hm; omega) (by omega) (by simp only [List.length_append, List.length_cons, List.length_nil]; omega) (by omega)
        rw [List.append_assoc]
        exact this
    · have h' : m < 10 := by have := of_decide_eq_false h; omega
      rw [told_digit h' _ rfl, Lib.decDigits_one h']
      exact ⟨by simp only [List.length_cons, List.length_nil]; omega, rfl, rfl⟩
theorem un_spec (u : Nat) (h : u < 18446744073709551616) : Does Tryd.prog 48 [.c (.pd (.int .u64 (u : Int)))] [] (.x (.s (Lib.decDigits u))) [] := by
  refine Does.go (cfg := cfg0) cfg0_ok Tryd.func48 (by kernel_rfl) (by kernel_rfl) (t := (Tree.stop [PI.code [(1 : Nat), (1 : Nat), (0 : Nat), (0 : Nat), (0 : Nat)], PI.inLoop [(1 : Nat), (1 : Nat), (0 : Nat), (0 : Nat), (0 : Nat)], PI.inBlock (0 : Nat), PI.code [(1 : Nat), (1 : Nat), (1 : Nat)]] { n := (23 : Nat), fr := [((0 : Nat), SV.x (SX.c (SC.pd (PD.int IntKind.u64 (↑u : Int))))), ((2 : Nat), SV.x (SX.c (SC.pd (PD.str [])))), ((3 : Nat), SV.x (SX.c (SC.pd (PD.str []))))], ck := [] })) (by kernel_rfl) fun Γ => ?_
  have := un_loop (u : Int) Γ 20 u [] (by omega) (by omega) (by simp) h
  rw [List.append_nil] at this
  exact this
theorem un_int (z : Int) (h0 : 0 ≤ z) (h1 : z < 18446744073709551616) : Does Tryd.prog 48 [.c (.pd (.int .u64 z))] [] (.x (.s (Lib.decDigits z.toNat))) [] := by
  obtain ⟨u, rfl⟩ := Int.eq_ofNat_of_zero_le h0
  exact un_spec u (by omega)
def eUn : Nat × (List SX → List Chunk → Option (Option Prop × SV × List Chunk)) := (48, fun
  | [.c (.pd (.int .u64 z))], [] => some (some (0 ≤ z ∧ z < 18446744073709551616), .x (.c (.pd (.str (Lib.decDigits z.toNat)))), [])
  | _, _ => none)
theorem eUn_ok (vs : List SX) (ck : List Chunk) (p : Option Prop) (ret : SV) (ck' : List Chunk) (h : eUn.2 vs ck = some (p, ret, ck')) (hp : Holds p) : Does Tryd.prog eUn.1 vs ck ret ck' := by
  unfold eUn at h
  simp only at h
  split at h
  · rename_i z
    simp only [Option.some.injEq, Prod.mk.injEq] at h
    obtain ⟨rfl, rfl, rfl⟩ := h
    exact un_int z hp.1 hp.2
  · simp at h
def cfgDi : Cfg := ⟨tys0, [eUn]⟩
theorem cfgDi_ok : TabOk Tryd.prog cfgDi.tab := (TabOk.cons eUn_ok TabOk.nil)
theorem ref_digits1 (n : Int) (h0 : -9223372036854775808 ≤ n) (h1 : n ≤ 9223372036854775807) : Does Tryd.prog 42 [.i n] [] (.x (.s (Lib.itoa n))) [] := by
  refine Does.go (cfg := cfgDi) cfgDi_ok Tryd.func42 (by kernel_rfl) (by kernel_rfl) (t := (Tree.ite (decide (n < (0 : Int))) (Tree.need ((0 : Int) ≤ IntKind.wrap IntKind.u64 (IntKind.wrap IntKind.u64 (IntKind.wrap IntKind.i64 ((0 : Int) - IntKind.wrap IntKind.i64 (n + (1 : Int)))) + (1 : Int)) ∧ IntKind.wrap IntKind.u64 (IntKind.wrap IntKind.u64 (IntKind.wrap IntKind.i64 ((0 : Int) - IntKind.wrap IntKind.i64 (n + (1 : Int)))) + (1 : Int)) < (18446744073709551616 : Int)) (Tree.need ((1 : Nat) + List.length (Lib.decDigits (Int.toNat (IntKind.wrap IntKind.u64 (IntKind.wrap IntKind.u64 (IntKind.wrap IntKind.i64 ((0 : Int) - IntKind.wrap IntKind.i64 (n + (1 : Int)))) + (1 : Int))))) ≤ (9223372036854775807 : Nat)) (Tree.ret (SV.x (SX.c (SC.pd (PD.str ([(45 : UInt8)] ++ Lib.decDigits (Int.toNat (IntKind.wrap IntKind.u64 (IntKind.wrap IntKind.u64 (IntKind.wrap IntKind.i64 ((0 : Int) - IntKind.wrap IntKind.i64 (n + (1 : Int)))) + (1 : Int))))))))) []))) (Tree.need ((0 : Int) ≤ IntKind.wrap IntKind.u64 n ∧ IntKind.wrap IntKind.u64 n < (18446744073709551616 : Int)) (Tree.ret (SV.x (SX.c (SC.pd (PD.str (Lib.decDigits (Int.toNat (IntKind.wrap IntKind.u64 n))))))) [])))) (by kernel_rfl) fun Γ => ?_
  refine ⟨fun h => ?_, fun h => ?_⟩
  · have hn : n < 0 := of_decide_eq_true h
    rw [wrapI (n := n + 1) (by omega) (by omega), wrapI (n := 0 - (n + 1)) (by omega) (by omega), wrapU (x := 0 - (n + 1)) (by omega) (by omega), wrapU (by omega) (by omega)]
    have e : (0 - (n + 1) + 1).toNat = n.natAbs := by omega
    have hl : (Lib.decDigits n.natAbs).length ≤ 40 := by
      have := ten_digits 20 n.natAbs (by omega); omega
    rw [e]
    refine ⟨by omega, by omega, ?_, rfl⟩
    have : Lib.itoa n = 45 :: Lib.decDigits n.natAbs := by unfold Lib.itoa; rw [if_pos hn]
    rw [this]; rfl
  · have hn : ¬ n < 0 := of_decide_eq_false h
    rw [wrapU (by omega) (by omega)]
    refine ⟨by omega, ?_, rfl⟩
    have : Lib.itoa n = Lib.decDigits n.toNat := by unfold Lib.itoa; rw [if_neg hn]
    rw [this]
def eDi1 : Nat × (List SX → List Chunk → Option (Option Prop × SV × List Chunk)) := (42, fun
  | [.c (.pd (.int .i64 n))], [] => some (some (-9223372036854775808 ≤ n ∧ n ≤ 9223372036854775807), .x (.c (.pd (.str (Lib.itoa n)))), [])
  | _, _ => none)
theorem eDi1_ok (vs : List SX) (ck : List Chunk) (p : Option Prop) (ret : SV) (ck' : List Chunk) (h : eDi1.2 vs ck = some (p, ret, ck')) (hp : Holds p) : Does Tryd.prog eDi1.1 vs ck ret ck' := by
  unfold eDi1 at h
  simp only at h
  split at h
  · rename_i n
    simp only [Option.some.injEq, Prod.mk.injEq] at h
    obtain ⟨rfl, rfl, rfl⟩ := h
    exact ref_digits1 n hp.1 hp.2
  · simp at h
def cfgDi1 : Cfg := ⟨tys0, [eDi1]⟩
theorem cfgDi1_ok : TabOk Tryd.prog cfgDi1.tab := (TabOk.cons eDi1_ok TabOk.nil)
theorem ref_digits (n : Int) (h0 : -9223372036854775808 ≤ n) (h1 : n ≤ 9223372036854775807) : Does Tryd.prog 32 [.i n] [] (.x (.s (Lib.itoa n))) [] := by
  refine Does.go (cfg := cfgDi1) cfgDi1_ok Tryd.func32 (by kernel_rfl) (by kernel_rfl) (t := (Tree.need ((-9223372036854775808 : Int) ≤ n ∧ n ≤ (9223372036854775807 : Int)) (Tree.ret (SV.x (SX.c (SC.pd (PD.str (Lib.itoa n))))) []))) (by kernel_rfl) fun Γ => ?_
  exact ⟨⟨h0, h1⟩, rfl, rfl⟩
def eDi : Nat × (List SX → List Chunk → Option (Option Prop × SV × List Chunk)) := (32, fun
  | [.c (.pd (.int .i64 n))], [] => some (some (-9223372036854775808 ≤ n ∧ n ≤ 9223372036854775807), .x (.c (.pd (.str (Lib.itoa n)))), [])
  | _, _ => none)
theorem eDi_ok (vs : List SX) (ck : List Chunk) (p : Option Prop) (ret : SV) (ck' : List Chunk) (h : eDi.2 vs ck = some (p, ret, ck')) (hp : Holds p) : Does Tryd.prog eDi.1 vs ck ret ck' := by
  unfold eDi at h
  simp only at h
  split at h
  · rename_i n
    simp only [Option.some.injEq, Prod.mk.injEq] at h
    obtain ⟨rfl, rfl, rfl⟩ := h
    exact ref_digits n hp.1 hp.2
  · simp at h
end Go.Proofs.YtjndellhebidoaaDoor

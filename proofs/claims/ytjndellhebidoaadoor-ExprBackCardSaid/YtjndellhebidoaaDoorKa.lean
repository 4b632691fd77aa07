/- Contracts: numbers told. Conditions: int64; the library's table. -/
import Derived.Test.YtjndellhebidoaaDoorDa
import Derived.Test.YtjndellhebidoaaDoorShelf
import Derived.Lib.AppendIntMem
namespace Go.Proofs.YtjndellhebidoaaDoor
open Go Go.Ev Go.RowKit
set_option maxRecDepth 100000
theorem fr_below {w w' : World} (h : Below w.heap.size w w') : Fr (fun _ => False) w w' := ⟨h.os, h.tape, h.output, h.size, fun k hk _ => h.block k hk⟩
theorem formatInt_spec (n : Int) (h0 : -9223372036854775808 ≤ n) (h1 : n ≤ 9223372036854775807) : Does Tryd.prog 41 [.i n, .i 10] [] (.x (.s (Lib.itoa n))) [] := by
  intro w V vs hw hT hv
  cases hv with
  | cons a1 hv => cases hv with
    | cons a2 hv =>
      cases hv
      have a1' : PR V.H (.int .i64 n) _ := a1
      have a2' : PR V.H (.int .i64 10) _ := a2
      cases a1'
      cases a2'
      have ht : Lib.TabIs Tryd.prog w "internal/strconv.uint64pow10" .u64 Lib.pow10Tab := (hT.1 (by kernel_rfl)).world hw.imm
      refine (Tryd.strconv_FormatInt_10 n h0 h1 w ht).mono fun e w' ⟨he, k, os, hw'⟩ => ?_
      subst he; subst hw'
      exact ⟨_, V, rfl, .str (Lib.itoa n), hw.kept (fr_below (Lib.below_grow w.heap.size w (Nat.le_refl _) k os))⟩
def eFi : Nat × (List SX → List Chunk → Option (Option Prop × SV × List Chunk)) := (41, fun
  | [.c (.pd (.int .i64 n)), .c (.pd (.int .i64 10))], [] => some (some (-9223372036854775808 ≤ n ∧ n ≤ 9223372036854775807), .x (.c (.pd (.str (Lib.itoa n)))), [])
  | _, _ => none)
theorem eFi_ok (vs : List SX) (ck : List Chunk) (p : Option Prop) (ret : SV) (ck' : List Chunk) (h : eFi.2 vs ck = some (p, ret, ck')) (hp : Holds p) : Does Tryd.prog eFi.1 vs ck ret ck' := by
  unfold eFi at h
  simp only at h
  split at h
  · rename_i n
    simp only [Option.some.injEq, Prod.mk.injEq] at h
    obtain ⟨rfl, rfl, rfl⟩ := h
    exact formatInt_spec n hp.1 hp.2
  · simp at h
def cfgDg : Cfg := ⟨tys0, [eFi]⟩
theorem cfgDg_ok : TabOk Tryd.prog cfgDg.tab := (TabOk.cons eFi_ok TabOk.nil)
theorem digits_spec (n : Int) (h0 : -9223372036854775808 ≤ n) (h1 : n ≤ 9223372036854775807) : Does Tryd.prog 30 [.i n] [] (.x (.s (Lib.itoa n))) [] := by
  refine Does.go (cfg := cfgDg) cfgDg_ok Tryd.func30 (by kernel_rfl) (by kernel_rfl) (t := (Tree.need ((-9223372036854775808 : Int) ≤ n ∧ n ≤ (9223372036854775807 : Int)) (Tree.ret (SV.x (SX.c (SC.pd (PD.str (Lib.itoa n))))) []))) (by kernel_rfl) fun Γ => ?_
  exact ⟨⟨h0, h1⟩, rfl, rfl⟩
def eDg : Nat × (List SX → List Chunk → Option (Option Prop × SV × List Chunk)) := (30, fun
  | [.c (.pd (.int .i64 n))], [] => some (some (-9223372036854775808 ≤ n ∧ n ≤ 9223372036854775807), .x (.c (.pd (.str (Lib.itoa n)))), [])
  | _, _ => none)
theorem eDg_ok (vs : List SX) (ck : List Chunk) (p : Option Prop) (ret : SV) (ck' : List Chunk) (h : eDg.2 vs ck = some (p, ret, ck')) (hp : Holds p) : Does Tryd.prog eDg.1 vs ck ret ck' := by
  unfold eDg at h
  simp only at h
  split at h
  · rename_i n
    simp only [Option.some.injEq, Prod.mk.injEq] at h
    obtain ⟨rfl, rfl, rfl⟩ := h
    exact digits_spec n hp.1 hp.2
  · simp at h
end Go.Proofs.YtjndellhebidoaaDoor

/- Contracts: the list's copy, the example. Conditions: none. -/
import Derived.Test.YtgoihhnfkoklpaaFf
namespace Go.Proofs.Ytgoihhnfkoklpaa
open Go Go.Ev
set_option maxRecDepth 100000
theorem copied_spec (l : List Cell) (h : room l.length 32) : Does Try.prog 15 [.l .cell l] [] (.x (.c (.own 0))) [.own 38 .cell l] := by
  refine Does.go (cfg := cfg0) cfg0_ok Try.func15 (by kernel_rfl) (by kernel_rfl) (t := (Tree.need (room (List.length ([] ++ l)) (32 : Nat)) (Tree.ret (SV.x (SX.c (SC.own (0 : Nat)))) [Chunk.own (38 : Nat) ETy.cell ([] ++ l)]))) (by kernel_rfl) fun Γ => ?_
  exact ⟨h, rfl, rfl⟩
def eCp : Nat × (List SX → List Chunk → Option (Option Prop × SV × List Chunk)) := (15, fun
  | [.c (.pd (.lst .cell l))], [] => some (some (room l.length 32), .x (.c (.own 0)), [.own 38 .cell l])
  | _, _ => none)
theorem eCp_ok (vs : List SX) (ck : List Chunk) (p : Option Prop) (ret : SV) (ck' : List Chunk) (h : eCp.2 vs ck = some (p, ret, ck')) (hp : Holds p) : Does Try.prog eCp.1 vs ck ret ck' := by
  unfold eCp at h
  simp only at h
  split at h
  · rename_i l
    simp only [Option.some.injEq, Prod.mk.injEq] at h
    obtain ⟨rfl, rfl, rfl⟩ := h
    exact copied_spec l hp
  · simp at h
def cfgWk : Cfg := ⟨tys0, [eOf]⟩
theorem cfgWk_ok : TabOk Try.prog cfgWk.tab := (TabOk.cons eOf_ok TabOk.nil)
theorem wakes_spec : Does Try.prog 17 [] [] (.x (.b true)) [] := by
  refine Does.go (cfg := cfgWk) cfgWk_ok Try.func17 (by kernel_rfl) (by kernel_rfl) (t := (Tree.ret (SV.x (SX.c (SC.pd (PD.bool true)))) [])) (by kernel_rfl) fun Γ => ?_
  exact ⟨rfl, rfl⟩
def eWk : Nat × (List SX → List Chunk → Option (Option Prop × SV × List Chunk)) := (17, fun
  | [], [] => some (none, .x (.c (.pd (.bool true))), [])
  | _, _ => none)
theorem eWk_ok (vs : List SX) (ck : List Chunk) (p : Option Prop) (ret : SV) (ck' : List Chunk) (h : eWk.2 vs ck = some (p, ret, ck')) (hp : Holds p) : Does Try.prog eWk.1 vs ck ret ck' := by
  unfold eWk at h
  simp only at h
  split at h
  · simp only [Option.some.injEq, Prod.mk.injEq] at h
    obtain ⟨rfl, rfl, rfl⟩ := h
    exact wakes_spec
  · simp at h
end Go.Proofs.Ytgoihhnfkoklpaa

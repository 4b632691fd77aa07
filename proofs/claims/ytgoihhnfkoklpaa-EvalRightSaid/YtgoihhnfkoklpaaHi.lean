/- Contracts: the laws' own copy of a call; the examples; the laws EvalRight, EvalOf. Conditions: sizes; values within int64. -/
import Derived.Test.YtgoihhnfkoklpaaJi
namespace Go.Proofs.Ytgoihhnfkoklpaa
open Go Go.Ev
set_option maxRecDepth 100000
def cfgEv : Cfg := ⟨tys0, [eEval]⟩
theorem cfgEv_ok : TabOk Try.prog cfgEv.tab := (TabOk.cons eEval_ok TabOk.nil)
theorem wakes5_spec : Does Try.prog 21 [] [] (.x (.b true)) [] := by
  refine Does.go (cfg := cfgEv) cfgEv_ok Try.func21 (by kernel_rfl) (by kernel_rfl) (t := (Tree.need (∀ (v : ETy.den ETy.val), v ∈ [] → i64 (Val.a v) = true) (Tree.need (∀ (v : ETy.den ETy.val), v ∈ [] → i64 (Val.a v) = true) (Tree.ret (SV.x (SX.c (SC.pd (PD.bool true)))) [])))) (by kernel_rfl) fun Γ => ?_
  exact ⟨by simp, by simp, rfl, rfl⟩
def eWk5 : Nat × (List SX → List Chunk → Option (Option Prop × SV × List Chunk)) := (21, fun
  | [], [] => some (none, .x (.c (.pd (.bool true))), [])
  | _, _ => none)
theorem eWk5_ok (vs : List SX) (ck : List Chunk) (p : Option Prop) (ret : SV) (ck' : List Chunk) (h : eWk5.2 vs ck = some (p, ret, ck')) (hp : Holds p) : Does Try.prog eWk5.1 vs ck ret ck' := by
  unfold eWk5 at h
  simp only at h
  split at h
  · simp only [Option.some.injEq, Prod.mk.injEq] at h
    obtain ⟨rfl, rfl, rfl⟩ := h
    exact wakes5_spec
  · simp at h
/-- A world that may be copied. -/
def WorldOk (vs : List Var) (vals : List Val) (act : List Str) : Prop := room vs.length 64 ∧ room vals.length 24 ∧ room act.length 16 ∧ ∀ v ∈ vals, i64 v.a = true
theorem lawof_spec (l : List Cell) (vs : List Var) (vals : List Val) (act : List Str) (h : room l.length 32) (hw : WorldOk vs vals act) : Does Try.prog 24 [.l .cell l, .agg [.pd (.lst .var vs), .pd (.lst .val vals), .pd (.lst .str act)]] [] (rv (evalM l vs vals act)) [] := by
  refine Does.go (cfg := cfgEv) cfgEv_ok Try.func24 (by kernel_rfl) (by kernel_rfl) (t := (Tree.need (room (List.length ([] ++ l)) (32 : Nat)) (Tree.need (room (List.length ([] ++ vs)) (64 : Nat)) (Tree.need (room (List.length ([] ++ vals)) (24 : Nat)) (Tree.need (room (List.length ([] ++ act)) (16 : Nat)) (Tree.need (∀ (v : ETy.den ETy.val), v ∈ [] ++ vals → i64 (Val.a v) = true) (Tree.ret (SV.tup [SX.agg [SC.pd (PD.int IntKind.i64 (Val.kind (Prod.fst (evalM ([] ++ l) ([] ++ vs) ([] ++ vals) ([] ++ act))))), SC.pd (PD.int IntKind.i64 (Val.a (Prod.fst (evalM ([] ++ l) ([] ++ vs) ([] ++ vals) ([] ++ act))))), SC.pd (PD.int IntKind.i64 (Val.b (Prod.fst (evalM ([] ++ l) ([] ++ vs) ([] ++ vals) ([] ++ act)))))], SX.c (SC.pd (PD.int IntKind.i64 (Prod.snd (evalM ([] ++ l) ([] ++ vs) ([] ++ vals) ([] ++ act)))))]) []))))))) (by kernel_rfl) fun Γ => ?_
  exact ⟨h, hw.1, hw.2.1, hw.2.2.1, hw.2.2.2, rfl, rfl⟩
def eLo : Nat × (List SX → List Chunk → Option (Option Prop × SV × List Chunk)) := (24, fun
  | [.c (.pd (.lst .cell l)), .agg [.pd (.lst .var vs), .pd (.lst .val vals), .pd (.lst .str act)]], [] => some (some (room l.length 32 ∧ (room vs.length 64 ∧ room vals.length 24 ∧ room act.length 16 ∧ ∀ v ∈ vals, i64 v.a = true)), .tup [.agg [.pd (.int .i64 (evalM l vs vals act).1.kind), .pd (.int .i64 (evalM l vs vals act).1.a), .pd (.int .i64 (evalM l vs vals act).1.b)], .c (.pd (.int .i64 (evalM l vs vals act).2))], [])
  | _, _ => none)
theorem eLo_ok (vs : List SX) (ck : List Chunk) (p : Option Prop) (ret : SV) (ck' : List Chunk) (h : eLo.2 vs ck = some (p, ret, ck')) (hp : Holds p) : Does Try.prog eLo.1 vs ck ret ck' := by
  unfold eLo at h
  simp only at h
  split at h
  · rename_i l vs vals act
    simp only [Option.some.injEq, Prod.mk.injEq] at h
    obtain ⟨rfl, rfl, rfl⟩ := h
    exact lawof_spec l vs vals act hp.1 hp.2
  · simp at h
def cfgEr : Cfg := ⟨tys0, [eWk5, eEvRight, eRefRight]⟩
theorem cfgEr_ok : TabOk Try.prog cfgEr.tab := (TabOk.cons eWk5_ok (TabOk.cons eEvRight_ok (TabOk.cons eRefRight_ok TabOk.nil)))
theorem evalright_spec (v : Val) : Does Try.prog 8 [.agg [.pd (.i v.kind), .pd (.i v.a), .pd (.i v.b)]] [] (.x (.b true)) [] := by
  refine Does.go (cfg := cfgEr) cfgEr_ok Try.func8 (by kernel_rfl) (by kernel_rfl) (t := (Tree.ret (SV.x (SX.c (SC.pd (PD.bool (true && vR { kind := Val.kind v, a := Val.a v, b := Val.b v } == vR { kind := Val.kind v, a := Val.a v, b := Val.b v }))))) [])) (by kernel_rfl) fun Γ => ?_
  refine ⟨?_, rfl⟩
  simp
def cfgEl : Cfg := ⟨tys0, [eWk5, eLo, eRefEval]⟩
theorem cfgEl_ok : TabOk Try.prog cfgEl.tab := (TabOk.cons eWk5_ok (TabOk.cons eLo_ok (TabOk.cons eRefEval_ok TabOk.nil)))
theorem evalof_spec (l : List Cell) (vs : List Var) (vals : List Val) (act : List Str) (h : room l.length 32) (hw : WorldOk vs vals act) : Does Try.prog 9 [.l .cell l, .agg [.pd (.lst .var vs), .pd (.lst .val vals), .pd (.lst .str act)]] [] (.x (.b true)) [] := by
  refine Does.go (cfg := cfgEl) cfgEl_ok Try.func9 (by kernel_rfl) (by kernel_rfl) (t := (Tree.need (room (List.length l) (32 : Nat) ∧ room (List.length vs) (64 : Nat) ∧ room (List.length vals) (24 : Nat) ∧ room (List.length act) (16 : Nat) ∧ ∀ (v : ETy.den ETy.val), v ∈ vals → i64 (Val.a v) = true) (Tree.need (∀ (v : ETy.den ETy.val), v ∈ vals → i64 (Val.a v) = true) (Tree.ret (SV.x (SX.c (SC.pd (PD.bool (true && (Val.kind (Prod.fst (evalM l vs vals act)) == Val.kind (Prod.fst (evalM l vs vals act)) && (Val.a (Prod.fst (evalM l vs vals act)) == Val.a (Prod.fst (evalM l vs vals act)) && Val.b (Prod.fst (evalM l vs vals act)) == Val.b (Prod.fst (evalM l vs vals act)))) && Prod.snd (evalM l vs vals act) == Prod.snd (evalM l vs vals act)))))) [])))) (by kernel_rfl) fun Γ => ?_
  refine ⟨⟨h, hw⟩, hw.2.2.2, ?_, rfl⟩
  simp
end Go.Proofs.Ytgoihhnfkoklpaa

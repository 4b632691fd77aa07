/- Contracts: the laws' own copy of a call; the examples; the laws EvalRight, EvalOf. Conditions: sizes; values within int64. -/
import Derived.Test.YtgoihhnfkoklpaaJi
namespace Go.Proofs.Ytgoihhnfkoklpaa
open Go Go.Ev
set_option maxRecDepth 100000
def cfgEv : Cfg := ⟨tys0, [eEval]⟩
theorem cfgEv_ok : TabOk Try.prog cfgEv.tab := (TabOk.cons eEval_ok TabOk.nil)
theorem wakes5_spec : Does Try.prog 21 [] [] (.x (.b true)) [] := by
  refine Does.go (cfg := cfgEv) cfgEv_ok Try.func21 (by kernel_rfl) (by kernel_rfl) (t := (Tree.need (∀ (v : ETy.den ETy.val), v ∈ [] → i64 (Val.a v) = true) (Tree.need (∀ (v : ETy.den ETy.val), v ∈ [] → i64 (Val.a v) = true) (Tree.ret (SV.x (SX.c (SC.pd (PD.bool true)))) [])))) (by kernel_rfl) fun Γ => ?_
  exact ⟨by simp, by simp, rfl, rfl⟩
def eWk5 : Nat × (List SX → List Chunk → Option (Option Prop × SV × List Chunk)) := (21, fun
  | [], [] => some (none, .x (.c (.pd (.bool true))), [])
  | _, _ => none)
theorem eWk5_ok (vs : List SX) (ck : List Chunk) (p : Option Prop) (ret : SV) (ck' : List Chunk) (h : eWk5.2 vs ck = some (p, ret, ck')) (hp : Holds p) : Does Try.prog eWk5.1 vs ck ret ck' := by
  unfold eWk5 at h
  simp only at h
  split at h
  · simp only [Option.some.injEq, Prod.mk.injEq] at h
    obtain ⟨rfl, rfl, rfl⟩ := h
    exact wakes5_spec
  · simp at h
/-- A world that may be copied. -/
def WorldOk (vs : List Var) (vals : List Val) (act : List Str) : Prop := room vs.length 64 ∧ room vals.length 24 ∧ room act.length 16 ∧ ∀ v ∈ vals, i64 v.a = true
theorem lawof_spec (l : List Cell) (vs : List Var) (vals : List Val) (act : List Str) (h : room l.length 32) (hw : WorldOk vs vals act) : Does Try.prog 24 [.l .cell l, .agg [.pd (.lst .var vs), .pd (.lst .val vals), .pd (.lst .str act)]] [] (rv (evalM l vs vals act)) [] := by
  refine Does.go (cfg := cfgEv) cfgEv_ok Try.func24 (by kernel_rfl) (by kernel_rfl) (t := (Tree.need (room (List.length ([] ++ l)) (32 : Nat)) (Tree.need (room (List.length ([] ++ vs)) (64 : Nat)) (Tree.need (room (List.length ([] ++ vals)) (24 : Nat)) (Tree.need (room (List.length ([] ++ act)) (16 : Nat)) (Tree.need (∀ (v : ETy.den ETy.val), v ∈ [] ++ vals → i64 (Val.a v) = true) (Tree.ret (SV.tup [SX.agg [SC.pd (PD.int IntKind.i64 (Val.kind (Prod.fst (evalM ([] ++ l) ([] ++ vs) ([] ++ vals) ([] ++ act))))), SC.pd (PD.int IntKind.i64 (Val.a (Prod.fst (evalM ([] ++ l) ([] ++ vs) ([] ++ vals) ([] ++ act))))), SC.pd (PD.int IntKind.i64 (Val.b (Prod.fst (evalM ([] ++ l) ([] ++ vs) ([] ++ vals) ([] ++ act)))))], SX.c (SC.pd (PD.int IntKind.i64 (Prod.snd (evalM ([] ++ l) ([] ++ vs) ([] ++ vals) ([] ++ act)))))]) []))))))) (by kernel_rfl) fun Γ => ?_
  exact ⟨h, hw.1, hw.2.1, hw.2.2.1, hw.2.2.2, rfl, rfl⟩
def eLo : Nat × (List SX → List Chunk → Option (Option Prop × SV × List Chunk)) := (24, fun
  | [.c (.pd (.lst .cell l)), .agg [.pd (.lst .var vs), .pd (.lst .val vals), .pd (.lst .str act)]], [] => some (some (room l.length 32 ∧ (room vs.length 64 ∧ room vals.length 24 ∧ room act.length 16 ∧ ∀ v ∈ vals, i64 v.a = true)), .tup [.agg [.pd (.int .i64 (evalM l vs vals act).1.kind), .pd (.int .i64 (evalM l vs vals act).1.a), .pd (.int .i64 (evalM l vs vals act).1.b)], .c (.pd (.int .i64 (evalM l vs vals act).2))], [])
  | _, _ => none)
theorem eLo_ok (vs : List SX) (ck : List Chunk) (p : Option Prop) (ret : SV) (ck' : List Chunk) (h : eLo.2 vs ck = some (p, ret, ck')) (hp : Holds p) : Does Try.prog eLo.1 vs ck ret ck' := by
  unfold eLo at h
  simp only at h
  split at h
  · rename_i l vs vals act
    simp only [Option.some.injEq, Prod.mk.injEq] at h
    obtain ⟨rfl, rfl, rfl⟩ := h
    exact lawof_spec l vs vals act hp.1 hp.2
  · simp at h
def cfgEr : Cfg := ⟨tys0, [eWk5, eEvRight, eRefRight]⟩
theorem cfgEr_ok : TabOk Try.prog cfgEr.tab := (TabOk.cons eWk5_ok (TabOk.cons eEvRight_ok (TabOk.cons eRefRight_ok TabOk.nil)))
theorem evalright_spec (v : Val) : Does Try.prog 8 [.agg [.pd (.i v.kind), .pd (.i v.a), .pd (.i v.b)]] [] (.x (.b true)) [] := by
  refine Does.go (cfg := cfgEr) cfgEr_ok Try.func8 (by kernel_rfl) (by kernel_rfl) (t := (Tree.ret (SV.x (SX.c (SC.pd (PD.bool (true && vR { kind := Val.kind v, a := Val.a v, b := Val.b v } == vR { kind := Val.kind v, a := Val.a v, b := Val.b v }))))) [])) (by kernel_rfl) fun Γ => ?_
  refine ⟨?_, rfl⟩
  simp
def cfgEl : Cfg := ⟨tys0, [eWk5, eLo, eRefEval]⟩
theorem cfgEl_ok : TabOk Try.prog cfgEl.tab := (TabOk.cons eWk5_ok (TabOk.cons eLo_ok (TabOk.cons eRefEval_ok TabOk.nil)))
theorem evalof_spec (l : List Cell) (vs : List Var) (vals : List Val) (act : List Str) (h : room l.length 32) (hw : WorldOk vs vals act) : Does Try.prog 9 [.l .cell l, .agg [.pd (.lst .var vs), .pd (.lst .val vals), .pd (.lst .str act)]] [] (.x (.b true)) [] := by
  refine Does.go (cfg := cfgEl) cfgEl_ok Try.func9 (by kernel_rfl) (by kernel_rfl) (t := (Tree.need (room (List.length l) (32 : Nat) ∧ room (List.length vs) (64 : Nat) ∧ room (List.length vals) (24 : Nat) ∧ room (List.length act) (16 : Nat) ∧ ∀ (v : ETy.den ETy.val), v ∈ vals → i64 (Val.a v) = true) (Tree.need (∀ (v : ETy.den ETy.val), v ∈ vals → i64 (Val.a v) = true) (Tree.ret (SV.x (SX.c (SC.pd (PD.bool (true && (Val.kind (Prod.fst (evalM l vs vals act)) == Val.kind (Prod.fst (evalM l vs vals act)) && (Val.a (Prod.fst (evalM l vs vals act)) == Val.a (Prod.fst (evalM l vs vals act)) && Val.b (Prod.fst (evalM l vs vals act)) == Val.b (Prod.fst (evalM l vs vals act)))) && Prod.snd (evalM l vs vals act) == Prod.snd (evalM l vs vals act)))))) [])))) (by kernel_rfl) fun Γ => ?_
  refine ⟨⟨h, hw⟩, hw.2.2.2, ?_, rfl⟩
  simp
/-- Which truths are written out is a mark alone. -/
theorem J.kn {P : Program} {f : FuncId} {root : Code} {Γ : Ctx} {Q : Out} {todo : List PI} {st : ST} (l : List Nat) (h : J P f root Γ Q todo { st with kn := l }) : J P f root Γ Q todo st :=
  fun V a w r => h V a w ⟨r.1, r.2, r.3, r.4, r.5⟩
abbrev nilV : SC := .pd (.v (.slice none 0 0))
/-- No list at all is an empty one. -/
theorem nil_lst {V : Vn} {v : Value} (t : ETy) (h : SC.R V nilV v) : SC.R V (.pd (.lst t [])) v := by
  have h' : PR V.H (.v (.slice none 0 0)) v := h
  cases h'
  exact PR.emp t none 0 (fun _ => rfl)
theorem lawof_nil2 (l : List Cell) (act : List Str) (h : room l.length 32) (ha : room act.length 16) : Does Try.prog 24 [.l .cell l, .agg [nilV, nilV, .pd (.lst .str act)]] [] (rv (evalM l [] [] act)) [] := by
  intro w V vs hw hvs
  refine lawof_spec l [] [] act h ⟨by unfold room maxLen; simp, by unfold room maxLen; simp, ha, by simp⟩ w V vs hw ?_
  cases hvs with
  | cons h1 h2 =>
    cases h2 with
    | cons h2 h3 =>
      refine .cons h1 (.cons ?_ h3)
      obtain ⟨us, rfl, hu⟩ := h2
      cases hu with
      | cons u1 hu => cases hu with
        | cons u2 hu => exact ⟨_, rfl, .cons (nil_lst .var u1) (.cons (nil_lst .val u2) hu)⟩
theorem lawof_nil3 (l : List Cell) (h : room l.length 32) : Does Try.prog 24 [.l .cell l, .agg [nilV, nilV, nilV]] [] (rv (evalM l [] [] [])) [] := by
  intro w V vs hw hvs
  refine lawof_nil2 l [] h (by unfold room maxLen; simp) w V vs hw ?_
  cases hvs with
  | cons h1 h2 =>
    cases h2 with
    | cons h2 h3 =>
      refine .cons h1 (.cons ?_ h3)
      obtain ⟨us, rfl, hu⟩ := h2
      cases hu with
      | cons u1 hu => cases hu with
        | cons u2 hu => cases hu with
          | cons u3 hu => exact ⟨_, rfl, .cons u1 (.cons u2 (.cons (nil_lst .str u3) hu))⟩
def eLo2 : Nat × (List SX → List Chunk → Option (Option Prop × SV × List Chunk)) := (24, fun
  | [.c (.pd (.lst .cell l)), .agg [.pd (.v (.slice none 0 0)), .pd (.v (.slice none 0 0)), .pd (.lst .str act)]], [] => some (some (room l.length 32 ∧ room act.length 16), .tup [.agg [.pd (.int .i64 (evalM l [] [] act).1.kind), .pd (.int .i64 (evalM l [] [] act).1.a), .pd (.int .i64 (evalM l [] [] act).1.b)], .c (.pd (.int .i64 (evalM l [] [] act).2))], [])
  | _, _ => none)
theorem eLo2_ok (vs : List SX) (ck : List Chunk) (p : Option Prop) (ret : SV) (ck' : List Chunk) (h : eLo2.2 vs ck = some (p, ret, ck')) (hp : Holds p) : Does Try.prog eLo2.1 vs ck ret ck' := by
  unfold eLo2 at h
  simp only at h
  split at h
  · rename_i l act
    simp only [Option.some.injEq, Prod.mk.injEq] at h
    obtain ⟨rfl, rfl, rfl⟩ := h
    exact lawof_nil2 l act hp.1 hp.2
  · simp at h
def eLo3 : Nat × (List SX → List Chunk → Option (Option Prop × SV × List Chunk)) := (24, fun
  | [.c (.pd (.lst .cell l)), .agg [.pd (.v (.slice none 0 0)), .pd (.v (.slice none 0 0)), .pd (.v (.slice none 0 0))]], [] => some (some (room l.length 32), .tup [.agg [.pd (.int .i64 (evalM l [] [] []).1.kind), .pd (.int .i64 (evalM l [] [] []).1.a), .pd (.int .i64 (evalM l [] [] []).1.b)], .c (.pd (.int .i64 (evalM l [] [] []).2))], [])
  | _, _ => none)
theorem eLo3_ok (vs : List SX) (ck : List Chunk) (p : Option Prop) (ret : SV) (ck' : List Chunk) (h : eLo3.2 vs ck = some (p, ret, ck')) (hp : Holds p) : Does Try.prog eLo3.1 vs ck ret ck' := by
  unfold eLo3 at h
  simp only at h
  split at h
  · rename_i l
    simp only [Option.some.injEq, Prod.mk.injEq] at h
    obtain ⟨rfl, rfl, rfl⟩ := h
    exact lawof_nil3 l hp
  · simp at h
theorem lawof_nil1 (l : List Cell) (vs : List Var) (vals : List Val) (h : room l.length 32) (h2 : room vs.length 64) (h3 : room vals.length 24) (hi : ∀ v ∈ vals, i64 v.a = true) : Does Try.prog 24 [.l .cell l, .agg [.pd (.lst .var vs), .pd (.lst .val vals), nilV]] [] (rv (evalM l vs vals [])) [] := by
  intro w V us0 hw hvs
  refine lawof_spec l vs vals [] h ⟨h2, h3, by unfold room maxLen; simp, hi⟩ w V us0 hw ?_
  cases hvs with
  | cons h1 h2 =>
    cases h2 with
    | cons h2 h3 =>
      refine .cons h1 (.cons ?_ h3)
      obtain ⟨us, rfl, hu⟩ := h2
      cases hu with
      | cons u1 hu => cases hu with
        | cons u2 hu => cases hu with
          | cons u3 hu => exact ⟨_, rfl, .cons u1 (.cons u2 (.cons (nil_lst .str u3) hu))⟩
def eLo1 : Nat × (List SX → List Chunk → Option (Option Prop × SV × List Chunk)) := (24, fun
  | [.c (.pd (.lst .cell l)), .agg [.pd (.lst .var vs), .pd (.lst .val vals), .pd (.v (.slice none 0 0))]], [] => some (some (room l.length 32 ∧ room vs.length 64 ∧ room vals.length 24 ∧ ∀ v ∈ vals, i64 v.a = true), .tup [.agg [.pd (.int .i64 (evalM l vs vals []).1.kind), .pd (.int .i64 (evalM l vs vals []).1.a), .pd (.int .i64 (evalM l vs vals []).1.b)], .c (.pd (.int .i64 (evalM l vs vals []).2))], [])
  | _, _ => none)
theorem eLo1_ok (vs : List SX) (ck : List Chunk) (p : Option Prop) (ret : SV) (ck' : List Chunk) (h : eLo1.2 vs ck = some (p, ret, ck')) (hp : Holds p) : Does Try.prog eLo1.1 vs ck ret ck' := by
  unfold eLo1 at h
  simp only at h
  split at h
  · rename_i l vs vals
    simp only [Option.some.injEq, Prod.mk.injEq] at h
    obtain ⟨rfl, rfl, rfl⟩ := h
    exact lawof_nil1 l vs vals hp.1 hp.2.1 hp.2.2.1 hp.2.2.2
  · simp at h
end Go.Proofs.Ytgoihhnfkoklpaa

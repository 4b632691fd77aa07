/- Plain laws: other names for the variables change nothing of the kind. Conditions: each theorem's own. -/
import Derived.Test.YtgoihhnfkoklpaaHe
namespace Go.Proofs.Ytgoihhnfkoklpaa
open Go Go.Ev
set_option maxRecDepth 100000
def renC (old name : Str) (c : Cell) : Cell := bif c.op == 5 && c.name == old then ⟨c.op, c.a, name⟩ else c
def renV (old name : Str) (v : Var) : Var := bif v.name == old then ⟨name, v.kind, v.lo, v.hi, v.init⟩ else v
theorem renC_op (old name : Str) (c : Cell) : (renC old name c).op = c.op := by
  unfold renC
  cases (c.op == 5 && c.name == old) <;> rfl
theorem find_ren {old name : Str} (x : Str) (hn : name ≠ old) : ∀ (vs : List Var), (∀ v ∈ vs, v.name ≠ name) → x ≠ name →
    (findVar (vs.map (renV old name)) (bif x == old then name else x)).map (·.kind) = (findVar vs x).map (·.kind)
  | [], _, _ => rfl
  | v :: vs, h, hx => by
    have ih := find_ren x hn vs (fun u hu => h u (List.mem_cons_of_mem _ hu)) hx
    have hv := h v List.mem_cons_self
    have key : ((renV old name v).name == (bif x == old then name else x)) = (v.name == x) := by
      unfold renV
      by_cases h1 : v.name = old
      · by_cases h2 : x = old
        · subst h2; simp [h1]
        · have h3 : (x == old) = false := by simpa using h2
          simp only [h1, BEq.rfl, cond_true, h3, cond_false]
          have : old ≠ x := fun e => h2 e.symm
          have h4 : (old == x) = false := by simpa using this
          have h5 : (name == x) = false := by simpa using fun e => hx e.symm
          rw [h4, h5]
      · have h1' : (v.name == old) = false := by simpa using h1
        simp only [h1', cond_false]
        by_cases h2 : x = old
        · subst h2
          have h4 : (v.name == name) = false := by simpa using hv
          simp only [BEq.rfl, cond_true, h4, h1']
        · have h3 : (x == old) = false := by simpa using h2
          simp only [h3, cond_false]
    have hk : (renV old name v).kind = v.kind := by unfold renV; cases (v.name == old) <;> rfl
    simp only [findVar, List.map_cons, List.find?_cons, key]
    cases (v.name == x)
    · exact ih
    · simp [hk]
theorem leaf_ren {old name : Str} {vs : List Var} {ss : List Str} (c : Cell) (hn : name ≠ old) (hvs : ∀ v ∈ vs, v.name ≠ name) (h : (leafM c vs ss).2 = 0) : leafM (renC old name c) (vs.map (renV old name)) ss = leafM c vs ss := by
  by_cases h5 : c.op = 5
  · have e1 : leafM c vs ss = match findVar vs c.name with
        | none => (0, 2)
        | some v => bif decide (v.kind ≥ 1) && decide (v.kind ≤ 3) then (v.kind, 0) else (0, 8) := by
      unfold leafM; rw [h5]; rfl
    have e2 : leafM (renC old name c) (vs.map (renV old name)) ss = match findVar (vs.map (renV old name)) (renC old name c).name with
        | none => (0, 2)
        | some v => bif decide (v.kind ≥ 1) && decide (v.kind ≤ 3) then (v.kind, 0) else (0, 8) := by
      unfold leafM; rw [renC_op, h5]; rfl
    have hx : c.name ≠ name := by
      intro e
      rw [e1] at h
      have hnone : findVar vs c.name = none := by
        rw [findVar, List.find?_eq_none]
        intro v hv hc
        exact hvs v hv (by rw [← e]; simpa using hc)
      rw [hnone] at h; simp at h
    have hname : (renC old name c).name = bif c.name == old then name else c.name := by
      unfold renC; rw [h5]
      cases (c.name == old) <;> rfl
    have hf := find_ren (old := old) c.name hn vs hvs hx
    rw [e1, e2, hname]
    generalize findVar (vs.map (renV old name)) (bif c.name == old then name else c.name) = p at hf
    generalize findVar vs c.name = q at hf
    cases p with
    | none => cases q with
      | none => rfl
      | some v => simp at hf
    | some u => cases q with
      | none => simp at hf
      | some v => simp only [Option.map_some, Option.some.injEq] at hf; simp only [hf]
  · have e : renC old name c = c := by
      unfold renC
      have : (c.op == 5) = false := by simpa using h5
      rw [this]; rfl
    rw [e]
    unfold leafM
    have : (c.op == 5) = false := by simpa using h5
    rw [this]; rfl
theorem go_ren {old name : Str} {vs : List Var} {ss : List Str} (hn : name ≠ old) (hvs : ∀ v ∈ vs, v.name ≠ name) : ∀ (l : List Cell) (st : List Int), (kindGo vs ss l st).2 = 0 →
    kindGo (vs.map (renV old name)) ss (l.map (renC old name)) st = kindGo vs ss l st
  | [], st, _ => rfl
  | c :: l, st, h => by
    have hs : (kindStep vs ss c st).2.1 = 0 ∧ (kindGo vs ss l ((kindStep vs ss c st).1 :: (kindStep vs ss c st).2.2)).2 = 0 := by
      simp only [kindGo] at h
      cases h1 : ((kindStep vs ss c st).2.1 == 0)
      · rw [h1] at h
        simp only [Bool.false_and, cond_false] at h
        have h2 : ((kindStep vs ss c st).2.1 != 0) = true := by simpa using h1
        rw [h2] at h
        have h3 : (kindStep vs ss c st).2.1 = 0 := h
        rw [h3] at h1; simp at h1
      · refine ⟨by simpa using h1, ?_⟩
        rw [h1] at h
        cases h2 : ((kindStep vs ss c st).1 == 0)
        · rw [h2] at h
          have h3 : (kindStep vs ss c st).2.1 = 0 := by simpa using h1
          simp only [Bool.and_false, cond_false, h3] at h
          exact h
        · rw [h2] at h; simp at h
    have hstep : kindStep (vs.map (renV old name)) ss (renC old name c) st = kindStep vs ss c st := by
      unfold kindStep
      rw [renC_op]
      cases h7 : decide (c.op < 7)
      · rfl
      · have hl : (leafM c vs ss).2 = 0 := by
          have := hs.1
          unfold kindStep at this
          rw [h7] at this
          exact this
        simp only [cond_true, leaf_ren c hn hvs hl]
    simp only [List.map_cons, kindGo, hstep]
    rw [go_ren hn hvs l _ hs.2]
theorem kinds_ren {old name : Str} {l : List Cell} {vs : List Var} {ss : List Str} (hn : name ≠ old) (hvs : ∀ v ∈ vs, v.name ≠ name) (h : (kindsM l vs ss).2 = 0) (hr : rightM (l.map (renC old name)) = true) :
    kindsM (l.map (renC old name)) (vs.map (renV old name)) ss = kindsM l vs ss := by
  have hr0 : rightM l = true := by
    cases hb : rightM l
    · rw [kindsM, hb] at h; simp at h
    · rfl
  rw [kindsM, hr]
  have e : kindsM l vs ss = kindGo vs ss l [] := by rw [kindsM, hr0]; rfl
  rw [e] at h ⊢
  exact go_ren hn hvs l [] h
theorem kinds_wrong {l : List Cell} {vs : List Var} {ss : List Str} (h : rightM l = false) : kindsM l vs ss = (0, 1) := by rw [kindsM, h]; rfl
end Go.Proofs.Ytgoihhnfkoklpaa

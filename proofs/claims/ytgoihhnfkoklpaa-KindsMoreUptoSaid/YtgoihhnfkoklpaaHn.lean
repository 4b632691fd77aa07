/- The law KindsMore's walk. Conditions: sizes. -/
import Derived.Test.YtgoihhnfkoklpaaHa
namespace Go.Proofs.Ytgoihhnfkoklpaa
open Go Go.Ev
set_option maxRecDepth 100000
theorem leaf_more (c : Cell) (vs vs' : List Var) (ss ss' : List Str) (h : (leafM c vs ss).2 = 0) : leafM c (vs ++ vs') (ss ++ ss') = leafM c vs ss := by
  revert h
  unfold leafM
  cases c.op == 1
  · cases c.op == 2
    · cases c.op == 5
      · cases c.op == 6
        · intro _; rfl
        · simp only [cond_true, cond_false, List.any_append]
          cases ss.any fun s => s == c.name
          · intro h; simp at h
          · intro _; rfl
      · show (match findVar vs c.name with
          | none => (0, 2)
          | some v => bif decide (v.kind ≥ 1) && decide (v.kind ≤ 3) then (v.kind, 0) else ((0 : Int), (8 : Int))).2 = 0 → (match findVar (vs ++ vs') c.name with
          | none => (0, 2)
          | some v => bif decide (v.kind ≥ 1) && decide (v.kind ≤ 3) then (v.kind, 0) else ((0 : Int), (8 : Int))) = (match findVar vs c.name with
          | none => (0, 2)
          | some v => bif decide (v.kind ≥ 1) && decide (v.kind ≤ 3) then (v.kind, 0) else ((0 : Int), (8 : Int)))
        unfold findVar
        rw [List.find?_append]
        cases vs.find? fun v => v.name == c.name with
        | none => intro h; simp at h
        | some v => intro _; rfl
    · intro _; rfl
  · intro _; rfl
theorem kind_more (vs vs' : List Var) (ss ss' : List Str) : ∀ t : Tm, (t.kind vs ss).2 = 0 → t.kind (vs ++ vs') (ss ++ ss') = t.kind vs ss
  | .leaf c, h => leaf_more c vs vs' ss ss' h
  | .un c t, h => by
    simp only [Tm.kind] at h ⊢
    cases hb : ((t.kind vs ss).2 != 0)
    · rw [kind_more vs vs' ss ss' t (by simpa using hb), hb]
    · rw [hb, cond_true] at h
      have h' : (t.kind vs ss).2 = 0 := h
      rw [h'] at hb; simp at hb
  | .bin c t u, h => by
    simp only [Tm.kind] at h ⊢
    cases hb : ((t.kind vs ss).2 != 0)
    · rw [hb, cond_false] at h
      cases hb2 : ((u.kind vs ss).2 != 0)
      · rw [kind_more vs vs' ss ss' t (by simpa using hb), kind_more vs vs' ss ss' u (by simpa using hb2), hb, hb2]
      · rw [hb2, cond_true] at h
        have h' : (u.kind vs ss).2 = 0 := h
        rw [h'] at hb2; simp at hb2
    · rw [hb, cond_true] at h
      have h' : (t.kind vs ss).2 = 0 := h
      rw [h'] at hb; simp at hb
theorem kinds_more (l : List Cell) (vs vs' : List Var) (ss ss' : List Str) (h : (kindsM l vs ss).2 = 0) : kindsM l (vs ++ vs') (ss ++ ss') = kindsM l vs ss := by
  cases hr : rightM l
  · rw [kindsM, hr] at h; simp at h
  · obtain ⟨h32, t, ht, rfl⟩ := right_tm hr
    rw [kinds_flat vs ss ht h32] at h ⊢
    rw [kinds_flat _ _ ht h32, kind_more vs vs' ss ss' t h]
theorem kinds_err (l : List Cell) (vs : List Var) (ss : List Str) (h : (kindsM l vs ss).2 ≠ 0) : (kindsM l vs ss).1 = 0 := by
  cases hr : rightM l
  · rw [kindsM, hr]; rfl
  · obtain ⟨h32, t, ht, rfl⟩ := right_tm hr
    rw [kinds_flat vs ss ht h32] at h ⊢
    exact (t.kind_one vs ss).2 h
def cfgMo : Cfg := ⟨tys0, [eCp, eOf, eWk]⟩
theorem cfgMo_ok : TabOk Try.prog cfgMo.tab := (TabOk.cons eCp_ok (TabOk.cons eOf_ok (TabOk.cons eWk_ok TabOk.nil)))
theorem more_spec (l : List Cell) (vs vs' : List Var) (ss ss' : List Str) (h : room l.length 32) (h1 : room (vs ++ vs').length 64) (h2 : room (ss ++ ss').length 16) : Does Try.prog 4 [.l .cell l, .agg [.pd (.lst .var vs), .pd (.lst .str ss)], .agg [.pd (.lst .var vs'), .pd (.lst .str ss')]] [] (.x (.b true)) [] := by
  refine Does.go (cfg := cfgMo) cfgMo_ok Try.func4 (by kernel_rfl) (by kernel_rfl) (t := (Tree.need (room (List.length l) (32 : Nat)) (Tree.ite false (Tree.ret (SV.x (SX.c (SC.pd (PD.bool false)))) []) (Tree.ite (Prod.snd (kindsM l vs ss) != (0 : Int)) (Tree.ret (SV.x (SX.c (SC.pd (PD.bool (Prod.fst (kindsM l vs ss) == (0 : Int)))))) []) (Tree.need (room (List.length l) (32 : Nat)) (Tree.need (room (List.length ([] ++ vs)) (64 : Nat)) (Tree.need (room (List.length ([] ++ vs ++ vs')) (64 : Nat)) (Tree.need (room (List.length ([] ++ ss)) (16 : Nat)) (Tree.need (room (List.length ([] ++ ss ++ ss')) (16 : Nat)) (Tree.ret (SV.x (SX.c (SC.pd (PD.bool (Prod.snd (kindsM l ([] ++ vs ++ vs') ([] ++ ss ++ ss')) == (0 : Int) && Prod.fst (kindsM l ([] ++ vs ++ vs') ([] ++ ss ++ ss')) == Prod.fst (kindsM l vs ss)))))) [])))))))))) (by kernel_rfl) fun Γ => ?_
  have le : ∀ {m n b : Nat}, room n b → m ≤ n → room m b := fun h hm => ⟨Nat.le_trans (Nat.mul_le_mul_right _ hm) h.1, Nat.le_trans hm h.2⟩
  refine ⟨h, fun h => Bool.noConfusion h, fun _ => ⟨fun g => ⟨?_, rfl⟩, fun g => ⟨h, le h1 (by simp), h1, le h2 (by simp), h2, ?_, rfl⟩⟩⟩
  · rw [kinds_err l vs ss (by simpa using g)]; rfl
  · have g' : (kindsM l vs ss).2 = 0 := by simpa using g
    rw [List.nil_append, List.nil_append, kinds_more l vs vs' ss ss' g', g']
    simp
end Go.Proofs.Ytgoihhnfkoklpaa

/- The walk of the law on other names. Conditions: the lists' sizes. -/
import Derived.Test.YtgoihhnfkoklpaaHf
namespace Go.Proofs.Ytgoihhnfkoklpaa
open Go Go.Ev
set_option maxRecDepth 100000
/-- A list whose first elements are changed. -/
def mix {α : Type} (f : α → α) (l : List α) (k : Nat) : List α := (l.take k).map f ++ l.drop k
theorem mix_len {α : Type} (f : α → α) (l : List α) (k : Nat) : (mix f l k).length = l.length := by
  simp only [mix, List.length_append, List.length_map, List.length_take, List.length_drop]; omega
theorem mix_zero {α : Type} (f : α → α) (l : List α) : mix f l 0 = l := rfl
theorem mix_end {α : Type} (f : α → α) {l : List α} {k : Nat} (h : l.length ≤ k) : mix f l k = l.map f := by
  rw [mix, List.take_of_length_le h, List.drop_eq_nil_of_le h, List.append_nil]
theorem mix_get {t : ETy} (f : t.den → t.den) (l : List t.den) {k : Nat} (hk : k < l.length) : t.get (mix f l k) k = t.get l k := by
  refine ETy.get_eq ?_
  have h1 : ((l.take k).map f).length = k := by simp; omega
  rw [mix, List.getElem?_append_right (by omega), h1, Nat.sub_self, List.getElem?_drop, Nat.add_zero]
  exact ETy.getElem?_get hk
theorem mix_step {t : ETy} (f : t.den → t.den) (l : List t.den) {k : Nat} (hk : k < l.length) : mix f l (k + 1) = (l.take k).map f ++ f (t.get l k) :: l.drop (k + 1) := by
  have h : l.take (k + 1) = l.take k ++ [t.get l k] := by
    rw [List.take_add_one, ETy.getElem?_get hk]; rfl
  rw [mix, h, List.map_append, List.append_assoc]; rfl
theorem mix_set {t : ETy} (f : t.den → t.den) (l : List t.den) {k : Nat} (hk : k < l.length) {y : t.den} (hy : f (t.get l k) = y) : (mix f l k).set k y = mix f l (k + 1) := by
  have h1 : ((l.take k).map f).length = k := by simp; omega
  rw [mix_step f l hk, mix, drop_get hk, List.set_append_right _ _ (by omega), h1, Nat.sub_self, hy]; rfl
theorem mix_skip {t : ETy} (f : t.den → t.den) (l : List t.den) {k : Nat} (hk : k < l.length) (hy : f (t.get l k) = t.get l k) : mix f l k = mix f l (k + 1) := by
  rw [mix_step f l hk, mix, drop_get hk, hy]
def cfgNm : Cfg := ⟨tys0, [eCp, eOf, eWk, eRright]⟩
theorem cfgNm_ok : TabOk Try.prog cfgNm.tab := (TabOk.cons eCp_ok (TabOk.cons eOf_ok (TabOk.cons eWk_ok (TabOk.cons eRright_ok TabOk.nil))))



theorem named_loop3 (l : List Cell) (vs : List Var) (ss : List Str) (name : Str) (Γ : Ctx) (hk0 : (kindsM l vs ss).2 = 0) (hvl : vs.length ≤ maxLen) (hvs : ∀ v ∈ vs, v.name ≠ name) (hn : name ≠ (ETy.get .var vs 0).name) : ∀ (n k : Nat) (L : List Cell) (M : List Var), vs.length - k ≤ n → k ≤ vs.length →
    L = l.map (renC (ETy.get .var vs 0).name name) → M = mix (renV (ETy.get .var vs 0).name name) vs k →
    J Try.prog 7 (bodyOf Try.f7) Γ (Eq2 (.x (.b true)) []) [PI.code [(1 : Nat), (1 : Nat), (1 : Nat), (1 : Nat), (1 : Nat), (1 : Nat), (1 : Nat), (1 : Nat), (1 : Nat), (0 : Nat), (1 : Nat), (0 : Nat), (0 : Nat)], PI.inLoop [(1 : Nat), (1 : Nat), (1 : Nat), (1 : Nat), (1 : Nat), (1 : Nat), (1 : Nat), (1 : Nat), (1 : Nat), (0 : Nat), (1 : Nat), (0 : Nat), (0 : Nat)], PI.inBlock (4 : Nat), PI.code [(1 : Nat), (1 : Nat), (1 : Nat), (1 : Nat), (1 : Nat), (1 : Nat), (1 : Nat), (1 : Nat), (1 : Nat), (1 : Nat)]] ({ n := (127 : Nat), fr := [(7, SV.x (SX.c (SC.pd (PD.int IntKind.i64 (Prod.fst (kindsM l vs ss)))))), (2, SV.x (SX.c (SC.pd (PD.str name)))), (4, SV.x (SX.c (SC.loc (0 : Nat) (0 : Nat)))), (6, SV.x (SX.c (SC.pd (PD.bool false)))), (9, SV.x (SX.c (SC.pd (PD.str (Var.name (ETy.get ETy.var vs (0 : Nat))))))), (11, SV.x (SX.c (SC.own (1 : Nat)))), (13, SV.x (SX.c (SC.own (2 : Nat)))), (90, SV.x (SX.c (SC.pd (PD.int IntKind.i64 (vs.length))))), (91, SV.x (SX.c (SC.pd (PD.int IntKind.i64 (k)))))], ck := [Chunk.cells [SC.pd (PD.lst ETy.var vs), SC.pd (PD.lst ETy.str ss)] 26, Chunk.own 38 ETy.cell L, Chunk.own 44 ETy.var M] }) := by
  intro n
  induction n with
  | zero => ?_
  | succ n ih => ?_
  all_goals
    intro k L M hn1 hk hL hM
    refine J.go (cfg := cfgNm) cfgNm_ok Try.func7 1000 (t := (Tree.ite (decide ((↑k : Int) < (↑(List.length vs) : Int))) (Tree.need ((0 : Int) ≤ (↑k : Int) ∧ (↑k : Int) < (↑(List.length M) : Int)) (Tree.need (k < List.length M) (Tree.ite (Var.name (ETy.get ETy.var M k) == Var.name (ETy.get ETy.var vs (0 : Nat))) (Tree.need ((0 : Int) ≤ (↑k : Int) ∧ (↑k : Int) < (↑(List.length M) : Int)) (Tree.need (k < List.length M) (Tree.stop [PI.code [(1 : Nat), (1 : Nat), (1 : Nat), (1 : Nat), (1 : Nat), (1 : Nat), (1 : Nat), (1 : Nat), (1 : Nat), (0 : Nat), (1 : Nat), (0 : Nat), (0 : Nat)], PI.inLoop [(1 : Nat), (1 : Nat), (1 : Nat), (1 : Nat), (1 : Nat), (1 : Nat), (1 : Nat), (1 : Nat), (1 : Nat), (0 : Nat), (1 : Nat), (0 : Nat), (0 : Nat)], PI.inBlock (4 : Nat), PI.code [(1 : Nat), (1 : Nat), (1 : Nat), (1 : Nat), (1 : Nat), (1 : Nat), (1 : Nat), (1 : Nat), (1 : Nat), (1 : Nat)]] { n := (127 : Nat), fr := [((7 : Nat), SV.x (SX.c (SC.pd (PD.int IntKind.i64 (Prod.fst (kindsM l vs ss)))))), ((2 : Nat), SV.x (SX.c (SC.pd (PD.str name)))), ((4 : Nat), SV.x (SX.c (SC.loc (0 : Nat) (0 : Nat)))), ((6 : Nat), SV.x (SX.c (SC.pd (PD.bool false)))), ((9 : Nat), SV.x (SX.c (SC.pd (PD.str (Var.name (ETy.get ETy.var vs (0 : Nat))))))), ((11 : Nat), SV.x (SX.c (SC.own (1 : Nat)))), ((13 : Nat), SV.x (SX.c (SC.own (2 : Nat)))), ((90 : Nat), SV.x (SX.c (SC.pd (PD.int IntKind.i64 (↑(List.length vs) : Int))))), ((91 : Nat), SV.x (SX.c (SC.pd (PD.int IntKind.i64 (IntKind.wrap IntKind.i64 ((↑k : Int) + (1 : Int)))))))], ck := [Chunk.cells [SC.pd (PD.lst ETy.var vs), SC.pd (PD.lst ETy.str ss)] (26 : Nat), Chunk.own (38 : Nat) ETy.cell L, Chunk.own (44 : Nat) ETy.var (List.set M k { name := name, kind := Var.kind (ETy.get ETy.var M k), lo := Var.lo (ETy.get ETy.var M k), hi := Var.hi (ETy.get ETy.var M k), init := { kind := Val.kind (Var.init (ETy.get ETy.var M k)), a := Val.a (Var.init (ETy.get ETy.var M k)), b := Val.b (Var.init (ETy.get ETy.var M k)) } })] }))) (Tree.stop [PI.code [(1 : Nat), (1 : Nat), (1 : Nat), (1 : Nat), (1 : Nat), (1 : Nat), (1 : Nat), (1 : Nat), (1 : Nat), (0 : Nat), (1 : Nat), (0 : Nat), (0 : Nat)], PI.inLoop [(1 : Nat), (1 : Nat), (1 : Nat), (1 : Nat), (1 : Nat), (1 : Nat), (1 : Nat), (1 : Nat), (1 : Nat), (0 : Nat), (1 : Nat), (0 : Nat), (0 : Nat)], PI.inBlock (4 : Nat), PI.code [(1 : Nat), (1 : Nat), (1 : Nat), (1 : Nat), (1 : Nat), (1 : Nat), (1 : Nat), (1 : Nat), (1 : Nat), (1 : Nat)]] { n := (127 : Nat), fr := [((7 : Nat), SV.x (SX.c (SC.pd (PD.int IntKind.i64 (Prod.fst (kindsM l vs ss)))))), ((2 : Nat), SV.x (SX.c (SC.pd (PD.str name)))), ((4 : Nat), SV.x (SX.c (SC.loc (0 : Nat) (0 : Nat)))), ((6 : Nat), SV.x (SX.c (SC.pd (PD.bool false)))), ((9 : Nat), SV.x (SX.c (SC.pd (PD.str (Var.name (ETy.get ETy.var vs (0 : Nat))))))), ((11 : Nat), SV.x (SX.c (SC.own (1 : Nat)))), ((13 : Nat), SV.x (SX.c (SC.own (2 : Nat)))), ((90 : Nat), SV.x (SX.c (SC.pd (PD.int IntKind.i64 (↑(List.length vs) : Int))))), ((91 : Nat), SV.x (SX.c (SC.pd (PD.int IntKind.i64 (IntKind.wrap IntKind.i64 ((↑k : Int) + (1 : Int)))))))], ck := [Chunk.cells [SC.pd (PD.lst ETy.var vs), SC.pd (PD.lst ETy.str ss)] (26 : Nat), Chunk.own (38 : Nat) ETy.cell L, Chunk.own (44 : Nat) ETy.var M] })))) (Tree.ite (!rightM L) (Tree.ret (SV.x (SX.c (SC.pd (PD.bool (Prod.snd (kindsM L M ss) == (1 : Int)))))) []) (Tree.ret (SV.x (SX.c (SC.pd (PD.bool (Prod.snd (kindsM L M ss) == (0 : Int) && Prod.fst (kindsM L M ss) == Prod.fst (kindsM l vs ss)))))) [])))) (by kernel_rfl) ?_
    have hMl : M.length = vs.length := by rw [hM, mix_len]
    refine ⟨fun hlt => ?_, fun hge => ?_⟩
    · have hk' : k < vs.length := by have := of_decide_eq_true hlt; omega
      first
      | (exfalso; omega)
      | skip
        have hg : ETy.get .var M k = ETy.get .var vs k := by rw [hM]; exact mix_get (t := .var) _ vs hk'
        rw [hg, wrapK (maxLen_lt hk' hvl)]
        refine ⟨by omega, by omega, fun hc => ⟨by omega, by omega, ?_⟩, fun hc => ?_⟩
        · refine ih (k + 1) _ _ (by omega) (by omega) hL ?_
          rw [hM]
          refine mix_set (t := .var) _ vs hk' ?_
          simp only [renV, hc, cond_true]
        · refine ih (k + 1) _ _ (by omega) (by omega) hL ?_
          rw [hM]
          refine mix_skip (t := .var) _ vs hk' ?_
          simp only [renV, hc, cond_false]
    · have hk' : vs.length ≤ k := by have := of_decide_eq_false hge; omega
      have hM2 : M = vs.map (renV (ETy.get .var vs 0).name name) := by rw [hM, mix_end _ hk']
      subst hL; subst hM2
      refine ⟨fun hr => ⟨?_, rfl⟩, fun hr => ⟨?_, rfl⟩⟩
      · have hr' : rightM (l.map (renC (ETy.get .var vs 0).name name)) = false := by simpa using hr
        rw [kinds_wrong hr']; rfl
      · have hr' : rightM (l.map (renC (ETy.get .var vs 0).name name)) = true := by simpa using hr
        rw [kinds_ren hn hvs hk0 hr', hk0]; simp
theorem named_loop2 (l : List Cell) (vs : List Var) (ss : List Str) (name : Str) (Γ : Ctx) (hk0 : (kindsM l vs ss).2 = 0) (hrv : room vs.length 64) (hll : l.length ≤ maxLen) (hvs : ∀ v ∈ vs, v.name ≠ name) (hn : name ≠ (ETy.get .var vs 0).name) : ∀ (n k : Nat) (L : List Cell), l.length - k ≤ n → k ≤ l.length →
    L = mix (renC (ETy.get .var vs 0).name name) l k →
    J Try.prog 7 (bodyOf Try.f7) Γ (Eq2 (.x (.b true)) []) [PI.code [(1 : Nat), (1 : Nat), (1 : Nat), (1 : Nat), (1 : Nat), (1 : Nat), (1 : Nat), (0 : Nat), (1 : Nat), (0 : Nat), (0 : Nat)], PI.inLoop [(1 : Nat), (1 : Nat), (1 : Nat), (1 : Nat), (1 : Nat), (1 : Nat), (1 : Nat), (0 : Nat), (1 : Nat), (0 : Nat), (0 : Nat)], PI.inBlock (2 : Nat), PI.code [(1 : Nat), (1 : Nat), (1 : Nat), (1 : Nat), (1 : Nat), (1 : Nat), (1 : Nat), (1 : Nat)]] ({ n := (127 : Nat), fr := [(7, SV.x (SX.c (SC.pd (PD.int IntKind.i64 (Prod.fst (kindsM l vs ss)))))), (2, SV.x (SX.c (SC.pd (PD.str name)))), (4, SV.x (SX.c (SC.loc (0 : Nat) (0 : Nat)))), (6, SV.x (SX.c (SC.pd (PD.bool false)))), (9, SV.x (SX.c (SC.pd (PD.str (Var.name (ETy.get ETy.var vs (0 : Nat))))))), (11, SV.x (SX.c (SC.own (1 : Nat)))), (60, SV.x (SX.c (SC.pd (PD.int IntKind.i64 (↑(List.length l) : Int))))), (61, SV.x (SX.c (SC.pd (PD.int IntKind.i64 (k)))))], ck := [Chunk.cells [SC.pd (PD.lst ETy.var vs), SC.pd (PD.lst ETy.str ss)] 26, Chunk.own 38 ETy.cell L] }) := by
  intro n
  induction n with
  | zero => ?_
  | succ n ih => ?_
  all_goals
    intro k L hn1 hk hL
    refine J.go (cfg := cfgNm) cfgNm_ok Try.func7 1000 (t := (Tree.ite (decide ((↑k : Int) < (↑(List.length l) : Int))) (Tree.need ((0 : Int) ≤ (↑k : Int) ∧ (↑k : Int) < (↑(List.length L) : Int)) (Tree.need (k < List.length L) (Tree.need ((Cell.op (ETy.get ETy.cell L k) == (5 : Int)) = true → (0 : Int) ≤ (↑k : Int) ∧ (↑k : Int) < (↑(List.length L) : Int)) (Tree.need ((Cell.op (ETy.get ETy.cell L k) == (5 : Int)) = true → k < List.length L) (Tree.ite (Cell.op (ETy.get ETy.cell L k) == (5 : Int) && Cell.name (ETy.get ETy.cell L k) == Var.name (ETy.get ETy.var vs (0 : Nat))) (Tree.need ((0 : Int) ≤ (↑k : Int) ∧ (↑k : Int) < (↑(List.length L) : Int)) (Tree.need (k < List.length L) (Tree.stop [PI.code [(1 : Nat), (1 : Nat), (1 : Nat), (1 : Nat), (1 : Nat), (1 : Nat), (1 : Nat), (0 : Nat), (1 : Nat), (0 : Nat), (0 : Nat)], PI.inLoop [(1 : Nat), (1 : Nat), (1 : Nat), (1 : Nat), (1 : Nat), (1 : Nat), (1 : Nat), (0 : Nat), (1 : Nat), (0 : Nat), (0 : Nat)], PI.inBlock (2 : Nat), PI.code [(1 : Nat), (1 : Nat), (1 : Nat), (1 : Nat), (1 : Nat), (1 : Nat), (1 : Nat), (1 : Nat)]] { n := (127 : Nat), fr := [((7 : Nat), SV.x (SX.c (SC.pd (PD.int IntKind.i64 (Prod.fst (kindsM l vs ss)))))), ((2 : Nat), SV.x (SX.c (SC.pd (PD.str name)))), ((4 : Nat), SV.x (SX.c (SC.loc (0 : Nat) (0 : Nat)))), ((6 : Nat), SV.x (SX.c (SC.pd (PD.bool false)))), ((9 : Nat), SV.x (SX.c (SC.pd (PD.str (Var.name (ETy.get ETy.var vs (0 : Nat))))))), ((11 : Nat), SV.x (SX.c (SC.own (1 : Nat)))), ((60 : Nat), SV.x (SX.c (SC.pd (PD.int IntKind.i64 (↑(List.length l) : Int))))), ((61 : Nat), SV.x (SX.c (SC.pd (PD.int IntKind.i64 (IntKind.wrap IntKind.i64 ((↑k : Int) + (1 : Int)))))))], ck := [Chunk.cells [SC.pd (PD.lst ETy.var vs), SC.pd (PD.lst ETy.str ss)] (26 : Nat), Chunk.own (38 : Nat) ETy.cell (List.set L k { op := Cell.op (ETy.get ETy.cell L k), a := Cell.a (ETy.get ETy.cell L k), name := name })] }))) (Tree.stop [PI.code [(1 : Nat), (1 : Nat), (1 : Nat), (1 : Nat), (1 : Nat), (1 : Nat), (1 : Nat), (0 : Nat), (1 : Nat), (0 : Nat), (0 : Nat)], PI.inLoop [(1 : Nat), (1 : Nat), (1 : Nat), (1 : Nat), (1 : Nat), (1 : Nat), (1 : Nat), (0 : Nat), (1 : Nat), (0 : Nat), (0 : Nat)], PI.inBlock (2 : Nat), PI.code [(1 : Nat), (1 : Nat), (1 : Nat), (1 : Nat), (1 : Nat), (1 : Nat), (1 : Nat), (1 : Nat)]] { n := (127 : Nat), fr := [((7 : Nat), SV.x (SX.c (SC.pd (PD.int IntKind.i64 (Prod.fst (kindsM l vs ss)))))), ((2 : Nat), SV.x (SX.c (SC.pd (PD.str name)))), ((4 : Nat), SV.x (SX.c (SC.loc (0 : Nat) (0 : Nat)))), ((6 : Nat), SV.x (SX.c (SC.pd (PD.bool false)))), ((9 : Nat), SV.x (SX.c (SC.pd (PD.str (Var.name (ETy.get ETy.var vs (0 : Nat))))))), ((11 : Nat), SV.x (SX.c (SC.own (1 : Nat)))), ((60 : Nat), SV.x (SX.c (SC.pd (PD.int IntKind.i64 (↑(List.length l) : Int))))), ((61 : Nat), SV.x (SX.c (SC.pd (PD.int IntKind.i64 (IntKind.wrap IntKind.i64 ((↑k : Int) + (1 : Int)))))))], ck := [Chunk.cells [SC.pd (PD.lst ETy.var vs), SC.pd (PD.lst ETy.str ss)] (26 : Nat), Chunk.own (38 : Nat) ETy.cell L] })))))) (Tree.need (room (List.length ([] ++ vs)) (64 : Nat)) (Tree.stop [PI.code [(1 : Nat), (1 : Nat), (1 : Nat), (1 : Nat), (1 : Nat), (1 : Nat), (1 : Nat), (1 : Nat), (1 : Nat), (0 : Nat), (1 : Nat), (0 : Nat), (0 : Nat)], PI.inLoop [(1 : Nat), (1 : Nat), (1 : Nat), (1 : Nat), (1 : Nat), (1 : Nat), (1 : Nat), (1 : Nat), (1 : Nat), (0 : Nat), (1 : Nat), (0 : Nat), (0 : Nat)], PI.inBlock (4 : Nat), PI.code [(1 : Nat), (1 : Nat), (1 : Nat), (1 : Nat), (1 : Nat), (1 : Nat), (1 : Nat), (1 : Nat), (1 : Nat), (1 : Nat)]] { n := (127 : Nat), fr := [((7 : Nat), SV.x (SX.c (SC.pd (PD.int IntKind.i64 (Prod.fst (kindsM l vs ss)))))), ((2 : Nat), SV.x (SX.c (SC.pd (PD.str name)))), ((4 : Nat), SV.x (SX.c (SC.loc (0 : Nat) (0 : Nat)))), ((6 : Nat), SV.x (SX.c (SC.pd (PD.bool false)))), ((9 : Nat), SV.x (SX.c (SC.pd (PD.str (Var.name (ETy.get ETy.var vs (0 : Nat))))))), ((11 : Nat), SV.x (SX.c (SC.own (1 : Nat)))), ((13 : Nat), SV.x (SX.c (SC.own (2 : Nat)))), ((90 : Nat), SV.x (SX.c (SC.pd (PD.int IntKind.i64 (↑(List.length ([] ++ vs)) : Int))))), ((91 : Nat), SV.x (SX.c (SC.pd (PD.int IntKind.i64 (0 : Int)))))], ck := [Chunk.cells [SC.pd (PD.lst ETy.var vs), SC.pd (PD.lst ETy.str ss)] (26 : Nat), Chunk.own (38 : Nat) ETy.cell L, Chunk.own (44 : Nat) ETy.var ([] ++ vs)] })))) (by kernel_rfl) ?_
    have hLl : L.length = l.length := by rw [hL, mix_len]
    refine ⟨fun hlt => ?_, fun hge => ?_⟩
    · have hk' : k < l.length := by have := of_decide_eq_true hlt; omega
      first
      | (exfalso; omega)
      | skip
        have hg : ETy.get .cell L k = ETy.get .cell l k := by rw [hL]; exact mix_get (t := .cell) _ l hk'
        rw [hg, wrapK (maxLen_lt hk' hll)]
        refine ⟨by omega, by omega, fun _ => by omega, fun _ => by omega, fun hc => ⟨by omega, by omega, ?_⟩, fun hc => ?_⟩
        · refine ih (k + 1) _ (by omega) (by omega) ?_
          rw [hL]
          refine mix_set (t := .cell) _ l hk' ?_
          simp only [renC, hc, cond_true]
        · refine ih (k + 1) _ (by omega) (by omega) ?_
          rw [hL]
          refine mix_skip (t := .cell) _ l hk' ?_
          simp only [renC, hc, cond_false]
    · have hk' : l.length ≤ k := by have := of_decide_eq_false hge; omega
      exact ⟨hrv, named_loop3 l vs ss name Γ hk0 hrv.2 hvs hn vs.length 0 _ _ (by omega) (by omega) (by rw [hL, mix_end _ hk']) rfl⟩
theorem named_loop1 (l : List Cell) (vs : List Var) (ss : List Str) (name : Str) (Γ : Ctx) (hk0 : (kindsM l vs ss).2 = 0) (hrv : room vs.length 64) (hrl : room l.length 32) (hv0 : 0 < vs.length) : ∀ (n k : Nat), vs.length - k ≤ n → k ≤ vs.length → (∀ j, j < k → (ETy.get .var vs j).name ≠ name) →
    J Try.prog 7 (bodyOf Try.f7) Γ (Eq2 (.x (.b true)) []) [PI.code [(1 : Nat), (1 : Nat), (1 : Nat), (1 : Nat), (1 : Nat), (0 : Nat), (1 : Nat), (0 : Nat), (0 : Nat)], PI.inLoop [(1 : Nat), (1 : Nat), (1 : Nat), (1 : Nat), (1 : Nat), (0 : Nat), (1 : Nat), (0 : Nat), (0 : Nat)], PI.inBlock (0 : Nat), PI.code [(1 : Nat), (1 : Nat), (1 : Nat), (1 : Nat), (1 : Nat), (1 : Nat)]] ({ n := (127 : Nat), fr := [(7, SV.x (SX.c (SC.pd (PD.int IntKind.i64 (Prod.fst (kindsM l vs ss)))))), (0, SV.x (SX.c (SC.pd (PD.lst ETy.cell l)))), (2, SV.x (SX.c (SC.pd (PD.str name)))), (4, SV.x (SX.c (SC.loc (0 : Nat) (0 : Nat)))), (6, SV.x (SX.c (SC.pd (PD.bool false)))), (9, SV.x (SX.c (SC.pd (PD.str (Var.name (ETy.get ETy.var vs (0 : Nat))))))), (44, SV.x (SX.c (SC.pd (PD.int IntKind.i64 (↑(List.length vs) : Int))))), (45, SV.x (SX.c (SC.pd (PD.int IntKind.i64 (k)))))], ck := [Chunk.cells [SC.pd (PD.lst ETy.var vs), SC.pd (PD.lst ETy.str ss)] (26 : Nat)] }) := by
  intro n
  induction n with
  | zero => ?_
  | succ n ih => ?_
  all_goals
    intro k hn1 hk hj
    refine J.go (cfg := cfgNm) cfgNm_ok Try.func7 1000 (t := (Tree.ite (decide ((↑k : Int) < (↑(List.length vs) : Int))) (Tree.need ((0 : Int) ≤ (↑k : Int) ∧ (↑k : Int) < (↑(List.length vs) : Int)) (Tree.ite (Var.name (ETy.get ETy.var vs k) == name) (Tree.ret (SV.x (SX.c (SC.pd (PD.bool true)))) []) (Tree.stop [PI.code [(1 : Nat), (1 : Nat), (1 : Nat), (1 : Nat), (1 : Nat), (0 : Nat), (1 : Nat), (0 : Nat), (0 : Nat)], PI.inLoop [(1 : Nat), (1 : Nat), (1 : Nat), (1 : Nat), (1 : Nat), (0 : Nat), (1 : Nat), (0 : Nat), (0 : Nat)], PI.inBlock (0 : Nat), PI.code [(1 : Nat), (1 : Nat), (1 : Nat), (1 : Nat), (1 : Nat), (1 : Nat)]] { n := (127 : Nat), fr := [((7 : Nat), SV.x (SX.c (SC.pd (PD.int IntKind.i64 (Prod.fst (kindsM l vs ss)))))), ((0 : Nat), SV.x (SX.c (SC.pd (PD.lst ETy.cell l)))), ((2 : Nat), SV.x (SX.c (SC.pd (PD.str name)))), ((4 : Nat), SV.x (SX.c (SC.loc (0 : Nat) (0 : Nat)))), ((6 : Nat), SV.x (SX.c (SC.pd (PD.bool false)))), ((9 : Nat), SV.x (SX.c (SC.pd (PD.str (Var.name (ETy.get ETy.var vs (0 : Nat))))))), ((44 : Nat), SV.x (SX.c (SC.pd (PD.int IntKind.i64 (↑(List.length vs) : Int))))), ((45 : Nat), SV.x (SX.c (SC.pd (PD.int IntKind.i64 (IntKind.wrap IntKind.i64 ((↑k : Int) + (1 : Int)))))))], ck := [Chunk.cells [SC.pd (PD.lst ETy.var vs), SC.pd (PD.lst ETy.str ss)] (26 : Nat)] }))) (Tree.need (room (List.length l) (32 : Nat)) (Tree.stop [PI.code [(1 : Nat), (1 : Nat), (1 : Nat), (1 : Nat), (1 : Nat), (1 : Nat), (1 : Nat), (0 : Nat), (1 : Nat), (0 : Nat), (0 : Nat)], PI.inLoop [(1 : Nat), (1 : Nat), (1 : Nat), (1 : Nat), (1 : Nat), (1 : Nat), (1 : Nat), (0 : Nat), (1 : Nat), (0 : Nat), (0 : Nat)], PI.inBlock (2 : Nat), PI.code [(1 : Nat), (1 : Nat), (1 : Nat), (1 : Nat), (1 : Nat), (1 : Nat), (1 : Nat), (1 : Nat)]] { n := (127 : Nat), fr := [((7 : Nat), SV.x (SX.c (SC.pd (PD.int IntKind.i64 (Prod.fst (kindsM l vs ss)))))), ((2 : Nat), SV.x (SX.c (SC.pd (PD.str name)))), ((4 : Nat), SV.x (SX.c (SC.loc (0 : Nat) (0 : Nat)))), ((6 : Nat), SV.x (SX.c (SC.pd (PD.bool false)))), ((9 : Nat), SV.x (SX.c (SC.pd (PD.str (Var.name (ETy.get ETy.var vs (0 : Nat))))))), ((11 : Nat), SV.x (SX.c (SC.own (1 : Nat)))), ((60 : Nat), SV.x (SX.c (SC.pd (PD.int IntKind.i64 (↑(List.length l) : Int))))), ((61 : Nat), SV.x (SX.c (SC.pd (PD.int IntKind.i64 (0 : Int)))))], ck := [Chunk.cells [SC.pd (PD.lst ETy.var vs), SC.pd (PD.lst ETy.str ss)] (26 : Nat), Chunk.own (38 : Nat) ETy.cell l] })))) (by kernel_rfl) ?_
    refine ⟨fun hlt => ?_, fun hge => ?_⟩
    · have hk' : k < vs.length := by have := of_decide_eq_true hlt; omega
      first
      | (exfalso; omega)
      | skip
        rw [wrapK (maxLen_lt hk' hrv.2)]
        refine ⟨by omega, fun _ => ⟨rfl, rfl⟩, fun hc => ih (k + 1) (by omega) (by omega) fun j hjk => ?_⟩
        rcases Nat.lt_succ_iff_lt_or_eq.1 hjk with h | rfl
        · exact hj j h
        · simpa using hc
    · have hk' : vs.length ≤ k := by have := of_decide_eq_false hge; omega
      have hvs : ∀ v ∈ vs, v.name ≠ name := by
        intro v hv
        obtain ⟨j, h1, rfl⟩ := List.getElem_of_mem hv
        have := hj j (by omega)
        rwa [ETy.get_eq (t := .var) (List.getElem?_eq_getElem h1)] at this
      exact ⟨hrl, named_loop2 l vs ss name Γ hk0 hrv hrl.2 hvs (Ne.symm (hj 0 (by omega))) l.length 0 _ (by omega) (by omega) rfl⟩
theorem named_spec (l : List Cell) (vs : List Var) (ss : List Str) (name : Str) (hrl : room l.length 32) (hrv : room vs.length 64) : Does Try.prog 7 [.l .cell l, .agg [.pd (.lst .var vs), .pd (.lst .str ss)], .s name] [] (.x (.b true)) [] := by
  refine Does.go (cfg := cfgNm) cfgNm_ok Try.func7 (by kernel_rfl) (by kernel_rfl) (t := (Tree.ite false (Tree.ret (SV.x (SX.c (SC.pd (PD.bool false)))) []) (Tree.need (room (List.length l) (32 : Nat)) (Tree.ite (Prod.snd (kindsM l vs ss) != (0 : Int) || (↑(List.length vs) : Int) == (0 : Int)) (Tree.ret (SV.x (SX.c (SC.pd (PD.bool true)))) []) (Tree.need ((0 : Int) ≤ (0 : Int) ∧ (0 : Int) < (↑(List.length vs) : Int)) (Tree.stop [PI.code [(1 : Nat), (1 : Nat), (1 : Nat), (1 : Nat), (1 : Nat), (0 : Nat), (1 : Nat), (0 : Nat), (0 : Nat)], PI.inLoop [(1 : Nat), (1 : Nat), (1 : Nat), (1 : Nat), (1 : Nat), (0 : Nat), (1 : Nat), (0 : Nat), (0 : Nat)], PI.inBlock (0 : Nat), PI.code [(1 : Nat), (1 : Nat), (1 : Nat), (1 : Nat), (1 : Nat), (1 : Nat)]] { n := (127 : Nat), fr := [((7 : Nat), SV.x (SX.c (SC.pd (PD.int IntKind.i64 (Prod.fst (kindsM l vs ss)))))), ((0 : Nat), SV.x (SX.c (SC.pd (PD.lst ETy.cell l)))), ((2 : Nat), SV.x (SX.c (SC.pd (PD.str name)))), ((4 : Nat), SV.x (SX.c (SC.loc (0 : Nat) (0 : Nat)))), ((6 : Nat), SV.x (SX.c (SC.pd (PD.bool false)))), ((9 : Nat), SV.x (SX.c (SC.pd (PD.str (Var.name (ETy.get ETy.var vs (0 : Nat))))))), ((44 : Nat), SV.x (SX.c (SC.pd (PD.int IntKind.i64 (↑(List.length vs) : Int))))), ((45 : Nat), SV.x (SX.c (SC.pd (PD.int IntKind.i64 (0 : Int)))))], ck := [Chunk.cells [SC.pd (PD.lst ETy.var vs), SC.pd (PD.lst ETy.str ss)] (26 : Nat)] })))))) (by kernel_rfl) fun Γ => ?_
  refine ⟨fun h => Bool.noConfusion h, fun _ => ⟨hrl, fun _ => ⟨rfl, rfl⟩, fun h => ?_⟩⟩
  simp only [Bool.or_eq_false_iff, bne_eq_false_iff_eq, beq_eq_false_iff_ne] at h
  have hv0 : 0 < vs.length := by have := h.2; omega
  refine ⟨by omega, ?_⟩
  exact named_loop1 l vs ss name Γ h.1 hrv hrl hv0 vs.length 0 (by omega) (by omega) (fun j hj => absurd hj (Nat.not_lt_zero _))
end Go.Proofs.Ytgoihhnfkoklpaa

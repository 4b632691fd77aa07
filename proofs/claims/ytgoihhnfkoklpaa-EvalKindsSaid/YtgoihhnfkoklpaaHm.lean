/- The law EvalKinds' walk. Conditions: sizes; values within int64. -/
import Derived.Test.YtgoihhnfkoklpaaHi
import Derived.Test.YtgoihhnfkoklpaaIh
import Derived.Test.YtgoihhnfkoklpaaFf
namespace Go.Proofs.Ytgoihhnfkoklpaa
open Go Go.Ev
set_option maxRecDepth 100000
def cfgKn5 : Cfg := ⟨tys0, [eWk5, eLo, eRefRight, eRof, eEvRight]⟩
theorem cfgKn5_ok : TabOk Try.prog cfgKn5.tab := (TabOk.cons eWk5_ok (TabOk.cons eLo_ok (TabOk.cons eRefRight_ok (TabOk.cons eRof_ok (TabOk.cons eEvRight_ok TabOk.nil)))))


/-- The names of the states that a list asks for. -/
def inNames (l : List Cell) : List Str := (l.filter fun c => c.op == 6).map (·.name)
theorem inNames_le (l : List Cell) : (inNames l).length ≤ l.length := by
  unfold inNames; rw [List.length_map]; exact List.length_filter_le _ _
theorem inNames_succ {l : List Cell} {k : Nat} (h : k < l.length) : inNames (l.take (k + 1)) = if (l[k].op == 6) = true then inNames (l.take k) ++ [l[k].name] else inNames (l.take k) := by
  unfold inNames
  rw [List.take_succ_eq_append_getElem h, List.filter_append, List.map_append]
  cases hb : (l[k].op == 6) <;> simp [hb]
theorem kinds_end (l : List Cell) {vs : List Var} {vals : List Val} (act : List Str) (hf : Fits vs vals) :
    ((kindsM l vs (inNames l)).2 != 0) = true → ((evalM l vs vals act).2 != 0 || decide ((((inNames l)).length : Int) > 0) || (kindsM l vs (inNames l)).2 == 8) = true := by
  intro h
  have h' : (kindsM l vs (inNames l)).2 ≠ 0 := by simpa using h
  simp only [Bool.or_eq_true, bne_iff_ne, decide_eq_true_eq, beq_iff_eq]
  rcases (kinds_law l act hf).1 h' with q | q | q
  · exact .inl (.inl q)
  · exact .inl (.inr (by have : 0 < (inNames l).length := q
                         omega))
  · exact .inr q
theorem kinds_end2 (l : List Cell) {vs : List Var} {vals : List Val} (act : List Str) (hf : Fits vs vals) (h : ((kindsM l vs (inNames l)).2 != 0) = false) :
    ((evalM l vs vals act).2 == 0 && (evalM l vs vals act).1.kind == (kindsM l vs (inNames l)).1 && vR (evalM l vs vals act).1 || (evalM l vs vals act).1.kind == 0 && ((evalM l vs vals act).1.a == 0 && (evalM l vs vals act).1.b == 0) && ((evalM l vs vals act).2 == 7 || (evalM l vs vals act).2 == 6 || (evalM l vs vals act).2 == 5)) = true := by
  have h' : (kindsM l vs (inNames l)).2 = 0 := by simpa using h
  rcases (kinds_law l act hf).2 h' with ⟨q1, q2, q3⟩ | ⟨q1, q2⟩
  · have q2 : (evalM l vs vals act).1.kind = (kindsM l vs (inNames l)).1 := q2
    rw [q1, q2, (vOk_iff.1 q3).1]; simp
  · rw [q1]
    rcases q2 with q2 | q2 | q2 <;> rw [q2] <;> rfl
theorem kinds_loop2 (l : List Cell) (vs : List Var) (vals : List Val) (act : List Str) (Γ : Ctx) (hl : room l.length 32) (hf : Fits vs vals) : ∀ (n k : Nat) (ns : List Str), l.length - k ≤ n → k ≤ l.length → ns = inNames (l.take k) →
    J Try.prog 10 (bodyOf Try.f10) Γ (Eq2 (.x (.b true)) []) [PI.code [(1 : Nat), (1 : Nat), (1 : Nat), (1 : Nat), (1 : Nat), (1 : Nat), (0 : Nat), (1 : Nat), (0 : Nat), (0 : Nat)], PI.inLoop [(1 : Nat), (1 : Nat), (1 : Nat), (1 : Nat), (1 : Nat), (1 : Nat), (0 : Nat), (1 : Nat), (0 : Nat), (0 : Nat)], PI.inBlock (2 : Nat), PI.code [(1 : Nat), (1 : Nat), (1 : Nat), (1 : Nat), (1 : Nat), (1 : Nat), (1 : Nat)]] ({ n := (126 : Nat), fr := [(0, SV.x (SX.c (SC.pd (PD.lst ETy.cell l)))), (3, SV.x (SX.c (SC.loc (0 : Nat) (0 : Nat)))), (4, SV.x (SX.c (SC.pd (PD.bool false)))), (5, SV.x (SX.c (SC.loc (1 : Nat) (0 : Nat)))), (6, SV.x (SX.c (SC.pd (PD.int IntKind.i64 (Prod.snd (evalM l vs vals act)))))), (8, SV.x (SX.c (SC.own 2))), (57, SV.x (SX.c (SC.pd (PD.int IntKind.i64 (↑(List.length l) : Int))))), (58, SV.x (SX.c (SC.pd (PD.int IntKind.i64 (k)))))], ck := [Chunk.cells [SC.pd (PD.lst ETy.var vs), SC.pd (PD.lst ETy.val vals), SC.pd (PD.lst ETy.str act)] 50, Chunk.cells [SC.pd (PD.int .i64 (evalM l vs vals act).1.kind), SC.pd (PD.int .i64 (evalM l vs vals act).1.a), SC.pd (PD.int .i64 (evalM l vs vals act).1.b)] 42, Chunk.own 9 ETy.str ns], kn := [(4 : Nat)] }) := by
  intro n
  induction n with
  | zero => ?_
  | succ n ih => ?_
  all_goals
    intro k ns hn hk hns
    refine J.go (cfg := cfgKn5) cfgKn5_ok Try.func10 1000 (t := (Tree.ite (decide ((↑k : Int) < (↑(List.length l) : Int))) (Tree.need ((0 : Int) ≤ (↑k : Int) ∧ (↑k : Int) < (↑(List.length l) : Int)) (Tree.ite (Cell.op (ETy.get ETy.cell l k) == (6 : Int)) (Tree.need ((0 : Int) ≤ (↑k : Int) ∧ (↑k : Int) < (↑(List.length l) : Int)) (Tree.need (room (List.length (ns ++ [Cell.name (ETy.get ETy.cell l k)])) (16 : Nat)) (Tree.stop [PI.code [(1 : Nat), (1 : Nat), (1 : Nat), (1 : Nat), (1 : Nat), (1 : Nat), (0 : Nat), (1 : Nat), (0 : Nat), (0 : Nat)], PI.inLoop [(1 : Nat), (1 : Nat), (1 : Nat), (1 : Nat), (1 : Nat), (1 : Nat), (0 : Nat), (1 : Nat), (0 : Nat), (0 : Nat)], PI.inBlock (2 : Nat), PI.code [(1 : Nat), (1 : Nat), (1 : Nat), (1 : Nat), (1 : Nat), (1 : Nat), (1 : Nat)]] { n := (126 : Nat), fr := [((0 : Nat), SV.x (SX.c (SC.pd (PD.lst ETy.cell l)))), ((3 : Nat), SV.x (SX.c (SC.loc (0 : Nat) (0 : Nat)))), ((4 : Nat), SV.x (SX.c (SC.pd (PD.bool false)))), ((5 : Nat), SV.x (SX.c (SC.loc (1 : Nat) (0 : Nat)))), ((6 : Nat), SV.x (SX.c (SC.pd (PD.int IntKind.i64 (Prod.snd (evalM l vs vals act)))))), ((8 : Nat), SV.x (SX.c (SC.own (2 : Nat)))), ((57 : Nat), SV.x (SX.c (SC.pd (PD.int IntKind.i64 (↑(List.length l) : Int))))), ((58 : Nat), SV.x (SX.c (SC.pd (PD.int IntKind.i64 (IntKind.wrap IntKind.i64 ((↑k : Int) + (1 : Int)))))))], ck := [Chunk.cells [SC.pd (PD.lst ETy.var vs), SC.pd (PD.lst ETy.val vals), SC.pd (PD.lst ETy.str act)] (50 : Nat), Chunk.cells [SC.pd (PD.int IntKind.i64 (Val.kind (Prod.fst (evalM l vs vals act)))), SC.pd (PD.int IntKind.i64 (Val.a (Prod.fst (evalM l vs vals act)))), SC.pd (PD.int IntKind.i64 (Val.b (Prod.fst (evalM l vs vals act))))] (42 : Nat), Chunk.own (9 : Nat) ETy.str (ns ++ [Cell.name (ETy.get ETy.cell l k)])], kn := [(4 : Nat)] }))) (Tree.stop [PI.code [(1 : Nat), (1 : Nat), (1 : Nat), (1 : Nat), (1 : Nat), (1 : Nat), (0 : Nat), (1 : Nat), (0 : Nat), (0 : Nat)], PI.inLoop [(1 : Nat), (1 : Nat), (1 : Nat), (1 : Nat), (1 : Nat), (1 : Nat), (0 : Nat), (1 : Nat), (0 : Nat), (0 : Nat)], PI.inBlock (2 : Nat), PI.code [(1 : Nat), (1 : Nat), (1 : Nat), (1 : Nat), (1 : Nat), (1 : Nat), (1 : Nat)]] { n := (126 : Nat), fr := [((0 : Nat), SV.x (SX.c (SC.pd (PD.lst ETy.cell l)))), ((3 : Nat), SV.x (SX.c (SC.loc (0 : Nat) (0 : Nat)))), ((4 : Nat), SV.x (SX.c (SC.pd (PD.bool false)))), ((5 : Nat), SV.x (SX.c (SC.loc (1 : Nat) (0 : Nat)))), ((6 : Nat), SV.x (SX.c (SC.pd (PD.int IntKind.i64 (Prod.snd (evalM l vs vals act)))))), ((8 : Nat), SV.x (SX.c (SC.own (2 : Nat)))), ((57 : Nat), SV.x (SX.c (SC.pd (PD.int IntKind.i64 (↑(List.length l) : Int))))), ((58 : Nat), SV.x (SX.c (SC.pd (PD.int IntKind.i64 (IntKind.wrap IntKind.i64 ((↑k : Int) + (1 : Int)))))))], ck := [Chunk.cells [SC.pd (PD.lst ETy.var vs), SC.pd (PD.lst ETy.val vals), SC.pd (PD.lst ETy.str act)] (50 : Nat), Chunk.cells [SC.pd (PD.int IntKind.i64 (Val.kind (Prod.fst (evalM l vs vals act)))), SC.pd (PD.int IntKind.i64 (Val.a (Prod.fst (evalM l vs vals act)))), SC.pd (PD.int IntKind.i64 (Val.b (Prod.fst (evalM l vs vals act))))] (42 : Nat), Chunk.own (9 : Nat) ETy.str ns], kn := [(4 : Nat)] }))) (Tree.ite (Prod.snd (kindsM l vs ns) != (0 : Int)) (Tree.ret (SV.x (SX.c (SC.pd (PD.bool (Prod.snd (evalM l vs vals act) != (0 : Int) || decide ((↑(List.length ns) : Int) > (0 : Int)) || Prod.snd (kindsM l vs ns) == (8 : Int)))))) []) (Tree.ret (SV.x (SX.c (SC.pd (PD.bool (Prod.snd (evalM l vs vals act) == (0 : Int) && Val.kind (Prod.fst (evalM l vs vals act)) == Prod.fst (kindsM l vs ns) && vR { kind := Val.kind (Prod.fst (evalM l vs vals act)), a := Val.a (Prod.fst (evalM l vs vals act)), b := Val.b (Prod.fst (evalM l vs vals act)) } || Val.kind (Prod.fst (evalM l vs vals act)) == (0 : Int) && (Val.a (Prod.fst (evalM l vs vals act)) == (0 : Int) && Val.b (Prod.fst (evalM l vs vals act)) == (0 : Int)) && (Prod.snd (evalM l vs vals act) == (7 : Int) || Prod.snd (evalM l vs vals act) == (6 : Int) || Prod.snd (evalM l vs vals act) == (5 : Int))))))) [])))) (by kernel_rfl) ?_
    refine ⟨fun hlt => ?_, fun hge => ?_⟩
    · have hk' : k < l.length := by have := of_decide_eq_true hlt; omega
      have hg : ETy.get .cell l k = l[k] := ETy.get_eq (t := .cell) (List.getElem?_eq_getElem hk')
      have hs := inNames_succ hk'
      rw [hg]
      refine ⟨by omega, fun h => ⟨by omega, ?_, ?_⟩, fun h => ?_⟩
      · have h1 := inNames_le (l.take k)
        have h2 := hl.1
        have h3 := hl.2
        have h4 : (l.take k).length ≤ k := by rw [List.length_take]; omega
        unfold room maxLen at *
        simp only [hns, List.length_append, List.length_cons, List.length_nil]
        omega
      · have h' : (l[k].op == 6) = true := h
        rw [if_pos h'] at hs
        rw [wrapK (maxLen_lt hk' hl.2)]
        first
        | (exfalso; omega)
        | exact ih (k + 1) _ (by omega) (by omega) (by rw [hs, hns])
      · have h' : ¬ (l[k].op == 6) = true := by
          have : (l[k].op == 6) = false := h
          rw [this]; simp
        rw [if_neg h'] at hs
        rw [wrapK (maxLen_lt hk' hl.2)]
        first
        | (exfalso; omega)
        | exact ih (k + 1) _ (by omega) (by omega) (by rw [hs, hns])
    · have hk' : k = l.length := by have := of_decide_eq_false hge; omega
      rw [hk', List.take_length] at hns
      subst hns
      refine ⟨fun h => ⟨?_, rfl⟩, fun h => ⟨?_, rfl⟩⟩
      · have e := kinds_end l act hf h
        exact congrArg (fun b => SV.x (SX.b b)) e
      · have e := kinds_end2 l act hf h
        exact congrArg (fun b => SV.x (SX.b b)) e
theorem kinds_loop1 (l : List Cell) (vs : List Var) (vals : List Val) (act : List Str) (Γ : Ctx) (hl : room l.length 32) (hw : WorldOk vs vals act) (hlen : vs.length = vals.length) : ∀ (n k : Nat), vals.length - k ≤ n → k ≤ vals.length → (∀ (i : Nat) (x : Var) (v : Val), i < k → vs[i]? = some x → vals[i]? = some v → v.kind = x.kind ∧ vR v = true) →
    J Try.prog 10 (bodyOf Try.f10) Γ (Eq2 (.x (.b true)) []) [PI.code [(1 : Nat), (1 : Nat), (1 : Nat), (1 : Nat), (0 : Nat), (1 : Nat), (0 : Nat), (0 : Nat)], PI.inLoop [(1 : Nat), (1 : Nat), (1 : Nat), (1 : Nat), (0 : Nat), (1 : Nat), (0 : Nat), (0 : Nat)], PI.inBlock (0 : Nat), PI.code [(1 : Nat), (1 : Nat), (1 : Nat), (1 : Nat), (1 : Nat)]] ({ n := (126 : Nat), fr := [(0, SV.x (SX.c (SC.pd (PD.lst ETy.cell l)))), (3, SV.x (SX.c (SC.loc (0 : Nat) (0 : Nat)))), (4, SV.x (SX.c (SC.pd (PD.bool false)))), (5, SV.x (SX.c (SC.loc (1 : Nat) (0 : Nat)))), (6, SV.x (SX.c (SC.pd (PD.int IntKind.i64 (Prod.snd (evalM l vs vals act)))))), (29, SV.x (SX.c (SC.pd (PD.int IntKind.i64 (↑(List.length vals) : Int))))), (30, SV.x (SX.c (SC.pd (PD.int IntKind.i64 (k)))))], ck := [Chunk.cells [SC.pd (PD.lst ETy.var vs), SC.pd (PD.lst ETy.val vals), SC.pd (PD.lst ETy.str act)] (50 : Nat), Chunk.cells [SC.pd (PD.int IntKind.i64 (Val.kind (Prod.fst (evalM l vs vals act)))), SC.pd (PD.int IntKind.i64 (Val.a (Prod.fst (evalM l vs vals act)))), SC.pd (PD.int IntKind.i64 (Val.b (Prod.fst (evalM l vs vals act))))] (42 : Nat)], kn := [(4 : Nat)] }) := by
  intro n
  induction n with
  | zero => ?_
  | succ n ih => ?_
  all_goals
    intro k hn hk hall
    refine J.go (cfg := cfgKn5) cfgKn5_ok Try.func10 1000 (t := (Tree.ite (decide ((↑k : Int) < (↑(List.length vals) : Int))) (Tree.need ((0 : Int) ≤ (↑k : Int) ∧ (↑k : Int) < (↑(List.length vals) : Int)) (Tree.need ((0 : Int) ≤ (↑k : Int) ∧ (↑k : Int) < (↑(List.length vs) : Int)) (Tree.need (Prod.snd (Prod.snd (Prod.snd ((13 : Nat), (46 : Nat), false, onBy false (Val.kind (ETy.get ETy.val vals k) != Var.kind (ETy.get ETy.var vs k)) none))) → (0 : Int) ≤ (↑k : Int) ∧ (↑k : Int) < (↑(List.length vals) : Int)) (Tree.ite (Val.kind (ETy.get ETy.val vals k) != Var.kind (ETy.get ETy.var vs k) || !vR { kind := Val.kind (ETy.get ETy.val vals k), a := Val.a (ETy.get ETy.val vals k), b := Val.b (ETy.get ETy.val vals k) }) (Tree.ret (SV.x (SX.c (SC.pd (PD.bool true)))) []) (Tree.stop [PI.code [(1 : Nat), (1 : Nat), (1 : Nat), (1 : Nat), (0 : Nat), (1 : Nat), (0 : Nat), (0 : Nat)], PI.inLoop [(1 : Nat), (1 : Nat), (1 : Nat), (1 : Nat), (0 : Nat), (1 : Nat), (0 : Nat), (0 : Nat)], PI.inBlock (0 : Nat), PI.code [(1 : Nat), (1 : Nat), (1 : Nat), (1 : Nat), (1 : Nat)]] { n := (126 : Nat), fr := [((0 : Nat), SV.x (SX.c (SC.pd (PD.lst ETy.cell l)))), ((3 : Nat), SV.x (SX.c (SC.loc (0 : Nat) (0 : Nat)))), ((4 : Nat), SV.x (SX.c (SC.pd (PD.bool false)))), ((5 : Nat), SV.x (SX.c (SC.loc (1 : Nat) (0 : Nat)))), ((6 : Nat), SV.x (SX.c (SC.pd (PD.int IntKind.i64 (Prod.snd (evalM l vs vals act)))))), ((29 : Nat), SV.x (SX.c (SC.pd (PD.int IntKind.i64 (↑(List.length vals) : Int))))), ((30 : Nat), SV.x (SX.c (SC.pd (PD.int IntKind.i64 (IntKind.wrap IntKind.i64 ((↑k : Int) + (1 : Int)))))))], ck := [Chunk.cells [SC.pd (PD.lst ETy.var vs), SC.pd (PD.lst ETy.val vals), SC.pd (PD.lst ETy.str act)] (50 : Nat), Chunk.cells [SC.pd (PD.int IntKind.i64 (Val.kind (Prod.fst (evalM l vs vals act)))), SC.pd (PD.int IntKind.i64 (Val.a (Prod.fst (evalM l vs vals act)))), SC.pd (PD.int IntKind.i64 (Val.b (Prod.fst (evalM l vs vals act))))] (42 : Nat)] }))))) (Tree.stop [PI.code [(1 : Nat), (1 : Nat), (1 : Nat), (1 : Nat), (1 : Nat), (1 : Nat), (0 : Nat), (1 : Nat), (0 : Nat), (0 : Nat)], PI.inLoop [(1 : Nat), (1 : Nat), (1 : Nat), (1 : Nat), (1 : Nat), (1 : Nat), (0 : Nat), (1 : Nat), (0 : Nat), (0 : Nat)], PI.inBlock (2 : Nat), PI.code [(1 : Nat), (1 : Nat), (1 : Nat), (1 : Nat), (1 : Nat), (1 : Nat), (1 : Nat)]] { n := (126 : Nat), fr := [((0 : Nat), SV.x (SX.c (SC.pd (PD.lst ETy.cell l)))), ((3 : Nat), SV.x (SX.c (SC.loc (0 : Nat) (0 : Nat)))), ((4 : Nat), SV.x (SX.c (SC.pd (PD.bool false)))), ((5 : Nat), SV.x (SX.c (SC.loc (1 : Nat) (0 : Nat)))), ((6 : Nat), SV.x (SX.c (SC.pd (PD.int IntKind.i64 (Prod.snd (evalM l vs vals act)))))), ((8 : Nat), SV.x (SX.c (SC.pd (PD.v (Value.slice none (0 : Nat) (0 : Nat)))))), ((57 : Nat), SV.x (SX.c (SC.pd (PD.int IntKind.i64 (↑(List.length l) : Int))))), ((58 : Nat), SV.x (SX.c (SC.pd (PD.int IntKind.i64 (0 : Int)))))], ck := [Chunk.cells [SC.pd (PD.lst ETy.var vs), SC.pd (PD.lst ETy.val vals), SC.pd (PD.lst ETy.str act)] (50 : Nat), Chunk.cells [SC.pd (PD.int IntKind.i64 (Val.kind (Prod.fst (evalM l vs vals act)))), SC.pd (PD.int IntKind.i64 (Val.a (Prod.fst (evalM l vs vals act)))), SC.pd (PD.int IntKind.i64 (Val.b (Prod.fst (evalM l vs vals act))))] (42 : Nat)], kn := [(4 : Nat)] }))) (by kernel_rfl) ?_
    refine ⟨fun hlt => ?_, fun hge => ?_⟩
    · have hk' : k < vals.length := by have := of_decide_eq_true hlt; omega
      have hk2 : k < vs.length := by omega
      have hg : ETy.get .val vals k = vals[k] := ETy.get_eq (t := .val) (List.getElem?_eq_getElem hk')
      have hg2 : ETy.get .var vs k = vs[k] := ETy.get_eq (t := .var) (List.getElem?_eq_getElem hk2)
      rw [hg, hg2]
      refine ⟨by omega, by omega, fun _ => by omega, fun h => ⟨rfl, rfl⟩, fun h => ?_⟩
      have h' : (vals[k].kind != vs[k].kind || !vR vals[k]) = false := h
      simp only [Bool.or_eq_false_iff, bne_eq_false_iff_eq, Bool.not_eq_false'] at h'
      rw [wrapK (maxLen_lt hk' hw.2.1.2)]
      first
      | (exfalso; omega)
      | refine J.kn [4] (ih (k + 1) (by omega) (by omega) fun i x v hi hx hv => ?_)
        by_cases e : i = k
        · subst e
          rw [List.getElem?_eq_getElem hk2, Option.some.injEq] at hx
          rw [List.getElem?_eq_getElem hk', Option.some.injEq] at hv
          subst hx; subst hv
          exact h'
        · exact hall i x v (by omega) hx hv
    · have hk' : k = vals.length := by have := of_decide_eq_false hge; omega
      have hf : Fits vs vals := by
        refine ⟨hlen, fun v hv => ?_, fun i x v hx hv => ?_⟩
        · obtain ⟨i, hi, rfl⟩ := List.getElem_of_mem hv
          have := hall i vs[i] vals[i] (by omega) (List.getElem?_eq_getElem (by omega)) (List.getElem?_eq_getElem hi)
          simp [vOk, this.2, hw.2.2.2 _ (List.getElem_mem hi)]
        · have hi := (List.getElem?_eq_some_iff.1 hv).1
          exact (hall i x v (by omega) hx hv).1
      refine J.nilOwn 8 9 .str rfl rfl ?_
      exact kinds_loop2 l vs vals act Γ hl hf l.length 0 [] (by omega) (by omega) rfl
theorem kinds5_spec (l : List Cell) (vs : List Var) (vals : List Val) (act : List Str) (hl : room l.length 32) (hw : WorldOk vs vals act) : Does Try.prog 10 [.l .cell l, .agg [.pd (.lst .var vs), .pd (.lst .val vals), .pd (.lst .str act)]] [] (.x (.b true)) [] := by
  refine Does.go (cfg := cfgKn5) cfgKn5_ok Try.func10 (by kernel_rfl) (by kernel_rfl) (t := (Tree.need (room (List.length l) (32 : Nat) ∧ room (List.length vs) (64 : Nat) ∧ room (List.length vals) (24 : Nat) ∧ room (List.length act) (16 : Nat) ∧ ∀ (v : ETy.den ETy.val), v ∈ vals → i64 (Val.a v) = true) (Tree.ite false (Tree.ret (SV.x (SX.c (SC.pd (PD.bool false)))) []) (Tree.ite ((↑(List.length vs) : Int) != (↑(List.length vals) : Int)) (Tree.ret (SV.x (SX.c (SC.pd (PD.bool true)))) []) (Tree.stop [PI.code [(1 : Nat), (1 : Nat), (1 : Nat), (1 : Nat), (0 : Nat), (1 : Nat), (0 : Nat), (0 : Nat)], PI.inLoop [(1 : Nat), (1 : Nat), (1 : Nat), (1 : Nat), (0 : Nat), (1 : Nat), (0 : Nat), (0 : Nat)], PI.inBlock (0 : Nat), PI.code [(1 : Nat), (1 : Nat), (1 : Nat), (1 : Nat), (1 : Nat)]] { n := (126 : Nat), fr := [((0 : Nat), SV.x (SX.c (SC.pd (PD.lst ETy.cell l)))), ((3 : Nat), SV.x (SX.c (SC.loc (0 : Nat) (0 : Nat)))), ((4 : Nat), SV.x (SX.c (SC.pd (PD.bool false)))), ((5 : Nat), SV.x (SX.c (SC.loc (1 : Nat) (0 : Nat)))), ((6 : Nat), SV.x (SX.c (SC.pd (PD.int IntKind.i64 (Prod.snd (evalM l vs vals act)))))), ((29 : Nat), SV.x (SX.c (SC.pd (PD.int IntKind.i64 (↑(List.length vals) : Int))))), ((30 : Nat), SV.x (SX.c (SC.pd (PD.int IntKind.i64 (0 : Int)))))], ck := [Chunk.cells [SC.pd (PD.lst ETy.var vs), SC.pd (PD.lst ETy.val vals), SC.pd (PD.lst ETy.str act)] (50 : Nat), Chunk.cells [SC.pd (PD.int IntKind.i64 (Val.kind (Prod.fst (evalM l vs vals act)))), SC.pd (PD.int IntKind.i64 (Val.a (Prod.fst (evalM l vs vals act)))), SC.pd (PD.int IntKind.i64 (Val.b (Prod.fst (evalM l vs vals act))))] (42 : Nat)], kn := [(4 : Nat)] }))))) (by kernel_rfl) fun Γ => ?_
  refine ⟨⟨hl, hw⟩, fun h => Bool.noConfusion h, fun _ => ⟨fun _ => ⟨rfl, rfl⟩, fun h => ?_⟩⟩
  have hlen : vs.length = vals.length := by
    have h' : (vs.length : Int) = (vals.length : Int) := by simpa using h
    omega
  exact kinds_loop1 l vs vals act Γ hl hw hlen vals.length 0 (by omega) (by omega) (by intro i x v hi; omega)
end Go.Proofs.Ytgoihhnfkoklpaa

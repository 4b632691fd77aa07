/- The law EvalIn's walk. Conditions: sizes; values within int64. -/
import Derived.Test.YtgoihhnfkoklpaaHi
namespace Go.Proofs.Ytgoihhnfkoklpaa
open Go Go.Ev
set_option maxRecDepth 100000
def cfgIn5 : Cfg := ⟨tys0, [eWk5, eLo, eLo2, eLo3, eRright, eRefTruth]⟩
theorem cfgIn5_ok : TabOk Try.prog cfgIn5.tab := (TabOk.cons eWk5_ok (TabOk.cons eLo_ok (TabOk.cons eLo2_ok (TabOk.cons eLo3_ok (TabOk.cons eRright_ok (TabOk.cons eRefTruth_ok TabOk.nil))))))


/-- Without variables and states a tree's value is the same in any world. -/
theorem val_bare (vs : List Var) (vals : List Val) (act : List Str) : ∀ (t : Tm), t.ok → (∀ c ∈ t.flat, c.op ≠ 5 ∧ c.op ≠ 6) → t.val vs vals act = t.val [] [] []
  | .leaf c, h, hc => by
    have h1 := hc c (by simp [Tm.flat])
    have h2 := wants_leaf c h
    simp only [Tm.val, evLeaf]
    by_cases g1 : c.op = 1
    · simp [g1]
    by_cases g2 : c.op = 2
    · simp [g2]
    have g3 : c.op = 3 ∨ c.op = 4 := by omega
    simp only [g1, g2, g3, if_true, if_false]
  | .un c t, h, hc => by
    have ih := val_bare vs vals act t h.2 (fun x hx => hc x (by simp [Tm.flat, hx]))
    simp only [Tm.val, ih]
  | .bin c t u, h, hc => by
    have ih1 := val_bare vs vals act t h.2.1 (fun x hx => hc x (by simp [Tm.flat, hx]))
    have ih2 := val_bare vs vals act u h.2.2 (fun x hx => hc x (by simp [Tm.flat, hx]))
    simp only [Tm.val, ih1, ih2]
theorem eval_bare {l : List Cell} (vs : List Var) (vals : List Val) (act : List Str) (hc : ∀ c ∈ l, c.op ≠ 5 ∧ c.op ≠ 6) : evalM l vs vals act = (Val.zero, 12) ∨ evalM l [] [] [] = evalM l vs vals act := by
  cases hr : rightM l
  · right; simp [evalM, hr]
  · cases hb : worldBad vs vals
    · right
      obtain ⟨h32, t, ht, rfl⟩ := right_tm hr
      rw [eval_flat vs vals act ht h32 hb, eval_flat [] [] [] ht h32 rfl, val_bare vs vals act t ht hc]
    · left; simp [evalM, hr, hb]
theorem eval_in (nm : Str) (act : List Str) (h : rightM [⟨6, 0, nm⟩] = true) : evalM [⟨6, 0, nm⟩] [] [] act = (truthV (act.any fun x => x == nm), 0) := by
  have hb : worldBad [] [] = false := rfl
  simp only [evalM, h, hb, Bool.true_eq_false, Bool.false_eq_true, if_false]
  simp [evGo, evStep, evLeaf, has_comm]
theorem in_loop2 (nm : Str) (vs : List Var) (vals : List Val) (act : List Str) (l : List Cell) (Γ : Ctx) (b : Bool) (hl : room l.length 32) (hw : WorldOk vs vals act) : ∀ (n k : Nat), l.length - k ≤ n → k ≤ l.length → (∀ c ∈ l.take k, c.op ≠ 5 ∧ c.op ≠ 6) →
    J Try.prog 13 (bodyOf Try.f13) Γ (Eq2 (.x (.b true)) []) [PI.code [(1 : Nat), (1 : Nat), (1 : Nat), (1 : Nat), (1 : Nat), (1 : Nat), (1 : Nat), (1 : Nat), (0 : Nat), (1 : Nat), (0 : Nat), (0 : Nat)], PI.inLoop [(1 : Nat), (1 : Nat), (1 : Nat), (1 : Nat), (1 : Nat), (1 : Nat), (1 : Nat), (1 : Nat), (0 : Nat), (1 : Nat), (0 : Nat), (0 : Nat)], PI.inBlock (2 : Nat), PI.code [(1 : Nat), (1 : Nat), (1 : Nat), (1 : Nat), (1 : Nat), (1 : Nat), (1 : Nat), (1 : Nat), (1 : Nat)]] ({ n := (104 : Nat), fr := [(2, SV.x (SX.c (SC.pd (PD.lst ETy.cell l)))), (4, SV.x (SX.c (SC.loc (0 : Nat) (0 : Nat)))), (6, SV.x (SX.c (SC.pd (PD.bool false)))), (61, SV.x (SX.c (SC.pd (PD.int IntKind.i64 (↑(List.length l) : Int))))), (62, SV.x (SX.c (SC.pd (PD.int IntKind.i64 (k)))))], ck := [Chunk.cells [SC.pd (PD.lst ETy.var vs), SC.pd (PD.lst ETy.val vals), SC.pd (PD.lst ETy.str act)] (50 : Nat)] }) := by
  intro n
  induction n with
  | zero => ?_
  | succ n ih => ?_
  all_goals
    intro k hn hk hall
    refine J.go (cfg := cfgIn5) cfgIn5_ok Try.func13 1000 (t := (Tree.ite (decide ((↑k : Int) < (↑(List.length l) : Int))) (Tree.need ((0 : Int) ≤ (↑k : Int) ∧ (↑k : Int) < (↑(List.length l) : Int)) (Tree.need ((Cell.op (ETy.get ETy.cell l k) == (5 : Int)) = false → (0 : Int) ≤ (↑k : Int) ∧ (↑k : Int) < (↑(List.length l) : Int)) (Tree.ite (Cell.op (ETy.get ETy.cell l k) == (5 : Int) || Cell.op (ETy.get ETy.cell l k) == (6 : Int)) (Tree.ret (SV.x (SX.c (SC.pd (PD.bool true)))) []) (Tree.stop [PI.code [(1 : Nat), (1 : Nat), (1 : Nat), (1 : Nat), (1 : Nat), (1 : Nat), (1 : Nat), (1 : Nat), (0 : Nat), (1 : Nat), (0 : Nat), (0 : Nat)], PI.inLoop [(1 : Nat), (1 : Nat), (1 : Nat), (1 : Nat), (1 : Nat), (1 : Nat), (1 : Nat), (1 : Nat), (0 : Nat), (1 : Nat), (0 : Nat), (0 : Nat)], PI.inBlock (2 : Nat), PI.code [(1 : Nat), (1 : Nat), (1 : Nat), (1 : Nat), (1 : Nat), (1 : Nat), (1 : Nat), (1 : Nat), (1 : Nat)]] { n := (104 : Nat), fr := [((2 : Nat), SV.x (SX.c (SC.pd (PD.lst ETy.cell l)))), ((4 : Nat), SV.x (SX.c (SC.loc (0 : Nat) (0 : Nat)))), ((6 : Nat), SV.x (SX.c (SC.pd (PD.bool false)))), ((61 : Nat), SV.x (SX.c (SC.pd (PD.int IntKind.i64 (↑(List.length l) : Int))))), ((62 : Nat), SV.x (SX.c (SC.pd (PD.int IntKind.i64 (IntKind.wrap IntKind.i64 ((↑k : Int) + (1 : Int)))))))], ck := [Chunk.cells [SC.pd (PD.lst ETy.var vs), SC.pd (PD.lst ETy.val vals), SC.pd (PD.lst ETy.str act)] (50 : Nat)] })))) (Tree.need (room (List.length l) (32 : Nat)) (Tree.need (room (List.length l) (32 : Nat) ∧ room (List.length vs) (64 : Nat) ∧ room (List.length vals) (24 : Nat) ∧ room (List.length act) (16 : Nat) ∧ ∀ (v : ETy.den ETy.val), v ∈ vals → i64 (Val.a v) = true) (Tree.ret (SV.x (SX.c (SC.pd (PD.bool (Prod.snd (evalM l vs vals act) == (12 : Int) || Val.kind (Prod.fst (evalM l [] [] [])) == Val.kind (Prod.fst (evalM l vs vals act)) && (Val.a (Prod.fst (evalM l [] [] [])) == Val.a (Prod.fst (evalM l vs vals act)) && Val.b (Prod.fst (evalM l [] [] [])) == Val.b (Prod.fst (evalM l vs vals act))) && Prod.snd (evalM l [] [] []) == Prod.snd (evalM l vs vals act)))))) []))))) (by kernel_rfl) ?_
    refine ⟨fun hlt => ?_, fun hge => ?_⟩
    · have hk' : k < l.length := by have := of_decide_eq_true hlt; omega
      have hg : ETy.get .cell l k = l[k] := ETy.get_eq (t := .cell) (List.getElem?_eq_getElem hk')
      rw [hg]
      refine ⟨by omega, fun _ => by omega, fun h => ⟨rfl, rfl⟩, fun h => ?_⟩
      have h' : l[k].op ≠ 5 ∧ l[k].op ≠ 6 := by simpa using h
      rw [wrapK (maxLen_lt hk' hl.2)]
      first
      | (exfalso; omega)
      | refine ih (k + 1) (by omega) (by omega) fun c hc => ?_
        rw [List.take_succ_eq_append_getElem hk'] at hc
        rcases List.mem_append.1 hc with hc | hc
        · exact hall c hc
        · simp at hc; rw [hc]; exact h'
    · have hk' : k = l.length := by have := of_decide_eq_false hge; omega
      rw [hk', List.take_length] at hall
      refine ⟨hl, ⟨hl, hw⟩, ?_, rfl⟩
      rcases eval_bare vs vals act hall with h | h
      · rw [h]; rfl
      · rw [h]; simp
theorem in_loop1 (nm : Str) (vs : List Var) (vals : List Val) (act : List Str) (l : List Cell) (Γ : Ctx) (hl : room l.length 32) (hw : WorldOk vs vals act) : ∀ (n k : Nat) (b : Bool), act.length - k ≤ n → k ≤ act.length → b = ((act.take k).any fun x => x == nm) →
    J Try.prog 13 (bodyOf Try.f13) Γ (Eq2 (.x (.b true)) []) [PI.code [(1 : Nat), (1 : Nat), (1 : Nat), (1 : Nat), (0 : Nat), (1 : Nat), (0 : Nat), (0 : Nat)], PI.inLoop [(1 : Nat), (1 : Nat), (1 : Nat), (1 : Nat), (0 : Nat), (1 : Nat), (0 : Nat), (0 : Nat)], PI.inBlock (0 : Nat), PI.code [(1 : Nat), (1 : Nat), (1 : Nat), (1 : Nat), (1 : Nat)]] ({ n := (104 : Nat), fr := [(0, SV.x (SX.c (SC.pd (PD.str nm)))), (2, SV.x (SX.c (SC.pd (PD.lst ETy.cell l)))), (4, SV.x (SX.c (SC.loc (0 : Nat) (0 : Nat)))), (6, SV.x (SX.c (SC.pd (PD.bool false)))), (7, SV.x (SX.c (SC.own (1 : Nat)))), (8, SV.x (SX.c (SC.loc (2 : Nat) (0 : Nat)))), (9, SV.x (SX.c (SC.pd (PD.int IntKind.i64 (Prod.snd (evalM [{ op := (6 : Int), a := (0 : Int), name := nm }] [] [] act)))))), (10, SV.x (SX.c (SC.pd (PD.bool (b))))), (30, SV.x (SX.c (SC.pd (PD.int IntKind.i64 (↑(List.length act) : Int))))), (31, SV.x (SX.c (SC.pd (PD.int IntKind.i64 (k)))))], ck := [Chunk.cells [SC.pd (PD.lst ETy.var vs), SC.pd (PD.lst ETy.val vals), SC.pd (PD.lst ETy.str act)] (50 : Nat), Chunk.own (38 : Nat) ETy.cell [{ op := (6 : Int), a := (0 : Int), name := nm }], Chunk.cells [SC.pd (PD.int IntKind.i64 (Val.kind (Prod.fst (evalM [{ op := (6 : Int), a := (0 : Int), name := nm }] [] [] act)))), SC.pd (PD.int IntKind.i64 (Val.a (Prod.fst (evalM [{ op := (6 : Int), a := (0 : Int), name := nm }] [] [] act)))), SC.pd (PD.int IntKind.i64 (Val.b (Prod.fst (evalM [{ op := (6 : Int), a := (0 : Int), name := nm }] [] [] act))))] (42 : Nat)], kn := [(6 : Nat)] }) := by
  intro n
  induction n with
  | zero => ?_
  | succ n ih => ?_
  all_goals
    intro k b hn hk hb
    refine J.go (cfg := cfgIn5) cfgIn5_ok Try.func13 1000 (t := (Tree.ite (decide ((↑k : Int) < (↑(List.length act) : Int))) (Tree.need (b = false → (0 : Int) ≤ (↑k : Int) ∧ (↑k : Int) < (↑(List.length act) : Int)) (Tree.stop [PI.code [(1 : Nat), (1 : Nat), (1 : Nat), (1 : Nat), (0 : Nat), (1 : Nat), (0 : Nat), (0 : Nat)], PI.inLoop [(1 : Nat), (1 : Nat), (1 : Nat), (1 : Nat), (0 : Nat), (1 : Nat), (0 : Nat), (0 : Nat)], PI.inBlock (0 : Nat), PI.code [(1 : Nat), (1 : Nat), (1 : Nat), (1 : Nat), (1 : Nat)]] { n := (104 : Nat), fr := [((0 : Nat), SV.x (SX.c (SC.pd (PD.str nm)))), ((2 : Nat), SV.x (SX.c (SC.pd (PD.lst ETy.cell l)))), ((4 : Nat), SV.x (SX.c (SC.loc (0 : Nat) (0 : Nat)))), ((6 : Nat), SV.x (SX.c (SC.pd (PD.bool false)))), ((7 : Nat), SV.x (SX.c (SC.own (1 : Nat)))), ((8 : Nat), SV.x (SX.c (SC.loc (2 : Nat) (0 : Nat)))), ((9 : Nat), SV.x (SX.c (SC.pd (PD.int IntKind.i64 (Prod.snd (evalM [{ op := (6 : Int), a := (0 : Int), name := nm }] [] [] act)))))), ((10 : Nat), SV.x (SX.c (SC.pd (PD.bool (b || ETy.get ETy.str act k == nm))))), ((30 : Nat), SV.x (SX.c (SC.pd (PD.int IntKind.i64 (↑(List.length act) : Int))))), ((31 : Nat), SV.x (SX.c (SC.pd (PD.int IntKind.i64 (IntKind.wrap IntKind.i64 ((↑k : Int) + (1 : Int)))))))], ck := [Chunk.cells [SC.pd (PD.lst ETy.var vs), SC.pd (PD.lst ETy.val vals), SC.pd (PD.lst ETy.str act)] (50 : Nat), Chunk.own (38 : Nat) ETy.cell [{ op := (6 : Int), a := (0 : Int), name := nm }], Chunk.cells [SC.pd (PD.int IntKind.i64 (Val.kind (Prod.fst (evalM [{ op := (6 : Int), a := (0 : Int), name := nm }] [] [] act)))), SC.pd (PD.int IntKind.i64 (Val.a (Prod.fst (evalM [{ op := (6 : Int), a := (0 : Int), name := nm }] [] [] act)))), SC.pd (PD.int IntKind.i64 (Val.b (Prod.fst (evalM [{ op := (6 : Int), a := (0 : Int), name := nm }] [] [] act))))] (42 : Nat)], kn := [(6 : Nat)] })) (Tree.ite false (Tree.ret (SV.x (SX.c (SC.pd (PD.bool false)))) []) (Tree.ite (!rightM [{ op := (6 : Int), a := (0 : Int), name := nm }]) (Tree.ret (SV.x (SX.c (SC.pd (PD.bool (Prod.snd (evalM [{ op := (6 : Int), a := (0 : Int), name := nm }] [] [] act) == (1 : Int)))))) []) (Tree.ite (Prod.snd (evalM [{ op := (6 : Int), a := (0 : Int), name := nm }] [] [] act) != (0 : Int) || !(Val.kind (Prod.fst (evalM [{ op := (6 : Int), a := (0 : Int), name := nm }] [] [] act)) == Val.kind (truthV b) && (Val.a (Prod.fst (evalM [{ op := (6 : Int), a := (0 : Int), name := nm }] [] [] act)) == Val.a (truthV b) && Val.b (Prod.fst (evalM [{ op := (6 : Int), a := (0 : Int), name := nm }] [] [] act)) == Val.b (truthV b)))) (Tree.ret (SV.x (SX.c (SC.pd (PD.bool false)))) []) (Tree.stop [PI.code [(1 : Nat), (1 : Nat), (1 : Nat), (1 : Nat), (1 : Nat), (1 : Nat), (1 : Nat), (1 : Nat), (0 : Nat), (1 : Nat), (0 : Nat), (0 : Nat)], PI.inLoop [(1 : Nat), (1 : Nat), (1 : Nat), (1 : Nat), (1 : Nat), (1 : Nat), (1 : Nat), (1 : Nat), (0 : Nat), (1 : Nat), (0 : Nat), (0 : Nat)], PI.inBlock (2 : Nat), PI.code [(1 : Nat), (1 : Nat), (1 : Nat), (1 : Nat), (1 : Nat), (1 : Nat), (1 : Nat), (1 : Nat), (1 : Nat)]] { n := (104 : Nat), fr := [((2 : Nat), SV.x (SX.c (SC.pd (PD.lst ETy.cell l)))), ((4 : Nat), SV.x (SX.c (SC.loc (0 : Nat) (0 : Nat)))), ((6 : Nat), SV.x (SX.c (SC.pd (PD.bool false)))), ((61 : Nat), SV.x (SX.c (SC.pd (PD.int IntKind.i64 (↑(List.length l) : Int))))), ((62 : Nat), SV.x (SX.c (SC.pd (PD.int IntKind.i64 (0 : Int)))))], ck := [Chunk.cells [SC.pd (PD.lst ETy.var vs), SC.pd (PD.lst ETy.val vals), SC.pd (PD.lst ETy.str act)] (50 : Nat)] })))))) (by kernel_rfl) ?_
    refine ⟨fun hlt => ?_, fun hge => ?_⟩
    · have hk' : k < act.length := by have := of_decide_eq_true hlt; omega
      have hg : ETy.get .str act k = act[k] := ETy.get_eq (t := .str) (List.getElem?_eq_getElem hk')
      rw [hg]
      refine ⟨fun _ => by omega, ?_⟩
      rw [wrapK (maxLen_lt hk' hw.2.2.1.2)]
      first
      | (exfalso; omega)
      | refine ih (k + 1) _ (by omega) (by omega) ?_
        rw [List.take_succ_eq_append_getElem hk', List.any_append, ← hb]
        simp
    · have hk' : k = act.length := by have := of_decide_eq_false hge; omega
      rw [hk', List.take_length] at hb
      refine ⟨fun h => Bool.noConfusion h, fun _ => ⟨fun h => ⟨?_, rfl⟩, fun h => ?_⟩⟩
      · have h' : rightM [⟨6, 0, nm⟩] = false := by simpa using h
        simp [evalM, h']
      · have h' : rightM [⟨6, 0, nm⟩] = true := by simpa using h
        rw [eval_in nm act h', ← hb]
        refine ⟨fun h => ?_, fun _ => ?_⟩
        · simp at h
        · exact in_loop2 nm vs vals act l Γ b hl hw l.length 0 (by omega) (by omega) (by simp)
theorem evalin_spec (nm : Str) (vs : List Var) (vals : List Val) (act : List Str) (l : List Cell) (hl : room l.length 32) (hw : WorldOk vs vals act) : Does Try.prog 13 [.s nm, .agg [.pd (.lst .var vs), .pd (.lst .val vals), .pd (.lst .str act)], .l .cell l] [] (.x (.b true)) [] := by
  refine Does.go (cfg := cfgIn5) cfgIn5_ok Try.func13 (by kernel_rfl) (by kernel_rfl) (t := (Tree.need (room (List.length (α := Cell) [{ op := (6 : Int), a := (0 : Int), name := nm }]) (32 : Nat) ∧ room (List.length act) (16 : Nat)) (Tree.stop [PI.code [(1 : Nat), (1 : Nat), (1 : Nat), (1 : Nat), (0 : Nat), (1 : Nat), (0 : Nat), (0 : Nat)], PI.inLoop [(1 : Nat), (1 : Nat), (1 : Nat), (1 : Nat), (0 : Nat), (1 : Nat), (0 : Nat), (0 : Nat)], PI.inBlock (0 : Nat), PI.code [(1 : Nat), (1 : Nat), (1 : Nat), (1 : Nat), (1 : Nat)]] { n := (104 : Nat), fr := [((0 : Nat), SV.x (SX.c (SC.pd (PD.str nm)))), ((2 : Nat), SV.x (SX.c (SC.pd (PD.lst ETy.cell l)))), ((4 : Nat), SV.x (SX.c (SC.loc (0 : Nat) (0 : Nat)))), ((6 : Nat), SV.x (SX.c (SC.pd (PD.bool false)))), ((7 : Nat), SV.x (SX.c (SC.own (1 : Nat)))), ((8 : Nat), SV.x (SX.c (SC.loc (2 : Nat) (0 : Nat)))), ((9 : Nat), SV.x (SX.c (SC.pd (PD.int IntKind.i64 (Prod.snd (evalM [{ op := (6 : Int), a := (0 : Int), name := nm }] [] [] act)))))), ((10 : Nat), SV.x (SX.c (SC.pd (PD.bool false)))), ((30 : Nat), SV.x (SX.c (SC.pd (PD.int IntKind.i64 (↑(List.length act) : Int))))), ((31 : Nat), SV.x (SX.c (SC.pd (PD.int IntKind.i64 (0 : Int)))))], ck := [Chunk.cells [SC.pd (PD.lst ETy.var vs), SC.pd (PD.lst ETy.val vals), SC.pd (PD.lst ETy.str act)] (50 : Nat), Chunk.own (38 : Nat) ETy.cell [{ op := (6 : Int), a := (0 : Int), name := nm }], Chunk.cells [SC.pd (PD.int IntKind.i64 (Val.kind (Prod.fst (evalM [{ op := (6 : Int), a := (0 : Int), name := nm }] [] [] act)))), SC.pd (PD.int IntKind.i64 (Val.a (Prod.fst (evalM [{ op := (6 : Int), a := (0 : Int), name := nm }] [] [] act)))), SC.pd (PD.int IntKind.i64 (Val.b (Prod.fst (evalM [{ op := (6 : Int), a := (0 : Int), name := nm }] [] [] act))))] (42 : Nat)], kn := [(10 : Nat), (6 : Nat)] }))) (by kernel_rfl) fun Γ => ?_
  refine ⟨⟨by unfold room maxLen; simp, hw.2.2.1⟩, ?_⟩
  refine J.kn [6] ?_
  exact in_loop1 nm vs vals act l Γ hl hw act.length 0 false (by omega) (by omega) (by simp)
end Go.Proofs.Ytgoihhnfkoklpaa

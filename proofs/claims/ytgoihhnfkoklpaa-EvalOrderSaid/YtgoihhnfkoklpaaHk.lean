/- The law EvalJoins' walk. Conditions: sizes; values within int64. -/
import Derived.Test.YtgoihhnfkoklpaaHi
namespace Go.Proofs.Ytgoihhnfkoklpaa
open Go Go.Ev
set_option maxRecDepth 100000
theorem join_spec (a b : List Cell) (op : Int) (h1 : room a.length 32) (h2 : room (a ++ b).length 32) (h3 : room (a ++ b ++ [(⟨op, 0, []⟩ : Cell)]).length 32) : Does Try.prog 26 [.l .cell a, .l .cell b, .i op] [] (.x (.c (.own 0))) [.own 38 .cell (a ++ b ++ [(⟨op, 0, []⟩ : Cell)])] := by
  refine Does.go (cfg := cfg0) cfg0_ok Try.func26 (by kernel_rfl) (by kernel_rfl) (t := (Tree.need (room (List.length ([] ++ a)) (32 : Nat)) (Tree.need (room (List.length ([] ++ a ++ b)) (32 : Nat)) (Tree.need (room (List.length ([] ++ a ++ b ++ [{ op := op, a := (0 : Int), name := [] }])) (32 : Nat)) (Tree.ret (SV.x (SX.c (SC.own (0 : Nat)))) [Chunk.own (38 : Nat) ETy.cell ([] ++ a ++ b ++ [{ op := op, a := (0 : Int), name := [] }])]))))) (by kernel_rfl) fun Γ => ?_
  exact ⟨h1, h2, h3, rfl, rfl⟩
def eJoin : Nat × (List SX → List Chunk → Option (Option Prop × SV × List Chunk)) := (26, fun
  | [.c (.pd (.lst .cell a)), .c (.pd (.lst .cell b)), .c (.pd (.int .i64 op))], [] => some (some (room a.length 32 ∧ room (a ++ b).length 32 ∧ room (a ++ b ++ [(⟨op, 0, []⟩ : Cell)]).length 32), .x (.c (.own 0)), [.own 38 .cell (a ++ b ++ [(⟨op, 0, []⟩ : Cell)])])
  | _, _ => none)
theorem eJoin_ok (vs : List SX) (ck : List Chunk) (p : Option Prop) (ret : SV) (ck' : List Chunk) (h : eJoin.2 vs ck = some (p, ret, ck')) (hp : Holds p) : Does Try.prog eJoin.1 vs ck ret ck' := by
  unfold eJoin at h
  simp only at h
  split at h
  · rename_i a b op
    simp only [Option.some.injEq, Prod.mk.injEq] at h
    obtain ⟨rfl, rfl, rfl⟩ := h
    exact join_spec a b op hp.1 hp.2.1 hp.2.2
  · simp at h
def cfgJn5 : Cfg := ⟨tys0, [eWk5, eLo, eLo1, eJoin]⟩
theorem cfgJn5_ok : TabOk Try.prog cfgJn5.tab := (TabOk.cons eWk5_ok (TabOk.cons eLo_ok (TabOk.cons eLo1_ok (TabOk.cons eJoin_ok TabOk.nil))))

theorem room32 {n : Nat} (h : n ≤ 1000) : room n 32 := by unfold room maxLen; omega
theorem wants_bin {op : Int} (h : 11 ≤ op ∧ op ≤ 23) : wantsC ⟨op, 0, []⟩ = 2 := by
  have h1 : (op == 1) = false := by simp; omega
  have h2 : (op == 2) = false := by simp; omega
  have h3 : (op == 5) = false := by simp; omega
  have h4 : (op == 6) = false := by simp; omega
  have h5 : decide (op < 3) = false := decide_eq_false (by omega)
  have h6 : decide (op > 23) = false := decide_eq_false (by omega)
  have h7 : decide (op ≤ 4) = false := decide_eq_false (by omega)
  have h8 : decide (op ≤ 10) = false := decide_eq_false (by omega)
  simp [wantsC, wantsM, h1, h2, h3, h4, h5, h6, h7, h8]
/-- What comes to a value, or to an error of its own, is a tree in a world that is right. -/
theorem eval_tm {l : List Cell} {vs : List Var} {vals : List Val} {act : List Str} (h1 : (evalM l vs vals act).2 ≠ 1) (h2 : (evalM l vs vals act).2 ≠ 12) : worldBad vs vals = false ∧ l.length ≤ 32 ∧ ∃ t : Tm, t.ok ∧ t.flat = l ∧ evalM l vs vals act = t.val vs vals act := by
  cases hr : rightM l
  · simp [evalM, hr] at h1
  cases hb : worldBad vs vals
  · obtain ⟨h32, t, ht, rfl⟩ := right_tm hr
    exact ⟨rfl, h32, t, ht, rfl, eval_flat vs vals act ht h32 hb⟩
  · simp [evalM, hr, hb] at h2
theorem eval_right {l : List Cell} {vs : List Var} {vals : List Val} {act : List Str} (h1 : (evalM l vs vals act).2 ≠ 1) : rightM l = true := by
  cases hr : rightM l
  · simp [evalM, hr] at h1
  · rfl
theorem eval_join {a b : List Cell} {vs : List Var} {vals : List Val} {act : List Str} (ha : (evalM a vs vals act).2 ≠ 1) (ha2 : (evalM a vs vals act).2 ≠ 12) (hb : (evalM b vs vals act).2 ≠ 1) (hl : a.length + b.length < 32) {op : Int} (hop : 11 ≤ op ∧ op ≤ 23) :
    evalM (a ++ b ++ [⟨op, 0, []⟩]) vs vals act = if (evalM a vs vals act).2 ≠ 0 then (Val.zero, (evalM a vs vals act).2) else if (evalM b vs vals act).2 ≠ 0 then (Val.zero, (evalM b vs vals act).2) else twoM op (evalM a vs vals act).1 (evalM b vs vals act).1 := by
  obtain ⟨hw, _, t, ht, rfl, et⟩ := eval_tm ha ha2
  obtain ⟨h32, u, hu, rfl⟩ := right_tm (eval_right hb)
  have eu := eval_flat vs vals act hu h32 hw
  have hok : (Tm.bin ⟨op, 0, []⟩ t u).ok := ⟨wants_bin hop, ht, hu⟩
  have hfl : (Tm.bin ⟨op, 0, []⟩ t u).flat = t.flat ++ u.flat ++ [⟨op, 0, []⟩] := rfl
  rw [← hfl, eval_flat vs vals act hok (by rw [hfl]; simp only [List.length_append, List.length_cons, List.length_nil]; omega) hw, et, eu]
  rfl
theorem eval_vars {x y : Val} (hx : vOk x = true) (hy : vOk y = true) {op : Int} (hop : 11 ≤ op ∧ op ≤ 23) :
    evalM [⟨5, 0, [97]⟩, ⟨5, 0, [98]⟩, ⟨op, 0, []⟩] [⟨[97], 0, 0, 0, ⟨0, 0, 0⟩⟩, ⟨[98], 0, 0, 0, ⟨0, 0, 0⟩⟩] [x, y] [] = twoM op x y := by
  have h1 : wantsC ⟨5, 0, [97]⟩ = 0 := by decide
  have h2 : wantsC ⟨5, 0, [98]⟩ = 0 := by decide
  have hok : (Tm.bin ⟨op, 0, []⟩ (.leaf ⟨5, 0, [97]⟩) (.leaf ⟨5, 0, [98]⟩)).ok := ⟨wants_bin hop, h1, h2⟩
  have hw : worldBad [⟨[97], 0, 0, 0, ⟨0, 0, 0⟩⟩, ⟨[98], 0, 0, 0, ⟨0, 0, 0⟩⟩] [x, y] = false := by
    simp [worldBad, (vOk_iff.1 hx).1, (vOk_iff.1 hy).1]
  exact eval_flat _ [x, y] [] hok (by simp [Tm.flat]) hw
theorem joins_loop (a b : List Cell) (vs : List Var) (vals : List Val) (act : List Str) (Γ : Ctx) (hw : WorldOk vs vals act) (ha : (evalM a vs vals act).2 ≠ 1) (ha2 : (evalM a vs vals act).2 ≠ 12) (hb : (evalM b vs vals act).2 ≠ 1) (hl : a.length + b.length < 32) : ∀ (n : Nat) (op : Int), (24 - op).toNat ≤ n → 11 ≤ op → op ≤ 24 →
    J Try.prog 11 (bodyOf Try.f11) Γ (Eq2 (.x (.b true)) []) [PI.code [(1 : Nat), (1 : Nat), (1 : Nat), (1 : Nat), (1 : Nat), (0 : Nat), (1 : Nat), (0 : Nat), (0 : Nat)], PI.inLoop [(1 : Nat), (1 : Nat), (1 : Nat), (1 : Nat), (1 : Nat), (0 : Nat), (1 : Nat), (0 : Nat), (0 : Nat)], PI.inBlock (0 : Nat), PI.code [(1 : Nat), (1 : Nat), (1 : Nat), (1 : Nat), (1 : Nat), (1 : Nat)]] ({ n := (113 : Nat), fr := [(0, SV.x (SX.c (SC.pd (PD.lst ETy.cell a)))), (1, SV.x (SX.c (SC.pd (PD.lst ETy.cell b)))), (5, SV.x (SX.c (SC.loc (0 : Nat) (0 : Nat)))), (6, SV.x (SX.c (SC.pd (PD.bool false)))), (7, SV.x (SX.c (SC.loc (1 : Nat) (0 : Nat)))), (8, SV.x (SX.c (SC.pd (PD.int IntKind.i64 (Prod.snd (evalM a vs vals act)))))), (9, SV.x (SX.c (SC.loc (2 : Nat) (0 : Nat)))), (10, SV.x (SX.c (SC.pd (PD.int IntKind.i64 (Prod.snd (evalM b vs vals act)))))), (11, SV.x (SX.c (SC.pd (PD.int IntKind.i64 (op)))))], ck := [Chunk.cells [SC.pd (PD.lst ETy.var vs), SC.pd (PD.lst ETy.val vals), SC.pd (PD.lst ETy.str act)] (50 : Nat), Chunk.cells [SC.pd (PD.int IntKind.i64 (Val.kind (Prod.fst (evalM a vs vals act)))), SC.pd (PD.int IntKind.i64 (Val.a (Prod.fst (evalM a vs vals act)))), SC.pd (PD.int IntKind.i64 (Val.b (Prod.fst (evalM a vs vals act))))] (42 : Nat), Chunk.cells [SC.pd (PD.int IntKind.i64 (Val.kind (Prod.fst (evalM b vs vals act)))), SC.pd (PD.int IntKind.i64 (Val.a (Prod.fst (evalM b vs vals act)))), SC.pd (PD.int IntKind.i64 (Val.b (Prod.fst (evalM b vs vals act))))] (42 : Nat)], kn := [(6 : Nat)] }) := by
  have hb2 : (evalM b vs vals act).2 ≠ 12 := by
    obtain ⟨hw', _⟩ := eval_tm ha ha2
    intro h
    obtain ⟨h32, u, hu, rfl⟩ := right_tm (eval_right hb)
    have eu := eval_flat vs vals act hu h32 hw'
    have := u.val_err vs vals act
    rw [eu] at h
    exact this h
  have okA : (evalM a vs vals act).2 = 0 → vOk (evalM a vs vals act).1 = true := by
    obtain ⟨hw', _, t, ht, rfl, et⟩ := eval_tm ha ha2
    obtain ⟨hlen, hr⟩ := world_vals hw'
    rw [et]
    exact t.val_ok act hlen (fun v hx => by simp [vOk, hr v hx, hw.2.2.2 v hx]) ht
  have okB : (evalM b vs vals act).2 = 0 → vOk (evalM b vs vals act).1 = true := by
    obtain ⟨hw', _, t, ht, rfl, et⟩ := eval_tm hb hb2
    obtain ⟨hlen, hr⟩ := world_vals hw'
    rw [et]
    exact t.val_ok act hlen (fun v hx => by simp [vOk, hr v hx, hw.2.2.2 v hx]) ht
  have hj := fun {op : Int} (hop : 11 ≤ op ∧ op ≤ 23) => eval_join ha ha2 hb hl hop
  intro n
  induction n with
  | zero => ?_
  | succ n ih => ?_
  all_goals
    intro op hn h0 h24
    refine J.go (cfg := cfgJn5) cfgJn5_ok Try.func11 1000 (t := (Tree.ite (decide (op ≤ (23 : Int))) (Tree.need (room (List.length a) (32 : Nat) ∧ room (List.length (a ++ b)) (32 : Nat) ∧ room (List.length (a ++ b ++ [{ op := op, a := (0 : Int), name := [] }])) (32 : Nat)) (Tree.need (room (List.length (a ++ b ++ [{ op := op, a := (0 : Int), name := [] }])) (32 : Nat) ∧ room (List.length vs) (64 : Nat) ∧ room (List.length vals) (24 : Nat) ∧ room (List.length act) (16 : Nat) ∧ ∀ (v : ETy.den ETy.val), v ∈ vals → i64 (Val.a v) = true) (Tree.ite (Prod.snd (evalM a vs vals act) != (0 : Int) && Prod.snd (evalM (a ++ b ++ [{ op := op, a := (0 : Int), name := [] }]) vs vals act) != Prod.snd (evalM a vs vals act) || Prod.snd (evalM a vs vals act) == (0 : Int) && Prod.snd (evalM b vs vals act) != (0 : Int) && Prod.snd (evalM (a ++ b ++ [{ op := op, a := (0 : Int), name := [] }]) vs vals act) != Prod.snd (evalM b vs vals act)) (Tree.ret (SV.x (SX.c (SC.pd (PD.bool false)))) []) (Tree.ite (Prod.snd (evalM a vs vals act) != (0 : Int) || Prod.snd (evalM b vs vals act) != (0 : Int)) (Tree.stop [PI.code [(1 : Nat), (1 : Nat), (1 : Nat), (1 : Nat), (1 : Nat), (0 : Nat), (1 : Nat), (0 : Nat), (0 : Nat)], PI.inLoop [(1 : Nat), (1 : Nat), (1 : Nat), (1 : Nat), (1 : Nat), (0 : Nat), (1 : Nat), (0 : Nat), (0 : Nat)], PI.inBlock (0 : Nat), PI.code [(1 : Nat), (1 : Nat), (1 : Nat), (1 : Nat), (1 : Nat), (1 : Nat)]] { n := (113 : Nat), fr := [((0 : Nat), SV.x (SX.c (SC.pd (PD.lst ETy.cell a)))), ((1 : Nat), SV.x (SX.c (SC.pd (PD.lst ETy.cell b)))), ((5 : Nat), SV.x (SX.c (SC.loc (0 : Nat) (0 : Nat)))), ((6 : Nat), SV.x (SX.c (SC.pd (PD.bool false)))), ((7 : Nat), SV.x (SX.c (SC.loc (1 : Nat) (0 : Nat)))), ((8 : Nat), SV.x (SX.c (SC.pd (PD.int IntKind.i64 (Prod.snd (evalM a vs vals act)))))), ((9 : Nat), SV.x (SX.c (SC.loc (2 : Nat) (0 : Nat)))), ((10 : Nat), SV.x (SX.c (SC.pd (PD.int IntKind.i64 (Prod.snd (evalM b vs vals act)))))), ((11 : Nat), SV.x (SX.c (SC.pd (PD.int IntKind.i64 (IntKind.wrap IntKind.i64 (op + (1 : Int)))))))], ck := [Chunk.cells [SC.pd (PD.lst ETy.var vs), SC.pd (PD.lst ETy.val vals), SC.pd (PD.lst ETy.str act)] (50 : Nat), Chunk.cells [SC.pd (PD.int IntKind.i64 (Val.kind (Prod.fst (evalM a vs vals act)))), SC.pd (PD.int IntKind.i64 (Val.a (Prod.fst (evalM a vs vals act)))), SC.pd (PD.int IntKind.i64 (Val.b (Prod.fst (evalM a vs vals act))))] (42 : Nat), Chunk.cells [SC.pd (PD.int IntKind.i64 (Val.kind (Prod.fst (evalM b vs vals act)))), SC.pd (PD.int IntKind.i64 (Val.a (Prod.fst (evalM b vs vals act)))), SC.pd (PD.int IntKind.i64 (Val.b (Prod.fst (evalM b vs vals act))))] (42 : Nat)] }) (Tree.need (room (List.length (α := Cell) [{ op := (5 : Int), a := (0 : Int), name := [(97 : UInt8)] }, { op := (5 : Int), a := (0 : Int), name := [(98 : UInt8)] }, { op := op, a := (0 : Int), name := [] }]) (32 : Nat) ∧ room (2 : Nat) (64 : Nat) ∧ room (List.length (α := Val) [{ kind := Val.kind (Prod.fst (evalM a vs vals act)), a := Val.a (Prod.fst (evalM a vs vals act)), b := Val.b (Prod.fst (evalM a vs vals act)) }, { kind := Val.kind (Prod.fst (evalM b vs vals act)), a := Val.a (Prod.fst (evalM b vs vals act)), b := Val.b (Prod.fst (evalM b vs vals act)) }]) (24 : Nat) ∧ ∀ (v : ETy.den ETy.val), v ∈ [{ kind := Val.kind (Prod.fst (evalM a vs vals act)), a := Val.a (Prod.fst (evalM a vs vals act)), b := Val.b (Prod.fst (evalM a vs vals act)) }, { kind := Val.kind (Prod.fst (evalM b vs vals act)), a := Val.a (Prod.fst (evalM b vs vals act)), b := Val.b (Prod.fst (evalM b vs vals act)) }] → i64 (Val.a v) = true) (Tree.ite (!(Val.kind (Prod.fst (evalM (a ++ b ++ [{ op := op, a := (0 : Int), name := [] }]) vs vals act)) == Val.kind (Prod.fst (evalM [{ op := (5 : Int), a := (0 : Int), name := [(97 : UInt8)] }, { op := (5 : Int), a := (0 : Int), name := [(98 : UInt8)] }, { op := op, a := (0 : Int), name := [] }] [{ name := [(97 : UInt8)], kind := (0 : Int), lo := (0 : Int), hi := (0 : Int), init := { kind := (0 : Int), a := (0 : Int), b := (0 : Int) } }, { name := [(98 : UInt8)], kind := (0 : Int), lo := (0 : Int), hi := (0 : Int), init := { kind := (0 : Int), a := (0 : Int), b := (0 : Int) } }] [{ kind := Val.kind (Prod.fst (evalM a vs vals act)), a := Val.a (Prod.fst (evalM a vs vals act)), b := Val.b (Prod.fst (evalM a vs vals act)) }, { kind := Val.kind (Prod.fst (evalM b vs vals act)), a := Val.a (Prod.fst (evalM b vs vals act)), b := Val.b (Prod.fst (evalM b vs vals act)) }] [])) && (Val.a (Prod.fst (evalM (a ++ b ++ [{ op := op, a := (0 : Int), name := [] }]) vs vals act)) == Val.a (Prod.fst (evalM [{ op := (5 : Int), a := (0 : Int), name := [(97 : UInt8)] }, { op := (5 : Int), a := (0 : Int), name := [(98 : UInt8)] }, { op := op, a := (0 : Int), name := [] }] [{ name := [(97 : UInt8)], kind := (0 : Int), lo := (0 : Int), hi := (0 : Int), init := { kind := (0 : Int), a := (0 : Int), b := (0 : Int) } }, { name := [(98 : UInt8)], kind := (0 : Int), lo := (0 : Int), hi := (0 : Int), init := { kind := (0 : Int), a := (0 : Int), b := (0 : Int) } }] [{ kind := Val.kind (Prod.fst (evalM a vs vals act)), a := Val.a (Prod.fst (evalM a vs vals act)), b := Val.b (Prod.fst (evalM a vs vals act)) }, { kind := Val.kind (Prod.fst (evalM b vs vals act)), a := Val.a (Prod.fst (evalM b vs vals act)), b := Val.b (Prod.fst (evalM b vs vals act)) }] [])) && Val.b (Prod.fst (evalM (a ++ b ++ [{ op := op, a := (0 : Int), name := [] }]) vs vals act)) == Val.b (Prod.fst (evalM [{ op := (5 : Int), a := (0 : Int), name := [(97 : UInt8)] }, { op := (5 : Int), a := (0 : Int), name := [(98 : UInt8)] }, { op := op, a := (0 : Int), name := [] }] [{ name := [(97 : UInt8)], kind := (0 : Int), lo := (0 : Int), hi := (0 : Int), init := { kind := (0 : Int), a := (0 : Int), b := (0 : Int) } }, { name := [(98 : UInt8)], kind := (0 : Int), lo := (0 : Int), hi := (0 : Int), init := { kind := (0 : Int), a := (0 : Int), b := (0 : Int) } }] [{ kind := Val.kind (Prod.fst (evalM a vs vals act)), a := Val.a (Prod.fst (evalM a vs vals act)), b := Val.b (Prod.fst (evalM a vs vals act)) }, { kind := Val.kind (Prod.fst (evalM b vs vals act)), a := Val.a (Prod.fst (evalM b vs vals act)), b := Val.b (Prod.fst (evalM b vs vals act)) }] [])))) || Prod.snd (evalM (a ++ b ++ [{ op := op, a := (0 : Int), name := [] }]) vs vals act) != Prod.snd (evalM [{ op := (5 : Int), a := (0 : Int), name := [(97 : UInt8)] }, { op := (5 : Int), a := (0 : Int), name := [(98 : UInt8)] }, { op := op, a := (0 : Int), name := [] }] [{ name := [(97 : UInt8)], kind := (0 : Int), lo := (0 : Int), hi := (0 : Int), init := { kind := (0 : Int), a := (0 : Int), b := (0 : Int) } }, { name := [(98 : UInt8)], kind := (0 : Int), lo := (0 : Int), hi := (0 : Int), init := { kind := (0 : Int), a := (0 : Int), b := (0 : Int) } }] [{ kind := Val.kind (Prod.fst (evalM a vs vals act)), a := Val.a (Prod.fst (evalM a vs vals act)), b := Val.b (Prod.fst (evalM a vs vals act)) }, { kind := Val.kind (Prod.fst (evalM b vs vals act)), a := Val.a (Prod.fst (evalM b vs vals act)), b := Val.b (Prod.fst (evalM b vs vals act)) }] [])) (Tree.ret (SV.x (SX.c (SC.pd (PD.bool false)))) []) (Tree.stop [PI.code [(1 : Nat), (1 : Nat), (1 : Nat), (1 : Nat), (1 : Nat), (0 : Nat), (1 : Nat), (0 : Nat), (0 : Nat)], PI.inLoop [(1 : Nat), (1 : Nat), (1 : Nat), (1 : Nat), (1 : Nat), (0 : Nat), (1 : Nat), (0 : Nat), (0 : Nat)], PI.inBlock (0 : Nat), PI.code [(1 : Nat), (1 : Nat), (1 : Nat), (1 : Nat), (1 : Nat), (1 : Nat)]] { n := (113 : Nat), fr := [((0 : Nat), SV.x (SX.c (SC.pd (PD.lst ETy.cell a)))), ((1 : Nat), SV.x (SX.c (SC.pd (PD.lst ETy.cell b)))), ((5 : Nat), SV.x (SX.c (SC.loc (0 : Nat) (0 : Nat)))), ((6 : Nat), SV.x (SX.c (SC.pd (PD.bool false)))), ((7 : Nat), SV.x (SX.c (SC.loc (1 : Nat) (0 : Nat)))), ((8 : Nat), SV.x (SX.c (SC.pd (PD.int IntKind.i64 (Prod.snd (evalM a vs vals act)))))), ((9 : Nat), SV.x (SX.c (SC.loc (2 : Nat) (0 : Nat)))), ((10 : Nat), SV.x (SX.c (SC.pd (PD.int IntKind.i64 (Prod.snd (evalM b vs vals act)))))), ((11 : Nat), SV.x (SX.c (SC.pd (PD.int IntKind.i64 (IntKind.wrap IntKind.i64 (op + (1 : Int)))))))], ck := [Chunk.cells [SC.pd (PD.lst ETy.var vs), SC.pd (PD.lst ETy.val vals), SC.pd (PD.lst ETy.str act)] (50 : Nat), Chunk.cells [SC.pd (PD.int IntKind.i64 (Val.kind (Prod.fst (evalM a vs vals act)))), SC.pd (PD.int IntKind.i64 (Val.a (Prod.fst (evalM a vs vals act)))), SC.pd (PD.int IntKind.i64 (Val.b (Prod.fst (evalM a vs vals act))))] (42 : Nat), Chunk.cells [SC.pd (PD.int IntKind.i64 (Val.kind (Prod.fst (evalM b vs vals act)))), SC.pd (PD.int IntKind.i64 (Val.a (Prod.fst (evalM b vs vals act)))), SC.pd (PD.int IntKind.i64 (Val.b (Prod.fst (evalM b vs vals act))))] (42 : Nat)] }))))))) (Tree.ret (SV.x (SX.c (SC.pd (PD.bool true)))) []))) (by kernel_rfl) ?_
    refine ⟨fun hlt => ?_, fun hge => ⟨rfl, rfl⟩⟩
    have hop : 11 ≤ op ∧ op ≤ 23 := ⟨h0, of_decide_eq_true hlt⟩
    rw [hj hop]
    have hv := eval_vars (x := (evalM a vs vals act).1) (y := (evalM b vs vals act).1)
    have hlen3 : (a ++ b ++ [(⟨op, 0, []⟩ : Cell)]).length = a.length + b.length + 1 := by simp only [List.length_append, List.length_cons, List.length_nil]
    have hlen2 : (a ++ b).length = a.length + b.length := List.length_append
    refine ⟨⟨room32 (by omega), room32 (by omega), room32 (by omega)⟩, ⟨room32 (by omega), hw⟩, ?_⟩
    generalize evalM a vs vals act = A at *
    generalize evalM b vs vals act = B at *
    obtain ⟨x, e⟩ := A
    obtain ⟨y, f⟩ := B
    simp only at *
    have nx : ∀ k : Int, op + 1 = k → IntKind.i64.wrap (op + 1) = k := fun k hk => by rw [wrapI (by omega) (by omega)]; exact hk
    by_cases he : e = 0
    · by_cases hf : f = 0
      · subst he; subst hf
        rw [hv (okA rfl) (okB rfl) hop]
        simp only [ne_eq, not_true_eq_false, if_false]
        refine ⟨fun h => by simp at h, fun _ => ⟨fun h => by simp at h, fun _ => ⟨⟨by unfold room maxLen; simp, by unfold room maxLen; simp, by unfold room maxLen; simp, ?_⟩, fun h => by simp at h, fun _ => ?_⟩⟩⟩
        · intro v hv
          simp only [List.mem_cons, List.not_mem_nil, or_false] at hv
          rcases hv with rfl | rfl
          · exact (vOk_iff.1 (okA rfl)).2
          · exact (vOk_iff.1 (okB rfl)).2
        · rw [nx _ rfl]
          first
          | (exfalso; omega)
          | exact J.kn [6] (ih (op + 1) (by omega) (by omega) (by omega))
      · subst he
        simp only [ne_eq, not_true_eq_false, if_false, hf, not_false_eq_true, if_true]
        refine ⟨fun h => by simp [hf] at h, fun _ => ⟨fun _ => ?_, fun h => by simp [hf] at h⟩⟩
        rw [nx _ rfl]
        first
        | (exfalso; omega)
        | exact J.kn [6] (ih (op + 1) (by omega) (by omega) (by omega))
    · simp only [ne_eq, he, not_false_eq_true, if_true]
      refine ⟨fun h => by simp [he] at h, fun _ => ⟨fun _ => ?_, fun h => by simp [he] at h⟩⟩
      rw [nx _ rfl]
      first
      | (exfalso; omega)
      | exact J.kn [6] (ih (op + 1) (by omega) (by omega) (by omega))
theorem joins_spec (a b : List Cell) (vs : List Var) (vals : List Val) (act : List Str) (hra : room a.length 32) (hrb : room b.length 32) (hw : WorldOk vs vals act) : Does Try.prog 11 [.l .cell a, .l .cell b, .agg [.pd (.lst .var vs), .pd (.lst .val vals), .pd (.lst .str act)]] [] (.x (.b true)) [] := by
  refine Does.go (cfg := cfgJn5) cfgJn5_ok Try.func11 (by kernel_rfl) (by kernel_rfl) (t := (Tree.need (room (List.length a) (32 : Nat) ∧ room (List.length vs) (64 : Nat) ∧ room (List.length vals) (24 : Nat) ∧ room (List.length act) (16 : Nat) ∧ ∀ (v : ETy.den ETy.val), v ∈ vals → i64 (Val.a v) = true) (Tree.need (room (List.length b) (32 : Nat) ∧ room (List.length vs) (64 : Nat) ∧ room (List.length vals) (24 : Nat) ∧ room (List.length act) (16 : Nat) ∧ ∀ (v : ETy.den ETy.val), v ∈ vals → i64 (Val.a v) = true) (Tree.ite false (Tree.ret (SV.x (SX.c (SC.pd (PD.bool false)))) []) (Tree.ite (Prod.snd (evalM a vs vals act) == (1 : Int) || Prod.snd (evalM b vs vals act) == (1 : Int) || Prod.snd (evalM a vs vals act) == (12 : Int) || decide (IntKind.wrap IntKind.i64 ((↑(List.length a) : Int) + (↑(List.length b) : Int)) ≥ (32 : Int))) (Tree.ret (SV.x (SX.c (SC.pd (PD.bool true)))) []) (Tree.stop [PI.code [(1 : Nat), (1 : Nat), (1 : Nat), (1 : Nat), (1 : Nat), (0 : Nat), (1 : Nat), (0 : Nat), (0 : Nat)], PI.inLoop [(1 : Nat), (1 : Nat), (1 : Nat), (1 : Nat), (1 : Nat), (0 : Nat), (1 : Nat), (0 : Nat), (0 : Nat)], PI.inBlock (0 : Nat), PI.code [(1 : Nat), (1 : Nat), (1 : Nat), (1 : Nat), (1 : Nat), (1 : Nat)]] { n := (113 : Nat), fr := [((0 : Nat), SV.x (SX.c (SC.pd (PD.lst ETy.cell a)))), ((1 : Nat), SV.x (SX.c (SC.pd (PD.lst ETy.cell b)))), ((5 : Nat), SV.x (SX.c (SC.loc (0 : Nat) (0 : Nat)))), ((6 : Nat), SV.x (SX.c (SC.pd (PD.bool false)))), ((7 : Nat), SV.x (SX.c (SC.loc (1 : Nat) (0 : Nat)))), ((8 : Nat), SV.x (SX.c (SC.pd (PD.int IntKind.i64 (Prod.snd (evalM a vs vals act)))))), ((9 : Nat), SV.x (SX.c (SC.loc (2 : Nat) (0 : Nat)))), ((10 : Nat), SV.x (SX.c (SC.pd (PD.int IntKind.i64 (Prod.snd (evalM b vs vals act)))))), ((11 : Nat), SV.x (SX.c (SC.pd (PD.int IntKind.i64 (11 : Int)))))], ck := [Chunk.cells [SC.pd (PD.lst ETy.var vs), SC.pd (PD.lst ETy.val vals), SC.pd (PD.lst ETy.str act)] (50 : Nat), Chunk.cells [SC.pd (PD.int IntKind.i64 (Val.kind (Prod.fst (evalM a vs vals act)))), SC.pd (PD.int IntKind.i64 (Val.a (Prod.fst (evalM a vs vals act)))), SC.pd (PD.int IntKind.i64 (Val.b (Prod.fst (evalM a vs vals act))))] (42 : Nat), Chunk.cells [SC.pd (PD.int IntKind.i64 (Val.kind (Prod.fst (evalM b vs vals act)))), SC.pd (PD.int IntKind.i64 (Val.a (Prod.fst (evalM b vs vals act)))), SC.pd (PD.int IntKind.i64 (Val.b (Prod.fst (evalM b vs vals act))))] (42 : Nat)], kn := [(6 : Nat)] })))))) (by kernel_rfl) fun Γ => ?_
  refine ⟨⟨hra, hw⟩, ⟨hrb, hw⟩, fun h => Bool.noConfusion h, fun _ => ⟨fun _ => ⟨rfl, rfl⟩, fun h => ?_⟩⟩
  simp only [Bool.or_eq_false_iff, beq_eq_false_iff_ne, decide_eq_false_iff_not] at h
  obtain ⟨⟨⟨h1, h2⟩, h3⟩, h4⟩ := h
  have hl : a.length + b.length < 32 := by
    have g1 := hra.1
    have g2 := hrb.1
    rw [wrapI (by omega) (by omega)] at h4
    omega
  exact joins_loop a b vs vals act Γ hw h1 h3 h2 hl 24 11 (by omega) (by omega) (by omega)
end Go.Proofs.Ytgoihhnfkoklpaa

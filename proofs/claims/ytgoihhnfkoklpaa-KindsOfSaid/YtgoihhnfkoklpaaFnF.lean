/- Contracts: the kind of an expression. Conditions: none. -/
import Derived.Test.YtgoihhnfkoklpaaFnE
namespace Go.Proofs.Ytgoihhnfkoklpaa
open Go Go.Sy
set_option maxRecDepth 100000
theorem wants_op (c : Cell) (h : 0 ≤ c.wants) : (c.op < 7 ∧ c.wants = 0) ∨ (7 ≤ c.op ∧ c.op < 11 ∧ c.wants = 1) ∨ (11 ≤ c.op ∧ c.wants = 2) := by
  unfold Cell.wants wantsM at *
  simp only [cond_eq_ite] at *
  repeat' split at h
  all_goals simp_all
  all_goals omega
theorem ints_cons (t : Int) (st : List Int) : ints (t :: st) = ints st ++ [.int .i64 t] := by simp [ints]
theorem ints_length (st : List Int) : (ints st).length = st.length := by simp [ints]
theorem ints_take (t : Int) (st : List Int) : (ints (t :: st)).take st.length = ints st := by
  rw [ints_cons, List.take_append_of_le_length (by rw [ints_length]; exact Nat.le_refl _), List.take_of_length_le (by rw [ints_length]; exact Nat.le_refl _)]
theorem ints_top (t : Int) (st : List Int) : (ints (t :: st))[st.length]? = some (.int .i64 t) := by
  rw [ints_cons, List.getElem?_append_right (by rw [ints_length]; exact Nat.le_refl _), ints_length]; simp
theorem ints_sub (t : Int) (st : List Int) (j : Nat) (h : j < st.length) : (ints (t :: st))[j]? = (ints st)[j]? := by
  rw [ints_cons, List.getElem?_append_left (by rw [ints_length]; exact h)]
theorem wrapSub (n m : Nat) (h : m ≤ n) (hn : n ≤ 100) : IntKind.wrap .i64 ((n : Int) - m) = ((n - m : Nat) : Int) := by
  rw [wrapI (by omega) (by omega)]; omega
def kindV (p : Int × Int) : Value := .tuple #[.int .i64 p.1, .int .i64 p.2]



theorem of_loop (l : List Cell) (vars : List Var) (states : List (List UInt8)) (b off cap : Nat) (vv vs : Value) (w0 : World) (hl : l.length ≤ 32) (hlv : vars.length ≤ 9223372036854775807) (hls : states.length ≤ 9223372036854775807) :
    ∀ (n k : Nat) (st : List Int) (H : Mem), RowsAt H 3 b off (l.map Cell.row) → SliceH H 7 vv (vars.map Var.row) → SliceH H 1 vs (states.map strRow) → l.length - k ≤ n → k ≤ l.length → st.length ≤ k → rightGo (l.drop k) st.length = true →
    J Try.prog 14 (bodyOf Try.f14) (R0 w0 (kindV (kindGo vars states (l.drop k) st))) w0 H [PI.code [(1 : Nat), (1 : Nat), (1 : Nat), (0 : Nat), (1 : Nat), (0 : Nat), (0 : Nat)], PI.inLoop [(1 : Nat), (1 : Nat), (1 : Nat), (0 : Nat), (1 : Nat), (0 : Nat), (0 : Nat)], PI.inBlock (0 : Nat), PI.code [(1 : Nat), (1 : Nat), (1 : Nat), (1 : Nat)]] ({ n := (86 : Nat), fr := [(1, SV.c (SC.val vv)), (2, SV.c (SC.val vs)), (6, SV.c (SC.val (Value.int IntKind.i64 (0 : Int)))), (7, SV.c (SC.val (Value.int IntKind.i64 (0 : Int)))), (8, SV.c (SC.own 0)), (17, SV.c (SC.val (Value.slice (some { block := b, off := off }) (List.length l) cap))), (18, SV.c (SC.val (Value.int IntKind.i64 (↑(List.length l) : Int)))), (19, SV.c (SC.val (Value.int IntKind.i64 (k))))], ck := [Chunk.own 3 1 st.length (ints st)] }) := by
  intro n
  induction n with
  | zero => ?_
  | succ n ih => ?_
  all_goals
    intro k st H hr hv hs hn hk hst hright
    refine J.go TabOk.nil Try.func14 1000 (t := (Tree.ite (decide ((↑k : Int) < (↑(List.length l) : Int))) (Tree.need ((0 : Int) ≤ (↑k : Int) ∧ (↑k : Int) < (↑(List.length l) : Int)) (Tree.stop [PI.ops [(1 : Nat), (1 : Nat), (1 : Nat), (0 : Nat), (1 : Nat), (0 : Nat), (0 : Nat), (1 : Nat), (1 : Nat), (0 : Nat), (0 : Nat), (0 : Nat)] (1 : Nat), PI.code [(1 : Nat), (1 : Nat), (1 : Nat), (0 : Nat), (1 : Nat), (0 : Nat), (0 : Nat), (1 : Nat), (1 : Nat), (0 : Nat), (0 : Nat), (1 : Nat)], PI.inBlock (1 : Nat), PI.code [(1 : Nat), (1 : Nat), (1 : Nat), (0 : Nat), (1 : Nat), (0 : Nat), (0 : Nat), (1 : Nat), (1 : Nat), (1 : Nat)], PI.inLoop [(1 : Nat), (1 : Nat), (1 : Nat), (0 : Nat), (1 : Nat), (0 : Nat), (0 : Nat)], PI.inBlock (0 : Nat), PI.code [(1 : Nat), (1 : Nat), (1 : Nat), (1 : Nat)]] { n := (86 : Nat), fr := [((1 : Nat), SV.c (SC.val vv)), ((2 : Nat), SV.c (SC.val vs)), ((6 : Nat), SV.c (SC.val (Value.int IntKind.i64 (0 : Int)))), ((7 : Nat), SV.c (SC.val (Value.int IntKind.i64 (0 : Int)))), ((8 : Nat), SV.c (SC.own (0 : Nat))), ((17 : Nat), SV.c (SC.val (Value.slice (some { block := b, off := off }) (List.length l) cap))), ((18 : Nat), SV.c (SC.val (Value.int IntKind.i64 (↑(List.length l) : Int)))), ((19 : Nat), SV.c (SC.val (Value.int IntKind.i64 (↑k : Int)))), ((21 : Nat), SV.c (SC.val (Value.pointer (some { block := b, off := off + k * (3 : Nat) }))))], ck := [Chunk.own (3 : Nat) (1 : Nat) (List.length st) (ints st)] })) (Tree.need ((0 : Int) ≤ (0 : Int) ∧ (0 : Int) < (↑(List.length st) : Int)) (Tree.stop [PI.ops [(1 : Nat), (1 : Nat), (1 : Nat), (1 : Nat), (0 : Nat)] (2 : Nat), PI.code [(1 : Nat), (1 : Nat), (1 : Nat), (1 : Nat), (1 : Nat)]] { n := (86 : Nat), fr := [((6 : Nat), SV.c (SC.val (Value.int IntKind.i64 (0 : Int)))), ((7 : Nat), SV.c (SC.val (Value.int IntKind.i64 (0 : Int)))), ((84 : Nat), SV.c (SC.loc (0 : Nat) (0 : Nat)))], ck := [Chunk.own (3 : Nat) (1 : Nat) (List.length st) (ints st)] })))) (by kernel_rfl) ?_
    refine ⟨fun hlt => ⟨?_, ?_⟩, fun hge => ?_⟩
    · have := of_decide_eq_true hlt; omega
    · have hk' : k < l.length := by have := of_decide_eq_true hlt; omega
      have hck : (l.map Cell.row)[k]? = some (l[k].row) := by simp [List.getElem?_eq_getElem hk']
      rw [List.drop_eq_getElem_cons hk'] at hright ⊢
      generalize l[k] = c at hck hright
      refine J.load (dst := some 22) (b := b) (off := off + k * 3) (n := 3) (g := true) (row := c.row) (by kernel_rfl) (rows_at hr hck) rfl rfl (by kernel_rfl) ?_
      have hw : (decide (c.wants < 0) || decide (c.wants > (st.length : Int))) = false := by
        simp only [rightGo] at hright
        cases hb : (decide (c.wants < 0) || decide (c.wants > (st.length : Int)))
        · rfl
        · rw [hb] at hright; simp at hright
      have hrest : rightGo (l.drop (k + 1)) (st.length + (1 - c.wants)) = true := by
        simp only [rightGo, hw, cond_false] at hright; exact hright
      have hw2 : 0 ≤ c.wants ∧ c.wants ≤ st.length := by
        simp only [Bool.or_eq_false_iff] at hw
        have h1 := of_decide_eq_false hw.1
        have h2 := of_decide_eq_false hw.2
        omega
      -- what stands behind each of the three ways
      have next : ∀ (kd : Int) (st' : List Int) (H1 : Mem), HLe H H1 → st'.length ≤ k → ((st'.length : Int) + 1 = st.length + (1 - c.wants)) →
          J Try.prog 14 (bodyOf Try.f14) (R0 w0 (kindV (kindGo vars states (l.drop (k + 1)) (kd :: st')))) w0 H1 [PI.code [(1 : Nat), (1 : Nat), (1 : Nat), (0 : Nat), (1 : Nat), (0 : Nat), (0 : Nat)], PI.inLoop [(1 : Nat), (1 : Nat), (1 : Nat), (0 : Nat), (1 : Nat), (0 : Nat), (0 : Nat)], PI.inBlock (0 : Nat), PI.code [(1 : Nat), (1 : Nat), (1 : Nat), (1 : Nat)]] ({ n := (86 : Nat), fr := [(1, SV.c (SC.val vv)), (2, SV.c (SC.val vs)), (6, SV.c (SC.val (Value.int IntKind.i64 (0 : Int)))), (7, SV.c (SC.val (Value.int IntKind.i64 (0 : Int)))), (8, SV.c (SC.own 0)), (17, SV.c (SC.val (Value.slice (some { block := b, off := off }) (List.length l) cap))), (18, SV.c (SC.val (Value.int IntKind.i64 (↑(List.length l) : Int)))), (19, SV.c (SC.val (Value.int IntKind.i64 (IntKind.wrap .i64 ((k : Int) + 1)))))], ck := [Chunk.own 3 1 (st'.length + 1) (ints st' ++ [.int .i64 kd])] }) := by
        intro kd st' H1 hle h1 h2
        rw [wrapK (by omega), ← ints_cons]
        first
        | (exfalso; omega)
        | exact ih (k + 1) (kd :: st') H1 (hr.mono hle) (hv.mono hle) (hs.mono hle) (by omega) (by omega) (by simp only [List.length_cons]; omega) (by rw [← h2] at hrest; simpa using hrest)
      refine J.go tabMade_ok Try.func14 1000 (t := (Tree.ite (decide (Cell.op c < (7 : Int))) (Tree.stop [PI.ops [(1 : Nat), (1 : Nat), (1 : Nat), (0 : Nat), (1 : Nat), (0 : Nat), (0 : Nat), (1 : Nat), (1 : Nat), (0 : Nat), (0 : Nat), (1 : Nat), (1 : Nat), (1 : Nat), (0 : Nat), (0 : Nat), (1 : Nat), (0 : Nat)] (3 : Nat), PI.inBlock (2 : Nat), PI.code [(1 : Nat), (1 : Nat), (1 : Nat), (0 : Nat), (1 : Nat), (0 : Nat), (0 : Nat), (1 : Nat), (1 : Nat), (0 : Nat), (0 : Nat), (1 : Nat), (1 : Nat), (1 : Nat), (1 : Nat)], PI.inBlock (1 : Nat), PI.code [(1 : Nat), (1 : Nat), (1 : Nat), (0 : Nat), (1 : Nat), (0 : Nat), (0 : Nat), (1 : Nat), (1 : Nat), (1 : Nat)], PI.inLoop [(1 : Nat), (1 : Nat), (1 : Nat), (0 : Nat), (1 : Nat), (0 : Nat), (0 : Nat)], PI.inBlock (0 : Nat), PI.code [(1 : Nat), (1 : Nat), (1 : Nat), (1 : Nat)]] { n := (86 : Nat), fr := [((1 : Nat), SV.c (SC.val vv)), ((2 : Nat), SV.c (SC.val vs)), ((6 : Nat), SV.c (SC.val (Value.int IntKind.i64 (0 : Int)))), ((7 : Nat), SV.c (SC.val (Value.int IntKind.i64 (0 : Int)))), ((8 : Nat), SV.c (SC.own (0 : Nat))), ((17 : Nat), SV.c (SC.val (Value.slice (some { block := b, off := off }) (List.length l) cap))), ((18 : Nat), SV.c (SC.val (Value.int IntKind.i64 (↑(List.length l) : Int)))), ((19 : Nat), SV.c (SC.val (Value.int IntKind.i64 (↑k : Int)))), ((47 : Nat), SV.agg [SC.val (Value.int IntKind.i64 (Cell.op c)), SC.val (Value.int IntKind.i64 (Cell.a c)), SC.val (Value.string (bs (Cell.name c)))]), ((48 : Nat), SV.c (SC.val vv)), ((49 : Nat), SV.c (SC.val vs))], ck := [Chunk.own (3 : Nat) (1 : Nat) (List.length st) (ints st)] }) (Tree.ite (decide (Cell.op c < (11 : Int))) (Tree.stop [PI.code [(1 : Nat), (1 : Nat), (1 : Nat), (0 : Nat), (1 : Nat), (0 : Nat), (0 : Nat), (1 : Nat), (1 : Nat), (0 : Nat), (0 : Nat), (1 : Nat), (1 : Nat), (1 : Nat), (0 : Nat), (0 : Nat), (1 : Nat), (1 : Nat), (1 : Nat), (0 : Nat), (0 : Nat)], PI.code [(1 : Nat), (1 : Nat), (1 : Nat), (0 : Nat), (1 : Nat), (0 : Nat), (0 : Nat), (1 : Nat), (1 : Nat), (0 : Nat), (0 : Nat), (1 : Nat), (1 : Nat), (1 : Nat), (0 : Nat), (0 : Nat), (1 : Nat), (1 : Nat), (1 : Nat), (0 : Nat), (1 : Nat)], PI.inBlock (2 : Nat), PI.code [(1 : Nat), (1 : Nat), (1 : Nat), (0 : Nat), (1 : Nat), (0 : Nat), (0 : Nat), (1 : Nat), (1 : Nat), (0 : Nat), (0 : Nat), (1 : Nat), (1 : Nat), (1 : Nat), (1 : Nat)], PI.inBlock (1 : Nat), PI.code [(1 : Nat), (1 : Nat), (1 : Nat), (0 : Nat), (1 : Nat), (0 : Nat), (0 : Nat), (1 : Nat), (1 : Nat), (1 : Nat)], PI.inLoop [(1 : Nat), (1 : Nat), (1 : Nat), (0 : Nat), (1 : Nat), (0 : Nat), (0 : Nat)], PI.inBlock (0 : Nat), PI.code [(1 : Nat), (1 : Nat), (1 : Nat), (1 : Nat)]] { n := (86 : Nat), fr := [((1 : Nat), SV.c (SC.val vv)), ((2 : Nat), SV.c (SC.val vs)), ((6 : Nat), SV.c (SC.val (Value.int IntKind.i64 (0 : Int)))), ((7 : Nat), SV.c (SC.val (Value.int IntKind.i64 (0 : Int)))), ((8 : Nat), SV.c (SC.own (0 : Nat))), ((17 : Nat), SV.c (SC.val (Value.slice (some { block := b, off := off }) (List.length l) cap))), ((18 : Nat), SV.c (SC.val (Value.int IntKind.i64 (↑(List.length l) : Int)))), ((19 : Nat), SV.c (SC.val (Value.int IntKind.i64 (↑k : Int)))), ((10 : Nat), SV.c (SC.loc (1 : Nat) (0 : Nat))), ((11 : Nat), SV.c (SC.val (Value.int IntKind.i64 (↑(List.length st) : Int)))), ((13 : Nat), SV.c (SC.val (Value.int IntKind.i64 (0 : Int))))], ck := [Chunk.own (3 : Nat) (1 : Nat) (List.length st) (ints st), Chunk.cells [SC.val (Value.int IntKind.i64 (Cell.op c)), SC.val (Value.int IntKind.i64 (Cell.a c)), SC.val (Value.string (bs (Cell.name c)))] (38 : Nat)] }) (Tree.stop [PI.code [(1 : Nat), (1 : Nat), (1 : Nat), (0 : Nat), (1 : Nat), (0 : Nat), (0 : Nat), (1 : Nat), (1 : Nat), (0 : Nat), (0 : Nat), (1 : Nat), (1 : Nat), (1 : Nat), (0 : Nat), (0 : Nat), (1 : Nat), (1 : Nat), (1 : Nat), (1 : Nat), (0 : Nat)], PI.code [(1 : Nat), (1 : Nat), (1 : Nat), (0 : Nat), (1 : Nat), (0 : Nat), (0 : Nat), (1 : Nat), (1 : Nat), (0 : Nat), (0 : Nat), (1 : Nat), (1 : Nat), (1 : Nat), (0 : Nat), (0 : Nat), (1 : Nat), (1 : Nat), (1 : Nat), (1 : Nat), (1 : Nat)], PI.inBlock (2 : Nat), PI.code [(1 : Nat), (1 : Nat), (1 : Nat), (0 : Nat), (1 : Nat), (0 : Nat), (0 : Nat), (1 : Nat), (1 : Nat), (0 : Nat), (0 : Nat), (1 : Nat), (1 : Nat), (1 : Nat), (1 : Nat)], PI.inBlock (1 : Nat), PI.code [(1 : Nat), (1 : Nat), (1 : Nat), (0 : Nat), (1 : Nat), (0 : Nat), (0 : Nat), (1 : Nat), (1 : Nat), (1 : Nat)], PI.inLoop [(1 : Nat), (1 : Nat), (1 : Nat), (0 : Nat), (1 : Nat), (0 : Nat), (0 : Nat)], PI.inBlock (0 : Nat), PI.code [(1 : Nat), (1 : Nat), (1 : Nat), (1 : Nat)]] { n := (86 : Nat), fr := [((1 : Nat), SV.c (SC.val vv)), ((2 : Nat), SV.c (SC.val vs)), ((6 : Nat), SV.c (SC.val (Value.int IntKind.i64 (0 : Int)))), ((7 : Nat), SV.c (SC.val (Value.int IntKind.i64 (0 : Int)))), ((8 : Nat), SV.c (SC.own (0 : Nat))), ((17 : Nat), SV.c (SC.val (Value.slice (some { block := b, off := off }) (List.length l) cap))), ((18 : Nat), SV.c (SC.val (Value.int IntKind.i64 (↑(List.length l) : Int)))), ((19 : Nat), SV.c (SC.val (Value.int IntKind.i64 (↑k : Int)))), ((10 : Nat), SV.c (SC.loc (1 : Nat) (0 : Nat))), ((11 : Nat), SV.c (SC.val (Value.int IntKind.i64 (↑(List.length st) : Int)))), ((13 : Nat), SV.c (SC.val (Value.int IntKind.i64 (0 : Int))))], ck := [Chunk.own (3 : Nat) (1 : Nat) (List.length st) (ints st), Chunk.cells [SC.val (Value.int IntKind.i64 (Cell.op c)), SC.val (Value.int IntKind.i64 (Cell.a c)), SC.val (Value.string (bs (Cell.name c)))] (38 : Nat)] })))) (by kernel_rfl) ?_
      refine ⟨fun h7 => ?_, fun h7 => ⟨fun h11 => ?_, fun h11 => ?_⟩⟩
      · -- a leaf
        have hw0 : c.wants = 0 := by rcases wants_op c hw2.1 with ⟨_, h⟩ | ⟨h, _⟩ | ⟨h, _⟩ <;> first | exact h | (have := of_decide_eq_true h7; omega)
        refine J.call0 (dst := some 50) (g := 29) (vs := [.agg c.row.toArray, vv, vs]) (by kernel_rfl) (by kernel_rfl) (leaf_spec c vars states vv vs H hlv hls hv hs) (by kernel_rfl) ?_
        have hstep : kindStep vars states c st = ((leafM c vars states).1, (leafM c vars states).2, st) := by simp only [kindStep, h7, cond_true]
        simp only [kindGo, hstep]
        unfold leafV
        generalize (leafM c vars states).1 = kd
        generalize (leafM c vars states).2 = e
        refine J.go tabMade_ok Try.func14 1000 (t := (Tree.ite (e == (0 : Int) && kd == (0 : Int)) (Tree.ite true (Tree.ret (SV.c (SC.val (Value.tuple #[Value.int IntKind.i64 (0 : Int), Value.int IntKind.i64 (8 : Int)]))) { n := (86 : Nat), fr := [], ck := [] }) (Tree.need ((∀ (u : Value), u ∈ [Value.int IntKind.i64 kd] → Value.oneCell' u = true) ∧ List.length st + (1 : Nat) ≤ maxLen ∧ (List.length st + (1 : Nat)) * (8 : Nat) ≤ (140737488355328 : Nat)) (Tree.stop [PI.code [(1 : Nat), (1 : Nat), (1 : Nat), (0 : Nat), (1 : Nat), (0 : Nat), (0 : Nat)], PI.inLoop [(1 : Nat), (1 : Nat), (1 : Nat), (0 : Nat), (1 : Nat), (0 : Nat), (0 : Nat)], PI.inBlock (0 : Nat), PI.code [(1 : Nat), (1 : Nat), (1 : Nat), (1 : Nat)]] { n := (86 : Nat), fr := [((1 : Nat), SV.c (SC.val vv)), ((2 : Nat), SV.c (SC.val vs)), ((6 : Nat), SV.c (SC.val (Value.int IntKind.i64 (0 : Int)))), ((7 : Nat), SV.c (SC.val (Value.int IntKind.i64 (0 : Int)))), ((8 : Nat), SV.c (SC.own (0 : Nat))), ((17 : Nat), SV.c (SC.val (Value.slice (some { block := b, off := off }) (List.length l) cap))), ((18 : Nat), SV.c (SC.val (Value.int IntKind.i64 (↑(List.length l) : Int)))), ((19 : Nat), SV.c (SC.val (Value.int IntKind.i64 (IntKind.wrap IntKind.i64 ((↑k : Int) + (1 : Int))))))], ck := [Chunk.own (3 : Nat) (1 : Nat) (List.length st + (1 : Nat)) (ints st ++ [Value.int IntKind.i64 kd])] }))) (Tree.ite (e != (0 : Int)) (Tree.ret (SV.c (SC.val (Value.tuple #[Value.int IntKind.i64 (0 : Int), Value.int IntKind.i64 e]))) { n := (86 : Nat), fr := [], ck := [] }) (Tree.need ((∀ (u : Value), u ∈ [Value.int IntKind.i64 kd] → Value.oneCell' u = true) ∧ List.length st + (1 : Nat) ≤ maxLen ∧ (List.length st + (1 : Nat)) * (8 : Nat) ≤ (140737488355328 : Nat)) (Tree.stop [PI.code [(1 : Nat), (1 : Nat), (1 : Nat), (0 : Nat), (1 : Nat), (0 : Nat), (0 : Nat)], PI.inLoop [(1 : Nat), (1 : Nat), (1 : Nat), (0 : Nat), (1 : Nat), (0 : Nat), (0 : Nat)], PI.inBlock (0 : Nat), PI.code [(1 : Nat), (1 : Nat), (1 : Nat), (1 : Nat)]] { n := (86 : Nat), fr := [((1 : Nat), SV.c (SC.val vv)), ((2 : Nat), SV.c (SC.val vs)), ((6 : Nat), SV.c (SC.val (Value.int IntKind.i64 (0 : Int)))), ((7 : Nat), SV.c (SC.val (Value.int IntKind.i64 (0 : Int)))), ((8 : Nat), SV.c (SC.own (0 : Nat))), ((17 : Nat), SV.c (SC.val (Value.slice (some { block := b, off := off }) (List.length l) cap))), ((18 : Nat), SV.c (SC.val (Value.int IntKind.i64 (↑(List.length l) : Int)))), ((19 : Nat), SV.c (SC.val (Value.int IntKind.i64 (IntKind.wrap IntKind.i64 ((↑k : Int) + (1 : Int))))))], ck := [Chunk.own (3 : Nat) (1 : Nat) (List.length st + (1 : Nat)) (ints st ++ [Value.int IntKind.i64 kd])] }))))) (by kernel_rfl) ?_
        refine ⟨fun h => ⟨fun _ => Tree.J.val ?_, fun h2 => Bool.noConfusion h2⟩, fun h => ⟨fun h2 => Tree.J.val ?_, fun h2 => ⟨⟨?_, ?_, ?_⟩, ?_⟩⟩⟩
        · simp [h, kindV]
        · simp [h, h2, kindV]
        · intro u hu; simp at hu; subst hu; rfl
        · unfold maxLen; omega
        · omega
        · simp only [h, h2, cond_false]
          exact next kd st H (HLe.refl _) (by omega) (by omega)
      · -- one operand
        have hop := of_decide_eq_false h7
        have hop2 := of_decide_eq_true h11
        have hw1 : c.wants = 1 := by rcases wants_op c hw2.1 with ⟨h, _⟩ | ⟨_, _, h⟩ | ⟨h, _⟩ <;> first | exact h | omega
        obtain ⟨t, st', hcons⟩ : ∃ t st', st = t :: st' := by
          cases st with
          | nil => simp at hw2; omega
          | cons t st' => exact ⟨t, st', rfl⟩
        have hlen : st.length = st'.length + 1 := by rw [hcons, List.length_cons]
        have e1 : IntKind.wrap .i64 ((st.length : Int) - 1) = (st'.length : Int) := by rw [wrapI (by omega) (by omega)]; omega
        refine J.flow tabMade_ok (by kernel_rfl) (by kernel_rfl) (by kernel_rfl) [(6, .val (.int .i64 t))] (hrun := (show _ = (some ([(0 : Int) ≤ IntKind.wrap IntKind.i64 ((↑(List.length st) : Int) - (1 : Int)) ∧ IntKind.wrap IntKind.i64 ((↑(List.length st) : Int) - (1 : Int)) < (↑(List.length st) : Int)], [FV.sv (SV.c (SC.loc (1 : Nat) (0 : Nat))), FV.sv (SV.c (SC.val (Value.int IntKind.i64 (Cell.op c)))), FV.sv (SV.c (SC.own (0 : Nat))), FV.sv (SV.c (SC.val (Value.int IntKind.i64 (↑(List.length st) : Int)))), FV.sv (SV.c (SC.val (Value.int IntKind.i64 (IntKind.wrap IntKind.i64 ((↑(List.length st) : Int) - (1 : Int)))))), FV.sv (SV.c (SC.loc (0 : Nat) (Int.toNat (IntKind.wrap IntKind.i64 ((↑(List.length st) : Int) - (1 : Int))) * (1 : Nat)))), FV.sv (SV.c (SC.val (Value.int IntKind.i64 t))), FV.sv (SV.c (SC.val (Value.int IntKind.i64 (madeM (Cell.op c) t (0 : Int))))), FV.sv (SV.c (SC.val (Value.int IntKind.i64 (madeM (Cell.op c) t (0 : Int)))))])) from (by kernel_rfl))) ?_ ?_ ?_ ?_
        · intro q hq; rcases List.mem_singleton.1 hq with rfl; rw [e1]; omega
        · intro e he; rcases List.mem_singleton.1 he with rfl; exact mono_eq _
        · intro e he; rcases List.mem_singleton.1 he with rfl
          exact exLoadOwn (xs := ints st) (off := (IntKind.wrap .i64 ((st.length : Int) - 1)).toNat * 1) (fun vs => by kernel_rfl) (by rw [e1, hcons]; simpa using ints_top t st')
        · intro H1 hH1 us hus
          refine J.go tabMade_ok Try.func14 1000 (t := (Tree.need ((0 : Int) ≤ IntKind.wrap IntKind.i64 ((↑(List.length st) : Int) - (1 : Int)) ∧ IntKind.wrap IntKind.i64 ((↑(List.length st) : Int) - (1 : Int)) ≤ (↑(List.length st) : Int)) (Tree.ite ((0 : Int) == (0 : Int) && madeM (Cell.op c) t (0 : Int) == (0 : Int)) (Tree.ite true (Tree.ret (SV.c (SC.val (Value.tuple #[Value.int IntKind.i64 (0 : Int), Value.int IntKind.i64 (8 : Int)]))) { n := (86 : Nat), fr := [], ck := [] }) (Tree.need ((∀ (u : Value), u ∈ [Value.int IntKind.i64 (madeM (Cell.op c) t (0 : Int))] → Value.oneCell' u = true) ∧ Int.toNat (IntKind.wrap IntKind.i64 ((↑(List.length st) : Int) - (1 : Int))) + (1 : Nat) ≤ maxLen ∧ (Int.toNat (IntKind.wrap IntKind.i64 ((↑(List.length st) : Int) - (1 : Int))) + (1 : Nat)) * (8 : Nat) ≤ (140737488355328 : Nat)) (Tree.stop [PI.code [(1 : Nat), (1 : Nat), (1 : Nat), (0 : Nat), (1 : Nat), (0 : Nat), (0 : Nat)], PI.inLoop [(1 : Nat), (1 : Nat), (1 : Nat), (0 : Nat), (1 : Nat), (0 : Nat), (0 : Nat)], PI.inBlock (0 : Nat), PI.code [(1 : Nat), (1 : Nat), (1 : Nat), (1 : Nat)]] { n := (86 : Nat), fr := [((1 : Nat), SV.c (SC.val vv)), ((2 : Nat), SV.c (SC.val vs)), ((6 : Nat), SV.c (SC.val (Value.int IntKind.i64 (0 : Int)))), ((7 : Nat), SV.c (SC.val (Value.int IntKind.i64 (0 : Int)))), ((8 : Nat), SV.c (SC.own (0 : Nat))), ((17 : Nat), SV.c (SC.val (Value.slice (some { block := b, off := off }) (List.length l) cap))), ((18 : Nat), SV.c (SC.val (Value.int IntKind.i64 (↑(List.length l) : Int)))), ((19 : Nat), SV.c (SC.val (Value.int IntKind.i64 (IntKind.wrap IntKind.i64 ((↑k : Int) + (1 : Int))))))], ck := [Chunk.own (3 : Nat) (1 : Nat) (Int.toNat (IntKind.wrap IntKind.i64 ((↑(List.length st) : Int) - (1 : Int))) + (1 : Nat)) (List.take (Int.toNat (IntKind.wrap IntKind.i64 ((↑(List.length st) : Int) - (1 : Int))) * (1 : Nat)) (ints st) ++ [Value.int IntKind.i64 (madeM (Cell.op c) t (0 : Int))])] }))) (Tree.ite false (Tree.ret (SV.c (SC.val (Value.tuple #[Value.int IntKind.i64 (0 : Int), Value.int IntKind.i64 (0 : Int)]))) { n := (86 : Nat), fr := [], ck := [] }) (Tree.need ((∀ (u : Value), u ∈ [Value.int IntKind.i64 (madeM (Cell.op c) t (0 : Int))] → Value.oneCell' u = true) ∧ Int.toNat (IntKind.wrap IntKind.i64 ((↑(List.length st) : Int) - (1 : Int))) + (1 : Nat) ≤ maxLen ∧ (Int.toNat (IntKind.wrap IntKind.i64 ((↑(List.length st) : Int) - (1 : Int))) + (1 : Nat)) * (8 : Nat) ≤ (140737488355328 : Nat)) (Tree.stop [PI.code [(1 : Nat), (1 : Nat), (1 : Nat), (0 : Nat), (1 : Nat), (0 : Nat), (0 : Nat)], PI.inLoop [(1 : Nat), (1 : Nat), (1 : Nat), (0 : Nat), (1 : Nat), (0 : Nat), (0 : Nat)], PI.inBlock (0 : Nat), PI.code [(1 : Nat), (1 : Nat), (1 : Nat), (1 : Nat)]] { n := (86 : Nat), fr := [((1 : Nat), SV.c (SC.val vv)), ((2 : Nat), SV.c (SC.val vs)), ((6 : Nat), SV.c (SC.val (Value.int IntKind.i64 (0 : Int)))), ((7 : Nat), SV.c (SC.val (Value.int IntKind.i64 (0 : Int)))), ((8 : Nat), SV.c (SC.own (0 : Nat))), ((17 : Nat), SV.c (SC.val (Value.slice (some { block := b, off := off }) (List.length l) cap))), ((18 : Nat), SV.c (SC.val (Value.int IntKind.i64 (↑(List.length l) : Int)))), ((19 : Nat), SV.c (SC.val (Value.int IntKind.i64 (IntKind.wrap IntKind.i64 ((↑k : Int) + (1 : Int))))))], ck := [Chunk.own (3 : Nat) (1 : Nat) (Int.toNat (IntKind.wrap IntKind.i64 ((↑(List.length st) : Int) - (1 : Int))) + (1 : Nat)) (List.take (Int.toNat (IntKind.wrap IntKind.i64 ((↑(List.length st) : Int) - (1 : Int))) * (1 : Nat)) (ints st) ++ [Value.int IntKind.i64 (madeM (Cell.op c) t (0 : Int))])] })))))) (by kernel_rfl) ?_
          have hstep : kindStep vars states c st = (madeM c.op t 0, 0, st') := by simp [kindStep, h7, h11, hcons]
          simp only [kindGo, hstep]
          have etake : (ints st).take ((IntKind.wrap .i64 ((st.length : Int) - 1)).toNat * 1) = ints st' := by rw [e1, hcons]; simpa using ints_take t st'
          have enat : (IntKind.wrap .i64 ((st.length : Int) - 1)).toNat + 1 = st'.length + 1 := by rw [e1]; simp
          refine ⟨by rw [e1]; omega, fun h => ⟨fun _ => Tree.J.val ?_, fun h2 => Bool.noConfusion h2⟩, fun h => ⟨(fun h2 => Bool.noConfusion h2), fun _ => ⟨⟨?_, ?_, ?_⟩, ?_⟩⟩⟩
          · have h' : (madeM c.op t 0 == 0) = true := by simpa using h
            simp [h', kindV]
          · intro u hu; rcases List.mem_singleton.1 hu with rfl; rfl
          · unfold maxLen; omega
          · omega
          · have h' : (madeM c.op t 0 == 0) = false := by simpa using h
            simp only [h', Bool.and_false, etake, enat]
            exact next (madeM c.op t 0) st' H1 hH1 (by omega) (by omega)
      · -- two operands
        have hop := of_decide_eq_false h7
        have hop2 := of_decide_eq_false h11
        have hw1 : c.wants = 2 := by rcases wants_op c hw2.1 with ⟨h, _⟩ | ⟨_, h, _⟩ | ⟨_, h⟩ <;> first | exact h | omega
        obtain ⟨t, t2, st', hcons⟩ : ∃ t t2 st', st = t :: t2 :: st' := by
          cases st with
          | nil => simp at hw2; omega
          | cons t st' => cases st' with
            | nil => simp at hw2; omega
            | cons t2 st' => exact ⟨t, t2, st', rfl⟩
        have hlen : st.length = st'.length + 2 := by rw [hcons]; simp
        have e1 : IntKind.wrap .i64 ((st.length : Int) - 1) = ((st'.length + 1 : Nat) : Int) := by rw [wrapI (by omega) (by omega)]; omega
        have e2 : IntKind.wrap .i64 ((st.length : Int) - 2) = (st'.length : Int) := by rw [wrapI (by omega) (by omega)]; omega
        refine J.flow tabMade_ok (by kernel_rfl) (by kernel_rfl) (by kernel_rfl) [(6, .val (.int .i64 t2)), (11, .val (.int .i64 t))] (hrun := (show _ = (some ([(0 : Int) ≤ IntKind.wrap IntKind.i64 ((↑(List.length st) : Int) - (2 : Int)) ∧ IntKind.wrap IntKind.i64 ((↑(List.length st) : Int) - (2 : Int)) < (↑(List.length st) : Int), (0 : Int) ≤ IntKind.wrap IntKind.i64 ((↑(List.length st) : Int) - (1 : Int)) ∧ IntKind.wrap IntKind.i64 ((↑(List.length st) : Int) - (1 : Int)) < (↑(List.length st) : Int)], [FV.sv (SV.c (SC.loc (1 : Nat) (0 : Nat))), FV.sv (SV.c (SC.val (Value.int IntKind.i64 (Cell.op c)))), FV.sv (SV.c (SC.own (0 : Nat))), FV.sv (SV.c (SC.val (Value.int IntKind.i64 (↑(List.length st) : Int)))), FV.sv (SV.c (SC.val (Value.int IntKind.i64 (IntKind.wrap IntKind.i64 ((↑(List.length st) : Int) - (2 : Int)))))), FV.sv (SV.c (SC.loc (0 : Nat) (Int.toNat (IntKind.wrap IntKind.i64 ((↑(List.length st) : Int) - (2 : Int))) * (1 : Nat)))), FV.sv (SV.c (SC.val (Value.int IntKind.i64 t2))), FV.sv (SV.c (SC.own (0 : Nat))), FV.sv (SV.c (SC.val (Value.int IntKind.i64 (↑(List.length st) : Int)))), FV.sv (SV.c (SC.val (Value.int IntKind.i64 (IntKind.wrap IntKind.i64 ((↑(List.length st) : Int) - (1 : Int)))))), FV.sv (SV.c (SC.loc (0 : Nat) (Int.toNat (IntKind.wrap IntKind.i64 ((↑(List.length st) : Int) - (1 : Int))) * (1 : Nat)))), FV.sv (SV.c (SC.val (Value.int IntKind.i64 t))), FV.sv (SV.c (SC.val (Value.int IntKind.i64 (madeM (Cell.op c) t2 t)))), FV.sv (SV.c (SC.val (Value.int IntKind.i64 (madeM (Cell.op c) t2 t))))])) from (by kernel_rfl))) ?_ ?_ ?_ ?_
        · intro q hq
          rcases List.mem_cons.1 hq with rfl | hq
          · rw [e2]; omega
          · rcases List.mem_singleton.1 hq with rfl; rw [e1]; omega
        · intro e he
          rcases List.mem_cons.1 he with rfl | he
          · exact mono_eq _
          · rcases List.mem_singleton.1 he with rfl; exact mono_eq _
        · intro e he
          rcases List.mem_cons.1 he with rfl | he
          · exact exLoadOwn (xs := ints st) (off := (IntKind.wrap .i64 ((st.length : Int) - 2)).toNat * 1) (fun vs => by kernel_rfl) (by
              rw [e2, hcons, ints_sub _ _ _ (by simp)]; simpa using ints_top t2 st')
          · rcases List.mem_singleton.1 he with rfl
            exact exLoadOwn (xs := ints st) (off := (IntKind.wrap .i64 ((st.length : Int) - 1)).toNat * 1) (fun vs => by kernel_rfl) (by
              rw [e1, hcons]; simpa using ints_top t (t2 :: st'))
        · intro H1 hH1 us hus
          refine J.go tabMade_ok Try.func14 1000 (t := (Tree.need ((0 : Int) ≤ IntKind.wrap IntKind.i64 ((↑(List.length st) : Int) - (2 : Int)) ∧ IntKind.wrap IntKind.i64 ((↑(List.length st) : Int) - (2 : Int)) ≤ (↑(List.length st) : Int)) (Tree.ite ((0 : Int) == (0 : Int) && madeM (Cell.op c) t2 t == (0 : Int)) (Tree.ite true (Tree.ret (SV.c (SC.val (Value.tuple #[Value.int IntKind.i64 (0 : Int), Value.int IntKind.i64 (8 : Int)]))) { n := (86 : Nat), fr := [], ck := [] }) (Tree.need ((∀ (u : Value), u ∈ [Value.int IntKind.i64 (madeM (Cell.op c) t2 t)] → Value.oneCell' u = true) ∧ Int.toNat (IntKind.wrap IntKind.i64 ((↑(List.length st) : Int) - (2 : Int))) + (1 : Nat) ≤ maxLen ∧ (Int.toNat (IntKind.wrap IntKind.i64 ((↑(List.length st) : Int) - (2 : Int))) + (1 : Nat)) * (8 : Nat) ≤ (140737488355328 : Nat)) (Tree.stop [PI.code [(1 : Nat), (1 : Nat), (1 : Nat), (0 : Nat), (1 : Nat), (0 : Nat), (0 : Nat)], PI.inLoop [(1 : Nat), (1 : Nat), (1 : Nat), (0 : Nat), (1 : Nat), (0 : Nat), (0 : Nat)], PI.inBlock (0 : Nat), PI.code [(1 : Nat), (1 : Nat), (1 : Nat), (1 : Nat)]] { n := (86 : Nat), fr := [((1 : Nat), SV.c (SC.val vv)), ((2 : Nat), SV.c (SC.val vs)), ((6 : Nat), SV.c (SC.val (Value.int IntKind.i64 (0 : Int)))), ((7 : Nat), SV.c (SC.val (Value.int IntKind.i64 (0 : Int)))), ((8 : Nat), SV.c (SC.own (0 : Nat))), ((17 : Nat), SV.c (SC.val (Value.slice (some { block := b, off := off }) (List.length l) cap))), ((18 : Nat), SV.c (SC.val (Value.int IntKind.i64 (↑(List.length l) : Int)))), ((19 : Nat), SV.c (SC.val (Value.int IntKind.i64 (IntKind.wrap IntKind.i64 ((↑k : Int) + (1 : Int))))))], ck := [Chunk.own (3 : Nat) (1 : Nat) (Int.toNat (IntKind.wrap IntKind.i64 ((↑(List.length st) : Int) - (2 : Int))) + (1 : Nat)) (List.take (Int.toNat (IntKind.wrap IntKind.i64 ((↑(List.length st) : Int) - (2 : Int))) * (1 : Nat)) (ints st) ++ [Value.int IntKind.i64 (madeM (Cell.op c) t2 t)])] }))) (Tree.ite false (Tree.ret (SV.c (SC.val (Value.tuple #[Value.int IntKind.i64 (0 : Int), Value.int IntKind.i64 (0 : Int)]))) { n := (86 : Nat), fr := [], ck := [] }) (Tree.need ((∀ (u : Value), u ∈ [Value.int IntKind.i64 (madeM (Cell.op c) t2 t)] → Value.oneCell' u = true) ∧ Int.toNat (IntKind.wrap IntKind.i64 ((↑(List.length st) : Int) - (2 : Int))) + (1 : Nat) ≤ maxLen ∧ (Int.toNat (IntKind.wrap IntKind.i64 ((↑(List.length st) : Int) - (2 : Int))) + (1 : Nat)) * (8 : Nat) ≤ (140737488355328 : Nat)) (Tree.stop [PI.code [(1 : Nat), (1 : Nat), (1 : Nat), (0 : Nat), (1 : Nat), (0 : Nat), (0 : Nat)], PI.inLoop [(1 : Nat), (1 : Nat), (1 : Nat), (0 : Nat), (1 : Nat), (0 : Nat), (0 : Nat)], PI.inBlock (0 : Nat), PI.code [(1 : Nat), (1 : Nat), (1 : Nat), (1 : Nat)]] { n := (86 : Nat), fr := [((1 : Nat), SV.c (SC.val vv)), ((2 : Nat), SV.c (SC.val vs)), ((6 : Nat), SV.c (SC.val (Value.int IntKind.i64 (0 : Int)))), ((7 : Nat), SV.c (SC.val (Value.int IntKind.i64 (0 : Int)))), ((8 : Nat), SV.c (SC.own (0 : Nat))), ((17 : Nat), SV.c (SC.val (Value.slice (some { block := b, off := off }) (List.length l) cap))), ((18 : Nat), SV.c (SC.val (Value.int IntKind.i64 (↑(List.length l) : Int)))), ((19 : Nat), SV.c (SC.val (Value.int IntKind.i64 (IntKind.wrap IntKind.i64 ((↑k : Int) + (1 : Int))))))], ck := [Chunk.own (3 : Nat) (1 : Nat) (Int.toNat (IntKind.wrap IntKind.i64 ((↑(List.length st) : Int) - (2 : Int))) + (1 : Nat)) (List.take (Int.toNat (IntKind.wrap IntKind.i64 ((↑(List.length st) : Int) - (2 : Int))) * (1 : Nat)) (ints st) ++ [Value.int IntKind.i64 (madeM (Cell.op c) t2 t)])] })))))) (by kernel_rfl) ?_
          have hstep : kindStep vars states c st = (madeM c.op t2 t, 0, st') := by simp [kindStep, h7, h11, hcons]
          simp only [kindGo, hstep]
          have etake : (ints st).take ((IntKind.wrap .i64 ((st.length : Int) - 2)).toNat * 1) = ints st' := by
            rw [e2, hcons, ints_cons, List.take_append_of_le_length (by rw [ints_length]; simp)]; simpa using ints_take t2 st'
          have enat : (IntKind.wrap .i64 ((st.length : Int) - 2)).toNat + 1 = st'.length + 1 := by rw [e2]; simp
          refine ⟨by rw [e2]; omega, fun h => ⟨fun _ => Tree.J.val ?_, fun h2 => Bool.noConfusion h2⟩, fun h => ⟨(fun h2 => Bool.noConfusion h2), fun _ => ⟨⟨?_, ?_, ?_⟩, ?_⟩⟩⟩
          · have h' : (madeM c.op t2 t == 0) = true := by simpa using h
            simp [h', kindV]
          · intro u hu; rcases List.mem_singleton.1 hu with rfl; rfl
          · unfold maxLen; omega
          · omega
          · have h' : (madeM c.op t2 t == 0) = false := by simpa using h
            simp only [h', Bool.and_false, etake, enat]
            exact next (madeM c.op t2 t) st' H1 hH1 (by omega) (by omega)
    · -- past the last cell
      have hge' := of_decide_eq_false hge
      have hk' : k = l.length := by omega
      rw [hk', List.drop_length] at hright ⊢
      simp only [rightGo] at hright
      have hone : st.length = 1 := by have h1 : (st.length : Int) = 1 := (by simpa using hright); omega
      obtain ⟨t, rfl⟩ : ∃ t, st = [t] := List.length_eq_one_iff.1 hone
      refine ⟨by simp, ?_⟩
      refine J.loadOwn (dst := some 85) (xs := ints [t]) (off := 0) (n := 1) (g := false) (row := [.int .i64 t]) (by kernel_rfl) ?_ rfl (by decide) (by kernel_rfl) (by kernel_rfl) ?_
      · intro m u hu; simpa [ints] using hu
      · refine J.go TabOk.nil Try.func14 1000 (t := (Tree.ret (SV.c (SC.val (Value.tuple #[Value.int IntKind.i64 t, Value.int IntKind.i64 (0 : Int)]))) { n := (86 : Nat), fr := [], ck := [] })) (by kernel_rfl) ?_
        exact Tree.J.val (by simp [kindV, kindGo])
theorem kinds_spec (l : List Cell) (vars : List Var) (states : List (List UInt8)) (v vv vs : Value) (H : Mem) (hv : SliceH H 3 v (l.map Cell.row)) (hlv : vars.length ≤ 9223372036854775807) (hls : states.length ≤ 9223372036854775807)
    (hvv : SliceH H 7 vv (vars.map Var.row)) (hvs : SliceH H 1 vs (states.map strRow)) : Spec0 Try.prog 14 [v, vv, vs] H (kindV (kindsM l vars states)) := by
  refine Spec0.of Try.func14 (body_some (by kernel_rfl)) (by kernel_rfl) fun w0 => ?_
  refine J.go TabOk.nil Try.func14 1000 (t := (Tree.stop [PI.ops [(1 : Nat), (0 : Nat), (0 : Nat)] (1 : Nat), PI.code [(1 : Nat), (0 : Nat), (1 : Nat)], PI.code [(1 : Nat), (1 : Nat)]] { n := (86 : Nat), fr := [((0 : Nat), SV.c (SC.val v)), ((1 : Nat), SV.c (SC.val vv)), ((2 : Nat), SV.c (SC.val vs)), ((6 : Nat), SV.c (SC.val (Value.int IntKind.i64 (0 : Int)))), ((7 : Nat), SV.c (SC.val (Value.int IntKind.i64 (0 : Int)))), ((14 : Nat), SV.c (SC.val v))], ck := [] })) (by kernel_rfl) ?_
  refine J.call0 (dst := some 15) (g := 28) (vs := [v]) (by kernel_rfl) (by kernel_rfl) (right_spec l v H hv) (by kernel_rfl) ?_
  rcases hv with ⟨rfl, h0⟩ | ⟨b, off, cap, rfl, hcap, _, hr⟩
  · have h0 : l = [] := by simpa using h0
    subst h0
    refine J.go TabOk.nil Try.func14 1000 (t := (Tree.ite true (Tree.ret (SV.c (SC.val (Value.tuple #[Value.int IntKind.i64 (0 : Int), Value.int IntKind.i64 (1 : Int)]))) { n := (86 : Nat), fr := [], ck := [] }) (Tree.stop [PI.code [(1 : Nat), (1 : Nat), (1 : Nat), (0 : Nat), (1 : Nat), (0 : Nat), (0 : Nat)], PI.inLoop [(1 : Nat), (1 : Nat), (1 : Nat), (0 : Nat), (1 : Nat), (0 : Nat), (0 : Nat)], PI.inBlock (0 : Nat), PI.code [(1 : Nat), (1 : Nat), (1 : Nat), (1 : Nat)]] { n := (86 : Nat), fr := [((1 : Nat), SV.c (SC.val vv)), ((2 : Nat), SV.c (SC.val vs)), ((6 : Nat), SV.c (SC.val (Value.int IntKind.i64 (0 : Int)))), ((7 : Nat), SV.c (SC.val (Value.int IntKind.i64 (0 : Int)))), ((8 : Nat), SV.c (SC.val (Value.slice none (0 : Nat) (0 : Nat)))), ((17 : Nat), SV.c (SC.val (Value.slice none (0 : Nat) (0 : Nat)))), ((18 : Nat), SV.c (SC.val (Value.int IntKind.i64 (↑(0 : Nat) : Int)))), ((19 : Nat), SV.c (SC.val (Value.int IntKind.i64 (0 : Int))))], ck := [] }))) (by kernel_rfl) ?_
    exact ⟨fun _ => Tree.J.val rfl, fun h => Bool.noConfusion h⟩
  · rw [List.length_map] at *
    refine J.go TabOk.nil Try.func14 1000 (t := (Tree.ite (!rightM l) (Tree.ret (SV.c (SC.val (Value.tuple #[Value.int IntKind.i64 (0 : Int), Value.int IntKind.i64 (1 : Int)]))) { n := (86 : Nat), fr := [], ck := [] }) (Tree.stop [PI.code [(1 : Nat), (1 : Nat), (1 : Nat), (0 : Nat), (1 : Nat), (0 : Nat), (0 : Nat)], PI.inLoop [(1 : Nat), (1 : Nat), (1 : Nat), (0 : Nat), (1 : Nat), (0 : Nat), (0 : Nat)], PI.inBlock (0 : Nat), PI.code [(1 : Nat), (1 : Nat), (1 : Nat), (1 : Nat)]] { n := (86 : Nat), fr := [((1 : Nat), SV.c (SC.val vv)), ((2 : Nat), SV.c (SC.val vs)), ((6 : Nat), SV.c (SC.val (Value.int IntKind.i64 (0 : Int)))), ((7 : Nat), SV.c (SC.val (Value.int IntKind.i64 (0 : Int)))), ((8 : Nat), SV.c (SC.val (Value.slice none (0 : Nat) (0 : Nat)))), ((17 : Nat), SV.c (SC.val (Value.slice (some { block := b, off := off }) (List.length l) cap))), ((18 : Nat), SV.c (SC.val (Value.int IntKind.i64 (↑(List.length l) : Int)))), ((19 : Nat), SV.c (SC.val (Value.int IntKind.i64 (0 : Int))))], ck := [] }))) (by kernel_rfl) ?_
    refine ⟨fun h => Tree.J.val ?_, fun h => ?_⟩
    · simp [kindsM, h, kindV]
    · have h' : rightM l = true := by simpa using h
      have e : kindsM l vars states = kindGo vars states (l.drop 0) [] := by simp [kindsM, h']
      simp only [rightM, Bool.and_eq_true] at h'
      have h32 : l.length ≤ 32 := by have h1 := h'.1; simp at h1; omega
      rw [e]
      refine J.ownNil (d := 8) (e := 3) (sz := 1) (by kernel_rfl) ?_
      exact of_loop l vars states b off cap vv vs w0 h32 hlv hls l.length 0 [] H hr hvv hvs (by omega) (by omega) (by simp) (by simpa using h'.2)
end Go.Proofs.Ytgoihhnfkoklpaa

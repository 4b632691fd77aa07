/- Contracts of the library's searches and of the kind of a cell without operands. Conditions: none. -/
import Derived.Test.YtgoihhnfkoklpaaFnC
namespace Go.Proofs.Ytgoihhnfkoklpaa
open Go Go.Sy
set_option maxRecDepth 100000
theorem firstAt_ge {α : Type} (p : α → Bool) : ∀ (l : List α) (i : Int), firstAt p l i = -1 ∨ i ≤ firstAt p l i
  | [], i => .inl rfl
  | x :: r, i => by
    simp only [firstAt]
    cases p x
    · rcases firstAt_ge p r (i + 1) with h | h
      · exact .inl h
      · exact .inr (by simp only [cond_false]; omega)
    · exact .inr (by simp)

theorem ixv_loop (p : Var → Bool) (vars : List Var) (b off cap g : Nat) (c : Value) (H : Mem) (w0 : World) (hg : callOk Try.prog g = true) (hl : vars.length ≤ 9223372036854775807) (hr : RowsAt H 7 b off (vars.map Var.row))
    (hp : ∀ v ∈ vars, Spec0 Try.prog g [.agg v.row.toArray, c] H (.bool (p v))) : ∀ (n k : Nat), vars.length - k ≤ n → k ≤ vars.length →
    J Try.prog 38 (bodyOf Try.f38) (R0 w0 (.int .i64 (firstAt p (vars.drop k) k))) w0 H [PI.code [(1 : Nat), (0 : Nat), (1 : Nat), (0 : Nat), (0 : Nat)], PI.inLoop [(1 : Nat), (0 : Nat), (1 : Nat), (0 : Nat), (0 : Nat)], PI.inBlock (0 : Nat), PI.code [(1 : Nat), (1 : Nat)]] ({ n := (19 : Nat), fr := [(0, SV.c (SC.val (Value.slice (some { block := b, off := off }) (List.length vars) cap))), (1, SV.c (SC.val (Value.func (Fn.func g) #[] #[c]))), (4, SV.c (SC.val (Value.int IntKind.i64 (0 : Int)))), (7, SV.c (SC.val (Value.int IntKind.i64 (↑(List.length vars) : Int)))), (8, SV.c (SC.val (Value.int IntKind.i64 (k))))], ck := [] }) := by
  intro n
  induction n with
  | zero => ?_
  | succ n ih => ?_
  all_goals
    intro k hn hk
    refine J.go TabOk.nil Try.func38 1000 (t := (Tree.ite (decide ((↑k : Int) < (↑(List.length vars) : Int))) (Tree.need ((0 : Int) ≤ (↑k : Int) ∧ (↑k : Int) < (↑(List.length vars) : Int)) (Tree.stop [PI.ops [(1 : Nat), (0 : Nat), (1 : Nat), (0 : Nat), (0 : Nat), (1 : Nat), (1 : Nat), (0 : Nat), (0 : Nat), (1 : Nat), (0 : Nat)] (4 : Nat), PI.code [(1 : Nat), (0 : Nat), (1 : Nat), (0 : Nat), (0 : Nat), (1 : Nat), (1 : Nat), (0 : Nat), (0 : Nat), (1 : Nat), (1 : Nat)], PI.inBlock (1 : Nat), PI.code [(1 : Nat), (0 : Nat), (1 : Nat), (0 : Nat), (0 : Nat), (1 : Nat), (1 : Nat), (1 : Nat)], PI.inLoop [(1 : Nat), (0 : Nat), (1 : Nat), (0 : Nat), (0 : Nat)], PI.inBlock (0 : Nat), PI.code [(1 : Nat), (1 : Nat)]] { n := (19 : Nat), fr := [((0 : Nat), SV.c (SC.val (Value.slice (some { block := b, off := off }) (List.length vars) cap))), ((1 : Nat), SV.c (SC.val (Value.func (Fn.func g) #[] #[c]))), ((4 : Nat), SV.c (SC.val (Value.int IntKind.i64 (0 : Int)))), ((7 : Nat), SV.c (SC.val (Value.int IntKind.i64 (↑(List.length vars) : Int)))), ((8 : Nat), SV.c (SC.val (Value.int IntKind.i64 (↑k : Int)))), ((5 : Nat), SV.c (SC.val (Value.int IntKind.i64 (↑k : Int)))), ((11 : Nat), SV.c (SC.val (Value.func (Fn.func g) #[] #[c]))), ((14 : Nat), SV.c (SC.val (Value.pointer (some { block := b, off := off + k * (7 : Nat) }))))], ck := [] })) (Tree.ret (SV.c (SC.val (Value.int IntKind.i64 (-1 : Int)))) { n := (19 : Nat), fr := [], ck := [] }))) (by kernel_rfl) ?_
    refine ⟨fun hlt => ⟨?_, ?_⟩, fun hge => Tree.J.val ?_⟩
    · have := of_decide_eq_true hlt; omega
    · have hk' : k < vars.length := by have := of_decide_eq_true hlt; omega
      have hck : (vars.map Var.row)[k]? = some (vars[k].row) := by simp [List.getElem?_eq_getElem hk']
      have hpk := hp _ (List.getElem_mem hk')
      rw [List.drop_eq_getElem_cons hk']
      generalize vars[k] = v at hck hpk
      refine J.load (dst := some 15) (b := b) (off := off + k * 7) (n := 7) (g := true) (row := v.row) (by kernel_rfl) (rows_at hr hck) rfl rfl (by kernel_rfl) ?_
      refine J.go TabOk.nil Try.func38 1000 (t := (Tree.stop [PI.ops [(1 : Nat), (0 : Nat), (1 : Nat), (0 : Nat), (0 : Nat), (1 : Nat), (1 : Nat), (0 : Nat), (0 : Nat), (1 : Nat), (0 : Nat)] (5 : Nat), PI.code [(1 : Nat), (0 : Nat), (1 : Nat), (0 : Nat), (0 : Nat), (1 : Nat), (1 : Nat), (0 : Nat), (0 : Nat), (1 : Nat), (1 : Nat)], PI.inBlock (1 : Nat), PI.code [(1 : Nat), (0 : Nat), (1 : Nat), (0 : Nat), (0 : Nat), (1 : Nat), (1 : Nat), (1 : Nat)], PI.inLoop [(1 : Nat), (0 : Nat), (1 : Nat), (0 : Nat), (0 : Nat)], PI.inBlock (0 : Nat), PI.code [(1 : Nat), (1 : Nat)]] { n := (19 : Nat), fr := [((0 : Nat), SV.c (SC.val (Value.slice (some { block := b, off := off }) (List.length vars) cap))), ((1 : Nat), SV.c (SC.val (Value.func (Fn.func g) #[] #[c]))), ((4 : Nat), SV.c (SC.val (Value.int IntKind.i64 (0 : Int)))), ((7 : Nat), SV.c (SC.val (Value.int IntKind.i64 (↑(List.length vars) : Int)))), ((8 : Nat), SV.c (SC.val (Value.int IntKind.i64 (↑k : Int)))), ((5 : Nat), SV.c (SC.val (Value.int IntKind.i64 (↑k : Int)))), ((11 : Nat), SV.c (SC.val (Value.func (Fn.func g) #[] #[c]))), ((15 : Nat), SV.agg [SC.val (Value.string (bs (Var.name v))), SC.val (Value.int IntKind.i64 (Var.kind v)), SC.val (Value.int IntKind.i64 (Var.lo v)), SC.val (Value.int IntKind.i64 (Var.hi v)), SC.val (Value.int IntKind.i64 (Val.kind (Var.init v))), SC.val (Value.int IntKind.i64 (Val.a (Var.init v))), SC.val (Value.int IntKind.i64 (Val.b (Var.init v)))])], ck := [] })) (by kernel_rfl) ?_
      refine J.call0 (dst := some 16) (g := g) (vs := [.agg v.row.toArray, c]) (by kernel_rfl) hg hpk (by kernel_rfl) ?_
      refine J.go TabOk.nil Try.func38 1000 (t := (Tree.ite (p v) (Tree.ret (SV.c (SC.val (Value.int IntKind.i64 (↑k : Int)))) { n := (19 : Nat), fr := [], ck := [] }) (Tree.stop [PI.code [(1 : Nat), (0 : Nat), (1 : Nat), (0 : Nat), (0 : Nat)], PI.inLoop [(1 : Nat), (0 : Nat), (1 : Nat), (0 : Nat), (0 : Nat)], PI.inBlock (0 : Nat), PI.code [(1 : Nat), (1 : Nat)]] { n := (19 : Nat), fr := [((0 : Nat), SV.c (SC.val (Value.slice (some { block := b, off := off }) (List.length vars) cap))), ((1 : Nat), SV.c (SC.val (Value.func (Fn.func g) #[] #[c]))), ((4 : Nat), SV.c (SC.val (Value.int IntKind.i64 (0 : Int)))), ((7 : Nat), SV.c (SC.val (Value.int IntKind.i64 (↑(List.length vars) : Int)))), ((8 : Nat), SV.c (SC.val (Value.int IntKind.i64 (IntKind.wrap IntKind.i64 ((↑k : Int) + (1 : Int))))))], ck := [] }))) (by kernel_rfl) ?_
      refine ⟨fun hb => Tree.J.val ?_, fun hb => ?_⟩
      · simp only [firstAt, hb, cond_true]
      · simp only [firstAt, hb, cond_false]
        rw [wrapK (by omega)]
        first
        | (exfalso; omega)
        | exact ih (k + 1) (by omega) (by omega)
    · have : vars.drop k = [] := by have := of_decide_eq_false hge; exact List.drop_eq_nil_of_le (by omega)
      rw [this]; rfl

theorem leafcl_spec (v : Var) (b : Nat) (c : Cell) (H : Mem) (hc : CellsAt H b 0 c.row) : Spec0 Try.prog 39 [.agg v.row.toArray, .pointer (some ⟨b, 0, none⟩)] H (.bool (v.name == c.name)) := by
  refine Spec0.of Try.func39 (body_some (by kernel_rfl)) (by kernel_rfl) fun w0 => ?_
  refine J.go TabOk.nil Try.func39 1000 (t := (Tree.stop [PI.ops [(1 : Nat), (0 : Nat)] (3 : Nat), PI.code [(1 : Nat), (1 : Nat)]] { n := (9 : Nat), fr := [((3 : Nat), SV.c (SC.val (Value.bool false))), ((5 : Nat), SV.c (SC.val (Value.string (bs (Var.name v))))), ((6 : Nat), SV.c (SC.val (Value.pointer (some { block := b, off := (2 : Nat) }))))], ck := [], kn := [(3 : Nat)] })) (by kernel_rfl) ?_
  have hc2 : CellsAt H b (0 + 2) [.string (bs c.name)] := by
    obtain ⟨cells, e, fr, h1, h2⟩ := hc
    exact ⟨cells, e, fr, h1, fun m u hu => by
      cases m with
      | zero => simp at hu; subst hu; exact h2 2 _ rfl
      | succ m => simp at hu⟩
  refine J.load (dst := some 7) (b := b) (off := 0 + 2) (n := 1) (g := false) (row := [.string (bs c.name)]) (by kernel_rfl) hc2 rfl rfl (by kernel_rfl) ?_
  refine J.go TabOk.nil Try.func39 1000 (t := (Tree.ret (SV.c (SC.val (Value.bool (Var.name v == Cell.name c)))) { n := (9 : Nat), fr := [], ck := [] })) (by kernel_rfl) ?_
  exact Tree.J.val rfl
theorem ixv_spec (p : Var → Bool) (vars : List Var) (vv : Value) (g : Nat) (c : Value) (H : Mem) (hg : callOk Try.prog g = true) (hl : vars.length ≤ 9223372036854775807) (hv : SliceH H 7 vv (vars.map Var.row))
    (hp : ∀ v ∈ vars, Spec0 Try.prog g [.agg v.row.toArray, c] H (.bool (p v))) : Spec0 Try.prog 38 [vv, .func (.func g) #[] #[c]] H (.int .i64 (firstAt p vars 0)) := by
  refine Spec0.of Try.func38 (body_some (by kernel_rfl)) (by kernel_rfl) fun w0 => ?_
  rcases hv with ⟨rfl, h0⟩ | ⟨b, off, cap, rfl, _, _, hr⟩
  · have h0 : vars = [] := by simpa using h0
    subst h0
    refine J.go TabOk.nil Try.func38 1000 (t := (Tree.stop [PI.code [(1 : Nat), (0 : Nat), (1 : Nat), (0 : Nat), (0 : Nat)], PI.inLoop [(1 : Nat), (0 : Nat), (1 : Nat), (0 : Nat), (0 : Nat)], PI.inBlock (0 : Nat), PI.code [(1 : Nat), (1 : Nat)]] { n := (19 : Nat), fr := [((0 : Nat), SV.c (SC.val (Value.slice none (0 : Nat) (0 : Nat)))), ((1 : Nat), SV.c (SC.val (Value.func (Fn.func g) #[] #[c]))), ((4 : Nat), SV.c (SC.val (Value.int IntKind.i64 (0 : Int)))), ((7 : Nat), SV.c (SC.val (Value.int IntKind.i64 (↑(0 : Nat) : Int)))), ((8 : Nat), SV.c (SC.val (Value.int IntKind.i64 (0 : Int))))], ck := [] })) (by kernel_rfl) ?_
    exact J.go TabOk.nil Try.func38 1000 (t := (Tree.ite false (Tree.stop [PI.ops [(1 : Nat), (0 : Nat), (1 : Nat), (0 : Nat), (0 : Nat), (1 : Nat), (1 : Nat), (0 : Nat), (0 : Nat), (1 : Nat), (0 : Nat)] (3 : Nat), PI.code [(1 : Nat), (0 : Nat), (1 : Nat), (0 : Nat), (0 : Nat), (1 : Nat), (1 : Nat), (0 : Nat), (0 : Nat), (1 : Nat), (1 : Nat)], PI.inBlock (1 : Nat), PI.code [(1 : Nat), (0 : Nat), (1 : Nat), (0 : Nat), (0 : Nat), (1 : Nat), (1 : Nat), (1 : Nat)], PI.inLoop [(1 : Nat), (0 : Nat), (1 : Nat), (0 : Nat), (0 : Nat)], PI.inBlock (0 : Nat), PI.code [(1 : Nat), (1 : Nat)]] { n := (19 : Nat), fr := [((0 : Nat), SV.c (SC.val (Value.slice none (0 : Nat) (0 : Nat)))), ((1 : Nat), SV.c (SC.val (Value.func (Fn.func g) #[] #[c]))), ((4 : Nat), SV.c (SC.val (Value.int IntKind.i64 (0 : Int)))), ((7 : Nat), SV.c (SC.val (Value.int IntKind.i64 (↑(0 : Nat) : Int)))), ((8 : Nat), SV.c (SC.val (Value.int IntKind.i64 (0 : Int)))), ((5 : Nat), SV.c (SC.val (Value.int IntKind.i64 (0 : Int)))), ((11 : Nat), SV.c (SC.val (Value.func (Fn.func g) #[] #[c]))), ((12 : Nat), SV.c (SC.val (Value.slice none (0 : Nat) (0 : Nat)))), ((13 : Nat), SV.c (SC.val (Value.int IntKind.i64 (0 : Int))))], ck := [] }) (Tree.ret (SV.c (SC.val (Value.int IntKind.i64 (-1 : Int)))) { n := (19 : Nat), fr := [], ck := [] }))) (by kernel_rfl) ⟨(fun h => Bool.noConfusion h), (fun _ => Tree.J.val rfl)⟩
  · rw [List.length_map]
    refine J.go TabOk.nil Try.func38 1000 (t := (Tree.stop [PI.code [(1 : Nat), (0 : Nat), (1 : Nat), (0 : Nat), (0 : Nat)], PI.inLoop [(1 : Nat), (0 : Nat), (1 : Nat), (0 : Nat), (0 : Nat)], PI.inBlock (0 : Nat), PI.code [(1 : Nat), (1 : Nat)]] { n := (19 : Nat), fr := [((0 : Nat), SV.c (SC.val (Value.slice (some { block := b, off := off }) (List.length vars) cap))), ((1 : Nat), SV.c (SC.val (Value.func (Fn.func g) #[] #[c]))), ((4 : Nat), SV.c (SC.val (Value.int IntKind.i64 (0 : Int)))), ((7 : Nat), SV.c (SC.val (Value.int IntKind.i64 (↑(List.length vars) : Int)))), ((8 : Nat), SV.c (SC.val (Value.int IntKind.i64 (0 : Int))))], ck := [] })) (by kernel_rfl) ?_
    exact ixv_loop p vars b off cap g c H w0 hg hl hr hp vars.length 0 (by omega) (by omega)


theorem ixs_loop (l : List (List UInt8)) (s : List UInt8) (b off cap : Nat) (H : Mem) (w0 : World) (hl : l.length ≤ 9223372036854775807) (hr : RowsAt H 1 b off (l.map strRow)) : ∀ (n k : Nat), l.length - k ≤ n → k ≤ l.length →
    J Try.prog 56 (bodyOf Try.f56) (R0 w0 (.int .i64 (firstAt (fun x => s == x) (l.drop k) k))) w0 H [PI.code [(1 : Nat), (0 : Nat), (1 : Nat), (0 : Nat), (0 : Nat)], PI.inLoop [(1 : Nat), (0 : Nat), (1 : Nat), (0 : Nat), (0 : Nat)], PI.inBlock (0 : Nat), PI.code [(1 : Nat), (1 : Nat)]] ({ n := (19 : Nat), fr := [(0, SV.c (SC.val (Value.slice (some { block := b, off := off }) (List.length l) cap))), (1, SV.c (SC.val (Value.string (bs s)))), (4, SV.c (SC.val (Value.int IntKind.i64 (0 : Int)))), (7, SV.c (SC.val (Value.int IntKind.i64 (↑(List.length l) : Int)))), (8, SV.c (SC.val (Value.int IntKind.i64 (k))))], ck := [] }) := by
  intro n
  induction n with
  | zero => ?_
  | succ n ih => ?_
  all_goals
    intro k hn hk
    refine J.go TabOk.nil Try.func56 1000 (t := (Tree.ite (decide ((↑k : Int) < (↑(List.length l) : Int))) (Tree.need ((0 : Int) ≤ (↑k : Int) ∧ (↑k : Int) < (↑(List.length l) : Int)) (Tree.stop [PI.ops [(1 : Nat), (0 : Nat), (1 : Nat), (0 : Nat), (0 : Nat), (1 : Nat), (1 : Nat), (0 : Nat), (0 : Nat), (1 : Nat), (0 : Nat)] (4 : Nat), PI.code [(1 : Nat), (0 : Nat), (1 : Nat), (0 : Nat), (0 : Nat), (1 : Nat), (1 : Nat), (0 : Nat), (0 : Nat), (1 : Nat), (1 : Nat)], PI.inBlock (1 : Nat), PI.code [(1 : Nat), (0 : Nat), (1 : Nat), (0 : Nat), (0 : Nat), (1 : Nat), (1 : Nat), (1 : Nat)], PI.inLoop [(1 : Nat), (0 : Nat), (1 : Nat), (0 : Nat), (0 : Nat)], PI.inBlock (0 : Nat), PI.code [(1 : Nat), (1 : Nat)]] { n := (19 : Nat), fr := [((0 : Nat), SV.c (SC.val (Value.slice (some { block := b, off := off }) (List.length l) cap))), ((1 : Nat), SV.c (SC.val (Value.string (bs s)))), ((4 : Nat), SV.c (SC.val (Value.int IntKind.i64 (0 : Int)))), ((7 : Nat), SV.c (SC.val (Value.int IntKind.i64 (↑(List.length l) : Int)))), ((8 : Nat), SV.c (SC.val (Value.int IntKind.i64 (↑k : Int)))), ((5 : Nat), SV.c (SC.val (Value.int IntKind.i64 (↑k : Int)))), ((11 : Nat), SV.c (SC.val (Value.string (bs s)))), ((14 : Nat), SV.c (SC.val (Value.pointer (some { block := b, off := off + k * (1 : Nat) }))))], ck := [] })) (Tree.ret (SV.c (SC.val (Value.int IntKind.i64 (-1 : Int)))) { n := (19 : Nat), fr := [], ck := [] }))) (by kernel_rfl) ?_
    refine ⟨fun hlt => ⟨?_, ?_⟩, fun hge => Tree.J.val ?_⟩
    · have := of_decide_eq_true hlt; omega
    · have hk' : k < l.length := by have := of_decide_eq_true hlt; omega
      have hck : (l.map strRow)[k]? = some (strRow l[k]) := by simp [List.getElem?_eq_getElem hk']
      rw [List.drop_eq_getElem_cons hk']
      generalize l[k] = x at hck
      refine J.load (dst := some 15) (b := b) (off := off + k * 1) (n := 1) (g := false) (row := strRow x) (by kernel_rfl) (rows_at hr hck) rfl rfl (by kernel_rfl) ?_
      refine J.go TabOk.nil Try.func56 1000 (t := (Tree.ite (s == x) (Tree.ret (SV.c (SC.val (Value.int IntKind.i64 (↑k : Int)))) { n := (19 : Nat), fr := [], ck := [] }) (Tree.stop [PI.code [(1 : Nat), (0 : Nat), (1 : Nat), (0 : Nat), (0 : Nat)], PI.inLoop [(1 : Nat), (0 : Nat), (1 : Nat), (0 : Nat), (0 : Nat)], PI.inBlock (0 : Nat), PI.code [(1 : Nat), (1 : Nat)]] { n := (19 : Nat), fr := [((0 : Nat), SV.c (SC.val (Value.slice (some { block := b, off := off }) (List.length l) cap))), ((1 : Nat), SV.c (SC.val (Value.string (bs s)))), ((4 : Nat), SV.c (SC.val (Value.int IntKind.i64 (0 : Int)))), ((7 : Nat), SV.c (SC.val (Value.int IntKind.i64 (↑(List.length l) : Int)))), ((8 : Nat), SV.c (SC.val (Value.int IntKind.i64 (IntKind.wrap IntKind.i64 ((↑k : Int) + (1 : Int))))))], ck := [] }))) (by kernel_rfl) ?_
      refine ⟨fun hb => Tree.J.val ?_, fun hb => ?_⟩
      · simp only [firstAt, hb, cond_true]
      · simp only [firstAt, hb, cond_false]
        rw [wrapK (by omega)]
        first
        | (exfalso; omega)
        | exact ih (k + 1) (by omega) (by omega)
    · have : l.drop k = [] := by have := of_decide_eq_false hge; exact List.drop_eq_nil_of_le (by omega)
      rw [this]; rfl
theorem ixs_spec (l : List (List UInt8)) (s : List UInt8) (v : Value) (H : Mem) (hl : l.length ≤ 9223372036854775807) (hv : SliceH H 1 v (l.map strRow)) : Spec0 Try.prog 56 [v, .string (bs s)] H (.int .i64 (firstAt (fun x => s == x) l 0)) := by
  refine Spec0.of Try.func56 (body_some (by kernel_rfl)) (by kernel_rfl) fun w0 => ?_
  rcases hv with ⟨rfl, h0⟩ | ⟨b, off, cap, rfl, _, _, hr⟩
  · have h0 : l = [] := by simpa using h0
    subst h0
    refine J.go TabOk.nil Try.func56 1000 (t := (Tree.stop [PI.code [(1 : Nat), (0 : Nat), (1 : Nat), (0 : Nat), (0 : Nat)], PI.inLoop [(1 : Nat), (0 : Nat), (1 : Nat), (0 : Nat), (0 : Nat)], PI.inBlock (0 : Nat), PI.code [(1 : Nat), (1 : Nat)]] { n := (19 : Nat), fr := [((0 : Nat), SV.c (SC.val (Value.slice none (0 : Nat) (0 : Nat)))), ((1 : Nat), SV.c (SC.val (Value.string (bs s)))), ((4 : Nat), SV.c (SC.val (Value.int IntKind.i64 (0 : Int)))), ((7 : Nat), SV.c (SC.val (Value.int IntKind.i64 (↑(0 : Nat) : Int)))), ((8 : Nat), SV.c (SC.val (Value.int IntKind.i64 (0 : Int))))], ck := [] })) (by kernel_rfl) ?_
    exact J.go TabOk.nil Try.func56 1000 (t := (Tree.ite false (Tree.stop [PI.ops [(1 : Nat), (0 : Nat), (1 : Nat), (0 : Nat), (0 : Nat), (1 : Nat), (1 : Nat), (0 : Nat), (0 : Nat), (1 : Nat), (0 : Nat)] (3 : Nat), PI.code [(1 : Nat), (0 : Nat), (1 : Nat), (0 : Nat), (0 : Nat), (1 : Nat), (1 : Nat), (0 : Nat), (0 : Nat), (1 : Nat), (1 : Nat)], PI.inBlock (1 : Nat), PI.code [(1 : Nat), (0 : Nat), (1 : Nat), (0 : Nat), (0 : Nat), (1 : Nat), (1 : Nat), (1 : Nat)], PI.inLoop [(1 : Nat), (0 : Nat), (1 : Nat), (0 : Nat), (0 : Nat)], PI.inBlock (0 : Nat), PI.code [(1 : Nat), (1 : Nat)]] { n := (19 : Nat), fr := [((0 : Nat), SV.c (SC.val (Value.slice none (0 : Nat) (0 : Nat)))), ((1 : Nat), SV.c (SC.val (Value.string (bs s)))), ((4 : Nat), SV.c (SC.val (Value.int IntKind.i64 (0 : Int)))), ((7 : Nat), SV.c (SC.val (Value.int IntKind.i64 (↑(0 : Nat) : Int)))), ((8 : Nat), SV.c (SC.val (Value.int IntKind.i64 (0 : Int)))), ((5 : Nat), SV.c (SC.val (Value.int IntKind.i64 (0 : Int)))), ((11 : Nat), SV.c (SC.val (Value.string (bs s)))), ((12 : Nat), SV.c (SC.val (Value.slice none (0 : Nat) (0 : Nat)))), ((13 : Nat), SV.c (SC.val (Value.int IntKind.i64 (0 : Int))))], ck := [] }) (Tree.ret (SV.c (SC.val (Value.int IntKind.i64 (-1 : Int)))) { n := (19 : Nat), fr := [], ck := [] }))) (by kernel_rfl) ⟨(fun h => Bool.noConfusion h), (fun _ => Tree.J.val rfl)⟩
  · rw [List.length_map]
    refine J.go TabOk.nil Try.func56 1000 (t := (Tree.stop [PI.code [(1 : Nat), (0 : Nat), (1 : Nat), (0 : Nat), (0 : Nat)], PI.inLoop [(1 : Nat), (0 : Nat), (1 : Nat), (0 : Nat), (0 : Nat)], PI.inBlock (0 : Nat), PI.code [(1 : Nat), (1 : Nat)]] { n := (19 : Nat), fr := [((0 : Nat), SV.c (SC.val (Value.slice (some { block := b, off := off }) (List.length l) cap))), ((1 : Nat), SV.c (SC.val (Value.string (bs s)))), ((4 : Nat), SV.c (SC.val (Value.int IntKind.i64 (0 : Int)))), ((7 : Nat), SV.c (SC.val (Value.int IntKind.i64 (↑(List.length l) : Int)))), ((8 : Nat), SV.c (SC.val (Value.int IntKind.i64 (0 : Int))))], ck := [] })) (by kernel_rfl) ?_
    exact ixs_loop l s b off cap H w0 hl hr l.length 0 (by omega) (by omega)
theorem firstAt_iff {α : Type} (p : α → Bool) : ∀ (l : List α) (i : Int), 0 ≤ i → (firstAt p l i ≥ 0 ↔ l.any p = true)
  | [], i, _ => by simp [firstAt]
  | x :: r, i, h => by
    have ih := firstAt_iff p r (i + 1) (by omega)
    unfold firstAt
    rw [List.any_cons]
    cases hp : p x
    · simpa using ih
    · simpa using h
theorem firstAt_any {α : Type} (p : α → Bool) (l : List α) (i : Int) (h : 0 ≤ i) : decide (firstAt p l i ≥ 0) = l.any p := by
  have := firstAt_iff p l i h
  cases hl : l.any p
  · rw [hl] at this; exact decide_eq_false (fun h2 => by simp at this; omega)
  · rw [hl] at this; exact decide_eq_true (this.2 rfl)
theorem contains_spec (l : List (List UInt8)) (s : List UInt8) (v : Value) (H : Mem) (hl : l.length ≤ 9223372036854775807) (hv : SliceH H 1 v (l.map strRow)) : Spec0 Try.prog 40 [v, .string (bs s)] H (.bool (l.any fun x => s == x)) := by
  refine Spec0.of Try.func40 (body_some (by kernel_rfl)) (by kernel_rfl) fun w0 => ?_
  refine J.go TabOk.nil Try.func40 1000 (t := (Tree.stop [PI.ops [(1 : Nat), (0 : Nat)] (2 : Nat), PI.code [(1 : Nat), (1 : Nat)]] { n := (9 : Nat), fr := [((4 : Nat), SV.c (SC.val (Value.bool false))), ((5 : Nat), SV.c (SC.val v)), ((6 : Nat), SV.c (SC.val (Value.string (bs s))))], ck := [], kn := [(4 : Nat)] })) (by kernel_rfl) ?_
  refine J.call0 (dst := some 7) (g := 56) (vs := [v, .string (bs s)]) (by kernel_rfl) (by kernel_rfl) (ixs_spec l s v H hl hv) (by kernel_rfl) ?_
  refine J.go TabOk.nil Try.func40 1000 (t := (Tree.ret (SV.c (SC.val (Value.bool (decide (firstAt (fun x => s == x) l (0 : Int) ≥ (0 : Int)))))) { n := (9 : Nat), fr := [], ck := [] })) (by kernel_rfl) ?_
  exact Tree.J.val (by rw [firstAt_any _ _ _ (by omega)])
end Go.Proofs.Ytgoihhnfkoklpaa

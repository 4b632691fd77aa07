/- Contracts: the document's right lists, beginnings. Conditions: none. -/
import Derived.Test.YtgoihhnfkoklpaaFnI
import Derived.Test.YtgoihhnfkoklpaaTm
namespace Go.Proofs.Ytgoihhnfkoklpaa
open Go Go.Sy
set_option maxRecDepth 100000
theorem cell_at {l : List Cell} {k : Nat} (h : k < l.length) : (l.map Cell.row)[k]? = some (l[k].row) := by simp [List.getElem?_eq_getElem h]


theorem ref_right_loop (l : List Cell) (b off cap : Nat) (H : Mem) (w0 : World) (hr : RowsAt H 3 b off (l.map Cell.row)) (hlen : l.length ≤ 9223372036854775807) : ∀ (n k : Nat) (m : Int), 33 - k ≤ n → k ≤ l.length → k ≤ 32 → 0 ≤ m → m ≤ k →
    J Try.prog 20 (bodyOf Try.f20) (R0 w0 (.bool (!decide ((l.length : Int) > 32) && rightGo (l.drop k) m))) w0 H [PI.code [(1 : Nat), (1 : Nat), (0 : Nat), (1 : Nat), (0 : Nat), (0 : Nat)], PI.inLoop [(1 : Nat), (1 : Nat), (0 : Nat), (1 : Nat), (0 : Nat), (0 : Nat)], PI.inBlock (0 : Nat), PI.code [(1 : Nat), (1 : Nat), (1 : Nat)]] ({ n := (34 : Nat), fr := [(0, SV.c (SC.val (Value.slice (some { block := b, off := off }) (List.length l) cap))), (2, SV.c (SC.val (Value.bool false))), (3, SV.c (SC.val (Value.int IntKind.i64 (m)))), (4, SV.c (SC.val (Value.int IntKind.i64 (k))))], ck := [], kn := [(2 : Nat)] }) := by
  intro n
  induction n with
  | zero => intro k m h1 h2 h3; omega
  | succ n ih => ?_
  intro k m hn hk hk32 hm0 hm
  refine J.go tabOperands_ok Try.func20 1000 (t := (Tree.ite (decide ((↑k : Int) < (↑(List.length l) : Int))) (Tree.need ((0 : Int) ≤ (↑k : Int) ∧ (↑k : Int) < (↑(List.length l) : Int)) (Tree.stop [PI.ops [(1 : Nat), (1 : Nat), (0 : Nat), (1 : Nat), (0 : Nat), (0 : Nat), (1 : Nat), (0 : Nat), (0 : Nat), (0 : Nat)] (3 : Nat), PI.code [(1 : Nat), (1 : Nat), (0 : Nat), (1 : Nat), (0 : Nat), (0 : Nat), (1 : Nat), (0 : Nat), (0 : Nat), (1 : Nat)], PI.inBlock (1 : Nat), PI.code [(1 : Nat), (1 : Nat), (0 : Nat), (1 : Nat), (0 : Nat), (0 : Nat), (1 : Nat), (1 : Nat)], PI.inLoop [(1 : Nat), (1 : Nat), (0 : Nat), (1 : Nat), (0 : Nat), (0 : Nat)], PI.inBlock (0 : Nat), PI.code [(1 : Nat), (1 : Nat), (1 : Nat)]] { n := (34 : Nat), fr := [((0 : Nat), SV.c (SC.val (Value.slice (some { block := b, off := off }) (List.length l) cap))), ((2 : Nat), SV.c (SC.val (Value.bool false))), ((3 : Nat), SV.c (SC.val (Value.int IntKind.i64 m))), ((4 : Nat), SV.c (SC.val (Value.int IntKind.i64 (↑k : Int)))), ((14 : Nat), SV.c (SC.val (Value.pointer (some { block := b, off := off + k * (3 : Nat) }))))], ck := [], kn := [(2 : Nat)] })) (Tree.ret (SV.c (SC.val (Value.bool (m == (1 : Int))))) { n := (34 : Nat), fr := [], ck := [] }))) (by kernel_rfl) ?_
  refine ⟨fun hlt => ?_, fun hge => Tree.J.val ?_⟩
  · have hk' : k < l.length := by have := of_decide_eq_true hlt; omega
    refine ⟨⟨by omega, by omega⟩, ?_⟩
    have hck := cell_at hk'
    rw [List.drop_eq_getElem_cons hk']
    generalize l[k] = c at hck
    refine J.load (dst := some 15) (b := b) (off := off + k * 3) (n := 3) (g := true) (row := c.row) (by kernel_rfl) (rows_at hr hck) rfl rfl (by kernel_rfl) ?_
    refine J.go tabOperands_ok Try.func20 1000 (t := (Tree.ite (decide (wantsM (Cell.op c) (Cell.a c) (Cell.name c) < (0 : Int)) || decide (m < wantsM (Cell.op c) (Cell.a c) (Cell.name c)) || decide ((↑k : Int) ≥ (32 : Int))) (Tree.ret (SV.c (SC.val (Value.bool false))) { n := (34 : Nat), fr := [], ck := [] }) (Tree.stop [PI.code [(1 : Nat), (1 : Nat), (0 : Nat), (1 : Nat), (0 : Nat), (0 : Nat)], PI.inLoop [(1 : Nat), (1 : Nat), (0 : Nat), (1 : Nat), (0 : Nat), (0 : Nat)], PI.inBlock (0 : Nat), PI.code [(1 : Nat), (1 : Nat), (1 : Nat)]] { n := (34 : Nat), fr := [((0 : Nat), SV.c (SC.val (Value.slice (some { block := b, off := off }) (List.length l) cap))), ((2 : Nat), SV.c (SC.val (Value.bool false))), ((3 : Nat), SV.c (SC.val (Value.int IntKind.i64 (IntKind.wrap IntKind.i64 (IntKind.wrap IntKind.i64 (m - wantsM (Cell.op c) (Cell.a c) (Cell.name c)) + (1 : Int)))))), ((4 : Nat), SV.c (SC.val (Value.int IntKind.i64 (IntKind.wrap IntKind.i64 ((↑k : Int) + (1 : Int))))))], ck := [], kn := [(2 : Nat)] }))) (by kernel_rfl) ?_
    have hw : c.wants = wantsM c.op c.a c.name := rfl
    rw [← hw]
    refine ⟨fun h => Tree.J.val ?_, fun h => ?_⟩
    · simp only [Bool.or_eq_true] at h
      have e : (!decide ((l.length : Int) > 32) && rightGo (c :: l.drop (k + 1)) m) = false := by
        rcases h with h | h
        · have h' : (decide (c.wants < 0) || decide (c.wants > m)) = true := by
            rcases h with h | h
            · rw [h]; rfl
            · have : decide (c.wants > m) = true := h
              rw [this, Bool.or_true]
          simp only [rightGo, h', cond_true, Bool.and_false]
        · have : decide ((l.length : Int) > 32) = true := decide_eq_true (by have := of_decide_eq_true h; omega)
          rw [this]; rfl
      rw [e]
    · simp only [Bool.or_eq_false_iff] at h
      have h1 := of_decide_eq_false h.1.1
      have h2 := of_decide_eq_false h.1.2
      have h3 := of_decide_eq_false h.2
      have e1 : IntKind.wrap IntKind.i64 (IntKind.wrap IntKind.i64 (m - c.wants) + 1) = m + (1 - c.wants) := by
        rw [wrapI (n := m - _) (by omega) (by omega), wrapI (by omega) (by omega)]; omega
      have e2 : rightGo (c :: l.drop (k + 1)) m = rightGo (l.drop (k + 1)) (m + (1 - c.wants)) := by
        have hb' : (decide (c.wants < 0) || decide (c.wants > m)) = false := by
          rw [Bool.or_eq_false_iff]; exact ⟨decide_eq_false h1, decide_eq_false (by omega)⟩
        simp only [rightGo, hb', cond_false]
      rw [e1, e2, wrapK (by omega)]
      exact ih (k + 1) (m + (1 - c.wants)) (by omega) (by omega) (by omega) (by omega) (by omega)
  · have : l.drop k = [] := by have := of_decide_eq_false hge; exact List.drop_eq_nil_of_le (by omega)
    have h2 := of_decide_eq_false hge
    rw [this, rightGo, show decide ((l.length : Int) > 32) = false from decide_eq_false (by omega)]; rfl



theorem ref_right_spec (l : List Cell) (v : Value) (H : Mem) (hlen : l.length ≤ 9223372036854775807) (hv : SliceH H 3 v (l.map Cell.row)) : Spec0 Try.prog 20 [v] H (.bool (rightM l)) := by
  refine Spec0.of Try.func20 (body_some (by kernel_rfl)) (by kernel_rfl) fun w0 => ?_
  rcases hv with ⟨rfl, h0⟩ | ⟨b, off, cap, rfl, _, _, hr⟩
  · have h0 : l = [] := by simpa using h0
    subst h0
    refine J.go TabOk.nil Try.func20 1000 (t := (Tree.stop [PI.code [(1 : Nat), (1 : Nat), (0 : Nat), (1 : Nat), (0 : Nat), (0 : Nat)], PI.inLoop [(1 : Nat), (1 : Nat), (0 : Nat), (1 : Nat), (0 : Nat), (0 : Nat)], PI.inBlock (0 : Nat), PI.code [(1 : Nat), (1 : Nat), (1 : Nat)]] { n := (34 : Nat), fr := [((0 : Nat), SV.c (SC.val (Value.slice none (0 : Nat) (0 : Nat)))), ((2 : Nat), SV.c (SC.val (Value.bool false))), ((3 : Nat), SV.c (SC.val (Value.int IntKind.i64 (0 : Int)))), ((4 : Nat), SV.c (SC.val (Value.int IntKind.i64 (0 : Int))))], ck := [], kn := [(2 : Nat)] })) (by kernel_rfl) ?_
    refine J.go TabOk.nil Try.func20 1000 (t := (Tree.ite false (Tree.stop [PI.ops [(1 : Nat), (1 : Nat), (0 : Nat), (1 : Nat), (0 : Nat), (0 : Nat), (1 : Nat), (0 : Nat), (0 : Nat), (0 : Nat)] (2 : Nat), PI.code [(1 : Nat), (1 : Nat), (0 : Nat), (1 : Nat), (0 : Nat), (0 : Nat), (1 : Nat), (0 : Nat), (0 : Nat), (1 : Nat)], PI.inBlock (1 : Nat), PI.code [(1 : Nat), (1 : Nat), (0 : Nat), (1 : Nat), (0 : Nat), (0 : Nat), (1 : Nat), (1 : Nat)], PI.inLoop [(1 : Nat), (1 : Nat), (0 : Nat), (1 : Nat), (0 : Nat), (0 : Nat)], PI.inBlock (0 : Nat), PI.code [(1 : Nat), (1 : Nat), (1 : Nat)]] { n := (34 : Nat), fr := [((0 : Nat), SV.c (SC.val (Value.slice none (0 : Nat) (0 : Nat)))), ((2 : Nat), SV.c (SC.val (Value.bool false))), ((3 : Nat), SV.c (SC.val (Value.int IntKind.i64 (0 : Int)))), ((4 : Nat), SV.c (SC.val (Value.int IntKind.i64 (0 : Int)))), ((12 : Nat), SV.c (SC.val (Value.slice none (0 : Nat) (0 : Nat)))), ((13 : Nat), SV.c (SC.val (Value.int IntKind.i64 (0 : Int))))], ck := [], kn := [(2 : Nat)] }) (Tree.ret (SV.c (SC.val (Value.bool false))) { n := (34 : Nat), fr := [], ck := [] }))) (by kernel_rfl) ?_
    exact ⟨(fun h => Bool.noConfusion h), fun _ => Tree.J.val rfl⟩
  · rw [List.length_map]
    refine J.go TabOk.nil Try.func20 1000 (t := (Tree.stop [PI.code [(1 : Nat), (1 : Nat), (0 : Nat), (1 : Nat), (0 : Nat), (0 : Nat)], PI.inLoop [(1 : Nat), (1 : Nat), (0 : Nat), (1 : Nat), (0 : Nat), (0 : Nat)], PI.inBlock (0 : Nat), PI.code [(1 : Nat), (1 : Nat), (1 : Nat)]] { n := (34 : Nat), fr := [((0 : Nat), SV.c (SC.val (Value.slice (some { block := b, off := off }) (List.length l) cap))), ((2 : Nat), SV.c (SC.val (Value.bool false))), ((3 : Nat), SV.c (SC.val (Value.int IntKind.i64 (0 : Int)))), ((4 : Nat), SV.c (SC.val (Value.int IntKind.i64 (0 : Int))))], ck := [], kn := [(2 : Nat)] })) (by kernel_rfl) ?_
    have h := ref_right_loop l b off cap H w0 hr hlen 33 0 0 (by omega) (by omega) (by omega) (by omega) (by omega)
    exact h

/-- how many operands a cell has: bounds -/
theorem wants_le (c : Cell) : c.wants ≤ 2 := by
  unfold Cell.wants wantsM
  simp only [cond_eq_ite]
  repeat' split
  all_goals omega
/-- one step of Begin -/
theorem begin_step (l : List Cell) (b off cap : Nat) (H : Mem) (w0 : World) (hr : RowsAt H 3 b off (l.map Cell.row)) (hl : l.length ≤ 32) {e : Nat} (he : e < l.length) (m : Int) (h1 : 1 ≤ m) (h2 : m ≤ 100) {R : Ending → World → Prop}
    (hw : 0 ≤ (l[e]).wants) (hend : m - 1 + (l[e]).wants = 0 → R0 w0 (.int .i64 (e : Int)) = R)
    (hgo : m - 1 + (l[e]).wants ≠ 0 → J Try.prog 19 (bodyOf Try.f19) R w0 H [PI.code [(1 : Nat), (1 : Nat), (1 : Nat), (0 : Nat), (0 : Nat)], PI.inLoop [(1 : Nat), (1 : Nat), (1 : Nat), (0 : Nat), (0 : Nat)], PI.inBlock (0 : Nat)] ({ n := (21 : Nat), fr := [(0, SV.c (SC.val (Value.slice (some { block := b, off := off }) (List.length l) cap))), (4, SV.c (SC.val (Value.int IntKind.i64 (0 : Int)))), (5, SV.c (SC.val (Value.int IntKind.i64 (m - 1 + (l[e]).wants)))), (6, SV.c (SC.val (Value.int IntKind.i64 ((e : Int) - 1))))], ck := [] })) :
    J Try.prog 19 (bodyOf Try.f19) R w0 H [PI.code [(1 : Nat), (1 : Nat), (1 : Nat), (0 : Nat), (0 : Nat)], PI.inLoop [(1 : Nat), (1 : Nat), (1 : Nat), (0 : Nat), (0 : Nat)], PI.inBlock (0 : Nat)] ({ n := (21 : Nat), fr := [(0, SV.c (SC.val (Value.slice (some { block := b, off := off }) (List.length l) cap))), (4, SV.c (SC.val (Value.int IntKind.i64 (0 : Int)))), (5, SV.c (SC.val (Value.int IntKind.i64 (m)))), (6, SV.c (SC.val (Value.int IntKind.i64 ((e : Int)))))], ck := [] }) := by
  have hle := wants_le l[e]
  have hck := cell_at he
  generalize l[e] = c at *
  refine J.go tabOperands_ok Try.func19 1000 (t := (Tree.need ((0 : Int) ≤ (↑e : Int) ∧ (↑e : Int) < (↑(List.length l) : Int)) (Tree.stop [PI.ops [(1 : Nat), (1 : Nat), (1 : Nat), (0 : Nat), (0 : Nat), (0 : Nat), (0 : Nat)] (5 : Nat), PI.code [(1 : Nat), (1 : Nat), (1 : Nat), (0 : Nat), (0 : Nat), (0 : Nat), (1 : Nat)], PI.inBlock (1 : Nat), PI.inLoop [(1 : Nat), (1 : Nat), (1 : Nat), (0 : Nat), (0 : Nat)], PI.inBlock (0 : Nat)] { n := (21 : Nat), fr := [((0 : Nat), SV.c (SC.val (Value.slice (some { block := b, off := off }) (List.length l) cap))), ((4 : Nat), SV.c (SC.val (Value.int IntKind.i64 (0 : Int)))), ((6 : Nat), SV.c (SC.val (Value.int IntKind.i64 (↑e : Int)))), ((9 : Nat), SV.c (SC.val (Value.int IntKind.i64 (IntKind.wrap IntKind.i64 (m - (1 : Int)))))), ((12 : Nat), SV.c (SC.val (Value.pointer (some { block := b, off := off + e * (3 : Nat) }))))], ck := [] }))) (by kernel_rfl) ?_
  refine ⟨⟨by omega, by omega⟩, ?_⟩
  have hn : (Int.toNat (e : Int)) = e := Int.toNat_natCast e
  refine J.load (dst := some 13) (b := b) (off := off + Int.toNat (e : Int) * 3) (n := 3) (g := true) (row := c.row) (by kernel_rfl) (by rw [hn]; exact rows_at hr hck) rfl rfl (by kernel_rfl) ?_
  refine J.go tabOperands_ok Try.func19 1000 (t := (Tree.ite (IntKind.wrap IntKind.i64 (IntKind.wrap IntKind.i64 (m - (1 : Int)) + wantsM (Cell.op c) (Cell.a c) (Cell.name c)) == (0 : Int)) (Tree.ret (SV.c (SC.val (Value.int IntKind.i64 (↑e : Int)))) { n := (21 : Nat), fr := [], ck := [] }) (Tree.stop [PI.code [(1 : Nat), (1 : Nat), (1 : Nat), (0 : Nat), (0 : Nat)], PI.inLoop [(1 : Nat), (1 : Nat), (1 : Nat), (0 : Nat), (0 : Nat)], PI.inBlock (0 : Nat)] { n := (21 : Nat), fr := [((0 : Nat), SV.c (SC.val (Value.slice (some { block := b, off := off }) (List.length l) cap))), ((4 : Nat), SV.c (SC.val (Value.int IntKind.i64 (0 : Int)))), ((6 : Nat), SV.c (SC.val (Value.int IntKind.i64 (IntKind.wrap IntKind.i64 ((↑e : Int) - (1 : Int)))))), ((5 : Nat), SV.c (SC.val (Value.int IntKind.i64 (IntKind.wrap IntKind.i64 (IntKind.wrap IntKind.i64 (m - (1 : Int)) + wantsM (Cell.op c) (Cell.a c) (Cell.name c))))))], ck := [] }))) (by kernel_rfl) ?_
  have hwd : wantsM c.op c.a c.name = c.wants := rfl
  rw [hwd]
  have e1 : IntKind.wrap IntKind.i64 (IntKind.wrap IntKind.i64 (m - 1) + c.wants) = m - 1 + c.wants := by
    rw [wrapI (n := m - 1) (by omega) (by omega), wrapI (by omega) (by omega)]
  rw [e1]
  refine ⟨fun h => ?_, fun h => ?_⟩
  · rw [← hend (by simpa using h)]; exact Tree.J.val rfl
  · have e2 : IntKind.wrap IntKind.i64 ((e : Int) - 1) = (e : Int) - 1 := wrapI (by omega) (by omega)
    rw [e2]
    have h' : m - 1 + c.wants ≠ 0 := by simpa using h
    refine J.sub ?_ ?_ ?_ (hgo h')
    · rfl
    · rfl
    intro q hq
    simp only [List.mem_cons, List.not_mem_nil, or_false] at hq ⊢
    rcases hq with rfl | rfl | rfl | rfl <;> simp
/-- Begin, over a tree -/
theorem begin_tm (l : List Cell) (b off cap : Nat) (H : Mem) (w0 : World) (hr : RowsAt H 3 b off (l.map Cell.row)) (hl : l.length ≤ 32) {R : Ending → World → Prop} :
    ∀ (t : Tm), t.ok → ∀ (pre post : List Cell) (m : Int), l = pre ++ t.flat ++ post → 1 ≤ m → m + (t.flat.length : Int) ≤ 100 → (m = 1 → R0 w0 (.int .i64 (pre.length : Int)) = R) →
      (m ≠ 1 → J Try.prog 19 (bodyOf Try.f19) R w0 H [PI.code [(1 : Nat), (1 : Nat), (1 : Nat), (0 : Nat), (0 : Nat)], PI.inLoop [(1 : Nat), (1 : Nat), (1 : Nat), (0 : Nat), (0 : Nat)], PI.inBlock (0 : Nat)] ({ n := (21 : Nat), fr := [(0, SV.c (SC.val (Value.slice (some { block := b, off := off }) (List.length l) cap))), (4, SV.c (SC.val (Value.int IntKind.i64 (0 : Int)))), (5, SV.c (SC.val (Value.int IntKind.i64 (m - 1)))), (6, SV.c (SC.val (Value.int IntKind.i64 ((pre.length : Int) - 1))))], ck := [] })) →
      J Try.prog 19 (bodyOf Try.f19) R w0 H [PI.code [(1 : Nat), (1 : Nat), (1 : Nat), (0 : Nat), (0 : Nat)], PI.inLoop [(1 : Nat), (1 : Nat), (1 : Nat), (0 : Nat), (0 : Nat)], PI.inBlock (0 : Nat)] ({ n := (21 : Nat), fr := [(0, SV.c (SC.val (Value.slice (some { block := b, off := off }) (List.length l) cap))), (4, SV.c (SC.val (Value.int IntKind.i64 (0 : Int)))), (5, SV.c (SC.val (Value.int IntKind.i64 (m)))), (6, SV.c (SC.val (Value.int IntKind.i64 (((pre.length : Int) + t.flat.length - 1)))))], ck := [] })
  | .leaf c, h, pre, post, m, hq, h1, h2, hend, hgo => by
    have he : pre.length < l.length := by rw [hq]; simp [Tm.flat]
    have hc : l[pre.length] = c := by
      have : l[pre.length]? = some c := by rw [hq]; simp [Tm.flat]
      rw [List.getElem?_eq_getElem he] at this; simpa using this
    have hw : c.wants = 0 := h
    have e1 : (pre.length : Int) + ((Tm.leaf c).flat.length : Int) - 1 = (pre.length : Int) := by simp [Tm.flat]
    rw [e1]
    refine begin_step l b off cap H w0 hr hl he m h1 (by omega) (by rw [hc, hw]; exact Int.le_refl _) (fun h0 => hend (by rw [hc, hw] at h0; omega)) (fun h0 => ?_)
    rw [hc, hw] at h0 ⊢
    have e2 : m - 1 + 0 = m - 1 := by omega
    rw [e2]
    exact hgo (by omega)
  | .un c t, ⟨hw, ht⟩, pre, post, m, hq, h1, h2, hend, hgo => by
    simp only [Tm.flat, List.length_append, List.length_cons, List.length_nil] at h2 ⊢
    have hq2 : l = pre ++ t.flat ++ ([c] ++ post) := by rw [hq]; simp [Tm.flat]
    have he : pre.length + t.flat.length < l.length := by rw [hq2]; simp
    have hc : l[pre.length + t.flat.length] = c := by
      have : l[pre.length + t.flat.length]? = some c := by rw [hq2, List.getElem?_append_right (by simp)]; simp
      rw [List.getElem?_eq_getElem he] at this; simpa using this
    have e1 : (pre.length : Int) + ((t.flat.length + (0 + 1) : Nat) : Int) - 1 = ((pre.length + t.flat.length : Nat) : Int) := by omega
    rw [e1]
    have htp := t.flat_pos
    refine begin_step l b off cap H w0 hr hl he m h1 (by omega) (by rw [hc, hw]; decide) (fun h0 => absurd h0 (by rw [hc, hw]; omega)) (fun _ => ?_)
    rw [hc, hw]
    have e2 : m - 1 + 1 = m := by omega
    have e3 : ((pre.length + t.flat.length : Nat) : Int) - 1 = (pre.length : Int) + t.flat.length - 1 := by omega
    rw [e2, e3]
    exact begin_tm l b off cap H w0 hr hl t ht pre ([c] ++ post) m hq2 h1 (by omega) hend hgo
  | .bin c t u, ⟨hw, ht, hu⟩, pre, post, m, hq, h1, h2, hend, hgo => by
    simp only [Tm.flat, List.length_append, List.length_cons, List.length_nil] at h2 ⊢
    have hq1 : l = pre ++ t.flat ++ (u.flat ++ [c] ++ post) := by rw [hq]; simp [Tm.flat]
    have hq2 : l = (pre ++ t.flat) ++ u.flat ++ ([c] ++ post) := by rw [hq]; simp [Tm.flat]
    have he : pre.length + t.flat.length + u.flat.length < l.length := by rw [hq2]; simp; omega
    have hc : l[pre.length + t.flat.length + u.flat.length] = c := by
      have hx : pre.length + t.flat.length + u.flat.length = (pre ++ t.flat ++ u.flat).length := by simp [Nat.add_assoc]
      have : l[pre.length + t.flat.length + u.flat.length]? = some c := by rw [hx, hq2, List.getElem?_append_right (Nat.le_refl _), Nat.sub_self]; rfl
      rw [List.getElem?_eq_getElem he] at this; simpa using this
    have e1 : (pre.length : Int) + ((t.flat.length + u.flat.length + (0 + 1) : Nat) : Int) - 1 = ((pre.length + t.flat.length + u.flat.length : Nat) : Int) := by omega
    rw [e1]
    have htp := t.flat_pos
    have hup := u.flat_pos
    refine begin_step l b off cap H w0 hr hl he m h1 (by omega) (by rw [hc, hw]; decide) (fun h0 => absurd h0 (by rw [hc, hw]; omega)) (fun _ => ?_)
    rw [hc, hw]
    have e2 : m - 1 + 2 = m + 1 := by omega
    have e3 : ((pre.length + t.flat.length + u.flat.length : Nat) : Int) - 1 = ((pre ++ t.flat).length : Int) + u.flat.length - 1 := by simp only [List.length_append]; omega
    rw [e2, e3]
    refine begin_tm l b off cap H w0 hr hl u hu (pre ++ t.flat) ([c] ++ post) (m + 1) hq2 (by omega) (by omega) (fun h0 => absurd h0 (by omega)) (fun _ => ?_)
    have e4 : m + 1 - 1 = m := by omega
    have e5 : (((pre ++ t.flat).length : Nat) : Int) - 1 = (pre.length : Int) + t.flat.length - 1 := by simp
    rw [e4, e5]
    exact begin_tm l b off cap H w0 hr hl t ht pre (u.flat ++ [c] ++ post) m hq1 h1 (by omega) hend hgo
theorem begin_spec (l : List Cell) (t : Tm) (ht : t.ok) (pre post : List Cell) (hq : l = pre ++ t.flat ++ post) (hl : l.length ≤ 32) (v : Value) (H : Mem) (hv : SliceH H 3 v (l.map Cell.row)) :
    Spec0 Try.prog 19 [v, .int .i64 ((pre.length : Int) + t.flat.length - 1)] H (.int .i64 (pre.length : Int)) := by
  refine Spec0.of Try.func19 (body_some (by kernel_rfl)) (by kernel_rfl) fun w0 => ?_
  have hpos := t.flat_pos
  have hlen : l.length = pre.length + t.flat.length + post.length := by rw [hq, List.length_append, List.length_append]
  rcases hv with ⟨rfl, h0⟩ | ⟨b, off, cap, rfl, _, _, hr⟩
  · have h0 : l = [] := by simpa using h0
    rw [h0] at hlen; simp at hlen; omega
  · rw [List.length_map]
    generalize he : (pre.length : Int) + t.flat.length - 1 = e
    refine J.go TabOk.nil Try.func19 1000 (t := (Tree.stop [PI.code [(1 : Nat), (1 : Nat), (1 : Nat), (0 : Nat), (0 : Nat)], PI.inLoop [(1 : Nat), (1 : Nat), (1 : Nat), (0 : Nat), (0 : Nat)], PI.inBlock (0 : Nat)] { n := (21 : Nat), fr := [((0 : Nat), SV.c (SC.val (Value.slice (some { block := b, off := off }) (List.length l) cap))), ((4 : Nat), SV.c (SC.val (Value.int IntKind.i64 (0 : Int)))), ((5 : Nat), SV.c (SC.val (Value.int IntKind.i64 (1 : Int)))), ((6 : Nat), SV.c (SC.val (Value.int IntKind.i64 e)))], ck := [] })) (by kernel_rfl) ?_
    rw [← he]
    exact begin_tm l b off cap H w0 hr hl t ht pre post 1 hq (by omega) (by omega) (fun _ => rfl) (fun h => absurd rfl h)
end Go.Proofs.Ytgoihhnfkoklpaa

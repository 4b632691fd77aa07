/- Contracts: the document's kinds. Conditions: none. -/
import Derived.Test.YtgoihhnfkoklpaaFnL
namespace Go.Proofs.Ytgoihhnfkoklpaa
open Go Go.Sy
set_option maxRecDepth 100000
theorem last_cell {l pre post : List Cell} {c : Cell} {front : List Cell} (hq : l = pre ++ (front ++ [c]) ++ post) : ∃ h : pre.length + front.length < l.length, l[pre.length + front.length] = c := by
  have he : pre.length + front.length < l.length := by rw [hq]; simp
  refine ⟨he, ?_⟩
  have hx : pre.length + front.length = (pre ++ front).length := by simp
  have : l[pre.length + front.length]? = some c := by
    rw [hx, hq, ← List.append_assoc, List.append_assoc, List.getElem?_append_right (Nat.le_refl _), Nat.sub_self]; rfl
  rw [List.getElem?_eq_getElem he] at this; simpa using this

theorem wants_max (c : Cell) (h : 0 ≤ c.wants) : c.op ≤ 23 := by
  unfold Cell.wants wantsM at h
  simp only [cond_eq_ite] at h
  repeat' split at h
  all_goals simp_all
  all_goals omega

/-- the first step: the cell is read -/
theorem of_enter (l : List Cell) (b off cap : Nat) (vv vs : Value) (H : Mem) (w0 : World) (hr : RowsAt H 3 b off (l.map Cell.row)) {e : Nat} (he : e < l.length) {R : Ending → World → Prop}
    (hk : ∀ c, l[e] = c → Tree.J Try.prog 31 (bodyOf Try.f31) R w0 H (Tree.ite (wantsM (Cell.op c) (Cell.a c) (Cell.name c) == (0 : Int)) (Tree.stop [PI.ops [(1 : Nat), (1 : Nat), (0 : Nat), (1 : Nat), (0 : Nat), (1 : Nat), (0 : Nat), (0 : Nat)] (3 : Nat), PI.code [(1 : Nat), (1 : Nat), (0 : Nat), (1 : Nat), (0 : Nat), (1 : Nat), (0 : Nat), (1 : Nat)], PI.inBlock (0 : Nat), PI.code [(1 : Nat), (1 : Nat), (1 : Nat)]] { n := (107 : Nat), fr := [((0 : Nat), SV.c (SC.val (Value.slice (some { block := b, off := off }) (List.length l) cap))), ((1 : Nat), SV.c (SC.val (Value.int IntKind.i64 (↑e : Int)))), ((2 : Nat), SV.c (SC.val vv)), ((3 : Nat), SV.c (SC.val vs)), ((8 : Nat), SV.c (SC.val (Value.int IntKind.i64 (0 : Int)))), ((9 : Nat), SV.c (SC.val (Value.int IntKind.i64 (0 : Int)))), ((10 : Nat), SV.c (SC.loc (0 : Nat) (0 : Nat))), ((25 : Nat), SV.agg [SC.val (Value.int IntKind.i64 (Cell.op c)), SC.val (Value.int IntKind.i64 (Cell.a c)), SC.val (Value.string (bs (Cell.name c)))]), ((26 : Nat), SV.c (SC.val vv)), ((27 : Nat), SV.c (SC.val vs))], ck := [Chunk.cells [SC.val (Value.int IntKind.i64 (Cell.op c)), SC.val (Value.int IntKind.i64 (Cell.a c)), SC.val (Value.string (bs (Cell.name c)))] (38 : Nat)] }) (Tree.ite (wantsM (Cell.op c) (Cell.a c) (Cell.name c) == (1 : Int)) (Tree.stop [PI.ops [(1 : Nat), (1 : Nat), (0 : Nat), (1 : Nat), (0 : Nat), (1 : Nat), (1 : Nat), (1 : Nat), (0 : Nat), (0 : Nat)] (5 : Nat), PI.code [(1 : Nat), (1 : Nat), (0 : Nat), (1 : Nat), (0 : Nat), (1 : Nat), (1 : Nat), (1 : Nat), (0 : Nat), (1 : Nat)], PI.inBlock (0 : Nat), PI.code [(1 : Nat), (1 : Nat), (1 : Nat)]] { n := (107 : Nat), fr := [((0 : Nat), SV.c (SC.val (Value.slice (some { block := b, off := off }) (List.length l) cap))), ((1 : Nat), SV.c (SC.val (Value.int IntKind.i64 (↑e : Int)))), ((2 : Nat), SV.c (SC.val vv)), ((3 : Nat), SV.c (SC.val vs)), ((8 : Nat), SV.c (SC.val (Value.int IntKind.i64 (0 : Int)))), ((9 : Nat), SV.c (SC.val (Value.int IntKind.i64 (0 : Int)))), ((10 : Nat), SV.c (SC.loc (0 : Nat) (0 : Nat))), ((34 : Nat), SV.c (SC.val (Value.slice (some { block := b, off := off }) (List.length l) cap))), ((36 : Nat), SV.c (SC.val (Value.int IntKind.i64 (IntKind.wrap IntKind.i64 ((↑e : Int) - (1 : Int)))))), ((37 : Nat), SV.c (SC.val vv)), ((38 : Nat), SV.c (SC.val vs))], ck := [Chunk.cells [SC.val (Value.int IntKind.i64 (Cell.op c)), SC.val (Value.int IntKind.i64 (Cell.a c)), SC.val (Value.string (bs (Cell.name c)))] (38 : Nat)] }) (Tree.stop [PI.ops [(1 : Nat), (1 : Nat), (1 : Nat), (0 : Nat)] (4 : Nat), PI.code [(1 : Nat), (1 : Nat), (1 : Nat), (1 : Nat)]] { n := (107 : Nat), fr := [((0 : Nat), SV.c (SC.val (Value.slice (some { block := b, off := off }) (List.length l) cap))), ((1 : Nat), SV.c (SC.val (Value.int IntKind.i64 (↑e : Int)))), ((2 : Nat), SV.c (SC.val vv)), ((3 : Nat), SV.c (SC.val vs)), ((8 : Nat), SV.c (SC.val (Value.int IntKind.i64 (0 : Int)))), ((9 : Nat), SV.c (SC.val (Value.int IntKind.i64 (0 : Int)))), ((10 : Nat), SV.c (SC.loc (0 : Nat) (0 : Nat))), ((72 : Nat), SV.c (SC.val (Value.slice (some { block := b, off := off }) (List.length l) cap))), ((73 : Nat), SV.c (SC.val (Value.slice (some { block := b, off := off }) (List.length l) cap))), ((75 : Nat), SV.c (SC.val (Value.int IntKind.i64 (IntKind.wrap IntKind.i64 ((↑e : Int) - (1 : Int))))))], ck := [Chunk.cells [SC.val (Value.int IntKind.i64 (Cell.op c)), SC.val (Value.int IntKind.i64 (Cell.a c)), SC.val (Value.string (bs (Cell.name c)))] (38 : Nat)] })))) :
    J Try.prog 31 (bodyOf Try.f31) R w0 H [.code []] (initST Try.f31.ntmps [.slice (some ⟨b, off, none⟩) l.length cap, .int .i64 (e : Int), vv, vs]) := by
  have hck := cell_at he
  refine J.go TabOk.nil Try.func31 1000 (t := (Tree.need ((0 : Int) ≤ (↑e : Int) ∧ (↑e : Int) < (↑(List.length l) : Int)) (Tree.stop [PI.ops [(1 : Nat), (0 : Nat)] (3 : Nat), PI.code [(1 : Nat), (1 : Nat)]] { n := (107 : Nat), fr := [((0 : Nat), SV.c (SC.val (Value.slice (some { block := b, off := off }) (List.length l) cap))), ((1 : Nat), SV.c (SC.val (Value.int IntKind.i64 (↑e : Int)))), ((2 : Nat), SV.c (SC.val vv)), ((3 : Nat), SV.c (SC.val vs)), ((8 : Nat), SV.c (SC.val (Value.int IntKind.i64 (0 : Int)))), ((9 : Nat), SV.c (SC.val (Value.int IntKind.i64 (0 : Int)))), ((19 : Nat), SV.c (SC.val (Value.pointer (some { block := b, off := off + e * (3 : Nat) }))))], ck := [] }))) (by kernel_rfl) ?_
  refine ⟨⟨by omega, by omega⟩, ?_⟩
  have hk := hk l[e] rfl
  generalize l[e] = c at *
  have hn : (Int.toNat (e : Int)) = e := Int.toNat_natCast e
  refine J.load (dst := some 20) (b := b) (off := off + Int.toNat (e : Int) * 3) (n := 3) (g := true) (row := c.row) (by kernel_rfl) (by rw [hn]; exact rows_at hr hck) rfl rfl (by kernel_rfl) ?_
  exact J.go tabJoined_ok Try.func31 1000 (by kernel_rfl) hk
theorem ref_of_tm (l : List Cell) (vars : List Var) (states : List (List UInt8)) (b off cap : Nat) (vv vs : Value) (H : Mem) (hl : l.length ≤ 32) (hr : RowsAt H 3 b off (l.map Cell.row)) (hcap : (l.map Cell.row).length ≤ cap) (hcm : cap ≤ maxLen)
    (hlv : vars.length ≤ 9223372036854775807) (hls : states.length ≤ 9223372036854775807) (hv : SliceH H 7 vv (vars.map Var.row)) (hs : SliceH H 1 vs (states.map strRow)) :
    ∀ (t : Tm), t.ok → ∀ (pre post : List Cell), l = pre ++ t.flat ++ post →
      Spec0 Try.prog 31 [.slice (some ⟨b, off, none⟩) l.length cap, .int .i64 ((pre.length : Int) + t.flat.length - 1), vv, vs] H (kindV (t.kind vars states))
  | .leaf c, h, pre, post, hq => by
    refine Spec0.of Try.func31 (body_some (by kernel_rfl)) (by kernel_rfl) fun w0 => ?_
    obtain ⟨he, hc⟩ := last_cell (front := []) (pre := pre) (post := post) (c := c) (l := l) (by rw [hq]; simp [Tm.flat])
    have e1 : (pre.length : Int) + ((Tm.leaf c).flat.length : Int) - 1 = ((pre.length + ([] : List Cell).length : Nat) : Int) := by simp [Tm.flat]
    rw [e1]
    refine of_enter l b off cap vv vs H w0 hr he fun c' hc' => ?_
    have : c = c' := by rw [← hc', hc]
    subst this
    have hw : wantsM c.op c.a c.name = 0 := h
    rw [hw]
    generalize pre.length + ([] : List Cell).length = e
    refine ⟨fun _ => ?_, fun h => Bool.noConfusion h⟩
    refine J.call0 (dst := some 28) (g := 42) (vs := [.agg c.row.toArray, vv, vs]) (by kernel_rfl) (by kernel_rfl) (ref_leaf_spec c vars states vv vs H hlv hls hv hs) (by kernel_rfl) ?_
    unfold leafV
    simp only [Tm.kind]
    generalize (leafM c vars states) = kf
    obtain ⟨k1, k2⟩ := kf
    refine J.go tabJoined_ok Try.func31 1000 (t := (Tree.ret (SV.c (SC.val (Value.tuple #[Value.int IntKind.i64 k1, Value.int IntKind.i64 k2]))) { n := (107 : Nat), fr := [], ck := [] })) (by kernel_rfl) ?_
    exact Tree.J.val rfl
  | .un c t, ⟨hw, ht⟩, pre, post, hq => by
    refine Spec0.of Try.func31 (body_some (by kernel_rfl)) (by kernel_rfl) fun w0 => ?_
    obtain ⟨he, hc⟩ := last_cell (front := t.flat) (pre := pre) (post := post) (c := c) (l := l) hq
    have e1 : (pre.length : Int) + ((Tm.un c t).flat.length : Int) - 1 = ((pre.length + t.flat.length : Nat) : Int) := by simp only [Tm.flat, List.length_append, List.length_cons, List.length_nil]; omega
    rw [e1]
    refine of_enter l b off cap vv vs H w0 hr he fun c' hc' => ?_
    have : c = c' := by rw [← hc', hc]
    subst this
    have hop := wants_op c (by omega)
    have hw : wantsM c.op c.a c.name = 1 := hw
    have hw' : c.wants = 1 := hw
    rw [hw]
    have e2 : IntKind.wrap .i64 (((pre.length + t.flat.length : Nat) : Int) - 1) = (pre.length : Int) + t.flat.length - 1 := by
      have := t.flat_pos
      rw [wrapI (by omega) (by omega)]; omega
    have ih := ref_of_tm l vars states b off cap vv vs H hl hr hcap hcm hlv hls hv hs t ht pre ([c] ++ post) (by rw [hq]; simp [Tm.flat])
    rw [← e2] at ih
    generalize pre.length + t.flat.length = e at *
    refine ⟨(fun h => Bool.noConfusion h), fun _ => ⟨fun _ => ?_, fun h => Bool.noConfusion h⟩⟩
    refine J.call0 (dst := some 39) (g := 31) (vs := [.slice (some ⟨b, off, none⟩) l.length cap, .int .i64 (IntKind.wrap .i64 ((e : Int) - 1)), vv, vs]) (by kernel_rfl) (by kernel_rfl) ih (by kernel_rfl) ?_
    simp only [Tm.kind]
    have hone := t.kind_one vars states
    generalize t.kind vars states = kf at *
    obtain ⟨k1, k2⟩ := kf
    unfold kindV
    refine J.go tabJoined_ok Try.func31 1000 (t := (Tree.ite (k2 != (0 : Int)) (Tree.ret (SV.c (SC.val (Value.tuple #[Value.int IntKind.i64 (0 : Int), Value.int IntKind.i64 k2]))) { n := (107 : Nat), fr := [], ck := [] }) (Tree.ite (Cell.op c == (7 : Int) && k1 != (2 : Int)) (Tree.ret (SV.c (SC.val (Value.tuple #[Value.int IntKind.i64 k1, Value.int IntKind.i64 (0 : Int)]))) { n := (107 : Nat), fr := [], ck := [] }) (Tree.ite (Cell.op c == (8 : Int) && k1 == (2 : Int)) (Tree.ret (SV.c (SC.val (Value.tuple #[Value.int IntKind.i64 k1, Value.int IntKind.i64 (0 : Int)]))) { n := (107 : Nat), fr := [], ck := [] }) (Tree.ite (decide (Cell.op c > (8 : Int)) && k1 == (3 : Int)) (Tree.ret (SV.c (SC.val (Value.tuple #[Value.int IntKind.i64 (1 : Int), Value.int IntKind.i64 (0 : Int)]))) { n := (107 : Nat), fr := [], ck := [] }) (Tree.ret (SV.c (SC.val (Value.tuple #[Value.int IntKind.i64 (0 : Int), Value.int IntKind.i64 (8 : Int)]))) { n := (107 : Nat), fr := [], ck := [] })))))) (by kernel_rfl) ?_
    refine ⟨fun h => Tree.J.val ?_, fun h => ?_⟩
    · simp only [h, cond_true]
    · have h0 : k2 = 0 := by simpa using h
      have hk := hone.1 h0
      have hu := un_ref c.op k1 (by omega) (by omega) hk.1 hk.2
      simp only [h, cond_false, ← hu]
      refine ⟨fun q1 => Tree.J.val ?_, fun q1 => ⟨fun q2 => Tree.J.val ?_, fun q2 => ⟨fun q3 => Tree.J.val ?_, fun q3 => Tree.J.val ?_⟩⟩⟩ <;> simp only [unRef, *, cond_true, cond_false]
  | .bin c t u, ⟨hw, ht, hu⟩, pre, post, hq => by
    refine Spec0.of Try.func31 (body_some (by kernel_rfl)) (by kernel_rfl) fun w0 => ?_
    obtain ⟨he, hc⟩ := last_cell (front := t.flat ++ u.flat) (pre := pre) (post := post) (c := c) (l := l) hq
    have e1 : (pre.length : Int) + ((Tm.bin c t u).flat.length : Int) - 1 = ((pre.length + (t.flat ++ u.flat).length : Nat) : Int) := by simp only [Tm.flat, List.length_append, List.length_cons, List.length_nil]; omega
    rw [e1]
    refine of_enter l b off cap vv vs H w0 hr he fun c' hc' => ?_
    have : c = c' := by rw [← hc', hc]
    subst this
    have hop := wants_op c (by omega)
    have hw : wantsM c.op c.a c.name = 2 := hw
    have hw' : c.wants = 2 := hw
    rw [hw]
    have htp := t.flat_pos
    have hup := u.flat_pos
    have hq1 : l = pre ++ t.flat ++ (u.flat ++ [c] ++ post) := by rw [hq]; simp [Tm.flat]
    have hq2 : l = (pre ++ t.flat) ++ u.flat ++ ([c] ++ post) := by rw [hq]; simp [Tm.flat]
    have e2 : IntKind.wrap .i64 (((pre.length + (t.flat ++ u.flat).length : Nat) : Int) - 1) = ((pre ++ t.flat).length : Int) + u.flat.length - 1 := by
      simp only [List.length_append] at he ⊢
      rw [wrapI (by omega) (by omega)]; omega
    have e3 : IntKind.wrap .i64 (((pre ++ t.flat).length : Int) - 1) = (pre.length : Int) + t.flat.length - 1 := by
      simp only [List.length_append] at he ⊢
      rw [wrapI (by omega) (by omega)]; omega
    have ih1 := ref_of_tm l vars states b off cap vv vs H hl hr hcap hcm hlv hls hv hs t ht pre (u.flat ++ [c] ++ post) hq1
    have ih2 := ref_of_tm l vars states b off cap vv vs H hl hr hcap hcm hlv hls hv hs u hu (pre ++ t.flat) ([c] ++ post) hq2
    have hbeg := begin_spec l u hu (pre ++ t.flat) ([c] ++ post) hq2 hl (.slice (some ⟨b, off, none⟩) l.length cap) H (.inr ⟨b, off, cap, by rw [List.length_map], hcap, hcm, hr⟩)
    rw [← e3] at ih1
    rw [← e2] at ih2 hbeg
    generalize pre.length + (t.flat ++ u.flat).length = e at *
    generalize (pre ++ t.flat).length = x at *
    refine ⟨(fun h => Bool.noConfusion h), fun _ => ⟨(fun h => Bool.noConfusion h), fun _ => ?_⟩⟩
    refine J.call0 (dst := some 76) (g := 19) (vs := [.slice (some ⟨b, off, none⟩) l.length cap, .int .i64 (IntKind.wrap .i64 ((e : Int) - 1))]) (by kernel_rfl) (by kernel_rfl) hbeg (by kernel_rfl) ?_
    refine J.go tabJoined_ok Try.func31 1000 (t := (Tree.stop [PI.ops [(1 : Nat), (1 : Nat), (1 : Nat), (0 : Nat)] (8 : Nat), PI.code [(1 : Nat), (1 : Nat), (1 : Nat), (1 : Nat)]] { n := (107 : Nat), fr := [((0 : Nat), SV.c (SC.val (Value.slice (some { block := b, off := off }) (List.length l) cap))), ((1 : Nat), SV.c (SC.val (Value.int IntKind.i64 (↑e : Int)))), ((2 : Nat), SV.c (SC.val vv)), ((3 : Nat), SV.c (SC.val vs)), ((8 : Nat), SV.c (SC.val (Value.int IntKind.i64 (0 : Int)))), ((9 : Nat), SV.c (SC.val (Value.int IntKind.i64 (0 : Int)))), ((10 : Nat), SV.c (SC.loc (0 : Nat) (0 : Nat))), ((72 : Nat), SV.c (SC.val (Value.slice (some { block := b, off := off }) (List.length l) cap))), ((77 : Nat), SV.c (SC.val (Value.int IntKind.i64 (IntKind.wrap IntKind.i64 ((↑x : Int) - (1 : Int)))))), ((78 : Nat), SV.c (SC.val vv)), ((79 : Nat), SV.c (SC.val vs))], ck := [Chunk.cells [SC.val (Value.int IntKind.i64 (Cell.op c)), SC.val (Value.int IntKind.i64 (Cell.a c)), SC.val (Value.string (bs (Cell.name c)))] (38 : Nat)] })) (by kernel_rfl) ?_
    refine J.call0 (dst := some 80) (g := 31) (vs := [.slice (some ⟨b, off, none⟩) l.length cap, .int .i64 (IntKind.wrap .i64 ((x : Int) - 1)), vv, vs]) (by kernel_rfl) (by kernel_rfl) ih1 (by kernel_rfl) ?_
    simp only [Tm.kind]
    have hone := t.kind_one vars states
    generalize t.kind vars states = kf at *
    obtain ⟨k1, k2⟩ := kf
    unfold kindV at *
    refine J.go tabJoined_ok Try.func31 1000 (t := (Tree.ite (k2 != (0 : Int)) (Tree.ret (SV.c (SC.val (Value.tuple #[Value.int IntKind.i64 (0 : Int), Value.int IntKind.i64 k2]))) { n := (107 : Nat), fr := [], ck := [] }) (Tree.stop [PI.ops [(1 : Nat), (1 : Nat), (1 : Nat), (1 : Nat), (1 : Nat), (0 : Nat)] (5 : Nat), PI.code [(1 : Nat), (1 : Nat), (1 : Nat), (1 : Nat), (1 : Nat), (1 : Nat)]] { n := (107 : Nat), fr := [((8 : Nat), SV.c (SC.val (Value.int IntKind.i64 (0 : Int)))), ((9 : Nat), SV.c (SC.val (Value.int IntKind.i64 (0 : Int)))), ((10 : Nat), SV.c (SC.loc (0 : Nat) (0 : Nat))), ((13 : Nat), SV.c (SC.val (Value.int IntKind.i64 k1))), ((87 : Nat), SV.c (SC.val (Value.slice (some { block := b, off := off }) (List.length l) cap))), ((89 : Nat), SV.c (SC.val (Value.int IntKind.i64 (IntKind.wrap IntKind.i64 ((↑e : Int) - (1 : Int)))))), ((90 : Nat), SV.c (SC.val vv)), ((91 : Nat), SV.c (SC.val vs))], ck := [Chunk.cells [SC.val (Value.int IntKind.i64 (Cell.op c)), SC.val (Value.int IntKind.i64 (Cell.a c)), SC.val (Value.string (bs (Cell.name c)))] (38 : Nat)] }))) (by kernel_rfl) ?_
    refine ⟨fun h => Tree.J.val ?_, fun h => ?_⟩
    · simp only [h, cond_true]
    · have h0 : k2 = 0 := by simpa using h
      have hk := hone.1 h0
      simp only [h, cond_false]
      refine J.call0 (dst := some 92) (g := 31) (vs := [.slice (some ⟨b, off, none⟩) l.length cap, .int .i64 (IntKind.wrap .i64 ((e : Int) - 1)), vv, vs]) (by kernel_rfl) (by kernel_rfl) ih2 (by kernel_rfl) ?_
      have hone2 := u.kind_one vars states
      generalize u.kind vars states = kf at *
      obtain ⟨k3, k4⟩ := kf
      refine J.go tabJoined_ok Try.func31 1000 (t := (Tree.ite (k4 != (0 : Int)) (Tree.ret (SV.c (SC.val (Value.tuple #[Value.int IntKind.i64 (0 : Int), Value.int IntKind.i64 k4]))) { n := (107 : Nat), fr := [], ck := [] }) (Tree.ite (k1 != k3) (Tree.ret (SV.c (SC.val (Value.tuple #[Value.int IntKind.i64 (0 : Int), Value.int IntKind.i64 (8 : Int)]))) { n := (107 : Nat), fr := [], ck := [] }) (Tree.ret (SV.c (SC.val (Value.tuple #[Value.int IntKind.i64 (Prod.fst (joinedM (Cell.op c) k1)), Value.int IntKind.i64 (Prod.snd (joinedM (Cell.op c) k1))]))) { n := (107 : Nat), fr := [], ck := [] })))) (by kernel_rfl) ?_
      refine ⟨fun h3 => Tree.J.val ?_, fun h3 => ?_⟩
      · simp only [h3, cond_true]
      · have h0' : k4 = 0 := by simpa using h3
        have hk2 := hone2.1 h0'
        have hop' : c.op ≤ 23 := wants_max c (by omega)
        have hb := bin_ref c.op k1 k3 (by omega) hop' hk.1 hk.2 hk2.1 hk2.2
        simp only [h3, cond_false, ← hb]
        refine ⟨fun q1 => Tree.J.val ?_, fun q1 => Tree.J.val ?_⟩ <;> simp only [binRef, q1, cond_true, cond_false]

end Go.Proofs.Ytgoihhnfkoklpaa

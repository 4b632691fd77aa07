/- Contracts: the document's kinds, whole. Conditions: none. -/
import Derived.Test.YtgoihhnfkoklpaaFnM
namespace Go.Proofs.Ytgoihhnfkoklpaa
open Go Go.Sy
set_option maxRecDepth 100000
theorem ref_kinds_spec (l : List Cell) (vars : List Var) (states : List (List UInt8)) (v vv vs : Value) (H : Mem) (hlen : l.length ≤ 9223372036854775807) (hv : SliceH H 3 v (l.map Cell.row)) (hlv : vars.length ≤ 9223372036854775807) (hls : states.length ≤ 9223372036854775807)
    (hvv : SliceH H 7 vv (vars.map Var.row)) (hvs : SliceH H 1 vs (states.map strRow)) : Spec0 Try.prog 16 [v, vv, vs] H (kindV (kindsM l vars states)) := by
  refine Spec0.of Try.func16 (body_some (by kernel_rfl)) (by kernel_rfl) fun w0 => ?_
  refine J.go TabOk.nil Try.func16 1000 (t := (Tree.stop [PI.ops [(1 : Nat), (0 : Nat), (0 : Nat)] (1 : Nat), PI.code [(1 : Nat), (0 : Nat), (1 : Nat)], PI.code [(1 : Nat), (1 : Nat)]] { n := (20 : Nat), fr := [((0 : Nat), SV.c (SC.val v)), ((1 : Nat), SV.c (SC.val vv)), ((2 : Nat), SV.c (SC.val vs)), ((6 : Nat), SV.c (SC.val (Value.int IntKind.i64 (0 : Int)))), ((7 : Nat), SV.c (SC.val (Value.int IntKind.i64 (0 : Int)))), ((8 : Nat), SV.c (SC.val v))], ck := [] })) (by kernel_rfl) ?_
  refine J.call0 (dst := some 9) (g := 20) (vs := [v]) (by kernel_rfl) (by kernel_rfl) (ref_right_spec l v H hlen hv) (by kernel_rfl) ?_
  rcases hv with ⟨rfl, h0⟩ | ⟨b, off, cap, rfl, hcap, hcm, hr⟩
  · have h0 : l = [] := by simpa using h0
    subst h0
    refine J.go TabOk.nil Try.func16 1000 (t := (Tree.ite true (Tree.ret (SV.c (SC.val (Value.tuple #[Value.int IntKind.i64 (0 : Int), Value.int IntKind.i64 (1 : Int)]))) { n := (20 : Nat), fr := [], ck := [] }) (Tree.stop [PI.ops [(1 : Nat), (1 : Nat), (0 : Nat)] (6 : Nat), PI.code [(1 : Nat), (1 : Nat), (1 : Nat)]] { n := (20 : Nat), fr := [((6 : Nat), SV.c (SC.val (Value.int IntKind.i64 (0 : Int)))), ((7 : Nat), SV.c (SC.val (Value.int IntKind.i64 (0 : Int)))), ((11 : Nat), SV.c (SC.val (Value.slice none (0 : Nat) (0 : Nat)))), ((14 : Nat), SV.c (SC.val (Value.int IntKind.i64 (IntKind.wrap IntKind.i64 ((↑(0 : Nat) : Int) - (1 : Int)))))), ((15 : Nat), SV.c (SC.val vv)), ((16 : Nat), SV.c (SC.val vs))], ck := [] }))) (by kernel_rfl) ?_
    exact ⟨fun _ => Tree.J.val rfl, fun h => Bool.noConfusion h⟩
  · rw [List.length_map] at *
    refine J.go TabOk.nil Try.func16 1000 (t := (Tree.ite (!rightM l) (Tree.ret (SV.c (SC.val (Value.tuple #[Value.int IntKind.i64 (0 : Int), Value.int IntKind.i64 (1 : Int)]))) { n := (20 : Nat), fr := [], ck := [] }) (Tree.stop [PI.ops [(1 : Nat), (1 : Nat), (0 : Nat)] (6 : Nat), PI.code [(1 : Nat), (1 : Nat), (1 : Nat)]] { n := (20 : Nat), fr := [((6 : Nat), SV.c (SC.val (Value.int IntKind.i64 (0 : Int)))), ((7 : Nat), SV.c (SC.val (Value.int IntKind.i64 (0 : Int)))), ((11 : Nat), SV.c (SC.val (Value.slice (some { block := b, off := off }) (List.length l) cap))), ((14 : Nat), SV.c (SC.val (Value.int IntKind.i64 (IntKind.wrap IntKind.i64 ((↑(List.length l) : Int) - (1 : Int)))))), ((15 : Nat), SV.c (SC.val vv)), ((16 : Nat), SV.c (SC.val vs))], ck := [] }))) (by kernel_rfl) ?_
    refine ⟨fun h => Tree.J.val ?_, fun h => ?_⟩
    · simp [kindsM, h, kindV]
    · have h' : rightM l = true := by simpa using h
      obtain ⟨h32, t, ht, hq⟩ := right_tm h'
      have hk : kindsM l vars states = t.kind vars states := by rw [← hq]; exact kinds_flat vars states ht (by rw [hq]; exact h32)
      have htp := t.flat_pos
      have ih := ref_of_tm l vars states b off cap vv vs H h32 hr (by rw [List.length_map]; exact hcap) hcm hlv hls hvv hvs t ht [] [] (by rw [List.nil_append, List.append_nil, hq])
      have e : ((([] : List Cell).length : Nat) : Int) + t.flat.length - 1 = IntKind.wrap .i64 ((l.length : Int) - 1) := by
        rw [hq] at htp ⊢
        rw [wrapI (by omega) (by omega)]; simp
      rw [e] at ih
      rw [hk]
      refine J.call0 (dst := some 17) (g := 31) (vs := [.slice (some ⟨b, off, none⟩) l.length cap, .int .i64 (IntKind.wrap .i64 ((l.length : Int) - 1)), vv, vs]) (by kernel_rfl) (by kernel_rfl) ih (by kernel_rfl) ?_
      generalize t.kind vars states = kf at *
      obtain ⟨k1, k2⟩ := kf
      refine J.go TabOk.nil Try.func16 1000 (t := (Tree.ret (SV.c (SC.val (Value.tuple #[Value.int IntKind.i64 k1, Value.int IntKind.i64 k2]))) { n := (20 : Nat), fr := [], ck := [] })) (by kernel_rfl) ?_
      exact Tree.J.val rfl
end Go.Proofs.Ytgoihhnfkoklpaa

/- The law KindsMore, whole, where what it reads is of bulk at most 1048576. Conditions: that bound. -/
import Derived.Test.YtgoihhnfkoklpaaRows
import Derived.Test.YtgoihhnfkoklpaaHn
import Derived.Test.YtgoihhnfkoklpaaGe
import Derived.JoinedCond
import Derived.Deep.CondSized
namespace Go.Proofs.Ytgoihhnfkoklpaa
open Go Go.Ev Go.RowKit Go.ChangeShapes Go.WideShapes
set_option maxRecDepth 100000
theorem kindsMore_lifted (os : Os) (started : os.Started) (H : Type) (enc : TypeId × Value → H) (F : Stop.Interp) :
    ReturnsInHanded {} Try.checked os 4 .any ((Rows.OpenSpec.upto Rows.kindsMoreSpec).pre6 enc Try.prog Try.f4 Rows.kindsMoreUptoRow.domain false) (((Rows.OpenSpec.upto Rows.kindsMoreSpec).at F).post enc Try.prog Try.f4 false true false false) := by
  refine returnsInHanded_of_cond_sized (C := Try.checked) (s := Rows.OpenSpec.upto Rows.kindsMoreSpec) (k := Rows.uptoSmall) rfl own started (by kernel_rfl) Try.func4
    (OpenSpec.witness (enc := enc) (C := Try.checked) (s := Rows.OpenSpec.upto Rows.kindsMoreSpec) (k := Rows.uptoSmall) rfl false ⟨#[], #[.slice none 0 0, .agg #[.slice none 0 0, .slice none 0 0], .agg #[.slice none 0 0, .slice none 0 0]], []⟩ 8 (by kernel_rfl) (by kernel_rfl) (by kernel_rfl)
      (x := ([.nil, .agg [.nil, .nil], .agg [.nil, .nil]], [], [])) (by kernel_rfl) rfl (by kernel_rfl)) ?_
  intro W base args ds gs before hval0 hW _ hk0 hsz0 _
  have hval : ∀ (j : Nat) t v, Try.f4.params[j]? = some t → args[j]? = some v → Value.okWide Try.prog W .any base t v := hval0
  have hW' := hW
  obtain ⟨p, q, hA0, hV, rfl, hfz, hnd⟩ := hW
  have hA : DataW.TrodAll enc Try.prog W 0 (fun _ => true) true Try.f4.params.toList args.toList ds p := hA0
  have hsz : (DataW.weightsEach Try.prog (Try.f4.params.toList ++ Rows.kindsMoreSpec.plain.varTypes Try.prog) (ds ++ gs)).all (· ≤ reachBytes) = true := hsz0
  obtain ⟨rfl, rfl⟩ := trodVars_none hV
  rw [Try.params4] at hA hval hsz
  obtain ⟨args⟩ := args
  have hA1 : DataW.TrodAll enc Try.prog W 0 (fun _ => true) true [22, 26, 26] args ds p := hA
  clear hA
  obtain ⟨v0, w0, d0, e0, p0, q0, ea0, ed0, ep0, h0, hB0⟩ := trodAll_cons hA1
  subst ea0; subst ed0; subst ep0
  obtain ⟨v1, w1, d1, e1, p1, q1, ea1, ed1, ep1, h1, hB1⟩ := trodAll_cons hB0
  subst ea1; subst ed1; subst ep1
  obtain ⟨v2, w2, d2, e2, p2, q2, ea2, ed2, ep2, h2, hB2⟩ := trodAll_cons hB1
  subst ea2; subst ed2; subst ep2
  obtain ⟨ea, ed, ep⟩ := trodAll_nil hB2
  subst ea; subst ed; subst ep
  obtain ⟨l0, s0, _, b0⟩ := cells22 h0 (hval 0 22 v0 rfl rfl)
  obtain ⟨vs1, ss1, s1, _, _⟩ := scope26 h1 (hval 1 26 v1 rfl rfl)
  obtain ⟨vs2, ss2, s2, _, _⟩ := scope26 h2 (hval 2 26 v2 rfl rfl)
  have hsz' : (d0.weights Try.prog 22 ++ (d1.weights Try.prog 26 ++ (d2.weights Try.prog 26 ++ []))).all (· ≤ reachBytes) = true := by
    simpa [DataW.weightsEach] using hsz
  simp only [List.all_append, List.append_nil, Bool.and_eq_true] at hsz'
  obtain ⟨c0, c1, c2⟩ := hsz'
  have r0 : room l0.length 32 := ⟨b0 c0, by have := b0 c0; unfold maxLen; omega⟩
  have hk : Rows.uptoBulkAll [d0, d1, d2] ≤ 1048576 := of_decide_eq_true (by simpa [Rows.uptoSmall] using hk0)
  have q1 := scope_bulk h1 s1
  have q2 := scope_bulk h2 s2
  simp only [Rows.uptoBulkAll] at hk
  have r1 : room (vs1 ++ vs2).length 64 := by unfold room maxLen; rw [List.length_append]; omega
  have r2 : room (ss1 ++ ss2).length 16 := by unfold room maxLen; rw [List.length_append]; omega
  refine ((more_spec l0 vs1 vs2 ss1 ss2 r0 r1 r2).law (W := W) (vs := [v0, v1, v2]) (.cons s0 (.cons s1 (.cons s2 .nil)))).mono fun e W' ⟨he, hb⟩ => ?_
  exact ⟨_, he, law_post (tb := 4) laidOut (by kernel_rfl) (by kernel_rfl) Try.underlying4 rfl ⟨rfl, rfl, rfl⟩ (by rw [Try.params4]; intro t ht; simp at ht; rcases ht with rfl | rfl <;> exact ⟨by kernel_rfl, of_decide_eq_true (by kernel_rfl)⟩) hW' hb⟩
theorem kindsMore_holds : Rows.KindsMoreUptoSaid :=
  OpenClaim.holds_of_cond 4 Try.f4 rfl rfl rfl rfl rfl rfl rfl ⟨rfl, rfl, rfl, rfl, rfl⟩ rfl rfl rfl rfl rfl (by kernel_rfl) Try.func4 (by kernel_rfl)
    (of_decide_eq_true (by kernel_rfl)) (by unfold Func.isWrapper; first | (rw [if_pos (by decide +kernel)]; kernel_rfl) | (rw [if_neg (by decide +kernel)]; exact ⟨rfl, rfl⟩))
    (fun os started H enc _ F => kindsMore_lifted os started H enc F)
#print axioms kindsMore_holds
end Go.Proofs.Ytgoihhnfkoklpaa

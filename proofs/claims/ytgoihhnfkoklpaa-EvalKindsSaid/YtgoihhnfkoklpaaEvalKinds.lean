/- The law EvalKinds, whole. Conditions: none. -/
import Derived.Test.YtgoihhnfkoklpaaRows
import Derived.Test.YtgoihhnfkoklpaaHm
import Derived.Test.YtgoihhnfkoklpaaGd
namespace Go.Proofs.Ytgoihhnfkoklpaa
open Go Go.Ev Go.RowKit Go.ChangeShapes Go.WideShapes
set_option maxRecDepth 100000
theorem evalKinds_lifted (os : Os) (started : os.Started) (H : Type) (enc : TypeId × Value → H) :
    ReturnsInHanded {} Try.checked os 10 .any (Rows.evalKindsSpec.pre6 enc Try.prog Try.f10 Rows.evalKindsRow.domain false) (Rows.evalKindsSpec.post enc Try.prog Try.f10 false true false false) := by
  refine returnsInHanded_of_change_sized (C := Try.checked) own started (by kernel_rfl) Try.func10
    (ChangeSpec.witness6 (enc := enc) (C := Try.checked) false ⟨#[], #[.slice none 0 0, .agg #[.slice none 0 0, .slice none 0 0, .slice none 0 0]], []⟩ 8 (by kernel_rfl) (by kernel_rfl) (by kernel_rfl) (by kernel_rfl)) ?_
  intro W base args ds gs before hval0 hW _ hsz0 _
  have hval : ∀ (j : Nat) t v, Try.f10.params[j]? = some t → args[j]? = some v → Value.okWide Try.prog W .any base t v := hval0
  have hW' := hW
  obtain ⟨p, q, hA0, hV, rfl, hfz, hnd⟩ := hW
  have hA : DataW.TrodAll enc Try.prog W 0 (fun _ => true) true Try.f10.params.toList args.toList ds p := hA0
  have hsz : (DataW.weightsEach Try.prog (Try.f10.params.toList ++ Rows.evalKindsSpec.plain.varTypes Try.prog) (ds ++ gs)).all (· ≤ reachBytes) = true := hsz0
  obtain ⟨rfl, rfl⟩ := trodVars_none hV
  rw [Try.params10] at hA hval hsz
  obtain ⟨args⟩ := args
  have hA1 : DataW.TrodAll enc Try.prog W 0 (fun _ => true) true [22, 50] args ds p := hA
  clear hA
  obtain ⟨v0, w0, d0, e0, p0, q0, ea0, ed0, ep0, h0, hB0⟩ := trodAll_cons hA1
  subst ea0; subst ed0; subst ep0
  obtain ⟨v1, w1, d1, e1, p1, q1, ea1, ed1, ep1, h1, hB1⟩ := trodAll_cons hB0
  subst ea1; subst ed1; subst ep1
  obtain ⟨ea, ed, ep⟩ := trodAll_nil hB1
  subst ea; subst ed; subst ep
  obtain ⟨l0, s0, _, b0⟩ := cells22 h0 (hval 0 22 v0 rfl rfl)
  obtain ⟨vs1, ls1, ss1, s1, _, i1, b1⟩ := world50 h1 (hval 1 50 v1 rfl rfl)
  have hsz' : (d0.weights Try.prog 22 ++ (d1.weights Try.prog 50 ++ [])).all (· ≤ reachBytes) = true := by
    simpa [DataW.weightsEach] using hsz
  simp only [List.all_append, List.append_nil, Bool.and_eq_true] at hsz'
  obtain ⟨c0, c1⟩ := hsz'
  have r0 : room l0.length 32 := ⟨b0 c0, by have := b0 c0; unfold maxLen; omega⟩
  have wo1 : WorldOk vs1 ls1 ss1 := ⟨⟨(b1 c1).1, by have := (b1 c1).1; unfold maxLen; omega⟩, ⟨(b1 c1).2.1, by have := (b1 c1).2.1; unfold maxLen; omega⟩, ⟨(b1 c1).2.2, by have := (b1 c1).2.2; unfold maxLen; omega⟩, fun v hx => i64_iff.2 (i1 v hx).2.1⟩
  refine ((kinds5_spec l0 vs1 ls1 ss1 r0 wo1).law (W := W) (vs := [v0, v1]) (.cons s0 (.cons s1 .nil))).mono fun e W' ⟨he, hb⟩ => ?_
  exact ⟨_, he, law_post (tb := 4) laidOut (by kernel_rfl) (by kernel_rfl) Try.underlying4 rfl ⟨rfl, rfl, rfl⟩ (by rw [Try.params10]; intro t ht; simp at ht; rcases ht with rfl | rfl <;> exact ⟨by kernel_rfl, of_decide_eq_true (by kernel_rfl)⟩) hW' hb⟩
theorem evalKinds_holds : Rows.EvalKindsSaid :=
  OpenClaim.holds_of_wide 10 Try.f10 rfl rfl rfl rfl rfl rfl rfl ⟨rfl, rfl, rfl, rfl, rfl⟩ rfl rfl rfl rfl rfl (by kernel_rfl) Try.func10 (by kernel_rfl)
    (of_decide_eq_true (by kernel_rfl)) (by unfold Func.isWrapper; first | (rw [if_pos (by decide +kernel)]; kernel_rfl) | (rw [if_neg (by decide +kernel)]; exact ⟨rfl, rfl⟩))
    (fun os started H enc _ => evalKinds_lifted os started H enc)
#print axioms evalKinds_holds
end Go.Proofs.Ytgoihhnfkoklpaa

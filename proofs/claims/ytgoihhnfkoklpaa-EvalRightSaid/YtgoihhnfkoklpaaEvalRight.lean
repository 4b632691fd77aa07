/- The law EvalRight, whole. Conditions: none. -/
import Derived.Test.YtgoihhnfkoklpaaRows
import Derived.Test.YtgoihhnfkoklpaaHi
import Derived.Test.YtgoihhnfkoklpaaGd
namespace Go.Proofs.Ytgoihhnfkoklpaa
open Go Go.Ev Go.RowKit Go.ChangeShapes Go.WideShapes
set_option maxRecDepth 100000
theorem evalRight_lifted (os : Os) (started : os.Started) (H : Type) (enc : TypeId × Value → H) :
    ReturnsInHanded {} Try.checked os 8 .any (Rows.evalRightSpec.pre6 enc Try.prog Try.f8 Rows.evalRightRow.domain false) (Rows.evalRightSpec.post enc Try.prog Try.f8 false true false false) := by
  refine returnsInHanded_of_change_sized (C := Try.checked) own started (by kernel_rfl) Try.func8
    (ChangeSpec.witness6 (enc := enc) (C := Try.checked) false ⟨#[], #[.agg #[.int .i64 0, .int .i64 0, .int .i64 0]], []⟩ 8 (by kernel_rfl) (by kernel_rfl) (by kernel_rfl) (by kernel_rfl)) ?_
  intro W base args ds gs before hval0 hW _ hsz0 _
  have hval : ∀ (j : Nat) t v, Try.f8.params[j]? = some t → args[j]? = some v → Value.okWide Try.prog W .any base t v := hval0
  have hW' := hW
  obtain ⟨p, q, hA0, hV, rfl, hfz, hnd⟩ := hW
  have hA : DataW.TrodAll enc Try.prog W 0 (fun _ => true) true Try.f8.params.toList args.toList ds p := hA0
  have hsz : (DataW.weightsEach Try.prog (Try.f8.params.toList ++ Rows.evalRightSpec.plain.varTypes Try.prog) (ds ++ gs)).all (· ≤ reachBytes) = true := hsz0
  obtain ⟨rfl, rfl⟩ := trodVars_none hV
  rw [Try.params8] at hA hval hsz
  obtain ⟨args⟩ := args
  have hA1 : DataW.TrodAll enc Try.prog W 0 (fun _ => true) true [42] args ds p := hA
  clear hA
  obtain ⟨v0, w0, d0, e0, p0, q0, ea0, ed0, ep0, h0, hB0⟩ := trodAll_cons hA1
  subst ea0; subst ed0; subst ep0
  obtain ⟨ea, ed, ep⟩ := trodAll_nil hB0
  subst ea; subst ed; subst ep
  obtain ⟨x0, s0, i0⟩ := value42 h0 (hval 0 42 v0 rfl rfl)
  have hsz' : (d0.weights Try.prog 42 ++ []).all (· ≤ reachBytes) = true := by
    simpa [DataW.weightsEach] using hsz
  simp only [List.all_append, List.append_nil, Bool.and_eq_true] at hsz'
  have c0 := hsz'
  refine ((evalright_spec x0).law (W := W) (vs := [v0]) (.cons s0 .nil)).mono fun e W' ⟨he, hb⟩ => ?_
  exact ⟨_, he, law_post (tb := 4) laidOut (by kernel_rfl) (by kernel_rfl) Try.underlying4 rfl ⟨rfl, rfl, rfl⟩ (by rw [Try.params8]; intro t ht; simp at ht; rcases ht with rfl <;> exact ⟨by kernel_rfl, of_decide_eq_true (by kernel_rfl)⟩) hW' hb⟩
theorem evalRight_holds : Rows.EvalRightSaid :=
  OpenClaim.holds_of_wide 8 Try.f8 rfl rfl rfl rfl rfl rfl rfl ⟨rfl, rfl, rfl, rfl, rfl⟩ rfl rfl rfl rfl rfl (by kernel_rfl) Try.func8 (by kernel_rfl)
    (of_decide_eq_true (by kernel_rfl)) (by unfold Func.isWrapper; first | (rw [if_pos (by decide +kernel)]; kernel_rfl) | (rw [if_neg (by decide +kernel)]; exact ⟨rfl, rfl⟩))
    (fun os started H enc _ => evalRight_lifted os started H enc)
#print axioms evalRight_holds
end Go.Proofs.Ytgoihhnfkoklpaa

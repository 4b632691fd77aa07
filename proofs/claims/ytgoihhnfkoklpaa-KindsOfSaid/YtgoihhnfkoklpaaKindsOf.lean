/- The law KindsOf, whole. Conditions: none. -/
import Derived.Test.YtgoihhnfkoklpaaLawB
import Derived.Test.YtgoihhnfkoklpaaOpenA
namespace Go.Proofs.Ytgoihhnfkoklpaa
open Go Go.Sy Go.RowKit Go.ChangeShapes Go.WideShapes
set_option maxRecDepth 100000
theorem kindsOf_lifted (os : Os) (started : os.Started) (H : Type) (enc : TypeId × Value → H) :
    ReturnsInHanded {} Try.checked os 3 .any (Rows.kindsOfSpec.pre6 enc Try.prog Try.f3 Rows.kindsOfRow.domain false) (Rows.kindsOfSpec.post enc Try.prog Try.f3 false true false false) := by
  refine returnsInHanded_of_change_sized (C := Try.checked) own started (by kernel_rfl) Try.func3
    (ChangeSpec.witness6 (enc := enc) (C := Try.checked) false ⟨#[], #[.slice none 0 0, .agg #[.slice none 0 0, .slice none 0 0]], []⟩ 8 (by kernel_rfl) (by kernel_rfl) (by kernel_rfl) (by kernel_rfl)) ?_
  intro W base args ds gs before hval0 hW _ hsz0 _
  have hval : ∀ (j : Nat) t v, Try.f3.params[j]? = some t → args[j]? = some v → Value.okWide Try.prog W .any base t v := hval0
  have hW' := hW
  obtain ⟨p, q, hA0, hV, rfl, hfz, hnd⟩ := hW
  have hA : DataW.TrodAll enc Try.prog W 0 (fun _ => true) true Try.f3.params.toList args.toList ds p := hA0
  have hsz : (DataW.weightsEach Try.prog (Try.f3.params.toList ++ Rows.kindsOfSpec.plain.varTypes Try.prog) (ds ++ gs)).all (· ≤ reachBytes) = true := hsz0
  obtain ⟨rfl, rfl⟩ := trodVars_none hV
  rw [Try.params3] at hA hval hsz
  obtain ⟨v0, v1, d0, d1, p0, p1, rfl, rfl, rfl, h0, h1⟩ := trodAll_two hA
  obtain ⟨l, s0, _, b0⟩ := cells22 h0 (hval 0 22 v0 rfl rfl)
  obtain ⟨vars, states, w1, w2, rfl, s1, s2, _, b1⟩ := scope26 h1 (hval 1 26 v1 rfl rfl)
  have hsz' : (d0.weights Try.prog 22 ++ (d1.weights Try.prog 26 ++ [])).all (· ≤ reachBytes) = true := by
    simpa [DataW.weightsEach] using hsz
  rw [List.all_append, List.append_nil, Bool.and_eq_true] at hsz'
  obtain ⟨c1, c2⟩ := b1 hsz'.2
  refine (kindsOf_walk l vars states v0 w1 w2 (HW W) s0 s1 s2 (b0 hsz'.1) c1 c2 W (HW_in W)).mono fun e W' ⟨he, hb⟩ => ?_
  exact ⟨_, he, law_post (tb := 4) laidOut (by kernel_rfl) (by kernel_rfl) Try.underlying4 rfl ⟨rfl, rfl, rfl⟩ (by rw [Try.params3]; intro t ht; simp at ht; rcases ht with rfl | rfl <;> exact ⟨by kernel_rfl, of_decide_eq_true (by kernel_rfl)⟩) hW' hb⟩
theorem kindsOf_holds : Rows.KindsOfSaid :=
  OpenClaim.holds_of_wide 3 Try.f3 rfl rfl rfl rfl rfl rfl rfl ⟨rfl, rfl, rfl, rfl, rfl⟩ rfl rfl rfl rfl rfl (by kernel_rfl) Try.func3 (by kernel_rfl)
    (of_decide_eq_true (by kernel_rfl)) (by unfold Func.isWrapper; first | (rw [if_pos (by decide +kernel)]; kernel_rfl) | (rw [if_neg (by decide +kernel)]; exact ⟨rfl, rfl⟩))
    (fun os started H enc _ => kindsOf_lifted os started H enc)
#print axioms kindsOf_holds
end Go.Proofs.Ytgoihhnfkoklpaa

/- The law EvalOrder, whole. Conditions: none. -/
import Derived.Test.YtgoihhnfkoklpaaRows
import Derived.Test.YtgoihhnfkoklpaaHl
import Derived.Test.YtgoihhnfkoklpaaGd
namespace Go.Proofs.Ytgoihhnfkoklpaa
open Go Go.Ev Go.RowKit Go.ChangeShapes Go.WideShapes
set_option maxRecDepth 100000
theorem evalOrder_lifted (os : Os) (started : os.Started) (H : Type) (enc : TypeId × Value → H) :
    ReturnsInHanded {} Try.checked os 12 .any (Rows.evalOrderSpec.pre6 enc Try.prog Try.f12 Rows.evalOrderRow.domain false) (Rows.evalOrderSpec.post enc Try.prog Try.f12 false true false false) := by
  refine returnsInHanded_of_change_sized (C := Try.checked) own started (by kernel_rfl) Try.func12
    (ChangeSpec.witness6 (enc := enc) (C := Try.checked) false ⟨#[], #[.slice none 0 0, .slice none 0 0, .agg #[.slice none 0 0, .slice none 0 0, .slice none 0 0]], []⟩ 8 (by kernel_rfl) (by kernel_rfl) (by kernel_rfl) (by kernel_rfl)) ?_
  intro W base args ds gs before hval0 hW _ hsz0 _
  have hval : ∀ (j : Nat) t v, Try.f12.params[j]? = some t → args[j]? = some v → Value.okWide Try.prog W .any base t v := hval0
  have hW' := hW
  obtain ⟨p, q, hA0, hV, rfl, hfz, hnd⟩ := hW
  have hA : DataW.TrodAll enc Try.prog W 0 (fun _ => true) true Try.f12.params.toList args.toList ds p := hA0
  have hsz : (DataW.weightsEach Try.prog (Try.f12.params.toList ++ Rows.evalOrderSpec.plain.varTypes Try.prog) (ds ++ gs)).all (· ≤ reachBytes) = true := hsz0
  obtain ⟨rfl, rfl⟩ := trodVars_none hV
  rw [Try.params12] at hA hval hsz
  obtain ⟨args⟩ := args
  have hA1 : DataW.TrodAll enc Try.prog W 0 (fun _ => true) true [22, 22, 50] args ds p := hA
  clear hA
  obtain ⟨v0, w0, d0, e0, p0, q0, ea0, ed0, ep0, h0, hB0⟩ := trodAll_cons hA1
  subst ea0; subst ed0; subst ep0
  obtain ⟨v1, w1, d1, e1, p1, q1, ea1, ed1, ep1, h1, hB1⟩ := trodAll_cons hB0
  subst ea1; subst ed1; subst ep1
  obtain ⟨v2, w2, d2, e2, p2, q2, ea2, ed2, ep2, h2, hB2⟩ := trodAll_cons hB1
  subst ea2; subst ed2; subst ep2
  obtain ⟨ea, ed, ep⟩ := trodAll_nil hB2
  subst ea; subst ed; subst ep
  obtain ⟨l0, s0, _, b0⟩ := cells22 h0 (hval 0 22 v0 rfl rfl)
  obtain ⟨l1, s1, _, b1⟩ := cells22 h1 (hval 1 22 v1 rfl rfl)
  obtain ⟨vs2, ls2, ss2, s2, _, i2, b2⟩ := world50 h2 (hval 2 50 v2 rfl rfl)
  have hsz' : (d0.weights Try.prog 22 ++ (d1.weights Try.prog 22 ++ (d2.weights Try.prog 50 ++ []))).all (· ≤ reachBytes) = true := by
    simpa [DataW.weightsEach] using hsz
  simp only [List.all_append, List.append_nil, Bool.and_eq_true] at hsz'
  obtain ⟨c0, c1, c2⟩ := hsz'
  have r0 : room l0.length 32 := ⟨b0 c0, by have := b0 c0; unfold maxLen; omega⟩
  have r1 : room l1.length 32 := ⟨b1 c1, by have := b1 c1; unfold maxLen; omega⟩
  have wo2 : WorldOk vs2 ls2 ss2 := ⟨⟨(b2 c2).1, by have := (b2 c2).1; unfold maxLen; omega⟩, ⟨(b2 c2).2.1, by have := (b2 c2).2.1; unfold maxLen; omega⟩, ⟨(b2 c2).2.2, by have := (b2 c2).2.2; unfold maxLen; omega⟩, fun v hx => i64_iff.2 (i2 v hx).2.1⟩
  refine ((order_spec l0 l1 vs2 ls2 ss2 r0 r1 wo2).law (W := W) (vs := [v0, v1, v2]) (.cons s0 (.cons s1 (.cons s2 .nil)))).mono fun e W' ⟨he, hb⟩ => ?_
  exact ⟨_, he, law_post (tb := 4) laidOut (by kernel_rfl) (by kernel_rfl) Try.underlying4 rfl ⟨rfl, rfl, rfl⟩ (by rw [Try.params12]; intro t ht; simp at ht; rcases ht with rfl | rfl <;> exact ⟨by kernel_rfl, of_decide_eq_true (by kernel_rfl)⟩) hW' hb⟩
theorem evalOrder_holds : Rows.EvalOrderSaid :=
  OpenClaim.holds_of_wide 12 Try.f12 rfl rfl rfl rfl rfl rfl rfl ⟨rfl, rfl, rfl, rfl, rfl⟩ rfl rfl rfl rfl rfl (by kernel_rfl) Try.func12 (by kernel_rfl)
    (of_decide_eq_true (by kernel_rfl)) (by unfold Func.isWrapper; first | (rw [if_pos (by decide +kernel)]; kernel_rfl) | (rw [if_neg (by decide +kernel)]; exact ⟨rfl, rfl⟩))
    (fun os started H enc _ => evalOrder_lifted os started H enc)
#print axioms evalOrder_holds
end Go.Proofs.Ytgoihhnfkoklpaa

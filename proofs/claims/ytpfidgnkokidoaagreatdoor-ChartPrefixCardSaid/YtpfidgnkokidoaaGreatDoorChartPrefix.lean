/- The law ChartPrefix, whole, its card. Conditions: the library's tables as they are laid. -/
import Derived.Test.YtpfidgnkokidoaaGreatDoorLx
namespace Go.Proofs.YtpfidgnkokidoaaGreatDoor
open Go Go.Ev Go.RowKit Go.ChangeShapes Go.WideShapes Go.ChangeAt
set_option maxRecDepth 100000
theorem oL (os : Os) : laidMet Tryz.prog Rows.chartPrefixRow.laid ((mh os).forCall (fun _ _ => 0) ⟨#[], #[.string .empty, .string .empty], []⟩).memory :=
 laidMet_of_run' 8 (by kernel_rfl) (by kernel_rfl)
theorem ny (os : Os) {H : Type} (enc : TypeId × Value → H) : ∃ places, DataW.whole enc Tryz.prog ((mh os).forCall (fun _ _ => 0) ⟨#[], #[.string .empty, .string .empty], []⟩).memory Tryz.f7.params.toList Rows.chartPrefixSpec.vars false #[Value.string .empty, Value.string .empty].toList 8 = some ([.lit (.string []), .lit (.string [])], [], places) :=
 ⟨[], by kernel_rfl⟩
theorem lL (os : Os) (started : os.Started) (H : Type) (enc : TypeId × Value → H) (F : Stop.Interp) :
 ReturnsInHanded {} Tryz.checked os 7 .any ((OpenSpec.ofChange Rows.chartPrefixSpec).preRow enc Tryz.prog Tryz.f7 Rows.chartPrefixRow.domain false Rows.chartPrefixRow.laid) (((OpenSpec.ofChange Rows.chartPrefixSpec).at F).post enc Tryz.prog Tryz.f7 false true false false) := by
 obtain ⟨places, hx⟩ := ny os enc
 refine returnsInHanded_of_row (C := Tryz.checked) (s := (OpenSpec.ofChange Rows.chartPrefixSpec)) own started (by kernel_rfl) Tryz.func7
  (witness_row_at (enc := enc) (C := Tryz.checked) false (mh os) #[.string .empty, .string .empty] rfl (by kernel_rfl) (by kernel_rfl) (by kernel_rfl)
   (OpenSpec.preRow_of_cond 8 hx (by kernel_rfl) (fun k hk => by cases hk) (by kernel_rfl) (oL os))) ?_
 intro W base args ds gs before hval0 hW _ hk0 hsz0 hL hSh _
 have hval : ∀ (j : Nat) t v, Tryz.f7.params[j]? = some t → args[j]? = some v → Value.okWide Tryz.prog W .any base t v := hval0
 have hW' := hW
 obtain ⟨p, q, hA0, hV, rfl, hfz, hnd⟩ := hW
 have hA : DataW.TrodAll enc Tryz.prog W 0 (fun _ => true) true Tryz.f7.params.toList args.toList ds p := hA0
 have hsz : (DataW.weightsEach Tryz.prog (Tryz.f7.params.toList ++ Rows.chartPrefixSpec.plain.varTypes Tryz.prog) (ds ++ gs)).all (· ≤ reachBytes) = true := hsz0
 obtain ⟨rfl, rfl⟩ := trodVars_none hV
 rw [Tryz.params7] at hA hval hsz
 obtain ⟨args⟩ := args
 have hA1 : DataW.TrodAll enc Tryz.prog W 0 (fun _ => true) true [9, 9] args ds p := hA
 clear hA
 obtain ⟨v0, w0, d0, e0, p0, q0, ea0, ed0, ep0, h0, hB0⟩ := trodAll_cons hA1
 subst ea0; subst ed0; subst ep0
 obtain ⟨v1, w1, d1, e1, p1, q1, ea1, ed1, ep1, h1, hB1⟩ := trodAll_cons hB0
 subst ea1; subst ed1; subst ep1
 obtain ⟨ea, ed, ep⟩ := trodAll_nil hB1
 subst ea; subst ed; subst ep
 obtain ⟨x0, s0, ex0⟩ := vF h0 (hval 0 9 v0 rfl rfl)
 subst ex0
 obtain ⟨x1, s1, ex1⟩ := vF h1 (hval 1 9 v1 rfl rfl)
 subst ex1
 have hz0 : decide (x0.length ≤ 140737488351232) = true ∧ decide (x1.length ≤ 140737488351232) = true := by
  have h := hsz
  simp [DataW.weightsEach, DataW.weights, reachBytes] at h
  exact h
 have hz : x0.length ≤ 140737488355328 ∧ x1.length ≤ 140737488355328 := ⟨a6 (of_decide_eq_true hz0.1) (by decide), a6 (of_decide_eq_true hz0.2) (by decide)⟩
 refine ((pN x0 x1 hz.1 hz.2).law (W := W) (GL hL hSh) (vs := [v0, v1]) (.cons s0 (.cons s1 .nil))).mono fun e W' ⟨he, hb⟩ => ?_
 exact ⟨_, he, B6 (tb := 4) laidOut (by kernel_rfl) (by kernel_rfl) Tryz.underlying4 rfl ⟨rfl, rfl, rfl⟩ (by rw [Tryz.params7]; intro t ht; simp at ht; rcases ht with rfl <;> exact ⟨by kernel_rfl, of_decide_eq_true (by kernel_rfl)⟩) hW' hb⟩
theorem oD : Rows.ChartPrefixSaid :=
 OpenClaim.holds_of_cond 7 Tryz.f7 rfl rfl rfl rfl rfl rfl rfl ⟨rfl, rfl, rfl, rfl, rfl⟩ rfl rfl rfl rfl rfl (by kernel_rfl) Tryz.func7 (by kernel_rfl)
  (of_decide_eq_true (by kernel_rfl)) (by unfold Func.isWrapper; first | (rw [if_pos (by decide +kernel)]; kernel_rfl) | (rw [if_neg (by decide +kernel)]; exact ⟨rfl, rfl⟩))
  (fun os started H enc _ F => by rw [OpenClaim.pre_eq_preRow]; exact lL os started H enc F)
theorem nw (f : FuncId) (fn : Func) (hf : Tryz.pinned.checked.prog.funcNamed "quintain/quintainlaw08.ChartPrefix" = some f) (hfn : Tryz.pinned.checked.prog.funcs[f]? = some fn) :
 true = Tryz.pinned.checked.prog.looks [] ∧ ∀ (j : Nat) t, fn.params[j]? = some t → Tryz.pinned.checked.prog.wantsStandIn t = false := by
 have e1 : f = 7 := (al ((show Tryz.prog.funcNamed "quintain/quintainlaw08.ChartPrefix" = some 7 by kernel_rfl).symm.trans hf)).symm
 subst e1
 have e2 : fn = Tryz.f7 := (al (Tryz.func7.symm.trans hfn)).symm
 subst e2
 refine ⟨by kernel_rfl, fun j t ht => ?_⟩
 rw [Tryz.params7] at ht
 have hm := Array.mem_of_getElem? ht
 simp at hm
 rcases hm with rfl
 all_goals first
  | exact (show Tryz.prog.wantsStandIn 9 = false by kernel_rfl)
theorem chartPrefix_holds : Rows.ChartPrefixCardSaid :=
 Claim7.holds_tied_plain_at .later [] _ _ _ _ oD (fun _ h => by cases h) (by kernel_rfl) (fun _ h => by cases h) chartPrefix_row_tie rfl ⟨rfl, rfl⟩ (by kernel_rfl) rfl nw (by kernel_rfl)
#print axioms chartPrefix_holds
end Go.Proofs.YtpfidgnkokidoaaGreatDoor

/- The law PlaneReads, whole, its card. Conditions: the library's tables as they are laid. -/
import Derived.Test.YtndkapkejmkphaaDoorRj
import Derived.Test.YtndkapkejmkphaaDoorRx
namespace Go.Proofs.YtndkapkejmkphaaDoor
open Go Go.Ev Go.RowKit Go.ChangeShapes Go.WideShapes Go.ChangeAt
set_option maxRecDepth 100000
theorem planeReads_met (os : Os) : laidMet Tryd.prog Rows.planeReadsRow.laid ((laidWorld os).forCall (fun _ _ => 0) ⟨#[], #[.string .empty], []⟩).memory :=
  laidMet_of_run' 8 (by kernel_rfl) (by kernel_rfl)
theorem planeReads_reads (os : Os) {H : Type} (enc : TypeId × Value → H) : ∃ places, DataW.whole enc Tryd.prog ((laidWorld os).forCall (fun _ _ => 0) ⟨#[], #[.string .empty], []⟩).memory Tryd.f3.params.toList Rows.planeReadsSpec.vars false #[Value.string .empty].toList 8 = some ([.lit (.string [])], [], places) :=
  ⟨[], by kernel_rfl⟩
theorem planeReads_lifted (os : Os) (started : os.Started) (H : Type) (enc : TypeId × Value → H) (F : Stop.Interp) :
    ReturnsInHanded {} Tryd.checked os 3 .any ((OpenSpec.ofChange Rows.planeReadsSpec).preRow enc Tryd.prog Tryd.f3 Rows.planeReadsRow.domain false Rows.planeReadsRow.laid) (((OpenSpec.ofChange Rows.planeReadsSpec).at F).post enc Tryd.prog Tryd.f3 false true false false) := by
  obtain ⟨places, hx⟩ := planeReads_reads os enc
  refine returnsInHanded_of_row (C := Tryd.checked) (s := (OpenSpec.ofChange Rows.planeReadsSpec)) own started (by kernel_rfl) Tryd.func3
    (witness_row_at (enc := enc) (C := Tryd.checked) false (laidWorld os) #[.string .empty] rfl (by kernel_rfl) (by kernel_rfl) (by kernel_rfl)
      (OpenSpec.preRow_of_cond 8 hx (by kernel_rfl) (fun k hk => by cases hk) (by kernel_rfl) (planeReads_met os))) ?_
  intro W base args ds gs before hval0 hW _ hk0 hsz0 hL hSh _
  have hval : ∀ (j : Nat) t v, Tryd.f3.params[j]? = some t → args[j]? = some v → Value.okWide Tryd.prog W .any base t v := hval0
  have hW' := hW
  obtain ⟨p, q, hA0, hV, rfl, hfz, hnd⟩ := hW
  have hA : DataW.TrodAll enc Tryd.prog W 0 (fun _ => true) true Tryd.f3.params.toList args.toList ds p := hA0
  have hsz : (DataW.weightsEach Tryd.prog (Tryd.f3.params.toList ++ Rows.planeReadsSpec.plain.varTypes Tryd.prog) (ds ++ gs)).all (· ≤ reachBytes) = true := hsz0
  obtain ⟨rfl, rfl⟩ := trodVars_none hV
  rw [Tryd.params3] at hA hval hsz
  obtain ⟨args⟩ := args
  have hA1 : DataW.TrodAll enc Tryd.prog W 0 (fun _ => true) true [9] args ds p := hA
  clear hA
  obtain ⟨v0, w0, d0, e0, p0, q0, ea0, ed0, ep0, h0, hB0⟩ := trodAll_cons hA1
  subst ea0; subst ed0; subst ep0
  obtain ⟨ea, ed, ep⟩ := trodAll_nil hB0
  subst ea; subst ed; subst ep
  obtain ⟨x0, s0, ex0⟩ := string9 h0 (hval 0 9 v0 rfl rfl)
  subst ex0
  have hz0 : decide (x0.length ≤ 140737488351232) = true := by
    have h := hsz
    simp [DataW.weightsEach, DataW.weights, reachBytes] at h
    exact h
  have hz : x0.length ≤ 140737488355328 := Nat.le_trans (of_decide_eq_true hz0) (by decide)
  refine ((reads_law x0 hz).law (W := W) (tabs7 hL hSh) (vs := [v0]) (.cons s0 .nil)).mono fun e W' ⟨he, hb⟩ => ?_
  exact ⟨_, he, law_post (tb := 4) laidOut (by kernel_rfl) (by kernel_rfl) Tryd.underlying4 rfl ⟨rfl, rfl, rfl⟩ (by rw [Tryd.params3]; intro t ht; simp at ht; rcases ht with rfl <;> exact ⟨by kernel_rfl, of_decide_eq_true (by kernel_rfl)⟩) hW' hb⟩
theorem planeReads_j1 : (Rows.planeReadsRow.inPlace == Tryd.pinned.checked.prog.inPlace 3) = true := by kernel_rfl
theorem planeReads_j2 : (Rows.planeReadsRow.unfollowed == Tryd.pinned.checked.prog.unfollowed 3) = true := by kernel_rfl
theorem planeReads_j3 : (Rows.planeReadsRow.recurses == Tryd.pinned.checked.prog.recurses 3) = true := by kernel_rfl
theorem planeReads_j4 : (Rows.planeReadsRow.named == Tryd.pinned.checked.prog.varsNamed 3) = true := by kernel_rfl
theorem planeReads_joined : joinedFacts Tryd.pinned.checked.prog 3 Tryd.f3 (OpenSpec.ofChange Rows.planeReadsSpec).bare Rows.planeReadsRow = true := by
  unfold joinedFacts
  rw [planeReads_j1, planeReads_j2, planeReads_j3, planeReads_j4]
  kernel_rfl
theorem planeReads_said : Rows.PlaneReadsSaid :=
  OpenClaim.holds_of_cond 3 Tryd.f3 rfl rfl rfl rfl rfl rfl rfl ⟨rfl, rfl, rfl, rfl, rfl⟩ rfl rfl rfl rfl rfl (by kernel_rfl) Tryd.func3 planeReads_joined
    (of_decide_eq_true (by kernel_rfl)) (by unfold Func.isWrapper; first | (rw [if_pos (by decide +kernel)]; kernel_rfl) | (rw [if_neg (by decide +kernel)]; exact ⟨rfl, rfl⟩))
    (fun os started H enc _ F => by rw [OpenClaim.pre_eq_preRow]; exact planeReads_lifted os started H enc F)
theorem planeReads_plain (f : FuncId) (fn : Func) (hf : Tryd.pinned.checked.prog.funcNamed "quintain/quintainlaw01.PlaneReads" = some f) (hfn : Tryd.pinned.checked.prog.funcs[f]? = some fn) :
    true = Tryd.pinned.checked.prog.looks [] ∧ ∀ (j : Nat) t, fn.params[j]? = some t → Tryd.pinned.checked.prog.wantsStandIn t = false := by
  have e1 : f = 3 := (Option.some.inj ((show Tryd.prog.funcNamed "quintain/quintainlaw01.PlaneReads" = some 3 by kernel_rfl).symm.trans hf)).symm
  subst e1
  have e2 : fn = Tryd.f3 := (Option.some.inj (Tryd.func3.symm.trans hfn)).symm
  subst e2
  refine ⟨by kernel_rfl, fun j t ht => ?_⟩
  rw [Tryd.params3] at ht
  have hm := Array.mem_of_getElem? ht
  simp at hm
  rcases hm with rfl
  all_goals first
    | exact (show Tryd.prog.wantsStandIn 9 = false by kernel_rfl)
theorem planeReads_holds : Rows.PlaneReadsCardSaid :=
  Claim7.holds_tied_plain_at .later [] _ _ _ _ planeReads_said (fun _ h => by cases h) (by kernel_rfl) (fun _ h => by cases h) planeReads_row_tie rfl ⟨rfl, rfl⟩ (by kernel_rfl) rfl planeReads_plain (by kernel_rfl)
#print axioms planeReads_holds
end Go.Proofs.YtndkapkejmkphaaDoor

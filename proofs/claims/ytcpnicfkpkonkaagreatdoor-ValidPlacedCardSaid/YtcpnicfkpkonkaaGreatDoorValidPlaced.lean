/- The law ValidPlaced, whole, its card. Conditions: the library's tables as they are laid. -/
import Derived.Test.YtcpnicfkpkonkaaGreatDoorSu
import Derived.Test.YtcpnicfkpkonkaaGreatDoorLx
namespace Go.Proofs.YtcpnicfkpkonkaaGreatDoor
open Go Go.Ev Go.RowKit Go.ChangeShapes Go.WideShapes Go.ChangeAt
set_option maxRecDepth 100000
theorem validPlaced_met (os : Os) : laidMet Tryz.prog Rows.validPlacedRow.laid ((laidWorld os).forCall (fun _ _ => 0) ⟨#[], #[.agg #[.string .empty, .slice none 0 0, .slice none 0 0, .slice none 0 0, .slice none 0 0]], []⟩).memory :=
  laidMet_of_run' 8 (by kernel_rfl) (by kernel_rfl)
theorem validPlaced_reads (os : Os) {H : Type} (enc : TypeId × Value → H) : ∃ places, DataW.whole enc Tryz.prog ((laidWorld os).forCall (fun _ _ => 0) ⟨#[], #[.agg #[.string .empty, .slice none 0 0, .slice none 0 0, .slice none 0 0, .slice none 0 0]], []⟩).memory Tryz.f7.params.toList Rows.validPlacedSpec.vars false #[Value.agg #[Value.string .empty, .slice none 0 0, .slice none 0 0, .slice none 0 0, .slice none 0 0]].toList 8 = some ([.agg [.lit (.string []), .nil, .nil, .nil, .nil]], [], places) :=
  ⟨[], by kernel_rfl⟩
theorem validPlaced_lifted (os : Os) (started : os.Started) (H : Type) (enc : TypeId × Value → H) (F : Stop.Interp) :
    ReturnsInHanded {} Tryz.checked os 7 .any ((OpenSpec.ofChange Rows.validPlacedSpec).preRow enc Tryz.prog Tryz.f7 Rows.validPlacedRow.domain false Rows.validPlacedRow.laid) (((OpenSpec.ofChange Rows.validPlacedSpec).at F).post enc Tryz.prog Tryz.f7 false true false false) := by
  obtain ⟨places, hx⟩ := validPlaced_reads os enc
  refine returnsInHanded_of_row (C := Tryz.checked) (s := (OpenSpec.ofChange Rows.validPlacedSpec)) own started (by kernel_rfl) Tryz.func7
    (witness_row_at (enc := enc) (C := Tryz.checked) false (laidWorld os) #[.agg #[.string .empty, .slice none 0 0, .slice none 0 0, .slice none 0 0, .slice none 0 0]] rfl (by kernel_rfl) (by kernel_rfl) (by kernel_rfl)
      (OpenSpec.preRow_of_cond 8 hx (by kernel_rfl) (fun k hk => by cases hk) (by kernel_rfl) (validPlaced_met os))) ?_
  intro W base args ds gs before hval0 hW _ hk0 hsz0 hL hSh _
  have hval : ∀ (j : Nat) t v, Tryz.f7.params[j]? = some t → args[j]? = some v → Value.okWide Tryz.prog W .any base t v := hval0
  have hW' := hW
  obtain ⟨p, q, hA0, hV, rfl, hfz, hnd⟩ := hW
  have hA : DataW.TrodAll enc Tryz.prog W 0 (fun _ => true) true Tryz.f7.params.toList args.toList ds p := hA0
  have hsz : (DataW.weightsEach Tryz.prog (Tryz.f7.params.toList ++ Rows.validPlacedSpec.plain.varTypes Tryz.prog) (ds ++ gs)).all (· ≤ reachBytes) = true := hsz0
  obtain ⟨rfl, rfl⟩ := trodVars_none hV
  rw [Tryz.params7] at hA hval hsz
  obtain ⟨args⟩ := args
  have hA1 : DataW.TrodAll enc Tryz.prog W 0 (fun _ => true) true [27] args ds p := hA
  clear hA
  obtain ⟨v0, w0, d0, e0, p0, q0, ea0, ed0, ep0, h0, hB0⟩ := trodAll_cons hA1
  subst ea0; subst ed0; subst ep0
  obtain ⟨ea, ed, ep⟩ := trodAll_nil hB0
  subst ea; subst ed; subst ep
  obtain ⟨x0, s0, b0⟩ := chart_arg h0 (hval 0 27 v0 rfl rfl)
  have hsz' : (d0.weights Tryz.prog 27 ++ []).all (· ≤ reachBytes) = true := by
    simpa [DataW.weightsEach] using hsz
  simp only [List.append_nil] at hsz'
  have c0 := hsz'
  have r0 := b0 c0
  refine ((placed_law x0 r0).law (W := W) (tabs7 hL hSh) (vs := [v0]) (.cons s0 .nil)).mono fun e W' ⟨he, hb⟩ => ?_
  exact ⟨_, he, law_post (tb := 4) laidOut (by kernel_rfl) (by kernel_rfl) Tryz.underlying4 rfl ⟨rfl, rfl, rfl⟩ (by rw [Tryz.params7]; intro t ht; simp at ht; rcases ht with rfl <;> exact ⟨by kernel_rfl, of_decide_eq_true (by kernel_rfl)⟩) hW' hb⟩
theorem validPlaced_j1 : (Rows.validPlacedRow.inPlace == Tryz.pinned.checked.prog.inPlace 7) = true := by kernel_rfl
theorem validPlaced_j2 : (Rows.validPlacedRow.unfollowed == Tryz.pinned.checked.prog.unfollowed 7) = true := by kernel_rfl
theorem validPlaced_j3 : (Rows.validPlacedRow.recurses == Tryz.pinned.checked.prog.recurses 7) = true := by kernel_rfl
theorem validPlaced_j4 : (Rows.validPlacedRow.named == Tryz.pinned.checked.prog.varsNamed 7) = true := by kernel_rfl
theorem validPlaced_joined : joinedFacts Tryz.pinned.checked.prog 7 Tryz.f7 (OpenSpec.ofChange Rows.validPlacedSpec).bare Rows.validPlacedRow = true := by
  unfold joinedFacts
  rw [validPlaced_j1, validPlaced_j2, validPlaced_j3, validPlaced_j4]
  kernel_rfl
theorem validPlaced_said : Rows.ValidPlacedSaid :=
  OpenClaim.holds_of_cond 7 Tryz.f7 rfl rfl rfl rfl rfl rfl rfl ⟨rfl, rfl, rfl, rfl, rfl⟩ rfl rfl rfl rfl rfl (by kernel_rfl) Tryz.func7 validPlaced_joined
    (of_decide_eq_true (by kernel_rfl)) (by unfold Func.isWrapper; first | (rw [if_pos (by decide +kernel)]; kernel_rfl) | (rw [if_neg (by decide +kernel)]; exact ⟨rfl, rfl⟩))
    (fun os started H enc _ F => by rw [OpenClaim.pre_eq_preRow]; exact validPlaced_lifted os started H enc F)
theorem validPlaced_plain (f : FuncId) (fn : Func) (hf : Tryz.pinned.checked.prog.funcNamed "quintain/quintainlaw09.ValidPlaced" = some f) (hfn : Tryz.pinned.checked.prog.funcs[f]? = some fn) :
    true = Tryz.pinned.checked.prog.looks [] ∧ ∀ (j : Nat) t, fn.params[j]? = some t → Tryz.pinned.checked.prog.wantsStandIn t = false := by
  have e1 : f = 7 := (Option.some.inj ((show Tryz.prog.funcNamed "quintain/quintainlaw09.ValidPlaced" = some 7 by kernel_rfl).symm.trans hf)).symm
  subst e1
  have e2 : fn = Tryz.f7 := (Option.some.inj (Tryz.func7.symm.trans hfn)).symm
  subst e2
  refine ⟨by kernel_rfl, fun j t ht => ?_⟩
  rw [Tryz.params7] at ht
  have hm := Array.mem_of_getElem? ht
  simp at hm
  rcases hm with rfl
  all_goals first
    | exact (show Tryz.prog.wantsStandIn 27 = false by kernel_rfl)
theorem validPlaced_holds : Rows.ValidPlacedCardSaid :=
  Claim7.holds_tied_plain_at .later [] _ _ _ _ validPlaced_said (fun _ h => by cases h) (by kernel_rfl) (fun _ h => by cases h) validPlaced_row_tie rfl ⟨rfl, rfl⟩ (by kernel_rfl) rfl validPlaced_plain (by kernel_rfl)
#print axioms validPlaced_holds
end Go.Proofs.YtcpnicfkpkonkaaGreatDoor

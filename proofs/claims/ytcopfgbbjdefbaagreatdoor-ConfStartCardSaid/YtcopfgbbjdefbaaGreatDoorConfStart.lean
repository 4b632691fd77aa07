/- The law ConfStart, whole, its card. Conditions: the library's tables as they are laid. -/
import Derived.Test.YtcopfgbbjdefbaaGreatDoorCp
import Derived.Test.YtcopfgbbjdefbaaGreatDoorLx
namespace Go.Proofs.YtcopfgbbjdefbaaGreatDoor
open Go Go.Ev Go.RowKit Go.ChangeShapes Go.WideShapes Go.ChangeAt
set_option maxRecDepth 100000
theorem sX (os:Os):laidMet Tryz.prog Rows.confStartRow.laid ((gT os).forCall (fun _ _=>0) ⟨#[],#[.agg #[.string .empty,.slice none 0 0,.slice none 0 0,.slice none 0 0,.slice none 0 0]],[]⟩).memory :=
 laidMet_of_run' 8 (by kernel_rfl) (by kernel_rfl)
theorem pA (os:Os) {H:Type} (enc:TypeId×Value→H):∃ places,DataW.whole enc Tryz.prog ((gT os).forCall (fun _ _=>0) ⟨#[],#[.agg #[.string .empty,.slice none 0 0,.slice none 0 0,.slice none 0 0,.slice none 0 0]],[]⟩).memory Tryz.f3.params.toList Rows.confStartSpec.vars false #[Value.agg #[Value.string .empty,.slice none 0 0,.slice none 0 0,.slice none 0 0,.slice none 0 0]].toList 8=some ([.agg [.lit (.string []),.nil,.nil,.nil,.nil]],[],places) :=
 ⟨[],by kernel_rfl⟩
theorem oT (os:Os) (started:os.Started) (H:Type) (enc:TypeId×Value→H) (F:Stop.Interp) :
 ReturnsInHanded {} Tryz.checked os 3 .any ((OpenSpec.ofChange Rows.confStartSpec).preRow enc Tryz.prog Tryz.f3 Rows.confStartRow.domain false Rows.confStartRow.laid) (((OpenSpec.ofChange Rows.confStartSpec).at F).post enc Tryz.prog Tryz.f3 false true false false):=by
 obtain ⟨places,hx⟩:=pA os enc
 refine returnsInHanded_of_row (C:=Tryz.checked) (s:=(OpenSpec.ofChange Rows.confStartSpec)) own started (by kernel_rfl) Tryz.func3
  (witness_row_at (enc:=enc) (C:=Tryz.checked) false (gT os) #[.agg #[.string .empty,.slice none 0 0,.slice none 0 0,.slice none 0 0,.slice none 0 0]] rfl (by kernel_rfl) (by kernel_rfl) (by kernel_rfl)
   (OpenSpec.preRow_of_cond 8 hx (by kernel_rfl) (fun k hk=>by cases hk) (by kernel_rfl) (sX os))) ?_
 intro W base args ds gs before hval0 hW _ hk0 hsz0 hL hSh _
 have hval:∀ (j:Nat) t v,Tryz.f3.params[j]?=some t→args[j]?=some v→Value.okWide Tryz.prog W .any base t v:=hval0
 have hW':=hW
 obtain ⟨p,q,hA0,hV,rfl,hfz,hnd⟩:=hW
 have hA:DataW.TrodAll enc Tryz.prog W 0 (fun _=>true) true Tryz.f3.params.toList args.toList ds p:=hA0
 have hsz:(DataW.weightsEach Tryz.prog (Tryz.f3.params.toList++Rows.confStartSpec.plain.varTypes Tryz.prog) (ds++gs)).all (·≤reachBytes)=true:=hsz0
 obtain ⟨rfl,rfl⟩:=trodVars_none hV
 rw [Tryz.params3] at hA hval hsz
 obtain ⟨args⟩:=args
 have hA1:DataW.TrodAll enc Tryz.prog W 0 (fun _=>true) true [27] args ds p:=hA
 clear hA
 obtain ⟨v0,w0,d0,e0,p0,q0,ea0,ed0,ep0,h0,hB0⟩:=trodAll_cons hA1
 subst ea0; subst ed0; subst ep0
 obtain ⟨ea,ed,ep⟩:=trodAll_nil hB0
 subst ea; subst ed; subst ep
 obtain ⟨x0,s0,b0⟩:=rV h0 (hval 0 27 v0 rfl rfl)
 have hsz':(d0.weights Tryz.prog 27++[]).all (·≤reachBytes)=true:=by
  simpa [DataW.weightsEach] using hsz
 simp only [aM] at hsz'
 have c0:=hsz'
 have r0:=b0 c0
 refine ((BZ x0 r0).law (W:=W) (GF hL hSh) (vs:=[v0]) (.cons s0 .nil)).mono fun e W' ⟨he,hb⟩=>?_
 exact ⟨_,he,vZ (tb:=4) laidOut (by kernel_rfl) (by kernel_rfl) Tryz.underlying4 rfl ⟨rfl,rfl,rfl⟩ (by rw [Tryz.params3]; intro t ht; simp at ht; rcases ht with rfl <;> exact ⟨by kernel_rfl,of_decide_eq_true (by kernel_rfl)⟩) hW' hb⟩
theorem uk:(Rows.confStartRow.inPlace==Tryz.pinned.checked.prog.inPlace 3)=true:=by kernel_rfl
theorem vN:(Rows.confStartRow.unfollowed==Tryz.pinned.checked.prog.unfollowed 3)=true:=by kernel_rfl
theorem vV:(Rows.confStartRow.recurses==Tryz.pinned.checked.prog.recurses 3)=true:=by kernel_rfl
theorem wb:(Rows.confStartRow.named==Tryz.pinned.checked.prog.varsNamed 3)=true:=by kernel_rfl
theorem oS:joinedFacts Tryz.pinned.checked.prog 3 Tryz.f3 (OpenSpec.ofChange Rows.confStartSpec).bare Rows.confStartRow=true:=by
 unfold joinedFacts
 rw [uk,vN,vV,wb]
 kernel_rfl
theorem rn:Rows.ConfStartSaid :=
 OpenClaim.holds_of_cond 3 Tryz.f3 rfl rfl rfl rfl rfl rfl rfl ⟨rfl,rfl,rfl,rfl,rfl⟩ rfl rfl rfl rfl rfl (by kernel_rfl) Tryz.func3 oS
  (of_decide_eq_true (by kernel_rfl)) (by unfold Func.isWrapper; first | (rw [if_pos (by decide +kernel)]; kernel_rfl) | (rw [if_neg (by decide +kernel)]; exact ⟨rfl,rfl⟩))
  (fun os started H enc _ F=>by rw [OpenClaim.pre_eq_preRow]; exact oT os started H enc F)
theorem pF (f:FuncId) (fn:Func) (hf:Tryz.pinned.checked.prog.funcNamed "quintain/quintainlaw10.ConfStart"=some f) (hfn:Tryz.pinned.checked.prog.funcs[f]?=some fn) :
 true=Tryz.pinned.checked.prog.looks []∧∀ (j:Nat) t,fn.params[j]?=some t→Tryz.pinned.checked.prog.wantsStandIn t=false:=by
 have e1:f=3:=(cY ((show Tryz.prog.funcNamed "quintain/quintainlaw10.ConfStart"=some 3 by kernel_rfl).symm.trans hf)).symm
 subst e1
 have e2:fn=Tryz.f3:=(cY (Tryz.func3.symm.trans hfn)).symm
 subst e2
 refine ⟨by kernel_rfl,fun j t ht=>?_⟩
 rw [Tryz.params3] at ht
 have hm:=Array.mem_of_getElem? ht
 simp at hm
 rcases hm with rfl
 all_goals first
  | exact (show Tryz.prog.wantsStandIn 27=false by kernel_rfl)
theorem confStart_holds:Rows.ConfStartCardSaid :=
 Claim7.holds_tied_plain_at .later [] _ _ _ _ rn (fun _ h=>by cases h) (by kernel_rfl) (fun _ h=>by cases h) confStart_row_tie rfl ⟨rfl,rfl⟩ (by kernel_rfl) rfl pF (by kernel_rfl)
#print axioms confStart_holds
end Go.Proofs.YtcopfgbbjdefbaaGreatDoor

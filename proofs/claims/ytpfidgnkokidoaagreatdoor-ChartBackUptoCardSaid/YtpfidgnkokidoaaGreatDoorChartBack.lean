/- The law ChartBack where what it reads is of bulk at most 1048576, whole, its card. Conditions: that bound, and the library's tables as they are laid. -/
import Derived.Test.YtpfidgnkokidoaaGreatDoorYo
namespace Go.Proofs.YtpfidgnkokidoaaGreatDoor
open Go Go.Ev Go.RowKit Go.ChangeShapes Go.WideShapes Go.ChangeAt
set_option maxRecDepth 100000
theorem yu (os:Os):laidMet Tryz.prog Rows.chartBackUptoRow.laid ((qK os).forCall (fun _ _=>0) ⟨#[],#[.agg #[.string .empty,.slice none 0 0,.slice none 0 0,.slice none 0 0,.slice none 0 0]],[]⟩).memory :=
 laidMet_of_run' 8 (by kernel_rfl) (by kernel_rfl)
theorem uI (os:Os) {H:Type} (enc:TypeId×Value→H):∃ places,DataW.whole enc Tryz.prog ((qK os).forCall (fun _ _=>0) ⟨#[],#[.agg #[.string .empty,.slice none 0 0,.slice none 0 0,.slice none 0 0,.slice none 0 0]],[]⟩).memory Tryz.f5.params.toList Rows.chartBackSpec.vars false #[Value.agg #[Value.string .empty,.slice none 0 0,.slice none 0 0,.slice none 0 0,.slice none 0 0]].toList 8=some ([.agg [.lit (.string []),.nil,.nil,.nil,.nil]],[],places) :=
 ⟨[],by kernel_rfl⟩
theorem tf (os:Os) (started:os.Started) (H:Type) (enc:TypeId×Value→H) (F:Stop.Interp) :
 ReturnsInHanded {} Tryz.checked os 5 .any ((Rows.OpenSpec.upto Rows.chartBackSpec).preRow enc Tryz.prog Tryz.f5 Rows.chartBackUptoRow.domain false Rows.chartBackUptoRow.laid) (((Rows.OpenSpec.upto Rows.chartBackSpec).at F).post enc Tryz.prog Tryz.f5 false true false false):=by
 obtain ⟨places,hx⟩:=uI os enc
 refine returnsInHanded_of_row (C:=Tryz.checked) (s:=(Rows.OpenSpec.upto Rows.chartBackSpec)) own started (by kernel_rfl) Tryz.func5
  (witness_row_at (enc:=enc) (C:=Tryz.checked) false (qK os) #[.agg #[.string .empty,.slice none 0 0,.slice none 0 0,.slice none 0 0,.slice none 0 0]] rfl (by kernel_rfl) (by kernel_rfl) (by kernel_rfl)
   (OpenSpec.preRow_of_cond 8 hx (by kernel_rfl) (fun k hk=>by cases hk; kernel_rfl) (by kernel_rfl) (yu os))) ?_
 intro W base args ds gs before hval0 hW _ hk0 hsz0 hL hSh _
 have hval:∀ (j:Nat) t v,Tryz.f5.params[j]?=some t→args[j]?=some v→Value.okWide Tryz.prog W .any base t v:=hval0
 have hW':=hW
 obtain ⟨p,q,hA0,hV,rfl,hfz,hnd⟩:=hW
 have hA:DataW.TrodAll enc Tryz.prog W 0 (fun _=>true) true Tryz.f5.params.toList args.toList ds p:=hA0
 have hsz:(DataW.weightsEach Tryz.prog (Tryz.f5.params.toList++Rows.chartBackSpec.plain.varTypes Tryz.prog) (ds++gs)).all (·≤reachBytes)=true:=hsz0
 obtain ⟨rfl,rfl⟩:=trodVars_none hV
 rw [Tryz.params5] at hA hval hsz
 obtain ⟨args⟩:=args
 have hA1:DataW.TrodAll enc Tryz.prog W 0 (fun _=>true) true [27] args ds p:=hA
 clear hA
 obtain ⟨v0,w0,d0,e0,p0,q0,ea0,ed0,ep0,h0,hB0⟩:=trodAll_cons hA1
 subst ea0; subst ed0; subst ep0
 obtain ⟨ea,ed,ep⟩:=trodAll_nil hB0
 subst ea; subst ed; subst ep
 obtain ⟨x0,s0,b0⟩:=IR h0 (hval 0 27 v0 rfl rfl)
 have hk:Rows.uptoBulkAll [d0]≤1048576:=of_decide_eq_true (by simpa [Rows.uptoSmall] using hk0 _ rfl)
 have hz:=J3 (B:=Rows.uptoBulk d0) b0 (by simpa [Rows.uptoBulkAll] using hk)
 refine ((yo x0 hz.1 hz.2.1 hz.2.2).law (W:=W) (Py hL hSh) (vs:=[v0]) (.cons s0 .nil)).mono fun e W' ⟨he,hb⟩=>?_
 exact ⟨_,he,JY (tb:=4) laidOut (by kernel_rfl) (by kernel_rfl) Tryz.underlying4 rfl ⟨rfl,rfl,rfl⟩ (by rw [Tryz.params5]; intro t ht; simp at ht; rcases ht with rfl <;> exact ⟨by kernel_rfl,of_decide_eq_true (by kernel_rfl)⟩) hW' hb⟩
theorem wH:Rows.ChartBackUptoSaid :=
 OpenClaim.holds_of_cond 5 Tryz.f5 rfl rfl rfl rfl rfl rfl rfl ⟨rfl,rfl,rfl,rfl,rfl⟩ rfl rfl rfl rfl rfl (by kernel_rfl) Tryz.func5 (by kernel_rfl)
  (of_decide_eq_true (by kernel_rfl)) (by unfold Func.isWrapper; first | (rw [if_pos (by decide +kernel)]; kernel_rfl) | (rw [if_neg (by decide +kernel)]; exact ⟨rfl,rfl⟩))
  (fun os started H enc _ F=>by rw [OpenClaim.pre_eq_preRow]; exact tf os started H enc F)
theorem uR (f:FuncId) (fn:Func) (hf:Tryz.pinned.checked.prog.funcNamed "quintain/quintainlaw08.ChartBack"=some f) (hfn:Tryz.pinned.checked.prog.funcs[f]?=some fn) :
 true=Tryz.pinned.checked.prog.looks []∧∀ (j:Nat) t,fn.params[j]?=some t→Tryz.pinned.checked.prog.wantsStandIn t=false:=by
 have e1:f=5:=(ar ((show Tryz.prog.funcNamed "quintain/quintainlaw08.ChartBack"=some 5 by kernel_rfl).symm.trans hf)).symm
 subst e1
 have e2:fn=Tryz.f5:=(ar (Tryz.func5.symm.trans hfn)).symm
 subst e2
 refine ⟨by kernel_rfl,fun j t ht=>?_⟩
 rw [Tryz.params5] at ht
 have hm:=Array.mem_of_getElem? ht
 simp at hm
 rcases hm with rfl
 all_goals first
  | exact (show Tryz.prog.wantsStandIn 27=false by kernel_rfl)
theorem chartBack_holds:Rows.ChartBackUptoCardSaid :=
 Claim7.holds_tied_plain_at .later [] _ _ _ _ wH (fun _ h=>by cases h) (by kernel_rfl) (fun _ h=>by cases h) chartBackUpto_row_tie rfl ⟨rfl,rfl⟩ (by kernel_rfl) rfl uR (by kernel_rfl)
#print axioms chartBack_holds
end Go.Proofs.YtpfidgnkokidoaaGreatDoor

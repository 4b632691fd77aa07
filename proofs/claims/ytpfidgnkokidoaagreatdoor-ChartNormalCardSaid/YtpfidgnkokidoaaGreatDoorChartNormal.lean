/- The law ChartNormal, whole, its card. Conditions: the library's tables as they are laid. -/
import Derived.Test.YtpfidgnkokidoaaGreatDoorLx
namespace Go.Proofs.YtpfidgnkokidoaaGreatDoor
open Go Go.Ev Go.RowKit Go.ChangeShapes Go.WideShapes Go.ChangeAt
set_option maxRecDepth 100000
theorem vR (os:Os):laidMet Tryz.prog Rows.chartNormalRow.laid ((qD os).forCall (fun _ _=>0) ⟨#[],#[.string .empty],[]⟩).memory :=
 laidMet_of_run' 8 (by kernel_rfl) (by kernel_rfl)
theorem sb (os:Os) {H:Type} (enc:TypeId×Value→H):∃ places,DataW.whole enc Tryz.prog ((qD os).forCall (fun _ _=>0) ⟨#[],#[.string .empty],[]⟩).memory Tryz.f6.params.toList Rows.chartNormalSpec.vars false #[Value.string .empty].toList 8=some ([.lit (.string [])],[],places) :=
 ⟨[],by kernel_rfl⟩
theorem qO (os:Os) (started:os.Started) (H:Type) (enc:TypeId×Value→H) (F:Stop.Interp) :
 ReturnsInHanded {} Tryz.checked os 6 .any ((OpenSpec.ofChange Rows.chartNormalSpec).preRow enc Tryz.prog Tryz.f6 Rows.chartNormalRow.domain false Rows.chartNormalRow.laid) (((OpenSpec.ofChange Rows.chartNormalSpec).at F).post enc Tryz.prog Tryz.f6 false true false false):=by
 obtain ⟨places,hx⟩:=sb os enc
 refine returnsInHanded_of_row (C:=Tryz.checked) (s:=(OpenSpec.ofChange Rows.chartNormalSpec)) own started (by kernel_rfl) Tryz.func6
  (witness_row_at (enc:=enc) (C:=Tryz.checked) false (qD os) #[.string .empty] rfl (by kernel_rfl) (by kernel_rfl) (by kernel_rfl)
   (OpenSpec.preRow_of_cond 8 hx (by kernel_rfl) (fun k hk=>by cases hk) (by kernel_rfl) (vR os))) ?_
 intro W base args ds gs before hval0 hW _ hk0 hsz0 hL hSh _
 have hval:∀ (j:Nat) t v,Tryz.f6.params[j]?=some t→args[j]?=some v→Value.okWide Tryz.prog W .any base t v:=hval0
 have hW':=hW
 obtain ⟨p,q,hA0,hV,rfl,hfz,hnd⟩:=hW
 have hA:DataW.TrodAll enc Tryz.prog W 0 (fun _=>true) true Tryz.f6.params.toList args.toList ds p:=hA0
 have hsz:(DataW.weightsEach Tryz.prog (Tryz.f6.params.toList++Rows.chartNormalSpec.plain.varTypes Tryz.prog) (ds++gs)).all (·≤reachBytes)=true:=hsz0
 obtain ⟨rfl,rfl⟩:=trodVars_none hV
 rw [Tryz.params6] at hA hval hsz
 obtain ⟨args⟩:=args
 have hA1:DataW.TrodAll enc Tryz.prog W 0 (fun _=>true) true [9] args ds p:=hA
 clear hA
 obtain ⟨v0,w0,d0,e0,p0,q0,ea0,ed0,ep0,h0,hB0⟩:=trodAll_cons hA1
 subst ea0; subst ed0; subst ep0
 obtain ⟨ea,ed,ep⟩:=trodAll_nil hB0
 subst ea; subst ed; subst ep
 obtain ⟨x0,s0,ex0⟩:=MJ h0 (hval 0 9 v0 rfl rfl)
 subst ex0
 refine ((ue x0).law (W:=W) (Pf hL hSh) (vs:=[v0]) (.cons s0 .nil)).mono fun e W' ⟨he,hb⟩=>?_
 exact ⟨_,he,I9 (tb:=4) laidOut (by kernel_rfl) (by kernel_rfl) Tryz.underlying4 rfl ⟨rfl,rfl,rfl⟩ (by rw [Tryz.params6]; intro t ht; simp at ht; rcases ht with rfl <;> exact ⟨by kernel_rfl,of_decide_eq_true (by kernel_rfl)⟩) hW' hb⟩
theorem tj:Rows.ChartNormalSaid :=
 OpenClaim.holds_of_cond 6 Tryz.f6 rfl rfl rfl rfl rfl rfl rfl ⟨rfl,rfl,rfl,rfl,rfl⟩ rfl rfl rfl rfl rfl (by kernel_rfl) Tryz.func6 (by kernel_rfl)
  (of_decide_eq_true (by kernel_rfl)) (by unfold Func.isWrapper; first | (rw [if_pos (by decide +kernel)]; kernel_rfl) | (rw [if_neg (by decide +kernel)]; exact ⟨rfl,rfl⟩))
  (fun os started H enc _ F=>by rw [OpenClaim.pre_eq_preRow]; exact qO os started H enc F)
theorem sa (f:FuncId) (fn:Func) (hf:Tryz.pinned.checked.prog.funcNamed "quintain/quintainlaw08.ChartNormal"=some f) (hfn:Tryz.pinned.checked.prog.funcs[f]?=some fn) :
 true=Tryz.pinned.checked.prog.looks []∧∀ (j:Nat) t,fn.params[j]?=some t→Tryz.pinned.checked.prog.wantsStandIn t=false:=by
 have e1:f=6:=(au ((show Tryz.prog.funcNamed "quintain/quintainlaw08.ChartNormal"=some 6 by kernel_rfl).symm.trans hf)).symm
 subst e1
 have e2:fn=Tryz.f6:=(au (Tryz.func6.symm.trans hfn)).symm
 subst e2
 refine ⟨by kernel_rfl,fun j t ht=>?_⟩
 rw [Tryz.params6] at ht
 have hm:=Array.mem_of_getElem? ht
 simp at hm
 rcases hm with rfl
 all_goals first
  | exact (show Tryz.prog.wantsStandIn 9=false by kernel_rfl)
theorem chartNormal_holds:Rows.ChartNormalCardSaid :=
 Claim7.holds_tied_plain_at .later [] _ _ _ _ tj (fun _ h=>by cases h) (by kernel_rfl) (fun _ h=>by cases h) chartNormal_row_tie rfl ⟨rfl,rfl⟩ (by kernel_rfl) rfl sa (by kernel_rfl)
#print axioms chartNormal_holds
end Go.Proofs.YtpfidgnkokidoaaGreatDoor

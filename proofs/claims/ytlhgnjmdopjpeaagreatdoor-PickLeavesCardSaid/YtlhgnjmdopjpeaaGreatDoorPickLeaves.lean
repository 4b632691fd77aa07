/- The law PickLeaves, whole, its card. Conditions: the library's tables as they are laid. -/
import Derived.Test.YtlhgnjmdopjpeaaGreatDoorGj
import Derived.Test.YtlhgnjmdopjpeaaGreatDoorMh
namespace Go.Proofs.YtlhgnjmdopjpeaaGreatDoor
open Go Go.Ev Go.RowKit Go.ChangeShapes Go.WideShapes Go.ChangeAt
set_option maxRecDepth 100000
theorem wx(os:Os):laidMet Tryz.prog Rows.pickLeavesRow.laid ((qI os).forCall (fun _ _=>0) ⟨#[],#[.agg #[.string .empty,.slice none 0 0,.slice none 0 0,.slice none 0 0,.slice none 0 0],.agg #[.slice none 0 0,.slice none 0 0],.int .i64 0],[]⟩).memory :=
 laidMet_of_run' 8 (by kernel_rfl) (by kernel_rfl)
theorem tA(os:Os){H:Type}(enc:TypeId×Value→H):∃places,DataW.whole enc Tryz.prog ((qI os).forCall (fun _ _=>0) ⟨#[],#[.agg #[.string .empty,.slice none 0 0,.slice none 0 0,.slice none 0 0,.slice none 0 0],.agg #[.slice none 0 0,.slice none 0 0],.int .i64 0],[]⟩).memory Tryz.f3.params.toList Rows.pickLeavesSpec.vars false #[Value.agg #[Value.string .empty,.slice none 0 0,.slice none 0 0,.slice none 0 0,.slice none 0 0],Value.agg #[Value.slice none 0 0,.slice none 0 0],Value.int .i64 0].toList 8=some ([.agg [.lit (.string []),.nil,.nil,.nil,.nil],.agg [.nil,.nil],.lit (.int .i64 0)],[],places) :=
 ⟨[],by kernel_rfl⟩
theorem sn(os:Os)(started:os.Started)(H:Type)(enc:TypeId×Value→H)(F:Stop.Interp) :
 ReturnsInHanded {} Tryz.checked os 3 .any ((OpenSpec.ofChange Rows.pickLeavesSpec).preRow enc Tryz.prog Tryz.f3 Rows.pickLeavesRow.domain false Rows.pickLeavesRow.laid) (((OpenSpec.ofChange Rows.pickLeavesSpec).at F).post enc Tryz.prog Tryz.f3 false true false false):=by
 obtain⟨places,hx⟩:=tA os enc
 refine returnsInHanded_of_row (C:=Tryz.checked) (s:=(OpenSpec.ofChange Rows.pickLeavesSpec)) own started (by kernel_rfl) Tryz.func3
  (witness_row_at (enc:=enc) (C:=Tryz.checked) false (qI os) #[.agg #[.string .empty,.slice none 0 0,.slice none 0 0,.slice none 0 0,.slice none 0 0],.agg #[.slice none 0 0,.slice none 0 0],.int .i64 0] rfl (by kernel_rfl) (by kernel_rfl) (by kernel_rfl)
   (OpenSpec.preRow_of_cond 8 hx (by kernel_rfl) (fun k hk=>by cases hk) (by kernel_rfl) (wx os))) ?_
 intro W base args ds gs before hval0 hW _ hk0 hsz0 hL hSh _
 have hval:∀(j:Nat) t v,Tryz.f3.params[j]?=some t→args[j]?=some v→Value.okWide Tryz.prog W .any base t v:=hval0
 have hW':=hW
 obtain⟨p,q,hA0,hV,rfl,hfz,hnd⟩:=hW
 have hA:DataW.TrodAll enc Tryz.prog W 0 (fun _=>true) true Tryz.f3.params.toList args.toList ds p:=hA0
 have hsz:(DataW.weightsEach Tryz.prog (Tryz.f3.params.toList++Rows.pickLeavesSpec.plain.varTypes Tryz.prog) (ds++gs)).all (·≤reachBytes)=true:=hsz0
 obtain⟨rfl,rfl⟩:=trodVars_none hV
 rw[Tryz.params3]at hA hval hsz
 obtain⟨args⟩:=args
 have hA1:DataW.TrodAll enc Tryz.prog W 0 (fun _=>true) true [27,31,3] args ds p:=hA
 clear hA
 obtain⟨v0,w0,d0,e0,p0,q0,ea0,ed0,ep0,h0,hB0⟩:=trodAll_cons hA1
 subst ea0;subst ed0;subst ep0
 obtain⟨v1,w1,d1,e1,p1,q1,ea1,ed1,ep1,h1,hB1⟩:=trodAll_cons hB0
 subst ea1;subst ed1;subst ep1
 obtain⟨v2,w2,d2,e2,p2,q2,ea2,ed2,ep2,h2,hB2⟩:=trodAll_cons hB1
 subst ea2;subst ed2;subst ep2
 obtain⟨ea,ed,ep⟩:=trodAll_nil hB2
 subst ea;subst ed;subst ep
 obtain⟨x0,s0,b0⟩:=H4 h0 (hval 0 27 v0 rfl rfl)
 obtain⟨x1,y1,s1,b1⟩:=PE h1 (hval 1 31 v1 rfl rfl)
 obtain⟨x2,s2,i2⟩:=Pj h2 (hval 2 3 v2 rfl rfl)
 have hsz':(d0.weights Tryz.prog 27++(d1.weights Tryz.prog 31++(d2.weights Tryz.prog 3++[]))).all (·≤reachBytes)=true:=by
  simpa[DataW.weightsEach]using hsz
 simp only[bE,aO,af]at hsz'
 obtain⟨c0,c1,c2⟩:=hsz'
 have r0:=b0 c0
 have r1:=b1 c1
 refine((BD x0 x1 y1 x2 r0 r1.1).law (W:=W) (R9 hL hSh) (vs:=[v0,v1,v2]) (.cons s0 (.cons s1 (.cons s2 .nil)))).mono fun e W' ⟨he,hb⟩=>?_
 exact⟨_,he,LZ (tb:=4) laidOut (by kernel_rfl) (by kernel_rfl) Tryz.underlying4 rfl ⟨rfl,rfl,rfl⟩ (by rw[Tryz.params3];intro t ht;simp at ht;rcases ht with rfl |rfl |rfl <;> exact⟨by kernel_rfl,of_decide_eq_true (by kernel_rfl)⟩) hW' hb⟩
theorem yl:(Rows.pickLeavesRow.inPlace==Tryz.pinned.checked.prog.inPlace 3)=true:=by kernel_rfl
theorem ym:(Rows.pickLeavesRow.unfollowed==Tryz.pinned.checked.prog.unfollowed 3)=true:=by kernel_rfl
theorem yn:(Rows.pickLeavesRow.recurses==Tryz.pinned.checked.prog.recurses 3)=true:=by kernel_rfl
theorem yo:(Rows.pickLeavesRow.named==Tryz.pinned.checked.prog.varsNamed 3)=true:=by kernel_rfl
theorem sl:joinedFacts Tryz.pinned.checked.prog 3 Tryz.f3 (OpenSpec.ofChange Rows.pickLeavesSpec).bare Rows.pickLeavesRow=true:=by
 unfold joinedFacts
 rw[yl,ym,yn,yo]
 kernel_rfl
theorem vv:Rows.PickLeavesSaid :=
 OpenClaim.holds_of_cond 3 Tryz.f3 rfl rfl rfl rfl rfl rfl rfl ⟨rfl,rfl,rfl,rfl,rfl⟩ rfl rfl rfl rfl rfl (by kernel_rfl) Tryz.func3 sl
  (of_decide_eq_true (by kernel_rfl)) (by unfold Func.isWrapper;first |(rw[if_pos (by decide +kernel)];kernel_rfl) |(rw[if_neg (by decide +kernel)];exact⟨rfl,rfl⟩))
  (fun os started H enc _ F=>by rw[OpenClaim.pre_eq_preRow];exact sn os started H enc F)
theorem tz (f:FuncId) (fn:Func) (hf:Tryz.pinned.checked.prog.funcNamed "quintain/quintainlaw11.PickLeaves"=some f) (hfn:Tryz.pinned.checked.prog.funcs[f]?=some fn) :
 true=Tryz.pinned.checked.prog.looks []∧∀(j:Nat) t,fn.params[j]?=some t→Tryz.pinned.checked.prog.wantsStandIn t=false:=by
 have e1:f=3:=(cF ((show Tryz.prog.funcNamed "quintain/quintainlaw11.PickLeaves"=some 3 by kernel_rfl).symm.trans hf)).symm
 subst e1
 have e2:fn=Tryz.f3:=(cF (Tryz.func3.symm.trans hfn)).symm
 subst e2
 refine⟨by kernel_rfl,fun j t ht=>?_⟩
 rw[Tryz.params3]at ht
 have hm:=Array.mem_of_getElem? ht
 simp at hm
 rcases hm with rfl |rfl |rfl
 all_goals first
  |exact(show Tryz.prog.wantsStandIn 27=false by kernel_rfl)
  |exact(show Tryz.prog.wantsStandIn 3=false by kernel_rfl)
  |exact(show Tryz.prog.wantsStandIn 31=false by kernel_rfl)
theorem pickLeaves_holds:Rows.PickLeavesCardSaid :=
 Claim7.holds_tied_plain_at .later [] _ _ _ _ vv (fun _ h=>by cases h) (by kernel_rfl) (fun _ h=>by cases h) pickLeaves_row_tie rfl ⟨rfl,rfl⟩ (by kernel_rfl) rfl tz (by kernel_rfl)
#print axioms pickLeaves_holds
end Go.Proofs.YtlhgnjmdopjpeaaGreatDoor

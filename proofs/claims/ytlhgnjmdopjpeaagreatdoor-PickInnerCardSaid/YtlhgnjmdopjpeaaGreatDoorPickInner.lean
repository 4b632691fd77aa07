/- The law PickInner, whole, its card. Conditions: the library's tables as they are laid. -/
import Derived.Test.YtlhgnjmdopjpeaaGreatDoorBu
import Derived.Test.YtlhgnjmdopjpeaaGreatDoorBv
import Derived.Test.YtlhgnjmdopjpeaaGreatDoorMh
namespace Go.Proofs.YtlhgnjmdopjpeaaGreatDoor
open Go Go.Ev Go.RowKit Go.ChangeShapes Go.WideShapes Go.ChangeAt
set_option maxRecDepth 100000
theorem yT(os:Os):laidMet Tryz.prog Rows.pickInnerRow.laid ((gS os).forCall (fun _ _=>0) ⟨#[],#[.agg #[.string .empty,.slice none 0 0,.slice none 0 0,.slice none 0 0,.slice none 0 0],.agg #[.slice none 0 0,.slice none 0 0],.string .empty],[]⟩).memory :=
 laidMet_of_run' 8 (by kernel_rfl) (by kernel_rfl)
theorem vM(os:Os){H:Type}(enc:TypeId×Value→H):∃places,DataW.whole enc Tryz.prog ((gS os).forCall (fun _ _=>0) ⟨#[],#[.agg #[.string .empty,.slice none 0 0,.slice none 0 0,.slice none 0 0,.slice none 0 0],.agg #[.slice none 0 0,.slice none 0 0],.string .empty],[]⟩).memory Tryz.f7.params.toList Rows.pickInnerSpec.vars false #[Value.agg #[Value.string .empty,.slice none 0 0,.slice none 0 0,.slice none 0 0,.slice none 0 0],Value.agg #[Value.slice none 0 0,.slice none 0 0],Value.string .empty].toList 8=some ([.agg [.lit (.string []),.nil,.nil,.nil,.nil],.agg [.nil,.nil],.lit (.string [])],[],places) :=
 ⟨[],by kernel_rfl⟩
theorem tP(os:Os)(started:os.Started)(H:Type)(enc:TypeId×Value→H)(F:Stop.Interp) :
 ReturnsInHanded {} Tryz.checked os 7 .any ((OpenSpec.ofChange Rows.pickInnerSpec).preRow enc Tryz.prog Tryz.f7 Rows.pickInnerRow.domain false Rows.pickInnerRow.laid) (((OpenSpec.ofChange Rows.pickInnerSpec).at F).post enc Tryz.prog Tryz.f7 false true false false):=by
 obtain⟨places,hx⟩:=vM os enc
 refine returnsInHanded_of_row (C:=Tryz.checked) (s:=(OpenSpec.ofChange Rows.pickInnerSpec)) own started (by kernel_rfl) Tryz.func7
  (witness_row_at (enc:=enc) (C:=Tryz.checked) false (gS os) #[.agg #[.string .empty,.slice none 0 0,.slice none 0 0,.slice none 0 0,.slice none 0 0],.agg #[.slice none 0 0,.slice none 0 0],.string .empty] rfl (by kernel_rfl) (by kernel_rfl) (by kernel_rfl)
   (OpenSpec.preRow_of_cond 8 hx (by kernel_rfl) (fun k hk=>by cases hk) (by kernel_rfl) (yT os))) ?_
 intro W base args ds gs before hval0 hW _ hk0 hsz0 hL hSh _
 have hval:∀(j:Nat) t v,Tryz.f7.params[j]?=some t→args[j]?=some v→Value.okWide Tryz.prog W .any base t v:=hval0
 have hW':=hW
 obtain⟨p,q,hA0,hV,rfl,hfz,hnd⟩:=hW
 have hA:DataW.TrodAll enc Tryz.prog W 0 (fun _=>true) true Tryz.f7.params.toList args.toList ds p:=hA0
 have hsz:(DataW.weightsEach Tryz.prog (Tryz.f7.params.toList++Rows.pickInnerSpec.plain.varTypes Tryz.prog) (ds++gs)).all (·≤reachBytes)=true:=hsz0
 obtain⟨rfl,rfl⟩:=trodVars_none hV
 rw[Tryz.params7]at hA hval hsz
 obtain⟨args⟩:=args
 have hA1:DataW.TrodAll enc Tryz.prog W 0 (fun _=>true) true [27,31,9] args ds p:=hA
 clear hA
 obtain⟨v0,w0,d0,e0,p0,q0,ea0,ed0,ep0,h0,hB0⟩:=trodAll_cons hA1
 subst ea0;subst ed0;subst ep0
 obtain⟨v1,w1,d1,e1,p1,q1,ea1,ed1,ep1,h1,hB1⟩:=trodAll_cons hB0
 subst ea1;subst ed1;subst ep1
 obtain⟨v2,w2,d2,e2,p2,q2,ea2,ed2,ep2,h2,hB2⟩:=trodAll_cons hB1
 subst ea2;subst ed2;subst ep2
 obtain⟨ea,ed,ep⟩:=trodAll_nil hB2
 subst ea;subst ed;subst ep
 obtain⟨x0,s0,b0⟩:=qh h0 (hval 0 27 v0 rfl rfl)
 obtain⟨x1,y1,s1,b1⟩:=wK h1 (hval 1 31 v1 rfl rfl)
 obtain⟨x2,s2,ex2⟩:=xg h2 (hval 2 9 v2 rfl rfl)
 subst ex2
 have hsz':(d0.weights Tryz.prog 27++(d1.weights Tryz.prog 31++((DataW.lit (.string x2):DataW H).weights Tryz.prog 9++[]))).all (·≤reachBytes)=true:=by
  simpa[DataW.weightsEach]using hsz
 simp only[bz,aO,af]at hsz'
 obtain⟨c0,c1,c2⟩:=hsz'
 have r0:=b0 c0
 have r1:=b1 c1
 refine((JF x0 x1 y1 x2 r0 r1.1 r1.2.2).law (W:=W) (Hq hL hSh) (vs:=[v0,v1,v2]) (.cons s0 (.cons s1 (.cons s2 .nil)))).mono fun e W' ⟨he,hb⟩=>?_
 exact⟨_,he,tD (tb:=4) laidOut (by kernel_rfl) (by kernel_rfl) Tryz.underlying4 rfl ⟨rfl,rfl,rfl⟩ (by rw[Tryz.params7];intro t ht;simp at ht;rcases ht with rfl |rfl |rfl <;> exact⟨by kernel_rfl,of_decide_eq_true (by kernel_rfl)⟩) hW' hb⟩
theorem Cm:(Rows.pickInnerRow.inPlace==Tryz.pinned.checked.prog.inPlace 7)=true:=by kernel_rfl
theorem Cn:(Rows.pickInnerRow.unfollowed==Tryz.pinned.checked.prog.unfollowed 7)=true:=by kernel_rfl
theorem Co:(Rows.pickInnerRow.recurses==Tryz.pinned.checked.prog.recurses 7)=true:=by kernel_rfl
theorem Cp:(Rows.pickInnerRow.named==Tryz.pinned.checked.prog.varsNamed 7)=true:=by kernel_rfl
theorem tO:joinedFacts Tryz.pinned.checked.prog 7 Tryz.f7 (OpenSpec.ofChange Rows.pickInnerSpec).bare Rows.pickInnerRow=true:=by
 unfold joinedFacts
 rw[Cm,Cn,Co,Cp]
 kernel_rfl
theorem wU:Rows.PickInnerSaid :=
 OpenClaim.holds_of_cond 7 Tryz.f7 rfl rfl rfl rfl rfl rfl rfl ⟨rfl,rfl,rfl,rfl,rfl⟩ rfl rfl rfl rfl rfl (by kernel_rfl) Tryz.func7 tO
  (of_decide_eq_true (by kernel_rfl)) (by unfold Func.isWrapper;first |(rw[if_pos (by decide +kernel)];kernel_rfl) |(rw[if_neg (by decide +kernel)];exact⟨rfl,rfl⟩))
  (fun os started H enc _ F=>by rw[OpenClaim.pre_eq_preRow];exact tP os started H enc F)
theorem vL (f:FuncId) (fn:Func) (hf:Tryz.pinned.checked.prog.funcNamed "quintain/quintainlaw11.PickInner"=some f) (hfn:Tryz.pinned.checked.prog.funcs[f]?=some fn) :
 true=Tryz.pinned.checked.prog.looks []∧∀(j:Nat) t,fn.params[j]?=some t→Tryz.pinned.checked.prog.wantsStandIn t=false:=by
 have e1:f=7:=(bX ((show Tryz.prog.funcNamed "quintain/quintainlaw11.PickInner"=some 7 by kernel_rfl).symm.trans hf)).symm
 subst e1
 have e2:fn=Tryz.f7:=(bX (Tryz.func7.symm.trans hfn)).symm
 subst e2
 refine⟨by kernel_rfl,fun j t ht=>?_⟩
 rw[Tryz.params7]at ht
 have hm:=Array.mem_of_getElem? ht
 simp at hm
 rcases hm with rfl |rfl |rfl
 all_goals first
  |exact(show Tryz.prog.wantsStandIn 27=false by kernel_rfl)
  |exact(show Tryz.prog.wantsStandIn 31=false by kernel_rfl)
  |exact(show Tryz.prog.wantsStandIn 9=false by kernel_rfl)
theorem pickInner_holds:Rows.PickInnerCardSaid :=
 Claim7.holds_tied_plain_at .later [] _ _ _ _ wU (fun _ h=>by cases h) (by kernel_rfl) (fun _ h=>by cases h) pickInner_row_tie rfl ⟨rfl,rfl⟩ (by kernel_rfl) rfl vL (by kernel_rfl)
#print axioms pickInner_holds
end Go.Proofs.YtlhgnjmdopjpeaaGreatDoor

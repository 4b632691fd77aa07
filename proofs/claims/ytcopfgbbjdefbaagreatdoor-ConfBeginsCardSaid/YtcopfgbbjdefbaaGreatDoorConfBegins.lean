/- The law ConfBegins, whole, its card. Conditions: the library's tables as they are laid. -/
import Derived.Test.YtcopfgbbjdefbaaGreatDoorCp
namespace Go.Proofs.YtcopfgbbjdefbaaGreatDoor
open Go Go.Ev Go.RowKit Go.ChangeShapes Go.WideShapes Go.ChangeAt
set_option maxRecDepth 100000
theorem q8 (os:Os):laidMet Tryz.prog Rows.confBeginsRow.laid ((gT os).forCall (fun _ _=>0) ⟨#[],#[.agg #[.string .empty,.slice none 0 0,.slice none 0 0,.slice none 0 0,.slice none 0 0],.int .i64 0],[]⟩).memory :=
 laidMet_of_run' 8 (by kernel_rfl) (by kernel_rfl)
theorem pf (os:Os) {H:Type} (enc:TypeId×Value→H):∃ places,DataW.whole enc Tryz.prog ((gT os).forCall (fun _ _=>0) ⟨#[],#[.agg #[.string .empty,.slice none 0 0,.slice none 0 0,.slice none 0 0,.slice none 0 0],.int .i64 0],[]⟩).memory Tryz.f6.params.toList Rows.confBeginsSpec.vars false #[Value.agg #[Value.string .empty,.slice none 0 0,.slice none 0 0,.slice none 0 0,.slice none 0 0],Value.int .i64 0].toList 8=some ([.agg [.lit (.string []),.nil,.nil,.nil,.nil],.lit (.int .i64 0)],[],places) :=
 ⟨[],by kernel_rfl⟩
theorem om (os:Os) (started:os.Started) (H:Type) (enc:TypeId×Value→H) (F:Stop.Interp) :
 ReturnsInHanded {} Tryz.checked os 6 .any ((OpenSpec.ofChange Rows.confBeginsSpec).preRow enc Tryz.prog Tryz.f6 Rows.confBeginsRow.domain false Rows.confBeginsRow.laid) (((OpenSpec.ofChange Rows.confBeginsSpec).at F).post enc Tryz.prog Tryz.f6 false true false false):=by
 obtain ⟨places,hx⟩:=pf os enc
 refine returnsInHanded_of_row (C:=Tryz.checked) (s:=(OpenSpec.ofChange Rows.confBeginsSpec)) own started (by kernel_rfl) Tryz.func6
  (witness_row_at (enc:=enc) (C:=Tryz.checked) false (gT os) #[.agg #[.string .empty,.slice none 0 0,.slice none 0 0,.slice none 0 0,.slice none 0 0],.int .i64 0] rfl (by kernel_rfl) (by kernel_rfl) (by kernel_rfl)
   (OpenSpec.preRow_of_cond 8 hx (by kernel_rfl) (fun k hk=>by cases hk) (by kernel_rfl) (q8 os))) ?_
 intro W base args ds gs before hval0 hW _ hk0 hsz0 hL hSh _
 have hval:∀ (j:Nat) t v,Tryz.f6.params[j]?=some t→args[j]?=some v→Value.okWide Tryz.prog W .any base t v:=hval0
 have hW':=hW
 obtain ⟨p,q,hA0,hV,rfl,hfz,hnd⟩:=hW
 have hA:DataW.TrodAll enc Tryz.prog W 0 (fun _=>true) true Tryz.f6.params.toList args.toList ds p:=hA0
 have hsz:(DataW.weightsEach Tryz.prog (Tryz.f6.params.toList++Rows.confBeginsSpec.plain.varTypes Tryz.prog) (ds++gs)).all (·≤reachBytes)=true:=hsz0
 obtain ⟨rfl,rfl⟩:=trodVars_none hV
 rw [Tryz.params6] at hA hval hsz
 obtain ⟨args⟩:=args
 have hA1:DataW.TrodAll enc Tryz.prog W 0 (fun _=>true) true [27,3] args ds p:=hA
 clear hA
 obtain ⟨v0,w0,d0,e0,p0,q0,ea0,ed0,ep0,h0,hB0⟩:=trodAll_cons hA1
 subst ea0; subst ed0; subst ep0
 obtain ⟨v1,w1,d1,e1,p1,q1,ea1,ed1,ep1,h1,hB1⟩:=trodAll_cons hB0
 subst ea1; subst ed1; subst ep1
 obtain ⟨ea,ed,ep⟩:=trodAll_nil hB1
 subst ea; subst ed; subst ep
 obtain ⟨x0,s0,b0⟩:=rV h0 (hval 0 27 v0 rfl rfl)
 obtain ⟨x1,s1,i1⟩:=GQ h1 (hval 1 3 v1 rfl rfl)
 have hsz':(d0.weights Tryz.prog 27++(d1.weights Tryz.prog 3++[])).all (·≤reachBytes)=true:=by
  simpa [DataW.weightsEach] using hsz
 simp only [bt,aM,ae] at hsz'
 obtain ⟨c0,c1⟩:=hsz'
 have r0:=b0 c0
 refine ((AR x0 x1 r0).law (W:=W) (GF hL hSh) (vs:=[v0,v1]) (.cons s0 (.cons s1 .nil))).mono fun e W' ⟨he,hb⟩=>?_
 exact ⟨_,he,vZ (tb:=4) laidOut (by kernel_rfl) (by kernel_rfl) Tryz.underlying4 rfl ⟨rfl,rfl,rfl⟩ (by rw [Tryz.params6]; intro t ht; simp at ht; rcases ht with rfl | rfl <;> exact ⟨by kernel_rfl,of_decide_eq_true (by kernel_rfl)⟩) hW' hb⟩
theorem sO:(Rows.confBeginsRow.inPlace==Tryz.pinned.checked.prog.inPlace 6)=true:=by kernel_rfl
theorem s7:(Rows.confBeginsRow.unfollowed==Tryz.pinned.checked.prog.unfollowed 6)=true:=by kernel_rfl
theorem s6:(Rows.confBeginsRow.recurses==Tryz.pinned.checked.prog.recurses 6)=true:=by kernel_rfl
theorem sZ:(Rows.confBeginsRow.named==Tryz.pinned.checked.prog.varsNamed 6)=true:=by kernel_rfl
theorem oj:joinedFacts Tryz.pinned.checked.prog 6 Tryz.f6 (OpenSpec.ofChange Rows.confBeginsSpec).bare Rows.confBeginsRow=true:=by
 unfold joinedFacts
 rw [sO,s7,s6,sZ]
 kernel_rfl
theorem qc:Rows.ConfBeginsSaid :=
 OpenClaim.holds_of_cond 6 Tryz.f6 rfl rfl rfl rfl rfl rfl rfl ⟨rfl,rfl,rfl,rfl,rfl⟩ rfl rfl rfl rfl rfl (by kernel_rfl) Tryz.func6 oj
  (of_decide_eq_true (by kernel_rfl)) (by unfold Func.isWrapper; first | (rw [if_pos (by decide +kernel)]; kernel_rfl) | (rw [if_neg (by decide +kernel)]; exact ⟨rfl,rfl⟩))
  (fun os started H enc _ F=>by rw [OpenClaim.pre_eq_preRow]; exact om os started H enc F)
theorem oV (f:FuncId) (fn:Func) (hf:Tryz.pinned.checked.prog.funcNamed "quintain/quintainlaw10.ConfBegins"=some f) (hfn:Tryz.pinned.checked.prog.funcs[f]?=some fn) :
 true=Tryz.pinned.checked.prog.looks []∧∀ (j:Nat) t,fn.params[j]?=some t→Tryz.pinned.checked.prog.wantsStandIn t=false:=by
 have e1:f=6:=(cY ((show Tryz.prog.funcNamed "quintain/quintainlaw10.ConfBegins"=some 6 by kernel_rfl).symm.trans hf)).symm
 subst e1
 have e2:fn=Tryz.f6:=(cY (Tryz.func6.symm.trans hfn)).symm
 subst e2
 refine ⟨by kernel_rfl,fun j t ht=>?_⟩
 rw [Tryz.params6] at ht
 have hm:=Array.mem_of_getElem? ht
 simp at hm
 rcases hm with rfl | rfl
 all_goals first
  | exact (show Tryz.prog.wantsStandIn 27=false by kernel_rfl)
  | exact (show Tryz.prog.wantsStandIn 3=false by kernel_rfl)
theorem confBegins_holds:Rows.ConfBeginsCardSaid :=
 Claim7.holds_tied_plain_at .later [] _ _ _ _ qc (fun _ h=>by cases h) (by kernel_rfl) (fun _ h=>by cases h) confBegins_row_tie rfl ⟨rfl,rfl⟩ (by kernel_rfl) rfl oV (by kernel_rfl)
#print axioms confBegins_holds
end Go.Proofs.YtcopfgbbjdefbaaGreatDoor

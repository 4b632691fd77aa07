/- Contracts: the program's reader of charts: lines of a state's own. Conditions: sizes. -/
import Derived.Test.YtpfidgnkokidoaaGreatDoorWh
import Derived.Test.YtpfidgnkokidoaaGreatDoorUh
import Derived.Test.YtpfidgnkokidoaaGreatDoorDa
namespace Go.Proofs.YtpfidgnkokidoaaGreatDoor
open Go Go.Ev
set_option maxRecDepth 100000
/-! ### the state whose line it is -/
theorem fx {c:Chart} {d:Int} (hf:Fit c 6001):(dG c d=true↔c.states.length≠0∧d=(ETy.get .stat c.states (c.states.length - 1)).depth+1):=by
 unfold dG
 by_cases h:c.states.length=0
 · rw [b4.1 h]; simp
 · rw [mJ h]; simp only [beq_iff_eq]
   exact ⟨fun e=>⟨h,e⟩,fun e=>e.2⟩
theorem L5 {c:Chart} {d:Int} (hf:Fit c 6001):(((c.states.length:Int)==0)||d != IntKind.wrap .i64 ((ETy.get .stat c.states (IntKind.wrap .i64 ((c.states.length:Int) - 1)).toNat).depth+1)) = !dG c d:=by
 have hs:=hf.states
 rw [cM,aC,← ez,fx hf]
 by_cases h:c.states.length=0
 · rw [h]; simp
 · have hd:=tG hf h
   have h0:((c.states.length:Int)==0)=false:=by rw [beq_eq_false_iff_ne]; omega
   rw [l7 h (by omega),bf,cI (by omega) (by omega),h0,dT]
   simp [h]
variable (c:Chart) (l:List Ev.Stat) (d:Int) (j:Nat) (a:Chart) (w:List Str)
abbrev zWo1 (b:Int):List Chunk:=[.cells [.pd (.str a.name),.own 1,.own 2,.own 3,.own 4,.i b] 45,.own 9 .str a.events,.own 61 .var a.vars,.own 64 .stat a.states,.own 68 .tran a.trans]
theorem Lb (hf:Fit c 6001) (Γ:Ctx):J Tryz.prog 83 (aH Tryz.f83) Γ (fun v k=>k=rdK c d∧(dG c d=true→v = .x (.c (.oat 3 (c.states.length - 1) 6 0)))∧(dG c d=false→v = .x (.c (.pd (.v (.pointer none)))))) [.code []] (cL Tryz.f83.ntmps [.c (.loc 0 0)] (rdK c d)):=by
 refine jg bH Tryz.func83 (let x1:=(c.states.length:Int); let x2:List Chunk:=(zWo1 c d); let x3:=(IntKind.wrap .i64 (x1 - 1)); let x4:=(((2,12,false,iS false (x1==0) none).2).2); .need (x4.2→(0:Int)≤IntKind.wrap .i64 (x1 - 1)∧IntKind.wrap .i64 (x1 - 1)<x1) (.need (x4.2→x3.toNat<c.states.length) (.ite (x1==0||d != IntKind.wrap .i64 (Stat.depth (ETy.get .stat c.states (x3.toNat))+(1:Int))) (.ret (.p (.v (Value.pointer none))) x2) (.need ((0:Int)≤IntKind.wrap .i64 (x1 - 1)∧IntKind.wrap .i64 (x1 - 1)<x1) (.ret (.x (.c (.oat 3 (x3.toNat) 6 0))) x2))))) ?_
 conv=>zeta
 have hs:=hf.states
 have hz:c.states.length≠0→0≤IntKind.wrap .i64 ((c.states.length:Int) - 1)∧IntKind.wrap .i64 ((c.states.length:Int) - 1)<(c.states.length:Int):=fun h=>by rw [l7 h (by omega)]; omega
 rw [L5 hf]
 have hon:∀ b:Bool,iS false b none→b=false:=fun b h=>by simpa [iS] using h
 have hne:(((c.states.length:Int)==0)=false)→c.states.length≠0:=fun h e=>by rw [e] at h; simp at h
 refine ⟨fun h=>hz (hne (hon _ h)),fun h=>?_,fun h=>?_,fun h=>?_⟩
 · have h1:=hne (hon _ h)
   rw [l7 h1 (by omega),bf]; omega
 · exact ⟨rfl,fun e=>(by rw [e] at h; cases h),fun _=>rfl⟩
 · have ho:dG c d=true:=nf h
   have h1:=((fx hf).1 ho).1
   refine ⟨hz h1,rfl,fun _=>?_,fun e=>(by rw [ho] at e; cases e)⟩
   rw [l7 h1 (by omega),bf]
theorem M0 (hf:Fit c 6001) (h:dG c d=true):ak Tryz.prog 83 [.c (.loc 0 0)] (rdK c d) (.x (.c (.oat 3 (c.states.length - 1) 6 0))) (rdK c d) :=
 ak.of Tryz.func83 (by kernel_rfl) (by kernel_rfl) fun Γ=>J.mono (fun v k q=>⟨q.2.1 h,q.1⟩) (Lb c d hf Γ)
theorem IJ (hf:Fit c 6001) (h:dG c d=false):ak Tryz.prog 83 [.c (.loc 0 0)] (rdK c d) (.x (.c (.pd (.v (.pointer none))))) (rdK c d) :=
 ak.of Tryz.func83 (by kernel_rfl) (by kernel_rfl) fun Γ=>J.mono (fun v k q=>⟨q.2.2 h,q.1⟩) (Lb c d hf Γ)
def j3:Ent:=(83,fun
 | [.c (.loc 0 0)],[.cells [.pd (.str nm),.own 1,.own 2,.own 3,.own 4,.pd (.int .i64 d)] 45,.own 9 .str ev,.own 61 .var vs,.own 64 .stat st,.own 68 .tran tr]=>some (some (Fit ⟨nm,ev,vs,st,tr⟩ 6001∧dG ⟨nm,ev,vs,st,tr⟩ d=true),.x (.c (.oat 3 (st.length - 1) 6 0)),[.cells [.pd (.str nm),.own 1,.own 2,.own 3,.own 4,.pd (.int .i64 d)] 45,.own 9 .str ev,.own 61 .var vs,.own 64 .stat st,.own 68 .tran tr])
 | _,_=>none)
theorem ja:EntOk Tryz.prog j3:=entOk fun vs ck=>by
 unfold j3; dsimp only; split
 · rename_i nm d ev vs st tr; exact entS fun hp=>M0 ⟨nm,ev,vs,st,tr⟩ d hp.1 hp.2
 · exact entN
def rQ:Ent:=(83,fun
 | [.c (.loc 0 0)],[.cells [.pd (.str nm),.own 1,.own 2,.own 3,.own 4,.pd (.int .i64 d)] 45,.own 9 .str ev,.own 61 .var vs,.own 64 .stat st,.own 68 .tran tr]=>some (some (Fit ⟨nm,ev,vs,st,tr⟩ 6001∧dG ⟨nm,ev,vs,st,tr⟩ d=false),.x (.c (.pd (.v (.pointer none)))),[.cells [.pd (.str nm),.own 1,.own 2,.own 3,.own 4,.pd (.int .i64 d)] 45,.own 9 .str ev,.own 61 .var vs,.own 64 .stat st,.own 68 .tran tr])
 | _,_=>none)
theorem tz:EntOk Tryz.prog rQ:=entOk fun vs ck=>by
 unfold rQ; dsimp only; split
 · rename_i nm d ev vs st tr; exact entS fun hp=>IJ ⟨nm,ev,vs,st,tr⟩ d hp.1 hp.2
 · exact entN
/-! ### blocks -/
noncomputable def pw:Cfg:=⟨bu,[wO]⟩
theorem kF:ai Tryz.prog pw.tab:=(ai.cons vW ai.nil)
noncomputable def Et:Cfg:=⟨bu,[wm]⟩
theorem Bk:ai Tryz.prog Et.tab:=(ai.cons wg ai.nil)
abbrev zWo4:List PI:=[.ops [1,1,1,0] 3,.code [1,1,1,1]]
theorem O0 (hj:j<l.length) (hw:w.length=1) (he:(ETy.get .stat l j).entry=[]) (hr:aY (an w 0)):ak Tryz.prog 84 [.c (.oat 0 j 6 4),.l .str w] [.own 64 .stat l] (.x (.b true)) [.own 64 .stat (l.set j { ETy.get .stat l j with entry:=(aL (an w 0)).1 })]:=by
 refine ak.renum Tryz.func84 (by kernel_rfl) (by kernel_rfl) rfl fun Γ=>?_
 refine jg kF Tryz.func84 (.need (((w.length:Int) != 1)=false→j<l.length) (.ite ((w.length:Int) != 1||decide ((↑((Stat.entry (ETy.get .stat l j)).length):Int)>0)) (.ret (.p (.bool false)) [.own 64 .stat l]) (.need (inRg 0 w.length) (.need (aY (ETy.get .str w 0)) (.stop zWo4 { n:=29,fr:=[(4,.p (.bool false)),(6,.i 0),(25,.x (.c (.own 1))),(26,.x (.c (.oat 0 j 6 4)))],ck:=[.own 64 .stat l,.own 90 .deed ((aL (ETy.get .str w 0)).1)],kn:=[4],m:=1 }))))) ?_
 refine ⟨fun _=>hj,fun h=>?_,fun _=>⟨⟨by omega,by omega⟩,hr,?_⟩⟩
 · rw [hw,he] at h; exact absurd h (by decide)
 · have hz:J Tryz.prog 84 (aH Tryz.f84) Γ (fun v c=>v = .x (.b true)∧Rn 1 c [.own 64 .stat (l.set j { ETy.get .stat l j with entry:=(aL (an w 0)).1 })]) zWo4 ({ n:=29,fr:=[(4,.p (.bool false)),(6,.i 0),(25,.p (.lst .deed ((aL (an w 0)).1))),(26,.x (.c (.oat 0 j 6 4)))],ck:=[.own 64 .stat l,.dead],kn:=[4],m:=1 }):=by
    refine jg kF Tryz.func84 (.need (j<l.length) (.ret (.p (.bool true)) [.own 64 .stat (List.set l j { name:=Stat.name (ETy.get .stat l j),kind:=Stat.kind (ETy.get .stat l j),depth:=Stat.depth (ETy.get .stat l j),initial:=Stat.initial (ETy.get .stat l j),entry:=(aL (an w 0)).1,leave:=Stat.leave (ETy.get .stat l j) })])) ?_
    exact ⟨hj,rfl,Rn.refl 1 _⟩
   exact J.freeze bu [1] (by kernel_rfl) hz
theorem O3 (hj:j<l.length) (h:¬(w.length=1∧(ETy.get .stat l j).entry=[]∧aY (an w 0))):ak Tryz.prog 84 [.c (.oat 0 j 6 4),.l .str w] [.own 64 .stat l] (.x (.b false)) [.dead]:=by
 have h1:∀ x:List Deed,decide ((x.length:Int)>0)=false→x=[]:=fun x hx=>b4.1 (by have:=of_decide_eq_false hx; omega)
 by_cases hr:aY (an w 0)
 · refine ak.lost 1 Tryz.func84 (by kernel_rfl) (by kernel_rfl) rfl fun Γ=>?_
   refine jg kF Tryz.func84 (.need (((w.length:Int) != 1)=false→j<l.length) (.ite ((w.length:Int) != 1||decide ((↑((Stat.entry (ETy.get .stat l j)).length):Int)>0)) (.ret (.p (.bool false)) [.own 64 .stat l]) (.need (inRg 0 w.length) (.need (aY (ETy.get .str w 0)) (.stop zWo4 { n:=29,fr:=[(4,.p (.bool false)),(6,.i 0),(25,.x (.c (.own 1))),(26,.x (.c (.oat 0 j 6 4)))],ck:=[.own 64 .stat l,.own 90 .deed ((aL (ETy.get .str w 0)).1)],kn:=[4],m:=1 }))))) ?_
   refine ⟨fun _=>hj,fun _=>rfl,fun hb=>?_⟩
   rw [aI] at hb
   exact absurd ⟨by
    have:(w.length:Int)=1:=by simpa using hb.1
    omega,h1 _ hb.2,hr⟩ h
 · refine ak.lost 1 Tryz.func84 (by kernel_rfl) (by kernel_rfl) rfl fun Γ=>?_
   refine jg Bk Tryz.func84 (.need (((w.length:Int) != 1)=false→j<l.length) (.ite ((w.length:Int) != 1||decide ((↑((Stat.entry (ETy.get .stat l j)).length):Int)>0)) (.ret (.p (.bool false)) [.own 64 .stat l]) (.need (inRg 0 w.length) (.need (¬aY (ETy.get .str w 0)) (.need (j<l.length) (.ret (.p (.bool ((aL (ETy.get .str w 0)).2==(0:Int)))) [.own 64 .stat (List.set l j { name:=Stat.name (ETy.get .stat l j),kind:=Stat.kind (ETy.get .stat l j),depth:=Stat.depth (ETy.get .stat l j),initial:=Stat.initial (ETy.get .stat l j),entry:=[],leave:=Stat.leave (ETy.get .stat l j) })])))))) ?_
   refine ⟨fun _=>hj,fun _=>rfl,fun hb=>?_⟩
   rw [aI] at hb
   have hl:w.length=1:=by
    have:(w.length:Int)=1:=by simpa using hb.1
    omega
   refine ⟨⟨by omega,by omega⟩,hr,hj,?_⟩
   have:((aL (an w 0)).2==0)=false:=by rw [beq_eq_false_iff_ne]; exact hr
   show SV.x (.b ((aL (an w 0)).2==0))=_
   rw [this]
theorem O2 (hj:j<l.length) (hw:w.length=1) (he:(ETy.get .stat l j).leave=[]) (hr:aY (an w 0)):ak Tryz.prog 84 [.c (.oat 0 j 6 5),.l .str w] [.own 64 .stat l] (.x (.b true)) [.own 64 .stat (l.set j { ETy.get .stat l j with leave:=(aL (an w 0)).1 })]:=by
 refine ak.renum Tryz.func84 (by kernel_rfl) (by kernel_rfl) rfl fun Γ=>?_
 refine jg kF Tryz.func84 (.need (((w.length:Int) != 1)=false→j<l.length) (.ite ((w.length:Int) != 1||decide ((↑((Stat.leave (ETy.get .stat l j)).length):Int)>0)) (.ret (.p (.bool false)) [.own 64 .stat l]) (.need (inRg 0 w.length) (.need (aY (ETy.get .str w 0)) (.stop zWo4 { n:=29,fr:=[(4,.p (.bool false)),(6,.i 0),(25,.x (.c (.own 1))),(26,.x (.c (.oat 0 j 6 5)))],ck:=[.own 64 .stat l,.own 90 .deed ((aL (ETy.get .str w 0)).1)],kn:=[4],m:=1 }))))) ?_
 refine ⟨fun _=>hj,fun h=>?_,fun _=>⟨⟨by omega,by omega⟩,hr,?_⟩⟩
 · rw [hw,he] at h; exact absurd h (by decide)
 · have hz:J Tryz.prog 84 (aH Tryz.f84) Γ (fun v c=>v = .x (.b true)∧Rn 1 c [.own 64 .stat (l.set j { ETy.get .stat l j with leave:=(aL (an w 0)).1 })]) zWo4 ({ n:=29,fr:=[(4,.p (.bool false)),(6,.i 0),(25,.p (.lst .deed ((aL (an w 0)).1))),(26,.x (.c (.oat 0 j 6 5)))],ck:=[.own 64 .stat l,.dead],kn:=[4],m:=1 }):=by
    refine jg kF Tryz.func84 (.need (j<l.length) (.ret (.p (.bool true)) [.own 64 .stat (List.set l j { name:=Stat.name (ETy.get .stat l j),kind:=Stat.kind (ETy.get .stat l j),depth:=Stat.depth (ETy.get .stat l j),initial:=Stat.initial (ETy.get .stat l j),entry:=Stat.entry (ETy.get .stat l j),leave:=(aL (an w 0)).1 })])) ?_
    exact ⟨hj,rfl,Rn.refl 1 _⟩
   exact J.freeze bu [1] (by kernel_rfl) hz
theorem O6 (hj:j<l.length) (h:¬(w.length=1∧(ETy.get .stat l j).leave=[]∧aY (an w 0))):ak Tryz.prog 84 [.c (.oat 0 j 6 5),.l .str w] [.own 64 .stat l] (.x (.b false)) [.dead]:=by
 have h1:∀ x:List Deed,decide ((x.length:Int)>0)=false→x=[]:=fun x hx=>b4.1 (by have:=of_decide_eq_false hx; omega)
 by_cases hr:aY (an w 0)
 · refine ak.lost 1 Tryz.func84 (by kernel_rfl) (by kernel_rfl) rfl fun Γ=>?_
   refine jg kF Tryz.func84 (.need (((w.length:Int) != 1)=false→j<l.length) (.ite ((w.length:Int) != 1||decide ((↑((Stat.leave (ETy.get .stat l j)).length):Int)>0)) (.ret (.p (.bool false)) [.own 64 .stat l]) (.need (inRg 0 w.length) (.need (aY (ETy.get .str w 0)) (.stop zWo4 { n:=29,fr:=[(4,.p (.bool false)),(6,.i 0),(25,.x (.c (.own 1))),(26,.x (.c (.oat 0 j 6 5)))],ck:=[.own 64 .stat l,.own 90 .deed ((aL (ETy.get .str w 0)).1)],kn:=[4],m:=1 }))))) ?_
   refine ⟨fun _=>hj,fun _=>rfl,fun hb=>?_⟩
   rw [aI] at hb
   exact absurd ⟨by
    have:(w.length:Int)=1:=by simpa using hb.1
    omega,h1 _ hb.2,hr⟩ h
 · refine ak.lost 1 Tryz.func84 (by kernel_rfl) (by kernel_rfl) rfl fun Γ=>?_
   refine jg Bk Tryz.func84 (.need (((w.length:Int) != 1)=false→j<l.length) (.ite ((w.length:Int) != 1||decide ((↑((Stat.leave (ETy.get .stat l j)).length):Int)>0)) (.ret (.p (.bool false)) [.own 64 .stat l]) (.need (inRg 0 w.length) (.need (¬aY (ETy.get .str w 0)) (.need (j<l.length) (.ret (.p (.bool ((aL (ETy.get .str w 0)).2==(0:Int)))) [.own 64 .stat (List.set l j { name:=Stat.name (ETy.get .stat l j),kind:=Stat.kind (ETy.get .stat l j),depth:=Stat.depth (ETy.get .stat l j),initial:=Stat.initial (ETy.get .stat l j),entry:=Stat.entry (ETy.get .stat l j),leave:=[] })])))))) ?_
   refine ⟨fun _=>hj,fun _=>rfl,fun hb=>?_⟩
   rw [aI] at hb
   have hl:w.length=1:=by
    have:(w.length:Int)=1:=by simpa using hb.1
    omega
   refine ⟨⟨by omega,by omega⟩,hr,hj,?_⟩
   have:((aL (an w 0)).2==0)=false:=by rw [beq_eq_false_iff_ne]; exact hr
   show SV.x (.b ((aL (an w 0)).2==0))=_
   rw [this]
noncomputable def Ec:Ent:=(84,fun
 | [.c (.oat 0 j 6 4),.c (.pd (.lst .str w))],[.own 64 .stat l]=>some (some (j<l.length∧w.length=1∧(ETy.get .stat l j).entry=[]∧aY (an w 0)),.x (.c (.pd (.bool true))),[.own 64 .stat (l.set j { ETy.get .stat l j with entry:=(aL (an w 0)).1 })])
 | _,_=>none)
theorem Ma:EntOk Tryz.prog Ec:=entOk fun vs ck=>by
 unfold Ec; dsimp only; split
 · rename_i j w l; exact entS fun hp=>O0 l j w hp.1 hp.2.1 hp.2.2.1 hp.2.2.2
 · exact entN
noncomputable def ER:Ent:=(84,fun
 | [.c (.oat 0 j 6 4),.c (.pd (.lst .str w))],[.own 64 .stat l]=>some (some (j<l.length∧¬(w.length=1∧(ETy.get .stat l j).entry=[]∧aY (an w 0))),.x (.c (.pd (.bool false))),[.dead])
 | _,_=>none)
theorem Mf:EntOk Tryz.prog ER:=entOk fun vs ck=>by
 unfold ER; dsimp only; split
 · rename_i j w l; exact entS fun hp=>O3 l j w hp.1 hp.2
 · exact entN
noncomputable def Ee:Ent:=(84,fun
 | [.c (.oat 0 j 6 5),.c (.pd (.lst .str w))],[.own 64 .stat l]=>some (some (j<l.length∧w.length=1∧(ETy.get .stat l j).leave=[]∧aY (an w 0)),.x (.c (.pd (.bool true))),[.own 64 .stat (l.set j { ETy.get .stat l j with leave:=(aL (an w 0)).1 })])
 | _,_=>none)
theorem M4:EntOk Tryz.prog Ee:=entOk fun vs ck=>by
 unfold Ee; dsimp only; split
 · rename_i j w l; exact entS fun hp=>O2 l j w hp.1 hp.2.1 hp.2.2.1 hp.2.2.2
 · exact entN
noncomputable def Fe:Ent:=(84,fun
 | [.c (.oat 0 j 6 5),.c (.pd (.lst .str w))],[.own 64 .stat l]=>some (some (j<l.length∧¬(w.length=1∧(ETy.get .stat l j).leave=[]∧aY (an w 0))),.x (.c (.pd (.bool false))),[.dead])
 | _,_=>none)
theorem LU:EntOk Tryz.prog Fe:=entOk fun vs ck=>by
 unfold Fe; dsimp only; split
 · rename_i j w l; exact entS fun hp=>O6 l j w hp.1 hp.2
 · exact entN
theorem Au {l:List Ev.Stat} (h:l.length≠0) (s:Ev.Stat):l.set (l.length - 1) s=l.dropLast++[s]:=by
 have hne:l≠[]:=fun e=>h (by rw [e]; rfl)
 conv=>lhs; rw [← List.dropLast_concat_getLast hne]
 rw [fK _ _ (by simp)]
 simp
/-! ### entry -/
noncomputable def rz:Cfg:=⟨bu,[j3,Ec]⟩
theorem nk:ai Tryz.prog rz.tab:=(ai.cons ja (ai.cons Ma ai.nil))
noncomputable def rm:Cfg:=⟨bu,[j3,ER]⟩
theorem mY:ai Tryz.prog rm.tab:=(ai.cons ja (ai.cons Mf ai.nil))
def tY:Cfg:=⟨bu,[rQ]⟩
theorem qR:ai Tryz.prog tY.tab:=(ai.cons tz ai.nil)
theorem A7 {c:Chart} {d:Int} {w:List Str} (hf:Fit c 6001):(dG c d=true∧(w.length=1∧(ETy.get .stat c.states (c.states.length - 1)).entry=[]∧aY (an w 0))→iu c d w=some { c with states:=c.states.set (c.states.length - 1) { ETy.get .stat c.states (c.states.length - 1) with entry:=(aL (an w 0)).1 } })∧(¬(dG c d=true∧(w.length=1∧(ETy.get .stat c.states (c.states.length - 1)).entry=[]∧aY (an w 0)))→iu c d w=none):=by
 unfold iu
 by_cases h:c.states.length=0
 · have h1:c.states.getLast?=none:=by rw [b4.1 h]; rfl
   rw [h1]
   exact ⟨fun h2=>absurd h ((fx hf).1 h2.1).1,fun _=>rfl⟩
 · rw [mJ h]
   simp only
   refine ⟨fun hc=>?_,fun hc=>?_⟩
   · rw [if_pos ⟨((fx hf).1 hc.1).2,hc.2⟩,Au h]
   · rw [if_neg]
     rintro ⟨h2,h3⟩
     exact hc ⟨(fx hf).2 ⟨h,h2⟩,h3⟩
abbrev zWo2 (a:List Str) (b:Chart) (c:Int):ST:={ n:=17,fr:=[(1,.p (.lst .str a)),(4,.p (.bool false)),(5,.x (.c (.oat 3 (b.states.length - 1) 6 0))),(8,.x (.c (.oat 3 (b.states.length - 1) 6 0)))],ck:=(zWo1 b c),kn:=[4],m:=5 }
abbrev zWo5 (b:List Str) (c:Int):ST:={ n:=17,fr:=[(4,.p (.bool false)),(10,.p (.bool true)),(13,.grd 10 true (.c (.oat 3 (a.states.length - 1) 6 4))),(14,.grd 10 true (.p (.lst .str b)))],ck:=(zWo1 a c),kn:=[4],m:=5 }
abbrev zWo7 (b:Int):Chunk:=.cells [.pd (.str a.name),.own 1,.own 2,.own 3,.own 4,SC.i b] 45
abbrev zWo8 (b:Int):Chunk:=.cells [.pd (.str a.name),.own 1,.own 2,.own 3,.own 4,.i b] 45
abbrev zWo9:List PI:=[.ops [1,1,0] 1,.code [1,1,1]]
abbrev zWo10:List PI:=[.ops [1,1,0] 8,.code [1,1,1]]
theorem OW (hf:Fit c 6001) (h:(iu c d w).isSome=true):ak Tryz.prog 44 [.c (.loc 0 0),.l .str w] (rdK c d) (.x (.b true)) (ckR (got (iu c d w)) d):=by
 have hpl:=A7 (d:=d) (w:=w) hf
 by_cases hc:dG c d=true∧(w.length=1∧(ETy.get .stat c.states (c.states.length - 1)).entry=[]∧aY (an w 0))
 · have hpl:=hpl.1 hc
   rw [hpl]
   refine ak.isR Tryz.func44 (by kernel_rfl) (by kernel_rfl) rfl fun Γ=>?_
   have h1:=((fx hf).1 hc.1).1
   refine jg nk Tryz.func44 (.need (Fit c 6001∧dG c d=true) (.stop zWo9 (zWo2 w c d))) ?_
   refine ⟨⟨hf,hc.1⟩,J.ptrNil (d:=9) (b:=true) (by kernel_rfl) ?_⟩
   refine jg nk Tryz.func44 (.stop [.ops [1,1,0] 7,.code [1,1,1]] (zWo5 c w d)) ?_
   have hz:J Tryz.prog 44 (aH Tryz.f44) Γ (IsR { c with states:=c.states.set (c.states.length - 1) { ETy.get .stat c.states (c.states.length - 1) with entry:=(aL (an w 0)).1 } } d) zWo10 ({ n:=17,fr:=[(4,.p (.bool false)),(10,.p (.bool true)),(13,.x (.c (.oat 3 (c.states.length - 1) 6 4))),(14,.p (.lst .str w)),(15,.p (.bool true))],ck:=[zWo7 c d,.own 9 .str c.events,.own 61 .var c.vars,.own 64 .stat (c.states.set (c.states.length - 1) { ETy.get .stat c.states (c.states.length - 1) with entry:=(aL (an w 0)).1 }),.own 68 .tran c.trans],kn:=[4],m:=5 }):=by
    refine jg nk Tryz.func44 (.ret (.p (.bool true)) [zWo8 c d,.own 9 .str c.events,.own 61 .var c.vars,.own 64 .stat (List.set c.states (c.states.length - 1) (let __src:=ETy.get .stat c.states (c.states.length - 1); { name:=__src.name,kind:=__src.kind,depth:=__src.depth,initial:=__src.initial,entry:=(aL (an w 0)).1,leave:=__src.leave })),.own 68 .tran c.trans]) ?_
    exact IsR.of0 rfl
   exact J.on (cfg:=rz) nk (q:=some (c.states.length - 1<c.states.length∧w.length=1∧(ETy.get .stat c.states (c.states.length - 1)).entry=[]∧aY (an w 0))) (by kernel_rfl) (by exact ⟨by omega,hc.2⟩) hz
 · rw [hpl.2 hc] at h; cases h
abbrev zWo3 (a:List Str) (b:Chart) (c:Int):ST:={ n:=17,fr:=[(1,.p (.lst .str a)),(4,.p (.bool false)),(10,.p (.bool false)),(11,.grd 10 true (.p (.v (Value.pointer none)))),(12,.grd 10 true (.p (.bool false))),(13,.grd 10 true (.p (.bool false))),(14,.grd 10 true (.p (.bool false))),(15,.grd 10 true (.p (.bool false)))],ck:=(zWo1 b c),kn:=[4],m:=5 }
abbrev zWo11 (a:List Str) (b:Chart) (c:Int):ST:={ n:=17,fr:=[(1,.p (.lst .str a)),(4,.p (.bool false)),(10,.p (.bool false)),(11,.grd 10 true (.p (.v (Value.pointer none))))],ck:=(zWo1 b c),kn:=[4],m:=5 }
abbrev zWo12 (a:List Str) (b:Chart) (c:Int):ST:={ n:=17,fr:=[(1,.p (.lst .str a)),(4,.p (.bool false)),(5,.p (.v (Value.pointer none))),(8,.p (.v (Value.pointer none)))],ck:=(zWo1 b c),kn:=[4],m:=5 }
theorem OY (hf:Fit c 6001) (h:(iu c d w).isSome=false):ak Tryz.prog 44 [.c (.loc 0 0),.l .str w] (rdK c d) (.x (.b false)) [.dead,.dead,.dead,.dead,.dead]:=by
 have hpl:=A7 (d:=d) (w:=w) hf
 refine ak.lost 5 Tryz.func44 (by kernel_rfl) (by kernel_rfl) rfl fun Γ=>?_
 cases ho:dG c d
 · refine jg qR Tryz.func44 (.need (Fit c 6001∧dG c d=false) (.stop zWo9 (zWo12 w c d))) ?_
   refine ⟨⟨hf,ho⟩,J.ptrNil (d:=9) (b:=false) (by kernel_rfl) ?_⟩
   refine jg qR Tryz.func44 (.stop [.ops [1,1,0] 4,.code [1,1,1]] (zWo11 w c d)) ?_
   have hz:J Tryz.prog 44 (aH Tryz.f44) Γ (fun v _=>v = .x (.b false)) zWo10 ((zWo3 w c d)):=by
    refine jg qR Tryz.func44 (.ret (.p (.bool false)) (zWo1 c d)) ?_
    rfl
   exact J.off 4 4 (by kernel_rfl) hz
 · have h1:=((fx hf).1 ho).1
   refine jg mY Tryz.func44 (.need (Fit c 6001∧dG c d=true) (.stop zWo9 (zWo2 w c d))) ?_
   refine ⟨⟨hf,ho⟩,J.ptrNil (d:=9) (b:=true) (by kernel_rfl) ?_⟩
   refine jg mY Tryz.func44 (.stop [.ops [1,1,0] 7,.code [1,1,1]] (zWo5 c w d)) ?_
   have hz:J Tryz.prog 44 (aH Tryz.f44) Γ (fun v _=>v = .x (.b false)) zWo10 ({ n:=17,fr:=[(4,.p (.bool false)),(10,.p (.bool true)),(13,.x (.c (.oat 3 (c.states.length - 1) 6 4))),(14,.p (.lst .str w)),(15,.p (.bool false))],ck:=[zWo7 c d,.own 9 .str c.events,.own 61 .var c.vars,.dead,.own 68 .tran c.trans],kn:=[4],m:=5 }):=by
    refine jg mY Tryz.func44 (.ret (.p (.bool false)) [zWo8 c d,.own 9 .str c.events,.own 61 .var c.vars,.dead,.own 68 .tran c.trans]) ?_
    rfl
   exact J.on (cfg:=rm) mY (q:=some (c.states.length - 1<c.states.length∧¬(w.length=1∧(ETy.get .stat c.states (c.states.length - 1)).entry=[]∧aY (an w 0)))) (by kernel_rfl) (by exact ⟨by omega,fun hc=>by rw [hpl.1 ⟨ho,hc⟩] at h; cases h⟩) hz
/-! ### exit -/
noncomputable def qh:Cfg:=⟨bu,[j3,Ee]⟩
theorem mX:ai Tryz.prog qh.tab:=(ai.cons ja (ai.cons M4 ai.nil))
noncomputable def rv:Cfg:=⟨bu,[j3,Fe]⟩
theorem mV:ai Tryz.prog rv.tab:=(ai.cons ja (ai.cons LU ai.nil))
def vj:Cfg:=⟨bu,[rQ]⟩
theorem qf:ai Tryz.prog vj.tab:=(ai.cons tz ai.nil)
theorem AK {c:Chart} {d:Int} {w:List Str} (hf:Fit c 6001):(dG c d=true∧(w.length=1∧(ETy.get .stat c.states (c.states.length - 1)).leave=[]∧aY (an w 0))→ju c d w=some { c with states:=c.states.set (c.states.length - 1) { ETy.get .stat c.states (c.states.length - 1) with leave:=(aL (an w 0)).1 } })∧(¬(dG c d=true∧(w.length=1∧(ETy.get .stat c.states (c.states.length - 1)).leave=[]∧aY (an w 0)))→ju c d w=none):=by
 unfold ju
 by_cases h:c.states.length=0
 · have h1:c.states.getLast?=none:=by rw [b4.1 h]; rfl
   rw [h1]
   exact ⟨fun h2=>absurd h ((fx hf).1 h2.1).1,fun _=>rfl⟩
 · rw [mJ h]
   simp only
   refine ⟨fun hc=>?_,fun hc=>?_⟩
   · rw [if_pos ⟨((fx hf).1 hc.1).2,hc.2⟩,Au h]
   · rw [if_neg]
     rintro ⟨h2,h3⟩
     exact hc ⟨(fx hf).2 ⟨h,h2⟩,h3⟩
abbrev zWo6 (b:List Str) (c:Int):ST:={ n:=17,fr:=[(4,.p (.bool false)),(10,.p (.bool true)),(13,.grd 10 true (.c (.oat 3 (a.states.length - 1) 6 5))),(14,.grd 10 true (.p (.lst .str b)))],ck:=(zWo1 a c),kn:=[4],m:=5 }
theorem OQ (hf:Fit c 6001) (h:(ju c d w).isSome=true):ak Tryz.prog 45 [.c (.loc 0 0),.l .str w] (rdK c d) (.x (.b true)) (ckR (got (ju c d w)) d):=by
 have hpl:=AK (d:=d) (w:=w) hf
 by_cases hc:dG c d=true∧(w.length=1∧(ETy.get .stat c.states (c.states.length - 1)).leave=[]∧aY (an w 0))
 · have hpl:=hpl.1 hc
   rw [hpl]
   refine ak.isR Tryz.func45 (by kernel_rfl) (by kernel_rfl) rfl fun Γ=>?_
   have h1:=((fx hf).1 hc.1).1
   refine jg mX Tryz.func45 (.need (Fit c 6001∧dG c d=true) (.stop zWo9 (zWo2 w c d))) ?_
   refine ⟨⟨hf,hc.1⟩,J.ptrNil (d:=9) (b:=true) (by kernel_rfl) ?_⟩
   refine jg mX Tryz.func45 (.stop [.ops [1,1,0] 7,.code [1,1,1]] (zWo6 c w d)) ?_
   have hz:J Tryz.prog 45 (aH Tryz.f45) Γ (IsR { c with states:=c.states.set (c.states.length - 1) { ETy.get .stat c.states (c.states.length - 1) with leave:=(aL (an w 0)).1 } } d) zWo10 ({ n:=17,fr:=[(4,.p (.bool false)),(10,.p (.bool true)),(13,.x (.c (.oat 3 (c.states.length - 1) 6 5))),(14,.p (.lst .str w)),(15,.p (.bool true))],ck:=[zWo7 c d,.own 9 .str c.events,.own 61 .var c.vars,.own 64 .stat (c.states.set (c.states.length - 1) { ETy.get .stat c.states (c.states.length - 1) with leave:=(aL (an w 0)).1 }),.own 68 .tran c.trans],kn:=[4],m:=5 }):=by
    refine jg mX Tryz.func45 (.ret (.p (.bool true)) [zWo8 c d,.own 9 .str c.events,.own 61 .var c.vars,.own 64 .stat (List.set c.states (c.states.length - 1) (let __src:=ETy.get .stat c.states (c.states.length - 1); { name:=__src.name,kind:=__src.kind,depth:=__src.depth,initial:=__src.initial,entry:=__src.entry,leave:=(aL (an w 0)).1 })),.own 68 .tran c.trans]) ?_
    exact IsR.of0 rfl
   exact J.on (cfg:=qh) mX (q:=some (c.states.length - 1<c.states.length∧w.length=1∧(ETy.get .stat c.states (c.states.length - 1)).leave=[]∧aY (an w 0))) (by kernel_rfl) (by exact ⟨by omega,hc.2⟩) hz
 · rw [hpl.2 hc] at h; cases h
theorem Pe (hf:Fit c 6001) (h:(ju c d w).isSome=false):ak Tryz.prog 45 [.c (.loc 0 0),.l .str w] (rdK c d) (.x (.b false)) [.dead,.dead,.dead,.dead,.dead]:=by
 have hpl:=AK (d:=d) (w:=w) hf
 refine ak.lost 5 Tryz.func45 (by kernel_rfl) (by kernel_rfl) rfl fun Γ=>?_
 cases ho:dG c d
 · refine jg qf Tryz.func45 (.need (Fit c 6001∧dG c d=false) (.stop zWo9 (zWo12 w c d))) ?_
   refine ⟨⟨hf,ho⟩,J.ptrNil (d:=9) (b:=false) (by kernel_rfl) ?_⟩
   refine jg qf Tryz.func45 (.stop [.ops [1,1,0] 4,.code [1,1,1]] (zWo11 w c d)) ?_
   have hz:J Tryz.prog 45 (aH Tryz.f45) Γ (fun v _=>v = .x (.b false)) zWo10 ((zWo3 w c d)):=by
    refine jg qf Tryz.func45 (.ret (.p (.bool false)) (zWo1 c d)) ?_
    rfl
   exact J.off 4 4 (by kernel_rfl) hz
 · have h1:=((fx hf).1 ho).1
   refine jg mV Tryz.func45 (.need (Fit c 6001∧dG c d=true) (.stop zWo9 (zWo2 w c d))) ?_
   refine ⟨⟨hf,ho⟩,J.ptrNil (d:=9) (b:=true) (by kernel_rfl) ?_⟩
   refine jg mV Tryz.func45 (.stop [.ops [1,1,0] 7,.code [1,1,1]] (zWo6 c w d)) ?_
   have hz:J Tryz.prog 45 (aH Tryz.f45) Γ (fun v _=>v = .x (.b false)) zWo10 ({ n:=17,fr:=[(4,.p (.bool false)),(10,.p (.bool true)),(13,.x (.c (.oat 3 (c.states.length - 1) 6 5))),(14,.p (.lst .str w)),(15,.p (.bool false))],ck:=[zWo7 c d,.own 9 .str c.events,.own 61 .var c.vars,.dead,.own 68 .tran c.trans],kn:=[4],m:=5 }):=by
    refine jg mV Tryz.func45 (.ret (.p (.bool false)) [zWo8 c d,.own 9 .str c.events,.own 61 .var c.vars,.dead,.own 68 .tran c.trans]) ?_
    rfl
   exact J.on (cfg:=rv) mV (q:=some (c.states.length - 1<c.states.length∧¬(w.length=1∧(ETy.get .stat c.states (c.states.length - 1)).leave=[]∧aY (an w 0)))) (by kernel_rfl) (by exact ⟨by omega,fun hc=>by rw [hpl.1 ⟨ho,hc⟩] at h; cases h⟩) hz
end Go.Proofs.YtpfidgnkokidoaaGreatDoor

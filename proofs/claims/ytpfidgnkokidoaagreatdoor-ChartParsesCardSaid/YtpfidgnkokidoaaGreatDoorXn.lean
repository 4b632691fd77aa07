/- Contracts: the document's reader of charts: heads as entries. Conditions: sizes. Contracts: the document's reader of charts: entry and exit lines. Conditions: sizes. -/
import Derived.Test.YtpfidgnkokidoaaGreatDoorXk
import Derived.Test.YtpfidgnkokidoaaGreatDoorWo
import Derived.Test.YtpfidgnkokidoaaGreatDoorWa
import Derived.Test.YtpfidgnkokidoaaGreatDoorWp
namespace Go.Proofs.YtpfidgnkokidoaaGreatDoor
open Go Go.Ev
set_option maxRecDepth 100000
variable {f:FuncId} {fn:Func} {args:List SX} (c:Chart) {ck:List Chunk} (w:List Str)
theorem r8 {o:Option Chart} (hf:Tryz.prog.funcs[f]?=some fn) (hb:fn.body.isSome=true) (hn:Nat.ble args.length fn.ntmps=true) (hl:ck.length=5)
 (h:∀ Γ,J Tryz.prog f (az fn) Γ (bL o) [.code []] (bX fn.ntmps args ck)) (ho:o.isSome=true):ak Tryz.prog f args ck (.x (.b true)) (ckD (got o)):=by
 obtain ⟨c',rfl⟩:=cC.1 ho
 exact ak.isD hf hb hn hl fun Γ=>J.mono (fun v k q=>q.1 c' rfl) (h Γ)
theorem tX {o:Option Chart} (hf:Tryz.prog.funcs[f]?=some fn) (hb:fn.body.isSome=true) (hn:Nat.ble args.length fn.ntmps=true)
 (h:∀ Γ,J Tryz.prog f (az fn) Γ (bL o) [.code []] (bX fn.ntmps args ck)) (ho:o.isSome=false):ak Tryz.prog f args ck (.x (.b false)) [.dead,.dead,.dead,.dead,.dead] :=
 ak.lost 5 hf hb hn rfl fun Γ=>J.mono (fun v k q=>q.2 (by cases o with | none=>rfl | some c=>cases ho)) (h Γ)
theorem Ot (hf:Fit c 6001) (hs:c.states=[]) (h0:0<w.length) (hl:∀ x∈w,x.length≤1000000) (hk:kindOf (ag w 0)=0) (h:(bF c 0 (ag w 0) (w.drop 1)).isSome=true):ak Tryz.prog 52 [.c (.loc 0 0),.l .str w] (fW c) (.x (.b true)) (ckD (got (bF c 0 (ag w 0) (w.drop 1)))):=by
 rw [vE hs hk] at h ⊢
 exact r8 Tryz.func52 (by kernel_rfl) (by kernel_rfl) rfl (Od c w hf hs h0 hl) h
theorem OS (hf:Fit c 6001) (hs:c.states=[]) (h0:0<w.length) (hl:∀ x∈w,x.length≤1000000) (hk:kindOf (ag w 0)=0) (h:(bF c 0 (ag w 0) (w.drop 1)).isSome=false):ak Tryz.prog 52 [.c (.loc 0 0),.l .str w] (fW c) (.x (.b false)) [.dead,.dead,.dead,.dead,.dead]:=by
 rw [vE hs hk] at h
 exact tX Tryz.func52 (by kernel_rfl) (by kernel_rfl) (Od c w hf hs h0 hl) h
noncomputable def De:Ent:=(52,fun
 | [.c (.loc 0 0),.c (.pd (.lst .str w))],[.cells [.pd (.str nm),.own 1,.own 2,.own 3,.own 4] 27,.own 9 .str ev,.own 61 .var vs,.own 64 .stat st,.own 68 .tran tr]=>some (some (Fit ⟨nm,ev,vs,st,tr⟩ 6001∧st=[]∧0<w.length∧(∀ x∈w,x.length≤1000000)∧kindOf (ag w 0)=0∧(bF ⟨nm,ev,vs,st,tr⟩ 0 (ag w 0) (w.drop 1)).isSome=true),.x (.c (.pd (.bool true))),[.cells [.pd (.str (got (bF ⟨nm,ev,vs,st,tr⟩ 0 (ag w 0) (w.drop 1))).name),.own 5,.own 6,.own 7,.own 8] 27,.dead,.dead,.dead,.dead,.own 9 .str (got (bF ⟨nm,ev,vs,st,tr⟩ 0 (ag w 0) (w.drop 1))).events,.own 61 .var (got (bF ⟨nm,ev,vs,st,tr⟩ 0 (ag w 0) (w.drop 1))).vars,.own 64 .stat (got (bF ⟨nm,ev,vs,st,tr⟩ 0 (ag w 0) (w.drop 1))).states,.own 68 .tran (got (bF ⟨nm,ev,vs,st,tr⟩ 0 (ag w 0) (w.drop 1))).trans])
 | _,_=>none)
theorem Mv:EntOk Tryz.prog De:=entOk fun vs ck=>by
 unfold De; dsimp only; split
 · rename_i w nm ev vs st tr; exact entS fun hp=>Ot ⟨nm,ev,vs,st,tr⟩ w hp.1 hp.2.1 hp.2.2.1 hp.2.2.2.1 hp.2.2.2.2.1 hp.2.2.2.2.2
 · exact entN
noncomputable def CJ:Ent:=(52,fun
 | [.c (.loc 0 0),.c (.pd (.lst .str w))],[.cells [.pd (.str nm),.own 1,.own 2,.own 3,.own 4] 27,.own 9 .str ev,.own 61 .var vs,.own 64 .stat st,.own 68 .tran tr]=>some (some (Fit ⟨nm,ev,vs,st,tr⟩ 6001∧st=[]∧0<w.length∧(∀ x∈w,x.length≤1000000)∧kindOf (ag w 0)=0∧(bF ⟨nm,ev,vs,st,tr⟩ 0 (ag w 0) (w.drop 1)).isSome=false),.x (.c (.pd (.bool false))),[.dead,.dead,.dead,.dead,.dead])
 | _,_=>none)
theorem K8:EntOk Tryz.prog CJ:=entOk fun vs ck=>by
 unfold CJ; dsimp only; split
 · rename_i w nm ev vs st tr; exact entS fun hp=>OS ⟨nm,ev,vs,st,tr⟩ w hp.1 hp.2.1 hp.2.2.1 hp.2.2.2.1 hp.2.2.2.2.1 hp.2.2.2.2.2
 · exact entN
end Go.Proofs.YtpfidgnkokidoaaGreatDoor
namespace Go.Proofs.YtpfidgnkokidoaaGreatDoor
open Go Go.Ev
set_option maxRecDepth 100000
abbrev zJ53Xn:=J Tryz.prog 53 (az Tryz.f53)
noncomputable def ue:Cfg:=⟨a6,[qH]⟩
theorem oS:ah Tryz.prog ue.tab:=(ah.cons rI ah.nil)
noncomputable def HF:Cfg:=⟨a6,[qk]⟩
theorem FU:ah Tryz.prog HF.tab:=(ah.cons rX ah.nil)
noncomputable def iY (c:Chart) (d:Int) (w:List Str):Option Chart:=if ag w 0=gr then fI c d (w.drop 1) else if ag w 0=iG then gz c d (w.drop 1) else if ag w 0=wOn then onC c d (w.drop 1) else none
variable {c:Chart} {d:Int} {w:List Str}
theorem Hk (hs:c.states.length≠0) (h:kindOf (ag w 0)=0):bF c d (ag w 0) (w.drop 1)=iY c d w:=by
 obtain ⟨h1,h2,h3,h4,h5,h6⟩:=pV h
 have hh:∀ n,de c d (w.drop 1) n=false:=fun n=>by
  cases e:de c d (w.drop 1) n
  · rfl
  · unfold de at e
    simp only [af,beq_iff_eq] at e
    exact absurd e.1.1.2 (by omega)
 have e1:gR c d (w.drop 1)=none:=if_neg (by rw [hh]; decide)
 have e2:jO c d (w.drop 1)=none:=if_neg fun x=>by rw [hh] at x; exact absurd x.1 (by decide)
 have e3:iI c d (w.drop 1)=none:=if_neg fun x=>by rw [hh] at x; exact absurd x.1 (by decide)
 have e4:gd c d (w.drop 1)=none:=(kQ _ _ _).2 fun x=>by rw [hh] at x; exact absurd x.1 (by decide)
 unfold bF iY
 simp only [if_neg h1,if_neg h2,if_neg h3,if_neg h4,if_neg h5,if_neg h6,e1,e2,e3,e4]
 by_cases k1:ag w 0=iD
 · rw [if_pos k1,k1]; rfl
 by_cases k2:ag w 0=jd
 · rw [if_neg k1,if_pos k2,k2]; rfl
 by_cases k3:ag w 0=jC
 · rw [if_neg k1,if_neg k2,if_pos k3,k3]; rfl
 by_cases k4:ag w 0=gT
 · rw [if_neg k1,if_neg k2,if_neg k3,if_pos k4,k4]; rfl
 rw [if_neg k1,if_neg k2,if_neg k3,if_neg k4]
theorem ox (hs:c.states.length≠0):cB c d=(d==(ETy.get .stat c.states (c.states.length - 1)).depth+1):=by
 unfold cB; rw [iu hs]
theorem sh (hs:c.states.length≠0) :
 (cB c d=true∧w.length=1∧(ETy.get .stat c.states (c.states.length - 1)).entry=[]∧aK (ag w 0)→fI c d w=some { c with states:=c.states.set (c.states.length - 1) { ETy.get .stat c.states (c.states.length - 1) with entry:=(aF (ag w 0)).1 } }) ∧
 (¬(cB c d=true∧w.length=1∧(ETy.get .stat c.states (c.states.length - 1)).entry=[]∧aK (ag w 0))→fI c d w=none):=by
 unfold fI
 rw [iu hs,ox hs]
 simp only [beq_iff_eq]
 refine ⟨fun h=>?_,fun h=>if_neg h⟩
 rw [if_pos h,nA hs]
theorem vJ (hs:c.states.length≠0) :
 (cB c d=true∧w.length=1∧(ETy.get .stat c.states (c.states.length - 1)).leave=[]∧aK (ag w 0)→gz c d w=some { c with states:=c.states.set (c.states.length - 1) { ETy.get .stat c.states (c.states.length - 1) with leave:=(aF (ag w 0)).1 } }) ∧
 (¬(cB c d=true∧w.length=1∧(ETy.get .stat c.states (c.states.length - 1)).leave=[]∧aK (ag w 0))→gz c d w=none):=by
 unfold gz
 rw [iu hs,ox hs]
 simp only [beq_iff_eq]
 refine ⟨fun h=>?_,fun h=>if_neg h⟩
 rw [if_pos h,nA hs]
theorem jq (hs:c.states.length≠0)
 (h:¬(cB c d=true∧((ag w 0=gr∧w.length=2∧aK (ag w 1)∧(ETy.get .stat c.states (c.states.length - 1)).entry=[])∨(ag w 0=iG∧w.length=2∧aK (ag w 1)∧(ETy.get .stat c.states (c.states.length - 1)).leave=[])∨(ag w 0=wOn∧w.length=5)))):iY c d w=none:=by
 unfold iY
 by_cases k1:ag w 0=gr
 · rw [if_pos k1]
   refine (sh hs).2 fun x=>h ⟨x.1,.inl ⟨k1,?_,?_,x.2.2.1⟩⟩
   · have:=x.2.1; rw [aL] at this; omega
   · have:=x.2.2.2; rw [cF] at this; exact this
 rw [if_neg k1]
 by_cases k2:ag w 0=iG
 · rw [if_pos k2]
   refine (vJ hs).2 fun x=>h ⟨x.1,.inr (.inl ⟨k2,?_,?_,x.2.2.1⟩)⟩
   · have:=x.2.1; rw [aL] at this; omega
   · have:=x.2.2.2; rw [cF] at this; exact this
 rw [if_neg k2]
 by_cases k3:ag w 0=wOn
 · rw [if_pos k3]
   refine ee fun x=>h ⟨x.1,.inr (.inr ⟨k3,?_⟩)⟩
   have:=x.2.1; rw [aL] at this; omega
 rw [if_neg k3]
abbrev zXn1 (a:Chart):Chunk:=.cells [.pd (.str a.name),.own 1,.own 2,.own 3,.own 4] 27
abbrev zXn2 (a:List Str) (b:Chart):List (Nat×SV):=[(0,.x (.c (.loc 0 0))),(2,.p (.lst .str a)),(6,.p (.bool false)),(7,.i b.states.length),(40,.x (.c (.loc 0 0))),(41,.p (.lst .str a))]
abbrev zXn3:List PI:=[.ops [1,1,1,0,1,0,0] 2,.code [1,1,1,0,1,0,1],.code [1,1,1,1]]
abbrev zXn4:List PI:=[.ops [1,1,1,1,1,1,1,0,1,0,1,0] 9,.code [1,1,1,1,1,1,1,0,1,0,1,1],.code [1,1,1,1,1,1,1,1]]
theorem OY (c:Chart) (d:Int) (w:List Str) (hf:Fit c 6001) (h0:0<w.length) (hs:c.states.length≠0) (Γ:Ctx)
 (hon:ag w 0=wOn→w.length=5→cB c d=true→zJ53Xn Γ (bL (onC c d (w.drop 1))) zXn3 ({ n:=111,fr:=(zXn2 w c),ck:=[zXn1 c,.own 9 .str c.events,.own 61 .var c.vars,.own 64 .stat c.states,.own 68 .tran c.trans],kn:=[6],m:=5 })):zJ53Xn Γ (bL (iY c d w)) [.code []] (bX Tryz.f53.ntmps [.c (.loc 0 0),.i d,.l .str w] (fW c)):=by
 have hst:=hf.states
 have hd:=jV hf hs
 have hix:=iH hs (by omega)
 have g:∀ k,ETy.get .str w k=ag w k:=fun _=>rfl
 have hj:c.states.length - 1<c.states.length:=by omega
 have hL:((c.states.length:Int)==0)=false:=by rw [beq_eq_false_iff_ne]; omega
 have hwr:IntKind.wrap IntKind.i64 ((ETy.get .stat c.states (c.states.length - 1)).depth+1)=(ETy.get .stat c.states (c.states.length - 1)).depth+1:=bG (by omega) (by omega)
 have hown:∀ b,(((c.states.length:Int)==0)||(d != (ETy.get .stat c.states (c.states.length - 1)).depth+1))=b→cB c d = !b:=fun b h=>by
  rw [hL,cl] at h
  rw [ox hs,← h]; simp [bne]
 have onx:(ag w 0==wOn&&((w.length:Int)==5))=true→ag w 0=wOn∧w.length=5:=fun h=>by
  simp only [af,beq_iff_eq] at h; exact ⟨h.1,by omega⟩
 have eon:ag w 0=wOn→iY c d w=onC c d (w.drop 1):=fun h=>by
  unfold iY; rw [h,if_neg (by decide),if_neg (by decide),if_pos rfl]
 have noon:(ag w 0==wOn&&((w.length:Int)==5))=false→¬(ag w 0=wOn∧w.length=5):=fun h x=>by
  rw [x.1,show ((w.length:Int)==5)=true by rw [beq_iff_eq]; omega] at h; exact absurd h (by decide)
 have bad:(((w.length:Int) != 2) || !ag w 0==gr && !ag w 0==iG)=true→¬(ag w 0=wOn∧w.length=5)→iY c d w=none:=fun h hn=>jq hs (by
  rintro ⟨_,⟨x,y,_⟩ | ⟨x,y,_⟩ | x⟩
  · rw [x,show ((w.length:Int) != 2)=false by rw [bne_eq_false_iff_eq]; omega] at h; exact absurd h (by decide)
  · rw [x,show ((w.length:Int) != 2)=false by rw [bne_eq_false_iff_eq]; omega] at h; exact absurd h (by decide)
  · exact hn x)
 have dS:(((w.length:Int) != 2) || !ag w 0==gr && !ag w 0==iG)=false→w.length=2∧(ag w 0=gr∨ag w 0=iG):=fun h=>by
  rw [aq] at h
  refine ⟨?_,?_⟩
  · have:=h.1; rw [bne_eq_false_iff_eq] at this; omega
  · by_cases x:ag w 0=gr
    · exact .inl x
    · right
      have:=h.2
      rw [show (ag w 0==gr)=false by rw [beq_eq_false_iff_ne]; exact x] at this
      simpa using this
 by_cases hr:aK (ag w 1)
 · refine jg oS Tryz.func53 (let x1:List Chunk:=[zXn1 c,.own 9 .str c.events,.own 61 .var c.vars,.own 64 .stat c.states,.own 68 .tran c.trans]; let x2:=(c.states.length:Int); let x3:=((0:Int)≤IntKind.wrap .i64 (x2 - 1)∧IntKind.wrap .i64 (x2 - 1)<x2); let x4:List Chunk:=[zXn1 c,.own 9 .str c.events,.own 61 .var c.vars,.own 64 .stat c.states,.own 68 .tran c.trans,.own 90 .deed ((aF (ETy.get .str w 1)).1)]; let x5:=(IntKind.wrap .i64 (x2 - 1)); let x6:Tree:=(.ret (.p (.bool false)) x1); let x7:=(ETy.get .stat c.states (x5.toNat)); let x8:Str:=[101,110,116,114,121]; .need ((x2==0)=false→(0:Int)≤IntKind.wrap .i64 (x2 - 1)∧IntKind.wrap .i64 (x2 - 1)<x2) (.need ((x2==0)=false→x5.toNat<c.states.length) (.ite (x2==0||d != IntKind.wrap .i64 (Stat.depth x7+(1:Int))) x6 (.need (inRg 0 w.length) (.ite (ETy.get .str w 0==[111,110]&&(w.length:Int)==5) (.stop zXn3 { n:=111,fr:=(zXn2 w c),ck:=x1,kn:=[6],m:=5 }) (.need (((w.length:Int) != 2)=false→(0:Int)≤0∧(0:Int)<(w.length:Int)) (.need (((w.length:Int) != 2)=false∧(!ETy.get .str w 0==x8)=true→(0:Int)≤0∧(0:Int)<(w.length:Int)) (.ite ((w.length:Int) != 2 || !ETy.get .str w 0==x8 && !ETy.get .str w 0==[101,120,105,116]) x6 (.need (inRg 1 w.length) (.need (aK (ETy.get .str w 1)) (.ite false x6 (.need (inRg 0 w.length) (.ite (ETy.get .str w 0==x8) (.need x3 (.need (x5.toNat<c.states.length) (.ite (decide ((↑((Stat.entry x7).length):Int)>0)) x6 (.need x3 (.stop zXn4 { n:=111,fr:=[(0,.x (.c (.loc 0 0))),(6,.p (.bool false)),(7,.i c.states.length),(8,.x (.c (.own 5))),(88,.x (.c (.own 5))),(90,.x (.c (.oat 3 (x5.toNat) 6 4)))],ck:=x4,kn:=[6],m:=5 }))))) (.need x3 (.need (x5.toNat<c.states.length) (.ite (decide ((↑((Stat.leave x7).length):Int)>0)) x6 (.need x3 (.stop [.ops [1,1,1,1,1,1,1,1,1,0] 9,.code [1,1,1,1,1,1,1,1,1,1]] { n:=111,fr:=[(6,.p (.bool false)),(108,.x (.c (.own 5))),(110,.x (.c (.oat 3 (x5.toNat) 6 5)))],ck:=x4,kn:=[6],m:=5 })))))))))))))))))) ?_
   conv=>zeta
   refine ⟨fun _=>⟨by omega,by omega⟩,fun _=>by rw [hix,aI]; exact hj,fun h=>?_,fun h=>?_⟩
   · rw [hix,aI,hwr] at h
     exact bL.no (jq hs fun x=>by have:=x.1; rw [hown _ h] at this; cases this)
   have ho:cB c d=true:=by rw [hix,aI,hwr] at h; exact hown _ h
   refine ⟨⟨by omega,by omega⟩,fun h1=>?_,fun h1=>⟨fun h=>⟨by omega,by omega⟩,fun h=>⟨by omega,by omega⟩,fun h2=>bL.no (bad h2 (noon h1)),fun h2=>⟨⟨?_,?_⟩,hr,fun x=>Bool.noConfusion x,fun _=>⟨⟨by omega,by omega⟩,fun h3=>⟨⟨by omega,by omega⟩,?_,fun h4=>bL.no (jq hs ?_),fun h4=>⟨⟨by omega,by omega⟩,?_⟩⟩,fun h3=>⟨⟨by omega,by omega⟩,?_,fun h4=>bL.no (jq hs ?_),fun h4=>⟨⟨by omega,by omega⟩,?_⟩⟩⟩⟩⟩⟩
   · obtain ⟨k1,k2⟩:=onx h1
     rw [eon k1]; exact hon k1 k2 ho
   · omega
   · have:=(dS h2).1; omega
   · rw [hix,aI]; exact hj
   · rw [hix,aI] at h4
     have h4':=of_decide_eq_true h4
     have h3':ag w 0=gr:=eq_of_beq h3
     rintro ⟨_,⟨_,_,_,y⟩ | ⟨x,_⟩ | ⟨x,_⟩⟩
     · rw [y] at h4'; exact absurd h4' (by decide)
     · rw [h3'] at x; exact absurd x (by decide)
     · rw [h3'] at x; exact absurd x (by decide)
   · have h3':ag w 0=gr:=eq_of_beq h3
     rw [hix,aI] at h4
     have h4':(ETy.get .stat c.states (c.states.length - 1)).entry=[]:=bj.1 (by have:=of_decide_eq_false h4; omega)
     have hz:zJ53Xn Γ (bL (iY c d w)) zXn4 ({ n:=111,fr:=[(0,.x (.c (.loc 0 0))),(6,.p (.bool false)),(7,.i c.states.length),(8,.p (.lst .deed ((aF (ETy.get .str w 1)).1))),(88,.p (.lst .deed ((aF (ETy.get .str w 1)).1))),(90,.x (.c (.oat 3 ((IntKind.wrap .i64 ((c.states.length:Int) - 1)).toNat) 6 4)))],ck:=[zXn1 c,.own 9 .str c.events,.own 61 .var c.vars,.own 64 .stat c.states,.own 68 .tran c.trans,.dead],kn:=[6],m:=5 }):=by
      refine jg oS Tryz.func53 (let x2:=(IntKind.wrap .i64 ((c.states.length:Int) - 1)); let x1:=(ETy.get .stat c.states (x2.toNat)); .need (x2.toNat<c.states.length) (.ret (.p (.bool true)) [zXn1 c,.own 9 .str c.events,.own 61 .var c.vars,.own 64 .stat (List.set c.states (x2.toNat) { name:=Stat.name x1,kind:=Stat.kind x1,depth:=Stat.depth x1,initial:=Stat.initial x1,entry:=(aF (ETy.get .str w 1)).1,leave:=Stat.leave x1 }),.own 68 .tran c.trans])) ?_
      conv=>zeta
      rw [hix,aI]
      refine ⟨hj,bL.yes (c':={ c with states:=c.states.set (c.states.length - 1) { ETy.get .stat c.states (c.states.length - 1) with entry:=(aF (ETy.get .str w 1)).1 } }) ?_ (IsD.of0 rfl)⟩
      unfold iY
      rw [if_pos h3']
      have:=(sh (d:=d) (w:=w.drop 1) hs).1 ⟨ho,by rw [aL,(dS h2).1],h4',by rw [cF]; exact hr⟩
      rw [cF] at this
      exact this
     exact J.freeze a6 [5] (by kernel_rfl) hz
   · rw [hix,aI]; exact hj
   · rw [hix,aI] at h4
     have h4':=of_decide_eq_true h4
     have h3':ag w 0=iG:=(dS h2).2.resolve_left (beq_eq_false_iff_ne.1 h3)
     rintro ⟨_,⟨x,_⟩ | ⟨_,_,_,y⟩ | ⟨x,_⟩⟩
     · rw [h3'] at x; exact absurd x (by decide)
     · rw [y] at h4'; exact absurd h4' (by decide)
     · rw [h3'] at x; exact absurd x (by decide)
   · have h3':ag w 0=iG:=(dS h2).2.resolve_left (beq_eq_false_iff_ne.1 h3)
     rw [hix,aI] at h4
     have h4':(ETy.get .stat c.states (c.states.length - 1)).leave=[]:=bj.1 (by have:=of_decide_eq_false h4; omega)
     have hz:zJ53Xn Γ (bL (iY c d w)) [.ops [1,1,1,1,1,1,1,1,1,0] 9,.code [1,1,1,1,1,1,1,1,1,1]] ({ n:=111,fr:=[(6,.p (.bool false)),(108,.p (.lst .deed ((aF (ETy.get .str w 1)).1))),(110,.x (.c (.oat 3 ((IntKind.wrap .i64 ((c.states.length:Int) - 1)).toNat) 6 5)))],ck:=[zXn1 c,.own 9 .str c.events,.own 61 .var c.vars,.own 64 .stat c.states,.own 68 .tran c.trans,.dead],kn:=[6],m:=5 }):=by
      refine jg oS Tryz.func53 (let x2:=(IntKind.wrap .i64 ((c.states.length:Int) - 1)); let x1:=(ETy.get .stat c.states (x2.toNat)); .need (x2.toNat<c.states.length) (.ret (.p (.bool true)) [zXn1 c,.own 9 .str c.events,.own 61 .var c.vars,.own 64 .stat (List.set c.states (x2.toNat) { name:=Stat.name x1,kind:=Stat.kind x1,depth:=Stat.depth x1,initial:=Stat.initial x1,entry:=Stat.entry x1,leave:=(aF (ETy.get .str w 1)).1 }),.own 68 .tran c.trans])) ?_
      conv=>zeta
      rw [hix,aI]
      refine ⟨hj,bL.yes (c':={ c with states:=c.states.set (c.states.length - 1) { ETy.get .stat c.states (c.states.length - 1) with leave:=(aF (ETy.get .str w 1)).1 } }) ?_ (IsD.of0 rfl)⟩
      unfold iY
      rw [h3',if_neg (by decide),if_pos rfl]
      have:=(vJ (d:=d) (w:=w.drop 1) hs).1 ⟨ho,by rw [aL,(dS h2).1],h4',by rw [cF]; exact hr⟩
      rw [cF] at this
      exact this
     exact J.freeze a6 [5] (by kernel_rfl) hz
 · refine jg FU Tryz.func53 (let x3:=(c.states.length:Int); let x5:=(IntKind.wrap .i64 (x3 - 1)); let x1:=(ETy.get .stat c.states (x5.toNat)); let x2:List Chunk:=[zXn1 c,.own 9 .str c.events,.own 61 .var c.vars,.own 64 .stat c.states,.own 68 .tran c.trans]; let x4:=((0:Int)≤IntKind.wrap .i64 (x3 - 1)∧IntKind.wrap .i64 (x3 - 1)<x3); let x6:Tree:=(.ret (.p (.bool false)) x2); let x7:=(x5.toNat<c.states.length); let x8:Str:=[101,110,116,114,121]; .need ((x3==0)=false→(0:Int)≤IntKind.wrap .i64 (x3 - 1)∧IntKind.wrap .i64 (x3 - 1)<x3) (.need ((x3==0)=false→x5.toNat<c.states.length) (.ite (x3==0||d != IntKind.wrap .i64 (Stat.depth x1+(1:Int))) x6 (.need (inRg 0 w.length) (.ite (ETy.get .str w 0==[111,110]&&(w.length:Int)==5) (.stop zXn3 { n:=111,fr:=(zXn2 w c),ck:=x2,kn:=[6],m:=5 }) (.need (((w.length:Int) != 2)=false→(0:Int)≤0∧(0:Int)<(w.length:Int)) (.need (((w.length:Int) != 2)=false∧(!ETy.get .str w 0==x8)=true→(0:Int)≤0∧(0:Int)<(w.length:Int)) (.ite ((w.length:Int) != 2 || !ETy.get .str w 0==x8 && !ETy.get .str w 0==[101,120,105,116]) x6 (.need (inRg 1 w.length) (.need (¬aK (ETy.get .str w 1)) (.ite ((aF (ETy.get .str w 1)).2 != (0:Int)) x6 (.need (inRg 0 w.length) (.ite (ETy.get .str w 0==x8) (.need x4 (.need x7 (.ite (decide ((↑((Stat.entry x1).length):Int)>0)) x6 (.need x4 (.need x7 (.ret (.p (.bool true)) [zXn1 c,.own 9 .str c.events,.own 61 .var c.vars,.own 64 .stat (List.set c.states (x5.toNat) { name:=Stat.name x1,kind:=Stat.kind x1,depth:=Stat.depth x1,initial:=Stat.initial x1,entry:=[],leave:=Stat.leave x1 }),.own 68 .tran c.trans])))))) (.need x4 (.need x7 (.ite (decide ((↑((Stat.leave x1).length):Int)>0)) x6 (.need x4 (.need x7 (.ret (.p (.bool true)) [zXn1 c,.own 9 .str c.events,.own 61 .var c.vars,.own 64 .stat (List.set c.states (x5.toNat) { name:=Stat.name x1,kind:=Stat.kind x1,depth:=Stat.depth x1,initial:=Stat.initial x1,entry:=Stat.entry x1,leave:=[] }),.own 68 .tran c.trans]))))))))))))))))))) ?_
   conv=>zeta
   refine ⟨fun _=>⟨by omega,by omega⟩,fun _=>by rw [hix,aI]; exact hj,fun h=>?_,fun h=>?_⟩
   · rw [hix,aI,hwr] at h
     exact bL.no (jq hs fun x=>by have:=x.1; rw [hown _ h] at this; cases this)
   have ho:cB c d=true:=by rw [hix,aI,hwr] at h; exact hown _ h
   refine ⟨⟨by omega,by omega⟩,fun h1=>?_,fun h1=>⟨fun h=>⟨by omega,by omega⟩,fun h=>⟨by omega,by omega⟩,fun h2=>bL.no (bad h2 (noon h1)),fun h2=>⟨⟨?_,?_⟩,hr,fun h3=>bL.no (jq hs ?_),fun h3=>(hr (show (aF (ETy.get .str w 1)).2=0 by simpa using h3)).elim⟩⟩⟩
   · obtain ⟨k1,k2⟩:=onx h1
     rw [eon k1]; exact hon k1 k2 ho
   · omega
   · have:=(dS h2).1; omega
   · rintro ⟨_,⟨_,_,x,_⟩ | ⟨_,_,x,_⟩ | x⟩
     · exact hr x
     · exact hr x
     · exact noon h1 x
end Go.Proofs.YtpfidgnkokidoaaGreatDoor

/- Contracts: the document's reader of charts: a line. Conditions: sizes. Contracts: the document's reader of charts: a line, whole. Conditions: sizes. -/
import Derived.Test.YtpfidgnkokidoaaGreatDoorXn
import Derived.Test.YtpfidgnkokidoaaGreatDoorWj
import Derived.Test.YtpfidgnkokidoaaGreatDoorWr
import Derived.Test.YtpfidgnkokidoaaGreatDoorXl
namespace Go.Proofs.YtpfidgnkokidoaaGreatDoor
open Go Go.Ev
set_option maxRecDepth 100000
abbrev zJ22Xo:=J Tryz.prog 22 (az Tryz.f22)
def Hw:Cfg:=⟨a6,[xl]⟩
theorem FE:ah Tryz.prog Hw.tab:=(ah.cons JT ah.nil)
def E5:Cfg:=⟨a6,[xb,jb]⟩
theorem FR:ah Tryz.prog E5.tab:=(ah.cons H3 (ah.cons gD ah.nil))
noncomputable def Gi:Cfg:=⟨a6,[D7]⟩
theorem GI:ah Tryz.prog Gi.tab:=(ah.cons MM ah.nil)
noncomputable def Hl:Cfg:=⟨a6,[DP]⟩
theorem Fu:ah Tryz.prog Hl.tab:=(ah.cons MK ah.nil)
noncomputable def lq:Cfg:=⟨a6,[xK,De]⟩
theorem jn:ah Tryz.prog lq.tab:=(ah.cons B0 (ah.cons Mv ah.nil))
noncomputable def sV:Cfg:=⟨a6,[xK,CJ]⟩
theorem qa:ah Tryz.prog sV.tab:=(ah.cons B0 (ah.cons K8 ah.nil))
theorem pI {o:Option Chart} (h:o.isSome=true):o=some (got o):=by
 obtain ⟨c,rfl⟩:=cC.1 h; rfl
variable {c:Chart} {d:Int} {w:List Str}
theorem Gn (hs:c.states=[]) (h:kindOf (ag w 0)=0) (hd:d≠0):bF c d (ag w 0) (w.drop 1)=none:=by
 obtain ⟨h1,h2,h3,h4,h5,h6⟩:=pV h
 have hh:∀ n,de c d (w.drop 1) n=false:=fun n=>by
  cases e:de c d (w.drop 1) n
  · rfl
  · unfold de at e
    simp only [af,beq_iff_eq] at e
    exact absurd e.1.1.1 hd
 have e1:gR c d (w.drop 1)=none:=if_neg (by rw [hh]; decide)
 have e2:jO c d (w.drop 1)=none:=if_neg fun x=>by rw [hh] at x; exact absurd x.1 (by decide)
 have e3:iI c d (w.drop 1)=none:=if_neg fun x=>by rw [hh] at x; exact absurd x.1 (by decide)
 have e4:gd c d (w.drop 1)=none:=(kQ _ _ _).2 fun x=>by rw [hh] at x; exact absurd x.1 (by decide)
 have e5:fI c d (w.drop 1)=none:=by unfold fI; rw [hs]; rfl
 have e6:gz c d (w.drop 1)=none:=by unfold gz; rw [hs]; rfl
 have e7:onC c d (w.drop 1)=none:=ee fun x=>by have y:=x.1; unfold cB at y; rw [hs] at y; cases y
 unfold bF
 simp only [if_neg h1,if_neg h2,if_neg h3,if_neg h4,if_neg h5,if_neg h6,e1,e2,e3,e4,e5,e6,e7,ite_self]
theorem Em (h:kindOf (ag w 0)≠0):bF c d (ag w 0) (w.drop 1)=aH (kindOf (ag w 0)) (cj (kindOf (ag w 0))) c d (w.drop 1):=by
 generalize ag w 0=k at h ⊢
 by_cases h1:k=gu
 · subst h1; rfl
 by_cases h2:k=jf
 · subst h2; rfl
 by_cases h3:k=hO
 · subst h3; rfl
 by_cases h4:k=gx
 · subst h4; rfl
 by_cases h5:k=eY
 · subst h5; rfl
 by_cases h6:k=hP
 · subst h6; rfl
 exfalso
 apply h
 unfold kindOf
 simp only [if_neg h1,if_neg h2,if_neg h3,if_neg h4,if_neg h5,if_neg h6]
abbrev zXo1 (a:Chart):List Chunk:=[.cells [.pd (.str a.name),.own 1,.own 2,.own 3,.own 4] 27,.own 9 .str a.events,.own 61 .var a.vars,.own 64 .stat a.states,.own 68 .tran a.trans]
abbrev zXo2:List PI:=[.ops [1,1,1,1,1,1,0,1,0,0] 5,.code [1,1,1,1,1,1,0,1,0,1],.code [1,1,1,1,1,1,1]]
abbrev zXo3:List PI:=[.ops [1,1,1,1,1,1,0,1,0,0] 6,.code [1,1,1,1,1,1,0,1,0,1],.code [1,1,1,1,1,1,1]]
abbrev zXo4:List PI:=[.ops [1,1,1,1,1,1,1,0] 3,.code [1,1,1,1,1,1,1,1]]
theorem MT (c:Chart) (s:Str) (hf:Fit c 6001) (hs6:s.length≤6000) (hok:eR s=true) (Γ:Ctx)
 (hit:c.states.length≠0→kindOf (ag (au s) 0)=0→zJ22Xo Γ (bL (bF c ((aM s:Nat):Int) (ag (au s) 0) ((au s).drop 1))) zXo4 ({ n:=72,fr:=[(6,.p (.bool false)),(68,.x (.c (.loc 0 0))),(69,.i (↑(aM s):Int)),(70,.p (.lst .str (au s)))],ck:=(zXo1 c),kn:=[6],m:=5 })) :
 zJ22Xo Γ (bL (bF c ((aM s:Nat):Int) (ag (au s) 0) ((au s).drop 1))) [.ops [1,1,1,1,0] 3,.code [1,1,1,1,1]] ({ n:=72,fr:=[(0,.x (.c (.loc 0 0))),(6,.p (.bool false)),(7,.i (↑(aM s):Int)),(8,.p (.lst .str ((au s)))),(47,.x (.c (.loc 0 0))),(48,.i (↑(aM s):Int)),(49,.p (.lst .str ((au s))))],ck:=[.cells [.pd (.str c.name),.own 1,.own 2,.own 3,.own 4] 27,.own 9 .str c.events,.own 61 .var c.vars,.own 64 .stat c.states,.own 68 .tran c.trans,.dead],kn:=[6],m:=5 }):=by
 have hne:0<(au s).length:=dW.2 (nE s)
 have hlen:∀ x∈au s,x.length≤1000000:=fun x hx=>by have:=(vv hok hs6 x hx).1; omega
 by_cases hk:kindOf (ag (au s) 0)=0
 · by_cases hst:c.states=[]
   · have off:((aM s:Int)==0)=false→bF c ((aM s:Nat):Int) (ag (au s) 0) ((au s).drop 1)=none:=fun h=>Gn hst hk (by simpa using h)
     cases hb:(bF c 0 (ag (au s) 0) ((au s).drop 1)).isSome
     · refine jg qa Tryz.func22 (let x1:List Chunk:=(zXo1 c); .need (Fit c 6001∧0<(au s).length∧kindOf (ag (au s) 0)=(0:Int)) (.ite false (.ret (.p (.bool false)) x1) (.ite ((c.states.length:Int)==0) (.stop zXo2 { n:=72,fr:=[(0,.x (.c (.loc 0 0))),(6,.p (.bool false)),(7,.i (↑(aM s):Int)),(8,.p (.lst .str (au s))),(63,.p (.bool ((↑(aM s):Int)==0))),(64,.grd 63 true (.c (.loc 0 0))),(65,.grd 63 true (.p (.lst .str (au s))))],ck:=x1,kn:=[6],m:=5 }) (.stop zXo4 { n:=72,fr:=[(6,.p (.bool false)),(68,.x (.c (.loc 0 0))),(69,.i (↑(aM s):Int)),(70,.p (.lst .str (au s)))],ck:=x1,kn:=[6],m:=5 })))) ?_
       conv=>zeta
       refine ⟨⟨hf,hne,hk⟩,fun x=>Bool.noConfusion x,fun _=>⟨fun _=>?_,fun h=>?_⟩⟩
       · cases hd:((aM s:Int)==0)
         · have hz:zJ22Xo Γ (bL (bF c ((aM s:Nat):Int) (ag (au s) 0) ((au s).drop 1))) zXo3 ({ n:=72,fr:=[(0,.x (.c (.loc 0 0))),(6,.p (.bool false)),(7,.i (↑(aM s):Int)),(8,.p (.lst .str (au s))),(63,.p (.bool false)),(64,.grd 63 true (.c (.loc 0 0))),(65,.grd 63 true (.p (.lst .str (au s)))),(66,.grd 63 true (.p (.bool false)))],ck:=(zXo1 c),kn:=[6],m:=5 }):=by
            refine jg jn Tryz.func22 (.ret (.p (.bool false)) (zXo1 c)) ?_
            exact bL.no (off hd)
           exact J.off 1 5 (by kernel_rfl) hz
         · have e:((aM s:Nat):Int)=0:=eq_of_beq hd
           have hz:zJ22Xo Γ (bL (bF c ((aM s:Nat):Int) (ag (au s) 0) ((au s).drop 1))) zXo3 ({ n:=72,fr:=[(0,.x (.c (.loc 0 0))),(6,.p (.bool false)),(7,.i (↑(aM s):Int)),(8,.p (.lst .str (au s))),(63,.p (.bool true)),(64,.x (.c (.loc 0 0))),(65,.p (.lst .str ((au s)))),(66,.p (.bool false))],ck:=[.dead,.dead,.dead,.dead,.dead],kn:=[6],m:=5 }):=by
            refine jg qa Tryz.func22 (.ret (.p (.bool false)) [.dead,.dead,.dead,.dead,.dead]) ?_
            rw [e]
            exact bL.no (fN.1 (by cases hq:bF c 0 (ag (au s) 0) ((au s).drop 1) with | none=>rfl | some x=>rw [hq] at hb; cases hb))
           exact J.on (cfg:=sV) qa (q:=some (_∧_∧_∧_∧_∧_)) (by kernel_rfl) ⟨hf,hst,hne,hlen,hk,hb⟩ hz
       · rw [hst] at h; exact absurd h (by decide)
     · refine jg jn Tryz.func22 (let x1:List Chunk:=(zXo1 c); .need (Fit c 6001∧0<(au s).length∧kindOf (ag (au s) 0)=(0:Int)) (.ite false (.ret (.p (.bool false)) x1) (.ite ((c.states.length:Int)==0) (.stop zXo2 { n:=72,fr:=[(0,.x (.c (.loc 0 0))),(6,.p (.bool false)),(7,.i (↑(aM s):Int)),(8,.p (.lst .str (au s))),(63,.p (.bool ((↑(aM s):Int)==0))),(64,.grd 63 true (.c (.loc 0 0))),(65,.grd 63 true (.p (.lst .str (au s))))],ck:=x1,kn:=[6],m:=5 }) (.stop zXo4 { n:=72,fr:=[(6,.p (.bool false)),(68,.x (.c (.loc 0 0))),(69,.i (↑(aM s):Int)),(70,.p (.lst .str (au s)))],ck:=x1,kn:=[6],m:=5 })))) ?_
       conv=>zeta
       refine ⟨⟨hf,hne,hk⟩,fun x=>Bool.noConfusion x,fun _=>⟨fun _=>?_,fun h=>?_⟩⟩
       · cases hd:((aM s:Int)==0)
         · have hz:zJ22Xo Γ (bL (bF c ((aM s:Nat):Int) (ag (au s) 0) ((au s).drop 1))) zXo3 ({ n:=72,fr:=[(0,.x (.c (.loc 0 0))),(6,.p (.bool false)),(7,.i (↑(aM s):Int)),(8,.p (.lst .str (au s))),(63,.p (.bool false)),(64,.grd 63 true (.c (.loc 0 0))),(65,.grd 63 true (.p (.lst .str (au s)))),(66,.grd 63 true (.p (.bool false)))],ck:=(zXo1 c),kn:=[6],m:=5 }):=by
            refine jg jn Tryz.func22 (.ret (.p (.bool false)) (zXo1 c)) ?_
            exact bL.no (off hd)
           exact J.off 1 5 (by kernel_rfl) hz
         · have e:((aM s:Nat):Int)=0:=eq_of_beq hd
           have hz:zJ22Xo Γ (bL (bF c ((aM s:Nat):Int) (ag (au s) 0) ((au s).drop 1))) zXo3 ({ n:=72,fr:=[(0,.x (.c (.loc 0 0))),(6,.p (.bool false)),(7,.i (↑(aM s):Int)),(8,.p (.lst .str (au s))),(63,.p (.bool true)),(64,.x (.c (.loc 0 0))),(65,.p (.lst .str ((au s)))),(66,.p (.bool true))],ck:=[.cells [.pd (.str (got (bF c 0 (ag (au s) 0) ((au s).drop 1))).name),.own 5,.own 6,.own 7,.own 8] 27,.dead,.dead,.dead,.dead,.own 9 .str (got (bF c 0 (ag (au s) 0) ((au s).drop 1))).events,.own 61 .var (got (bF c 0 (ag (au s) 0) ((au s).drop 1))).vars,.own 64 .stat (got (bF c 0 (ag (au s) 0) ((au s).drop 1))).states,.own 68 .tran (got (bF c 0 (ag (au s) 0) ((au s).drop 1))).trans],kn:=[6],m:=5 }):=by
            refine jg jn Tryz.func22 (let x1:=(got (bF c (0:Int) (ag (au s) 0) (List.drop 1 (au s)))); .ret (.p (.bool true)) [.cells [.pd (.str (Chart.name x1)),.own 5,.own 6,.own 7,.own 8] 27,.dead,.dead,.dead,.dead,.own 9 .str (Chart.events x1),.own 61 .var (Chart.vars x1),.own 64 .stat (Chart.states x1),.own 68 .tran (Chart.trans x1)]) ?_
            conv=>zeta
            rw [e]
            exact bL.yes (pI hb) ⟨rfl,Rn.refl 5 _⟩
           exact J.on (cfg:=lq) jn (q:=some (_∧_∧_∧_∧_∧_)) (by kernel_rfl) ⟨hf,hst,hne,hlen,hk,hb⟩ hz
       · rw [hst] at h; exact absurd h (by decide)
   · have hl:c.states.length≠0:=fun e=>hst (bj.1 e)
     refine jg jn Tryz.func22 (let x1:List Chunk:=(zXo1 c); .need (Fit c 6001∧0<(au s).length∧kindOf (ag (au s) 0)=(0:Int)) (.ite false (.ret (.p (.bool false)) x1) (.ite ((c.states.length:Int)==0) (.stop zXo2 { n:=72,fr:=[(0,.x (.c (.loc 0 0))),(6,.p (.bool false)),(7,.i (↑(aM s):Int)),(8,.p (.lst .str (au s))),(63,.p (.bool ((↑(aM s):Int)==0))),(64,.grd 63 true (.c (.loc 0 0))),(65,.grd 63 true (.p (.lst .str (au s))))],ck:=x1,kn:=[6],m:=5 }) (.stop zXo4 { n:=72,fr:=[(6,.p (.bool false)),(68,.x (.c (.loc 0 0))),(69,.i (↑(aM s):Int)),(70,.p (.lst .str (au s)))],ck:=x1,kn:=[6],m:=5 })))) ?_
     conv=>zeta
     refine ⟨⟨hf,hne,hk⟩,fun x=>Bool.noConfusion x,fun _=>⟨fun h=>?_,fun _=>hit hl hk⟩⟩
     have:=eq_of_beq h; omega
 · rw [Em hk]
   cases hb:(aH (kindOf (ag (au s) 0)) (cj (kindOf (ag (au s) 0))) c ((aM s:Nat):Int) ((au s).drop 1)).isSome
   · refine jg Fu Tryz.func22 (.need (Fit c 6001∧0<(au s).length∧kindOf (ag (au s) 0)≠(0:Int)∧Option.isSome (aH (kindOf (ag (au s) 0)) (cj (kindOf (ag (au s) 0))) c (↑(aM s):Int) (List.drop 1 (au s)))=false) (.ite true (.ret (.p (.bool false)) [.dead,.dead,.dead,.dead,.dead]) (.stop [.ops [1,1,1,1,1,1,0,0] 3,.code [1,1,1,1,1,1,0,1],.code [1,1,1,1,1,1,1]] { n:=72,fr:=[(0,.x (.c (.loc 0 0))),(6,.p (.bool false)),(7,.i (↑(aM s):Int)),(8,.p (.lst .str (au s))),(57,.x (.c (.loc 0 3)))],ck:=[.dead,.dead,.dead,.dead,.dead],kn:=[6],m:=5 }))) ?_
     exact ⟨⟨hf,hne,hk,hb⟩,fun _=>bL.no (fN.1 (by cases hq:aH (kindOf (ag (au s) 0)) (cj (kindOf (ag (au s) 0))) c ((aM s:Nat):Int) ((au s).drop 1) with | none=>rfl | some x=>rw [hq] at hb; cases hb)),fun x=>Bool.noConfusion x⟩
   · refine jg GI Tryz.func22 (let x1:=(aH (kindOf (ag (au s) 0)) (cj (kindOf (ag (au s) 0))) c (↑(aM s):Int) (List.drop 1 (au s))); let x2:List Chunk:=[.cells [.pd (.str (Chart.name (got x1))),.own 5,.own 6,.own 7,.own 8] 27,.dead,.dead,.dead,.dead,.own 9 .str (Chart.events (got x1)),.own 61 .var (Chart.vars (got x1)),.own 64 .stat (Chart.states (got x1)),.own 68 .tran (Chart.trans (got x1))]; .need (Fit c 6001∧0<(au s).length∧kindOf (ag (au s) 0)≠(0:Int)∧Option.isSome x1=true) (.ite true (.ret (.p (.bool true)) x2) (.ite ((↑((Chart.states (got x1)).length):Int)==0) (.stop zXo2 { n:=72,fr:=[(0,.x (.c (.loc 0 0))),(6,.p (.bool false)),(7,.i (↑(aM s):Int)),(8,.p (.lst .str (au s))),(63,.p (.bool ((↑(aM s):Int)==0))),(64,.grd 63 true (.c (.loc 0 0))),(65,.grd 63 true (.p (.lst .str (au s))))],ck:=x2,kn:=[6],m:=5 }) (.stop zXo4 { n:=72,fr:=[(6,.p (.bool false)),(68,.x (.c (.loc 0 0))),(69,.i (↑(aM s):Int)),(70,.p (.lst .str (au s)))],ck:=x2,kn:=[6],m:=5 })))) ?_
     conv=>zeta
     exact ⟨⟨hf,hne,hk,hb⟩,fun _=>bL.yes (pI hb) ⟨rfl,Rn.refl 5 _⟩,fun x=>Bool.noConfusion x⟩
end Go.Proofs.YtpfidgnkokidoaaGreatDoor
namespace Go.Proofs.YtpfidgnkokidoaaGreatDoor
open Go Go.Ev
set_option maxRecDepth 100000
theorem I0 {c:Chart} {d:Int} (h:cB c d=true):d=cW c:=by
 unfold cB at h; unfold cW
 cases e:c.states.getLast? with
 | none=>rw [e] at h; cases h
 | some s=>rw [e] at h; exact eq_of_beq h
theorem Ao {c:Chart} (hs:c.states.length≠0):cB c (cW c)=true:=by
 rw [ox hs,kp hs,beq_self_eq_true]
variable (c:Chart) (d n:Int) (s:Str) (w:List Str)
theorem OA (hf:Fit c 6001) (hs:c.states.length≠0) (hl:w.length=5) (h:(onC c (cW c) (w.drop 1)).isSome=true):ak Tryz.prog 94 [.c (.loc 0 0),.l .str w] (fW c) (.x (.b true)) (ckD (got (onC c (cW c) (w.drop 1)))) :=
 r8 Tryz.func94 (by kernel_rfl) (by kernel_rfl) rfl (M0 c (cW c) w hf (Ao hs) hl) h
abbrev zXq2:List Chunk:=[.dead,.dead,.dead,.dead,.dead]
theorem OU (hf:Fit c 6001) (hs:c.states.length≠0) (hl:w.length=5) (h:(onC c (cW c) (w.drop 1)).isSome=false):ak Tryz.prog 94 [.c (.loc 0 0),.l .str w] (fW c) (.x (.b false)) zXq2 :=
 tX Tryz.func94 (by kernel_rfl) (by kernel_rfl) (M0 c (cW c) w hf (Ao hs) hl) h
noncomputable def D4:Ent:=(94,fun
 | [.c (.loc 0 0),.c (.pd (.lst .str w))],[.cells [.pd (.str nm),.own 1,.own 2,.own 3,.own 4] 27,.own 9 .str ev,.own 61 .var vs,.own 64 .stat st,.own 68 .tran tr]=>some (some (Fit ⟨nm,ev,vs,st,tr⟩ 6001∧st.length≠0∧w.length=5∧(onC ⟨nm,ev,vs,st,tr⟩ (cW ⟨nm,ev,vs,st,tr⟩) (w.drop 1)).isSome=true),.x (.c (.pd (.bool true))),[.cells [.pd (.str (got (onC ⟨nm,ev,vs,st,tr⟩ (cW ⟨nm,ev,vs,st,tr⟩) (w.drop 1))).name),.own 5,.own 6,.own 7,.own 8] 27,.dead,.dead,.dead,.dead,.own 9 .str (got (onC ⟨nm,ev,vs,st,tr⟩ (cW ⟨nm,ev,vs,st,tr⟩) (w.drop 1))).events,.own 61 .var (got (onC ⟨nm,ev,vs,st,tr⟩ (cW ⟨nm,ev,vs,st,tr⟩) (w.drop 1))).vars,.own 64 .stat (got (onC ⟨nm,ev,vs,st,tr⟩ (cW ⟨nm,ev,vs,st,tr⟩) (w.drop 1))).states,.own 68 .tran (got (onC ⟨nm,ev,vs,st,tr⟩ (cW ⟨nm,ev,vs,st,tr⟩) (w.drop 1))).trans])
 | _,_=>none)
theorem MO:EntOk Tryz.prog D4:=entOk fun vs ck=>by
 unfold D4; dsimp only; split
 · rename_i w nm ev vs st tr; exact entS fun hp=>OA ⟨nm,ev,vs,st,tr⟩ w hp.1 hp.2.1 hp.2.2.1 hp.2.2.2
 · exact entN
noncomputable def DL:Ent:=(94,fun
 | [.c (.loc 0 0),.c (.pd (.lst .str w))],[.cells [.pd (.str nm),.own 1,.own 2,.own 3,.own 4] 27,.own 9 .str ev,.own 61 .var vs,.own 64 .stat st,.own 68 .tran tr]=>some (some (Fit ⟨nm,ev,vs,st,tr⟩ 6001∧st.length≠0∧w.length=5∧(onC ⟨nm,ev,vs,st,tr⟩ (cW ⟨nm,ev,vs,st,tr⟩) (w.drop 1)).isSome=false),.x (.c (.pd (.bool false))),[.dead,.dead,.dead,.dead,.dead])
 | _,_=>none)
theorem Ma:EntOk Tryz.prog DL:=entOk fun vs ck=>by
 unfold DL; dsimp only; split
 · rename_i w nm ev vs st tr; exact entS fun hp=>OU ⟨nm,ev,vs,st,tr⟩ w hp.1 hp.2.1 hp.2.2.1 hp.2.2.2
 · exact entN
noncomputable def F9:Cfg:=⟨a6,[D4]⟩
theorem GQ:ah Tryz.prog F9.tab:=(ah.cons MO ah.nil)
noncomputable def EI:Cfg:=⟨a6,[DL]⟩
theorem Gt:ah Tryz.prog EI.tab:=(ah.cons Ma ah.nil)
theorem uH {o:Option Chart} (h:o.isSome=false):o=none:=by
 cases o with
 | none=>rfl
 | some c=>cases h
abbrev zXq1 (a:Chart):List Chunk:=[.cells [.pd (.str a.name),.own 1,.own 2,.own 3,.own 4] 27,.own 9 .str a.events,.own 61 .var a.vars,.own 64 .stat a.states,.own 68 .tran a.trans]
theorem Oe (hf:Fit c 6001) (hs:c.states.length≠0) (hl:w.length=5) (ho:cB c d=true) (Γ:Ctx):J Tryz.prog 53 (az Tryz.f53) Γ (bL (onC c d (w.drop 1))) [.ops [1,1,1,0,1,0,0] 2,.code [1,1,1,0,1,0,1],.code [1,1,1,1]] ({ n:=111,fr:=[(0,.x (.c (.loc 0 0))),(2,.p (.lst .str w)),(6,.p (.bool false)),(7,.i c.states.length),(40,.x (.c (.loc 0 0))),(41,.p (.lst .str w))],ck:=(zXq1 c),kn:=[6],m:=5 }):=by
 have e:=I0 ho
 rw [e]
 cases hb:(onC c (cW c) (w.drop 1)).isSome
 · refine jg Gt Tryz.func53 (.need (Fit c 6001∧c.states.length≠0∧w.length=5∧Option.isSome (onC c (cW c) (List.drop 1 w))=false) (.ret (.p (.bool false)) zXq2)) ?_
   exact ⟨⟨hf,hs,hl,hb⟩,bL.no (uH hb)⟩
 · refine jg GQ Tryz.func53 (let x1:=(onC c (cW c) (List.drop 1 w)); .need (Fit c 6001∧c.states.length≠0∧w.length=5∧Option.isSome x1=true) (.ret (.p (.bool true)) [.cells [.pd (.str (Chart.name (got x1))),.own 5,.own 6,.own 7,.own 8] 27,.dead,.dead,.dead,.dead,.own 9 .str (Chart.events (got x1)),.own 61 .var (Chart.vars (got x1)),.own 64 .stat (Chart.states (got x1)),.own 68 .tran (Chart.trans (got x1))])) ?_
   conv=>zeta
   exact ⟨⟨hf,hs,hl,hb⟩,bL.yes (pI hb) ⟨rfl,Rn.refl 5 _⟩⟩
theorem He (hf:Fit c 6001) (h0:0<w.length) (hs:c.states.length≠0) (hk:kindOf (ag w 0)=0) (Γ:Ctx):J Tryz.prog 53 (az Tryz.f53) Γ (bL (bF c d (ag w 0) (w.drop 1))) [.code []] (bX Tryz.f53.ntmps [.c (.loc 0 0),.i d,.l .str w] (fW c)):=by
 rw [Hk hs hk]
 exact OY c d w hf h0 hs Γ fun _ hl ho=>Oe c d w hf hs hl ho Γ
theorem OM (hf:Fit c 6001) (h0:0<w.length) (hs:c.states.length≠0) (hk:kindOf (ag w 0)=0) (h:(bF c d (ag w 0) (w.drop 1)).isSome=true):ak Tryz.prog 53 [.c (.loc 0 0),.i d,.l .str w] (fW c) (.x (.b true)) (ckD (got (bF c d (ag w 0) (w.drop 1)))) :=
 r8 Tryz.func53 (by kernel_rfl) (by kernel_rfl) rfl (He c d w hf h0 hs hk) h
theorem Ou (hf:Fit c 6001) (h0:0<w.length) (hs:c.states.length≠0) (hk:kindOf (ag w 0)=0) (h:(bF c d (ag w 0) (w.drop 1)).isSome=false):ak Tryz.prog 53 [.c (.loc 0 0),.i d,.l .str w] (fW c) (.x (.b false)) zXq2 :=
 tX Tryz.func53 (by kernel_rfl) (by kernel_rfl) (He c d w hf h0 hs hk) h
noncomputable def Da:Ent:=(53,fun
 | [.c (.loc 0 0),.c (.pd (.int .i64 d)),.c (.pd (.lst .str w))],[.cells [.pd (.str nm),.own 1,.own 2,.own 3,.own 4] 27,.own 9 .str ev,.own 61 .var vs,.own 64 .stat st,.own 68 .tran tr]=>some (some (Fit ⟨nm,ev,vs,st,tr⟩ 6001∧0<w.length∧st.length≠0∧kindOf (ag w 0)=0∧(bF ⟨nm,ev,vs,st,tr⟩ d (ag w 0) (w.drop 1)).isSome=true),.x (.c (.pd (.bool true))),[.cells [.pd (.str (got (bF ⟨nm,ev,vs,st,tr⟩ d (ag w 0) (w.drop 1))).name),.own 5,.own 6,.own 7,.own 8] 27,.dead,.dead,.dead,.dead,.own 9 .str (got (bF ⟨nm,ev,vs,st,tr⟩ d (ag w 0) (w.drop 1))).events,.own 61 .var (got (bF ⟨nm,ev,vs,st,tr⟩ d (ag w 0) (w.drop 1))).vars,.own 64 .stat (got (bF ⟨nm,ev,vs,st,tr⟩ d (ag w 0) (w.drop 1))).states,.own 68 .tran (got (bF ⟨nm,ev,vs,st,tr⟩ d (ag w 0) (w.drop 1))).trans])
 | _,_=>none)
theorem Lj:EntOk Tryz.prog Da:=entOk fun vs ck=>by
 unfold Da; dsimp only; split
 · rename_i d w nm ev vs st tr; exact entS fun hp=>OM ⟨nm,ev,vs,st,tr⟩ d w hp.1 hp.2.1 hp.2.2.1 hp.2.2.2.1 hp.2.2.2.2
 · exact entN
noncomputable def D3:Ent:=(53,fun
 | [.c (.loc 0 0),.c (.pd (.int .i64 d)),.c (.pd (.lst .str w))],[.cells [.pd (.str nm),.own 1,.own 2,.own 3,.own 4] 27,.own 9 .str ev,.own 61 .var vs,.own 64 .stat st,.own 68 .tran tr]=>some (some (Fit ⟨nm,ev,vs,st,tr⟩ 6001∧0<w.length∧st.length≠0∧kindOf (ag w 0)=0∧(bF ⟨nm,ev,vs,st,tr⟩ d (ag w 0) (w.drop 1)).isSome=false),.x (.c (.pd (.bool false))),[.dead,.dead,.dead,.dead,.dead])
 | _,_=>none)
theorem L6:EntOk Tryz.prog D3:=entOk fun vs ck=>by
 unfold D3; dsimp only; split
 · rename_i d w nm ev vs st tr; exact entS fun hp=>Ou ⟨nm,ev,vs,st,tr⟩ d w hp.1 hp.2.1 hp.2.2.1 hp.2.2.2.1 hp.2.2.2.2
 · exact entN
noncomputable def Gp:Cfg:=⟨a6,[Da]⟩
theorem Fz:ah Tryz.prog Gp.tab:=(ah.cons Lj ah.nil)
noncomputable def Gz:Cfg:=⟨a6,[D3]⟩
theorem E6:ah Tryz.prog Gz.tab:=(ah.cons L6 ah.nil)
theorem KZ (hf:Fit c 6001) (Γ:Ctx) (hs:c.states.length≠0) (hk:kindOf (ag (au s) 0)=0):J Tryz.prog 22 (az Tryz.f22) Γ (bL (bF c ((aM s:Nat):Int) (ag (au s) 0) ((au s).drop 1))) [.ops [1,1,1,1,1,1,1,0] 3,.code [1,1,1,1,1,1,1,1]] ({ n:=72,fr:=[(6,.p (.bool false)),(68,.x (.c (.loc 0 0))),(69,.i (↑(aM s):Int)),(70,.p (.lst .str (au s)))],ck:=(zXq1 c),kn:=[6],m:=5 }):=by
 have hne:0<(au s).length:=dW.2 (nE s)
 cases hb:(bF c ((aM s:Nat):Int) (ag (au s) 0) ((au s).drop 1)).isSome
 · refine jg E6 Tryz.func22 (.need (Fit c 6001∧0<(au s).length∧c.states.length≠0∧kindOf (ag (au s) 0)=(0:Int)∧Option.isSome (bF c (↑(aM s):Int) (ag (au s) 0) (List.drop 1 (au s)))=false) (.ret (.p (.bool false)) zXq2)) ?_
   exact ⟨⟨hf,hne,hs,hk,hb⟩,bL.no (uH hb)⟩
 · refine jg Fz Tryz.func22 (let x1:=(bF c (↑(aM s):Int) (ag (au s) 0) (List.drop 1 (au s))); .need (Fit c 6001∧0<(au s).length∧c.states.length≠0∧kindOf (ag (au s) 0)=(0:Int)∧Option.isSome x1=true) (.ret (.p (.bool true)) [.cells [.pd (.str (Chart.name (got x1))),.own 5,.own 6,.own 7,.own 8] 27,.dead,.dead,.dead,.dead,.own 9 .str (Chart.events (got x1)),.own 61 .var (Chart.vars (got x1)),.own 64 .stat (Chart.states (got x1)),.own 68 .tran (Chart.trans (got x1))])) ?_
   conv=>zeta
   exact ⟨⟨hf,hne,hs,hk,hb⟩,bL.yes (pI hb) ⟨rfl,Rn.refl 5 _⟩⟩
theorem KS (hf:Fit c 6001) (hs6:s.length≤6000) (hn:1≤n) (Γ:Ctx):J Tryz.prog 22 (az Tryz.f22) Γ (bL (cd c (n - 1).toNat s)) [.code []] (bX Tryz.f22.ntmps [.c (.loc 0 0),.i n,.s s] (fW c)):=by
 cases hok:eR s
 · refine jg FE Tryz.func22 (let x1:List Chunk:=(zXq1 c); let x2:=(Value.slice none 0 0); .need (s.length≤2097152∧eR s=false) (.ite true (.ret (.p (.bool false)) x1) (.ite (n==(1:Int)) (.stop [.ops [1,1,1,0,1,0,0,0] 9,.code [1,1,1,0,1,0,0,1],.code [1,1,1,0,1,0,1],.code [1,1,1,1]] { n:=72,fr:=[(0,.x (.c (.loc 0 0))),(6,.p (.bool false)),(7,.i 0),(8,.p (.v x2)),(28,.p (.bool true)),(29,.grd 28 false (.p (.v x2)))],ck:=x1,kn:=[6],m:=5 }) (.stop [.ops [1,1,1,1,0] 3,.code [1,1,1,1,1]] { n:=72,fr:=[(0,.x (.c (.loc 0 0))),(6,.p (.bool false)),(7,.i 0),(8,.p (.v x2)),(47,.x (.c (.loc 0 0))),(48,.i 0),(49,.p (.v x2))],ck:=x1,kn:=[6],m:=5 })))) ?_
   conv=>zeta
   refine ⟨⟨by omega,hok⟩,fun _=>bL.no ?_,fun x=>Bool.noConfusion x⟩
   unfold cd; rw [hok,if_neg (by decide)]
 · have hne:0<(au s).length:=dW.2 (nE s)
   refine jg FR Tryz.func22 (let x1:Tree:=(.ret (.p (.bool false)) (zXq1 c)); let x2:=(↑((au s).length):Int); let x3:=((↑(aM s):Int) != 0||x2 != 2 || !ETy.get .str (au s) 0==[99,104,97,114,116]); let x4:=((↑(aM s):Int) != 0||x2 != 2); .need (s.length≤2097152∧eR s=true) (.ite false x1 (.ite (n==(1:Int)) (.need (x4=false→(0:Int)≤0∧(0:Int)<x2) (.need (x4=false→0<(au s).length) (.need (x3=false→(0:Int)≤1∧(1:Int)<x2) (.need (x3=false→1<(au s).length) (.ite ((↑(aM s):Int) != 0||x2 != 2 || !ETy.get .str (au s) 0==[99,104,97,114,116] || !aC (ETy.get .str (au s) 1)) x1 (.need ((0:Int)≤1∧(1:Int)<x2) (.need (1<(au s).length) (.ret (.p (.bool true)) [.cells [.pd (.str (ETy.get .str (au s) 1)),.own 1,.own 2,.own 3,.own 4] 27,.own 9 .str c.events,.own 61 .var c.vars,.own 64 .stat c.states,.own 68 .tran c.trans])))))))) (.stop [.ops [1,1,1,1,0] 3,.code [1,1,1,1,1]] { n:=72,fr:=[(0,.x (.c (.loc 0 0))),(6,.p (.bool false)),(7,.i (↑(aM s):Int)),(8,.x (.c (.own 5))),(47,.x (.c (.loc 0 0))),(48,.i (↑(aM s):Int)),(49,.x (.c (.own 5)))],ck:=[.cells [.pd (.str c.name),.own 1,.own 2,.own 3,.own 4] 27,.own 9 .str c.events,.own 61 .var c.vars,.own 64 .stat c.states,.own 68 .tran c.trans,.own 9 .str (au s)],kn:=[6],m:=5 })))) ?_
   conv=>zeta
   refine ⟨⟨by omega,hok⟩,fun x=>Bool.noConfusion x,fun _=>⟨fun h1=>?_,fun h1=>?_⟩⟩
   · have e1:n=1:=eq_of_beq h1
     have e:cd c (n - 1).toNat s=nv c s:=by
      unfold cd; rw [hok,if_pos rfl,e1,if_pos (by decide)]
     rw [e]
     have g:∀ k,ETy.get .str (au s) k=ag (au s) k:=fun _=>rfl
     have l2:((((aM s:Nat):Int) != 0)||(((au s).length:Int) != 2) || !ag (au s) 0==yE)=false→(au s).length=2:=fun h=>by
      rw [aq,aq] at h
      have:=h.1.2; rw [bne_eq_false_iff_eq] at this; omega
     simp only [g]
     refine ⟨fun _=>⟨by omega,by omega⟩,fun _=>hne,fun h=>⟨by omega,by have:=l2 h; omega⟩,fun h=>by have:=l2 h; omega,fun h=>bL.no ?_,fun h=>?_⟩
     · unfold nv
       refine if_neg ?_
       rintro ⟨x1,x2,x3,x4⟩
       have y1:(((aM s:Nat):Int) != 0)=false:=by rw [bne_eq_false_iff_eq]; omega
       have y2:(((au s).length:Int) != 2)=false:=by rw [bne_eq_false_iff_eq]; omega
       rw [y1,y2,x3,x4] at h
       exact absurd h (by decide)
     · rw [aq] at h
       have hl:=l2 h.1
       have h2:=h.1
       rw [aq,aq] at h2
       have z1:=h2.1.1; rw [bne_eq_false_iff_eq] at z1
       refine ⟨⟨by omega,by omega⟩,by omega,bL.yes (c':={ c with name:=ag (au s) 1 }) ?_ (IsD.of0 rfl)⟩
       unfold nv
       exact if_pos ⟨by omega,hl,by simpa using h2.2,nf h.2⟩
   · have e1:n≠1:=beq_eq_false_iff_ne.1 h1
     have e:cd c (n - 1).toNat s=bF c ((aM s:Nat):Int) (ag (au s) 0) ((au s).drop 1):=by
      unfold cd; rw [hok,if_pos rfl,if_neg (by omega)]
     rw [e]
     exact J.freeze a6 [5] (by kernel_rfl) (MT c s hf hs6 hok Γ (KZ c s hf Γ))
theorem K3 (hf:Fit c 6001) (hs6:s.length≤6000) (hn:1≤n) (h:(cd c (n - 1).toNat s).isSome=true):ak Tryz.prog 22 [.c (.loc 0 0),.i n,.s s] (fW c) (.x (.b true)) (ckD (got (cd c (n - 1).toNat s))) :=
 r8 Tryz.func22 (by kernel_rfl) (by kernel_rfl) rfl (KS c n s hf hs6 hn) h
theorem Lc (hf:Fit c 6001) (hs6:s.length≤6000) (hn:1≤n) (h:(cd c (n - 1).toNat s).isSome=false):ak Tryz.prog 22 [.c (.loc 0 0),.i n,.s s] (fW c) (.x (.b false)) zXq2 :=
 tX Tryz.func22 (by kernel_rfl) (by kernel_rfl) (KS c n s hf hs6 hn) h
noncomputable def Ee:Ent:=(22,fun
 | [.c (.loc 0 0),.c (.pd (.int .i64 n)),.c (.pd (.str s))],[.cells [.pd (.str nm),.own 1,.own 2,.own 3,.own 4] 27,.own 9 .str ev,.own 61 .var vs,.own 64 .stat st,.own 68 .tran tr]=>some (some (Fit ⟨nm,ev,vs,st,tr⟩ 6001∧s.length≤6000∧1≤n∧(cd ⟨nm,ev,vs,st,tr⟩ (n - 1).toNat s).isSome=true),.x (.c (.pd (.bool true))),[.cells [.pd (.str (got (cd ⟨nm,ev,vs,st,tr⟩ (n - 1).toNat s)).name),.own 5,.own 6,.own 7,.own 8] 27,.dead,.dead,.dead,.dead,.own 9 .str (got (cd ⟨nm,ev,vs,st,tr⟩ (n - 1).toNat s)).events,.own 61 .var (got (cd ⟨nm,ev,vs,st,tr⟩ (n - 1).toNat s)).vars,.own 64 .stat (got (cd ⟨nm,ev,vs,st,tr⟩ (n - 1).toNat s)).states,.own 68 .tran (got (cd ⟨nm,ev,vs,st,tr⟩ (n - 1).toNat s)).trans])
 | _,_=>none)
theorem LS:EntOk Tryz.prog Ee:=entOk fun vs ck=>by
 unfold Ee; dsimp only; split
 · rename_i n s nm ev vs st tr; exact entS fun hp=>K3 ⟨nm,ev,vs,st,tr⟩ n s hp.1 hp.2.1 hp.2.2.1 hp.2.2.2
 · exact entN
noncomputable def Co:Ent:=(22,fun
 | [.c (.loc 0 0),.c (.pd (.int .i64 n)),.c (.pd (.str s))],[.cells [.pd (.str nm),.own 1,.own 2,.own 3,.own 4] 27,.own 9 .str ev,.own 61 .var vs,.own 64 .stat st,.own 68 .tran tr]=>some (some (Fit ⟨nm,ev,vs,st,tr⟩ 6001∧s.length≤6000∧1≤n∧(cd ⟨nm,ev,vs,st,tr⟩ (n - 1).toNat s).isSome=false),.x (.c (.pd (.bool false))),[.dead,.dead,.dead,.dead,.dead])
 | _,_=>none)
theorem Mm:EntOk Tryz.prog Co:=entOk fun vs ck=>by
 unfold Co; dsimp only; split
 · rename_i n s nm ev vs st tr; exact entS fun hp=>Lc ⟨nm,ev,vs,st,tr⟩ n s hp.1 hp.2.1 hp.2.2.1 hp.2.2.2
 · exact entN
end Go.Proofs.YtpfidgnkokidoaaGreatDoor

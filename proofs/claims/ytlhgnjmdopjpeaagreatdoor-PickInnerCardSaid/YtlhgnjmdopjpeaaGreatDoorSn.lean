/- Contracts: the document's Check. Conditions: sizes of blocks. -/
import Derived.Test.YtlhgnjmdopjpeaaGreatDoorSm
import Derived.Test.YtlhgnjmdopjpeaaGreatDoorSg
namespace Go.Proofs.YtlhgnjmdopjpeaaGreatDoor
open Go Go.Ev
set_option maxRecDepth 100000
abbrev zJ24Sn:=J Tryz.prog 24 (ar Tryz.f24)
def ie:Cfg:=⟨aU,[qu,nM,oH,rX,Ga,uR,Ar,BI,lQ,Gb]⟩
theorem fe:ag Tryz.prog ie.tab:=(ag.cons oI (ag.cons BO (ag.cons uT (ag.cons Gc (ag.cons PG (ag.cons Jd (ag.cons L0 (ag.cons En (ag.cons lR (ag.cons PH ag.nil))))))))))
theorem ki{f:Nat→Int}{k n:Nat}{r:Int}(h:(f k != 0)=true):iB (bY f k (n+1)) r=f k:=by
 rw[bY,if_pos h,iC h]
theorem nO{f:Nat→Int}{k n:Nat}{r:Int}(h:(f k != 0)=false):iB (bY f k (n+1)) r=iB (bY f (k+1) n) r:=by
 rw[bY,if_neg (by rw[h];decide)]
variable(c:Chart){e:Int}(vs:List Str){b:Bool}(k:Nat)(out ss:List Str)
def inF:Int:=eg c.states k
def vaF:Int:=fw (ETy.get .var c.vars k)
def blF:Int:=dx c (ETy.get .stat c.states k)
def trF:Int:=dk c k (dS c.states) (ETy.get .tran c.trans k)
structure Sound (c:Chart):Prop where
 tree:cn c.states=true
 one:(c.states.map fun s:Ev.Stat=>s.name).Nodup
 va:c.vars.length≤8
 st:c.states.length≤40
 tr:c.trans.length≤48
 names:∀s∈c.states,bk s.name=true
 bulk:∀s∈c.states,s.entry.length≤4398046511104∧s.leave.length≤4398046511104
theorem NK(h:Sound c)(Γ:Ctx):∀(n k:Nat),c.trans.length - k=n→k≤c.trans.length →
 zJ24Sn Γ (Eq2 (.x (.i (iB (bY (trF c) k n) 0))) []) [.code [1,1,1,1,1,1,1,1,1,1,0,1,0,0],.inLoop [1,1,1,1,1,1,1,1,1,1,0,1,0,0],.inBlock 8,.code [1,1,1,1,1,1,1,1,1,1,1]] ({n:=184,fr:=[(1,.x (.c (.loc 0 0))),(2,.i 0),(13,.i ((k:Int)))],ck:=[.cells [.pd (.str c.name),.pd (.lst .str c.events),.pd (.lst .var c.vars),.pd (.lst .stat c.states),.pd (.lst .tran c.trans)] 27]}):=by
 have ht:=h.tr
 have hs:=h.st
 intro n
 induction n with
 |zero=>?_
 |succ n ih=>?_
 all_goals
  intro k hn hk
  refine jg fe Tryz.func24 (.ite (decide ((k:Int)<(c.trans.length:Int))) (.need ((0:Int)≤(k:Int)∧(k:Int)<(c.trans.length:Int)∧c.trans.length≤maxLen∧cn c.states=true∧List.Nodup (List.map (fun s=>s.name) c.states)∧c.states.length≤1466015503701∧∀(s:ETy.den .stat),s∈c.states→bk s.name=true) (.ite (dk c k (dS c.states) (ETy.get .tran c.trans k) != (0:Int)) (.ret (.i (dk c k (dS c.states) (ETy.get .tran c.trans k))) []) (.stop [.code [1,1,1,1,1,1,1,1,1,1,0,1,0,0],.inLoop [1,1,1,1,1,1,1,1,1,1,0,1,0,0],.inBlock 8,.code [1,1,1,1,1,1,1,1,1,1,1]] {n:=184,fr:=[(1,.x (.c (.loc 0 0))),(2,.i 0),(13,.i (IntKind.wrap .i64 ((k:Int)+1)))],ck:=[.cells [.pd (.str c.name),.pd (.lst .str c.events),.pd (.lst .var c.vars),.pd (.lst .stat c.states),.pd (.lst .tran c.trans)] 27]}))) (.ret (.i 0) [])) ?_
  refine⟨fun hlt=>?_,fun hge=>?_⟩
  · have hk':k<c.trans.length:=by have:=of_decide_eq_true hlt;omega
    have hm:c.trans.length≤maxLen:=by unfold maxLen;omega
    refine⟨⟨by omega,by omega,hm,h.tree,h.one,by omega,h.names⟩,fun hb=>?_,fun hb=>?_⟩
    · first
      |(exfalso;omega)
      |(rw[ki (f:=trF c) hb];exact⟨rfl,rfl⟩)
    · first
      |(exfalso;omega)
      |(rw[nO (f:=trF c) hb,aZ (aG hk' hm)];exact ih (k+1) (by omega) (by omega))
  · have:=of_decide_eq_false hge
    first
    |(exfalso;omega)
    |exact⟨rfl,rfl⟩
theorem HP(s:Ev.Stat)(h:s.entry.length≤4398046511104∧s.leave.length≤4398046511104):dx c s =
 if(bg s.kind&&(decide ((s.entry.length:Int)>0)||decide ((s.leave.length:Int)>0))||s.kind==4&&decide ((s.leave.length:Int)>0))=true then 1
 else if(cE c.events c.vars s.entry != 0)=true then cE c.events c.vars s.entry else cE c.events c.vars s.leave:=by
 unfold dx
 have e:decide (IntKind.wrap .i64 ((s.entry.length:Int)+(s.leave.length:Int))>0)=(decide ((s.entry.length:Int)>0)||decide ((s.leave.length:Int)>0)):=by
  rw[cg (by omega) (by omega),aT]
  simp only[aN,decide_eq_true_eq]
  omega
 rw[e]
theorem Nn(h:Sound c)(Γ:Ctx):∀(n k:Nat),c.states.length - k=n→k≤c.states.length →
 zJ24Sn Γ (Eq2 (.x (.i (iB (bY (blF c) k n) (q7E c (dS c.states))))) []) [.code [1,1,1,1,1,1,1,1,1,0,1,0,0],.inLoop [1,1,1,1,1,1,1,1,1,0,1,0,0],.inBlock 6,.code [1,1,1,1,1,1,1,1,1,1]] ({n:=184,fr:=[(1,.x (.c (.loc 0 0))),(2,.i 0),(9,.i ((k:Int)))],ck:=[.cells [.pd (.str c.name),.pd (.lst .str c.events),.pd (.lst .var c.vars),.pd (.lst .stat c.states),.pd (.lst .tran c.trans)] 27]}):=by
 have hs:=h.st
 have no:∀{b:Bool},b=false→¬b=true:=fun h e=>by rw[h]at e;cases e
 intro n
 induction n with
 |zero=>?_
 |succ n ih=>?_
 all_goals
  intro k hn hk
  refine jg fe Tryz.func24 (let x1:=(ETy.get .stat c.states k);let x2:List Chunk:=[.cells [.pd (.str c.name),.pd (.lst .str c.events),.pd (.lst .var c.vars),.pd (.lst .stat c.states),.pd (.lst .tran c.trans)] 27];let x3:=((↑((Stat.leave x1).length):Int)>0);.ite (decide ((k:Int)<(c.states.length:Int))) (.need (inRg k c.states.length) (.ite (bg (Stat.kind x1)&&(decide ((↑((Stat.entry x1).length):Int)>0)||decide x3)||Stat.kind x1==(4:Int)&&decide x3) (.ret (.i 1) []) (.ite (cE c.events c.vars (Stat.entry x1) != (0:Int)) (.ret (.i (cE c.events c.vars (Stat.entry x1))) []) (.ite (cE c.events c.vars (Stat.leave x1) != (0:Int)) (.ret (.i (cE c.events c.vars (Stat.leave x1))) []) (.stop [.code [1,1,1,1,1,1,1,1,1,0,1,0,0],.inLoop [1,1,1,1,1,1,1,1,1,0,1,0,0],.inBlock 6,.code [1,1,1,1,1,1,1,1,1,1]] {n:=184,fr:=[(1,.x (.c (.loc 0 0))),(2,.i 0),(9,.i (IntKind.wrap .i64 ((k:Int)+1)))],ck:=x2}))))) (.stop [.code [1,1,1,1,1,1,1,1,1,1,0,1,0,0],.inLoop [1,1,1,1,1,1,1,1,1,1,0,1,0,0],.inBlock 8,.code [1,1,1,1,1,1,1,1,1,1,1]] {n:=184,fr:=[(1,.x (.c (.loc 0 0))),(2,.i 0),(13,.i 0)],ck:=x2})) ?_
  conv=>zeta
  refine⟨fun hlt=>?_,fun hge=>?_⟩
  · have hk':k<c.states.length:=by have:=of_decide_eq_true hlt;omega
    have hm:c.states.length≤maxLen:=by unfold maxLen;omega
    have e:blF c k=_:=HP c (ETy.get .stat c.states k) (h.bulk _ (by rw[ETy.get_eq (t:=.stat) (List.getElem?_eq_getElem hk')];exact aW hk'))
    refine⟨⟨by omega,by omega⟩,fun hb=>?_,fun hb=>⟨fun h2=>?_,fun h2=>⟨fun h3=>?_,fun h3=>?_⟩⟩⟩
    · rw[if_pos hb]at e
      first
      |(exfalso;omega)
      |(rw[ki (f:=blF c) (by rw[e];rfl),e];exact⟨rfl,rfl⟩)
    · rw[if_neg (no hb),if_pos h2]at e
      first
      |(exfalso;omega)
      |(rw[ki (f:=blF c) (by rw[e];exact h2),e];exact⟨rfl,rfl⟩)
    · rw[if_neg (no hb),if_neg (no h2)]at e
      first
      |(exfalso;omega)
      |(rw[ki (f:=blF c) (by rw[e];exact h3),e];exact⟨rfl,rfl⟩)
    · rw[if_neg (no hb),if_neg (no h2)]at e
      first
      |(exfalso;omega)
      |(rw[nO (f:=blF c) (by rw[e];exact h3),aZ (aG hk' hm)];exact ih (k+1) (by omega) (by omega))
  · have:=of_decide_eq_false hge
    first
    |(exfalso;omega)
    |exact NK c h Γ c.trans.length 0 (by omega) (by omega)
theorem NP(h:Sound c)(Γ:Ctx):∀(n k:Nat),c.vars.length - k=n→k≤c.vars.length →
 zJ24Sn Γ (Eq2 (.x (.i (iB (bY (vaF c) k n) (q6E c (dS c.states))))) []) [.code [1,1,1,1,1,1,1,1,0,1,0,0],.inLoop [1,1,1,1,1,1,1,1,0,1,0,0],.inBlock 4,.code [1,1,1,1,1,1,1,1,1]] ({n:=184,fr:=[(1,.x (.c (.loc 0 0))),(2,.i 0),(7,.i ((k:Int)))],ck:=[.cells [.pd (.str c.name),.pd (.lst .str c.events),.pd (.lst .var c.vars),.pd (.lst .stat c.states),.pd (.lst .tran c.trans)] 27]}):=by
 have hs:=h.va
 intro n
 induction n with
 |zero=>?_
 |succ n ih=>?_
 all_goals
  intro k hn hk
  refine jg fe Tryz.func24 (let x1:List Chunk:=[.cells [.pd (.str c.name),.pd (.lst .str c.events),.pd (.lst .var c.vars),.pd (.lst .stat c.states),.pd (.lst .tran c.trans)] 27];.ite (decide ((k:Int)<(c.vars.length:Int))) (.need (inRg k c.vars.length) (.ite (fw (ETy.get .var c.vars k) != (0:Int)) (.ret (.i (fw (ETy.get .var c.vars k))) []) (.stop [.code [1,1,1,1,1,1,1,1,0,1,0,0],.inLoop [1,1,1,1,1,1,1,1,0,1,0,0],.inBlock 4,.code [1,1,1,1,1,1,1,1,1]] {n:=184,fr:=[(1,.x (.c (.loc 0 0))),(2,.i 0),(7,.i (IntKind.wrap .i64 ((k:Int)+1)))],ck:=x1}))) (.stop [.code [1,1,1,1,1,1,1,1,1,0,1,0,0],.inLoop [1,1,1,1,1,1,1,1,1,0,1,0,0],.inBlock 6,.code [1,1,1,1,1,1,1,1,1,1]] {n:=184,fr:=[(1,.x (.c (.loc 0 0))),(2,.i 0),(9,.i 0)],ck:=x1})) ?_
  conv=>zeta
  refine⟨fun hlt=>?_,fun hge=>?_⟩
  · have hk':k<c.vars.length:=by have:=of_decide_eq_true hlt;omega
    have hm:c.vars.length≤maxLen:=by unfold maxLen;omega
    refine⟨⟨by omega,by omega⟩,fun hb=>?_,fun hb=>?_⟩
    · first
      |(exfalso;omega)
      |(rw[ki (f:=vaF c) hb];exact⟨rfl,rfl⟩)
    · first
      |(exfalso;omega)
      |(rw[nO (f:=vaF c) hb,aZ (aG hk' hm)];exact ih (k+1) (by omega) (by omega))
  · have:=of_decide_eq_false hge
    first
    |(exfalso;omega)
    |exact Nn c h Γ c.states.length 0 (by omega) (by omega)
theorem Nw(h:Sound c)(Γ:Ctx):∀(n k:Nat),c.states.length - k=n→k≤c.states.length →
 zJ24Sn Γ (Eq2 (.x (.i (iB (bY (inF c) k n) (q5E c (dS c.states))))) []) [.code [1,1,1,1,1,1,1,0,1,0,0],.inLoop [1,1,1,1,1,1,1,0,1,0,0],.inBlock 2,.code [1,1,1,1,1,1,1,1]] ({n:=184,fr:=[(1,.x (.c (.loc 0 0))),(2,.i 0),(5,.i ((k:Int)))],ck:=[.cells [.pd (.str c.name),.pd (.lst .str c.events),.pd (.lst .var c.vars),.pd (.lst .stat c.states),.pd (.lst .tran c.trans)] 27]}):=by
 have hs:=h.st
 intro n
 induction n with
 |zero=>?_
 |succ n ih=>?_
 all_goals
  intro k hn hk
  refine jg fe Tryz.func24 (let x1:List Chunk:=[.cells [.pd (.str c.name),.pd (.lst .str c.events),.pd (.lst .var c.vars),.pd (.lst .stat c.states),.pd (.lst .tran c.trans)] 27];.ite (decide ((k:Int)<(c.states.length:Int))) (.need ((0:Int)≤(k:Int)∧(k:Int)<(c.states.length:Int)∧c.states.length≤maxLen∧cn c.states=true) (.ite (eg c.states k != (0:Int)) (.ret (.i (eg c.states k)) []) (.stop [.code [1,1,1,1,1,1,1,0,1,0,0],.inLoop [1,1,1,1,1,1,1,0,1,0,0],.inBlock 2,.code [1,1,1,1,1,1,1,1]] {n:=184,fr:=[(1,.x (.c (.loc 0 0))),(2,.i 0),(5,.i (IntKind.wrap .i64 ((k:Int)+1)))],ck:=x1}))) (.stop [.code [1,1,1,1,1,1,1,1,0,1,0,0],.inLoop [1,1,1,1,1,1,1,1,0,1,0,0],.inBlock 4,.code [1,1,1,1,1,1,1,1,1]] {n:=184,fr:=[(1,.x (.c (.loc 0 0))),(2,.i 0),(7,.i 0)],ck:=x1})) ?_
  conv=>zeta
  refine⟨fun hlt=>?_,fun hge=>?_⟩
  · have hk':k<c.states.length:=by have:=of_decide_eq_true hlt;omega
    have hm:c.states.length≤maxLen:=by unfold maxLen;omega
    refine⟨⟨by omega,by omega,hm,h.tree⟩,fun hb=>?_,fun hb=>?_⟩
    · first
      |(exfalso;omega)
      |(rw[ki (f:=inF c) hb];exact⟨rfl,rfl⟩)
    · first
      |(exfalso;omega)
      |(rw[nO (f:=inF c) hb,aZ (aG hk' hm)];exact ih (k+1) (by omega) (by omega))
  · have:=of_decide_eq_false hge
    first
    |(exfalso;omega)
    |exact NP c h Γ c.vars.length 0 (by omega) (by omega)
theorem MS:((ic c vs ss).any fun s:Str=>!bk s)=(!bk c.name || !c.events.all bk || !vs.all bk || !ss.all bk):=by
 unfold ic
 rw[px]
 simp only[List.flatten_cons,List.flatten_nil,aO,fK,cr,List.any_nil,bN,List.not_all_eq_any_not,fy]
theorem Oe:kS c vs ss = !(eN c.events||eN vs||eN ss):=by
 unfold kS
 rw[wN,wN,wN,Bool.not_or,Bool.not_or]
theorem pE(h:b=true):b7 b e=0:=if_pos h
theorem nj(h:b=false):b7 b e=e:=if_neg (by rw[h];decide)
theorem QJ(hout:out=c.vars.map fun v:Var=>v.name)(hb:∀s∈c.states,s.entry.length≤4398046511104∧s.leave.length≤4398046511104)(hva:c.vars.length≤8)(hst:c.states.length≤40)(htr:c.trans.length≤48)(hnm:∀s∈c.states,bk s.name=true)(Γ:Ctx) :
 zJ24Sn Γ (Eq2 (.x (.i (q2E c out (c.states.map fun s:Ev.Stat=>s.name) (dS c.states)))) []) [.ops [1,1,1,1,1,0,0] 9,.code [1,1,1,1,1,0,1],.code [1,1,1,1,1,1]] ({n:=184,fr:=[(1,.x (.c (.loc 0 0))),(2,.i 0),(81,.p (.bool (eN c.events||eN out))),(82,.grd 81 false (.agg [.pd (.str c.name),.pd (.lst .str c.events),.pd (.lst .var c.vars),.pd (.lst .stat c.states),.pd (.lst .tran c.trans)]))],ck:=[.cells [.pd (.str c.name),.pd (.lst .str c.events),.pd (.lst .var c.vars),.pd (.lst .stat c.states),.pd (.lst .tran c.trans)] 27]}):=by
 have no:∀{b:Bool},b=false→¬b=true:=fun h e=>by rw[h]at e;cases e
 unfold q2E
 rw[Oe,←jO]
 generalize hB:(eN c.events||eN out)=B
 cases B
 · refine J.on (cfg:=ie) fe (q:=some (c.states.length≤1466015503701)) (by kernel_rfl) (by show c.states.length≤1466015503701;omega) (?_:zJ24Sn Γ _ [.ops [1,1,1,1,1,0,0] 10,.code [1,1,1,1,1,0,1],.code [1,1,1,1,1,1]] ({n:=184,fr:=[(1,.x (.c (.loc 0 0))),(2,.i 0),(81,.p (.bool false)),(82,.x (.agg [.pd (.str c.name),.pd (.lst .str c.events),.pd (.lst .var c.vars),.pd (.lst .stat c.states),.pd (.lst .tran c.trans)])),(83,.x (.c (.own 1)))],ck:=[.cells [.pd (.str c.name),.pd (.lst .str c.events),.pd (.lst .var c.vars),.pd (.lst .stat c.states),.pd (.lst .tran c.trans)] 27,.own 9 .str (dL true c.states)]}))
   refine jg fe Tryz.func24 (.ite (false||eN (dL true c.states)) (.ret (.i 3) []) (.need (c.states.length≤1466015503701) (.ite (!iw c.states) (.ret (.i 9) []) (.stop [.code [1,1,1,1,1,1,1,0,1,0,0],.inLoop [1,1,1,1,1,1,1,0,1,0,0],.inBlock 2,.code [1,1,1,1,1,1,1,1]] {n:=184,fr:=[(1,.x (.c (.loc 0 0))),(2,.i 0),(5,.i 0)],ck:=[.cells [.pd (.str c.name),.pd (.lst .str c.events),.pd (.lst .var c.vars),.pd (.lst .stat c.states),.pd (.lst .tran c.trans)] 27]})))) ?_
   rw[bj]
   refine⟨fun h=>?_,fun h=>⟨by omega,fun h2=>?_,fun h2=>?_⟩⟩
   ·rw[h,cq,nj rfl];exact⟨rfl,rfl⟩
   · have h3:cn c.states=false:=by rw[pL];simpa using h2
     rw[h,cI,pE rfl];unfold q3E;rw[h3];exact⟨rfl,rfl⟩
   · have h3:cn c.states=true:=by rw[pL];simpa using h2
     rw[h,cI,pE rfl];unfold q3E;rw[h3]
     rw[jO]at h
     exact Nw c ⟨h3,(yD _).1 h,hva,hst,htr,hnm,hb⟩ Γ c.states.length 0 (by omega) (by omega)
 · refine J.off 2 9 (by kernel_rfl) (?_:zJ24Sn Γ _ [.ops [1,1,1,1,1,0,0] 11,.code [1,1,1,1,1,0,1],.code [1,1,1,1,1,1]] ({n:=184,fr:=[(1,.x (.c (.loc 0 0))),(2,.i 0),(81,.p (.bool true)),(82,.grd 81 false (.agg [.pd (.str c.name),.pd (.lst .str c.events),.pd (.lst .var c.vars),.pd (.lst .stat c.states),.pd (.lst .tran c.trans)])),(83,.grd 81 false (.p (.bool false))),(84,.grd 81 false (.p (.bool false)))],ck:=[.cells [.pd (.str c.name),.pd (.lst .str c.events),.pd (.lst .var c.vars),.pd (.lst .stat c.states),.pd (.lst .tran c.trans)] 27]}))
   refine jg fe Tryz.func24 (.ite true (.ret (.i 3) []) (.need (c.states.length≤1466015503701) (.ite (!iw c.states) (.ret (.i 9) []) (.stop [.code [1,1,1,1,1,1,1,0,1,0,0],.inLoop [1,1,1,1,1,1,1,0,1,0,0],.inBlock 2,.code [1,1,1,1,1,1,1,1]] {n:=184,fr:=[(1,.x (.c (.loc 0 0))),(2,.i 0),(5,.i 0)],ck:=[.cells [.pd (.str c.name),.pd (.lst .str c.events),.pd (.lst .var c.vars),.pd (.lst .stat c.states),.pd (.lst .tran c.trans)] 27]})))) ?_
   refine⟨fun _=>?_,fun h=>(by cases h)⟩
   rw[b9,cq,nj rfl];exact⟨rfl,rfl⟩
theorem QI(hout:out=c.vars.map fun v:Var=>v.name)(hb:∀s∈c.states,s.entry.length≤4398046511104∧s.leave.length≤4398046511104)(hva:c.vars.length≤8)(hst:c.states.length≤40)(htr:c.trans.length≤48)(Γ:Ctx) :
 zJ24Sn Γ (Eq2 (.x (.i (q1E c out (c.states.map fun s:Ev.Stat=>s.name) (dS c.states)))) []) [.ops [1,1,1,1,0,0] 17,.code [1,1,1,1,0,1],.code [1,1,1,1,1]] ({n:=184,fr:=[(1,.x (.c (.loc 0 0))),(2,.i 0),(3,.x (.c (.own 1))),(68,.p (.bool (!bk c.name || !List.all c.events bk || !List.all out bk))),(69,.grd 68 false (.agg [.pd (.str c.name),.pd (.lst .str c.events),.pd (.lst .var c.vars),.pd (.lst .stat c.states),.pd (.lst .tran c.trans)]))],ck:=[.cells [.pd (.str c.name),.pd (.lst .str c.events),.pd (.lst .var c.vars),.pd (.lst .stat c.states),.pd (.lst .tran c.trans)] 27,.own 9 .str out]}):=by
 unfold q1E
 rw[MS,←jO]
 generalize hB:(!bk c.name || !c.events.all bk || !out.all bk)=B
 cases B
 · refine J.on (cfg:=ie) fe (q:=some (c.states.length≤1466015503701)) (by kernel_rfl) (by show c.states.length≤1466015503701;omega) (?_:zJ24Sn Γ _ [.ops [1,1,1,1,0,0] 18,.code [1,1,1,1,0,1],.code [1,1,1,1,1]] ({n:=184,fr:=[(1,.x (.c (.loc 0 0))),(2,.i 0),(3,.x (.c (.own 1))),(68,.p (.bool false)),(69,.x (.agg [.pd (.str c.name),.pd (.lst .str c.events),.pd (.lst .var c.vars),.pd (.lst .stat c.states),.pd (.lst .tran c.trans)])),(70,.x (.c (.own 2)))],ck:=[.cells [.pd (.str c.name),.pd (.lst .str c.events),.pd (.lst .var c.vars),.pd (.lst .stat c.states),.pd (.lst .tran c.trans)] 27,.own 9 .str out,.own 9 .str (dL true c.states)]}))
   refine jg fe Tryz.func24 (.ite (false || !List.all (dL true c.states) bk) (.ret (.i 2) []) (.stop [.ops [1,1,1,1,1,0,0] 9,.code [1,1,1,1,1,0,1],.code [1,1,1,1,1,1]] {n:=184,fr:=[(1,.x (.c (.loc 0 0))),(2,.i 0),(81,.p (.bool (eN c.events||eN out))),(82,.grd 81 false (.agg [.pd (.str c.name),.pd (.lst .str c.events),.pd (.lst .var c.vars),.pd (.lst .stat c.states),.pd (.lst .tran c.trans)]))],ck:=[.cells [.pd (.str c.name),.pd (.lst .str c.events),.pd (.lst .var c.vars),.pd (.lst .stat c.states),.pd (.lst .tran c.trans)] 27]})) ?_
   rw[bj]
   refine⟨fun h=>?_,fun h=>?_⟩
   ·rw[h,cq,nj rfl];exact⟨rfl,rfl⟩
   · rw[h,cI,pE rfl,jO]
     rw[jO]at h
     refine QJ c out hout hb hva hst htr (fun s hs=>?_) Γ
     have h2:((c.states.map fun s:Ev.Stat=>s.name).all bk)=true:=by simpa using h
     exact an.1 h2 _ (aM.2 ⟨s,hs,rfl⟩)
 · refine J.off 2 17 (by kernel_rfl) (?_:zJ24Sn Γ _ [.ops [1,1,1,1,0,0] 19,.code [1,1,1,1,0,1],.code [1,1,1,1,1]] ({n:=184,fr:=[(1,.x (.c (.loc 0 0))),(2,.i 0),(3,.x (.c (.own 1))),(68,.p (.bool true)),(69,.grd 68 false (.agg [.pd (.str c.name),.pd (.lst .str c.events),.pd (.lst .var c.vars),.pd (.lst .stat c.states),.pd (.lst .tran c.trans)])),(70,.grd 68 false (.p (.bool false))),(71,.grd 68 false (.p (.bool false)))],ck:=[.cells [.pd (.str c.name),.pd (.lst .str c.events),.pd (.lst .var c.vars),.pd (.lst .stat c.states),.pd (.lst .tran c.trans)] 27,.own 9 .str out]}))
   refine jg fe Tryz.func24 (.ite true (.ret (.i 2) []) (.stop [.ops [1,1,1,1,1,0,0] 9,.code [1,1,1,1,1,0,1],.code [1,1,1,1,1,1]] {n:=184,fr:=[(1,.x (.c (.loc 0 0))),(2,.i 0),(81,.p (.bool (eN c.events||eN out))),(82,.grd 81 false (.agg [.pd (.str c.name),.pd (.lst .str c.events),.pd (.lst .var c.vars),.pd (.lst .stat c.states),.pd (.lst .tran c.trans)]))],ck:=[.cells [.pd (.str c.name),.pd (.lst .str c.events),.pd (.lst .var c.vars),.pd (.lst .stat c.states),.pd (.lst .tran c.trans)] 27]})) ?_
   refine⟨fun _=>?_,fun h=>(by cases h)⟩
   rw[b9,cq,nj rfl];exact⟨rfl,rfl⟩
theorem Np(hb:∀s∈c.states,s.entry.length≤4398046511104∧s.leave.length≤4398046511104)(hva:c.vars.length≤8)(hst:c.states.length≤40)(htr:c.trans.length≤48)(Γ:Ctx):∀(n k:Nat),c.vars.length - k≤n→k≤c.vars.length →
 zJ24Sn Γ (Eq2 (.x (.i (q1E c (c.vars.map fun v:Var=>v.name) (c.states.map fun s:Ev.Stat=>s.name) (dS c.states)))) []) [.code [1,1,1,0,1,0,0],.inLoop [1,1,1,0,1,0,0],.inBlock 0,.code [1,1,1,1]] ({n:=184,fr:=[(1,.x (.c (.loc 0 0))),(2,.i 0),(3,.x (.c (.own 1))),(4,.i ((k:Int)))],ck:=[.cells [.pd (.str c.name),.pd (.lst .str c.events),.pd (.lst .var c.vars),.pd (.lst .stat c.states),.pd (.lst .tran c.trans)] 27,.own 9 .str ((c.vars.take k).map fun v:Var=>v.name)]}):=by
 have hm:c.vars.length≤maxLen:=by unfold maxLen;omega
 intro n
 induction n with
 |zero=>?_
 |succ n ih=>?_
 all_goals
  intro k hn hk
  generalize hout:(c.vars.take k).map (fun v:Var=>v.name)=out
  refine jg fe Tryz.func24 (.ite (decide ((k:Int)<(c.vars.length:Int))) (.need (inRg k c.vars.length) (.need (room ((out++[Var.name (ETy.get .var c.vars k)]).length) 16) (.stop [.code [1,1,1,0,1,0,0],.inLoop [1,1,1,0,1,0,0],.inBlock 0,.code [1,1,1,1]] {n:=184,fr:=[(1,.x (.c (.loc 0 0))),(2,.i 0),(3,.x (.c (.own 1))),(4,.i (IntKind.wrap .i64 ((k:Int)+1)))],ck:=[.cells [.pd (.str c.name),.pd (.lst .str c.events),.pd (.lst .var c.vars),.pd (.lst .stat c.states),.pd (.lst .tran c.trans)] 27,.own 9 .str (out++[Var.name (ETy.get .var c.vars k)])]}))) (.stop [.ops [1,1,1,1,0,0] 17,.code [1,1,1,1,0,1],.code [1,1,1,1,1]] {n:=184,fr:=[(1,.x (.c (.loc 0 0))),(2,.i 0),(3,.x (.c (.own 1))),(68,.p (.bool (!bk c.name || !List.all c.events bk || !List.all out bk))),(69,.grd 68 false (.agg [.pd (.str c.name),.pd (.lst .str c.events),.pd (.lst .var c.vars),.pd (.lst .stat c.states),.pd (.lst .tran c.trans)]))],ck:=[.cells [.pd (.str c.name),.pd (.lst .str c.events),.pd (.lst .var c.vars),.pd (.lst .stat c.states),.pd (.lst .tran c.trans)] 27,.own 9 .str out]})) ?_
  refine⟨fun hlt=>?_,fun hge=>?_⟩
  · have hk':k<c.vars.length:=by have:=of_decide_eq_true hlt;omega
    have hs:=rE (t:=.var) (fun v:Var=>v.name) hk'
    rw[hout]at hs
    refine⟨⟨by omega,by omega⟩,?_⟩
    rw[hs]
    refine⟨rA _ (by rw[aP,a6];omega),?_⟩
    rw[aZ (aG hk' hm)]
    first
    |(exfalso;omega)
    |exact ih (k+1) (by omega) (by omega)
  · have hke:k=c.vars.length:=by have:=of_decide_eq_false hge;omega
    subst hke
    rw[a8 (av _)]at hout
    rw[hout]
    exact QI c out hout.symm hb hva hst htr Γ
theorem DC(hb:∀s∈c.states,s.entry.length≤4398046511104∧s.leave.length≤4398046511104):ah Tryz.prog 24 [.e .chart c] [] (.x (.i (bp c))) []:=by
 refine dg fe Tryz.func24 (.ite (decide ((c.events.length:Int)>12)||decide ((c.vars.length:Int)>8)||decide ((c.states.length:Int)>40)||decide ((c.trans.length:Int)>48)) (.ret (.i 4) []) (.stop [.code [1,1,1,0,1,0,0],.inLoop [1,1,1,0,1,0,0],.inBlock 0,.code [1,1,1,1]] {n:=184,fr:=[(1,.x (.c (.loc 0 0))),(2,.i 0),(3,.p (.v (Value.slice none 0 0))),(4,.i 0)],ck:=[.cells [.pd (.str c.name),.pd (.lst .str c.events),.pd (.lst .var c.vars),.pd (.lst .stat c.states),.pd (.lst .tran c.trans)] 27]})) fun Γ=>?_
 unfold bp q0E
 have e:jx c = !(decide ((c.events.length:Int)>12)||decide ((c.vars.length:Int)>8)||decide ((c.states.length:Int)>40)||decide ((c.trans.length:Int)>48)):=by
  rw[aT,dP]
  simp only[aK,al,decide_eq_false_iff_not]
  omega
 rw[e]
 refine⟨fun h=>?_,fun h=>?_⟩
 ·rw[h,cq,nj rfl];exact⟨rfl,rfl⟩
 · rw[h,cI,pE rfl]
   simp only[al,decide_eq_false_iff_not]at h
   refine J.nilOwn 3 9 .str rfl (by kernel_rfl) ?_
   exact Np c hb (by omega) (by omega) (by omega) Γ c.vars.length 0 (by omega) (by omega)
def rV:Ent:=(24,fun
 |[.agg [.pd (.str a),.pd (.lst .str b),.pd (.lst .var c),.pd (.lst .stat d),.pd (.lst .tran e)]],[]=>some (some (∀s∈d,s.entry.length≤4398046511104∧s.leave.length≤4398046511104),.x (.c (.pd (.int .i64 (bp ⟨a,b,c,d,e⟩)))),[])
 |_,_=>none)
theorem F8:EntOk Tryz.prog rV:=entOk fun vs ck=>by
 unfold rV;dsimp only;split
 ·rename_i a b c d e;exact entS fun hp=>DC ⟨a,b,c,d,e⟩ hp
 ·exact entN
end Go.Proofs.YtlhgnjmdopjpeaaGreatDoor

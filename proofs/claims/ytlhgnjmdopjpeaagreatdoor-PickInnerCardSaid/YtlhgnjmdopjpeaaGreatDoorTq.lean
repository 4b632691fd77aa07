/- Contracts: valid.Check. Conditions: sizes. -/
import Derived.Test.YtlhgnjmdopjpeaaGreatDoorTp
namespace Go.Proofs.YtlhgnjmdopjpeaaGreatDoor
open Go Go.Ev
set_option maxRecDepth 100000
abbrev zJ97Tq:=J Tryz.prog 97 (ar Tryz.f97)
def js:Cfg:=⟨aU,[uJ,oN,eEa,eEb,eQ3,eQ4,eQ5,eQ6,eE7,eE8,eE9,FI]⟩
theorem fR:ag Tryz.prog js.tab:=(ag.cons I7 (ag.cons qy (ag.cons Rz (ag.cons RA (ag.cons RI (ag.cons RJ (ag.cons RK (ag.cons RL (ag.cons Rw (ag.cons Rx (ag.cons Ry (ag.cons Po ag.nil))))))))))))
def iB(e r:Int):Int:=if(e != 0)=true then e else r
variable(c:Chart)(vs ss real:List Str)(a:Chart){e:Int}(b:List Str)(l:List Ev.Stat){r:Int}(Γ:Ctx)
def dS:List Str:=(l.filter fun s:Ev.Stat=>!bg s.kind).map fun s:Ev.Stat=>s.name
def q7E:Int:=iB (bY (fun k:Nat=>dk c k real (ETy.get .tran c.trans k)) 0 c.trans.length) 0
def q6E:Int:=iB (bY (fun k:Nat=>dx c (ETy.get .stat c.states k)) 0 c.states.length) (q7E c real)
def q5E:Int:=iB (bY (fun k:Nat=>fw (ETy.get .var c.vars k)) 0 c.vars.length) (q6E c real)
def q4E:Int:=iB (bY (fun k:Nat=>eg c.states k) 0 c.states.length) (q5E c real)
def q3E:Int:=iB (b7 (cn c.states) 9) (q4E c real)
def q2E:Int:=iB (b7 (kS c vs ss) 3) (q3E c real)
def q1E:Int:=iB (b7 (!(ic c vs ss).any fun s:Str=>!bk s) 2) (q2E c vs ss real)
def q0E:Int:=iB (b7 (jx c) 4) (q1E c vs ss real)
def bp:Int:=q0E c (c.vars.map fun v:Var=>v.name) (c.states.map fun s:Ev.Stat=>s.name) (dS c.states)
theorem iC(h:(e != 0)=true):iB e r=e:=if_pos h
theorem iY(h:(e != 0)=false):iB e r=r:=if_neg (by rw[h];decide)
theorem nS{k:Int}(h:k=0∨k=1∨k=2∨k=3∨k=4∨k=5∨k=6∨k=7):IntKind.wrap .i64 (k+1)=k+1:=cg (by omega) (by omega)
structure Small (c:Chart) (vs ss:List Str):Prop where
 ev:c.events.length≤200000
 va:c.vars.length≤200000
 st:c.states.length≤200000
 tr:c.trans.length≤200000
 vs:vs.length≤200000
 ss:ss.length≤200000
theorem Small.le{c:Chart}{vs ss:List Str}(_h:Small c vs ss){n:Nat}(hn:n≤200000):n≤maxLen:=aC hn (by decide)
theorem Small.all{c:Chart}{vs ss:List Str}(h:Small c vs ss):(ic c vs ss).length≤1000000:=by
 have:=h.ev;have:=h.vs;have:=h.ss
 unfold ic
 rw[px]
 simp only[List.flatten_cons,List.flatten_nil,au,ax,bJ]
 omega
abbrev zTq1(c:List Str)(d:List Str):List (Nat×List PD):=[(145,[.ref .chart a 0]),(147,[PD.fnAt [(143,[.ref .chart a 0,.ref .strs b 0,.ref .strs c 0])] 0]),(150,[.ref .chart a 0,.ref .strs b 0,.ref .strs c 0]),(152,[.ref .chart a 0]),(141,[.ref .int (a.states.length:Int) 0,PD.fnAt [(153,[.ref .chart a 0])] 0]),(141,[.ref .int (a.vars.length:Int) 0,PD.fnAt [(155,[.ref .chart a 0])] 0]),(141,[.ref .int (a.states.length:Int) 0,PD.fnAt [(157,[.ref .chart a 0])] 0]),(141,[.ref .int (a.trans.length:Int) 0,PD.fnAt [(159,[.ref .chart a 0,.ref .strs d 0])] 0])]
abbrev zTq2:List PI:=[.code [1,1,1,1,1,1,1,0,1,0,0],.inLoop [1,1,1,1,1,1,1,0,1,0,0],.inBlock 2,.code [1,1,1,1,1,1,1,1]]
theorem SL:zJ97Tq Γ (Eq2 (.x (.i (0))) []) zTq2 ({n:=78,fr:=[(2,.i 0),(66,.p (PD.fns (zTq1 c vs ss real))),(67,.i (↑(List.length (zTq1 c vs ss real)):Int)),(68,.i (8))],ck:=[]}):=by
 refine jg fR Tryz.func97 (let x1:List (Nat×List PD):=(zTq1 c vs ss real);.ite false (.need ((0:Int)≤8∧(8:Int)<(↑(List.length x1):Int)) (.stop [.ops [1,1,1,1,1,1,1,0,1,0,0,1,1,0,0,0] 1,.code [1,1,1,1,1,1,1,0,1,0,0,1,1,0,0,1],.inBlock 3,.code [1,1,1,1,1,1,1,0,1,0,0,1,1,1],.inLoop [1,1,1,1,1,1,1,0,1,0,0],.inBlock 2,.code [1,1,1,1,1,1,1,1]] {n:=78,fr:=[(2,.i 0),(66,.p (PD.fns x1)),(67,.i (↑(List.length x1):Int)),(68,.i 8),(70,.p (PD.fnAt x1 8))],ck:=[]})) (.ret (.i 0) [])) ?_
 conv=>zeta
 refine⟨fun h=>Bool.noConfusion h,fun _=>⟨rfl,rfl⟩⟩
abbrev zTq3(c:List Str):List (Nat×List PD):=[(143,[.ref .chart a 0,.ref .strs b 0,.ref .strs c 0])]
abbrev zTq5:List (Nat×List PD):=[(159,[.ref .chart a 0,.ref .strs b 0])]
theorem SK(h:Small c vs ss):zJ97Tq Γ (Eq2 (.x (.i (q7E c real))) []) zTq2 ({n:=78,fr:=[(2,.i 0),(66,.p (PD.fns (zTq1 c vs ss real))),(67,.i (↑(List.length (zTq1 c vs ss real)):Int)),(68,.i (7))],ck:=[]}):=by
 refine jg fR Tryz.func97 (let x2:=(c.trans.length:Int);let x1:List (Nat×List PD):=[(145,[.ref .chart c 0]),(147,[PD.fnAt (zTq3 c vs ss) 0]),(150,[.ref .chart c 0,.ref .strs vs 0,.ref .strs ss 0]),(152,[.ref .chart c 0]),(141,[.ref .int (c.states.length:Int) 0,PD.fnAt [(153,[.ref .chart c 0])] 0]),(141,[.ref .int (c.vars.length:Int) 0,PD.fnAt [(155,[.ref .chart c 0])] 0]),(141,[.ref .int (c.states.length:Int) 0,PD.fnAt [(157,[.ref .chart c 0])] 0]),(141,[.ref .int x2 0,PD.fnAt (zTq5 c real) 0])];.ite true (.need ((0:Int)≤7∧(7:Int)<(↑(List.length x1):Int)) (.need (x2=x2∧c.states.length≤maxLen∧c.trans.length≤maxLen) (.ite (bY (fun k=>dk c k real (ETy.get .tran c.trans k)) 0 c.trans.length != (0:Int)) (.ret (.i (bY (fun k=>dk c k real (ETy.get .tran c.trans k)) 0 c.trans.length)) []) (.stop zTq2 {n:=78,fr:=[(2,.i 0),(66,.p (PD.fns x1)),(67,.i (↑(List.length x1):Int)),(68,.i (IntKind.wrap .i64 ((7:Int)+1)))],ck:=[]})))) (.ret (.i 0) [])) ?_
 conv=>zeta
 refine⟨fun _=>⟨by show(0:Int)≤7∧(7:Int)<((8:Nat):Int);decide,⟨rfl,h.le h.st,h.le h.tr⟩,fun hb=>?_,fun hb=>?_⟩,fun hb=>Bool.noConfusion hb⟩
 ·unfold q7E;rw[iC hb];exact⟨rfl,rfl⟩
 · unfold q7E;rw[iY hb,nS (by omega)]
   exact SL c vs ss real Γ
theorem SJ(h:Small c vs ss):zJ97Tq Γ (Eq2 (.x (.i (q6E c real))) []) zTq2 ({n:=78,fr:=[(2,.i 0),(66,.p (PD.fns (zTq1 c vs ss real))),(67,.i (↑(List.length (zTq1 c vs ss real)):Int)),(68,.i (6))],ck:=[]}):=by
 refine jg fR Tryz.func97 (let x2:=(c.states.length:Int);let x1:List (Nat×List PD):=[(145,[.ref .chart c 0]),(147,[PD.fnAt (zTq3 c vs ss) 0]),(150,[.ref .chart c 0,.ref .strs vs 0,.ref .strs ss 0]),(152,[.ref .chart c 0]),(141,[.ref .int x2 0,PD.fnAt [(153,[.ref .chart c 0])] 0]),(141,[.ref .int (c.vars.length:Int) 0,PD.fnAt [(155,[.ref .chart c 0])] 0]),(141,[.ref .int x2 0,PD.fnAt [(157,[.ref .chart c 0])] 0]),(141,[.ref .int (c.trans.length:Int) 0,PD.fnAt (zTq5 c real) 0])];.ite true (.need ((0:Int)≤6∧(6:Int)<(↑(List.length x1):Int)) (.need (x2=x2∧c.states.length≤maxLen) (.ite (bY (fun k=>dx c (ETy.get .stat c.states k)) 0 c.states.length != (0:Int)) (.ret (.i (bY (fun k=>dx c (ETy.get .stat c.states k)) 0 c.states.length)) []) (.stop zTq2 {n:=78,fr:=[(2,.i 0),(66,.p (PD.fns x1)),(67,.i (↑(List.length x1):Int)),(68,.i (IntKind.wrap .i64 ((6:Int)+1)))],ck:=[]})))) (.ret (.i 0) [])) ?_
 conv=>zeta
 refine⟨fun _=>⟨by show(0:Int)≤6∧(6:Int)<((8:Nat):Int);decide,⟨rfl,h.le h.st⟩,fun hb=>?_,fun hb=>?_⟩,fun hb=>Bool.noConfusion hb⟩
 ·unfold q6E;rw[iC hb];exact⟨rfl,rfl⟩
 · unfold q6E;rw[iY hb,nS (by omega)]
   exact SK c vs ss real Γ h
theorem SI(h:Small c vs ss):zJ97Tq Γ (Eq2 (.x (.i (q5E c real))) []) zTq2 ({n:=78,fr:=[(2,.i 0),(66,.p (PD.fns (zTq1 c vs ss real))),(67,.i (↑(List.length (zTq1 c vs ss real)):Int)),(68,.i (5))],ck:=[]}):=by
 refine jg fR Tryz.func97 (let x1:List (Nat×List PD):=(zTq1 c vs ss real);.ite true (.need ((0:Int)≤5∧(5:Int)<(↑(List.length x1):Int)) (.need ((c.vars.length:Int)=(c.vars.length:Int)∧c.vars.length≤maxLen) (.ite (bY (fun k=>fw (ETy.get .var c.vars k)) 0 c.vars.length != (0:Int)) (.ret (.i (bY (fun k=>fw (ETy.get .var c.vars k)) 0 c.vars.length)) []) (.stop zTq2 {n:=78,fr:=[(2,.i 0),(66,.p (PD.fns x1)),(67,.i (↑(List.length x1):Int)),(68,.i (IntKind.wrap .i64 ((5:Int)+1)))],ck:=[]})))) (.ret (.i 0) [])) ?_
 conv=>zeta
 refine⟨fun _=>⟨by show(0:Int)≤5∧(5:Int)<((8:Nat):Int);decide,⟨rfl,h.le h.va⟩,fun hb=>?_,fun hb=>?_⟩,fun hb=>Bool.noConfusion hb⟩
 ·unfold q5E;rw[iC hb];exact⟨rfl,rfl⟩
 · unfold q5E;rw[iY hb,nS (by omega)]
   exact SJ c vs ss real Γ h
theorem SH(h:Small c vs ss):zJ97Tq Γ (Eq2 (.x (.i (q4E c real))) []) zTq2 ({n:=78,fr:=[(2,.i 0),(66,.p (PD.fns (zTq1 c vs ss real))),(67,.i (↑(List.length (zTq1 c vs ss real)):Int)),(68,.i (4))],ck:=[]}):=by
 refine jg fR Tryz.func97 (let x2:=(c.states.length:Int);let x1:List (Nat×List PD):=[(145,[.ref .chart c 0]),(147,[PD.fnAt (zTq3 c vs ss) 0]),(150,[.ref .chart c 0,.ref .strs vs 0,.ref .strs ss 0]),(152,[.ref .chart c 0]),(141,[.ref .int x2 0,PD.fnAt [(153,[.ref .chart c 0])] 0]),(141,[.ref .int (c.vars.length:Int) 0,PD.fnAt [(155,[.ref .chart c 0])] 0]),(141,[.ref .int x2 0,PD.fnAt [(157,[.ref .chart c 0])] 0]),(141,[.ref .int (c.trans.length:Int) 0,PD.fnAt (zTq5 c real) 0])];.ite true (.need ((0:Int)≤4∧(4:Int)<(↑(List.length x1):Int)) (.need (x2=x2∧c.states.length≤maxLen) (.ite (bY (fun k=>eg c.states k) 0 c.states.length != (0:Int)) (.ret (.i (bY (fun k=>eg c.states k) 0 c.states.length)) []) (.stop zTq2 {n:=78,fr:=[(2,.i 0),(66,.p (PD.fns x1)),(67,.i (↑(List.length x1):Int)),(68,.i (IntKind.wrap .i64 ((4:Int)+1)))],ck:=[]})))) (.ret (.i 0) [])) ?_
 conv=>zeta
 refine⟨fun _=>⟨by show(0:Int)≤4∧(4:Int)<((8:Nat):Int);decide,⟨rfl,h.le h.st⟩,fun hb=>?_,fun hb=>?_⟩,fun hb=>Bool.noConfusion hb⟩
 ·unfold q4E;rw[iC hb];exact⟨rfl,rfl⟩
 · unfold q4E;rw[iY hb,nS (by omega)]
   exact SI c vs ss real Γ h
theorem SG(h:Small c vs ss):zJ97Tq Γ (Eq2 (.x (.i (q3E c real))) []) zTq2 ({n:=78,fr:=[(2,.i 0),(66,.p (PD.fns [(145,[.ref .chart c 0]),(147,[PD.fnAt (zTq3 c vs ss) 0]),(150,[.ref .chart c 0,.ref .strs vs 0,.ref .strs ss 0]),(152,[.ref .chart c 0]),(141,[.ref .int (c.states.length:Int) 0,PD.fnAt [(153,[.ref .chart c 0])] 0]),(141,[.ref .int (c.vars.length:Int) 0,PD.fnAt [(155,[.ref .chart c 0])] 0]),(141,[.ref .int (c.states.length:Int) 0,PD.fnAt [(157,[.ref .chart c 0])] 0]),(141,[.ref .int (c.trans.length:Int) 0,PD.fnAt (zTq5 c real) 0])])),(67,.i (↑(List.length [(145,[.ref .chart c 0]),(147,[PD.fnAt (zTq3 c vs ss) 0]),(150,[.ref .chart c 0,.ref .strs vs 0,.ref .strs ss 0]),(152,[.ref .chart c 0]),(141,[.ref .int (c.states.length:Int) 0,PD.fnAt [(153,[.ref .chart c 0])] 0]),(141,[.ref .int (c.vars.length:Int) 0,PD.fnAt [(155,[.ref .chart c 0])] 0]),(141,[.ref .int (c.states.length:Int) 0,PD.fnAt [(157,[.ref .chart c 0])] 0]),(141,[.ref .int (c.trans.length:Int) 0,PD.fnAt (zTq5 c real) 0])]):Int)),(68,.i (3))],ck:=[]}):=by
 refine jg fR Tryz.func97 (let x1:List (Nat×List PD):=[(145,[.ref .chart c 0]),(147,[PD.fnAt (zTq3 c vs ss) 0]),(150,[.ref .chart c 0,.ref .strs vs 0,.ref .strs ss 0]),(152,[.ref .chart c 0]),(141,[.ref .int (c.states.length:Int) 0,PD.fnAt [(153,[.ref .chart c 0])] 0]),(141,[.ref .int (c.vars.length:Int) 0,PD.fnAt [(155,[.ref .chart c 0])] 0]),(141,[.ref .int (c.states.length:Int) 0,PD.fnAt [(157,[.ref .chart c 0])] 0]),(141,[.ref .int (c.trans.length:Int) 0,PD.fnAt (zTq5 c real) 0])];.ite true (.need ((0:Int)≤3∧(3:Int)<(↑(List.length x1):Int)) (.need (c.states.length≤maxLen) (.ite (b7 (cn c.states) (9:Int) != 0) (.ret (.i (b7 (cn c.states) (9:Int))) []) (.stop zTq2 {n:=78,fr:=[(2,.i 0),(66,.p (PD.fns x1)),(67,.i (↑(List.length x1):Int)),(68,.i (IntKind.wrap .i64 ((3:Int)+1)))],ck:=[]})))) (.ret (.i 0) [])) ?_
 conv=>zeta
 refine⟨fun _=>⟨by show(0:Int)≤3∧(3:Int)<((8:Nat):Int);decide,h.le h.st,fun hb=>?_,fun hb=>?_⟩,fun hb=>Bool.noConfusion hb⟩
 ·unfold q3E;rw[iC hb];exact⟨rfl,rfl⟩
 · unfold q3E;rw[iY hb,nS (by omega)]
   exact SH c vs ss real Γ h
theorem SF(h:Small c vs ss):zJ97Tq Γ (Eq2 (.x (.i (q2E c vs ss real))) []) zTq2 ({n:=78,fr:=[(2,.i 0),(66,.p (PD.fns (zTq1 c vs ss real))),(67,.i (↑(List.length (zTq1 c vs ss real)):Int)),(68,.i (2))],ck:=[]}):=by
 refine jg fR Tryz.func97 (let x1:List (Nat×List PD):=(zTq1 c vs ss real);.ite true (.need ((0:Int)≤2∧(2:Int)<(↑(List.length x1):Int)) (.need (c.events.length≤1000000∧vs.length≤1000000∧ss.length≤1000000) (.ite (b7 (kS c vs ss) (3:Int) != 0) (.ret (.i (b7 (kS c vs ss) (3:Int))) []) (.stop zTq2 {n:=78,fr:=[(2,.i 0),(66,.p (PD.fns x1)),(67,.i (↑(List.length x1):Int)),(68,.i (IntKind.wrap .i64 ((2:Int)+1)))],ck:=[]})))) (.ret (.i 0) [])) ?_
 conv=>zeta
 refine⟨fun _=>⟨by show(0:Int)≤2∧(2:Int)<((8:Nat):Int);decide,⟨aC h.ev (by decide),aC h.vs (by decide),aC h.ss (by decide)⟩,fun hb=>?_,fun hb=>?_⟩,fun hb=>Bool.noConfusion hb⟩
 ·unfold q2E;rw[iC hb];exact⟨rfl,rfl⟩
 · unfold q2E;rw[iY hb,nS (by omega)]
   exact SG c vs ss real Γ h
theorem SE(h:Small c vs ss):zJ97Tq Γ (Eq2 (.x (.i (q1E c vs ss real))) []) zTq2 ({n:=78,fr:=[(2,.i 0),(66,.p (PD.fns [(145,[.ref .chart c 0]),(147,[PD.fnAt (zTq3 c vs ss) 0]),(150,[.ref .chart c 0,.ref .strs vs 0,.ref .strs ss 0]),(152,[.ref .chart c 0]),(141,[.ref .int (c.states.length:Int) 0,PD.fnAt [(153,[.ref .chart c 0])] 0]),(141,[.ref .int (c.vars.length:Int) 0,PD.fnAt [(155,[.ref .chart c 0])] 0]),(141,[.ref .int (c.states.length:Int) 0,PD.fnAt [(157,[.ref .chart c 0])] 0]),(141,[.ref .int (c.trans.length:Int) 0,PD.fnAt (zTq5 c real) 0])])),(67,.i (↑(List.length [(145,[.ref .chart c 0]),(147,[PD.fnAt (zTq3 c vs ss) 0]),(150,[.ref .chart c 0,.ref .strs vs 0,.ref .strs ss 0]),(152,[.ref .chart c 0]),(141,[.ref .int (c.states.length:Int) 0,PD.fnAt [(153,[.ref .chart c 0])] 0]),(141,[.ref .int (c.vars.length:Int) 0,PD.fnAt [(155,[.ref .chart c 0])] 0]),(141,[.ref .int (c.states.length:Int) 0,PD.fnAt [(157,[.ref .chart c 0])] 0]),(141,[.ref .int (c.trans.length:Int) 0,PD.fnAt (zTq5 c real) 0])]):Int)),(68,.i (1))],ck:=[]}):=by
 refine jg fR Tryz.func97 (let x1:List (Nat×List PD):=[(145,[.ref .chart c 0]),(147,[PD.fnAt (zTq3 c vs ss) 0]),(150,[.ref .chart c 0,.ref .strs vs 0,.ref .strs ss 0]),(152,[.ref .chart c 0]),(141,[.ref .int (c.states.length:Int) 0,PD.fnAt [(153,[.ref .chart c 0])] 0]),(141,[.ref .int (c.vars.length:Int) 0,PD.fnAt [(155,[.ref .chart c 0])] 0]),(141,[.ref .int (c.states.length:Int) 0,PD.fnAt [(157,[.ref .chart c 0])] 0]),(141,[.ref .int (c.trans.length:Int) 0,PD.fnAt (zTq5 c real) 0])];.ite true (.need ((0:Int)≤1∧(1:Int)<(↑(List.length x1):Int)) (.need ((ic c vs ss).length≤1000000) (.ite (b7 (!List.any (ic c vs ss) fun s=>!bk s) (2:Int) != 0) (.ret (.i (b7 (!List.any (ic c vs ss) fun s=>!bk s) (2:Int))) []) (.stop zTq2 {n:=78,fr:=[(2,.i 0),(66,.p (PD.fns x1)),(67,.i (↑(List.length x1):Int)),(68,.i (IntKind.wrap .i64 ((1:Int)+1)))],ck:=[]})))) (.ret (.i 0) [])) ?_
 conv=>zeta
 refine⟨fun _=>⟨by show(0:Int)≤1∧(1:Int)<((8:Nat):Int);decide,h.all,fun hb=>?_,fun hb=>?_⟩,fun hb=>Bool.noConfusion hb⟩
 ·unfold q1E;rw[iC hb];exact⟨rfl,rfl⟩
 · unfold q1E;rw[iY hb,nS (by omega)]
   exact SF c vs ss real Γ h
theorem NZ{c:Chart}{vs ss:List Str}(hb:(b7 (jx c) 4 != 0)=false)(hv:vs.length=c.vars.length)(hs:ss.length=c.states.length):Small c vs ss:=by
 have h:jx c=true:=by
  cases hl:jx c
  ·rw[hl]at hb;exact absurd hb (by decide)
  ·rfl
 unfold jx at h
 simp only[af,decide_eq_true_eq]at h
 exact⟨by omega,by omega,by omega,by omega,by omega,by omega⟩
theorem SD(hv:vs.length=c.vars.length)(hs:ss.length=c.states.length):zJ97Tq Γ (Eq2 (.x (.i (q0E c vs ss real))) []) zTq2 ({n:=78,fr:=[(2,.i 0),(66,.p (PD.fns [(145,[.ref .chart c 0]),(147,[PD.fnAt (zTq3 c vs ss) 0]),(150,[.ref .chart c 0,.ref .strs vs 0,.ref .strs ss 0]),(152,[.ref .chart c 0]),(141,[.ref .int (c.states.length:Int) 0,PD.fnAt [(153,[.ref .chart c 0])] 0]),(141,[.ref .int (c.vars.length:Int) 0,PD.fnAt [(155,[.ref .chart c 0])] 0]),(141,[.ref .int (c.states.length:Int) 0,PD.fnAt [(157,[.ref .chart c 0])] 0]),(141,[.ref .int (c.trans.length:Int) 0,PD.fnAt (zTq5 c real) 0])])),(67,.i (↑(List.length [(145,[.ref .chart c 0]),(147,[PD.fnAt (zTq3 c vs ss) 0]),(150,[.ref .chart c 0,.ref .strs vs 0,.ref .strs ss 0]),(152,[.ref .chart c 0]),(141,[.ref .int (c.states.length:Int) 0,PD.fnAt [(153,[.ref .chart c 0])] 0]),(141,[.ref .int (c.vars.length:Int) 0,PD.fnAt [(155,[.ref .chart c 0])] 0]),(141,[.ref .int (c.states.length:Int) 0,PD.fnAt [(157,[.ref .chart c 0])] 0]),(141,[.ref .int (c.trans.length:Int) 0,PD.fnAt (zTq5 c real) 0])]):Int)),(68,.i (0))],ck:=[]}):=by
 refine jg fR Tryz.func97 (let x1:List (Nat×List PD):=[(145,[.ref .chart c 0]),(147,[PD.fnAt (zTq3 c vs ss) 0]),(150,[.ref .chart c 0,.ref .strs vs 0,.ref .strs ss 0]),(152,[.ref .chart c 0]),(141,[.ref .int (c.states.length:Int) 0,PD.fnAt [(153,[.ref .chart c 0])] 0]),(141,[.ref .int (c.vars.length:Int) 0,PD.fnAt [(155,[.ref .chart c 0])] 0]),(141,[.ref .int (c.states.length:Int) 0,PD.fnAt [(157,[.ref .chart c 0])] 0]),(141,[.ref .int (c.trans.length:Int) 0,PD.fnAt (zTq5 c real) 0])];.ite true (.need ((0:Int)≤0∧(0:Int)<(↑(List.length x1):Int)) (.ite (b7 (jx c) (4:Int) != 0) (.ret (.i (b7 (jx c) (4:Int))) []) (.stop zTq2 {n:=78,fr:=[(2,.i 0),(66,.p (PD.fns x1)),(67,.i (↑(List.length x1):Int)),(68,.i (IntKind.wrap .i64 ((0:Int)+1)))],ck:=[]}))) (.ret (.i 0) [])) ?_
 conv=>zeta
 refine⟨fun _=>⟨by show(0:Int)≤0∧(0:Int)<((8:Nat):Int);decide,fun hb=>?_,fun hb=>?_⟩,fun hb=>Bool.noConfusion hb⟩
 ·unfold q0E;rw[iC hb];exact⟨rfl,rfl⟩
 · unfold q0E;rw[iY hb,nS (by omega)]
   exact SE c vs ss real Γ (NZ hb hv hs)
theorem Nb(hv:vs.length=c.vars.length)(hs:ss.length=c.states.length):zJ97Tq Γ (Eq2 (.x (.i (q0E c vs ss real))) []) [.code [1,1,1,1,1,1,0],.code [1,1,1,1,1,1,1]] ({n:=78,fr:=[(1,.p ((.ref .chart c 0))),(2,.i 0),(3,.p ((.ref .strs vs 0))),(4,.p ((.ref .strs ss 0))),(5,.x (.c (.fn (.func 140) [] []))),(6,.p ((.ref .strs real 0))),(9,.p ((.fnAt (zTq3 c vs ss) 0)))],ck:=[.dead,.dead,.dead,.dead,.dead,.dead,.dead,.dead]}):=by
 refine jg fR Tryz.func97 (let x1:List (Nat×List PD):=(zTq1 c vs ss real);.stop zTq2 {n:=78,fr:=[(2,.i 0),(66,.p (PD.fns x1)),(67,.i (↑(List.length x1):Int)),(68,.i 0)],ck:=[]}) ?_
 conv=>zeta
 exact SD c vs ss real Γ hv hs
theorem Kg{l:List Ev.Stat}{k:Nat}(hk:k<l.length):dS (l.take (k+1))=if(!bg (ETy.get .stat l k).kind)=true then dS (l.take k)++[(ETy.get .stat l k).name]else dS (l.take k):=by
 rw[show ETy.get .stat l k=l[k]from ETy.get_eq (t:=.stat) (List.getElem?_eq_getElem hk)]
 unfold dS
 rw[aL hk,cc,bC]
 cases hp:bg l[k].kind <;> simp[hp]
theorem QL(k:Nat):(dS (l.take k)).length≤l.length:=by
 unfold dS
 rw[aP]
 exact aC (aY _ _) (by rw[a6];omega)
abbrev zTq4:Chunk:=.cells [.pd (.str a.name),.pd (.lst .str a.events),.pd (.lst .var a.vars),.pd (.lst .stat a.states),.pd (.lst .tran a.trans)] 27
abbrev zTq6:List PI:=[.code [1,1,1,1,0,1,0,0],.inLoop [1,1,1,1,0,1,0,0],.inBlock 0,.code [1,1,1,1,1]]
theorem Kf(hst:c.states.length≤2199023255552):∀(n k:Nat),c.states.length - k≤n→k≤c.states.length →
 zJ97Tq Γ (Eq2 (.x (.i (bp c))) []) zTq6 ({n:=78,fr:=[(1,.x (.c (.loc 0 0))),(2,.i 0),(3,.x (.c (.loc 3 0))),(4,.x (.c (.loc 4 0))),(5,.x (.c (.fn (.func 140) [] []))),(6,.x (.c (.loc 5 0))),(20,.p (.lst .stat c.states)),(21,.i c.states.length),(22,.i ((k:Int)))],ck:=[zTq4 c,.own 9 .str (List.map (fun v:Var=>v.name) c.vars),.own 9 .str (List.map (fun s:Ev.Stat=>s.name) c.states),.cells [.own 1] 22,.cells [.own 2] 22,.cells [.own 6] 22,.own 9 .str (dS (c.states.take k))]}):=by
 intro n
 induction n with
 |zero=>?_
 |succ n ih=>?_
 all_goals
  intro k hn hk
  refine jg fR Tryz.func97 (let x1:List (Nat×SV):=[(1,.x (.c (.loc 0 0))),(2,.i 0),(3,.x (.c (.loc 3 0))),(4,.x (.c (.loc 4 0))),(5,.x (.c (.fn (.func 140) [] []))),(6,.x (.c (.loc 5 0))),(20,.p (.lst .stat c.states)),(21,.i c.states.length),(22,.i (IntKind.wrap .i64 ((k:Int)+1)))];let x2:List PI:=zTq6;let x4:=(List.take k c.states);let x3:=(dS x4++[Stat.name (ETy.get .stat c.states k)]);.ite (decide ((k:Int)<(c.states.length:Int))) (.need (inRg k c.states.length) (.ite (!bg (Stat.kind (ETy.get .stat c.states k))) (.need (room (x3.length) 16) (.stop x2 {n:=78,fr:=x1,ck:=[zTq4 c,.own 9 .str (List.map (fun v=>v.name) c.vars),.own 9 .str (List.map (fun s=>s.name) c.states),.cells [.own 1] 22,.cells [.own 2] 22,.cells [.own 6] 22,.own 9 .str x3]})) (.stop x2 {n:=78,fr:=x1,ck:=[zTq4 c,.own 9 .str (List.map (fun v=>v.name) c.vars),.own 9 .str (List.map (fun s=>s.name) c.states),.cells [.own 1] 22,.cells [.own 2] 22,.cells [.own 6] 22,.own 9 .str (dS x4)]}))) (.stop [.code [1,1,1,1,1,1,0],.code [1,1,1,1,1,1,1]] {n:=78,fr:=[(1,.x (.c (.loc 0 0))),(2,.i 0),(3,.x (.c (.loc 3 0))),(4,.x (.c (.loc 4 0))),(5,.x (.c (.fn (.func 140) [] []))),(6,.x (.c (.loc 5 0))),(9,.x (.c (.loc 7 0)))],ck:=[zTq4 c,.own 9 .str (List.map (fun v=>v.name) c.vars),.own 9 .str (List.map (fun s=>s.name) c.states),.cells [.own 1] 22,.cells [.own 2] 22,.cells [.own 6] 22,.own 9 .str (dS x4),.cells [.fn (.func 143) [] [.loc 0 0,.loc 3 0,.loc 4 0]] 163]})) ?_
  conv=>zeta
  refine⟨fun hlt=>?_,fun hge=>?_⟩
  · have hk':k<c.states.length:=by have:=of_decide_eq_true hlt;omega
    have hr:=Kg hk'
    have hle:=QL c.states (k+1)
    refine⟨by omega,fun hb=>?_,fun hb=>?_⟩
    · rw[if_pos (by exact hb)]at hr
      rw[←hr]
      refine⟨rA _ (by omega),?_⟩
      rw[aZ (aG hk' (aC hst (by decide)))]
      first |(exfalso;omega) |exact ih (k+1) (by omega) (by omega)
    · rw[if_neg (by rw[show _=false from hb];decide)]at hr
      rw[←hr]
      rw[aZ (aG hk' (aC hst (by decide)))]
      first |(exfalso;omega) |exact ih (k+1) (by omega) (by omega)
  · have hke:k=c.states.length:=by have:=of_decide_eq_false hge;omega
    subst hke
    rw[a8 (av _)]
    exact J.freeze aU [1,2,6,0,3,4,5,7] (by kernel_rfl) (Nb c _ _ _ Γ (aP _) (aP _))
theorem Ft(h:c.vars.length≤2199023255552∧c.states.length≤2199023255552):ah Tryz.prog 97 [.e .chart c] [] (.x (.i (bp c))) []:=by
 refine dg fR Tryz.func97 (.need (c.vars.length≤2199023255552∧c.states.length≤2199023255552) (.stop zTq6 {n:=78,fr:=[(1,.x (.c (.loc 0 0))),(2,.i 0),(3,.x (.c (.loc 3 0))),(4,.x (.c (.loc 4 0))),(5,.x (.c (.fn (.func 140) [] []))),(6,.x (.c (.loc 5 0))),(20,.p (.lst .stat c.states)),(21,.i c.states.length),(22,.i 0)],ck:=[zTq4 c,.own 9 .str (List.map (fun v=>v.name) c.vars),.own 9 .str (List.map (fun s=>s.name) c.states),.cells [.own 1] 22,.cells [.own 2] 22,.cells [.pd (.v (Value.slice none 0 0))] 22]})) fun Γ=>?_
 refine⟨h,?_⟩
 refine J.nilCk 5 0 9 .str rfl rfl (by kernel_rfl) ?_
 exact Kf c Γ h.2 c.states.length 0 (by omega) (by omega)
def uw:Ent:=(97,fun
 |[.agg [.pd (.str a),.pd (.lst .str b),.pd (.lst .var c),.pd (.lst .stat d),.pd (.lst .tran e)]],[]=>some (some (c.length≤2199023255552∧d.length≤2199023255552),.x (.c (.pd (.int .i64 (bp ⟨a,b,c,d,e⟩)))),[])
 |_,_=>none)
theorem IZ:EntOk Tryz.prog uw:=entOk fun vs ck=>by
 unfold uw;dsimp only;split
 ·rename_i a b c d e;exact entS fun hp=>Ft ⟨a,b,c,d,e⟩ hp
 ·exact entN
end Go.Proofs.YtlhgnjmdopjpeaaGreatDoor

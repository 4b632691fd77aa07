/- Contracts: valid.Check. Conditions: sizes. -/
import Derived.Test.YtgfifkhbfdacjaaGreatDoorTp
namespace Go.Proofs.YtgfifkhbfdacjaaGreatDoor
open Go Go.Ev
set_option maxRecDepth 100000
abbrev zJ33Tq:=J Tryz.prog 33 (au Tryz.f33)
def hX:Cfg:=⟨aZ,[qY,mD,eEa,eEb,eQ3,eQ4,eQ5,eQ6,eE7,eE8,eE9,CJ]⟩
theorem e9:ag Tryz.prog hX.tab:=(ag.cons E6 (ag.cons oD (ag.cons N6 (ag.cons Nw (ag.cons N3 (ag.cons N2 (ag.cons NS (ag.cons NO (ag.cons Oi (ag.cons NX (ag.cons NU (ag.cons M7 ag.nil))))))))))))
def gh (e r:Int):Int:=if (e != 0)=true then e else r
variable (c:Chart) (vs ss real:List Str) {e:Int} (l:List Ev.Stat) {r:Int} (Γ:Ctx)
def df:List Str:=(l.filter fun s:Ev.Stat=>!aM s.kind).map fun s:Ev.Stat=>s.name
def q7E:Int:=gh (bS (fun k:Nat=>cT c k real (ETy.get .tran c.trans k)) 0 c.trans.length) 0
def q6E:Int:=gh (bS (fun k:Nat=>cW c (ETy.get .stat c.states k)) 0 c.states.length) (q7E c real)
def q5E:Int:=gh (bS (fun k:Nat=>eA (ETy.get .var c.vars k)) 0 c.vars.length) (q6E c real)
def q4E:Int:=gh (bS (fun k:Nat=>dk c.states k) 0 c.states.length) (q5E c real)
def q3E:Int:=gh (bU (b8 c.states) 9) (q4E c real)
def q2E:Int:=gh (bU (jx c vs ss) 3) (q3E c real)
def q1E:Int:=gh (bU (!(fX c vs ss).any fun s:Str=>!bf s) 2) (q2E c vs ss real)
def q0E:Int:=gh (bU (hU c) 4) (q1E c vs ss real)
def bH:Int:=q0E c (c.vars.map fun v:Var=>v.name) (c.states.map fun s:Ev.Stat=>s.name) (df c.states)
theorem gn (h:(e != 0)=true):gh e r=e:=if_pos h
theorem gU (h:(e != 0)=false):gh e r=r:=if_neg (by rw [h]; decide)
theorem lL {k:Int} (h:k=0∨k=1∨k=2∨k=3∨k=4∨k=5∨k=6∨k=7):IntKind.wrap .i64 (k+1)=k+1:=cg (by omega) (by omega)
structure Small (c:Chart) (vs ss:List Str):Prop where
 ev:c.events.length≤200000
 va:c.vars.length≤200000
 st:c.states.length≤200000
 tr:c.trans.length≤200000
 vs:vs.length≤200000
 ss:ss.length≤200000
theorem Small.le {c:Chart} {vs ss:List Str} (_h:Small c vs ss) {n:Nat} (hn:n≤200000):n≤maxLen:=ax hn (by decide)
theorem Small.all {c:Chart} {vs ss:List Str} (h:Small c vs ss):(fX c vs ss).length≤1000000:=by
 have:=h.ev; have:=h.vs; have:=h.ss
 unfold fX
 rw [nI]
 simp only [List.flatten_cons,List.flatten_nil,an,aH,bF]
 omega
abbrev zTq1:List PI:=[.code [1,1,1,1,1,1,1,0,1,0,0],.inLoop [1,1,1,1,1,1,1,0,1,0,0],.inBlock 2,.code [1,1,1,1,1,1,1,1]]
theorem OH:zJ33Tq Γ (Eq2 (.x (.i (0))) []) zTq1 ({ n:=78,fr:=[(2,.i 0),(66,.p (PD.fns [(79,[.ref .chart c 0]),(81,[PD.fnAt [(77,[.ref .chart c 0,.ref .strs vs 0,.ref .strs ss 0])] 0]),(84,[.ref .chart c 0,.ref .strs vs 0,.ref .strs ss 0]),(86,[.ref .chart c 0]),(75,[.ref .int (c.states.length:Int) 0,PD.fnAt [(88,[.ref .chart c 0])] 0]),(75,[.ref .int (c.vars.length:Int) 0,PD.fnAt [(90,[.ref .chart c 0])] 0]),(75,[.ref .int (c.states.length:Int) 0,PD.fnAt [(92,[.ref .chart c 0])] 0]),(75,[.ref .int (c.trans.length:Int) 0,PD.fnAt [(94,[.ref .chart c 0,.ref .strs real 0])] 0])])),(67,.i (↑(List.length [(79,[.ref .chart c 0]),(81,[PD.fnAt [(77,[.ref .chart c 0,.ref .strs vs 0,.ref .strs ss 0])] 0]),(84,[.ref .chart c 0,.ref .strs vs 0,.ref .strs ss 0]),(86,[.ref .chart c 0]),(75,[.ref .int (c.states.length:Int) 0,PD.fnAt [(88,[.ref .chart c 0])] 0]),(75,[.ref .int (c.vars.length:Int) 0,PD.fnAt [(90,[.ref .chart c 0])] 0]),(75,[.ref .int (c.states.length:Int) 0,PD.fnAt [(92,[.ref .chart c 0])] 0]),(75,[.ref .int (c.trans.length:Int) 0,PD.fnAt [(94,[.ref .chart c 0,.ref .strs real 0])] 0])]):Int)),(68,.i (8))],ck:=[] }):=by
 refine jg e9 Tryz.func33 (let x1:List (Nat×List PD):=[(79,[.ref .chart c 0]),(81,[PD.fnAt [(77,[.ref .chart c 0,.ref .strs vs 0,.ref .strs ss 0])] 0]),(84,[.ref .chart c 0,.ref .strs vs 0,.ref .strs ss 0]),(86,[.ref .chart c 0]),(75,[.ref .int (c.states.length:Int) 0,PD.fnAt [(88,[.ref .chart c 0])] 0]),(75,[.ref .int (c.vars.length:Int) 0,PD.fnAt [(90,[.ref .chart c 0])] 0]),(75,[.ref .int (c.states.length:Int) 0,PD.fnAt [(92,[.ref .chart c 0])] 0]),(75,[.ref .int (c.trans.length:Int) 0,PD.fnAt [(94,[.ref .chart c 0,.ref .strs real 0])] 0])]; .ite false (.need ((0:Int)≤8∧(8:Int)<(↑(List.length x1):Int)) (.stop [.ops [1,1,1,1,1,1,1,0,1,0,0,1,1,0,0,0] 1,.code [1,1,1,1,1,1,1,0,1,0,0,1,1,0,0,1],.inBlock 3,.code [1,1,1,1,1,1,1,0,1,0,0,1,1,1],.inLoop [1,1,1,1,1,1,1,0,1,0,0],.inBlock 2,.code [1,1,1,1,1,1,1,1]] { n:=78,fr:=[(2,.i 0),(66,.p (PD.fns x1)),(67,.i (↑(List.length x1):Int)),(68,.i 8),(70,.p (PD.fnAt x1 8))],ck:=[] })) (.ret (.i 0) [])) ?_
 conv=>zeta
 refine ⟨fun h=>Bool.noConfusion h,fun _=>⟨rfl,rfl⟩⟩
theorem OM (h:Small c vs ss):zJ33Tq Γ (Eq2 (.x (.i (q7E c real))) []) zTq1 ({ n:=78,fr:=[(2,.i 0),(66,.p (PD.fns [(79,[.ref .chart c 0]),(81,[PD.fnAt [(77,[.ref .chart c 0,.ref .strs vs 0,.ref .strs ss 0])] 0]),(84,[.ref .chart c 0,.ref .strs vs 0,.ref .strs ss 0]),(86,[.ref .chart c 0]),(75,[.ref .int (c.states.length:Int) 0,PD.fnAt [(88,[.ref .chart c 0])] 0]),(75,[.ref .int (c.vars.length:Int) 0,PD.fnAt [(90,[.ref .chart c 0])] 0]),(75,[.ref .int (c.states.length:Int) 0,PD.fnAt [(92,[.ref .chart c 0])] 0]),(75,[.ref .int (c.trans.length:Int) 0,PD.fnAt [(94,[.ref .chart c 0,.ref .strs real 0])] 0])])),(67,.i (↑(List.length [(79,[.ref .chart c 0]),(81,[PD.fnAt [(77,[.ref .chart c 0,.ref .strs vs 0,.ref .strs ss 0])] 0]),(84,[.ref .chart c 0,.ref .strs vs 0,.ref .strs ss 0]),(86,[.ref .chart c 0]),(75,[.ref .int (c.states.length:Int) 0,PD.fnAt [(88,[.ref .chart c 0])] 0]),(75,[.ref .int (c.vars.length:Int) 0,PD.fnAt [(90,[.ref .chart c 0])] 0]),(75,[.ref .int (c.states.length:Int) 0,PD.fnAt [(92,[.ref .chart c 0])] 0]),(75,[.ref .int (c.trans.length:Int) 0,PD.fnAt [(94,[.ref .chart c 0,.ref .strs real 0])] 0])]):Int)),(68,.i (7))],ck:=[] }):=by
 refine jg e9 Tryz.func33 (let x2:=(c.trans.length:Int); let x1:List (Nat×List PD):=[(79,[.ref .chart c 0]),(81,[PD.fnAt [(77,[.ref .chart c 0,.ref .strs vs 0,.ref .strs ss 0])] 0]),(84,[.ref .chart c 0,.ref .strs vs 0,.ref .strs ss 0]),(86,[.ref .chart c 0]),(75,[.ref .int (c.states.length:Int) 0,PD.fnAt [(88,[.ref .chart c 0])] 0]),(75,[.ref .int (c.vars.length:Int) 0,PD.fnAt [(90,[.ref .chart c 0])] 0]),(75,[.ref .int (c.states.length:Int) 0,PD.fnAt [(92,[.ref .chart c 0])] 0]),(75,[.ref .int x2 0,PD.fnAt [(94,[.ref .chart c 0,.ref .strs real 0])] 0])]; .ite true (.need ((0:Int)≤7∧(7:Int)<(↑(List.length x1):Int)) (.need (x2=x2∧c.states.length≤maxLen∧c.trans.length≤maxLen) (.ite (bS (fun k=>cT c k real (ETy.get .tran c.trans k)) 0 c.trans.length != (0:Int)) (.ret (.i (bS (fun k=>cT c k real (ETy.get .tran c.trans k)) 0 c.trans.length)) []) (.stop zTq1 { n:=78,fr:=[(2,.i 0),(66,.p (PD.fns x1)),(67,.i (↑(List.length x1):Int)),(68,.i (IntKind.wrap .i64 ((7:Int)+1)))],ck:=[] })))) (.ret (.i 0) [])) ?_
 conv=>zeta
 refine ⟨fun _=>⟨by show (0:Int)≤7∧(7:Int)<((8:Nat):Int); decide,⟨rfl,h.le h.st,h.le h.tr⟩,fun hb=>?_,fun hb=>?_⟩,fun hb=>Bool.noConfusion hb⟩
 · unfold q7E; rw [gn hb]; exact ⟨rfl,rfl⟩
 · unfold q7E; rw [gU hb,lL (by omega)]
   exact OH c vs ss real Γ
theorem OD (h:Small c vs ss):zJ33Tq Γ (Eq2 (.x (.i (q6E c real))) []) zTq1 ({ n:=78,fr:=[(2,.i 0),(66,.p (PD.fns [(79,[.ref .chart c 0]),(81,[PD.fnAt [(77,[.ref .chart c 0,.ref .strs vs 0,.ref .strs ss 0])] 0]),(84,[.ref .chart c 0,.ref .strs vs 0,.ref .strs ss 0]),(86,[.ref .chart c 0]),(75,[.ref .int (c.states.length:Int) 0,PD.fnAt [(88,[.ref .chart c 0])] 0]),(75,[.ref .int (c.vars.length:Int) 0,PD.fnAt [(90,[.ref .chart c 0])] 0]),(75,[.ref .int (c.states.length:Int) 0,PD.fnAt [(92,[.ref .chart c 0])] 0]),(75,[.ref .int (c.trans.length:Int) 0,PD.fnAt [(94,[.ref .chart c 0,.ref .strs real 0])] 0])])),(67,.i (↑(List.length [(79,[.ref .chart c 0]),(81,[PD.fnAt [(77,[.ref .chart c 0,.ref .strs vs 0,.ref .strs ss 0])] 0]),(84,[.ref .chart c 0,.ref .strs vs 0,.ref .strs ss 0]),(86,[.ref .chart c 0]),(75,[.ref .int (c.states.length:Int) 0,PD.fnAt [(88,[.ref .chart c 0])] 0]),(75,[.ref .int (c.vars.length:Int) 0,PD.fnAt [(90,[.ref .chart c 0])] 0]),(75,[.ref .int (c.states.length:Int) 0,PD.fnAt [(92,[.ref .chart c 0])] 0]),(75,[.ref .int (c.trans.length:Int) 0,PD.fnAt [(94,[.ref .chart c 0,.ref .strs real 0])] 0])]):Int)),(68,.i (6))],ck:=[] }):=by
 refine jg e9 Tryz.func33 (let x2:=(c.states.length:Int); let x1:List (Nat×List PD):=[(79,[.ref .chart c 0]),(81,[PD.fnAt [(77,[.ref .chart c 0,.ref .strs vs 0,.ref .strs ss 0])] 0]),(84,[.ref .chart c 0,.ref .strs vs 0,.ref .strs ss 0]),(86,[.ref .chart c 0]),(75,[.ref .int x2 0,PD.fnAt [(88,[.ref .chart c 0])] 0]),(75,[.ref .int (c.vars.length:Int) 0,PD.fnAt [(90,[.ref .chart c 0])] 0]),(75,[.ref .int x2 0,PD.fnAt [(92,[.ref .chart c 0])] 0]),(75,[.ref .int (c.trans.length:Int) 0,PD.fnAt [(94,[.ref .chart c 0,.ref .strs real 0])] 0])]; .ite true (.need ((0:Int)≤6∧(6:Int)<(↑(List.length x1):Int)) (.need (x2=x2∧c.states.length≤maxLen) (.ite (bS (fun k=>cW c (ETy.get .stat c.states k)) 0 c.states.length != (0:Int)) (.ret (.i (bS (fun k=>cW c (ETy.get .stat c.states k)) 0 c.states.length)) []) (.stop zTq1 { n:=78,fr:=[(2,.i 0),(66,.p (PD.fns x1)),(67,.i (↑(List.length x1):Int)),(68,.i (IntKind.wrap .i64 ((6:Int)+1)))],ck:=[] })))) (.ret (.i 0) [])) ?_
 conv=>zeta
 refine ⟨fun _=>⟨by show (0:Int)≤6∧(6:Int)<((8:Nat):Int); decide,⟨rfl,h.le h.st⟩,fun hb=>?_,fun hb=>?_⟩,fun hb=>Bool.noConfusion hb⟩
 · unfold q6E; rw [gn hb]; exact ⟨rfl,rfl⟩
 · unfold q6E; rw [gU hb,lL (by omega)]
   exact OM c vs ss real Γ h
theorem Oy (h:Small c vs ss):zJ33Tq Γ (Eq2 (.x (.i (q5E c real))) []) zTq1 ({ n:=78,fr:=[(2,.i 0),(66,.p (PD.fns [(79,[.ref .chart c 0]),(81,[PD.fnAt [(77,[.ref .chart c 0,.ref .strs vs 0,.ref .strs ss 0])] 0]),(84,[.ref .chart c 0,.ref .strs vs 0,.ref .strs ss 0]),(86,[.ref .chart c 0]),(75,[.ref .int (c.states.length:Int) 0,PD.fnAt [(88,[.ref .chart c 0])] 0]),(75,[.ref .int (c.vars.length:Int) 0,PD.fnAt [(90,[.ref .chart c 0])] 0]),(75,[.ref .int (c.states.length:Int) 0,PD.fnAt [(92,[.ref .chart c 0])] 0]),(75,[.ref .int (c.trans.length:Int) 0,PD.fnAt [(94,[.ref .chart c 0,.ref .strs real 0])] 0])])),(67,.i (↑(List.length [(79,[.ref .chart c 0]),(81,[PD.fnAt [(77,[.ref .chart c 0,.ref .strs vs 0,.ref .strs ss 0])] 0]),(84,[.ref .chart c 0,.ref .strs vs 0,.ref .strs ss 0]),(86,[.ref .chart c 0]),(75,[.ref .int (c.states.length:Int) 0,PD.fnAt [(88,[.ref .chart c 0])] 0]),(75,[.ref .int (c.vars.length:Int) 0,PD.fnAt [(90,[.ref .chart c 0])] 0]),(75,[.ref .int (c.states.length:Int) 0,PD.fnAt [(92,[.ref .chart c 0])] 0]),(75,[.ref .int (c.trans.length:Int) 0,PD.fnAt [(94,[.ref .chart c 0,.ref .strs real 0])] 0])]):Int)),(68,.i (5))],ck:=[] }):=by
 refine jg e9 Tryz.func33 (let x1:List (Nat×List PD):=[(79,[.ref .chart c 0]),(81,[PD.fnAt [(77,[.ref .chart c 0,.ref .strs vs 0,.ref .strs ss 0])] 0]),(84,[.ref .chart c 0,.ref .strs vs 0,.ref .strs ss 0]),(86,[.ref .chart c 0]),(75,[.ref .int (c.states.length:Int) 0,PD.fnAt [(88,[.ref .chart c 0])] 0]),(75,[.ref .int (c.vars.length:Int) 0,PD.fnAt [(90,[.ref .chart c 0])] 0]),(75,[.ref .int (c.states.length:Int) 0,PD.fnAt [(92,[.ref .chart c 0])] 0]),(75,[.ref .int (c.trans.length:Int) 0,PD.fnAt [(94,[.ref .chart c 0,.ref .strs real 0])] 0])]; .ite true (.need ((0:Int)≤5∧(5:Int)<(↑(List.length x1):Int)) (.need ((c.vars.length:Int)=(c.vars.length:Int)∧c.vars.length≤maxLen) (.ite (bS (fun k=>eA (ETy.get .var c.vars k)) 0 c.vars.length != (0:Int)) (.ret (.i (bS (fun k=>eA (ETy.get .var c.vars k)) 0 c.vars.length)) []) (.stop zTq1 { n:=78,fr:=[(2,.i 0),(66,.p (PD.fns x1)),(67,.i (↑(List.length x1):Int)),(68,.i (IntKind.wrap .i64 ((5:Int)+1)))],ck:=[] })))) (.ret (.i 0) [])) ?_
 conv=>zeta
 refine ⟨fun _=>⟨by show (0:Int)≤5∧(5:Int)<((8:Nat):Int); decide,⟨rfl,h.le h.va⟩,fun hb=>?_,fun hb=>?_⟩,fun hb=>Bool.noConfusion hb⟩
 · unfold q5E; rw [gn hb]; exact ⟨rfl,rfl⟩
 · unfold q5E; rw [gU hb,lL (by omega)]
   exact OD c vs ss real Γ h
theorem OI (h:Small c vs ss):zJ33Tq Γ (Eq2 (.x (.i (q4E c real))) []) zTq1 ({ n:=78,fr:=[(2,.i 0),(66,.p (PD.fns [(79,[.ref .chart c 0]),(81,[PD.fnAt [(77,[.ref .chart c 0,.ref .strs vs 0,.ref .strs ss 0])] 0]),(84,[.ref .chart c 0,.ref .strs vs 0,.ref .strs ss 0]),(86,[.ref .chart c 0]),(75,[.ref .int (c.states.length:Int) 0,PD.fnAt [(88,[.ref .chart c 0])] 0]),(75,[.ref .int (c.vars.length:Int) 0,PD.fnAt [(90,[.ref .chart c 0])] 0]),(75,[.ref .int (c.states.length:Int) 0,PD.fnAt [(92,[.ref .chart c 0])] 0]),(75,[.ref .int (c.trans.length:Int) 0,PD.fnAt [(94,[.ref .chart c 0,.ref .strs real 0])] 0])])),(67,.i (↑(List.length [(79,[.ref .chart c 0]),(81,[PD.fnAt [(77,[.ref .chart c 0,.ref .strs vs 0,.ref .strs ss 0])] 0]),(84,[.ref .chart c 0,.ref .strs vs 0,.ref .strs ss 0]),(86,[.ref .chart c 0]),(75,[.ref .int (c.states.length:Int) 0,PD.fnAt [(88,[.ref .chart c 0])] 0]),(75,[.ref .int (c.vars.length:Int) 0,PD.fnAt [(90,[.ref .chart c 0])] 0]),(75,[.ref .int (c.states.length:Int) 0,PD.fnAt [(92,[.ref .chart c 0])] 0]),(75,[.ref .int (c.trans.length:Int) 0,PD.fnAt [(94,[.ref .chart c 0,.ref .strs real 0])] 0])]):Int)),(68,.i (4))],ck:=[] }):=by
 refine jg e9 Tryz.func33 (let x2:=(c.states.length:Int); let x1:List (Nat×List PD):=[(79,[.ref .chart c 0]),(81,[PD.fnAt [(77,[.ref .chart c 0,.ref .strs vs 0,.ref .strs ss 0])] 0]),(84,[.ref .chart c 0,.ref .strs vs 0,.ref .strs ss 0]),(86,[.ref .chart c 0]),(75,[.ref .int x2 0,PD.fnAt [(88,[.ref .chart c 0])] 0]),(75,[.ref .int (c.vars.length:Int) 0,PD.fnAt [(90,[.ref .chart c 0])] 0]),(75,[.ref .int x2 0,PD.fnAt [(92,[.ref .chart c 0])] 0]),(75,[.ref .int (c.trans.length:Int) 0,PD.fnAt [(94,[.ref .chart c 0,.ref .strs real 0])] 0])]; .ite true (.need ((0:Int)≤4∧(4:Int)<(↑(List.length x1):Int)) (.need (x2=x2∧c.states.length≤maxLen) (.ite (bS (fun k=>dk c.states k) 0 c.states.length != (0:Int)) (.ret (.i (bS (fun k=>dk c.states k) 0 c.states.length)) []) (.stop zTq1 { n:=78,fr:=[(2,.i 0),(66,.p (PD.fns x1)),(67,.i (↑(List.length x1):Int)),(68,.i (IntKind.wrap .i64 ((4:Int)+1)))],ck:=[] })))) (.ret (.i 0) [])) ?_
 conv=>zeta
 refine ⟨fun _=>⟨by show (0:Int)≤4∧(4:Int)<((8:Nat):Int); decide,⟨rfl,h.le h.st⟩,fun hb=>?_,fun hb=>?_⟩,fun hb=>Bool.noConfusion hb⟩
 · unfold q4E; rw [gn hb]; exact ⟨rfl,rfl⟩
 · unfold q4E; rw [gU hb,lL (by omega)]
   exact Oy c vs ss real Γ h
theorem OQ (h:Small c vs ss):zJ33Tq Γ (Eq2 (.x (.i (q3E c real))) []) zTq1 ({ n:=78,fr:=[(2,.i 0),(66,.p (PD.fns [(79,[.ref .chart c 0]),(81,[PD.fnAt [(77,[.ref .chart c 0,.ref .strs vs 0,.ref .strs ss 0])] 0]),(84,[.ref .chart c 0,.ref .strs vs 0,.ref .strs ss 0]),(86,[.ref .chart c 0]),(75,[.ref .int (c.states.length:Int) 0,PD.fnAt [(88,[.ref .chart c 0])] 0]),(75,[.ref .int (c.vars.length:Int) 0,PD.fnAt [(90,[.ref .chart c 0])] 0]),(75,[.ref .int (c.states.length:Int) 0,PD.fnAt [(92,[.ref .chart c 0])] 0]),(75,[.ref .int (c.trans.length:Int) 0,PD.fnAt [(94,[.ref .chart c 0,.ref .strs real 0])] 0])])),(67,.i (↑(List.length [(79,[.ref .chart c 0]),(81,[PD.fnAt [(77,[.ref .chart c 0,.ref .strs vs 0,.ref .strs ss 0])] 0]),(84,[.ref .chart c 0,.ref .strs vs 0,.ref .strs ss 0]),(86,[.ref .chart c 0]),(75,[.ref .int (c.states.length:Int) 0,PD.fnAt [(88,[.ref .chart c 0])] 0]),(75,[.ref .int (c.vars.length:Int) 0,PD.fnAt [(90,[.ref .chart c 0])] 0]),(75,[.ref .int (c.states.length:Int) 0,PD.fnAt [(92,[.ref .chart c 0])] 0]),(75,[.ref .int (c.trans.length:Int) 0,PD.fnAt [(94,[.ref .chart c 0,.ref .strs real 0])] 0])]):Int)),(68,.i (3))],ck:=[] }):=by
 refine jg e9 Tryz.func33 (let x1:List (Nat×List PD):=[(79,[.ref .chart c 0]),(81,[PD.fnAt [(77,[.ref .chart c 0,.ref .strs vs 0,.ref .strs ss 0])] 0]),(84,[.ref .chart c 0,.ref .strs vs 0,.ref .strs ss 0]),(86,[.ref .chart c 0]),(75,[.ref .int (c.states.length:Int) 0,PD.fnAt [(88,[.ref .chart c 0])] 0]),(75,[.ref .int (c.vars.length:Int) 0,PD.fnAt [(90,[.ref .chart c 0])] 0]),(75,[.ref .int (c.states.length:Int) 0,PD.fnAt [(92,[.ref .chart c 0])] 0]),(75,[.ref .int (c.trans.length:Int) 0,PD.fnAt [(94,[.ref .chart c 0,.ref .strs real 0])] 0])]; .ite true (.need ((0:Int)≤3∧(3:Int)<(↑(List.length x1):Int)) (.need (c.states.length≤maxLen) (.ite (bU (b8 c.states) (9:Int) != 0) (.ret (.i (bU (b8 c.states) (9:Int))) []) (.stop zTq1 { n:=78,fr:=[(2,.i 0),(66,.p (PD.fns x1)),(67,.i (↑(List.length x1):Int)),(68,.i (IntKind.wrap .i64 ((3:Int)+1)))],ck:=[] })))) (.ret (.i 0) [])) ?_
 conv=>zeta
 refine ⟨fun _=>⟨by show (0:Int)≤3∧(3:Int)<((8:Nat):Int); decide,h.le h.st,fun hb=>?_,fun hb=>?_⟩,fun hb=>Bool.noConfusion hb⟩
 · unfold q3E; rw [gn hb]; exact ⟨rfl,rfl⟩
 · unfold q3E; rw [gU hb,lL (by omega)]
   exact OI c vs ss real Γ h
theorem OJ (h:Small c vs ss):zJ33Tq Γ (Eq2 (.x (.i (q2E c vs ss real))) []) zTq1 ({ n:=78,fr:=[(2,.i 0),(66,.p (PD.fns [(79,[.ref .chart c 0]),(81,[PD.fnAt [(77,[.ref .chart c 0,.ref .strs vs 0,.ref .strs ss 0])] 0]),(84,[.ref .chart c 0,.ref .strs vs 0,.ref .strs ss 0]),(86,[.ref .chart c 0]),(75,[.ref .int (c.states.length:Int) 0,PD.fnAt [(88,[.ref .chart c 0])] 0]),(75,[.ref .int (c.vars.length:Int) 0,PD.fnAt [(90,[.ref .chart c 0])] 0]),(75,[.ref .int (c.states.length:Int) 0,PD.fnAt [(92,[.ref .chart c 0])] 0]),(75,[.ref .int (c.trans.length:Int) 0,PD.fnAt [(94,[.ref .chart c 0,.ref .strs real 0])] 0])])),(67,.i (↑(List.length [(79,[.ref .chart c 0]),(81,[PD.fnAt [(77,[.ref .chart c 0,.ref .strs vs 0,.ref .strs ss 0])] 0]),(84,[.ref .chart c 0,.ref .strs vs 0,.ref .strs ss 0]),(86,[.ref .chart c 0]),(75,[.ref .int (c.states.length:Int) 0,PD.fnAt [(88,[.ref .chart c 0])] 0]),(75,[.ref .int (c.vars.length:Int) 0,PD.fnAt [(90,[.ref .chart c 0])] 0]),(75,[.ref .int (c.states.length:Int) 0,PD.fnAt [(92,[.ref .chart c 0])] 0]),(75,[.ref .int (c.trans.length:Int) 0,PD.fnAt [(94,[.ref .chart c 0,.ref .strs real 0])] 0])]):Int)),(68,.i (2))],ck:=[] }):=by
 refine jg e9 Tryz.func33 (let x1:List (Nat×List PD):=[(79,[.ref .chart c 0]),(81,[PD.fnAt [(77,[.ref .chart c 0,.ref .strs vs 0,.ref .strs ss 0])] 0]),(84,[.ref .chart c 0,.ref .strs vs 0,.ref .strs ss 0]),(86,[.ref .chart c 0]),(75,[.ref .int (c.states.length:Int) 0,PD.fnAt [(88,[.ref .chart c 0])] 0]),(75,[.ref .int (c.vars.length:Int) 0,PD.fnAt [(90,[.ref .chart c 0])] 0]),(75,[.ref .int (c.states.length:Int) 0,PD.fnAt [(92,[.ref .chart c 0])] 0]),(75,[.ref .int (c.trans.length:Int) 0,PD.fnAt [(94,[.ref .chart c 0,.ref .strs real 0])] 0])]; .ite true (.need ((0:Int)≤2∧(2:Int)<(↑(List.length x1):Int)) (.need (c.events.length≤1000000∧vs.length≤1000000∧ss.length≤1000000) (.ite (bU (jx c vs ss) (3:Int) != 0) (.ret (.i (bU (jx c vs ss) (3:Int))) []) (.stop zTq1 { n:=78,fr:=[(2,.i 0),(66,.p (PD.fns x1)),(67,.i (↑(List.length x1):Int)),(68,.i (IntKind.wrap .i64 ((2:Int)+1)))],ck:=[] })))) (.ret (.i 0) [])) ?_
 conv=>zeta
 refine ⟨fun _=>⟨by show (0:Int)≤2∧(2:Int)<((8:Nat):Int); decide,⟨ax h.ev (by decide),ax h.vs (by decide),ax h.ss (by decide)⟩,fun hb=>?_,fun hb=>?_⟩,fun hb=>Bool.noConfusion hb⟩
 · unfold q2E; rw [gn hb]; exact ⟨rfl,rfl⟩
 · unfold q2E; rw [gU hb,lL (by omega)]
   exact OQ c vs ss real Γ h
theorem OO (h:Small c vs ss):zJ33Tq Γ (Eq2 (.x (.i (q1E c vs ss real))) []) zTq1 ({ n:=78,fr:=[(2,.i 0),(66,.p (PD.fns [(79,[.ref .chart c 0]),(81,[PD.fnAt [(77,[.ref .chart c 0,.ref .strs vs 0,.ref .strs ss 0])] 0]),(84,[.ref .chart c 0,.ref .strs vs 0,.ref .strs ss 0]),(86,[.ref .chart c 0]),(75,[.ref .int (c.states.length:Int) 0,PD.fnAt [(88,[.ref .chart c 0])] 0]),(75,[.ref .int (c.vars.length:Int) 0,PD.fnAt [(90,[.ref .chart c 0])] 0]),(75,[.ref .int (c.states.length:Int) 0,PD.fnAt [(92,[.ref .chart c 0])] 0]),(75,[.ref .int (c.trans.length:Int) 0,PD.fnAt [(94,[.ref .chart c 0,.ref .strs real 0])] 0])])),(67,.i (↑(List.length [(79,[.ref .chart c 0]),(81,[PD.fnAt [(77,[.ref .chart c 0,.ref .strs vs 0,.ref .strs ss 0])] 0]),(84,[.ref .chart c 0,.ref .strs vs 0,.ref .strs ss 0]),(86,[.ref .chart c 0]),(75,[.ref .int (c.states.length:Int) 0,PD.fnAt [(88,[.ref .chart c 0])] 0]),(75,[.ref .int (c.vars.length:Int) 0,PD.fnAt [(90,[.ref .chart c 0])] 0]),(75,[.ref .int (c.states.length:Int) 0,PD.fnAt [(92,[.ref .chart c 0])] 0]),(75,[.ref .int (c.trans.length:Int) 0,PD.fnAt [(94,[.ref .chart c 0,.ref .strs real 0])] 0])]):Int)),(68,.i (1))],ck:=[] }):=by
 refine jg e9 Tryz.func33 (let x1:List (Nat×List PD):=[(79,[.ref .chart c 0]),(81,[PD.fnAt [(77,[.ref .chart c 0,.ref .strs vs 0,.ref .strs ss 0])] 0]),(84,[.ref .chart c 0,.ref .strs vs 0,.ref .strs ss 0]),(86,[.ref .chart c 0]),(75,[.ref .int (c.states.length:Int) 0,PD.fnAt [(88,[.ref .chart c 0])] 0]),(75,[.ref .int (c.vars.length:Int) 0,PD.fnAt [(90,[.ref .chart c 0])] 0]),(75,[.ref .int (c.states.length:Int) 0,PD.fnAt [(92,[.ref .chart c 0])] 0]),(75,[.ref .int (c.trans.length:Int) 0,PD.fnAt [(94,[.ref .chart c 0,.ref .strs real 0])] 0])]; .ite true (.need ((0:Int)≤1∧(1:Int)<(↑(List.length x1):Int)) (.need ((fX c vs ss).length≤1000000) (.ite (bU (!List.any (fX c vs ss) fun s=>!bf s) (2:Int) != 0) (.ret (.i (bU (!List.any (fX c vs ss) fun s=>!bf s) (2:Int))) []) (.stop zTq1 { n:=78,fr:=[(2,.i 0),(66,.p (PD.fns x1)),(67,.i (↑(List.length x1):Int)),(68,.i (IntKind.wrap .i64 ((1:Int)+1)))],ck:=[] })))) (.ret (.i 0) [])) ?_
 conv=>zeta
 refine ⟨fun _=>⟨by show (0:Int)≤1∧(1:Int)<((8:Nat):Int); decide,h.all,fun hb=>?_,fun hb=>?_⟩,fun hb=>Bool.noConfusion hb⟩
 · unfold q1E; rw [gn hb]; exact ⟨rfl,rfl⟩
 · unfold q1E; rw [gU hb,lL (by omega)]
   exact OJ c vs ss real Γ h
theorem IP {c:Chart} {vs ss:List Str} (hb:(bU (hU c) 4 != 0)=false) (hv:vs.length=c.vars.length) (hs:ss.length=c.states.length):Small c vs ss:=by
 have h:hU c=true:=by
  cases hl:hU c
  · rw [hl] at hb; exact absurd hb (by decide)
  · rfl
 unfold hU at h
 simp only [af,decide_eq_true_eq] at h
 exact ⟨by omega,by omega,by omega,by omega,by omega,by omega⟩
theorem Ou (hv:vs.length=c.vars.length) (hs:ss.length=c.states.length):zJ33Tq Γ (Eq2 (.x (.i (q0E c vs ss real))) []) zTq1 ({ n:=78,fr:=[(2,.i 0),(66,.p (PD.fns [(79,[.ref .chart c 0]),(81,[PD.fnAt [(77,[.ref .chart c 0,.ref .strs vs 0,.ref .strs ss 0])] 0]),(84,[.ref .chart c 0,.ref .strs vs 0,.ref .strs ss 0]),(86,[.ref .chart c 0]),(75,[.ref .int (c.states.length:Int) 0,PD.fnAt [(88,[.ref .chart c 0])] 0]),(75,[.ref .int (c.vars.length:Int) 0,PD.fnAt [(90,[.ref .chart c 0])] 0]),(75,[.ref .int (c.states.length:Int) 0,PD.fnAt [(92,[.ref .chart c 0])] 0]),(75,[.ref .int (c.trans.length:Int) 0,PD.fnAt [(94,[.ref .chart c 0,.ref .strs real 0])] 0])])),(67,.i (↑(List.length [(79,[.ref .chart c 0]),(81,[PD.fnAt [(77,[.ref .chart c 0,.ref .strs vs 0,.ref .strs ss 0])] 0]),(84,[.ref .chart c 0,.ref .strs vs 0,.ref .strs ss 0]),(86,[.ref .chart c 0]),(75,[.ref .int (c.states.length:Int) 0,PD.fnAt [(88,[.ref .chart c 0])] 0]),(75,[.ref .int (c.vars.length:Int) 0,PD.fnAt [(90,[.ref .chart c 0])] 0]),(75,[.ref .int (c.states.length:Int) 0,PD.fnAt [(92,[.ref .chart c 0])] 0]),(75,[.ref .int (c.trans.length:Int) 0,PD.fnAt [(94,[.ref .chart c 0,.ref .strs real 0])] 0])]):Int)),(68,.i (0))],ck:=[] }):=by
 refine jg e9 Tryz.func33 (let x1:List (Nat×List PD):=[(79,[.ref .chart c 0]),(81,[PD.fnAt [(77,[.ref .chart c 0,.ref .strs vs 0,.ref .strs ss 0])] 0]),(84,[.ref .chart c 0,.ref .strs vs 0,.ref .strs ss 0]),(86,[.ref .chart c 0]),(75,[.ref .int (c.states.length:Int) 0,PD.fnAt [(88,[.ref .chart c 0])] 0]),(75,[.ref .int (c.vars.length:Int) 0,PD.fnAt [(90,[.ref .chart c 0])] 0]),(75,[.ref .int (c.states.length:Int) 0,PD.fnAt [(92,[.ref .chart c 0])] 0]),(75,[.ref .int (c.trans.length:Int) 0,PD.fnAt [(94,[.ref .chart c 0,.ref .strs real 0])] 0])]; .ite true (.need ((0:Int)≤0∧(0:Int)<(↑(List.length x1):Int)) (.ite (bU (hU c) (4:Int) != 0) (.ret (.i (bU (hU c) (4:Int))) []) (.stop zTq1 { n:=78,fr:=[(2,.i 0),(66,.p (PD.fns x1)),(67,.i (↑(List.length x1):Int)),(68,.i (IntKind.wrap .i64 ((0:Int)+1)))],ck:=[] }))) (.ret (.i 0) [])) ?_
 conv=>zeta
 refine ⟨fun _=>⟨by show (0:Int)≤0∧(0:Int)<((8:Nat):Int); decide,fun hb=>?_,fun hb=>?_⟩,fun hb=>Bool.noConfusion hb⟩
 · unfold q0E; rw [gn hb]; exact ⟨rfl,rfl⟩
 · unfold q0E; rw [gU hb,lL (by omega)]
   exact OO c vs ss real Γ (IP hb hv hs)
theorem Hr (hv:vs.length=c.vars.length) (hs:ss.length=c.states.length):zJ33Tq Γ (Eq2 (.x (.i (q0E c vs ss real))) []) [.code [1,1,1,1,1,1,0],.code [1,1,1,1,1,1,1]] ({ n:=78,fr:=[(1,.p ((.ref .chart c 0))),(2,.i 0),(3,.p ((.ref .strs vs 0))),(4,.p ((.ref .strs ss 0))),(5,.x (.c (.fn (.func 74) [] []))),(6,.p ((.ref .strs real 0))),(9,.p ((.fnAt [(77,[.ref .chart c 0,.ref .strs vs 0,.ref .strs ss 0])] 0)))],ck:=[.dead,.dead,.dead,.dead,.dead,.dead,.dead,.dead] }):=by
 refine jg e9 Tryz.func33 (let x1:List (Nat×List PD):=[(79,[.ref .chart c 0]),(81,[PD.fnAt [(77,[.ref .chart c 0,.ref .strs vs 0,.ref .strs ss 0])] 0]),(84,[.ref .chart c 0,.ref .strs vs 0,.ref .strs ss 0]),(86,[.ref .chart c 0]),(75,[.ref .int (c.states.length:Int) 0,PD.fnAt [(88,[.ref .chart c 0])] 0]),(75,[.ref .int (c.vars.length:Int) 0,PD.fnAt [(90,[.ref .chart c 0])] 0]),(75,[.ref .int (c.states.length:Int) 0,PD.fnAt [(92,[.ref .chart c 0])] 0]),(75,[.ref .int (c.trans.length:Int) 0,PD.fnAt [(94,[.ref .chart c 0,.ref .strs real 0])] 0])]; .stop zTq1 { n:=78,fr:=[(2,.i 0),(66,.p (PD.fns x1)),(67,.i (↑(List.length x1):Int)),(68,.i 0)],ck:=[] }) ?_
 conv=>zeta
 exact Ou c vs ss real Γ hv hs
theorem E7 {l:List Ev.Stat} {k:Nat} (hk:k<l.length):df (l.take (k+1))=if (!aM (ETy.get .stat l k).kind)=true then df (l.take k)++[(ETy.get .stat l k).name] else df (l.take k):=by
 rw [show ETy.get .stat l k=l[k] from ETy.get_eq (t:=.stat) (List.getElem?_eq_getElem hk)]
 unfold df
 rw [aX hk,bP,bJ]
 cases hp:aM l[k].kind <;> simp [hp]
theorem Mz (k:Nat):(df (l.take k)).length≤l.length:=by
 unfold df
 rw [aQ]
 exact ax (a7 _ _) (by rw [bg]; omega)
abbrev zTq2 (a:Chart):Chunk:=.cells [.pd (.str a.name),.pd (.lst .str a.events),.pd (.lst .var a.vars),.pd (.lst .stat a.states),.pd (.lst .tran a.trans)] 27
abbrev zTq3:List PI:=[.code [1,1,1,1,0,1,0,0],.inLoop [1,1,1,1,0,1,0,0],.inBlock 0,.code [1,1,1,1,1]]
theorem EL (hst:c.states.length≤2199023255552):∀ (n k:Nat),c.states.length - k≤n→k≤c.states.length →
 zJ33Tq Γ (Eq2 (.x (.i (bH c))) []) zTq3 ({ n:=78,fr:=[(1,.x (.c (.loc 0 0))),(2,.i 0),(3,.x (.c (.loc 3 0))),(4,.x (.c (.loc 4 0))),(5,.x (.c (.fn (.func 74) [] []))),(6,.x (.c (.loc 5 0))),(20,.p (.lst .stat c.states)),(21,.i c.states.length),(22,.i ((k:Int)))],ck:=[zTq2 c,.own 9 .str (List.map (fun v:Var=>v.name) c.vars),.own 9 .str (List.map (fun s:Ev.Stat=>s.name) c.states),.cells [.own 1] 22,.cells [.own 2] 22,.cells [.own 6] 22,.own 9 .str (df (c.states.take k))] }):=by
 intro n
 induction n with
 | zero=>?_
 | succ n ih=>?_
 all_goals
  intro k hn hk
  refine jg e9 Tryz.func33 (let x1:List (Nat×SV):=[(1,.x (.c (.loc 0 0))),(2,.i 0),(3,.x (.c (.loc 3 0))),(4,.x (.c (.loc 4 0))),(5,.x (.c (.fn (.func 74) [] []))),(6,.x (.c (.loc 5 0))),(20,.p (.lst .stat c.states)),(21,.i c.states.length),(22,.i (IntKind.wrap .i64 ((k:Int)+1)))]; let x2:List PI:=zTq3; let x4:=(List.take k c.states); let x3:=(df x4++[Stat.name (ETy.get .stat c.states k)]); .ite (decide ((k:Int)<(c.states.length:Int))) (.need (inRg k c.states.length) (.ite (!aM (Stat.kind (ETy.get .stat c.states k))) (.need (room (x3.length) 16) (.stop x2 { n:=78,fr:=x1,ck:=[zTq2 c,.own 9 .str (List.map (fun v=>v.name) c.vars),.own 9 .str (List.map (fun s=>s.name) c.states),.cells [.own 1] 22,.cells [.own 2] 22,.cells [.own 6] 22,.own 9 .str x3] })) (.stop x2 { n:=78,fr:=x1,ck:=[zTq2 c,.own 9 .str (List.map (fun v=>v.name) c.vars),.own 9 .str (List.map (fun s=>s.name) c.states),.cells [.own 1] 22,.cells [.own 2] 22,.cells [.own 6] 22,.own 9 .str (df x4)] }))) (.stop [.code [1,1,1,1,1,1,0],.code [1,1,1,1,1,1,1]] { n:=78,fr:=[(1,.x (.c (.loc 0 0))),(2,.i 0),(3,.x (.c (.loc 3 0))),(4,.x (.c (.loc 4 0))),(5,.x (.c (.fn (.func 74) [] []))),(6,.x (.c (.loc 5 0))),(9,.x (.c (.loc 7 0)))],ck:=[zTq2 c,.own 9 .str (List.map (fun v=>v.name) c.vars),.own 9 .str (List.map (fun s=>s.name) c.states),.cells [.own 1] 22,.cells [.own 2] 22,.cells [.own 6] 22,.own 9 .str (df x4),.cells [.fn (.func 77) [] [.loc 0 0,.loc 3 0,.loc 4 0]] 114] })) ?_
  conv=>zeta
  refine ⟨fun hlt=>?_,fun hge=>?_⟩
  · have hk':k<c.states.length:=by have:=of_decide_eq_true hlt; omega
    have hr:=E7 hk'
    have hle:=Mz c.states (k+1)
    refine ⟨by omega,fun hb=>?_,fun hb=>?_⟩
    · rw [if_pos (by exact hb)] at hr
      rw [← hr]
      refine ⟨oQ _ (by omega),?_⟩
      rw [aW (aA hk' (ax hst (by decide)))]
      first | (exfalso; omega) | exact ih (k+1) (by omega) (by omega)
    · rw [if_neg (by rw [show _=false from hb]; decide)] at hr
      rw [← hr]
      rw [aW (aA hk' (ax hst (by decide)))]
      first | (exfalso; omega) | exact ih (k+1) (by omega) (by omega)
  · have hke:k=c.states.length:=by have:=of_decide_eq_false hge; omega
    subst hke
    rw [aP (ar _)]
    exact J.freeze aZ [1,2,6,0,3,4,5,7] (by kernel_rfl) (Hr c _ _ _ Γ (aQ _) (aQ _))
theorem Dk (h:c.vars.length≤2199023255552∧c.states.length≤2199023255552):ah Tryz.prog 33 [.e .chart c] [] (.x (.i (bH c))) []:=by
 refine dg e9 Tryz.func33 (.need (c.vars.length≤2199023255552∧c.states.length≤2199023255552) (.stop zTq3 { n:=78,fr:=[(1,.x (.c (.loc 0 0))),(2,.i 0),(3,.x (.c (.loc 3 0))),(4,.x (.c (.loc 4 0))),(5,.x (.c (.fn (.func 74) [] []))),(6,.x (.c (.loc 5 0))),(20,.p (.lst .stat c.states)),(21,.i c.states.length),(22,.i 0)],ck:=[zTq2 c,.own 9 .str (List.map (fun v=>v.name) c.vars),.own 9 .str (List.map (fun s=>s.name) c.states),.cells [.own 1] 22,.cells [.own 2] 22,.cells [.pd (.v (Value.slice none 0 0))] 22] })) fun Γ=>?_
 refine ⟨h,?_⟩
 refine J.nilCk 5 0 9 .str rfl rfl (by kernel_rfl) ?_
 exact EL c Γ h.2 c.states.length 0 (by omega) (by omega)
def nZ:Ent:=(33,fun
 | [.agg [.pd (.str a),.pd (.lst .str b),.pd (.lst .var c),.pd (.lst .stat d),.pd (.lst .tran e)]],[]=>some (some (c.length≤2199023255552∧d.length≤2199023255552),.x (.c (.pd (.int .i64 (bH ⟨a,b,c,d,e⟩)))),[])
 | _,_=>none)
theorem uG:EntOk Tryz.prog nZ:=entOk fun vs ck=>by
 unfold nZ; dsimp only; split
 · rename_i a b c d e; exact entS fun hp=>Dk ⟨a,b,c,d,e⟩ hp
 · exact entN
end Go.Proofs.YtgfifkhbfdacjaaGreatDoor

/- Contracts: valid.Check. Conditions: sizes. -/
import Derived.Test.YtgfifkhbfdacjaaGreatDoorTp
namespace Go.Proofs.YtgfifkhbfdacjaaGreatDoor
open Go Go.Ev
set_option maxRecDepth 100000
abbrev zJ33Tq:=J Tryz.prog 33 (au Tryz.f33)
def gN:Cfg:=⟨aY,[q8,mb,eEa,eEb,eQ3,eQ4,eQ5,eQ6,eE7,eE8,eE9,BE]⟩
theorem eP:ag Tryz.prog gN.tab:=(ag.cons Fe (ag.cons nF (ag.cons LN (ag.cons LB (ag.cons Ly (ag.cons Mi (ag.cons LA (ag.cons Mc (ag.cons LP (ag.cons LG (ag.cons Mb (ag.cons Kc ag.nil))))))))))))
def fU (e r:Int):Int:=if (e != 0)=true then e else r
variable (c:Chart) (vs ss real:List Str) {e:Int} (l:List Ev.Stat) {r:Int} (Γ:Ctx)
def c6:List Str:=(l.filter fun s:Ev.Stat=>!aO s.kind).map fun s:Ev.Stat=>s.name
def q7E:Int:=fU (bQ (fun k:Nat=>cK c k real (ETy.get .tran c.trans k)) 0 c.trans.length) 0
def q6E:Int:=fU (bQ (fun k:Nat=>cQ c (ETy.get .stat c.states k)) 0 c.states.length) (q7E c real)
def q5E:Int:=fU (bQ (fun k:Nat=>dY (ETy.get .var c.vars k)) 0 c.vars.length) (q6E c real)
def q4E:Int:=fU (bQ (fun k:Nat=>dd c.states k) 0 c.states.length) (q5E c real)
def q3E:Int:=fU (bT (bZ c.states) 9) (q4E c real)
def q2E:Int:=fU (bT (iV c vs ss) 3) (q3E c real)
def q1E:Int:=fU (bT (!(fF c vs ss).any fun s:Str=>!aZ s) 2) (q2E c vs ss real)
def q0E:Int:=fU (bT (gW c) 4) (q1E c vs ss real)
def bC:Int:=q0E c (c.vars.map fun v:Var=>v.name) (c.states.map fun s:Ev.Stat=>s.name) (c6 c.states)
theorem fW (h:(e != 0)=true):fU e r=e:=if_pos h
theorem gA (h:(e != 0)=false):fU e r=r:=if_neg (by rw [h]; decide)
theorem lA {k:Int} (h:k=0∨k=1∨k=2∨k=3∨k=4∨k=5∨k=6∨k=7):IntKind.wrap .i64 (k+1)=k+1:=cg (by omega) (by omega)
structure Small (c:Chart) (vs ss:List Str):Prop where
 ev:c.events.length≤200000
 va:c.vars.length≤200000
 st:c.states.length≤200000
 tr:c.trans.length≤200000
 vs:vs.length≤200000
 ss:ss.length≤200000
theorem Small.le {c:Chart} {vs ss:List Str} (_h:Small c vs ss) {n:Nat} (hn:n≤200000):n≤maxLen:=av hn (by decide)
theorem Small.all {c:Chart} {vs ss:List Str} (h:Small c vs ss):(fF c vs ss).length≤1000000:=by
 have:=h.ev; have:=h.vs; have:=h.ss
 unfold fF
 rw [mR]
 simp only [List.flatten_cons,List.flatten_nil,ar,aF,bH]
 omega
abbrev zTq1:List PI:=[.code [1,1,1,1,1,1,1,0,1,0,0],.inLoop [1,1,1,1,1,1,1,0,1,0,0],.inBlock 2,.code [1,1,1,1,1,1,1,1]]
theorem MJ:zJ33Tq Γ (Eq2 (.x (.i (0))) []) zTq1 ({ n:=78,fr:=[(2,.i 0),(66,.p (PD.fns [(79,[.ref .chart c 0]),(81,[PD.fnAt [(77,[.ref .chart c 0,.ref .strs vs 0,.ref .strs ss 0])] 0]),(84,[.ref .chart c 0,.ref .strs vs 0,.ref .strs ss 0]),(86,[.ref .chart c 0]),(75,[.ref .int (c.states.length:Int) 0,PD.fnAt [(88,[.ref .chart c 0])] 0]),(75,[.ref .int (c.vars.length:Int) 0,PD.fnAt [(90,[.ref .chart c 0])] 0]),(75,[.ref .int (c.states.length:Int) 0,PD.fnAt [(92,[.ref .chart c 0])] 0]),(75,[.ref .int (c.trans.length:Int) 0,PD.fnAt [(94,[.ref .chart c 0,.ref .strs real 0])] 0])])),(67,.i (↑(List.length [(79,[.ref .chart c 0]),(81,[PD.fnAt [(77,[.ref .chart c 0,.ref .strs vs 0,.ref .strs ss 0])] 0]),(84,[.ref .chart c 0,.ref .strs vs 0,.ref .strs ss 0]),(86,[.ref .chart c 0]),(75,[.ref .int (c.states.length:Int) 0,PD.fnAt [(88,[.ref .chart c 0])] 0]),(75,[.ref .int (c.vars.length:Int) 0,PD.fnAt [(90,[.ref .chart c 0])] 0]),(75,[.ref .int (c.states.length:Int) 0,PD.fnAt [(92,[.ref .chart c 0])] 0]),(75,[.ref .int (c.trans.length:Int) 0,PD.fnAt [(94,[.ref .chart c 0,.ref .strs real 0])] 0])]):Int)),(68,.i (8))],ck:=[] }):=by
 refine jg eP Tryz.func33 (let x1:List (Nat×List PD):=[(79,[.ref .chart c 0]),(81,[PD.fnAt [(77,[.ref .chart c 0,.ref .strs vs 0,.ref .strs ss 0])] 0]),(84,[.ref .chart c 0,.ref .strs vs 0,.ref .strs ss 0]),(86,[.ref .chart c 0]),(75,[.ref .int (c.states.length:Int) 0,PD.fnAt [(88,[.ref .chart c 0])] 0]),(75,[.ref .int (c.vars.length:Int) 0,PD.fnAt [(90,[.ref .chart c 0])] 0]),(75,[.ref .int (c.states.length:Int) 0,PD.fnAt [(92,[.ref .chart c 0])] 0]),(75,[.ref .int (c.trans.length:Int) 0,PD.fnAt [(94,[.ref .chart c 0,.ref .strs real 0])] 0])]; .ite false (.need ((0:Int)≤8∧(8:Int)<(↑(List.length x1):Int)) (.stop [.ops [1,1,1,1,1,1,1,0,1,0,0,1,1,0,0,0] 1,.code [1,1,1,1,1,1,1,0,1,0,0,1,1,0,0,1],.inBlock 3,.code [1,1,1,1,1,1,1,0,1,0,0,1,1,1],.inLoop [1,1,1,1,1,1,1,0,1,0,0],.inBlock 2,.code [1,1,1,1,1,1,1,1]] { n:=78,fr:=[(2,.i 0),(66,.p (PD.fns x1)),(67,.i (↑(List.length x1):Int)),(68,.i 8),(70,.p (PD.fnAt x1 8))],ck:=[] })) (.ret (.i 0) [])) ?_
 conv=>zeta
 refine ⟨fun h=>Bool.noConfusion h,fun _=>⟨rfl,rfl⟩⟩
theorem Mq (h:Small c vs ss):zJ33Tq Γ (Eq2 (.x (.i (q7E c real))) []) zTq1 ({ n:=78,fr:=[(2,.i 0),(66,.p (PD.fns [(79,[.ref .chart c 0]),(81,[PD.fnAt [(77,[.ref .chart c 0,.ref .strs vs 0,.ref .strs ss 0])] 0]),(84,[.ref .chart c 0,.ref .strs vs 0,.ref .strs ss 0]),(86,[.ref .chart c 0]),(75,[.ref .int (c.states.length:Int) 0,PD.fnAt [(88,[.ref .chart c 0])] 0]),(75,[.ref .int (c.vars.length:Int) 0,PD.fnAt [(90,[.ref .chart c 0])] 0]),(75,[.ref .int (c.states.length:Int) 0,PD.fnAt [(92,[.ref .chart c 0])] 0]),(75,[.ref .int (c.trans.length:Int) 0,PD.fnAt [(94,[.ref .chart c 0,.ref .strs real 0])] 0])])),(67,.i (↑(List.length [(79,[.ref .chart c 0]),(81,[PD.fnAt [(77,[.ref .chart c 0,.ref .strs vs 0,.ref .strs ss 0])] 0]),(84,[.ref .chart c 0,.ref .strs vs 0,.ref .strs ss 0]),(86,[.ref .chart c 0]),(75,[.ref .int (c.states.length:Int) 0,PD.fnAt [(88,[.ref .chart c 0])] 0]),(75,[.ref .int (c.vars.length:Int) 0,PD.fnAt [(90,[.ref .chart c 0])] 0]),(75,[.ref .int (c.states.length:Int) 0,PD.fnAt [(92,[.ref .chart c 0])] 0]),(75,[.ref .int (c.trans.length:Int) 0,PD.fnAt [(94,[.ref .chart c 0,.ref .strs real 0])] 0])]):Int)),(68,.i (7))],ck:=[] }):=by
 refine jg eP Tryz.func33 (let x2:=(c.trans.length:Int); let x1:List (Nat×List PD):=[(79,[.ref .chart c 0]),(81,[PD.fnAt [(77,[.ref .chart c 0,.ref .strs vs 0,.ref .strs ss 0])] 0]),(84,[.ref .chart c 0,.ref .strs vs 0,.ref .strs ss 0]),(86,[.ref .chart c 0]),(75,[.ref .int (c.states.length:Int) 0,PD.fnAt [(88,[.ref .chart c 0])] 0]),(75,[.ref .int (c.vars.length:Int) 0,PD.fnAt [(90,[.ref .chart c 0])] 0]),(75,[.ref .int (c.states.length:Int) 0,PD.fnAt [(92,[.ref .chart c 0])] 0]),(75,[.ref .int x2 0,PD.fnAt [(94,[.ref .chart c 0,.ref .strs real 0])] 0])]; .ite true (.need ((0:Int)≤7∧(7:Int)<(↑(List.length x1):Int)) (.need (x2=x2∧c.states.length≤maxLen∧c.trans.length≤maxLen) (.ite (bQ (fun k=>cK c k real (ETy.get .tran c.trans k)) 0 c.trans.length != (0:Int)) (.ret (.i (bQ (fun k=>cK c k real (ETy.get .tran c.trans k)) 0 c.trans.length)) []) (.stop zTq1 { n:=78,fr:=[(2,.i 0),(66,.p (PD.fns x1)),(67,.i (↑(List.length x1):Int)),(68,.i (IntKind.wrap .i64 ((7:Int)+1)))],ck:=[] })))) (.ret (.i 0) [])) ?_
 conv=>zeta
 refine ⟨fun _=>⟨by show (0:Int)≤7∧(7:Int)<((8:Nat):Int); decide,⟨rfl,h.le h.st,h.le h.tr⟩,fun hb=>?_,fun hb=>?_⟩,fun hb=>Bool.noConfusion hb⟩
 · unfold q7E; rw [fW hb]; exact ⟨rfl,rfl⟩
 · unfold q7E; rw [gA hb,lA (by omega)]
   exact MJ c vs ss real Γ
theorem MC (h:Small c vs ss):zJ33Tq Γ (Eq2 (.x (.i (q6E c real))) []) zTq1 ({ n:=78,fr:=[(2,.i 0),(66,.p (PD.fns [(79,[.ref .chart c 0]),(81,[PD.fnAt [(77,[.ref .chart c 0,.ref .strs vs 0,.ref .strs ss 0])] 0]),(84,[.ref .chart c 0,.ref .strs vs 0,.ref .strs ss 0]),(86,[.ref .chart c 0]),(75,[.ref .int (c.states.length:Int) 0,PD.fnAt [(88,[.ref .chart c 0])] 0]),(75,[.ref .int (c.vars.length:Int) 0,PD.fnAt [(90,[.ref .chart c 0])] 0]),(75,[.ref .int (c.states.length:Int) 0,PD.fnAt [(92,[.ref .chart c 0])] 0]),(75,[.ref .int (c.trans.length:Int) 0,PD.fnAt [(94,[.ref .chart c 0,.ref .strs real 0])] 0])])),(67,.i (↑(List.length [(79,[.ref .chart c 0]),(81,[PD.fnAt [(77,[.ref .chart c 0,.ref .strs vs 0,.ref .strs ss 0])] 0]),(84,[.ref .chart c 0,.ref .strs vs 0,.ref .strs ss 0]),(86,[.ref .chart c 0]),(75,[.ref .int (c.states.length:Int) 0,PD.fnAt [(88,[.ref .chart c 0])] 0]),(75,[.ref .int (c.vars.length:Int) 0,PD.fnAt [(90,[.ref .chart c 0])] 0]),(75,[.ref .int (c.states.length:Int) 0,PD.fnAt [(92,[.ref .chart c 0])] 0]),(75,[.ref .int (c.trans.length:Int) 0,PD.fnAt [(94,[.ref .chart c 0,.ref .strs real 0])] 0])]):Int)),(68,.i (6))],ck:=[] }):=by
 refine jg eP Tryz.func33 (let x2:=(c.states.length:Int); let x1:List (Nat×List PD):=[(79,[.ref .chart c 0]),(81,[PD.fnAt [(77,[.ref .chart c 0,.ref .strs vs 0,.ref .strs ss 0])] 0]),(84,[.ref .chart c 0,.ref .strs vs 0,.ref .strs ss 0]),(86,[.ref .chart c 0]),(75,[.ref .int x2 0,PD.fnAt [(88,[.ref .chart c 0])] 0]),(75,[.ref .int (c.vars.length:Int) 0,PD.fnAt [(90,[.ref .chart c 0])] 0]),(75,[.ref .int x2 0,PD.fnAt [(92,[.ref .chart c 0])] 0]),(75,[.ref .int (c.trans.length:Int) 0,PD.fnAt [(94,[.ref .chart c 0,.ref .strs real 0])] 0])]; .ite true (.need ((0:Int)≤6∧(6:Int)<(↑(List.length x1):Int)) (.need (x2=x2∧c.states.length≤maxLen) (.ite (bQ (fun k=>cQ c (ETy.get .stat c.states k)) 0 c.states.length != (0:Int)) (.ret (.i (bQ (fun k=>cQ c (ETy.get .stat c.states k)) 0 c.states.length)) []) (.stop zTq1 { n:=78,fr:=[(2,.i 0),(66,.p (PD.fns x1)),(67,.i (↑(List.length x1):Int)),(68,.i (IntKind.wrap .i64 ((6:Int)+1)))],ck:=[] })))) (.ret (.i 0) [])) ?_
 conv=>zeta
 refine ⟨fun _=>⟨by show (0:Int)≤6∧(6:Int)<((8:Nat):Int); decide,⟨rfl,h.le h.st⟩,fun hb=>?_,fun hb=>?_⟩,fun hb=>Bool.noConfusion hb⟩
 · unfold q6E; rw [fW hb]; exact ⟨rfl,rfl⟩
 · unfold q6E; rw [gA hb,lA (by omega)]
   exact Mq c vs ss real Γ h
theorem MI (h:Small c vs ss):zJ33Tq Γ (Eq2 (.x (.i (q5E c real))) []) zTq1 ({ n:=78,fr:=[(2,.i 0),(66,.p (PD.fns [(79,[.ref .chart c 0]),(81,[PD.fnAt [(77,[.ref .chart c 0,.ref .strs vs 0,.ref .strs ss 0])] 0]),(84,[.ref .chart c 0,.ref .strs vs 0,.ref .strs ss 0]),(86,[.ref .chart c 0]),(75,[.ref .int (c.states.length:Int) 0,PD.fnAt [(88,[.ref .chart c 0])] 0]),(75,[.ref .int (c.vars.length:Int) 0,PD.fnAt [(90,[.ref .chart c 0])] 0]),(75,[.ref .int (c.states.length:Int) 0,PD.fnAt [(92,[.ref .chart c 0])] 0]),(75,[.ref .int (c.trans.length:Int) 0,PD.fnAt [(94,[.ref .chart c 0,.ref .strs real 0])] 0])])),(67,.i (↑(List.length [(79,[.ref .chart c 0]),(81,[PD.fnAt [(77,[.ref .chart c 0,.ref .strs vs 0,.ref .strs ss 0])] 0]),(84,[.ref .chart c 0,.ref .strs vs 0,.ref .strs ss 0]),(86,[.ref .chart c 0]),(75,[.ref .int (c.states.length:Int) 0,PD.fnAt [(88,[.ref .chart c 0])] 0]),(75,[.ref .int (c.vars.length:Int) 0,PD.fnAt [(90,[.ref .chart c 0])] 0]),(75,[.ref .int (c.states.length:Int) 0,PD.fnAt [(92,[.ref .chart c 0])] 0]),(75,[.ref .int (c.trans.length:Int) 0,PD.fnAt [(94,[.ref .chart c 0,.ref .strs real 0])] 0])]):Int)),(68,.i (5))],ck:=[] }):=by
 refine jg eP Tryz.func33 (let x1:List (Nat×List PD):=[(79,[.ref .chart c 0]),(81,[PD.fnAt [(77,[.ref .chart c 0,.ref .strs vs 0,.ref .strs ss 0])] 0]),(84,[.ref .chart c 0,.ref .strs vs 0,.ref .strs ss 0]),(86,[.ref .chart c 0]),(75,[.ref .int (c.states.length:Int) 0,PD.fnAt [(88,[.ref .chart c 0])] 0]),(75,[.ref .int (c.vars.length:Int) 0,PD.fnAt [(90,[.ref .chart c 0])] 0]),(75,[.ref .int (c.states.length:Int) 0,PD.fnAt [(92,[.ref .chart c 0])] 0]),(75,[.ref .int (c.trans.length:Int) 0,PD.fnAt [(94,[.ref .chart c 0,.ref .strs real 0])] 0])]; .ite true (.need ((0:Int)≤5∧(5:Int)<(↑(List.length x1):Int)) (.need ((c.vars.length:Int)=(c.vars.length:Int)∧c.vars.length≤maxLen) (.ite (bQ (fun k=>dY (ETy.get .var c.vars k)) 0 c.vars.length != (0:Int)) (.ret (.i (bQ (fun k=>dY (ETy.get .var c.vars k)) 0 c.vars.length)) []) (.stop zTq1 { n:=78,fr:=[(2,.i 0),(66,.p (PD.fns x1)),(67,.i (↑(List.length x1):Int)),(68,.i (IntKind.wrap .i64 ((5:Int)+1)))],ck:=[] })))) (.ret (.i 0) [])) ?_
 conv=>zeta
 refine ⟨fun _=>⟨by show (0:Int)≤5∧(5:Int)<((8:Nat):Int); decide,⟨rfl,h.le h.va⟩,fun hb=>?_,fun hb=>?_⟩,fun hb=>Bool.noConfusion hb⟩
 · unfold q5E; rw [fW hb]; exact ⟨rfl,rfl⟩
 · unfold q5E; rw [gA hb,lA (by omega)]
   exact MC c vs ss real Γ h
theorem Mv (h:Small c vs ss):zJ33Tq Γ (Eq2 (.x (.i (q4E c real))) []) zTq1 ({ n:=78,fr:=[(2,.i 0),(66,.p (PD.fns [(79,[.ref .chart c 0]),(81,[PD.fnAt [(77,[.ref .chart c 0,.ref .strs vs 0,.ref .strs ss 0])] 0]),(84,[.ref .chart c 0,.ref .strs vs 0,.ref .strs ss 0]),(86,[.ref .chart c 0]),(75,[.ref .int (c.states.length:Int) 0,PD.fnAt [(88,[.ref .chart c 0])] 0]),(75,[.ref .int (c.vars.length:Int) 0,PD.fnAt [(90,[.ref .chart c 0])] 0]),(75,[.ref .int (c.states.length:Int) 0,PD.fnAt [(92,[.ref .chart c 0])] 0]),(75,[.ref .int (c.trans.length:Int) 0,PD.fnAt [(94,[.ref .chart c 0,.ref .strs real 0])] 0])])),(67,.i (↑(List.length [(79,[.ref .chart c 0]),(81,[PD.fnAt [(77,[.ref .chart c 0,.ref .strs vs 0,.ref .strs ss 0])] 0]),(84,[.ref .chart c 0,.ref .strs vs 0,.ref .strs ss 0]),(86,[.ref .chart c 0]),(75,[.ref .int (c.states.length:Int) 0,PD.fnAt [(88,[.ref .chart c 0])] 0]),(75,[.ref .int (c.vars.length:Int) 0,PD.fnAt [(90,[.ref .chart c 0])] 0]),(75,[.ref .int (c.states.length:Int) 0,PD.fnAt [(92,[.ref .chart c 0])] 0]),(75,[.ref .int (c.trans.length:Int) 0,PD.fnAt [(94,[.ref .chart c 0,.ref .strs real 0])] 0])]):Int)),(68,.i (4))],ck:=[] }):=by
 refine jg eP Tryz.func33 (let x2:=(c.states.length:Int); let x1:List (Nat×List PD):=[(79,[.ref .chart c 0]),(81,[PD.fnAt [(77,[.ref .chart c 0,.ref .strs vs 0,.ref .strs ss 0])] 0]),(84,[.ref .chart c 0,.ref .strs vs 0,.ref .strs ss 0]),(86,[.ref .chart c 0]),(75,[.ref .int x2 0,PD.fnAt [(88,[.ref .chart c 0])] 0]),(75,[.ref .int (c.vars.length:Int) 0,PD.fnAt [(90,[.ref .chart c 0])] 0]),(75,[.ref .int x2 0,PD.fnAt [(92,[.ref .chart c 0])] 0]),(75,[.ref .int (c.trans.length:Int) 0,PD.fnAt [(94,[.ref .chart c 0,.ref .strs real 0])] 0])]; .ite true (.need ((0:Int)≤4∧(4:Int)<(↑(List.length x1):Int)) (.need (x2=x2∧c.states.length≤maxLen) (.ite (bQ (fun k=>dd c.states k) 0 c.states.length != (0:Int)) (.ret (.i (bQ (fun k=>dd c.states k) 0 c.states.length)) []) (.stop zTq1 { n:=78,fr:=[(2,.i 0),(66,.p (PD.fns x1)),(67,.i (↑(List.length x1):Int)),(68,.i (IntKind.wrap .i64 ((4:Int)+1)))],ck:=[] })))) (.ret (.i 0) [])) ?_
 conv=>zeta
 refine ⟨fun _=>⟨by show (0:Int)≤4∧(4:Int)<((8:Nat):Int); decide,⟨rfl,h.le h.st⟩,fun hb=>?_,fun hb=>?_⟩,fun hb=>Bool.noConfusion hb⟩
 · unfold q4E; rw [fW hb]; exact ⟨rfl,rfl⟩
 · unfold q4E; rw [gA hb,lA (by omega)]
   exact MI c vs ss real Γ h
theorem MA (h:Small c vs ss):zJ33Tq Γ (Eq2 (.x (.i (q3E c real))) []) zTq1 ({ n:=78,fr:=[(2,.i 0),(66,.p (PD.fns [(79,[.ref .chart c 0]),(81,[PD.fnAt [(77,[.ref .chart c 0,.ref .strs vs 0,.ref .strs ss 0])] 0]),(84,[.ref .chart c 0,.ref .strs vs 0,.ref .strs ss 0]),(86,[.ref .chart c 0]),(75,[.ref .int (c.states.length:Int) 0,PD.fnAt [(88,[.ref .chart c 0])] 0]),(75,[.ref .int (c.vars.length:Int) 0,PD.fnAt [(90,[.ref .chart c 0])] 0]),(75,[.ref .int (c.states.length:Int) 0,PD.fnAt [(92,[.ref .chart c 0])] 0]),(75,[.ref .int (c.trans.length:Int) 0,PD.fnAt [(94,[.ref .chart c 0,.ref .strs real 0])] 0])])),(67,.i (↑(List.length [(79,[.ref .chart c 0]),(81,[PD.fnAt [(77,[.ref .chart c 0,.ref .strs vs 0,.ref .strs ss 0])] 0]),(84,[.ref .chart c 0,.ref .strs vs 0,.ref .strs ss 0]),(86,[.ref .chart c 0]),(75,[.ref .int (c.states.length:Int) 0,PD.fnAt [(88,[.ref .chart c 0])] 0]),(75,[.ref .int (c.vars.length:Int) 0,PD.fnAt [(90,[.ref .chart c 0])] 0]),(75,[.ref .int (c.states.length:Int) 0,PD.fnAt [(92,[.ref .chart c 0])] 0]),(75,[.ref .int (c.trans.length:Int) 0,PD.fnAt [(94,[.ref .chart c 0,.ref .strs real 0])] 0])]):Int)),(68,.i (3))],ck:=[] }):=by
 refine jg eP Tryz.func33 (let x1:List (Nat×List PD):=[(79,[.ref .chart c 0]),(81,[PD.fnAt [(77,[.ref .chart c 0,.ref .strs vs 0,.ref .strs ss 0])] 0]),(84,[.ref .chart c 0,.ref .strs vs 0,.ref .strs ss 0]),(86,[.ref .chart c 0]),(75,[.ref .int (c.states.length:Int) 0,PD.fnAt [(88,[.ref .chart c 0])] 0]),(75,[.ref .int (c.vars.length:Int) 0,PD.fnAt [(90,[.ref .chart c 0])] 0]),(75,[.ref .int (c.states.length:Int) 0,PD.fnAt [(92,[.ref .chart c 0])] 0]),(75,[.ref .int (c.trans.length:Int) 0,PD.fnAt [(94,[.ref .chart c 0,.ref .strs real 0])] 0])]; .ite true (.need ((0:Int)≤3∧(3:Int)<(↑(List.length x1):Int)) (.need (c.states.length≤maxLen) (.ite (bT (bZ c.states) (9:Int) != 0) (.ret (.i (bT (bZ c.states) (9:Int))) []) (.stop zTq1 { n:=78,fr:=[(2,.i 0),(66,.p (PD.fns x1)),(67,.i (↑(List.length x1):Int)),(68,.i (IntKind.wrap .i64 ((3:Int)+1)))],ck:=[] })))) (.ret (.i 0) [])) ?_
 conv=>zeta
 refine ⟨fun _=>⟨by show (0:Int)≤3∧(3:Int)<((8:Nat):Int); decide,h.le h.st,fun hb=>?_,fun hb=>?_⟩,fun hb=>Bool.noConfusion hb⟩
 · unfold q3E; rw [fW hb]; exact ⟨rfl,rfl⟩
 · unfold q3E; rw [gA hb,lA (by omega)]
   exact Mv c vs ss real Γ h
theorem MF (h:Small c vs ss):zJ33Tq Γ (Eq2 (.x (.i (q2E c vs ss real))) []) zTq1 ({ n:=78,fr:=[(2,.i 0),(66,.p (PD.fns [(79,[.ref .chart c 0]),(81,[PD.fnAt [(77,[.ref .chart c 0,.ref .strs vs 0,.ref .strs ss 0])] 0]),(84,[.ref .chart c 0,.ref .strs vs 0,.ref .strs ss 0]),(86,[.ref .chart c 0]),(75,[.ref .int (c.states.length:Int) 0,PD.fnAt [(88,[.ref .chart c 0])] 0]),(75,[.ref .int (c.vars.length:Int) 0,PD.fnAt [(90,[.ref .chart c 0])] 0]),(75,[.ref .int (c.states.length:Int) 0,PD.fnAt [(92,[.ref .chart c 0])] 0]),(75,[.ref .int (c.trans.length:Int) 0,PD.fnAt [(94,[.ref .chart c 0,.ref .strs real 0])] 0])])),(67,.i (↑(List.length [(79,[.ref .chart c 0]),(81,[PD.fnAt [(77,[.ref .chart c 0,.ref .strs vs 0,.ref .strs ss 0])] 0]),(84,[.ref .chart c 0,.ref .strs vs 0,.ref .strs ss 0]),(86,[.ref .chart c 0]),(75,[.ref .int (c.states.length:Int) 0,PD.fnAt [(88,[.ref .chart c 0])] 0]),(75,[.ref .int (c.vars.length:Int) 0,PD.fnAt [(90,[.ref .chart c 0])] 0]),(75,[.ref .int (c.states.length:Int) 0,PD.fnAt [(92,[.ref .chart c 0])] 0]),(75,[.ref .int (c.trans.length:Int) 0,PD.fnAt [(94,[.ref .chart c 0,.ref .strs real 0])] 0])]):Int)),(68,.i (2))],ck:=[] }):=by
 refine jg eP Tryz.func33 (let x1:List (Nat×List PD):=[(79,[.ref .chart c 0]),(81,[PD.fnAt [(77,[.ref .chart c 0,.ref .strs vs 0,.ref .strs ss 0])] 0]),(84,[.ref .chart c 0,.ref .strs vs 0,.ref .strs ss 0]),(86,[.ref .chart c 0]),(75,[.ref .int (c.states.length:Int) 0,PD.fnAt [(88,[.ref .chart c 0])] 0]),(75,[.ref .int (c.vars.length:Int) 0,PD.fnAt [(90,[.ref .chart c 0])] 0]),(75,[.ref .int (c.states.length:Int) 0,PD.fnAt [(92,[.ref .chart c 0])] 0]),(75,[.ref .int (c.trans.length:Int) 0,PD.fnAt [(94,[.ref .chart c 0,.ref .strs real 0])] 0])]; .ite true (.need ((0:Int)≤2∧(2:Int)<(↑(List.length x1):Int)) (.need (c.events.length≤1000000∧vs.length≤1000000∧ss.length≤1000000) (.ite (bT (iV c vs ss) (3:Int) != 0) (.ret (.i (bT (iV c vs ss) (3:Int))) []) (.stop zTq1 { n:=78,fr:=[(2,.i 0),(66,.p (PD.fns x1)),(67,.i (↑(List.length x1):Int)),(68,.i (IntKind.wrap .i64 ((2:Int)+1)))],ck:=[] })))) (.ret (.i 0) [])) ?_
 conv=>zeta
 refine ⟨fun _=>⟨by show (0:Int)≤2∧(2:Int)<((8:Nat):Int); decide,⟨av h.ev (by decide),av h.vs (by decide),av h.ss (by decide)⟩,fun hb=>?_,fun hb=>?_⟩,fun hb=>Bool.noConfusion hb⟩
 · unfold q2E; rw [fW hb]; exact ⟨rfl,rfl⟩
 · unfold q2E; rw [gA hb,lA (by omega)]
   exact MA c vs ss real Γ h
theorem Mu (h:Small c vs ss):zJ33Tq Γ (Eq2 (.x (.i (q1E c vs ss real))) []) zTq1 ({ n:=78,fr:=[(2,.i 0),(66,.p (PD.fns [(79,[.ref .chart c 0]),(81,[PD.fnAt [(77,[.ref .chart c 0,.ref .strs vs 0,.ref .strs ss 0])] 0]),(84,[.ref .chart c 0,.ref .strs vs 0,.ref .strs ss 0]),(86,[.ref .chart c 0]),(75,[.ref .int (c.states.length:Int) 0,PD.fnAt [(88,[.ref .chart c 0])] 0]),(75,[.ref .int (c.vars.length:Int) 0,PD.fnAt [(90,[.ref .chart c 0])] 0]),(75,[.ref .int (c.states.length:Int) 0,PD.fnAt [(92,[.ref .chart c 0])] 0]),(75,[.ref .int (c.trans.length:Int) 0,PD.fnAt [(94,[.ref .chart c 0,.ref .strs real 0])] 0])])),(67,.i (↑(List.length [(79,[.ref .chart c 0]),(81,[PD.fnAt [(77,[.ref .chart c 0,.ref .strs vs 0,.ref .strs ss 0])] 0]),(84,[.ref .chart c 0,.ref .strs vs 0,.ref .strs ss 0]),(86,[.ref .chart c 0]),(75,[.ref .int (c.states.length:Int) 0,PD.fnAt [(88,[.ref .chart c 0])] 0]),(75,[.ref .int (c.vars.length:Int) 0,PD.fnAt [(90,[.ref .chart c 0])] 0]),(75,[.ref .int (c.states.length:Int) 0,PD.fnAt [(92,[.ref .chart c 0])] 0]),(75,[.ref .int (c.trans.length:Int) 0,PD.fnAt [(94,[.ref .chart c 0,.ref .strs real 0])] 0])]):Int)),(68,.i (1))],ck:=[] }):=by
 refine jg eP Tryz.func33 (let x1:List (Nat×List PD):=[(79,[.ref .chart c 0]),(81,[PD.fnAt [(77,[.ref .chart c 0,.ref .strs vs 0,.ref .strs ss 0])] 0]),(84,[.ref .chart c 0,.ref .strs vs 0,.ref .strs ss 0]),(86,[.ref .chart c 0]),(75,[.ref .int (c.states.length:Int) 0,PD.fnAt [(88,[.ref .chart c 0])] 0]),(75,[.ref .int (c.vars.length:Int) 0,PD.fnAt [(90,[.ref .chart c 0])] 0]),(75,[.ref .int (c.states.length:Int) 0,PD.fnAt [(92,[.ref .chart c 0])] 0]),(75,[.ref .int (c.trans.length:Int) 0,PD.fnAt [(94,[.ref .chart c 0,.ref .strs real 0])] 0])]; .ite true (.need ((0:Int)≤1∧(1:Int)<(↑(List.length x1):Int)) (.need ((fF c vs ss).length≤1000000) (.ite (bT (!List.any (fF c vs ss) fun s=>!aZ s) (2:Int) != 0) (.ret (.i (bT (!List.any (fF c vs ss) fun s=>!aZ s) (2:Int))) []) (.stop zTq1 { n:=78,fr:=[(2,.i 0),(66,.p (PD.fns x1)),(67,.i (↑(List.length x1):Int)),(68,.i (IntKind.wrap .i64 ((1:Int)+1)))],ck:=[] })))) (.ret (.i 0) [])) ?_
 conv=>zeta
 refine ⟨fun _=>⟨by show (0:Int)≤1∧(1:Int)<((8:Nat):Int); decide,h.all,fun hb=>?_,fun hb=>?_⟩,fun hb=>Bool.noConfusion hb⟩
 · unfold q1E; rw [fW hb]; exact ⟨rfl,rfl⟩
 · unfold q1E; rw [gA hb,lA (by omega)]
   exact MF c vs ss real Γ h
theorem Ie {c:Chart} {vs ss:List Str} (hb:(bT (gW c) 4 != 0)=false) (hv:vs.length=c.vars.length) (hs:ss.length=c.states.length):Small c vs ss:=by
 have h:gW c=true:=by
  cases hl:gW c
  · rw [hl] at hb; exact absurd hb (by decide)
  · rfl
 unfold gW at h
 simp only [af,decide_eq_true_eq] at h
 exact ⟨by omega,by omega,by omega,by omega,by omega,by omega⟩
theorem Mr (hv:vs.length=c.vars.length) (hs:ss.length=c.states.length):zJ33Tq Γ (Eq2 (.x (.i (q0E c vs ss real))) []) zTq1 ({ n:=78,fr:=[(2,.i 0),(66,.p (PD.fns [(79,[.ref .chart c 0]),(81,[PD.fnAt [(77,[.ref .chart c 0,.ref .strs vs 0,.ref .strs ss 0])] 0]),(84,[.ref .chart c 0,.ref .strs vs 0,.ref .strs ss 0]),(86,[.ref .chart c 0]),(75,[.ref .int (c.states.length:Int) 0,PD.fnAt [(88,[.ref .chart c 0])] 0]),(75,[.ref .int (c.vars.length:Int) 0,PD.fnAt [(90,[.ref .chart c 0])] 0]),(75,[.ref .int (c.states.length:Int) 0,PD.fnAt [(92,[.ref .chart c 0])] 0]),(75,[.ref .int (c.trans.length:Int) 0,PD.fnAt [(94,[.ref .chart c 0,.ref .strs real 0])] 0])])),(67,.i (↑(List.length [(79,[.ref .chart c 0]),(81,[PD.fnAt [(77,[.ref .chart c 0,.ref .strs vs 0,.ref .strs ss 0])] 0]),(84,[.ref .chart c 0,.ref .strs vs 0,.ref .strs ss 0]),(86,[.ref .chart c 0]),(75,[.ref .int (c.states.length:Int) 0,PD.fnAt [(88,[.ref .chart c 0])] 0]),(75,[.ref .int (c.vars.length:Int) 0,PD.fnAt [(90,[.ref .chart c 0])] 0]),(75,[.ref .int (c.states.length:Int) 0,PD.fnAt [(92,[.ref .chart c 0])] 0]),(75,[.ref .int (c.trans.length:Int) 0,PD.fnAt [(94,[.ref .chart c 0,.ref .strs real 0])] 0])]):Int)),(68,.i (0))],ck:=[] }):=by
 refine jg eP Tryz.func33 (let x1:List (Nat×List PD):=[(79,[.ref .chart c 0]),(81,[PD.fnAt [(77,[.ref .chart c 0,.ref .strs vs 0,.ref .strs ss 0])] 0]),(84,[.ref .chart c 0,.ref .strs vs 0,.ref .strs ss 0]),(86,[.ref .chart c 0]),(75,[.ref .int (c.states.length:Int) 0,PD.fnAt [(88,[.ref .chart c 0])] 0]),(75,[.ref .int (c.vars.length:Int) 0,PD.fnAt [(90,[.ref .chart c 0])] 0]),(75,[.ref .int (c.states.length:Int) 0,PD.fnAt [(92,[.ref .chart c 0])] 0]),(75,[.ref .int (c.trans.length:Int) 0,PD.fnAt [(94,[.ref .chart c 0,.ref .strs real 0])] 0])]; .ite true (.need ((0:Int)≤0∧(0:Int)<(↑(List.length x1):Int)) (.ite (bT (gW c) (4:Int) != 0) (.ret (.i (bT (gW c) (4:Int))) []) (.stop zTq1 { n:=78,fr:=[(2,.i 0),(66,.p (PD.fns x1)),(67,.i (↑(List.length x1):Int)),(68,.i (IntKind.wrap .i64 ((0:Int)+1)))],ck:=[] }))) (.ret (.i 0) [])) ?_
 conv=>zeta
 refine ⟨fun _=>⟨by show (0:Int)≤0∧(0:Int)<((8:Nat):Int); decide,fun hb=>?_,fun hb=>?_⟩,fun hb=>Bool.noConfusion hb⟩
 · unfold q0E; rw [fW hb]; exact ⟨rfl,rfl⟩
 · unfold q0E; rw [gA hb,lA (by omega)]
   exact Mu c vs ss real Γ (Ie hb hv hs)
theorem Io (hv:vs.length=c.vars.length) (hs:ss.length=c.states.length):zJ33Tq Γ (Eq2 (.x (.i (q0E c vs ss real))) []) [.code [1,1,1,1,1,1,0],.code [1,1,1,1,1,1,1]] ({ n:=78,fr:=[(1,.p ((.ref .chart c 0))),(2,.i 0),(3,.p ((.ref .strs vs 0))),(4,.p ((.ref .strs ss 0))),(5,.x (.c (.fn (.func 74) [] []))),(6,.p ((.ref .strs real 0))),(9,.p ((.fnAt [(77,[.ref .chart c 0,.ref .strs vs 0,.ref .strs ss 0])] 0)))],ck:=[.dead,.dead,.dead,.dead,.dead,.dead,.dead,.dead] }):=by
 refine jg eP Tryz.func33 (let x1:List (Nat×List PD):=[(79,[.ref .chart c 0]),(81,[PD.fnAt [(77,[.ref .chart c 0,.ref .strs vs 0,.ref .strs ss 0])] 0]),(84,[.ref .chart c 0,.ref .strs vs 0,.ref .strs ss 0]),(86,[.ref .chart c 0]),(75,[.ref .int (c.states.length:Int) 0,PD.fnAt [(88,[.ref .chart c 0])] 0]),(75,[.ref .int (c.vars.length:Int) 0,PD.fnAt [(90,[.ref .chart c 0])] 0]),(75,[.ref .int (c.states.length:Int) 0,PD.fnAt [(92,[.ref .chart c 0])] 0]),(75,[.ref .int (c.trans.length:Int) 0,PD.fnAt [(94,[.ref .chart c 0,.ref .strs real 0])] 0])]; .stop zTq1 { n:=78,fr:=[(2,.i 0),(66,.p (PD.fns x1)),(67,.i (↑(List.length x1):Int)),(68,.i 0)],ck:=[] }) ?_
 conv=>zeta
 exact Mr c vs ss real Γ hv hs
theorem FC {l:List Ev.Stat} {k:Nat} (hk:k<l.length):c6 (l.take (k+1))=if (!aO (ETy.get .stat l k).kind)=true then c6 (l.take k)++[(ETy.get .stat l k).name] else c6 (l.take k):=by
 rw [show ETy.get .stat l k=l[k] from ETy.get_eq (t:=.stat) (List.getElem?_eq_getElem hk)]
 unfold c6
 rw [aU hk,b5,bP]
 cases hp:aO l[k].kind <;> simp [hp]
theorem Jq (k:Nat):(c6 (l.take k)).length≤l.length:=by
 unfold c6
 rw [aN]
 exact av (br _ _) (by rw [bj]; omega)
abbrev zTq2 (a:Chart):Chunk:=.cells [.pd (.str a.name),.pd (.lst .str a.events),.pd (.lst .var a.vars),.pd (.lst .stat a.states),.pd (.lst .tran a.trans)] 27
abbrev zTq3:List PI:=[.code [1,1,1,1,0,1,0,0],.inLoop [1,1,1,1,0,1,0,0],.inBlock 0,.code [1,1,1,1,1]]
theorem EA (hst:c.states.length≤2199023255552):∀ (n k:Nat),c.states.length - k≤n→k≤c.states.length →
 zJ33Tq Γ (Eq2 (.x (.i (bC c))) []) zTq3 ({ n:=78,fr:=[(1,.x (.c (.loc 0 0))),(2,.i 0),(3,.x (.c (.loc 3 0))),(4,.x (.c (.loc 4 0))),(5,.x (.c (.fn (.func 74) [] []))),(6,.x (.c (.loc 5 0))),(20,.p (.lst .stat c.states)),(21,.i c.states.length),(22,.i ((k:Int)))],ck:=[zTq2 c,.own 9 .str (List.map (fun v:Var=>v.name) c.vars),.own 9 .str (List.map (fun s:Ev.Stat=>s.name) c.states),.cells [.own 1] 22,.cells [.own 2] 22,.cells [.own 6] 22,.own 9 .str (c6 (c.states.take k))] }):=by
 intro n
 induction n with
 | zero=>?_
 | succ n ih=>?_
 all_goals
  intro k hn hk
  refine jg eP Tryz.func33 (let x1:List (Nat×SV):=[(1,.x (.c (.loc 0 0))),(2,.i 0),(3,.x (.c (.loc 3 0))),(4,.x (.c (.loc 4 0))),(5,.x (.c (.fn (.func 74) [] []))),(6,.x (.c (.loc 5 0))),(20,.p (.lst .stat c.states)),(21,.i c.states.length),(22,.i (IntKind.wrap .i64 ((k:Int)+1)))]; let x2:List PI:=zTq3; let x4:=(List.take k c.states); let x3:=(c6 x4++[Stat.name (ETy.get .stat c.states k)]); .ite (decide ((k:Int)<(c.states.length:Int))) (.need (inRg k c.states.length) (.ite (!aO (Stat.kind (ETy.get .stat c.states k))) (.need (room (x3.length) 16) (.stop x2 { n:=78,fr:=x1,ck:=[zTq2 c,.own 9 .str (List.map (fun v=>v.name) c.vars),.own 9 .str (List.map (fun s=>s.name) c.states),.cells [.own 1] 22,.cells [.own 2] 22,.cells [.own 6] 22,.own 9 .str x3] })) (.stop x2 { n:=78,fr:=x1,ck:=[zTq2 c,.own 9 .str (List.map (fun v=>v.name) c.vars),.own 9 .str (List.map (fun s=>s.name) c.states),.cells [.own 1] 22,.cells [.own 2] 22,.cells [.own 6] 22,.own 9 .str (c6 x4)] }))) (.stop [.code [1,1,1,1,1,1,0],.code [1,1,1,1,1,1,1]] { n:=78,fr:=[(1,.x (.c (.loc 0 0))),(2,.i 0),(3,.x (.c (.loc 3 0))),(4,.x (.c (.loc 4 0))),(5,.x (.c (.fn (.func 74) [] []))),(6,.x (.c (.loc 5 0))),(9,.x (.c (.loc 7 0)))],ck:=[zTq2 c,.own 9 .str (List.map (fun v=>v.name) c.vars),.own 9 .str (List.map (fun s=>s.name) c.states),.cells [.own 1] 22,.cells [.own 2] 22,.cells [.own 6] 22,.own 9 .str (c6 x4),.cells [.fn (.func 77) [] [.loc 0 0,.loc 3 0,.loc 4 0]] 114] })) ?_
  conv=>zeta
  refine ⟨fun hlt=>?_,fun hge=>?_⟩
  · have hk':k<c.states.length:=by have:=of_decide_eq_true hlt; omega
    have hr:=FC hk'
    have hle:=Jq c.states (k+1)
    refine ⟨by omega,fun hb=>?_,fun hb=>?_⟩
    · rw [if_pos (by exact hb)] at hr
      rw [← hr]
      refine ⟨np _ (by omega),?_⟩
      rw [aX (aE hk' (av hst (by decide)))]
      first | (exfalso; omega) | exact ih (k+1) (by omega) (by omega)
    · rw [if_neg (by rw [show _=false from hb]; decide)] at hr
      rw [← hr]
      rw [aX (aE hk' (av hst (by decide)))]
      first | (exfalso; omega) | exact ih (k+1) (by omega) (by omega)
  · have hke:k=c.states.length:=by have:=of_decide_eq_false hge; omega
    subst hke
    rw [aW (aq _)]
    exact J.freeze aY [1,2,6,0,3,4,5,7] (by kernel_rfl) (Io c _ _ _ Γ (aN _) (aN _))
theorem B5 (h:c.vars.length≤2199023255552∧c.states.length≤2199023255552):ah Tryz.prog 33 [.e .chart c] [] (.x (.i (bC c))) []:=by
 refine dg eP Tryz.func33 (.need (c.vars.length≤2199023255552∧c.states.length≤2199023255552) (.stop zTq3 { n:=78,fr:=[(1,.x (.c (.loc 0 0))),(2,.i 0),(3,.x (.c (.loc 3 0))),(4,.x (.c (.loc 4 0))),(5,.x (.c (.fn (.func 74) [] []))),(6,.x (.c (.loc 5 0))),(20,.p (.lst .stat c.states)),(21,.i c.states.length),(22,.i 0)],ck:=[zTq2 c,.own 9 .str (List.map (fun v=>v.name) c.vars),.own 9 .str (List.map (fun s=>s.name) c.states),.cells [.own 1] 22,.cells [.own 2] 22,.cells [.pd (.v (Value.slice none 0 0))] 22] })) fun Γ=>?_
 refine ⟨h,?_⟩
 refine J.nilCk 5 0 9 .str rfl rfl (by kernel_rfl) ?_
 exact EA c Γ h.2 c.states.length 0 (by omega) (by omega)
def n7:Ent:=(33,fun
 | [.agg [.pd (.str a),.pd (.lst .str b),.pd (.lst .var c),.pd (.lst .stat d),.pd (.lst .tran e)]],[]=>some (some (c.length≤2199023255552∧d.length≤2199023255552),.x (.c (.pd (.int .i64 (bC ⟨a,b,c,d,e⟩)))),[])
 | _,_=>none)
theorem tA:EntOk Tryz.prog n7:=entOk fun vs ck=>by
 unfold n7; dsimp only; split
 · rename_i a b c d e; exact entS fun hp=>B5 ⟨a,b,c,d,e⟩ hp
 · exact entN
end Go.Proofs.YtgfifkhbfdacjaaGreatDoor

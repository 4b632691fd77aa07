/- Contracts: charts held against each other by the document. Conditions: sizes. -/
import Derived.Test.YtpfidgnkokidoaaGreatDoorYd
namespace Go.Proofs.YtpfidgnkokidoaaGreatDoor
open Go Go.Ev
set_option maxRecDepth 100000
abbrev zYe2:List PI:=[.code [1,1,0,1,0,0],.inLoop [1,1,0,1,0,0],.inBlock 0,.code [1,1,1]]
theorem Kv (a b:List Str) (Γ:Ctx) (hl:a.length≤maxLen) (hab:a.length=b.length)  : ∀ (n k:Nat),a.length - k≤n→k≤a.length →
 J Tryz.prog 23 (aH Tryz.f23) Γ (Eq2 (.x (.b (dv (a.drop k) (b.drop k)))) []) zYe2 ({ n:=26,fr:=[(0,.p (.lst .str a)),(1,.p (.lst .str b)),(4,.p (.bool false)),(5,.i k)],ck:=[],kn:=[4] }):=by
 intro n
 induction n with
 | zero=>?_
 | succ n ih=>?_
 all_goals
  intro k hn hk
  refine jg bH Tryz.func23 (.ite (decide ((k:Int)<(a.length:Int))) (.need (inRg k a.length) (.need (inRg k b.length) (.ite (!ETy.get .str a k==ETy.get .str b k) (.ret (.p (.bool false)) []) (.stop zYe2 { n:=26,fr:=[(0,.p (.lst .str a)),(1,.p (.lst .str b)),(4,.p (.bool false)),(5,.i (IntKind.wrap .i64 ((k:Int)+1)))],ck:=[] })))) (.ret (.p (.bool true)) [])) ?_
  refine ⟨fun hlt=>?_,fun hge=>?_⟩
  · have hk':k<a.length:=by have:=of_decide_eq_true hlt; omega
    rw [bY (t:=.str) (l:=a) hk',bY (t:=.str) (l:=b) (by omega)]
    refine ⟨by omega,by omega,?_⟩
    generalize ETy.get .str a k=x
    generalize ETy.get .str b k=y
    refine ⟨fun h=>?_,fun h=>?_⟩
    · have h':(x==y)=false:=nt h
      rw [dv,h',cl]; exact ⟨rfl,rfl⟩
    · have h':(x==y)=true:=nf h
      rw [dv,h',bT,dY (gL hk' hl)]
      first
      | (exfalso; omega)
      | exact J.kn [4] (ih (k+1) (by omega) (by omega))
  · have hk2:k=a.length:=by have:=of_decide_eq_false hge; omega
    have e:a.drop k=[]:=b9 (by omega)
    have e2:b.drop k=[]:=b9 (by omega)
    rw [e,e2]; exact ⟨rfl,rfl⟩
theorem Ki (a b:List Str)  : ak Tryz.prog 23 [.l .str (a),.l .str (b)] [] (.x (.b (dv a b))) []:=by
 refine dg bH Tryz.func23 (.ite ((a.length:Int) != (b.length:Int)) (.ret (.p (.bool false)) []) (.stop zYe2 { n:=26,fr:=[(0,.p (.lst .str a)),(1,.p (.lst .str b)),(4,.p (.bool false)),(5,.i 0)],ck:=[],kn:=[4] })) fun Γ=>?_
 refine ⟨fun h=>?_,fun h=>?_⟩
 · rw [mA a b (by have:(a.length:Int)≠b.length:=(by simpa using h); omega)]; exact ⟨rfl,rfl⟩
 · have hab:a.length=b.length:=by
    have:(a.length:Int)=b.length:=by simpa using h
    omega
   exact J.len 0 rfl fun hl=>Kv a b Γ hl hab  a.length 0 (by omega) (br _)
def FM:Ent:=(23,fun
 | [.c (.pd (.lst .str a)),.c (.pd (.lst .str b))],[]=>some (none,.x (.c (.pd (.bool (dv a b)))),[])
 | _,_=>none)
theorem Mh:EntOk Tryz.prog FM:=entOk fun vs ck=>by
 unfold FM; dsimp only; split
 · rename_i a b; exact entS fun hp=>Ki a b
 · exact entN
structure SmallC (c:Chart):Prop where
 events:c.events.length≤2000000
 vars:c.vars.length≤1000000
 states:c.states.length≤1000000
 trans:c.trans.length≤1000000
 stat:∀ s∈c.states,(∀ d∈s.entry,d.expr.length≤1000000)∧∀ d∈s.leave,d.expr.length≤1000000
 tran:∀ t∈c.trans,t.guard.length≤1000000∧∀ d∈t.acts,d.expr.length≤1000000
def ry:Cfg:=⟨bu,[FM,vq,uL]⟩
theorem mW:ai Tryz.prog ry.tab:=(ai.cons Mh (ai.cons BT (ai.cons Gk ai.nil)))
variable (a b:Chart) (Γ:Ctx)
abbrev zYe1:Chunk:=.cells [.pd (.str a.name),.pd (.lst .str a.events),.pd (.lst .var a.vars),.pd (.lst .stat a.states),.pd (.lst .tran a.trans)] 27
abbrev zYe3:List PI:=[.code [1,1,1,1,0,1,0,0],.inLoop [1,1,1,1,0,1,0,0],.inBlock 4,.code [1,1,1,1,1]]
theorem IY (hs:SmallC a) (hab:a.trans.length=b.trans.length):∀ (n k:Nat),a.trans.length - k≤n→k≤a.trans.length →
 J Tryz.prog 11 (aH Tryz.f11) Γ (Eq2 (.x (.b (cW (a.trans.drop k) (b.trans.drop k)))) []) zYe3 ({ n:=181,fr:=[(2,.x (.c (.loc 0 0))),(3,.x (.c (.loc 1 0))),(4,.p (.bool false)),(9,.i k)],ck:=[zYe1 a,zYe1 b],kn:=[4] }):=by
 intro n
 induction n with
 | zero=>?_
 | succ n ih=>?_
 all_goals
  intro k hn hk
  refine jg mW Tryz.func11 (let x1:=(ETy.get .tran a.trans k); let x2:=(ETy.get .tran b.trans k); .ite (decide ((k:Int)<(a.trans.length:Int))) (.need (inRg k a.trans.length) (.need (inRg k b.trans.length) (.need ((Tran.src x1 != Tran.src x2 || !Tran.event x1==Tran.event x2 || !Tran.dst x1==Tran.dst x2)=false→(Tran.guard x1).length≤1000000) (.need ((Tran.src x1 != Tran.src x2 || !Tran.event x1==Tran.event x2 || !Tran.dst x1==Tran.dst x2 || !dA (Tran.guard x1) (Tran.guard x2))=false→∀ (d:ETy.den .deed),d∈Tran.acts x1→d.expr.length≤1000000) (.ite (Tran.src x1 != Tran.src x2 || !Tran.event x1==Tran.event x2 || !Tran.dst x1==Tran.dst x2 || !dA (Tran.guard x1) (Tran.guard x2) || !bO (Tran.acts x1) (Tran.acts x2)) (.ret (.p (.bool false)) []) (.stop zYe3 { n:=181,fr:=[(2,.x (.c (.loc 0 0))),(3,.x (.c (.loc 1 0))),(4,.p (.bool false)),(9,.i (IntKind.wrap .i64 ((k:Int)+1)))],ck:=[zYe1 a,zYe1 b],kn:=[4] })))))) (.ret (.p (.bool true)) [])) ?_
  conv=>zeta
  refine ⟨fun hlt=>?_,fun hge=>?_⟩
  · have hk':k<a.trans.length:=by have:=of_decide_eq_true hlt; omega
    have hx:=hs.tran _ (List.mem_of_getElem? (ETy.getElem?_get (t:=.tran) hk'))
    rw [bY (t:=.tran) (l:=a.trans) hk',bY (t:=.tran) (l:=b.trans) (by omega)]
    refine ⟨by omega,by omega,fun _=>hx.1,fun _=>hx.2,?_⟩
    generalize ETy.get .tran a.trans k=x
    generalize ETy.get .tran b.trans k=y
    have e:ig x y = !(x.src != y.src || !(x.event==y.event) || !(x.dst==y.dst) || !dA x.guard y.guard || !bO x.acts y.acts):=by
     simp only [ig,bne,Bool.not_or,Bool.not_not,dj]
     cases x.src==y.src <;> cases x.event==y.event <;> cases x.dst==y.dst <;> cases dA x.guard y.guard <;> rfl
    refine ⟨fun hb=>?_,fun hb=>?_⟩
    · rw [cW,e,hb]; exact ⟨rfl,rfl⟩
    · rw [cW,e,hb,Bool.not_false,bT,dY (by have:=hs.trans; omega)]
      first
      | (exfalso; omega)
      | exact ih (k+1) (by omega) (by omega)
  · have hk2:k=a.trans.length:=by have:=of_decide_eq_false hge; omega
    have e:a.trans.drop k=[]:=b9 (by omega)
    have e2:b.trans.drop k=[]:=b9 (by omega)
    rw [e,e2]; exact ⟨rfl,rfl⟩
abbrev zYe4:List PI:=[.code [1,1,1,0,1,0,0],.inLoop [1,1,1,0,1,0,0],.inBlock 2,.code [1,1,1,1]]
theorem IN (hs:SmallC a) (hab:a.states.length=b.states.length) (hab2:a.trans.length=b.trans.length):∀ (n k:Nat),a.states.length - k≤n→k≤a.states.length →
 J Tryz.prog 11 (aH Tryz.f11) Γ (Eq2 (.x (.b (dh (a.states.drop k) (b.states.drop k)&&cW a.trans b.trans))) []) zYe4 ({ n:=181,fr:=[(2,.x (.c (.loc 0 0))),(3,.x (.c (.loc 1 0))),(4,.p (.bool false)),(6,.i k)],ck:=[zYe1 a,zYe1 b],kn:=[4] }):=by
 intro n
 induction n with
 | zero=>?_
 | succ n ih=>?_
 all_goals
  intro k hn hk
  refine jg mW Tryz.func11 (let x1:=(ETy.get .stat a.states k); let x2:=(ETy.get .stat b.states k); let x3:List Chunk:=[zYe1 a,zYe1 b]; .ite (decide ((k:Int)<(a.states.length:Int))) (.need (inRg k a.states.length) (.need (inRg k b.states.length) (.need ((!Stat.name x1==Stat.name x2||Stat.kind x1 != Stat.kind x2||Stat.depth x1 != Stat.depth x2 || !Stat.initial x1==Stat.initial x2)=false→∀ (d:ETy.den .deed),d∈Stat.entry x1→d.expr.length≤1000000) (.need ((!Stat.name x1==Stat.name x2||Stat.kind x1 != Stat.kind x2||Stat.depth x1 != Stat.depth x2 || !Stat.initial x1==Stat.initial x2 || !bO (Stat.entry x1) (Stat.entry x2))=false→∀ (d:ETy.den .deed),d∈Stat.leave x1→d.expr.length≤1000000) (.ite (!Stat.name x1==Stat.name x2||Stat.kind x1 != Stat.kind x2||Stat.depth x1 != Stat.depth x2 || !Stat.initial x1==Stat.initial x2 || !bO (Stat.entry x1) (Stat.entry x2) || !bO (Stat.leave x1) (Stat.leave x2)) (.ret (.p (.bool false)) []) (.stop zYe4 { n:=181,fr:=[(2,.x (.c (.loc 0 0))),(3,.x (.c (.loc 1 0))),(4,.p (.bool false)),(6,.i (IntKind.wrap .i64 ((k:Int)+1)))],ck:=x3,kn:=[4] })))))) (.stop zYe3 { n:=181,fr:=[(2,.x (.c (.loc 0 0))),(3,.x (.c (.loc 1 0))),(4,.p (.bool false)),(9,.i 0)],ck:=x3,kn:=[4] })) ?_
  conv=>zeta
  refine ⟨fun hlt=>?_,fun hge=>?_⟩
  · have hk':k<a.states.length:=by have:=of_decide_eq_true hlt; omega
    have hx:=hs.stat _ (List.mem_of_getElem? (ETy.getElem?_get (t:=.stat) hk'))
    rw [bY (t:=.stat) (l:=a.states) hk',bY (t:=.stat) (l:=b.states) (by omega)]
    refine ⟨by omega,by omega,fun _=>hx.1,fun _=>hx.2,?_⟩
    generalize ETy.get .stat a.states k=x
    generalize ETy.get .stat b.states k=y
    have e:ij x y = !(!(x.name==y.name)||x.kind != y.kind||x.depth != y.depth || !(x.initial==y.initial) || !bO x.entry y.entry || !bO x.leave y.leave):=by
     simp only [ij,bne,Bool.not_or,Bool.not_not,dj]
    refine ⟨fun hb=>?_,fun hb=>?_⟩
    · rw [dh,e,hb]; exact ⟨rfl,rfl⟩
    · rw [dh,e,hb,Bool.not_false,bT,dY (by have:=hs.states; omega)]
      first
      | (exfalso; omega)
      | exact ih (k+1) (by omega) (by omega)
  · have hk2:k=a.states.length:=by have:=of_decide_eq_false hge; omega
    have e:a.states.drop k=[]:=b9 (by omega)
    have e2:b.states.drop k=[]:=b9 (by omega)
    rw [e,e2]
    exact IY a b Γ hs hab2 a.trans.length 0 (by omega) (by omega)
theorem JC (hs:SmallC a) (hv:a.vars.length=b.vars.length) (hab:a.states.length=b.states.length) (hab2:a.trans.length=b.trans.length):∀ (n k:Nat),a.vars.length - k≤n→k≤a.vars.length →
 J Tryz.prog 11 (aH Tryz.f11) Γ (Eq2 (.x (.b (dQ (a.vars.drop k) (b.vars.drop k)&&(dh a.states b.states&&cW a.trans b.trans)))) []) zYe2 ({ n:=181,fr:=[(2,.x (.c (.loc 0 0))),(3,.x (.c (.loc 1 0))),(4,.p (.bool false)),(5,.i k)],ck:=[zYe1 a,zYe1 b],kn:=[4] }):=by
 intro n
 induction n with
 | zero=>?_
 | succ n ih=>?_
 all_goals
  intro k hn hk
  refine jg mW Tryz.func11 (let x1:List Chunk:=[zYe1 a,zYe1 b]; let x2:=(ETy.get .var a.vars k); let x3:=(ETy.get .var b.vars k); .ite (decide ((k:Int)<(a.vars.length:Int))) (.need (inRg k a.vars.length) (.need (inRg k b.vars.length) (.ite (!(Var.name x2==Var.name x3&&(Var.kind x2==Var.kind x3&&(Var.lo x2==Var.lo x3&&(Var.hi x2==Var.hi x3&&(Val.kind (Var.init x2)==Val.kind (Var.init x3)&&(Val.a (Var.init x2)==Val.a (Var.init x3)&&Val.b (Var.init x2)==Val.b (Var.init x3)))))))) (.ret (.p (.bool false)) []) (.stop zYe2 { n:=181,fr:=[(2,.x (.c (.loc 0 0))),(3,.x (.c (.loc 1 0))),(4,.p (.bool false)),(5,.i (IntKind.wrap .i64 ((k:Int)+1)))],ck:=x1 })))) (.stop zYe4 { n:=181,fr:=[(2,.x (.c (.loc 0 0))),(3,.x (.c (.loc 1 0))),(4,.p (.bool false)),(6,.i 0)],ck:=x1,kn:=[4] })) ?_
  conv=>zeta
  refine ⟨fun hlt=>?_,fun hge=>?_⟩
  · have hk':k<a.vars.length:=by have:=of_decide_eq_true hlt; omega
    rw [bY (t:=.var) (l:=a.vars) hk',bY (t:=.var) (l:=b.vars) (by omega)]
    refine ⟨by omega,by omega,?_⟩
    generalize ETy.get .var a.vars k=x
    generalize ETy.get .var b.vars k=y
    refine ⟨fun hb=>?_,fun hb=>?_⟩
    · have h':l9 x y=false:=nt hb
      rw [dQ,h']; exact ⟨rfl,rfl⟩
    · have h':l9 x y=true:=nf hb
      rw [dQ,h',bT,dY (by have:=hs.vars; omega)]
      first
      | (exfalso; omega)
      | exact J.kn [4] (ih (k+1) (by omega) (by omega))
  · have hk2:k=a.vars.length:=by have:=of_decide_eq_false hge; omega
    have e:a.vars.drop k=[]:=b9 (by omega)
    have e2:b.vars.drop k=[]:=b9 (by omega)
    rw [e,e2]
    exact IN a b Γ hs hab hab2 a.states.length 0 (by omega) (by omega)
theorem uX (hs:SmallC a):ak Tryz.prog 11 [.e .chart a,.e .chart b] [] (.x (.b (eR a b))) []:=by
 refine dg mW Tryz.func11 (.ite (!a.name==b.name || !dv a.events b.events||(a.vars.length:Int) != (b.vars.length:Int)||(a.states.length:Int) != (b.states.length:Int)||(a.trans.length:Int) != (b.trans.length:Int)) (.ret (.p (.bool false)) []) (.stop zYe2 { n:=181,fr:=[(2,.x (.c (.loc 0 0))),(3,.x (.c (.loc 1 0))),(4,.p (.bool false)),(5,.i 0)],ck:=[zYe1 a,zYe1 b],kn:=[4] })) fun Γ=>?_
 refine ⟨fun h=>?_,fun h=>?_⟩
 · have:eR a b=false:=by
    simp only [aF,bne_iff_ne,aC,ne_eq,Int.natCast_inj] at h
    unfold eR
    rcases h with (((h | h) | h) | h) | h
    · rw [h]; rfl
    · rw [h,cl,bA]
    · rw [mL _ _ h,cl,bA,bA]
    · rw [lF _ _ h,cl,bA,bA,bA]
    · rw [lC _ _ h,bA,bA,bA,bA]
   rw [this]; exact ⟨rfl,rfl⟩
 · simp only [aI,bne_eq_false_iff_eq,cG,Int.natCast_inj] at h
   obtain ⟨⟨⟨⟨h1,h2⟩,h3⟩,h4⟩,h5⟩:=h
   have:eR a b=(dQ (a.vars.drop 0) (b.vars.drop 0)&&(dh a.states b.states&&cW a.trans b.trans)):=by
    unfold eR; rw [h1,h2]; simp
   rw [this]
   exact JC a b Γ hs h3 h4 h5 a.vars.length 0 (by omega) (by omega)
def ql:Ent:=(11,fun
 | [.agg [.pd (.str a),.pd (.lst .str b),.pd (.lst .var c),.pd (.lst .stat d),.pd (.lst .tran e)],.agg [.pd (.str f),.pd (.lst .str g),.pd (.lst .var h),.pd (.lst .stat i),.pd (.lst .tran j)]],[]=>some (some (SmallC ⟨a,b,c,d,e⟩),.x (.c (.pd (.bool (eR ⟨a,b,c,d,e⟩ ⟨f,g,h,i,j⟩)))),[])
 | _,_=>none)
theorem xz:EntOk Tryz.prog ql:=entOk fun vs ck=>by
 unfold ql; dsimp only; split
 · rename_i a b c d e f g h i j; exact entS fun hp=>uX ⟨a,b,c,d,e⟩ ⟨f,g,h,i,j⟩ hp
 · exact entN
/-! ### alike: the same -/
theorem oQ:∀ a b:List Cell,dA a b=true↔a=b
 | [],[]=>by simp [dA]
 | [],_::_=>by simp [dA]
 | _::_,[]=>by simp [dA]
 | ⟨x1,x2,x3⟩::r,⟨y1,y2,y3⟩::q=>by simp [dA,oQ r q,and_assoc]
theorem lu:∀ a b:List Deed,bO a b=true↔a=b
 | [],[]=>by simp [bO]
 | [],_::_=>by simp [bO]
 | _::_,[]=>by simp [bO]
 | ⟨x1,x2,x3⟩::r,⟨y1,y2,y3⟩::q=>by simp [bO,hZ,oQ,lu r q,and_assoc]
theorem qQ:∀ a b:List Str,dv a b=true↔a=b
 | [],[]=>by simp [dv]
 | [],_::_=>by simp [dv]
 | _::_,[]=>by simp [dv]
 | x::r,y::q=>by simp [dv,qQ r q]
theorem qz:∀ a b:List Var,dQ a b=true↔a=b
 | [],[]=>by simp [dQ]
 | [],_::_=>by simp [dQ]
 | _::_,[]=>by simp [dQ]
 | ⟨x1,x2,x3,x4,x5,x6,x7⟩::r,⟨y1,y2,y3,y4,y5,y6,y7⟩::q=>by simp [dQ,l9,qz r q,and_assoc]
theorem pQ:∀ a b:List Ev.Stat,dh a b=true↔a=b
 | [],[]=>by simp [dh]
 | [],_::_=>by simp [dh]
 | _::_,[]=>by simp [dh]
 | ⟨x1,x2,x3,x4,x5,x6⟩::r,⟨y1,y2,y3,y4,y5,y6⟩::q=>by simp [dh,ij,lu,pQ r q,and_assoc]
theorem pU:∀ a b:List Tran,cW a b=true↔a=b
 | [],[]=>by simp [cW]
 | [],_::_=>by simp [cW]
 | _::_,[]=>by simp [cW]
 | ⟨x1,x2,x3,x4,x5⟩::r,⟨y1,y2,y3,y4,y5⟩::q=>by simp [cW,ig,lu,oQ,pU r q,and_assoc]
theorem xm:eR a b=true↔a=b:=by
 obtain ⟨x1,x2,x3,x4,x5⟩:=a
 obtain ⟨y1,y2,y3,y4,y5⟩:=b
 simp [eR,qQ,qz,pQ,pU]
theorem uQ:eR a a=true:=(xm a a).2 rfl
end Go.Proofs.YtpfidgnkokidoaaGreatDoor

/- Contracts: charts held against each other by the document. Conditions: sizes. -/
import Derived.Test.YtpfidgnkokidoaaGreatDoorYd
namespace Go.Proofs.YtpfidgnkokidoaaGreatDoor
open Go Go.Ev
set_option maxRecDepth 100000
abbrev zYe2:List PI:=[.code [1,1,0,1,0,0],.inLoop [1,1,0,1,0,0],.inBlock 0,.code [1,1,1]]
theorem Jk (a b:List Str) (Γ:Ctx) (hl:a.length≤maxLen) (hab:a.length=b.length)  : ∀ (n k:Nat),a.length - k≤n→k≤a.length →
 J Tryz.prog 23 (aI Tryz.f23) Γ (Eq2 (.x (.b (du (a.drop k) (b.drop k)))) []) zYe2 ({ n:=26,fr:=[(0,.p (.lst .str a)),(1,.p (.lst .str b)),(4,.p (.bool false)),(5,.i k)],ck:=[],kn:=[4] }):=by
 intro n
 induction n with
 | zero=>?_
 | succ n ih=>?_
 all_goals
  intro k hn hk
  refine jg bG Tryz.func23 (.ite (decide ((k:Int)<(a.length:Int))) (.need (inRg k a.length) (.need (inRg k b.length) (.ite (!ETy.get .str a k==ETy.get .str b k) (.ret (.p (.bool false)) []) (.stop zYe2 { n:=26,fr:=[(0,.p (.lst .str a)),(1,.p (.lst .str b)),(4,.p (.bool false)),(5,.i (IntKind.wrap .i64 ((k:Int)+1)))],ck:=[] })))) (.ret (.p (.bool true)) [])) ?_
  refine ⟨fun hlt=>?_,fun hge=>?_⟩
  · have hk':k<a.length:=by have:=of_decide_eq_true hlt; omega
    rw [bZ (t:=.str) (l:=a) hk',bZ (t:=.str) (l:=b) (by omega)]
    refine ⟨by omega,by omega,?_⟩
    generalize ETy.get .str a k=x
    generalize ETy.get .str b k=y
    refine ⟨fun h=>?_,fun h=>?_⟩
    · have h':(x==y)=false:=nt h
      rw [du,h',cl]; exact ⟨rfl,rfl⟩
    · have h':(x==y)=true:=nf h
      rw [du,h',bV,ee (gR hk' hl)]
      first
      | (exfalso; omega)
      | exact J.kn [4] (ih (k+1) (by omega) (by omega))
  · have hk2:k=a.length:=by have:=of_decide_eq_false hge; omega
    have e:a.drop k=[]:=cb (by omega)
    have e2:b.drop k=[]:=cb (by omega)
    rw [e,e2]; exact ⟨rfl,rfl⟩
theorem Kk (a b:List Str)  : ak Tryz.prog 23 [.l .str (a),.l .str (b)] [] (.x (.b (du a b))) []:=by
 refine dg bG Tryz.func23 (.ite ((a.length:Int) != (b.length:Int)) (.ret (.p (.bool false)) []) (.stop zYe2 { n:=26,fr:=[(0,.p (.lst .str a)),(1,.p (.lst .str b)),(4,.p (.bool false)),(5,.i 0)],ck:=[],kn:=[4] })) fun Γ=>?_
 refine ⟨fun h=>?_,fun h=>?_⟩
 · rw [mO a b (by have:(a.length:Int)≠b.length:=(by simpa using h); omega)]; exact ⟨rfl,rfl⟩
 · have hab:a.length=b.length:=by
    have:(a.length:Int)=b.length:=by simpa using h
    omega
   exact J.len 0 rfl fun hl=>Jk a b Γ hl hab  a.length 0 (by omega) (bt _)
def Fq:Ent:=(23,fun
 | [.c (.pd (.lst .str a)),.c (.pd (.lst .str b))],[]=>some (none,.x (.c (.pd (.bool (du a b)))),[])
 | _,_=>none)
theorem MD:EntOk Tryz.prog Fq:=entOk fun vs ck=>by
 unfold Fq; dsimp only; split
 · rename_i a b; exact entS fun hp=>Kk a b
 · exact entN
structure SmallC (c:Chart):Prop where
 events:c.events.length≤2000000
 vars:c.vars.length≤1000000
 states:c.states.length≤1000000
 trans:c.trans.length≤1000000
 stat:∀ s∈c.states,(∀ d∈s.entry,d.expr.length≤1000000)∧∀ d∈s.leave,d.expr.length≤1000000
 tran:∀ t∈c.trans,t.guard.length≤1000000∧∀ d∈t.acts,d.expr.length≤1000000
def qP:Cfg:=⟨bx,[Fq,uC,vD]⟩
theorem ni:ai Tryz.prog qP.tab:=(ai.cons MD (ai.cons Bo (ai.cons If ai.nil)))
variable (a b:Chart) (Γ:Ctx)
abbrev zYe1:Chunk:=.cells [.pd (.str a.name),.pd (.lst .str a.events),.pd (.lst .var a.vars),.pd (.lst .stat a.states),.pd (.lst .tran a.trans)] 27
abbrev zYe3:List PI:=[.code [1,1,1,1,0,1,0,0],.inLoop [1,1,1,1,0,1,0,0],.inBlock 4,.code [1,1,1,1,1]]
theorem Jm (hs:SmallC a) (hab:a.trans.length=b.trans.length):∀ (n k:Nat),a.trans.length - k≤n→k≤a.trans.length →
 J Tryz.prog 11 (aI Tryz.f11) Γ (Eq2 (.x (.b (cV (a.trans.drop k) (b.trans.drop k)))) []) zYe3 ({ n:=181,fr:=[(2,.x (.c (.loc 0 0))),(3,.x (.c (.loc 1 0))),(4,.p (.bool false)),(9,.i k)],ck:=[zYe1 a,zYe1 b],kn:=[4] }):=by
 intro n
 induction n with
 | zero=>?_
 | succ n ih=>?_
 all_goals
  intro k hn hk
  refine jg ni Tryz.func11 (let x1:=(ETy.get .tran a.trans k); let x2:=(ETy.get .tran b.trans k); .ite (decide ((k:Int)<(a.trans.length:Int))) (.need (inRg k a.trans.length) (.need (inRg k b.trans.length) (.need ((Tran.src x1 != Tran.src x2 || !Tran.event x1==Tran.event x2 || !Tran.dst x1==Tran.dst x2)=false→(Tran.guard x1).length≤1000000) (.need ((Tran.src x1 != Tran.src x2 || !Tran.event x1==Tran.event x2 || !Tran.dst x1==Tran.dst x2 || !dB (Tran.guard x1) (Tran.guard x2))=false→∀ (d:ETy.den .deed),d∈Tran.acts x1→d.expr.length≤1000000) (.ite (Tran.src x1 != Tran.src x2 || !Tran.event x1==Tran.event x2 || !Tran.dst x1==Tran.dst x2 || !dB (Tran.guard x1) (Tran.guard x2) || !bQ (Tran.acts x1) (Tran.acts x2)) (.ret (.p (.bool false)) []) (.stop zYe3 { n:=181,fr:=[(2,.x (.c (.loc 0 0))),(3,.x (.c (.loc 1 0))),(4,.p (.bool false)),(9,.i (IntKind.wrap .i64 ((k:Int)+1)))],ck:=[zYe1 a,zYe1 b],kn:=[4] })))))) (.ret (.p (.bool true)) [])) ?_
  conv=>zeta
  refine ⟨fun hlt=>?_,fun hge=>?_⟩
  · have hk':k<a.trans.length:=by have:=of_decide_eq_true hlt; omega
    have hx:=hs.tran _ (List.mem_of_getElem? (ETy.getElem?_get (t:=.tran) hk'))
    rw [bZ (t:=.tran) (l:=a.trans) hk',bZ (t:=.tran) (l:=b.trans) (by omega)]
    refine ⟨by omega,by omega,fun _=>hx.1,fun _=>hx.2,?_⟩
    generalize ETy.get .tran a.trans k=x
    generalize ETy.get .tran b.trans k=y
    have e:iu x y = !(x.src != y.src || !(x.event==y.event) || !(x.dst==y.dst) || !dB x.guard y.guard || !bQ x.acts y.acts):=by
     simp only [iu,bne,Bool.not_or,Bool.not_not,dj]
     cases x.src==y.src <;> cases x.event==y.event <;> cases x.dst==y.dst <;> cases dB x.guard y.guard <;> rfl
    refine ⟨fun hb=>?_,fun hb=>?_⟩
    · rw [cV,e,hb]; exact ⟨rfl,rfl⟩
    · rw [cV,e,hb,Bool.not_false,bV,ee (by have:=hs.trans; omega)]
      first
      | (exfalso; omega)
      | exact ih (k+1) (by omega) (by omega)
  · have hk2:k=a.trans.length:=by have:=of_decide_eq_false hge; omega
    have e:a.trans.drop k=[]:=cb (by omega)
    have e2:b.trans.drop k=[]:=cb (by omega)
    rw [e,e2]; exact ⟨rfl,rfl⟩
abbrev zYe4:List PI:=[.code [1,1,1,0,1,0,0],.inLoop [1,1,1,0,1,0,0],.inBlock 2,.code [1,1,1,1]]
theorem I0 (hs:SmallC a) (hab:a.states.length=b.states.length) (hab2:a.trans.length=b.trans.length):∀ (n k:Nat),a.states.length - k≤n→k≤a.states.length →
 J Tryz.prog 11 (aI Tryz.f11) Γ (Eq2 (.x (.b (di (a.states.drop k) (b.states.drop k)&&cV a.trans b.trans))) []) zYe4 ({ n:=181,fr:=[(2,.x (.c (.loc 0 0))),(3,.x (.c (.loc 1 0))),(4,.p (.bool false)),(6,.i k)],ck:=[zYe1 a,zYe1 b],kn:=[4] }):=by
 intro n
 induction n with
 | zero=>?_
 | succ n ih=>?_
 all_goals
  intro k hn hk
  refine jg ni Tryz.func11 (let x1:=(ETy.get .stat a.states k); let x2:=(ETy.get .stat b.states k); let x3:List Chunk:=[zYe1 a,zYe1 b]; .ite (decide ((k:Int)<(a.states.length:Int))) (.need (inRg k a.states.length) (.need (inRg k b.states.length) (.need ((!Stat.name x1==Stat.name x2||Stat.kind x1 != Stat.kind x2||Stat.depth x1 != Stat.depth x2 || !Stat.initial x1==Stat.initial x2)=false→∀ (d:ETy.den .deed),d∈Stat.entry x1→d.expr.length≤1000000) (.need ((!Stat.name x1==Stat.name x2||Stat.kind x1 != Stat.kind x2||Stat.depth x1 != Stat.depth x2 || !Stat.initial x1==Stat.initial x2 || !bQ (Stat.entry x1) (Stat.entry x2))=false→∀ (d:ETy.den .deed),d∈Stat.leave x1→d.expr.length≤1000000) (.ite (!Stat.name x1==Stat.name x2||Stat.kind x1 != Stat.kind x2||Stat.depth x1 != Stat.depth x2 || !Stat.initial x1==Stat.initial x2 || !bQ (Stat.entry x1) (Stat.entry x2) || !bQ (Stat.leave x1) (Stat.leave x2)) (.ret (.p (.bool false)) []) (.stop zYe4 { n:=181,fr:=[(2,.x (.c (.loc 0 0))),(3,.x (.c (.loc 1 0))),(4,.p (.bool false)),(6,.i (IntKind.wrap .i64 ((k:Int)+1)))],ck:=x3,kn:=[4] })))))) (.stop zYe3 { n:=181,fr:=[(2,.x (.c (.loc 0 0))),(3,.x (.c (.loc 1 0))),(4,.p (.bool false)),(9,.i 0)],ck:=x3,kn:=[4] })) ?_
  conv=>zeta
  refine ⟨fun hlt=>?_,fun hge=>?_⟩
  · have hk':k<a.states.length:=by have:=of_decide_eq_true hlt; omega
    have hx:=hs.stat _ (List.mem_of_getElem? (ETy.getElem?_get (t:=.stat) hk'))
    rw [bZ (t:=.stat) (l:=a.states) hk',bZ (t:=.stat) (l:=b.states) (by omega)]
    refine ⟨by omega,by omega,fun _=>hx.1,fun _=>hx.2,?_⟩
    generalize ETy.get .stat a.states k=x
    generalize ETy.get .stat b.states k=y
    have e:ig x y = !(!(x.name==y.name)||x.kind != y.kind||x.depth != y.depth || !(x.initial==y.initial) || !bQ x.entry y.entry || !bQ x.leave y.leave):=by
     simp only [ig,bne,Bool.not_or,Bool.not_not,dj]
    refine ⟨fun hb=>?_,fun hb=>?_⟩
    · rw [di,e,hb]; exact ⟨rfl,rfl⟩
    · rw [di,e,hb,Bool.not_false,bV,ee (by have:=hs.states; omega)]
      first
      | (exfalso; omega)
      | exact ih (k+1) (by omega) (by omega)
  · have hk2:k=a.states.length:=by have:=of_decide_eq_false hge; omega
    have e:a.states.drop k=[]:=cb (by omega)
    have e2:b.states.drop k=[]:=cb (by omega)
    rw [e,e2]
    exact Jm a b Γ hs hab2 a.trans.length 0 (by omega) (by omega)
theorem Ju (hs:SmallC a) (hv:a.vars.length=b.vars.length) (hab:a.states.length=b.states.length) (hab2:a.trans.length=b.trans.length):∀ (n k:Nat),a.vars.length - k≤n→k≤a.vars.length →
 J Tryz.prog 11 (aI Tryz.f11) Γ (Eq2 (.x (.b (dV (a.vars.drop k) (b.vars.drop k)&&(di a.states b.states&&cV a.trans b.trans)))) []) zYe2 ({ n:=181,fr:=[(2,.x (.c (.loc 0 0))),(3,.x (.c (.loc 1 0))),(4,.p (.bool false)),(5,.i k)],ck:=[zYe1 a,zYe1 b],kn:=[4] }):=by
 intro n
 induction n with
 | zero=>?_
 | succ n ih=>?_
 all_goals
  intro k hn hk
  refine jg ni Tryz.func11 (let x1:List Chunk:=[zYe1 a,zYe1 b]; let x2:=(ETy.get .var a.vars k); let x3:=(ETy.get .var b.vars k); .ite (decide ((k:Int)<(a.vars.length:Int))) (.need (inRg k a.vars.length) (.need (inRg k b.vars.length) (.ite (!(Var.name x2==Var.name x3&&(Var.kind x2==Var.kind x3&&(Var.lo x2==Var.lo x3&&(Var.hi x2==Var.hi x3&&(Val.kind (Var.init x2)==Val.kind (Var.init x3)&&(Val.a (Var.init x2)==Val.a (Var.init x3)&&Val.b (Var.init x2)==Val.b (Var.init x3)))))))) (.ret (.p (.bool false)) []) (.stop zYe2 { n:=181,fr:=[(2,.x (.c (.loc 0 0))),(3,.x (.c (.loc 1 0))),(4,.p (.bool false)),(5,.i (IntKind.wrap .i64 ((k:Int)+1)))],ck:=x1 })))) (.stop zYe4 { n:=181,fr:=[(2,.x (.c (.loc 0 0))),(3,.x (.c (.loc 1 0))),(4,.p (.bool false)),(6,.i 0)],ck:=x1,kn:=[4] })) ?_
  conv=>zeta
  refine ⟨fun hlt=>?_,fun hge=>?_⟩
  · have hk':k<a.vars.length:=by have:=of_decide_eq_true hlt; omega
    rw [bZ (t:=.var) (l:=a.vars) hk',bZ (t:=.var) (l:=b.vars) (by omega)]
    refine ⟨by omega,by omega,?_⟩
    generalize ETy.get .var a.vars k=x
    generalize ETy.get .var b.vars k=y
    refine ⟨fun hb=>?_,fun hb=>?_⟩
    · have h':ml x y=false:=nt hb
      rw [dV,h']; exact ⟨rfl,rfl⟩
    · have h':ml x y=true:=nf hb
      rw [dV,h',bV,ee (by have:=hs.vars; omega)]
      first
      | (exfalso; omega)
      | exact J.kn [4] (ih (k+1) (by omega) (by omega))
  · have hk2:k=a.vars.length:=by have:=of_decide_eq_false hge; omega
    have e:a.vars.drop k=[]:=cb (by omega)
    have e2:b.vars.drop k=[]:=cb (by omega)
    rw [e,e2]
    exact I0 a b Γ hs hab hab2 a.states.length 0 (by omega) (by omega)
theorem FZ (hs:SmallC a):ak Tryz.prog 11 [.e .chart a,.e .chart b] [] (.x (.b (fC a b))) []:=by
 refine dg ni Tryz.func11 (.ite (!a.name==b.name || !du a.events b.events||(a.vars.length:Int) != (b.vars.length:Int)||(a.states.length:Int) != (b.states.length:Int)||(a.trans.length:Int) != (b.trans.length:Int)) (.ret (.p (.bool false)) []) (.stop zYe2 { n:=181,fr:=[(2,.x (.c (.loc 0 0))),(3,.x (.c (.loc 1 0))),(4,.p (.bool false)),(5,.i 0)],ck:=[zYe1 a,zYe1 b],kn:=[4] })) fun Γ=>?_
 refine ⟨fun h=>?_,fun h=>?_⟩
 · have:fC a b=false:=by
    simp only [aH,bne_iff_ne,aD,ne_eq,Int.natCast_inj] at h
    unfold fC
    rcases h with (((h | h) | h) | h) | h
    · rw [h]; rfl
    · rw [h,cl,bB]
    · rw [mX _ _ h,cl,bB,bB]
    · rw [lL _ _ h,cl,bB,bB,bB]
    · rw [lM _ _ h,bB,bB,bB,bB]
   rw [this]; exact ⟨rfl,rfl⟩
 · simp only [aJ,bne_eq_false_iff_eq,cI,Int.natCast_inj] at h
   obtain ⟨⟨⟨⟨h1,h2⟩,h3⟩,h4⟩,h5⟩:=h
   have:fC a b=(dV (a.vars.drop 0) (b.vars.drop 0)&&(di a.states b.states&&cV a.trans b.trans)):=by
    unfold fC; rw [h1,h2]; simp
   rw [this]
   exact Ju a b Γ hs h3 h4 h5 a.vars.length 0 (by omega) (by omega)
def uv:Ent:=(11,fun
 | [.agg [.pd (.str a),.pd (.lst .str b),.pd (.lst .var c),.pd (.lst .stat d),.pd (.lst .tran e)],.agg [.pd (.str f),.pd (.lst .str g),.pd (.lst .var h),.pd (.lst .stat i),.pd (.lst .tran j)]],[]=>some (some (SmallC ⟨a,b,c,d,e⟩),.x (.c (.pd (.bool (fC ⟨a,b,c,d,e⟩ ⟨f,g,h,i,j⟩)))),[])
 | _,_=>none)
theorem Gw:EntOk Tryz.prog uv:=entOk fun vs ck=>by
 unfold uv; dsimp only; split
 · rename_i a b c d e f g h i j; exact entS fun hp=>FZ ⟨a,b,c,d,e⟩ ⟨f,g,h,i,j⟩ hp
 · exact entN
/-! ### alike: the same -/
theorem pC:∀ a b:List Cell,dB a b=true↔a=b
 | [],[]=>by simp [dB]
 | [],_::_=>by simp [dB]
 | _::_,[]=>by simp [dB]
 | ⟨x1,x2,x3⟩::r,⟨y1,y2,y3⟩::q=>by simp [dB,pC r q,and_assoc]
theorem lN:∀ a b:List Deed,bQ a b=true↔a=b
 | [],[]=>by simp [bQ]
 | [],_::_=>by simp [bQ]
 | _::_,[]=>by simp [bQ]
 | ⟨x1,x2,x3⟩::r,⟨y1,y2,y3⟩::q=>by simp [bQ,ie,pC,lN r q,and_assoc]
theorem rl:∀ a b:List Str,du a b=true↔a=b
 | [],[]=>by simp [du]
 | [],_::_=>by simp [du]
 | _::_,[]=>by simp [du]
 | x::r,y::q=>by simp [du,rl r q]
theorem qe:∀ a b:List Var,dV a b=true↔a=b
 | [],[]=>by simp [dV]
 | [],_::_=>by simp [dV]
 | _::_,[]=>by simp [dV]
 | ⟨x1,x2,x3,x4,x5,x6,x7⟩::r,⟨y1,y2,y3,y4,y5,y6,y7⟩::q=>by simp [dV,ml,qe r q,and_assoc]
theorem p7:∀ a b:List Ev.Stat,di a b=true↔a=b
 | [],[]=>by simp [di]
 | [],_::_=>by simp [di]
 | _::_,[]=>by simp [di]
 | ⟨x1,x2,x3,x4,x5,x6⟩::r,⟨y1,y2,y3,y4,y5,y6⟩::q=>by simp [di,ig,lN,p7 r q,and_assoc]
theorem pX:∀ a b:List Tran,cV a b=true↔a=b
 | [],[]=>by simp [cV]
 | [],_::_=>by simp [cV]
 | _::_,[]=>by simp [cV]
 | ⟨x1,x2,x3,x4,x5⟩::r,⟨y1,y2,y3,y4,y5⟩::q=>by simp [cV,iu,lN,pC,pX r q,and_assoc]
theorem xN:fC a b=true↔a=b:=by
 obtain ⟨x1,x2,x3,x4,x5⟩:=a
 obtain ⟨y1,y2,y3,y4,y5⟩:=b
 simp [fC,rl,qe,p7,pX]
theorem vP:fC a a=true:=(xN a a).2 rfl
end Go.Proofs.YtpfidgnkokidoaaGreatDoor

/- Contracts: charts held against each other, by the program and by the document. Conditions: sizes. -/
import Derived.Test.YtpfidgnkokidoaaGreatDoorUq
namespace Go.Proofs.YtpfidgnkokidoaaGreatDoor
open Go Go.Ev
set_option maxRecDepth 100000
def ml (x y:Var):Bool:=x.name==y.name&&(x.kind==y.kind&&(x.lo==y.lo&&(x.hi==y.hi&&(x.init.kind==y.init.kind&&(x.init.a==y.init.a&&x.init.b==y.init.b)))))
def ig (x y:Ev.Stat):Bool:=x.name==y.name&&(x.kind==y.kind&&(x.depth==y.depth&&(x.initial==y.initial&&(bQ x.entry y.entry&&bQ x.leave y.leave))))
def iu (x y:Tran):Bool:=x.src==y.src&&(x.event==y.event&&(dB x.guard y.guard&&(x.dst==y.dst&&bQ x.acts y.acts)))
def du:List Str→List Str→Bool
 | [],[]=>true
 | x::r,y::q=>x==y&&du r q
 | _,_=>false
def dV:List Var→List Var→Bool
 | [],[]=>true
 | x::r,y::q=>ml x y&&dV r q
 | _,_=>false
def di:List Ev.Stat→List Ev.Stat→Bool
 | [],[]=>true
 | x::r,y::q=>ig x y&&di r q
 | _,_=>false
def cV:List Tran→List Tran→Bool
 | [],[]=>true
 | x::r,y::q=>iu x y&&cV r q
 | _,_=>false
def fC (a b:Chart):Bool:=a.name==b.name&&(du a.events b.events&&(dV a.vars b.vars&&(di a.states b.states&&cV a.trans b.trans)))
theorem mO:∀ a b:List Str,a.length≠b.length→du a b=false
 | [],[],h=>absurd rfl h
 | [],_::_,_=>rfl
 | _::_,[],_=>rfl
 | x::r,y::q,h=>by rw [du,mO r q (fun e=>h (by simp [e])),bB]
theorem mX:∀ a b:List Var,a.length≠b.length→dV a b=false
 | [],[],h=>absurd rfl h
 | [],_::_,_=>rfl
 | _::_,[],_=>rfl
 | x::r,y::q,h=>by rw [dV,mX r q (fun e=>h (by simp [e])),bB]
theorem lL:∀ a b:List Ev.Stat,a.length≠b.length→di a b=false
 | [],[],h=>absurd rfl h
 | [],_::_,_=>rfl
 | _::_,[],_=>rfl
 | x::r,y::q,h=>by rw [di,lL r q (fun e=>h (by simp [e])),bB]
theorem lM:∀ a b:List Tran,a.length≠b.length→cV a b=false
 | [],[],h=>absurd rfl h
 | [],_::_,_=>rfl
 | _::_,[],_=>rfl
 | x::r,y::q,h=>by rw [cV,lM r q (fun e=>h (by simp [e])),bB]
/-! ### the program's -/
abbrev zYd1:List PI:=[.code [1,1,0,1,0,0],.inLoop [1,1,0,1,0,0],.inBlock 0,.code [1,1,1]]
theorem Mq (a b:List Str) (Γ:Ctx) (hl:a.length≤maxLen) (hab:a.length=b.length)  : ∀ (n k:Nat),a.length - k≤n→k≤a.length →
 J Tryz.prog 63 (aI Tryz.f63) Γ (Eq2 (.x (.b (du (a.drop k) (b.drop k)))) []) zYd1 ({ n:=26,fr:=[(0,.p (.lst .str a)),(1,.p (.lst .str b)),(4,.p (.bool false)),(12,.i a.length),(13,.i k)],ck:=[],kn:=[4] }):=by
 intro n
 induction n with
 | zero=>?_
 | succ n ih=>?_
 all_goals
  intro k hn hk
  refine jg bG Tryz.func63 (.ite (decide ((k:Int)<(a.length:Int))) (.need (inRg k a.length) (.need (inRg k b.length) (.ite (!ETy.get .str a k==ETy.get .str b k) (.ret (.p (.bool false)) []) (.stop zYd1 { n:=26,fr:=[(0,.p (.lst .str a)),(1,.p (.lst .str b)),(4,.p (.bool false)),(12,.i a.length),(13,.i (IntKind.wrap .i64 ((k:Int)+1)))],ck:=[] })))) (.ret (.p (.bool true)) [])) ?_
  refine ⟨fun hlt=>?_,fun hge=>?_⟩
  · have hk':k<a.length:=by have:=of_decide_eq_true hlt; omega
    rw [bZ (t:=.str) (l:=a) hk',bZ (t:=.str) (l:=b) (by omega)]
    refine ⟨by omega,by omega,?_⟩
    generalize ETy.get .str a k=x
    generalize ETy.get .str b k=y
    refine ⟨fun h=>?_,fun h=>?_⟩
    · have h':(x==y)=false:=nt h
      rw [du,h',cl]; exact ⟨rfl,rfl⟩
    · have h':(x==y)=true:=nf h
      rw [du,h',bV,ee (gR hk' hl)]
      first
      | (exfalso; omega)
      | exact J.kn [4] (ih (k+1) (by omega) (by omega))
  · have hk2:k=a.length:=by have:=of_decide_eq_false hge; omega
    have e:a.drop k=[]:=cb (by omega)
    have e2:b.drop k=[]:=cb (by omega)
    rw [e,e2]; exact ⟨rfl,rfl⟩
theorem M0 (a b:List Str)  : ak Tryz.prog 63 [.l .str (a),.l .str (b)] [] (.x (.b (du a b))) []:=by
 refine dg bG Tryz.func63 (.ite ((a.length:Int) != (b.length:Int)) (.ret (.p (.bool false)) []) (.stop zYd1 { n:=26,fr:=[(0,.p (.lst .str a)),(1,.p (.lst .str b)),(4,.p (.bool false)),(12,.i a.length),(13,.i 0)],ck:=[],kn:=[4] })) fun Γ=>?_
 refine ⟨fun h=>?_,fun h=>?_⟩
 · rw [mO a b (by have:(a.length:Int)≠b.length:=(by simpa using h); omega)]; exact ⟨rfl,rfl⟩
 · have hab:a.length=b.length:=by
    have:(a.length:Int)=b.length:=by simpa using h
    omega
   exact J.len 0 rfl fun hl=>Mq a b Γ hl hab  a.length 0 (by omega) (bt _)
def Ep:Ent:=(63,fun
 | [.c (.pd (.lst .str a)),.c (.pd (.lst .str b))],[]=>some (none,.x (.c (.pd (.bool (du a b)))),[])
 | _,_=>none)
theorem NR:EntOk Tryz.prog Ep:=entOk fun vs ck=>by
 unfold Ep; dsimp only; split
 · rename_i a b; exact entS fun hp=>M0 a b
 · exact entN
theorem Nu (a b:List Var) (Γ:Ctx) (hl:a.length≤maxLen) (hab:a.length=b.length)  : ∀ (n k:Nat),a.length - k≤n→k≤a.length →
 J Tryz.prog 64 (aI Tryz.f64) Γ (Eq2 (.x (.b (dV (a.drop k) (b.drop k)))) []) zYd1 ({ n:=26,fr:=[(0,.p (.lst .var a)),(1,.p (.lst .var b)),(4,.p (.bool false)),(12,.i a.length),(13,.i k)],ck:=[],kn:=[4] }):=by
 intro n
 induction n with
 | zero=>?_
 | succ n ih=>?_
 all_goals
  intro k hn hk
  refine jg bG Tryz.func64 (.ite (decide ((k:Int)<(a.length:Int))) (.need (inRg k a.length) (.need (inRg k b.length) (.ite (!(Var.name (ETy.get .var a k)==Var.name (ETy.get .var b k)&&(Var.kind (ETy.get .var a k)==Var.kind (ETy.get .var b k)&&(Var.lo (ETy.get .var a k)==Var.lo (ETy.get .var b k)&&(Var.hi (ETy.get .var a k)==Var.hi (ETy.get .var b k)&&(Val.kind (Var.init (ETy.get .var a k))==Val.kind (Var.init (ETy.get .var b k))&&(Val.a (Var.init (ETy.get .var a k))==Val.a (Var.init (ETy.get .var b k))&&Val.b (Var.init (ETy.get .var a k))==Val.b (Var.init (ETy.get .var b k))))))))) (.ret (.p (.bool false)) []) (.stop zYd1 { n:=26,fr:=[(0,.p (.lst .var a)),(1,.p (.lst .var b)),(4,.p (.bool false)),(12,.i a.length),(13,.i (IntKind.wrap .i64 ((k:Int)+1)))],ck:=[] })))) (.ret (.p (.bool true)) [])) ?_
  refine ⟨fun hlt=>?_,fun hge=>?_⟩
  · have hk':k<a.length:=by have:=of_decide_eq_true hlt; omega
    rw [bZ (t:=.var) (l:=a) hk',bZ (t:=.var) (l:=b) (by omega)]
    refine ⟨by omega,by omega,?_⟩
    generalize ETy.get .var a k=x
    generalize ETy.get .var b k=y
    refine ⟨fun h=>?_,fun h=>?_⟩
    · have h':(ml x y)=false:=nt h
      rw [dV,h',cl]; exact ⟨rfl,rfl⟩
    · have h':(ml x y)=true:=nf h
      rw [dV,h',bV,ee (gR hk' hl)]
      first
      | (exfalso; omega)
      | exact J.kn [4] (ih (k+1) (by omega) (by omega))
  · have hk2:k=a.length:=by have:=of_decide_eq_false hge; omega
    have e:a.drop k=[]:=cb (by omega)
    have e2:b.drop k=[]:=cb (by omega)
    rw [e,e2]; exact ⟨rfl,rfl⟩
theorem MZ (a b:List Var)  : ak Tryz.prog 64 [.l .var (a),.l .var (b)] [] (.x (.b (dV a b))) []:=by
 refine dg bG Tryz.func64 (.ite ((a.length:Int) != (b.length:Int)) (.ret (.p (.bool false)) []) (.stop zYd1 { n:=26,fr:=[(0,.p (.lst .var a)),(1,.p (.lst .var b)),(4,.p (.bool false)),(12,.i a.length),(13,.i 0)],ck:=[],kn:=[4] })) fun Γ=>?_
 refine ⟨fun h=>?_,fun h=>?_⟩
 · rw [mX a b (by have:(a.length:Int)≠b.length:=(by simpa using h); omega)]; exact ⟨rfl,rfl⟩
 · have hab:a.length=b.length:=by
    have:(a.length:Int)=b.length:=by simpa using h
    omega
   exact J.len 0 rfl fun hl=>Nu a b Γ hl hab  a.length 0 (by omega) (bt _)
def FE:Ent:=(64,fun
 | [.c (.pd (.lst .var a)),.c (.pd (.lst .var b))],[]=>some (none,.x (.c (.pd (.bool (dV a b)))),[])
 | _,_=>none)
theorem NN:EntOk Tryz.prog FE:=entOk fun vs ck=>by
 unfold FE; dsimp only; split
 · rename_i a b; exact entS fun hp=>MZ a b
 · exact entN
theorem Nm (a b:List Cell) (Γ:Ctx) (hl:a.length≤maxLen) (hab:a.length=b.length)  : ∀ (n k:Nat),a.length - k≤n→k≤a.length →
 J Tryz.prog 70 (aI Tryz.f70) Γ (Eq2 (.x (.b (dB (a.drop k) (b.drop k)))) []) zYd1 ({ n:=26,fr:=[(0,.p (.lst .cell a)),(1,.p (.lst .cell b)),(4,.p (.bool false)),(12,.i a.length),(13,.i k)],ck:=[],kn:=[4] }):=by
 intro n
 induction n with
 | zero=>?_
 | succ n ih=>?_
 all_goals
  intro k hn hk
  refine jg bG Tryz.func70 (.ite (decide ((k:Int)<(a.length:Int))) (.need (inRg k a.length) (.need (inRg k b.length) (.ite (!(Cell.op (ETy.get .cell a k)==Cell.op (ETy.get .cell b k)&&(Cell.a (ETy.get .cell a k)==Cell.a (ETy.get .cell b k)&&Cell.name (ETy.get .cell a k)==Cell.name (ETy.get .cell b k)))) (.ret (.p (.bool false)) []) (.stop zYd1 { n:=26,fr:=[(0,.p (.lst .cell a)),(1,.p (.lst .cell b)),(4,.p (.bool false)),(12,.i a.length),(13,.i (IntKind.wrap .i64 ((k:Int)+1)))],ck:=[] })))) (.ret (.p (.bool true)) [])) ?_
  refine ⟨fun hlt=>?_,fun hge=>?_⟩
  · have hk':k<a.length:=by have:=of_decide_eq_true hlt; omega
    rw [bZ (t:=.cell) (l:=a) hk',bZ (t:=.cell) (l:=b) (by omega)]
    refine ⟨by omega,by omega,?_⟩
    generalize ETy.get .cell a k=x
    generalize ETy.get .cell b k=y
    refine ⟨fun h=>?_,fun h=>?_⟩
    · have h':(x.op==y.op&&(x.a==y.a&&x.name==y.name))=false:=nt h
      rw [dB,h',cl]; exact ⟨rfl,rfl⟩
    · have h':(x.op==y.op&&(x.a==y.a&&x.name==y.name))=true:=nf h
      rw [dB,h',bV,ee (gR hk' hl)]
      first
      | (exfalso; omega)
      | exact J.kn [4] (ih (k+1) (by omega) (by omega))
  · have hk2:k=a.length:=by have:=of_decide_eq_false hge; omega
    have e:a.drop k=[]:=cb (by omega)
    have e2:b.drop k=[]:=cb (by omega)
    rw [e,e2]; exact ⟨rfl,rfl⟩
theorem M8 (a b:List Cell)  : ak Tryz.prog 70 [.l .cell (a),.l .cell (b)] [] (.x (.b (dB a b))) []:=by
 refine dg bG Tryz.func70 (.ite ((a.length:Int) != (b.length:Int)) (.ret (.p (.bool false)) []) (.stop zYd1 { n:=26,fr:=[(0,.p (.lst .cell a)),(1,.p (.lst .cell b)),(4,.p (.bool false)),(12,.i a.length),(13,.i 0)],ck:=[],kn:=[4] })) fun Γ=>?_
 refine ⟨fun h=>?_,fun h=>?_⟩
 · rw [pN a b (by have:(a.length:Int)≠b.length:=(by simpa using h); omega)]; exact ⟨rfl,rfl⟩
 · have hab:a.length=b.length:=by
    have:(a.length:Int)=b.length:=by simpa using h
    omega
   exact J.len 0 rfl fun hl=>Nm a b Γ hl hab  a.length 0 (by omega) (bt _)
def B2:Ent:=(70,fun
 | [.c (.pd (.lst .cell a)),.c (.pd (.lst .cell b))],[]=>some (none,.x (.c (.pd (.bool (dB a b)))),[])
 | _,_=>none)
theorem Dn:EntOk Tryz.prog B2:=entOk fun vs ck=>by
 unfold B2; dsimp only; split
 · rename_i a b; exact entS fun hp=>M8 a b
 · exact entN
def HS:Cfg:=⟨bx,[B2]⟩
theorem Hn:ai Tryz.prog HS.tab:=(ai.cons Dn ai.nil)
theorem JU (x y:Deed):ak Tryz.prog 109 [.e .deed x,.e .deed y] [] (.x (.b (ie x y))) []:=by
 refine dg Hn Tryz.func109 (.ret (.p (.bool (x.kind==y.kind&&x.name==y.name&&dB x.expr y.expr))) []) fun Γ=>?_
 unfold ie
 rw [← dj]; exact ⟨rfl,rfl⟩
def yC:Ent:=(109,fun
 | [.agg [.pd (.int .i64 a),.pd (.str b),.pd (.lst .cell c)],.agg [.pd (.int .i64 d),.pd (.str e),.pd (.lst .cell f)]],[]=>some (none,.x (.c (.pd (.bool (ie ⟨a,b,c⟩ ⟨d,e,f⟩)))),[])
 | _,_=>none)
theorem J1:EntOk Tryz.prog yC:=entOk fun vs ck=>by
 unfold yC; dsimp only; split
 · rename_i a b c d e f; exact entS fun hp=>JU ⟨a,b,c⟩ ⟨d,e,f⟩
 · exact entN
def Eu:Cfg:=⟨bx,[yC]⟩
theorem B7:ai Tryz.prog Eu.tab:=(ai.cons J1 ai.nil)
theorem MU (a b:List Deed) (Γ:Ctx) (hl:a.length≤maxLen) (hab:a.length=b.length)  : ∀ (n k:Nat),a.length - k≤n→k≤a.length →
 J Tryz.prog 108 (aI Tryz.f108) Γ (Eq2 (.x (.b (bQ (a.drop k) (b.drop k)))) []) zYd1 ({ n:=32,fr:=[(1,.p (.lst .deed b)),(2,.x (.c (.fn (.func 109) [] []))),(6,.p (.bool false)),(15,.p (.lst .deed a)),(16,.i a.length),(17,.i k)],ck:=[],kn:=[6] }):=by
 intro n
 induction n with
 | zero=>?_
 | succ n ih=>?_
 all_goals
  intro k hn hk
  refine jg B7 Tryz.func108 (.ite (decide ((k:Int)<(a.length:Int))) (.need (inRg k a.length) (.need (inRg k b.length) (.ite (!ie (ETy.get .deed a k) (ETy.get .deed b k)) (.ret (.p (.bool false)) []) (.stop zYd1 { n:=32,fr:=[(1,.p (.lst .deed b)),(2,.x (.c (.fn (.func 109) [] []))),(6,.p (.bool false)),(15,.p (.lst .deed a)),(16,.i a.length),(17,.i (IntKind.wrap .i64 ((k:Int)+1)))],ck:=[],kn:=[6] })))) (.ret (.p (.bool true)) [])) ?_
  refine ⟨fun hlt=>?_,fun hge=>?_⟩
  · have hk':k<a.length:=by have:=of_decide_eq_true hlt; omega
    rw [bZ (t:=.deed) (l:=a) hk',bZ (t:=.deed) (l:=b) (by omega)]
    refine ⟨by omega,by omega,?_⟩
    generalize ETy.get .deed a k=x
    generalize ETy.get .deed b k=y
    refine ⟨fun h=>?_,fun h=>?_⟩
    · have h':(ie x y)=false:=nt h
      rw [bQ,h',cl]; exact ⟨rfl,rfl⟩
    · have h':(ie x y)=true:=nf h
      rw [bQ,h',bV,ee (gR hk' hl)]
      first
      | (exfalso; omega)
      | exact J.kn [6] (ih (k+1) (by omega) (by omega))
  · have hk2:k=a.length:=by have:=of_decide_eq_false hge; omega
    have e:a.drop k=[]:=cb (by omega)
    have e2:b.drop k=[]:=cb (by omega)
    rw [e,e2]; exact ⟨rfl,rfl⟩
theorem Nz (a b:List Deed)  : ak Tryz.prog 108 [.l .deed (a),.l .deed (b),SX.c (SC.fn (Fn.func 109) [] [])] [] (.x (.b (bQ a b))) []:=by
 refine dg B7 Tryz.func108 (.ite ((a.length:Int) != (b.length:Int)) (.ret (.p (.bool false)) []) (.stop zYd1 { n:=32,fr:=[(1,.p (.lst .deed b)),(2,.x (.c (.fn (.func 109) [] []))),(6,.p (.bool false)),(15,.p (.lst .deed a)),(16,.i a.length),(17,.i 0)],ck:=[],kn:=[6] })) fun Γ=>?_
 refine ⟨fun h=>?_,fun h=>?_⟩
 · rw [lK a b (by have:(a.length:Int)≠b.length:=(by simpa using h); omega)]; exact ⟨rfl,rfl⟩
 · have hab:a.length=b.length:=by
    have:(a.length:Int)=b.length:=by simpa using h
    omega
   exact J.len 15 rfl fun hl=>MU a b Γ hl hab  a.length 0 (by omega) (bt _)
def D1:Ent:=(108,fun
 | [.c (.pd (.lst .deed a)),.c (.pd (.lst .deed b)),.c (.fn (.func 109) [] [])],[]=>some (none,.x (.c (.pd (.bool (bQ a b)))),[])
 | _,_=>none)
theorem Mw:EntOk Tryz.prog D1:=entOk fun vs ck=>by
 unfold D1; dsimp only; split
 · rename_i a b; exact entS fun hp=>Nz a b
 · exact entN
def G6:Cfg:=⟨bx,[D1]⟩
theorem Ir:ai Tryz.prog G6.tab:=(ai.cons Mw ai.nil)
theorem Jc (a b:List Deed):ak Tryz.prog 67 [.l .deed a,.l .deed b] [] (.x (.b (bQ a b))) []:=by
 refine dg Ir Tryz.func67 (.ret (.p (.bool (bQ a b))) []) fun Γ=>?_
 exact ⟨rfl,rfl⟩
def AQ:Ent:=(67,fun
 | [.c (.pd (.lst .deed a)),.c (.pd (.lst .deed b))],[]=>some (none,.x (.c (.pd (.bool (bQ a b)))),[])
 | _,_=>none)
theorem C8:EntOk Tryz.prog AQ:=entOk fun vs ck=>by
 unfold AQ; dsimp only; split
 · rename_i a b; exact entS fun hp=>Jc a b
 · exact entN
def Ig:Cfg:=⟨bx,[AQ]⟩
theorem IH:ai Tryz.prog Ig.tab:=(ai.cons C8 ai.nil)
theorem J6 (x y:Ev.Stat):ak Tryz.prog 66 [.e .stat x,.e .stat y] [] (.x (.b (ig x y))) []:=by
 refine dg IH Tryz.func66 (.ret (.p (.bool (x.name==y.name&&x.kind==y.kind&&x.depth==y.depth&&x.initial==y.initial&&bQ x.entry y.entry&&bQ x.leave y.leave))) []) fun Γ=>?_
 unfold ig
 simp only [← dj]
 exact ⟨rfl,rfl⟩
def Fm:Ent:=(66,fun
 | [.agg [.pd (.str a),.pd (.int .i64 b),.pd (.int .i64 c),.pd (.str d),.pd (.lst .deed e),.pd (.lst .deed f)],.agg [.pd (.str g),.pd (.int .i64 h),.pd (.int .i64 i),.pd (.str j),.pd (.lst .deed k),.pd (.lst .deed l)]],[]=>some (none,.x (.c (.pd (.bool (ig ⟨a,b,c,d,e,f⟩ ⟨g,h,i,j,k,l⟩)))),[])
 | _,_=>none)
theorem MH:EntOk Tryz.prog Fm:=entOk fun vs ck=>by
 unfold Fm; dsimp only; split
 · rename_i a b c d e f g h i j k l; exact entS fun hp=>J6 ⟨a,b,c,d,e,f⟩ ⟨g,h,i,j,k,l⟩
 · exact entN
def Ib:Cfg:=⟨bx,[B2,AQ]⟩
theorem GV:ai Tryz.prog Ib.tab:=(ai.cons Dn (ai.cons C8 ai.nil))
theorem I3 (x y:Tran):ak Tryz.prog 69 [.e .tran x,.e .tran y] [] (.x (.b (iu x y))) []:=by
 refine dg GV Tryz.func69 (.ret (.p (.bool (x.src==y.src&&x.event==y.event&&dB x.guard y.guard&&x.dst==y.dst&&bQ x.acts y.acts))) []) fun Γ=>?_
 unfold iu
 simp only [← dj]
 exact ⟨rfl,rfl⟩
def DQ:Ent:=(69,fun
 | [.agg [.pd (.int .i64 a),.pd (.str b),.pd (.lst .cell c),.pd (.str d),.pd (.lst .deed e)],.agg [.pd (.int .i64 f),.pd (.str g),.pd (.lst .cell h),.pd (.str i),.pd (.lst .deed j)]],[]=>some (none,.x (.c (.pd (.bool (iu ⟨a,b,c,d,e⟩ ⟨f,g,h,i,j⟩)))),[])
 | _,_=>none)
theorem MS:EntOk Tryz.prog DQ:=entOk fun vs ck=>by
 unfold DQ; dsimp only; split
 · rename_i a b c d e f g h i j; exact entS fun hp=>I3 ⟨a,b,c,d,e⟩ ⟨f,g,h,i,j⟩
 · exact entN
def BD:Cfg:=⟨bx,[Fm]⟩
theorem xc:ai Tryz.prog BD.tab:=(ai.cons MH ai.nil)
theorem I8 (a b:List Ev.Stat) (Γ:Ctx) (hl:a.length≤maxLen) (hab:a.length=b.length)  : ∀ (n k:Nat),a.length - k≤n→k≤a.length →
 J Tryz.prog 65 (aI Tryz.f65) Γ (Eq2 (.x (.b (di (a.drop k) (b.drop k)))) []) zYd1 ({ n:=32,fr:=[(1,.p (.lst .stat b)),(2,.x (.c (.fn (.func 66) [] []))),(6,.p (.bool false)),(15,.p (.lst .stat a)),(16,.i a.length),(17,.i k)],ck:=[],kn:=[6] }):=by
 intro n
 induction n with
 | zero=>?_
 | succ n ih=>?_
 all_goals
  intro k hn hk
  refine jg xc Tryz.func65 (.ite (decide ((k:Int)<(a.length:Int))) (.need (inRg k a.length) (.need (inRg k b.length) (.ite (!ig (ETy.get .stat a k) (ETy.get .stat b k)) (.ret (.p (.bool false)) []) (.stop zYd1 { n:=32,fr:=[(1,.p (.lst .stat b)),(2,.x (.c (.fn (.func 66) [] []))),(6,.p (.bool false)),(15,.p (.lst .stat a)),(16,.i a.length),(17,.i (IntKind.wrap .i64 ((k:Int)+1)))],ck:=[],kn:=[6] })))) (.ret (.p (.bool true)) [])) ?_
  refine ⟨fun hlt=>?_,fun hge=>?_⟩
  · have hk':k<a.length:=by have:=of_decide_eq_true hlt; omega
    rw [bZ (t:=.stat) (l:=a) hk',bZ (t:=.stat) (l:=b) (by omega)]
    refine ⟨by omega,by omega,?_⟩
    generalize ETy.get .stat a k=x
    generalize ETy.get .stat b k=y
    refine ⟨fun h=>?_,fun h=>?_⟩
    · have h':(ig x y)=false:=nt h
      rw [di,h',cl]; exact ⟨rfl,rfl⟩
    · have h':(ig x y)=true:=nf h
      rw [di,h',bV,ee (gR hk' hl)]
      first
      | (exfalso; omega)
      | exact J.kn [6] (ih (k+1) (by omega) (by omega))
  · have hk2:k=a.length:=by have:=of_decide_eq_false hge; omega
    have e:a.drop k=[]:=cb (by omega)
    have e2:b.drop k=[]:=cb (by omega)
    rw [e,e2]; exact ⟨rfl,rfl⟩
theorem JO (a b:List Ev.Stat)  : ak Tryz.prog 65 [.l .stat (a),.l .stat (b),SX.c (SC.fn (Fn.func 66) [] [])] [] (.x (.b (di a b))) []:=by
 refine dg xc Tryz.func65 (.ite ((a.length:Int) != (b.length:Int)) (.ret (.p (.bool false)) []) (.stop zYd1 { n:=32,fr:=[(1,.p (.lst .stat b)),(2,.x (.c (.fn (.func 66) [] []))),(6,.p (.bool false)),(15,.p (.lst .stat a)),(16,.i a.length),(17,.i 0)],ck:=[],kn:=[6] })) fun Γ=>?_
 refine ⟨fun h=>?_,fun h=>?_⟩
 · rw [lL a b (by have:(a.length:Int)≠b.length:=(by simpa using h); omega)]; exact ⟨rfl,rfl⟩
 · have hab:a.length=b.length:=by
    have:(a.length:Int)=b.length:=by simpa using h
    omega
   exact J.len 15 rfl fun hl=>I8 a b Γ hl hab  a.length 0 (by omega) (bt _)
def Ek:Ent:=(65,fun
 | [.c (.pd (.lst .stat a)),.c (.pd (.lst .stat b)),.c (.fn (.func 66) [] [])],[]=>some (none,.x (.c (.pd (.bool (di a b)))),[])
 | _,_=>none)
theorem L0:EntOk Tryz.prog Ek:=entOk fun vs ck=>by
 unfold Ek; dsimp only; split
 · rename_i a b; exact entS fun hp=>JO a b
 · exact entN
def Bl:Cfg:=⟨bx,[DQ]⟩
theorem xM:ai Tryz.prog Bl.tab:=(ai.cons MS ai.nil)
theorem Jx (a b:List Tran) (Γ:Ctx) (hl:a.length≤maxLen) (hab:a.length=b.length)  : ∀ (n k:Nat),a.length - k≤n→k≤a.length →
 J Tryz.prog 68 (aI Tryz.f68) Γ (Eq2 (.x (.b (cV (a.drop k) (b.drop k)))) []) zYd1 ({ n:=32,fr:=[(1,.p (.lst .tran b)),(2,.x (.c (.fn (.func 69) [] []))),(6,.p (.bool false)),(15,.p (.lst .tran a)),(16,.i a.length),(17,.i k)],ck:=[],kn:=[6] }):=by
 intro n
 induction n with
 | zero=>?_
 | succ n ih=>?_
 all_goals
  intro k hn hk
  refine jg xM Tryz.func68 (.ite (decide ((k:Int)<(a.length:Int))) (.need (inRg k a.length) (.need (inRg k b.length) (.ite (!iu (ETy.get .tran a k) (ETy.get .tran b k)) (.ret (.p (.bool false)) []) (.stop zYd1 { n:=32,fr:=[(1,.p (.lst .tran b)),(2,.x (.c (.fn (.func 69) [] []))),(6,.p (.bool false)),(15,.p (.lst .tran a)),(16,.i a.length),(17,.i (IntKind.wrap .i64 ((k:Int)+1)))],ck:=[],kn:=[6] })))) (.ret (.p (.bool true)) [])) ?_
  refine ⟨fun hlt=>?_,fun hge=>?_⟩
  · have hk':k<a.length:=by have:=of_decide_eq_true hlt; omega
    rw [bZ (t:=.tran) (l:=a) hk',bZ (t:=.tran) (l:=b) (by omega)]
    refine ⟨by omega,by omega,?_⟩
    generalize ETy.get .tran a k=x
    generalize ETy.get .tran b k=y
    refine ⟨fun h=>?_,fun h=>?_⟩
    · have h':(iu x y)=false:=nt h
      rw [cV,h',cl]; exact ⟨rfl,rfl⟩
    · have h':(iu x y)=true:=nf h
      rw [cV,h',bV,ee (gR hk' hl)]
      first
      | (exfalso; omega)
      | exact J.kn [6] (ih (k+1) (by omega) (by omega))
  · have hk2:k=a.length:=by have:=of_decide_eq_false hge; omega
    have e:a.drop k=[]:=cb (by omega)
    have e2:b.drop k=[]:=cb (by omega)
    rw [e,e2]; exact ⟨rfl,rfl⟩
theorem JQ (a b:List Tran)  : ak Tryz.prog 68 [.l .tran (a),.l .tran (b),SX.c (SC.fn (Fn.func 69) [] [])] [] (.x (.b (cV a b))) []:=by
 refine dg xM Tryz.func68 (.ite ((a.length:Int) != (b.length:Int)) (.ret (.p (.bool false)) []) (.stop zYd1 { n:=32,fr:=[(1,.p (.lst .tran b)),(2,.x (.c (.fn (.func 69) [] []))),(6,.p (.bool false)),(15,.p (.lst .tran a)),(16,.i a.length),(17,.i 0)],ck:=[],kn:=[6] })) fun Γ=>?_
 refine ⟨fun h=>?_,fun h=>?_⟩
 · rw [lM a b (by have:(a.length:Int)≠b.length:=(by simpa using h); omega)]; exact ⟨rfl,rfl⟩
 · have hab:a.length=b.length:=by
    have:(a.length:Int)=b.length:=by simpa using h
    omega
   exact J.len 15 rfl fun hl=>Jx a b Γ hl hab  a.length 0 (by omega) (bt _)
def EA:Ent:=(68,fun
 | [.c (.pd (.lst .tran a)),.c (.pd (.lst .tran b)),.c (.fn (.func 69) [] [])],[]=>some (none,.x (.c (.pd (.bool (cV a b)))),[])
 | _,_=>none)
theorem M6:EntOk Tryz.prog EA:=entOk fun vs ck=>by
 unfold EA; dsimp only; split
 · rename_i a b; exact entS fun hp=>JQ a b
 · exact entN
def DI:Cfg:=⟨bx,[Ep,FE,Ek,EA]⟩
theorem DN:ai Tryz.prog DI.tab:=(ai.cons NR (ai.cons NN (ai.cons L0 (ai.cons M6 ai.nil))))
theorem uu (a b:Chart):ak Tryz.prog 31 [.e .chart a,.e .chart b] [] (.x (.b (fC a b))) []:=by
 refine dg DN Tryz.func31 (.ret (.p (.bool (a.name==b.name&&du a.events b.events&&dV a.vars b.vars&&di a.states b.states&&cV a.trans b.trans))) []) fun Γ=>?_
 unfold fC
 simp only [← dj]
 exact ⟨rfl,rfl⟩
def uW:Ent:=(31,fun
 | [.agg [.pd (.str a),.pd (.lst .str b),.pd (.lst .var c),.pd (.lst .stat d),.pd (.lst .tran e)],.agg [.pd (.str f),.pd (.lst .str g),.pd (.lst .var h),.pd (.lst .stat i),.pd (.lst .tran j)]],[]=>some (none,.x (.c (.pd (.bool (fC ⟨a,b,c,d,e⟩ ⟨f,g,h,i,j⟩)))),[])
 | _,_=>none)
theorem Hv:EntOk Tryz.prog uW:=entOk fun vs ck=>by
 unfold uW; dsimp only; split
 · rename_i a b c d e f g h i j; exact entS fun hp=>uu ⟨a,b,c,d,e⟩ ⟨f,g,h,i,j⟩
 · exact entN
end Go.Proofs.YtpfidgnkokidoaaGreatDoor

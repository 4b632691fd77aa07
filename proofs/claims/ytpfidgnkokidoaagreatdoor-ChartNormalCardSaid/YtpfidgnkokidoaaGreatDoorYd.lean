/- Contracts: charts held against each other, by the program and by the document. Conditions: sizes. -/
import Derived.Test.YtpfidgnkokidoaaGreatDoorShelfb
namespace Go.Proofs.YtpfidgnkokidoaaGreatDoor
open Go Go.Ev
set_option maxRecDepth 100000
def l9 (x y:Var):Bool:=x.name==y.name&&(x.kind==y.kind&&(x.lo==y.lo&&(x.hi==y.hi&&(x.init.kind==y.init.kind&&(x.init.a==y.init.a&&x.init.b==y.init.b)))))
def ij (x y:Ev.Stat):Bool:=x.name==y.name&&(x.kind==y.kind&&(x.depth==y.depth&&(x.initial==y.initial&&(bO x.entry y.entry&&bO x.leave y.leave))))
def ig (x y:Tran):Bool:=x.src==y.src&&(x.event==y.event&&(dA x.guard y.guard&&(x.dst==y.dst&&bO x.acts y.acts)))
def dv:List Str→List Str→Bool
 | [],[]=>true
 | x::r,y::q=>x==y&&dv r q
 | _,_=>false
def dQ:List Var→List Var→Bool
 | [],[]=>true
 | x::r,y::q=>l9 x y&&dQ r q
 | _,_=>false
def dh:List Ev.Stat→List Ev.Stat→Bool
 | [],[]=>true
 | x::r,y::q=>ij x y&&dh r q
 | _,_=>false
def cW:List Tran→List Tran→Bool
 | [],[]=>true
 | x::r,y::q=>ig x y&&cW r q
 | _,_=>false
def eR (a b:Chart):Bool:=a.name==b.name&&(dv a.events b.events&&(dQ a.vars b.vars&&(dh a.states b.states&&cW a.trans b.trans)))
theorem mA:∀ a b:List Str,a.length≠b.length→dv a b=false
 | [],[],h=>absurd rfl h
 | [],_::_,_=>rfl
 | _::_,[],_=>rfl
 | x::r,y::q,h=>by rw [dv,mA r q (fun e=>h (by simp [e])),bA]
theorem mL:∀ a b:List Var,a.length≠b.length→dQ a b=false
 | [],[],h=>absurd rfl h
 | [],_::_,_=>rfl
 | _::_,[],_=>rfl
 | x::r,y::q,h=>by rw [dQ,mL r q (fun e=>h (by simp [e])),bA]
theorem lF:∀ a b:List Ev.Stat,a.length≠b.length→dh a b=false
 | [],[],h=>absurd rfl h
 | [],_::_,_=>rfl
 | _::_,[],_=>rfl
 | x::r,y::q,h=>by rw [dh,lF r q (fun e=>h (by simp [e])),bA]
theorem lC:∀ a b:List Tran,a.length≠b.length→cW a b=false
 | [],[],h=>absurd rfl h
 | [],_::_,_=>rfl
 | _::_,[],_=>rfl
 | x::r,y::q,h=>by rw [cW,lC r q (fun e=>h (by simp [e])),bA]
/-! ### the program's -/
abbrev zYd1:List PI:=[.code [1,1,0,1,0,0],.inLoop [1,1,0,1,0,0],.inBlock 0,.code [1,1,1]]
theorem Mp (a b:List Str) (Γ:Ctx) (hl:a.length≤maxLen) (hab:a.length=b.length)  : ∀ (n k:Nat),a.length - k≤n→k≤a.length →
 J Tryz.prog 63 (aH Tryz.f63) Γ (Eq2 (.x (.b (dv (a.drop k) (b.drop k)))) []) zYd1 ({ n:=26,fr:=[(0,.p (.lst .str a)),(1,.p (.lst .str b)),(4,.p (.bool false)),(12,.i a.length),(13,.i k)],ck:=[],kn:=[4] }):=by
 intro n
 induction n with
 | zero=>?_
 | succ n ih=>?_
 all_goals
  intro k hn hk
  refine jg bH Tryz.func63 (.ite (decide ((k:Int)<(a.length:Int))) (.need (inRg k a.length) (.need (inRg k b.length) (.ite (!ETy.get .str a k==ETy.get .str b k) (.ret (.p (.bool false)) []) (.stop zYd1 { n:=26,fr:=[(0,.p (.lst .str a)),(1,.p (.lst .str b)),(4,.p (.bool false)),(12,.i a.length),(13,.i (IntKind.wrap .i64 ((k:Int)+1)))],ck:=[] })))) (.ret (.p (.bool true)) [])) ?_
  refine ⟨fun hlt=>?_,fun hge=>?_⟩
  · have hk':k<a.length:=by have:=of_decide_eq_true hlt; omega
    rw [bY (t:=.str) (l:=a) hk',bY (t:=.str) (l:=b) (by omega)]
    refine ⟨by omega,by omega,?_⟩
    generalize ETy.get .str a k=x
    generalize ETy.get .str b k=y
    refine ⟨fun h=>?_,fun h=>?_⟩
    · have h':(x==y)=false:=nt h
      rw [dv,h',cl]; exact ⟨rfl,rfl⟩
    · have h':(x==y)=true:=nf h
      rw [dv,h',bT,dY (gL hk' hl)]
      first
      | (exfalso; omega)
      | exact J.kn [4] (ih (k+1) (by omega) (by omega))
  · have hk2:k=a.length:=by have:=of_decide_eq_false hge; omega
    have e:a.drop k=[]:=b9 (by omega)
    have e2:b.drop k=[]:=b9 (by omega)
    rw [e,e2]; exact ⟨rfl,rfl⟩
theorem MB (a b:List Str)  : ak Tryz.prog 63 [.l .str (a),.l .str (b)] [] (.x (.b (dv a b))) []:=by
 refine dg bH Tryz.func63 (.ite ((a.length:Int) != (b.length:Int)) (.ret (.p (.bool false)) []) (.stop zYd1 { n:=26,fr:=[(0,.p (.lst .str a)),(1,.p (.lst .str b)),(4,.p (.bool false)),(12,.i a.length),(13,.i 0)],ck:=[],kn:=[4] })) fun Γ=>?_
 refine ⟨fun h=>?_,fun h=>?_⟩
 · rw [mA a b (by have:(a.length:Int)≠b.length:=(by simpa using h); omega)]; exact ⟨rfl,rfl⟩
 · have hab:a.length=b.length:=by
    have:(a.length:Int)=b.length:=by simpa using h
    omega
   exact J.len 0 rfl fun hl=>Mp a b Γ hl hab  a.length 0 (by omega) (br _)
def DH:Ent:=(63,fun
 | [.c (.pd (.lst .str a)),.c (.pd (.lst .str b))],[]=>some (none,.x (.c (.pd (.bool (dv a b)))),[])
 | _,_=>none)
theorem ND:EntOk Tryz.prog DH:=entOk fun vs ck=>by
 unfold DH; dsimp only; split
 · rename_i a b; exact entS fun hp=>MB a b
 · exact entN
theorem LX (a b:List Var) (Γ:Ctx) (hl:a.length≤maxLen) (hab:a.length=b.length)  : ∀ (n k:Nat),a.length - k≤n→k≤a.length →
 J Tryz.prog 64 (aH Tryz.f64) Γ (Eq2 (.x (.b (dQ (a.drop k) (b.drop k)))) []) zYd1 ({ n:=26,fr:=[(0,.p (.lst .var a)),(1,.p (.lst .var b)),(4,.p (.bool false)),(12,.i a.length),(13,.i k)],ck:=[],kn:=[4] }):=by
 intro n
 induction n with
 | zero=>?_
 | succ n ih=>?_
 all_goals
  intro k hn hk
  refine jg bH Tryz.func64 (.ite (decide ((k:Int)<(a.length:Int))) (.need (inRg k a.length) (.need (inRg k b.length) (.ite (!(Var.name (ETy.get .var a k)==Var.name (ETy.get .var b k)&&(Var.kind (ETy.get .var a k)==Var.kind (ETy.get .var b k)&&(Var.lo (ETy.get .var a k)==Var.lo (ETy.get .var b k)&&(Var.hi (ETy.get .var a k)==Var.hi (ETy.get .var b k)&&(Val.kind (Var.init (ETy.get .var a k))==Val.kind (Var.init (ETy.get .var b k))&&(Val.a (Var.init (ETy.get .var a k))==Val.a (Var.init (ETy.get .var b k))&&Val.b (Var.init (ETy.get .var a k))==Val.b (Var.init (ETy.get .var b k))))))))) (.ret (.p (.bool false)) []) (.stop zYd1 { n:=26,fr:=[(0,.p (.lst .var a)),(1,.p (.lst .var b)),(4,.p (.bool false)),(12,.i a.length),(13,.i (IntKind.wrap .i64 ((k:Int)+1)))],ck:=[] })))) (.ret (.p (.bool true)) [])) ?_
  refine ⟨fun hlt=>?_,fun hge=>?_⟩
  · have hk':k<a.length:=by have:=of_decide_eq_true hlt; omega
    rw [bY (t:=.var) (l:=a) hk',bY (t:=.var) (l:=b) (by omega)]
    refine ⟨by omega,by omega,?_⟩
    generalize ETy.get .var a k=x
    generalize ETy.get .var b k=y
    refine ⟨fun h=>?_,fun h=>?_⟩
    · have h':(l9 x y)=false:=nt h
      rw [dQ,h',cl]; exact ⟨rfl,rfl⟩
    · have h':(l9 x y)=true:=nf h
      rw [dQ,h',bT,dY (gL hk' hl)]
      first
      | (exfalso; omega)
      | exact J.kn [4] (ih (k+1) (by omega) (by omega))
  · have hk2:k=a.length:=by have:=of_decide_eq_false hge; omega
    have e:a.drop k=[]:=b9 (by omega)
    have e2:b.drop k=[]:=b9 (by omega)
    rw [e,e2]; exact ⟨rfl,rfl⟩
theorem LZ (a b:List Var)  : ak Tryz.prog 64 [.l .var (a),.l .var (b)] [] (.x (.b (dQ a b))) []:=by
 refine dg bH Tryz.func64 (.ite ((a.length:Int) != (b.length:Int)) (.ret (.p (.bool false)) []) (.stop zYd1 { n:=26,fr:=[(0,.p (.lst .var a)),(1,.p (.lst .var b)),(4,.p (.bool false)),(12,.i a.length),(13,.i 0)],ck:=[],kn:=[4] })) fun Γ=>?_
 refine ⟨fun h=>?_,fun h=>?_⟩
 · rw [mL a b (by have:(a.length:Int)≠b.length:=(by simpa using h); omega)]; exact ⟨rfl,rfl⟩
 · have hab:a.length=b.length:=by
    have:(a.length:Int)=b.length:=by simpa using h
    omega
   exact J.len 0 rfl fun hl=>LX a b Γ hl hab  a.length 0 (by omega) (br _)
def DN:Ent:=(64,fun
 | [.c (.pd (.lst .var a)),.c (.pd (.lst .var b))],[]=>some (none,.x (.c (.pd (.bool (dQ a b)))),[])
 | _,_=>none)
theorem MN:EntOk Tryz.prog DN:=entOk fun vs ck=>by
 unfold DN; dsimp only; split
 · rename_i a b; exact entS fun hp=>LZ a b
 · exact entN
theorem Ng (a b:List Cell) (Γ:Ctx) (hl:a.length≤maxLen) (hab:a.length=b.length)  : ∀ (n k:Nat),a.length - k≤n→k≤a.length →
 J Tryz.prog 70 (aH Tryz.f70) Γ (Eq2 (.x (.b (dA (a.drop k) (b.drop k)))) []) zYd1 ({ n:=26,fr:=[(0,.p (.lst .cell a)),(1,.p (.lst .cell b)),(4,.p (.bool false)),(12,.i a.length),(13,.i k)],ck:=[],kn:=[4] }):=by
 intro n
 induction n with
 | zero=>?_
 | succ n ih=>?_
 all_goals
  intro k hn hk
  refine jg bH Tryz.func70 (.ite (decide ((k:Int)<(a.length:Int))) (.need (inRg k a.length) (.need (inRg k b.length) (.ite (!(Cell.op (ETy.get .cell a k)==Cell.op (ETy.get .cell b k)&&(Cell.a (ETy.get .cell a k)==Cell.a (ETy.get .cell b k)&&Cell.name (ETy.get .cell a k)==Cell.name (ETy.get .cell b k)))) (.ret (.p (.bool false)) []) (.stop zYd1 { n:=26,fr:=[(0,.p (.lst .cell a)),(1,.p (.lst .cell b)),(4,.p (.bool false)),(12,.i a.length),(13,.i (IntKind.wrap .i64 ((k:Int)+1)))],ck:=[] })))) (.ret (.p (.bool true)) [])) ?_
  refine ⟨fun hlt=>?_,fun hge=>?_⟩
  · have hk':k<a.length:=by have:=of_decide_eq_true hlt; omega
    rw [bY (t:=.cell) (l:=a) hk',bY (t:=.cell) (l:=b) (by omega)]
    refine ⟨by omega,by omega,?_⟩
    generalize ETy.get .cell a k=x
    generalize ETy.get .cell b k=y
    refine ⟨fun h=>?_,fun h=>?_⟩
    · have h':(x.op==y.op&&(x.a==y.a&&x.name==y.name))=false:=nt h
      rw [dA,h',cl]; exact ⟨rfl,rfl⟩
    · have h':(x.op==y.op&&(x.a==y.a&&x.name==y.name))=true:=nf h
      rw [dA,h',bT,dY (gL hk' hl)]
      first
      | (exfalso; omega)
      | exact J.kn [4] (ih (k+1) (by omega) (by omega))
  · have hk2:k=a.length:=by have:=of_decide_eq_false hge; omega
    have e:a.drop k=[]:=b9 (by omega)
    have e2:b.drop k=[]:=b9 (by omega)
    rw [e,e2]; exact ⟨rfl,rfl⟩
theorem ML (a b:List Cell)  : ak Tryz.prog 70 [.l .cell (a),.l .cell (b)] [] (.x (.b (dA a b))) []:=by
 refine dg bH Tryz.func70 (.ite ((a.length:Int) != (b.length:Int)) (.ret (.p (.bool false)) []) (.stop zYd1 { n:=26,fr:=[(0,.p (.lst .cell a)),(1,.p (.lst .cell b)),(4,.p (.bool false)),(12,.i a.length),(13,.i 0)],ck:=[],kn:=[4] })) fun Γ=>?_
 refine ⟨fun h=>?_,fun h=>?_⟩
 · rw [pG a b (by have:(a.length:Int)≠b.length:=(by simpa using h); omega)]; exact ⟨rfl,rfl⟩
 · have hab:a.length=b.length:=by
    have:(a.length:Int)=b.length:=by simpa using h
    omega
   exact J.len 0 rfl fun hl=>Ng a b Γ hl hab  a.length 0 (by omega) (br _)
def AP:Ent:=(70,fun
 | [.c (.pd (.lst .cell a)),.c (.pd (.lst .cell b))],[]=>some (none,.x (.c (.pd (.bool (dA a b)))),[])
 | _,_=>none)
theorem Df:EntOk Tryz.prog AP:=entOk fun vs ck=>by
 unfold AP; dsimp only; split
 · rename_i a b; exact entS fun hp=>ML a b
 · exact entN
def Ii:Cfg:=⟨bu,[AP]⟩
theorem Iy:ai Tryz.prog Ii.tab:=(ai.cons Df ai.nil)
theorem JD (x y:Deed):ak Tryz.prog 109 [.e .deed x,.e .deed y] [] (.x (.b (hZ x y))) []:=by
 refine dg Iy Tryz.func109 (.ret (.p (.bool (x.kind==y.kind&&x.name==y.name&&dA x.expr y.expr))) []) fun Γ=>?_
 unfold hZ
 rw [← dj]; exact ⟨rfl,rfl⟩
def yn:Ent:=(109,fun
 | [.agg [.pd (.int .i64 a),.pd (.str b),.pd (.lst .cell c)],.agg [.pd (.int .i64 d),.pd (.str e),.pd (.lst .cell f)]],[]=>some (none,.x (.c (.pd (.bool (hZ ⟨a,b,c⟩ ⟨d,e,f⟩)))),[])
 | _,_=>none)
theorem I7:EntOk Tryz.prog yn:=entOk fun vs ck=>by
 unfold yn; dsimp only; split
 · rename_i a b c d e f; exact entS fun hp=>JD ⟨a,b,c⟩ ⟨d,e,f⟩
 · exact entN
def DA:Cfg:=⟨bu,[yn]⟩
theorem Bi:ai Tryz.prog DA.tab:=(ai.cons I7 ai.nil)
theorem MR (a b:List Deed) (Γ:Ctx) (hl:a.length≤maxLen) (hab:a.length=b.length)  : ∀ (n k:Nat),a.length - k≤n→k≤a.length →
 J Tryz.prog 108 (aH Tryz.f108) Γ (Eq2 (.x (.b (bO (a.drop k) (b.drop k)))) []) zYd1 ({ n:=32,fr:=[(1,.p (.lst .deed b)),(2,.x (.c (.fn (.func 109) [] []))),(6,.p (.bool false)),(15,.p (.lst .deed a)),(16,.i a.length),(17,.i k)],ck:=[],kn:=[6] }):=by
 intro n
 induction n with
 | zero=>?_
 | succ n ih=>?_
 all_goals
  intro k hn hk
  refine jg Bi Tryz.func108 (.ite (decide ((k:Int)<(a.length:Int))) (.need (inRg k a.length) (.need (inRg k b.length) (.ite (!hZ (ETy.get .deed a k) (ETy.get .deed b k)) (.ret (.p (.bool false)) []) (.stop zYd1 { n:=32,fr:=[(1,.p (.lst .deed b)),(2,.x (.c (.fn (.func 109) [] []))),(6,.p (.bool false)),(15,.p (.lst .deed a)),(16,.i a.length),(17,.i (IntKind.wrap .i64 ((k:Int)+1)))],ck:=[],kn:=[6] })))) (.ret (.p (.bool true)) [])) ?_
  refine ⟨fun hlt=>?_,fun hge=>?_⟩
  · have hk':k<a.length:=by have:=of_decide_eq_true hlt; omega
    rw [bY (t:=.deed) (l:=a) hk',bY (t:=.deed) (l:=b) (by omega)]
    refine ⟨by omega,by omega,?_⟩
    generalize ETy.get .deed a k=x
    generalize ETy.get .deed b k=y
    refine ⟨fun h=>?_,fun h=>?_⟩
    · have h':(hZ x y)=false:=nt h
      rw [bO,h',cl]; exact ⟨rfl,rfl⟩
    · have h':(hZ x y)=true:=nf h
      rw [bO,h',bT,dY (gL hk' hl)]
      first
      | (exfalso; omega)
      | exact J.kn [6] (ih (k+1) (by omega) (by omega))
  · have hk2:k=a.length:=by have:=of_decide_eq_false hge; omega
    have e:a.drop k=[]:=b9 (by omega)
    have e2:b.drop k=[]:=b9 (by omega)
    rw [e,e2]; exact ⟨rfl,rfl⟩
theorem Mj (a b:List Deed)  : ak Tryz.prog 108 [.l .deed (a),.l .deed (b),SX.c (SC.fn (Fn.func 109) [] [])] [] (.x (.b (bO a b))) []:=by
 refine dg Bi Tryz.func108 (.ite ((a.length:Int) != (b.length:Int)) (.ret (.p (.bool false)) []) (.stop zYd1 { n:=32,fr:=[(1,.p (.lst .deed b)),(2,.x (.c (.fn (.func 109) [] []))),(6,.p (.bool false)),(15,.p (.lst .deed a)),(16,.i a.length),(17,.i 0)],ck:=[],kn:=[6] })) fun Γ=>?_
 refine ⟨fun h=>?_,fun h=>?_⟩
 · rw [lG a b (by have:(a.length:Int)≠b.length:=(by simpa using h); omega)]; exact ⟨rfl,rfl⟩
 · have hab:a.length=b.length:=by
    have:(a.length:Int)=b.length:=by simpa using h
    omega
   exact J.len 15 rfl fun hl=>MR a b Γ hl hab  a.length 0 (by omega) (br _)
def E6:Ent:=(108,fun
 | [.c (.pd (.lst .deed a)),.c (.pd (.lst .deed b)),.c (.fn (.func 109) [] [])],[]=>some (none,.x (.c (.pd (.bool (bO a b)))),[])
 | _,_=>none)
theorem Mn:EntOk Tryz.prog E6:=entOk fun vs ck=>by
 unfold E6; dsimp only; split
 · rename_i a b; exact entS fun hp=>Mj a b
 · exact entN
def HK:Cfg:=⟨bu,[E6]⟩
theorem HI:ai Tryz.prog HK.tab:=(ai.cons Mn ai.nil)
theorem I0 (a b:List Deed):ak Tryz.prog 67 [.l .deed a,.l .deed b] [] (.x (.b (bO a b))) []:=by
 refine dg HI Tryz.func67 (.ret (.p (.bool (bO a b))) []) fun Γ=>?_
 exact ⟨rfl,rfl⟩
def A4:Ent:=(67,fun
 | [.c (.pd (.lst .deed a)),.c (.pd (.lst .deed b))],[]=>some (none,.x (.c (.pd (.bool (bO a b)))),[])
 | _,_=>none)
theorem C5:EntOk Tryz.prog A4:=entOk fun vs ck=>by
 unfold A4; dsimp only; split
 · rename_i a b; exact entS fun hp=>I0 a b
 · exact entN
def GG:Cfg:=⟨bu,[A4]⟩
theorem HQ:ai Tryz.prog GG.tab:=(ai.cons C5 ai.nil)
theorem JR (x y:Ev.Stat):ak Tryz.prog 66 [.e .stat x,.e .stat y] [] (.x (.b (ij x y))) []:=by
 refine dg HQ Tryz.func66 (.ret (.p (.bool (x.name==y.name&&x.kind==y.kind&&x.depth==y.depth&&x.initial==y.initial&&bO x.entry y.entry&&bO x.leave y.leave))) []) fun Γ=>?_
 unfold ij
 simp only [← dj]
 exact ⟨rfl,rfl⟩
def FJ:Ent:=(66,fun
 | [.agg [.pd (.str a),.pd (.int .i64 b),.pd (.int .i64 c),.pd (.str d),.pd (.lst .deed e),.pd (.lst .deed f)],.agg [.pd (.str g),.pd (.int .i64 h),.pd (.int .i64 i),.pd (.str j),.pd (.lst .deed k),.pd (.lst .deed l)]],[]=>some (none,.x (.c (.pd (.bool (ij ⟨a,b,c,d,e,f⟩ ⟨g,h,i,j,k,l⟩)))),[])
 | _,_=>none)
theorem M6:EntOk Tryz.prog FJ:=entOk fun vs ck=>by
 unfold FJ; dsimp only; split
 · rename_i a b c d e f g h i j k l; exact entS fun hp=>JR ⟨a,b,c,d,e,f⟩ ⟨g,h,i,j,k,l⟩
 · exact entN
def H9:Cfg:=⟨bu,[AP,A4]⟩
theorem Hy:ai Tryz.prog H9.tab:=(ai.cons Df (ai.cons C5 ai.nil))
theorem JQ (x y:Tran):ak Tryz.prog 69 [.e .tran x,.e .tran y] [] (.x (.b (ig x y))) []:=by
 refine dg Hy Tryz.func69 (.ret (.p (.bool (x.src==y.src&&x.event==y.event&&dA x.guard y.guard&&x.dst==y.dst&&bO x.acts y.acts))) []) fun Γ=>?_
 unfold ig
 simp only [← dj]
 exact ⟨rfl,rfl⟩
def E9:Ent:=(69,fun
 | [.agg [.pd (.int .i64 a),.pd (.str b),.pd (.lst .cell c),.pd (.str d),.pd (.lst .deed e)],.agg [.pd (.int .i64 f),.pd (.str g),.pd (.lst .cell h),.pd (.str i),.pd (.lst .deed j)]],[]=>some (none,.x (.c (.pd (.bool (ig ⟨a,b,c,d,e⟩ ⟨f,g,h,i,j⟩)))),[])
 | _,_=>none)
theorem MP:EntOk Tryz.prog E9:=entOk fun vs ck=>by
 unfold E9; dsimp only; split
 · rename_i a b c d e f g h i j; exact entS fun hp=>JQ ⟨a,b,c,d,e⟩ ⟨f,g,h,i,j⟩
 · exact entN
def AI:Cfg:=⟨bu,[FJ]⟩
theorem xy:ai Tryz.prog AI.tab:=(ai.cons M6 ai.nil)
theorem Jn (a b:List Ev.Stat) (Γ:Ctx) (hl:a.length≤maxLen) (hab:a.length=b.length)  : ∀ (n k:Nat),a.length - k≤n→k≤a.length →
 J Tryz.prog 65 (aH Tryz.f65) Γ (Eq2 (.x (.b (dh (a.drop k) (b.drop k)))) []) zYd1 ({ n:=32,fr:=[(1,.p (.lst .stat b)),(2,.x (.c (.fn (.func 66) [] []))),(6,.p (.bool false)),(15,.p (.lst .stat a)),(16,.i a.length),(17,.i k)],ck:=[],kn:=[6] }):=by
 intro n
 induction n with
 | zero=>?_
 | succ n ih=>?_
 all_goals
  intro k hn hk
  refine jg xy Tryz.func65 (.ite (decide ((k:Int)<(a.length:Int))) (.need (inRg k a.length) (.need (inRg k b.length) (.ite (!ij (ETy.get .stat a k) (ETy.get .stat b k)) (.ret (.p (.bool false)) []) (.stop zYd1 { n:=32,fr:=[(1,.p (.lst .stat b)),(2,.x (.c (.fn (.func 66) [] []))),(6,.p (.bool false)),(15,.p (.lst .stat a)),(16,.i a.length),(17,.i (IntKind.wrap .i64 ((k:Int)+1)))],ck:=[],kn:=[6] })))) (.ret (.p (.bool true)) [])) ?_
  refine ⟨fun hlt=>?_,fun hge=>?_⟩
  · have hk':k<a.length:=by have:=of_decide_eq_true hlt; omega
    rw [bY (t:=.stat) (l:=a) hk',bY (t:=.stat) (l:=b) (by omega)]
    refine ⟨by omega,by omega,?_⟩
    generalize ETy.get .stat a k=x
    generalize ETy.get .stat b k=y
    refine ⟨fun h=>?_,fun h=>?_⟩
    · have h':(ij x y)=false:=nt h
      rw [dh,h',cl]; exact ⟨rfl,rfl⟩
    · have h':(ij x y)=true:=nf h
      rw [dh,h',bT,dY (gL hk' hl)]
      first
      | (exfalso; omega)
      | exact J.kn [6] (ih (k+1) (by omega) (by omega))
  · have hk2:k=a.length:=by have:=of_decide_eq_false hge; omega
    have e:a.drop k=[]:=b9 (by omega)
    have e2:b.drop k=[]:=b9 (by omega)
    rw [e,e2]; exact ⟨rfl,rfl⟩
theorem JW (a b:List Ev.Stat)  : ak Tryz.prog 65 [.l .stat (a),.l .stat (b),SX.c (SC.fn (Fn.func 66) [] [])] [] (.x (.b (dh a b))) []:=by
 refine dg xy Tryz.func65 (.ite ((a.length:Int) != (b.length:Int)) (.ret (.p (.bool false)) []) (.stop zYd1 { n:=32,fr:=[(1,.p (.lst .stat b)),(2,.x (.c (.fn (.func 66) [] []))),(6,.p (.bool false)),(15,.p (.lst .stat a)),(16,.i a.length),(17,.i 0)],ck:=[],kn:=[6] })) fun Γ=>?_
 refine ⟨fun h=>?_,fun h=>?_⟩
 · rw [lF a b (by have:(a.length:Int)≠b.length:=(by simpa using h); omega)]; exact ⟨rfl,rfl⟩
 · have hab:a.length=b.length:=by
    have:(a.length:Int)=b.length:=by simpa using h
    omega
   exact J.len 15 rfl fun hl=>Jn a b Γ hl hab  a.length 0 (by omega) (br _)
def Eh:Ent:=(65,fun
 | [.c (.pd (.lst .stat a)),.c (.pd (.lst .stat b)),.c (.fn (.func 66) [] [])],[]=>some (none,.x (.c (.pd (.bool (dh a b)))),[])
 | _,_=>none)
theorem NC:EntOk Tryz.prog Eh:=entOk fun vs ck=>by
 unfold Eh; dsimp only; split
 · rename_i a b; exact entS fun hp=>JW a b
 · exact entN
def Ay:Cfg:=⟨bu,[E9]⟩
theorem xY:ai Tryz.prog Ay.tab:=(ai.cons MP ai.nil)
theorem IK (a b:List Tran) (Γ:Ctx) (hl:a.length≤maxLen) (hab:a.length=b.length)  : ∀ (n k:Nat),a.length - k≤n→k≤a.length →
 J Tryz.prog 68 (aH Tryz.f68) Γ (Eq2 (.x (.b (cW (a.drop k) (b.drop k)))) []) zYd1 ({ n:=32,fr:=[(1,.p (.lst .tran b)),(2,.x (.c (.fn (.func 69) [] []))),(6,.p (.bool false)),(15,.p (.lst .tran a)),(16,.i a.length),(17,.i k)],ck:=[],kn:=[6] }):=by
 intro n
 induction n with
 | zero=>?_
 | succ n ih=>?_
 all_goals
  intro k hn hk
  refine jg xY Tryz.func68 (.ite (decide ((k:Int)<(a.length:Int))) (.need (inRg k a.length) (.need (inRg k b.length) (.ite (!ig (ETy.get .tran a k) (ETy.get .tran b k)) (.ret (.p (.bool false)) []) (.stop zYd1 { n:=32,fr:=[(1,.p (.lst .tran b)),(2,.x (.c (.fn (.func 69) [] []))),(6,.p (.bool false)),(15,.p (.lst .tran a)),(16,.i a.length),(17,.i (IntKind.wrap .i64 ((k:Int)+1)))],ck:=[],kn:=[6] })))) (.ret (.p (.bool true)) [])) ?_
  refine ⟨fun hlt=>?_,fun hge=>?_⟩
  · have hk':k<a.length:=by have:=of_decide_eq_true hlt; omega
    rw [bY (t:=.tran) (l:=a) hk',bY (t:=.tran) (l:=b) (by omega)]
    refine ⟨by omega,by omega,?_⟩
    generalize ETy.get .tran a k=x
    generalize ETy.get .tran b k=y
    refine ⟨fun h=>?_,fun h=>?_⟩
    · have h':(ig x y)=false:=nt h
      rw [cW,h',cl]; exact ⟨rfl,rfl⟩
    · have h':(ig x y)=true:=nf h
      rw [cW,h',bT,dY (gL hk' hl)]
      first
      | (exfalso; omega)
      | exact J.kn [6] (ih (k+1) (by omega) (by omega))
  · have hk2:k=a.length:=by have:=of_decide_eq_false hge; omega
    have e:a.drop k=[]:=b9 (by omega)
    have e2:b.drop k=[]:=b9 (by omega)
    rw [e,e2]; exact ⟨rfl,rfl⟩
theorem Jw (a b:List Tran)  : ak Tryz.prog 68 [.l .tran (a),.l .tran (b),SX.c (SC.fn (Fn.func 69) [] [])] [] (.x (.b (cW a b))) []:=by
 refine dg xY Tryz.func68 (.ite ((a.length:Int) != (b.length:Int)) (.ret (.p (.bool false)) []) (.stop zYd1 { n:=32,fr:=[(1,.p (.lst .tran b)),(2,.x (.c (.fn (.func 69) [] []))),(6,.p (.bool false)),(15,.p (.lst .tran a)),(16,.i a.length),(17,.i 0)],ck:=[],kn:=[6] })) fun Γ=>?_
 refine ⟨fun h=>?_,fun h=>?_⟩
 · rw [lC a b (by have:(a.length:Int)≠b.length:=(by simpa using h); omega)]; exact ⟨rfl,rfl⟩
 · have hab:a.length=b.length:=by
    have:(a.length:Int)=b.length:=by simpa using h
    omega
   exact J.len 15 rfl fun hl=>IK a b Γ hl hab  a.length 0 (by omega) (br _)
def Fm:Ent:=(68,fun
 | [.c (.pd (.lst .tran a)),.c (.pd (.lst .tran b)),.c (.fn (.func 69) [] [])],[]=>some (none,.x (.c (.pd (.bool (cW a b)))),[])
 | _,_=>none)
theorem LS:EntOk Tryz.prog Fm:=entOk fun vs ck=>by
 unfold Fm; dsimp only; split
 · rename_i a b; exact entS fun hp=>Jw a b
 · exact entN
def CY:Cfg:=⟨bu,[DH,DN,Eh,Fm]⟩
theorem DQ:ai Tryz.prog CY.tab:=(ai.cons ND (ai.cons MN (ai.cons NC (ai.cons LS ai.nil))))
theorem uZ (a b:Chart):ak Tryz.prog 31 [.e .chart a,.e .chart b] [] (.x (.b (eR a b))) []:=by
 refine dg DQ Tryz.func31 (.ret (.p (.bool (a.name==b.name&&dv a.events b.events&&dQ a.vars b.vars&&dh a.states b.states&&cW a.trans b.trans))) []) fun Γ=>?_
 unfold eR
 simp only [← dj]
 exact ⟨rfl,rfl⟩
def vJ:Ent:=(31,fun
 | [.agg [.pd (.str a),.pd (.lst .str b),.pd (.lst .var c),.pd (.lst .stat d),.pd (.lst .tran e)],.agg [.pd (.str f),.pd (.lst .str g),.pd (.lst .var h),.pd (.lst .stat i),.pd (.lst .tran j)]],[]=>some (none,.x (.c (.pd (.bool (eR ⟨a,b,c,d,e⟩ ⟨f,g,h,i,j⟩)))),[])
 | _,_=>none)
theorem Hz:EntOk Tryz.prog vJ:=entOk fun vs ck=>by
 unfold vJ; dsimp only; split
 · rename_i a b c d e f g h i j; exact entS fun hp=>uZ ⟨a,b,c,d,e⟩ ⟨f,g,h,i,j⟩
 · exact entN
end Go.Proofs.YtpfidgnkokidoaaGreatDoor

/- Contracts of the program's functions on points: made, parted. Conditions: none. Plain laws: whole numbers within int64, products; what operations on values come to. Conditions: each theorem's own. Contracts: values that may be. Conditions: none. Contracts: valid: variables, a state's Initial. Conditions: sizes. Contracts: valid: blocks. Conditions: sizes. -/
import Derived.Test.YtgfifkhbfdacjaaGreatDoorKb
import Derived.Test.YtgfifkhbfdacjaaGreatDoorId
import Derived.Laws.MathBits
namespace Go.Proofs.YtgfifkhbfdacjaaGreatDoor
open Go Go.Ev
set_option maxRecDepth 100000
theorem Db (a b:Int):ah Tryz.prog 175 [.i a,.i b] [] (.tup [.c (.pd (.cx (some (kE a b)))),.i (kM a b)]) []:=by
 refine dg aY Tryz.func175 (.ite (decide (a<(-1048576:Int))||decide (a>(1048576:Int))||decide (b<(-1048576:Int))||decide (b>(1048576:Int))) (.ret (.tup [.p (.cx (some (0,0))),.i 5]) []) (.ret (.tup [.p (.cx (some (FloatKind.nearest FloatKind.f64 a,FloatKind.nearest FloatKind.f64 b))),.i 0]) [])) fun Γ=>?_
 refine ⟨fun h=>⟨?_,rfl⟩,fun h=>⟨?_,rfl⟩⟩
 · have:(pIn a&&pIn b)=false:=by
    simp only [aL,decide_eq_true_eq] at h
    simp only [pIn,cy,decide_eq_false_iff_not]; omega
   simp [kE,kM,this]
 · have:(pIn a&&pIn b)=true:=by
    simp only [az,decide_eq_false_iff_not] at h
    simp only [pIn,af,decide_eq_true_eq]; omega
   simp [kE,kM,this,num]
def qX:Ent:=(175,fun
 | [.c (.pd (.int .i64 a)),.c (.pd (.int .i64 b))],[]=>some (none,.tup [.c (.pd (.cx (some (kE a b)))),.c (.pd (.int .i64 (kM a b)))],[])
 | _,_=>none)
theorem D2:EntOk Tryz.prog qX:=entOk fun vs ck=>by
 unfold qX; dsimp only; split
 · rename_i a b; exact entS fun hp=>Db a b
 · exact entN
end Go.Proofs.YtgfifkhbfdacjaaGreatDoor
namespace Go.Ev
def i64 (n:Int):Bool:=decide (-9223372036854775808≤n)&&decide (n≤9223372036854775807)
def u64 (n:Int):Bool:=decide (0≤n)&&decide (n<18446744073709551616)
end Go.Ev
namespace Go.Ev
def vR (v:Val):Bool:=if v.kind=1 then v.b==0 else if v.kind=2 then v.b==0&&(v.a==0||v.a==1) else if v.kind=3 then pIn v.a&&pIn v.b else false
/-! ### points -/
theorem mQ {a b:Int} (ha:pIn a=true) (hb:pIn b=true):kE a b=(num a,num b)∧kM a b=0∧isP (kE a b) a b∧wP (kE a b)=true:=by
 have e:kE a b=(num a,num b):=by simp [kE,ha,hb]
 have h:=ML (a:=a) (b:=b) (by have:=te ha; omega) (by have:=te hb; omega)
 refine ⟨e,by simp [kM,ha,hb],by rw [e]; exact h,?_⟩
 rw [e,Ef h,ha,hb]; rfl
/-! ### what comes of values that may be may be, too -/
end Go.Ev
namespace Go.Proofs.YtgfifkhbfdacjaaGreatDoor
open Go Go.Ev
set_option maxRecDepth 100000
theorem LS (a:Int):ah Tryz.prog 168 [.i a] [] (.x (.b (pIn a))) []:=by
 refine dg aY Tryz.func168 (.ret (.p (.bool (decide (a≥(-1048576:Int))&&decide (a≤(1048576:Int))))) []) fun Γ=>?_
 exact ⟨rfl,rfl⟩
def eIn:Ent:=(168,fun
 | [.c (.pd (.int .i64 a))],[]=>some (none,.x (.c (.pd (.bool (pIn a)))),[])
 | _,_=>none)
theorem Ou:EntOk Tryz.prog eIn:=entOk fun vs ck=>by
 unfold eIn; dsimp only; split
 · rename_i a; exact entS fun hp=>LS a
 · exact entN
def KL:Cfg:=⟨aW,[eIn]⟩
theorem Hk:ag Tryz.prog KL.tab:=(ag.cons Ou ag.nil)
def Ba:Cfg:=⟨aW,[qX]⟩
theorem CX:ag Tryz.prog Ba.tab:=(ag.cons D2 ag.nil)
theorem wR (k a b:Int):ah Tryz.prog 140 [.agg [.pd (.i k),.pd (.i a),.pd (.i b)]] [] (.x (.b (vR ⟨k,a,b⟩))) []:=by
 refine dg (cfg:=(Ba)) CX Tryz.func140 (.ite (k==(1:Int)) (.ret (.p (.bool (b==(0:Int)))) []) (.ite (k==(2:Int)) (.ret (.p (.bool (b==(0:Int)&&(a==(0:Int)||a==(1:Int))))) []) (.ite (k==(3:Int)) (.ret (.p (.bool (kM a b==(0:Int)))) []) (.ret (.p (.bool false)) [])))) fun Γ=>?_
 refine ⟨fun h=>⟨?_,rfl⟩,fun h1=>⟨fun h=>⟨?_,rfl⟩,fun h2=>⟨fun h=>⟨?_,rfl⟩,fun h3=>⟨?_,rfl⟩⟩⟩⟩
 · simp_all [vR]
 · simp_all [vR]
 · have e:vR ⟨k,a,b⟩=(pIn a&&pIn b):=by simp_all [vR]
   rw [e]
   cases h':(pIn a&&pIn b)
   · simp [kM,h']
   · simp [kM,h']
 · simp_all [vR]
def nx:Ent:=(140,fun
 | [.agg [.pd (.int .i64 k),.pd (.int .i64 a),.pd (.int .i64 b)]],[]=>some (none,.x (.c (.pd (.bool (vR ⟨k,a,b⟩)))),[])
 | _,_=>none)
theorem Ab:EntOk Tryz.prog nx:=entOk fun vs ck=>by
 unfold nx; dsimp only; split
 · rename_i k a b; exact entS fun hp=>wR k a b
 · exact entN
theorem vH (k a b:Int):ah Tryz.prog 126 [.agg [.pd (.i k),.pd (.i a),.pd (.i b)]] [] (.x (.b (vR ⟨k,a,b⟩))) []:=by
 refine dg (cfg:=(KL)) Hk Tryz.func126 (.ite (k==(1:Int)) (.ret (.p (.bool (b==(0:Int)))) []) (.ite (k==(2:Int)) (.ret (.p (.bool (k==(2:Int)&&(a==(0:Int)&&b==(0:Int))||k==(2:Int)&&(a==(1:Int)&&b==(0:Int))))) []) (.ite (k==(3:Int)) (.ret (.p (.bool (pIn a&&pIn b))) []) (.ret (.p (.bool false)) [])))) fun Γ=>?_
 refine ⟨fun h=>⟨?_,rfl⟩,fun h1=>⟨fun h=>⟨?_,rfl⟩,fun h2=>⟨fun h=>⟨?_,rfl⟩,fun h3=>⟨?_,rfl⟩⟩⟩⟩
 · simp_all [vR]
 · have e:k=2:=by simpa using h
   subst e
   have e2:vR ⟨2,a,b⟩=(b==0&&(a==0||a==1)):=by simp [vR]
   rw [e2]
   cases hb:b==0 <;> cases h0:a==0 <;> cases h4:a==1 <;> simp
 · simp_all [vR]
 · simp_all [vR]
def lJ:Ent:=(126,fun
 | [.agg [.pd (.int .i64 k),.pd (.int .i64 a),.pd (.int .i64 b)]],[]=>some (none,.x (.c (.pd (.bool (vR ⟨k,a,b⟩)))),[])
 | _,_=>none)
theorem yo:EntOk Tryz.prog lJ:=entOk fun vs ck=>by
 unfold lJ; dsimp only; split
 · rename_i k a b; exact entS fun hp=>vH k a b
 · exact entN
def KE:Cfg:=⟨aW,[nx,kB]⟩
theorem Jl:ag Tryz.prog KE.tab:=(ag.cons Ab (ag.cons jB ag.nil))
variable (c:Chart) (l:List Ev.Stat) (i:Nat) (v:Var)
def nh:Int:=if (v.kind==3)=true then 1048576 else 1099511627776
def tJ:Int:=if (v.kind==3)=true then (if v.init.b<v.init.a then v.init.b else v.init.a) else v.init.a
def pO:Int:=if (v.kind==3)=true then (if v.init.b>v.init.a then v.init.b else v.init.a) else v.init.a
def eo:Int :=
 if (decide (v.kind<1)||decide (v.kind>3)||v.init.kind != v.kind)=true then 8
 else if (decide (v.lo>v.hi)||decide (v.lo < - nh v)||decide (v.hi>nh v)||v.kind==2&&(v.lo != 0||v.hi != 1))=true then 5
 else bU (vR v.init&&decide (tJ v≥v.lo)&&decide (pO v≤v.hi)) 5
def di:Int :=
 if ((ETy.get .stat l i).kind != 2 && !aM (ETy.get .stat l i).kind)=true then bU ((ETy.get .stat l i).initial==[]) 1
 else if (decide (ar l (ETy.get .stat l i).initial<0)||aM (ETy.get .stat l (ar l (ETy.get .stat l i).initial).toNat).kind)=true then 2
 else if ((ETy.get .stat l i).kind==2)=true then bU (bj l (ar l (ETy.get .stat l i).initial)==(i:Int)) 2
 else if ((ETy.get .stat l i).kind==5)=true then bU (bj l (ar l (ETy.get .stat l i).initial)==bj l i) 2
 else bU (gu l (bj l i) (ar l (ETy.get .stat l i).initial)) 2
theorem EE:ah Tryz.prog 91 [.e .var v] [] (.x (.i (eo v))) []:=by
 refine dg Jl Tryz.func91 (let x1:Tree:=(.ite (v.kind==(3:Int)) (.ret (.i (bU (vR v.init&&decide ((if v.init.b<v.init.a then v.init.b else v.init.a)≥v.lo)&&decide ((if v.init.b>v.init.a then v.init.b else v.init.a)≤v.hi)) (5:Int))) []) (.ret (.i (bU (vR v.init&&decide (v.init.a≥v.lo)&&decide (v.init.a≤v.hi)) (5:Int))) [])); let x2:=(v.lo != (0:Int)||v.hi != (1:Int)); .ite (decide (v.kind<(1:Int))||decide (v.kind>(3:Int))||v.init.kind != v.kind) (.ret (.i 8) []) (.ite (v.kind==(3:Int)) (.ite (decide (v.lo>v.hi)||decide (v.lo<IntKind.wrap .i64 ((0:Int) - 1048576))||decide (v.hi>(1048576:Int))||v.kind==(2:Int)&&x2) (.ret (.i 5) []) x1) (.ite (decide (v.lo>v.hi)||decide (v.lo<IntKind.wrap .i64 ((0:Int) - 1099511627776))||decide (v.hi>(1099511627776:Int))||v.kind==(2:Int)&&x2) (.ret (.i 5) []) x1))) fun Γ=>?_
 conv=>zeta
 have w1:IntKind.wrap .i64 (0 - 1048576) = -1048576:=by decide
 have w2:IntKind.wrap .i64 (0 - 1099511627776) = -1099511627776:=by decide
 refine ⟨fun h=>?_,fun h=>⟨fun h3=>⟨fun hr=>?_,fun hr=>⟨fun h4=>?_,fun h4=>?_⟩⟩,fun h3=>⟨fun hr=>?_,fun hr=>⟨fun h4=>?_,fun h4=>?_⟩⟩⟩⟩
 · unfold eo; rw [if_pos h]; exact ⟨rfl,rfl⟩
 · rw [w1] at hr
   unfold eo; rw [if_neg (by rw [h]; decide)]
   simp only [nh,if_pos h3]
   rw [if_pos hr]; exact ⟨rfl,rfl⟩
 · rw [w1] at hr
   unfold eo; rw [if_neg (by rw [h]; decide)]
   simp only [nh,tJ,pO,if_pos h3]
   rw [if_neg (by rw [hr]; decide)]; exact ⟨rfl,rfl⟩
 · rw [h3] at h4; cases h4
 · rw [w2] at hr
   unfold eo; rw [if_neg (by rw [h]; decide)]
   simp only [nh,if_neg (show ¬(v.kind==3)=true by rw [h3]; decide)]
   rw [if_pos hr]; exact ⟨rfl,rfl⟩
 · rw [h3] at h4; cases h4
 · rw [w2] at hr
   unfold eo; rw [if_neg (by rw [h]; decide)]
   simp only [nh,tJ,pO,if_neg (show ¬(v.kind==3)=true by rw [h3]; decide)]
   rw [if_neg (by rw [hr]; decide)]; exact ⟨rfl,rfl⟩
def vQ:Ent:=(91,fun
 | [.agg [.pd (.str a),.pd (.int .i64 b),.pd (.int .i64 e),.pd (.int .i64 f),.pd (.int .i64 g),.pd (.int .i64 h),.pd (.int .i64 i)]],[]=>some (none,.x (.c (.pd (.int .i64 (eo ⟨a,b,e,f,⟨g,h,i⟩⟩)))),[])
 | _,_=>none)
theorem IA:EntOk Tryz.prog vQ:=entOk fun vs ck=>by
 unfold vQ; dsimp only; split
 · rename_i a b e f g h i; exact entS fun hp=>EE ⟨a,b,e,f,⟨g,h,i⟩⟩
 · exact entN
def G8:Cfg:=⟨aW,[mz,kB,ka,jC,mq]⟩
theorem F7:ag Tryz.prog G8.tab:=(ag.cons ox (ag.cons jB (ag.cons kh (ag.cons kL (ag.cons si ag.nil)))))
theorem kI {α:Type} (p:α→Bool):∀ (l:List α) (i:Int),0≤i→aE p l i = -1∨(i≤aE p l i∧aE p l i<i+(l.length:Int))
 | [],i,_=>.inl rfl
 | x :: r,i,h=>by
   have ih:=kI p r (i+1) (by omega)
   unfold aE
   cases p x
   · rw [cond_false]
     rcases ih with e | ⟨h1,h2⟩
     · exact .inl e
     · refine .inr ⟨by omega,?_⟩
       rw [aF]; omega
   · rw [cond_true]
     refine .inr ⟨by omega,?_⟩
     rw [aF]; omega
theorem jD (n:Str):ar l n = -1∨(0≤ar l n∧ar l n<(l.length:Int)):=by
 rcases kI (fun s:Ev.Stat=>s.name==n) l 0 (by omega) with h | ⟨h1,h2⟩
 · exact .inl h
 · exact .inr ⟨h1,by unfold ar; omega⟩
theorem FV (hi:i<c.states.length) (hl:c.states.length≤maxLen):ah Tryz.prog 89 [.e .chart c,.i (i:Int)] [] (.x (.i (di c.states i))) []:=by
 refine dg F7 Tryz.func89 (let x1:=(ETy.get .stat c.states i); let x2:=(ar c.states (Stat.initial x1)); let x3:=(c.states.length≤maxLen); let x4:=(ar c.states (Stat.initial x1)<(0:Int)); .need (inRg i c.states.length) (.ite (Stat.kind x1 != (2:Int) && !aM (Stat.kind x1)) (.ret (.i (bU (Stat.initial x1==[]) (1:Int))) []) (.need (decide x4=false→(0:Int)≤ar c.states (Stat.initial x1)∧ar c.states (Stat.initial x1)<(c.states.length:Int)) (.ite (decide x4||aM (Stat.kind (ETy.get .stat c.states (x2.toNat)))) (.ret (.i 2) []) (.need x3 (.ite (Stat.kind x1==(2:Int)) (.need x3 (.ret (.i (bU (bj c.states x2==(i:Int)) (2:Int))) [])) (.ite (Stat.kind x1==(5:Int)) (.need x3 (.ret (.i (bU (bj c.states x2==bj c.states (i:Int)) (2:Int))) [])) (.need x3 (.ret (.i (bU (gu c.states (bj c.states (i:Int)) x2) (2:Int))) []))))))))) fun Γ=>?_
 conv=>zeta
 unfold di
 have hp:=jD c.states (ETy.get .stat c.states i).initial
 refine ⟨⟨by omega,by omega⟩,fun h=>?_,fun h=>⟨fun h2=>?_,fun h3=>?_,fun h3=>⟨hl,fun h4=>⟨hl,?_⟩,fun h4=>⟨fun h5=>⟨hl,?_⟩,fun h5=>⟨hl,?_⟩⟩⟩⟩⟩
 · rw [if_pos h]; exact ⟨rfl,rfl⟩
 · have:=of_decide_eq_false h2
   rcases hp with e | e
   · omega
   · exact e
 · rw [if_neg (by rw [h]; decide),if_pos h3]; exact ⟨rfl,rfl⟩
 · rw [if_neg (by rw [h]; decide),if_neg (by rw [h3]; decide),if_pos h4]; exact ⟨rfl,rfl⟩
 · rw [if_neg (by rw [h]; decide),if_neg (by rw [h3]; decide),if_neg (by rw [h4]; decide),if_pos h5]; exact ⟨rfl,rfl⟩
 · rw [if_neg (by rw [h]; decide),if_neg (by rw [h3]; decide),if_neg (by rw [h4]; decide),if_neg (by rw [h5]; decide)]; exact ⟨rfl,rfl⟩
theorem BC (i:Int) (h:0≤i∧i<(c.states.length:Int)∧c.states.length≤maxLen):ah Tryz.prog 89 [.e .chart c,.i i] [] (.x (.i (di c.states i.toNat))) []:=by
 obtain ⟨k,rfl⟩:=ax h.1
 rw [ai]
 exact FV c k (by omega) h.2.2
def sb:Ent:=(89,fun
 | [.agg [.pd (.str a),.pd (.lst .str b),.pd (.lst .var c),.pd (.lst .stat d),.pd (.lst .tran e)],.c (.pd (.int .i64 i))],[]=>some (some (0≤i∧i<(d.length:Int)∧d.length≤maxLen),.x (.c (.pd (.int .i64 (di d i.toNat)))),[])
 | _,_=>none)
theorem FH:EntOk Tryz.prog sb:=entOk fun vs ck=>by
 unfold sb; dsimp only; split
 · rename_i a b c d e i; exact entS fun hp=>BC ⟨a,b,c,d,e⟩ i hp
 · exact entN
end Go.Proofs.YtgfifkhbfdacjaaGreatDoor
namespace Go.Proofs.YtgfifkhbfdacjaaGreatDoor
open Go Go.Ev
set_option maxRecDepth 100000
theorem HZ (v:Var) (a:Deed):ah Tryz.prog 179 [.e .var v,.p (.ref .deed a 0)] [] (.x (.b (v.name==a.name))) []:=by
 refine dg aY Tryz.func179 (.ret (.p (.bool (v.name==a.name))) []) fun Γ=>⟨rfl,rfl⟩
def Dz:Ent:=(179,fun
 | [.agg [.pd (.str a),.pd (.int .i64 b),.pd (.int .i64 e),.pd (.int .i64 f),.pd (.int .i64 g),.pd (.int .i64 h),.pd (.int .i64 i)],.c (.pd (.ref .deed ⟨x,y,z⟩ 0))],[]=>some (none,.x (.c (.pd (.bool (a==y)))),[])
 | _,_=>none)
theorem MX:EntOk Tryz.prog Dz:=entOk fun vs ck=>by
 unfold Dz; dsimp only; split
 · rename_i a b e f g h i x y z; exact entS fun hp=>HZ ⟨a,b,e,f,⟨g,h,i⟩⟩ ⟨x,y,z⟩
 · exact entN
def yH:Cfg:=⟨aW,[Dz]⟩
theorem vi:ag Tryz.prog yH.tab:=(ag.cons MX ag.nil)
abbrev zTh3:List PI:=[.code [1,0,1,0,0],.inLoop [1,0,1,0,0],.inBlock 0,.code [1,1]]
theorem Hr (l:List Var) (s:Deed) (Γ:Ctx) (hl:l.length≤maxLen)  : ∀ (n k:Nat),l.length - k≤n→k≤l.length →
 J Tryz.prog 178 (av Tryz.f178) Γ (Eq2 (.x (.i (aE (fun v:Var=>v.name==s.name) (l.drop k) k))) []) zTh3 ({ n:=19,fr:=[(0,.p (.lst .var l)),(1,.x (.c (.fn (.func 179) [] [.pd (.ref .deed s 0)]))),(4,.i 0),(7,.i l.length),(8,.i k)],ck:=[] }):=by
 intro n
 induction n with
 | zero=>?_
 | succ n ih=>?_
 all_goals
  intro k hn hk
  refine jg vi Tryz.func178 (.ite (decide ((k:Int)<(l.length:Int))) (.need (inRg k l.length) (.ite (Var.name (ETy.get .var l k)==s.2) (.ret (.i k) []) (.stop zTh3 { n:=19,fr:=[(0,.p (.lst .var l)),(1,.x (.c (.fn (.func 179) [] [.pd (.ref .deed s 0)]))),(4,.i 0),(7,.i l.length),(8,.i (IntKind.wrap .i64 ((k:Int)+1)))],ck:=[] }))) (.ret (.i (-1:Int)) [])) ?_
  refine ⟨fun hlt=>?_,fun hge=>?_⟩
  · have hk':k<l.length:=by have:=of_decide_eq_true hlt; omega
    rw [br (t:=.var) (l:=l) hk']
    refine ⟨by omega,?_⟩
    generalize ETy.get .var l k=v
    refine ⟨fun hb=>⟨?_,rfl⟩,fun hb=>?_⟩
    · simp only [aE,hb,cond_true]
    · simp only [aE,hb,cond_false]; (rw [aU (aB hk' hl)]; first | (exfalso; omega) | exact ih (k+1) (by omega) (by omega))
  · rw [bE (l:=l) (by have:=of_decide_eq_false hge; omega)]
    exact ⟨rfl,rfl⟩
theorem J4 (l:List Var) (s:Deed):ah Tryz.prog 178 [.l .var (l),SX.c (SC.fn (Fn.func 179) [] [RC.pd (PD.ref ETy.deed s 0)])] [] (.x (.i (aE (fun v:Var=>v.name==s.name) l 0))) []:=by
 refine dg vi Tryz.func178 (.stop zTh3 { n:=19,fr:=[(0,.p (.lst .var l)),(1,.x (.c (.fn (.func 179) [] [.pd (.ref .deed s 0)]))),(4,.i 0),(7,.i l.length),(8,.i 0)],ck:=[] }) fun Γ=>?_
 exact J.len 0 rfl fun hl=>Hr l s Γ hl l.length 0 (by omega) (by omega)
def C3:Ent:=(178,fun
 | [.c (.pd (.lst .var l)),.c (.fn (.func 179) [] [.pd (.ref .deed s 0)])],[]=>some (none,.x (.c (.pd (.int .i64 (aE (fun v:Var=>v.name==s.name) l 0)))),[])
 | _,_=>none)
theorem MK:EntOk Tryz.prog C3:=entOk fun vs ck=>by
 unfold C3; dsimp only; split
 · rename_i l s; exact entS fun hp=>J4 l s
 · exact entN
def BV:Cfg:=⟨aW,[eOf,rv,eSc,C3]⟩
theorem w8:ag Tryz.prog BV.tab:=(ag.cons EO (ag.cons E7 (ag.cons xq (ag.cons MK ag.nil))))
variable (ev:List Str) (c:Chart) (vs:List Var) (l:List Deed) (a:Deed) (Γ:Ctx)
def cW:Int :=
 if (a.kind != 1)=true then (if (!(ev.any fun x=>a.name==x))=true then 2 else 0)
 else if decide (aE (fun v:Var=>v.name==a.name) vs 0<0)=true then 2
 else if ((b5 a.expr vs []).2 != 0)=true then (b5 a.expr vs []).2
 else if ((b5 a.expr vs []).1 != (ETy.get .var vs (aE (fun v:Var=>v.name==a.name) vs 0).toNat).kind)=true then 8 else 0
def jd (ev:List Str) (vs:List Var):List Deed→Int
 | []=>0
 | a::r=>if (cW ev vs a != 0)=true then cW ev vs a else jd ev vs r
def cg:Int :=
 if ((l.length:Int)==0)=true then 0 else if (!fA l)=true then 1 else jd ev vs l
abbrev zTh1 (a:Chart):List Chunk:=[.cells [.pd (.str a.name),.pd (.lst .str a.events),.pd (.lst .var a.vars),.pd (.lst .stat a.states),.pd (.lst .tran a.trans)] 27]
abbrev zTh2:List PI:=[.code [1,1,1,0,1,0,0],.inLoop [1,1,1,0,1,0,0],.inBlock 0,.code [1,1,1,1]]
theorem LV (hl:l.length≤maxLen)  : ∀ (n k:Nat),l.length - k≤n→k≤l.length →
 J Tryz.prog 141 (av Tryz.f141) Γ (Eq2 (.x (.i (jd c.events c.vars (l.drop k)))) []) zTh2 ({ n:=57,fr:=[(2,.x (.c (.loc 0 0))),(4,.i 0),(16,.p (.lst .deed l)),(17,.i l.length),(18,.i k)],ck:=(zTh1 c) }):=by
 intro n
 induction n with
 | zero=>?_
 | succ n ih=>?_
 all_goals
  intro k hn hk
  refine jg w8 Tryz.func141 (let x1:Tree:=(.stop zTh2 { n:=57,fr:=[(2,.x (.c (.loc 0 0))),(4,.i 0),(16,.p (.lst .deed l)),(17,.i l.length),(18,.i (IntKind.wrap .i64 ((k:Int)+1)))],ck:=(zTh1 c) }); let x2:=(b5 (Deed.expr (ETy.get .deed l k)) c.vars []); .ite (decide ((k:Int)<(l.length:Int))) (.need (inRg k l.length) (.ite (Deed.kind (ETy.get .deed l k) != (1:Int)) (.ite (!List.any c.events fun x=>Deed.name (ETy.get .deed l k)==x) (.ret (.i 2) []) x1) (.ite (decide (aE (fun v=>v.name==Deed.name (ETy.get .deed l k)) c.vars (0:Int)<0)) (.ret (.i 2) []) (.ite (x2.2 != (0:Int)) (.ret (.i (x2.2)) []) (.need ((0:Int)≤aE (fun v=>v.name==Deed.name (ETy.get .deed l k)) c.vars (0:Int)∧aE (fun v=>v.name==Deed.name (ETy.get .deed l k)) c.vars (0:Int)<(c.vars.length:Int)) (.ite (x2.1 != Var.kind (ETy.get .var c.vars ((aE (fun v=>v.name==Deed.name (ETy.get .deed l k)) c.vars (0:Int)).toNat))) (.ret (.i 8) []) x1)))))) (.ret (.i 0) [])) ?_
  conv=>zeta
  refine ⟨fun hlt=>?_,fun hge=>?_⟩
  · have hk':k<l.length:=by have:=of_decide_eq_true hlt; omega
    rw [br (t:=.deed) (l:=l) hk']
    refine ⟨by omega,?_⟩
    generalize ETy.get .deed l k=v
    have hs:∀ r,jd c.events c.vars (v::r)=if (cW c.events c.vars v != 0)=true then cW c.events c.vars v else jd c.events c.vars r:=fun _=>rfl
    have hin:=kI (fun x:Var=>x.name==v.name) c.vars 0 (by omega)
    refine ⟨fun h1=>⟨fun h2=>?_,fun h2=>?_⟩,fun h1=>⟨fun h2=>?_,fun h2=>⟨fun h3=>?_,fun h3=>⟨?_,⟨fun h4=>?_,fun h4=>?_⟩⟩⟩⟩⟩
    · have he:cW c.events c.vars v=2:=by unfold cW; rw [if_pos h1,if_pos h2]
      rw [hs,he]; exact ⟨rfl,rfl⟩
    · have he:cW c.events c.vars v=0:=by unfold cW; rw [if_pos h1,if_neg (by rw [h2]; decide)]
      rw [hs,he,if_neg (by decide)]; (rw [aU (aB hk' hl)]; first | (exfalso; omega) | exact ih (k+1) (by omega) (by omega))
    · have he:cW c.events c.vars v=2:=by unfold cW; rw [if_neg (by rw [h1]; decide)]; exact if_pos h2
      rw [hs,he]; exact ⟨rfl,rfl⟩
    · have he:cW c.events c.vars v=(b5 v.expr c.vars []).2:=by unfold cW; rw [if_neg (by rw [h1]; decide),if_neg (by show ¬_; exact fun e=>by rw [e] at h2; cases h2),if_pos h3]
      rw [hs,he,if_pos h3]; exact ⟨rfl,rfl⟩
    · have:=of_decide_eq_false h2
      rcases hin with e | ⟨e1,e2⟩
      · exfalso; exact this (by show aE (fun x:Var=>x.name==v.name) c.vars 0<0; omega)
      · exact ⟨e1,by omega⟩
    · have he:cW c.events c.vars v=8:=by unfold cW; rw [if_neg (by rw [h1]; decide),if_neg (by exact fun e=>by rw [e] at h2; cases h2),if_neg (by rw [h3]; decide),if_pos h4]
      rw [hs,he]; exact ⟨rfl,rfl⟩
    · have he:cW c.events c.vars v=0:=by unfold cW; rw [if_neg (by rw [h1]; decide),if_neg (by exact fun e=>by rw [e] at h2; cases h2),if_neg (by rw [h3]; decide),if_neg (by exact fun e=>by rw [e] at h4; cases h4)]
      rw [hs,he,if_neg (by decide)]; (rw [aU (aB hk' hl)]; first | (exfalso; omega) | exact ih (k+1) (by omega) (by omega))
  · rw [bE (l:=l) (by have:=of_decide_eq_false hge; omega)]
    exact ⟨rfl,rfl⟩
theorem Aa:ah Tryz.prog 141 [.e .chart c,.l .deed l] [] (.x (.i (cg c.events c.vars l))) []:=by
 refine dg w8 Tryz.func141 (.ite ((l.length:Int)==0) (.ret (.i 0) []) (.ite (!fA l) (.ret (.i 1) []) (.stop zTh2 { n:=57,fr:=[(2,.x (.c (.loc 0 0))),(4,.i 0),(16,.p (.lst .deed l)),(17,.i l.length),(18,.i 0)],ck:=(zTh1 c) }))) fun Γ=>?_
 refine ⟨fun h=>?_,fun h=>⟨fun h2=>?_,fun h2=>?_⟩⟩
 · unfold cg; rw [if_pos h]; exact ⟨rfl,rfl⟩
 · unfold cg; rw [if_neg (by rw [h]; decide),if_pos h2]; exact ⟨rfl,rfl⟩
 · unfold cg; rw [if_neg (by rw [h]; decide),if_neg (by rw [h2]; decide)]
   exact J.len 16 rfl fun hl=>LV c l Γ hl l.length 0 (by omega) (by omega)
def xv:Ent:=(141,fun
 | [.agg [.pd (.str a),.pd (.lst .str b),.pd (.lst .var c),.pd (.lst .stat d),.pd (.lst .tran e)],.c (.pd (.lst .deed l))],[]=>some (none,.x (.c (.pd (.int .i64 (cg b c l)))),[])
 | _,_=>none)
theorem A8:EntOk Tryz.prog xv:=entOk fun vs ck=>by
 unfold xv; dsimp only; split
 · rename_i a b c d e l; exact entS fun hp=>Aa ⟨a,b,c,d,e⟩ l
 · exact entN
end Go.Proofs.YtgfifkhbfdacjaaGreatDoor

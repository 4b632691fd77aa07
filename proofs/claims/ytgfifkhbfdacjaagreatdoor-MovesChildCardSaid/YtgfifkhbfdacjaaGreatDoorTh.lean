/- Contracts of the program's functions on points: made, parted. Conditions: none. Plain laws: whole numbers within int64, products; what operations on values come to. Conditions: each theorem's own. Contracts: values that may be. Conditions: none. Contracts: valid: variables, a state's Initial. Conditions: sizes. Contracts: valid: blocks. Conditions: sizes. -/
import Derived.Test.YtgfifkhbfdacjaaGreatDoorKb
import Derived.Test.YtgfifkhbfdacjaaGreatDoorId
import Derived.Laws.MathBits
namespace Go.Proofs.YtgfifkhbfdacjaaGreatDoor
open Go Go.Ev
set_option maxRecDepth 100000
theorem CJ (a b:Int):ah Tryz.prog 175 [.i a,.i b] [] (.tup [.c (.pd (.cx (some (kD a b)))),.i (kJ a b)]) []:=by
 refine dg aW Tryz.func175 (.ite (decide (a<(-1048576:Int))||decide (a>(1048576:Int))||decide (b<(-1048576:Int))||decide (b>(1048576:Int))) (.ret (.tup [.p (.cx (some (0,0))),.i 5]) []) (.ret (.tup [.p (.cx (some (FloatKind.nearest FloatKind.f64 a,FloatKind.nearest FloatKind.f64 b))),.i 0]) [])) fun Γ=>?_
 refine ⟨fun h=>⟨?_,rfl⟩,fun h=>⟨?_,rfl⟩⟩
 · have:(pIn a&&pIn b)=false:=by
    simp only [aO,decide_eq_true_eq] at h
    simp only [pIn,cy,decide_eq_false_iff_not]; omega
   simp [kD,kJ,this]
 · have:(pIn a&&pIn b)=true:=by
    simp only [av,decide_eq_false_iff_not] at h
    simp only [pIn,af,decide_eq_true_eq]; omega
   simp [kD,kJ,this,num]
def rU:Ent:=(175,fun
 | [.c (.pd (.int .i64 a)),.c (.pd (.int .i64 b))],[]=>some (none,.tup [.c (.pd (.cx (some (kD a b)))),.c (.pd (.int .i64 (kJ a b)))],[])
 | _,_=>none)
theorem FD:EntOk Tryz.prog rU:=entOk fun vs ck=>by
 unfold rU; dsimp only; split
 · rename_i a b; exact entS fun hp=>CJ a b
 · exact entN
end Go.Proofs.YtgfifkhbfdacjaaGreatDoor
namespace Go.Ev
def i64 (n:Int):Bool:=decide (-9223372036854775808≤n)&&decide (n≤9223372036854775807)
def u64 (n:Int):Bool:=decide (0≤n)&&decide (n<18446744073709551616)
end Go.Ev
namespace Go.Ev
def vR (v:Val):Bool:=if v.kind=1 then v.b==0 else if v.kind=2 then v.b==0&&(v.a==0||v.a==1) else if v.kind=3 then pIn v.a&&pIn v.b else false
/-! ### points -/
theorem r9 {a b:Int} (ha:pIn a=true) (hb:pIn b=true):kD a b=(num a,num b)∧kJ a b=0∧isP (kD a b) a b∧wA (kD a b)=true:=by
 have e:kD a b=(num a,num b):=by simp [kD,ha,hb]
 have h:=LB (a:=a) (b:=b) (by have:=tK ha; omega) (by have:=tK hb; omega)
 refine ⟨e,by simp [kJ,ha,hb],by rw [e]; exact h,?_⟩
 rw [e,Gd h,ha,hb]; rfl
/-! ### what comes of values that may be may be, too -/
end Go.Ev
namespace Go.Proofs.YtgfifkhbfdacjaaGreatDoor
open Go Go.Ev
set_option maxRecDepth 100000
theorem L8 (a:Int):ah Tryz.prog 168 [.i a] [] (.x (.b (pIn a))) []:=by
 refine dg aW Tryz.func168 (.ret (.p (.bool (decide (a≥(-1048576:Int))&&decide (a≤(1048576:Int))))) []) fun Γ=>?_
 exact ⟨rfl,rfl⟩
def eIn:Ent:=(168,fun
 | [.c (.pd (.int .i64 a))],[]=>some (none,.x (.c (.pd (.bool (pIn a)))),[])
 | _,_=>none)
theorem Nx:EntOk Tryz.prog eIn:=entOk fun vs ck=>by
 unfold eIn; dsimp only; split
 · rename_i a; exact entS fun hp=>L8 a
 · exact entN
def Kc:Cfg:=⟨aX,[eIn]⟩
theorem HP:ag Tryz.prog Kc.tab:=(ag.cons Nx ag.nil)
def AU:Cfg:=⟨aX,[rU]⟩
theorem Dk:ag Tryz.prog AU.tab:=(ag.cons FD ag.nil)
theorem yj (k a b:Int):ah Tryz.prog 140 [.agg [.pd (.i k),.pd (.i a),.pd (.i b)]] [] (.x (.b (vR ⟨k,a,b⟩))) []:=by
 refine dg (cfg:=(AU)) Dk Tryz.func140 (.ite (k==(1:Int)) (.ret (.p (.bool (b==(0:Int)))) []) (.ite (k==(2:Int)) (.ret (.p (.bool (b==(0:Int)&&(a==(0:Int)||a==(1:Int))))) []) (.ite (k==(3:Int)) (.ret (.p (.bool (kJ a b==(0:Int)))) []) (.ret (.p (.bool false)) [])))) fun Γ=>?_
 refine ⟨fun h=>⟨?_,rfl⟩,fun h1=>⟨fun h=>⟨?_,rfl⟩,fun h2=>⟨fun h=>⟨?_,rfl⟩,fun h3=>⟨?_,rfl⟩⟩⟩⟩
 · simp_all [vR]
 · simp_all [vR]
 · have e:vR ⟨k,a,b⟩=(pIn a&&pIn b):=by simp_all [vR]
   rw [e]
   cases h':(pIn a&&pIn b)
   · simp [kJ,h']
   · simp [kJ,h']
 · simp_all [vR]
def mH:Ent:=(140,fun
 | [.agg [.pd (.int .i64 k),.pd (.int .i64 a),.pd (.int .i64 b)]],[]=>some (none,.x (.c (.pd (.bool (vR ⟨k,a,b⟩)))),[])
 | _,_=>none)
theorem AI:EntOk Tryz.prog mH:=entOk fun vs ck=>by
 unfold mH; dsimp only; split
 · rename_i k a b; exact entS fun hp=>yj k a b
 · exact entN
theorem vq (k a b:Int):ah Tryz.prog 126 [.agg [.pd (.i k),.pd (.i a),.pd (.i b)]] [] (.x (.b (vR ⟨k,a,b⟩))) []:=by
 refine dg (cfg:=(Kc)) HP Tryz.func126 (.ite (k==(1:Int)) (.ret (.p (.bool (b==(0:Int)))) []) (.ite (k==(2:Int)) (.ret (.p (.bool (k==(2:Int)&&(a==(0:Int)&&b==(0:Int))||k==(2:Int)&&(a==(1:Int)&&b==(0:Int))))) []) (.ite (k==(3:Int)) (.ret (.p (.bool (pIn a&&pIn b))) []) (.ret (.p (.bool false)) [])))) fun Γ=>?_
 refine ⟨fun h=>⟨?_,rfl⟩,fun h1=>⟨fun h=>⟨?_,rfl⟩,fun h2=>⟨fun h=>⟨?_,rfl⟩,fun h3=>⟨?_,rfl⟩⟩⟩⟩
 · simp_all [vR]
 · have e:k=2:=by simpa using h
   subst e
   have e2:vR ⟨2,a,b⟩=(b==0&&(a==0||a==1)):=by simp [vR]
   rw [e2]
   cases hb:b==0 <;> cases h0:a==0 <;> cases h4:a==1 <;> simp
 · simp_all [vR]
 · simp_all [vR]
def lF:Ent:=(126,fun
 | [.agg [.pd (.int .i64 k),.pd (.int .i64 a),.pd (.int .i64 b)]],[]=>some (none,.x (.c (.pd (.bool (vR ⟨k,a,b⟩)))),[])
 | _,_=>none)
theorem yG:EntOk Tryz.prog lF:=entOk fun vs ck=>by
 unfold lF; dsimp only; split
 · rename_i k a b; exact entS fun hp=>vq k a b
 · exact entN
def Ke:Cfg:=⟨aX,[mH,kC]⟩
theorem HJ:ag Tryz.prog Ke.tab:=(ag.cons AI (ag.cons jy ag.nil))
variable (c:Chart) (l:List Ev.Stat) (i:Nat) (v:Var)
def nq:Int:=if (v.kind==3)=true then 1048576 else 1099511627776
def tA:Int:=if (v.kind==3)=true then (if v.init.b<v.init.a then v.init.b else v.init.a) else v.init.a
def pf:Int:=if (v.kind==3)=true then (if v.init.b>v.init.a then v.init.b else v.init.a) else v.init.a
def ee:Int :=
 if (decide (v.kind<1)||decide (v.kind>3)||v.init.kind != v.kind)=true then 8
 else if (decide (v.lo>v.hi)||decide (v.lo < - nq v)||decide (v.hi>nq v)||v.kind==2&&(v.lo != 0||v.hi != 1))=true then 5
 else bV (vR v.init&&decide (tA v≥v.lo)&&decide (pf v≤v.hi)) 5
def df:Int :=
 if ((ETy.get .stat l i).kind != 2 && !aM (ETy.get .stat l i).kind)=true then bV ((ETy.get .stat l i).initial==[]) 1
 else if (decide (ay l (ETy.get .stat l i).initial<0)||aM (ETy.get .stat l (ay l (ETy.get .stat l i).initial).toNat).kind)=true then 2
 else if ((ETy.get .stat l i).kind==2)=true then bV (bg l (ay l (ETy.get .stat l i).initial)==(i:Int)) 2
 else if ((ETy.get .stat l i).kind==5)=true then bV (bg l (ay l (ETy.get .stat l i).initial)==bg l i) 2
 else bV (gA l (bg l i) (ay l (ETy.get .stat l i).initial)) 2
theorem Ec:ah Tryz.prog 91 [.e .var v] [] (.x (.i (ee v))) []:=by
 refine dg HJ Tryz.func91 (let x1:Tree:=(.ite (v.kind==(3:Int)) (.ret (.i (bV (vR v.init&&decide ((if v.init.b<v.init.a then v.init.b else v.init.a)≥v.lo)&&decide ((if v.init.b>v.init.a then v.init.b else v.init.a)≤v.hi)) (5:Int))) []) (.ret (.i (bV (vR v.init&&decide (v.init.a≥v.lo)&&decide (v.init.a≤v.hi)) (5:Int))) [])); let x2:=(v.lo != (0:Int)||v.hi != (1:Int)); .ite (decide (v.kind<(1:Int))||decide (v.kind>(3:Int))||v.init.kind != v.kind) (.ret (.i 8) []) (.ite (v.kind==(3:Int)) (.ite (decide (v.lo>v.hi)||decide (v.lo<IntKind.wrap .i64 ((0:Int) - 1048576))||decide (v.hi>(1048576:Int))||v.kind==(2:Int)&&x2) (.ret (.i 5) []) x1) (.ite (decide (v.lo>v.hi)||decide (v.lo<IntKind.wrap .i64 ((0:Int) - 1099511627776))||decide (v.hi>(1099511627776:Int))||v.kind==(2:Int)&&x2) (.ret (.i 5) []) x1))) fun Γ=>?_
 conv=>zeta
 have w1:IntKind.wrap .i64 (0 - 1048576) = -1048576:=by decide
 have w2:IntKind.wrap .i64 (0 - 1099511627776) = -1099511627776:=by decide
 refine ⟨fun h=>?_,fun h=>⟨fun h3=>⟨fun hr=>?_,fun hr=>⟨fun h4=>?_,fun h4=>?_⟩⟩,fun h3=>⟨fun hr=>?_,fun hr=>⟨fun h4=>?_,fun h4=>?_⟩⟩⟩⟩
 · unfold ee; rw [if_pos h]; exact ⟨rfl,rfl⟩
 · rw [w1] at hr
   unfold ee; rw [if_neg (by rw [h]; decide)]
   simp only [nq,if_pos h3]
   rw [if_pos hr]; exact ⟨rfl,rfl⟩
 · rw [w1] at hr
   unfold ee; rw [if_neg (by rw [h]; decide)]
   simp only [nq,tA,pf,if_pos h3]
   rw [if_neg (by rw [hr]; decide)]; exact ⟨rfl,rfl⟩
 · rw [h3] at h4; cases h4
 · rw [w2] at hr
   unfold ee; rw [if_neg (by rw [h]; decide)]
   simp only [nq,if_neg (show ¬(v.kind==3)=true by rw [h3]; decide)]
   rw [if_pos hr]; exact ⟨rfl,rfl⟩
 · rw [h3] at h4; cases h4
 · rw [w2] at hr
   unfold ee; rw [if_neg (by rw [h]; decide)]
   simp only [nq,tA,pf,if_neg (show ¬(v.kind==3)=true by rw [h3]; decide)]
   rw [if_neg (by rw [hr]; decide)]; exact ⟨rfl,rfl⟩
def v8:Ent:=(91,fun
 | [.agg [.pd (.str a),.pd (.int .i64 b),.pd (.int .i64 e),.pd (.int .i64 f),.pd (.int .i64 g),.pd (.int .i64 h),.pd (.int .i64 i)]],[]=>some (none,.x (.c (.pd (.int .i64 (ee ⟨a,b,e,f,⟨g,h,i⟩⟩)))),[])
 | _,_=>none)
theorem JU:EntOk Tryz.prog v8:=entOk fun vs ck=>by
 unfold v8; dsimp only; split
 · rename_i a b e f g h i; exact entS fun hp=>Ec ⟨a,b,e,f,⟨g,h,i⟩⟩
 · exact entN
def Gr:Cfg:=⟨aX,[mw,kC,j5,jB,mG]⟩
theorem EW:ag Tryz.prog Gr.tab:=(ag.cons om (ag.cons jy (ag.cons j1 (ag.cons kG (ag.cons sn ag.nil)))))
theorem kB {α:Type} (p:α→Bool):∀ (l:List α) (i:Int),0≤i→aE p l i = -1∨(i≤aE p l i∧aE p l i<i+(l.length:Int))
 | [],i,_=>.inl rfl
 | x :: r,i,h=>by
   have ih:=kB p r (i+1) (by omega)
   unfold aE
   cases p x
   · rw [cond_false]
     rcases ih with e | ⟨h1,h2⟩
     · exact .inl e
     · refine .inr ⟨by omega,?_⟩
       rw [aG]; omega
   · rw [cond_true]
     refine .inr ⟨by omega,?_⟩
     rw [aG]; omega
theorem jC (n:Str):ay l n = -1∨(0≤ay l n∧ay l n<(l.length:Int)):=by
 rcases kB (fun s:Ev.Stat=>s.name==n) l 0 (by omega) with h | ⟨h1,h2⟩
 · exact .inl h
 · exact .inr ⟨h1,by unfold ay; omega⟩
theorem El (hi:i<c.states.length) (hl:c.states.length≤maxLen):ah Tryz.prog 89 [.e .chart c,.i (i:Int)] [] (.x (.i (df c.states i))) []:=by
 refine dg EW Tryz.func89 (let x1:=(ETy.get .stat c.states i); let x2:=(ay c.states (Stat.initial x1)); let x3:=(c.states.length≤maxLen); let x4:=(ay c.states (Stat.initial x1)<(0:Int)); .need (inRg i c.states.length) (.ite (Stat.kind x1 != (2:Int) && !aM (Stat.kind x1)) (.ret (.i (bV (Stat.initial x1==[]) (1:Int))) []) (.need (decide x4=false→(0:Int)≤ay c.states (Stat.initial x1)∧ay c.states (Stat.initial x1)<(c.states.length:Int)) (.ite (decide x4||aM (Stat.kind (ETy.get .stat c.states (x2.toNat)))) (.ret (.i 2) []) (.need x3 (.ite (Stat.kind x1==(2:Int)) (.need x3 (.ret (.i (bV (bg c.states x2==(i:Int)) (2:Int))) [])) (.ite (Stat.kind x1==(5:Int)) (.need x3 (.ret (.i (bV (bg c.states x2==bg c.states (i:Int)) (2:Int))) [])) (.need x3 (.ret (.i (bV (gA c.states (bg c.states (i:Int)) x2) (2:Int))) []))))))))) fun Γ=>?_
 conv=>zeta
 unfold df
 have hp:=jC c.states (ETy.get .stat c.states i).initial
 refine ⟨⟨by omega,by omega⟩,fun h=>?_,fun h=>⟨fun h2=>?_,fun h3=>?_,fun h3=>⟨hl,fun h4=>⟨hl,?_⟩,fun h4=>⟨fun h5=>⟨hl,?_⟩,fun h5=>⟨hl,?_⟩⟩⟩⟩⟩
 · rw [if_pos h]; exact ⟨rfl,rfl⟩
 · have:=of_decide_eq_false h2
   rcases hp with e | e
   · omega
   · exact e
 · rw [if_neg (by rw [h]; decide),if_pos h3]; exact ⟨rfl,rfl⟩
 · rw [if_neg (by rw [h]; decide),if_neg (by rw [h3]; decide),if_pos h4]; exact ⟨rfl,rfl⟩
 · rw [if_neg (by rw [h]; decide),if_neg (by rw [h3]; decide),if_neg (by rw [h4]; decide),if_pos h5]; exact ⟨rfl,rfl⟩
 · rw [if_neg (by rw [h]; decide),if_neg (by rw [h3]; decide),if_neg (by rw [h4]; decide),if_neg (by rw [h5]; decide)]; exact ⟨rfl,rfl⟩
theorem Bz (i:Int) (h:0≤i∧i<(c.states.length:Int)∧c.states.length≤maxLen):ah Tryz.prog 89 [.e .chart c,.i i] [] (.x (.i (df c.states i.toNat))) []:=by
 obtain ⟨k,rfl⟩:=aA h.1
 rw [ai]
 exact El c k (by omega) h.2.2
def ry:Ent:=(89,fun
 | [.agg [.pd (.str a),.pd (.lst .str b),.pd (.lst .var c),.pd (.lst .stat d),.pd (.lst .tran e)],.c (.pd (.int .i64 i))],[]=>some (some (0≤i∧i<(d.length:Int)∧d.length≤maxLen),.x (.c (.pd (.int .i64 (df d i.toNat)))),[])
 | _,_=>none)
theorem Ey:EntOk Tryz.prog ry:=entOk fun vs ck=>by
 unfold ry; dsimp only; split
 · rename_i a b c d e i; exact entS fun hp=>Bz ⟨a,b,c,d,e⟩ i hp
 · exact entN
end Go.Proofs.YtgfifkhbfdacjaaGreatDoor
namespace Go.Proofs.YtgfifkhbfdacjaaGreatDoor
open Go Go.Ev
set_option maxRecDepth 100000
theorem Hn (v:Var) (a:Deed):ah Tryz.prog 179 [.e .var v,.p (.ref .deed a 0)] [] (.x (.b (v.name==a.name))) []:=by
 refine dg aW Tryz.func179 (.ret (.p (.bool (v.name==a.name))) []) fun Γ=>⟨rfl,rfl⟩
def B7:Ent:=(179,fun
 | [.agg [.pd (.str a),.pd (.int .i64 b),.pd (.int .i64 e),.pd (.int .i64 f),.pd (.int .i64 g),.pd (.int .i64 h),.pd (.int .i64 i)],.c (.pd (.ref .deed ⟨x,y,z⟩ 0))],[]=>some (none,.x (.c (.pd (.bool (a==y)))),[])
 | _,_=>none)
theorem LV:EntOk Tryz.prog B7:=entOk fun vs ck=>by
 unfold B7; dsimp only; split
 · rename_i a b e f g h i x y z; exact entS fun hp=>Hn ⟨a,b,e,f,⟨g,h,i⟩⟩ ⟨x,y,z⟩
 · exact entN
def ye:Cfg:=⟨aX,[B7]⟩
theorem tX:ag Tryz.prog ye.tab:=(ag.cons LV ag.nil)
abbrev zTh3:List PI:=[.code [1,0,1,0,0],.inLoop [1,0,1,0,0],.inBlock 0,.code [1,1]]
theorem Jq (l:List Var) (s:Deed) (Γ:Ctx) (hl:l.length≤maxLen)  : ∀ (n k:Nat),l.length - k≤n→k≤l.length →
 J Tryz.prog 178 (au Tryz.f178) Γ (Eq2 (.x (.i (aE (fun v:Var=>v.name==s.name) (l.drop k) k))) []) zTh3 ({ n:=19,fr:=[(0,.p (.lst .var l)),(1,.x (.c (.fn (.func 179) [] [.pd (.ref .deed s 0)]))),(4,.i 0),(7,.i l.length),(8,.i k)],ck:=[] }):=by
 intro n
 induction n with
 | zero=>?_
 | succ n ih=>?_
 all_goals
  intro k hn hk
  refine jg tX Tryz.func178 (.ite (decide ((k:Int)<(l.length:Int))) (.need (inRg k l.length) (.ite (Var.name (ETy.get .var l k)==s.2) (.ret (.i k) []) (.stop zTh3 { n:=19,fr:=[(0,.p (.lst .var l)),(1,.x (.c (.fn (.func 179) [] [.pd (.ref .deed s 0)]))),(4,.i 0),(7,.i l.length),(8,.i (IntKind.wrap .i64 ((k:Int)+1)))],ck:=[] }))) (.ret (.i (-1:Int)) [])) ?_
  refine ⟨fun hlt=>?_,fun hge=>?_⟩
  · have hk':k<l.length:=by have:=of_decide_eq_true hlt; omega
    rw [bx (t:=.var) (l:=l) hk']
    refine ⟨by omega,?_⟩
    generalize ETy.get .var l k=v
    refine ⟨fun hb=>⟨?_,rfl⟩,fun hb=>?_⟩
    · simp only [aE,hb,cond_true]
    · simp only [aE,hb,cond_false]; (rw [aV (aC hk' hl)]; first | (exfalso; omega) | exact ih (k+1) (by omega) (by omega))
  · rw [bL (l:=l) (by have:=of_decide_eq_false hge; omega)]
    exact ⟨rfl,rfl⟩
theorem JB (l:List Var) (s:Deed):ah Tryz.prog 178 [.l .var (l),SX.c (SC.fn (Fn.func 179) [] [RC.pd (PD.ref ETy.deed s 0)])] [] (.x (.i (aE (fun v:Var=>v.name==s.name) l 0))) []:=by
 refine dg tX Tryz.func178 (.stop zTh3 { n:=19,fr:=[(0,.p (.lst .var l)),(1,.x (.c (.fn (.func 179) [] [.pd (.ref .deed s 0)]))),(4,.i 0),(7,.i l.length),(8,.i 0)],ck:=[] }) fun Γ=>?_
 exact J.len 0 rfl fun hl=>Jq l s Γ hl l.length 0 (by omega) (by omega)
def C1:Ent:=(178,fun
 | [.c (.pd (.lst .var l)),.c (.fn (.func 179) [] [.pd (.ref .deed s 0)])],[]=>some (none,.x (.c (.pd (.int .i64 (aE (fun v:Var=>v.name==s.name) l 0)))),[])
 | _,_=>none)
theorem KK:EntOk Tryz.prog C1:=entOk fun vs ck=>by
 unfold C1; dsimp only; split
 · rename_i l s; exact entS fun hp=>JB l s
 · exact entN
def C4:Cfg:=⟨aX,[eOf,sk,eSc,C1]⟩
theorem xX:ag Tryz.prog C4.tab:=(ag.cons FF (ag.cons GQ (ag.cons yD (ag.cons KK ag.nil))))
variable (ev:List Str) (c:Chart) (vs:List Var) (l:List Deed) (a:Deed) (Γ:Ctx)
def cX:Int :=
 if (a.kind != 1)=true then (if (!(ev.any fun x=>a.name==x))=true then 2 else 0)
 else if decide (aE (fun v:Var=>v.name==a.name) vs 0<0)=true then 2
 else if ((b4 a.expr vs []).2 != 0)=true then (b4 a.expr vs []).2
 else if ((b4 a.expr vs []).1 != (ETy.get .var vs (aE (fun v:Var=>v.name==a.name) vs 0).toNat).kind)=true then 8 else 0
def jh (ev:List Str) (vs:List Var):List Deed→Int
 | []=>0
 | a::r=>if (cX ev vs a != 0)=true then cX ev vs a else jh ev vs r
def cg:Int :=
 if ((l.length:Int)==0)=true then 0 else if (!fA l)=true then 1 else jh ev vs l
abbrev zTh1 (a:Chart):List Chunk:=[.cells [.pd (.str a.name),.pd (.lst .str a.events),.pd (.lst .var a.vars),.pd (.lst .stat a.states),.pd (.lst .tran a.trans)] 27]
abbrev zTh2:List PI:=[.code [1,1,1,0,1,0,0],.inLoop [1,1,1,0,1,0,0],.inBlock 0,.code [1,1,1,1]]
theorem Lz (hl:l.length≤maxLen)  : ∀ (n k:Nat),l.length - k≤n→k≤l.length →
 J Tryz.prog 141 (au Tryz.f141) Γ (Eq2 (.x (.i (jh c.events c.vars (l.drop k)))) []) zTh2 ({ n:=57,fr:=[(2,.x (.c (.loc 0 0))),(4,.i 0),(16,.p (.lst .deed l)),(17,.i l.length),(18,.i k)],ck:=(zTh1 c) }):=by
 intro n
 induction n with
 | zero=>?_
 | succ n ih=>?_
 all_goals
  intro k hn hk
  refine jg xX Tryz.func141 (let x1:Tree:=(.stop zTh2 { n:=57,fr:=[(2,.x (.c (.loc 0 0))),(4,.i 0),(16,.p (.lst .deed l)),(17,.i l.length),(18,.i (IntKind.wrap .i64 ((k:Int)+1)))],ck:=(zTh1 c) }); let x2:=(b4 (Deed.expr (ETy.get .deed l k)) c.vars []); .ite (decide ((k:Int)<(l.length:Int))) (.need (inRg k l.length) (.ite (Deed.kind (ETy.get .deed l k) != (1:Int)) (.ite (!List.any c.events fun x=>Deed.name (ETy.get .deed l k)==x) (.ret (.i 2) []) x1) (.ite (decide (aE (fun v=>v.name==Deed.name (ETy.get .deed l k)) c.vars (0:Int)<0)) (.ret (.i 2) []) (.ite (x2.2 != (0:Int)) (.ret (.i (x2.2)) []) (.need ((0:Int)≤aE (fun v=>v.name==Deed.name (ETy.get .deed l k)) c.vars (0:Int)∧aE (fun v=>v.name==Deed.name (ETy.get .deed l k)) c.vars (0:Int)<(c.vars.length:Int)) (.ite (x2.1 != Var.kind (ETy.get .var c.vars ((aE (fun v=>v.name==Deed.name (ETy.get .deed l k)) c.vars (0:Int)).toNat))) (.ret (.i 8) []) x1)))))) (.ret (.i 0) [])) ?_
  conv=>zeta
  refine ⟨fun hlt=>?_,fun hge=>?_⟩
  · have hk':k<l.length:=by have:=of_decide_eq_true hlt; omega
    rw [bx (t:=.deed) (l:=l) hk']
    refine ⟨by omega,?_⟩
    generalize ETy.get .deed l k=v
    have hs:∀ r,jh c.events c.vars (v::r)=if (cX c.events c.vars v != 0)=true then cX c.events c.vars v else jh c.events c.vars r:=fun _=>rfl
    have hin:=kB (fun x:Var=>x.name==v.name) c.vars 0 (by omega)
    refine ⟨fun h1=>⟨fun h2=>?_,fun h2=>?_⟩,fun h1=>⟨fun h2=>?_,fun h2=>⟨fun h3=>?_,fun h3=>⟨?_,⟨fun h4=>?_,fun h4=>?_⟩⟩⟩⟩⟩
    · have he:cX c.events c.vars v=2:=by unfold cX; rw [if_pos h1,if_pos h2]
      rw [hs,he]; exact ⟨rfl,rfl⟩
    · have he:cX c.events c.vars v=0:=by unfold cX; rw [if_pos h1,if_neg (by rw [h2]; decide)]
      rw [hs,he,if_neg (by decide)]; (rw [aV (aC hk' hl)]; first | (exfalso; omega) | exact ih (k+1) (by omega) (by omega))
    · have he:cX c.events c.vars v=2:=by unfold cX; rw [if_neg (by rw [h1]; decide)]; exact if_pos h2
      rw [hs,he]; exact ⟨rfl,rfl⟩
    · have he:cX c.events c.vars v=(b4 v.expr c.vars []).2:=by unfold cX; rw [if_neg (by rw [h1]; decide),if_neg (by show ¬_; exact fun e=>by rw [e] at h2; cases h2),if_pos h3]
      rw [hs,he,if_pos h3]; exact ⟨rfl,rfl⟩
    · have:=of_decide_eq_false h2
      rcases hin with e | ⟨e1,e2⟩
      · exfalso; exact this (by show aE (fun x:Var=>x.name==v.name) c.vars 0<0; omega)
      · exact ⟨e1,by omega⟩
    · have he:cX c.events c.vars v=8:=by unfold cX; rw [if_neg (by rw [h1]; decide),if_neg (by exact fun e=>by rw [e] at h2; cases h2),if_neg (by rw [h3]; decide),if_pos h4]
      rw [hs,he]; exact ⟨rfl,rfl⟩
    · have he:cX c.events c.vars v=0:=by unfold cX; rw [if_neg (by rw [h1]; decide),if_neg (by exact fun e=>by rw [e] at h2; cases h2),if_neg (by rw [h3]; decide),if_neg (by exact fun e=>by rw [e] at h4; cases h4)]
      rw [hs,he,if_neg (by decide)]; (rw [aV (aC hk' hl)]; first | (exfalso; omega) | exact ih (k+1) (by omega) (by omega))
  · rw [bL (l:=l) (by have:=of_decide_eq_false hge; omega)]
    exact ⟨rfl,rfl⟩
theorem Af:ah Tryz.prog 141 [.e .chart c,.l .deed l] [] (.x (.i (cg c.events c.vars l))) []:=by
 refine dg xX Tryz.func141 (.ite ((l.length:Int)==0) (.ret (.i 0) []) (.ite (!fA l) (.ret (.i 1) []) (.stop zTh2 { n:=57,fr:=[(2,.x (.c (.loc 0 0))),(4,.i 0),(16,.p (.lst .deed l)),(17,.i l.length),(18,.i 0)],ck:=(zTh1 c) }))) fun Γ=>?_
 refine ⟨fun h=>?_,fun h=>⟨fun h2=>?_,fun h2=>?_⟩⟩
 · unfold cg; rw [if_pos h]; exact ⟨rfl,rfl⟩
 · unfold cg; rw [if_neg (by rw [h]; decide),if_pos h2]; exact ⟨rfl,rfl⟩
 · unfold cg; rw [if_neg (by rw [h]; decide),if_neg (by rw [h2]; decide)]
   exact J.len 16 rfl fun hl=>Lz c l Γ hl l.length 0 (by omega) (by omega)
def wF:Ent:=(141,fun
 | [.agg [.pd (.str a),.pd (.lst .str b),.pd (.lst .var c),.pd (.lst .stat d),.pd (.lst .tran e)],.c (.pd (.lst .deed l))],[]=>some (none,.x (.c (.pd (.int .i64 (cg b c l)))),[])
 | _,_=>none)
theorem A2:EntOk Tryz.prog wF:=entOk fun vs ck=>by
 unfold wF; dsimp only; split
 · rename_i a b c d e l; exact entS fun hp=>Af ⟨a,b,c,d,e⟩ l
 · exact entN
end Go.Proofs.YtgfifkhbfdacjaaGreatDoor

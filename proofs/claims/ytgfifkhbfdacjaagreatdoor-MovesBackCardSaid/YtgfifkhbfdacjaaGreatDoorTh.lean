/- Contracts: valid: small functions. Conditions: sizes. Plain laws: floats that are whole numbers, their sums and products; parts of points. Conditions: each theorem's own. Contracts of the program's functions on points: made, parted. Conditions: none. Plain laws: whole numbers within int64, products; what operations on values come to. Conditions: each theorem's own. Contracts: values that may be. Conditions: none. Contracts: valid: variables, a state's Initial. Conditions: sizes. Contracts: valid: blocks. Conditions: sizes. -/
import Derived.Test.YtgfifkhbfdacjaaGreatDoorUr
import Derived.Laws.ComplexArith
import Derived.Test.YtgfifkhbfdacjaaGreatDoorPD
import Derived.Test.YtgfifkhbfdacjaaGreatDoorVb
import Derived.Test.YtgfifkhbfdacjaaGreatDoorKb
import Derived.Laws.MathBits
namespace Go.Proofs.YtgfifkhbfdacjaaGreatDoor
open Go Go.Ev
set_option maxRecDepth 100000
theorem BT (k:Int):ah Tryz.prog 76 [.i k] [] (.x (.b (aO k))) []:=by
 refine dg aR Tryz.func76 (.ret (.p (.bool (k==(5:Int)||k==(6:Int)))) []) fun Γ=>?_
 exact ⟨rfl,rfl⟩
def mb:Ent:=(76,fun
 | [.c (.pd (.int .i64 k))],[]=>some (none,.x (.c (.pd (.bool (aO k)))),[])
 | _,_=>none)
theorem nF:EntOk Tryz.prog mb:=entOk fun vs ck=>by
 unfold mb; dsimp only; split
 · rename_i k; exact entS fun hp=>BT k
 · exact entN
variable (l:List Ev.Stat) (b:Bool) (e:Int) (n s:Str)
def bT:Int:=if b=true then 0 else e
def az:Int:=aC (fun s:Ev.Stat=>s.name==n) l 0
theorem BW:ah Tryz.prog 80 [.b b,.i e] [] (.x (.i (bT b e))) []:=by
 refine dg aR Tryz.func80 (.ite b (.ret (.i 0) []) (.ret (.i e) [])) fun Γ=>?_
 refine ⟨fun h=>?_,fun h=>?_⟩
 · unfold bT; rw [if_pos h]; exact ⟨rfl,rfl⟩
 · unfold bT; rw [if_neg (by rw [h]; decide)]; exact ⟨rfl,rfl⟩
def ko:Ent:=(80,fun
 | [.c (.pd (.bool b)),.c (.pd (.int .i64 e))],[]=>some (none,.x (.c (.pd (.int .i64 (bT b e)))),[])
 | _,_=>none)
theorem ji:EntOk Tryz.prog ko:=entOk fun vs ck=>by
 unfold ko; dsimp only; split
 · rename_i b e; exact entS fun hp=>BW b e
 · exact entN
/-! ### a state's place -/
theorem IC (s:Ev.Stat) (n:Str):ah Tryz.prog 98 [.e .stat s,.p (.ref .str n 0)] [] (.x (.b (s.name==n))) []:=by
 refine dg aR Tryz.func98 (.ret (.p (.bool (s.name==n))) []) fun Γ=>⟨rfl,rfl⟩
def Bu:Ent:=(98,fun
 | [.agg [.pd (.str a),.pd (.int .i64 b),.pd (.int .i64 c),.pd (.str d),.pd (.lst .deed e),.pd (.lst .deed f)],.c (.pd (.ref .str n 0))],[]=>some (none,.x (.c (.pd (.bool (a==n)))),[])
 | _,_=>none)
theorem La:EntOk Tryz.prog Bu:=entOk fun vs ck=>by
 unfold Bu; dsimp only; split
 · rename_i a b c d e f n; exact entS fun hp=>IC ⟨a,b,c,d,e,f⟩ n
 · exact entN
def vJ:Cfg:=⟨aY,[Bu]⟩
theorem s8:ag Tryz.prog vJ.tab:=(ag.cons La ag.nil)
abbrev zTf1:List PI:=[.code [1,0,1,0,0],.inLoop [1,0,1,0,0],.inBlock 0,.code [1,1]]
theorem GF (Γ:Ctx) (hl:l.length≤maxLen)  : ∀ (n k:Nat),l.length - k≤n→k≤l.length →
 J Tryz.prog 97 (au Tryz.f97) Γ (Eq2 (.x (.i (aC (fun v:Ev.Stat=>v.name==s) (l.drop k) k))) []) zTf1 ({ n:=19,fr:=[(0,.p (.lst .stat l)),(1,.x (.c (.fn (.func 98) [] [.pd (.ref .str s 0)]))),(4,.i 0),(7,.i l.length),(8,.i k)],ck:=[] }):=by
 intro n
 induction n with
 | zero=>?_
 | succ n ih=>?_
 all_goals
  intro k hn hk
  refine jg s8 Tryz.func97 (.ite (decide ((k:Int)<(l.length:Int))) (.need (inRg k l.length) (.ite (Stat.name (ETy.get .stat l k)==s) (.ret (.i k) []) (.stop zTf1 { n:=19,fr:=[(0,.p (.lst .stat l)),(1,.x (.c (.fn (.func 98) [] [.pd (.ref .str s 0)]))),(4,.i 0),(7,.i l.length),(8,.i (IntKind.wrap .i64 ((k:Int)+1)))],ck:=[] }))) (.ret (.i (-1:Int)) [])) ?_
  refine ⟨fun hlt=>?_,fun hge=>?_⟩
  · have hk':k<l.length:=by have:=of_decide_eq_true hlt; omega
    rw [bD (t:=.stat) (l:=l) hk']
    refine ⟨by omega,?_⟩
    generalize ETy.get .stat l k=v
    refine ⟨fun hb=>⟨?_,rfl⟩,fun hb=>?_⟩
    · simp only [aC,hb,cond_true]
    · simp only [aC,hb,cond_false]; (rw [aX (aE hk' hl)]; first | (exfalso; omega) | exact ih (k+1) (by omega) (by omega))
  · rw [bO (l:=l) (by have:=of_decide_eq_false hge; omega)]
    exact ⟨rfl,rfl⟩
theorem Gb:ah Tryz.prog 97 [.l .stat (l),SX.c (SC.fn (Fn.func 98) [] [RC.pd (PD.ref ETy.str s 0)])] [] (.x (.i (aC (fun v:Ev.Stat=>v.name==s) l 0))) []:=by
 refine dg s8 Tryz.func97 (.stop zTf1 { n:=19,fr:=[(0,.p (.lst .stat l)),(1,.x (.c (.fn (.func 98) [] [.pd (.ref .str s 0)]))),(4,.i 0),(7,.i l.length),(8,.i 0)],ck:=[] }) fun Γ=>?_
 exact J.len 0 rfl fun hl=>GF l s Γ hl l.length 0 (by omega) (by omega)
def BU:Ent:=(97,fun
 | [.c (.pd (.lst .stat l)),.c (.fn (.func 98) [] [.pd (.ref .str s 0)])],[]=>some (none,.x (.c (.pd (.int .i64 (aC (fun v:Ev.Stat=>v.name==s) l 0)))),[])
 | _,_=>none)
theorem KX:EntOk Tryz.prog BU:=entOk fun vs ck=>by
 unfold BU; dsimp only; split
 · rename_i l s; exact entS fun hp=>Gb l s
 · exact entN
def EN:Cfg:=⟨aY,[BU]⟩
theorem EV:ag Tryz.prog EN.tab:=(ag.cons KX ag.nil)
theorem Cr (c:Chart) (n:Str):ah Tryz.prog 36 [.e .chart c,.s n] [] (.x (.i (az c.states n))) []:=by
 refine dg EV Tryz.func36 (.ret (.i (aC (fun v=>v.name==n) c.states (0:Int))) []) fun Γ=>?_
 exact ⟨rfl,rfl⟩
def jL:Ent:=(36,fun
 | [.agg [.pd (.str a),.pd (.lst .str b),.pd (.lst .var c),.pd (.lst .stat d),.pd (.lst .tran e)],.c (.pd (.str n))],[]=>some (none,.x (.c (.pd (.int .i64 (az d n)))),[])
 | _,_=>none)
theorem jM:EntOk Tryz.prog jL:=entOk fun vs ck=>by
 unfold jL; dsimp only; split
 · rename_i a b c d e n; exact entS fun hp=>Cr ⟨a,b,c,d,e⟩ n
 · exact entN
end Go.Proofs.YtgfifkhbfdacjaaGreatDoor
namespace Go.Ev
open Ieee
end Go.Ev
namespace Go.Ev
open Ieee
theorem y7 (k l:Nat):min (-(k:Int)) (-(l:Int)) = -((max k l:Nat):Int):=by omega
end Go.Ev
namespace Go.Ev
open Ieee
end Go.Ev
namespace Go.Ev
open Ieee
def inB (x:Nat):Bool:=(fp x 13920626448202203136==some .gt||fp x 13920626448202203136==some .eq)&&(fp x 4697254411347427328==some .lt||fp x 4697254411347427328==some .eq)
def pIn (a:Int):Bool:=decide (-1048576≤a)&&decide (a≤1048576)
theorem cO {x:Nat}:inB x=true↔(fp x 13920626448202203136=some .gt∨fp x 13920626448202203136=some .eq)∧(fp x 4697254411347427328=some .lt∨fp x 4697254411347427328=some .eq):=by
 simp [inB]
/-! ### points, by the bits of their parts -/
def num (n:Int):Nat:=FloatKind.f64.nearest n
def uN (a b:Int):Nat×Nat:=if pIn a&&pIn b then (num a,num b) else (0,0)
def mS (a b:Int):Int:=if pIn a&&pIn b then 0 else 5
end Go.Ev
namespace Go.Proofs.YtgfifkhbfdacjaaGreatDoor
open Go Go.Ev
set_option maxRecDepth 100000
theorem AN (a b:Int):ah Tryz.prog 175 [.i a,.i b] [] (.tup [.c (.pd (.cx (some (uN a b)))),.i (mS a b)]) []:=by
 refine dg aR Tryz.func175 (.ite (decide (a<(-1048576:Int))||decide (a>(1048576:Int))||decide (b<(-1048576:Int))||decide (b>(1048576:Int))) (.ret (.tup [.p (.cx (some (0,0))),.i 5]) []) (.ret (.tup [.p (.cx (some (FloatKind.nearest FloatKind.f64 a,FloatKind.nearest FloatKind.f64 b))),.i 0]) [])) fun Γ=>?_
 refine ⟨fun h=>⟨?_,rfl⟩,fun h=>⟨?_,rfl⟩⟩
 · have:(pIn a&&pIn b)=false:=by
    simp only [aM,decide_eq_true_eq] at h
    simp only [pIn,cr,decide_eq_false_iff_not]; omega
   simp [uN,mS,this]
 · have:(pIn a&&pIn b)=true:=by
    simp only [ay,decide_eq_false_iff_not] at h
    simp only [pIn,af,decide_eq_true_eq]; omega
   simp [uN,mS,this,num]
def rn:Ent:=(175,fun
 | [.c (.pd (.int .i64 a)),.c (.pd (.int .i64 b))],[]=>some (none,.tup [.c (.pd (.cx (some (uN a b)))),.c (.pd (.int .i64 (mS a b)))],[])
 | _,_=>none)
theorem EM:EntOk Tryz.prog rn:=entOk fun vs ck=>by
 unfold rn; dsimp only; split
 · rename_i a b; exact entS fun hp=>AN a b
 · exact entN
end Go.Proofs.YtgfifkhbfdacjaaGreatDoor
namespace Go.Ev
def i64 (n:Int):Bool:=decide (-9223372036854775808≤n)&&decide (n≤9223372036854775807)
def u64 (n:Int):Bool:=decide (0≤n)&&decide (n<18446744073709551616)
end Go.Ev
namespace Go.Ev
def vR (v:Val):Bool:=if v.kind=1 then v.b==0 else if v.kind=2 then v.b==0&&(v.a==0||v.a==1) else if v.kind=3 then pIn v.a&&pIn v.b else false
/-! ### points -/
/-! ### what comes of values that may be may be, too -/
end Go.Ev
namespace Go.Proofs.YtgfifkhbfdacjaaGreatDoor
open Go Go.Ev
set_option maxRecDepth 100000
theorem Kq (a:Int):ah Tryz.prog 168 [.i a] [] (.x (.b (pIn a))) []:=by
 refine dg aR Tryz.func168 (.ret (.p (.bool (decide (a≥(-1048576:Int))&&decide (a≤(1048576:Int))))) []) fun Γ=>?_
 exact ⟨rfl,rfl⟩
def eIn:Ent:=(168,fun
 | [.c (.pd (.int .i64 a))],[]=>some (none,.x (.c (.pd (.bool (pIn a)))),[])
 | _,_=>none)
theorem LL:EntOk Tryz.prog eIn:=entOk fun vs ck=>by
 unfold eIn; dsimp only; split
 · rename_i a; exact entS fun hp=>Kq a
 · exact entN
def IV:Cfg:=⟨aY,[eIn]⟩
theorem Gp:ag Tryz.prog IV.tab:=(ag.cons LL ag.nil)
def yS:Cfg:=⟨aY,[rn]⟩
theorem CA:ag Tryz.prog yS.tab:=(ag.cons EM ag.nil)
theorem wm (k a b:Int):ah Tryz.prog 140 [.agg [.pd (.i k),.pd (.i a),.pd (.i b)]] [] (.x (.b (vR ⟨k,a,b⟩))) []:=by
 refine dg (cfg:=(yS)) CA Tryz.func140 (.ite (k==(1:Int)) (.ret (.p (.bool (b==(0:Int)))) []) (.ite (k==(2:Int)) (.ret (.p (.bool (b==(0:Int)&&(a==(0:Int)||a==(1:Int))))) []) (.ite (k==(3:Int)) (.ret (.p (.bool (mS a b==(0:Int)))) []) (.ret (.p (.bool false)) [])))) fun Γ=>?_
 refine ⟨fun h=>⟨?_,rfl⟩,fun h1=>⟨fun h=>⟨?_,rfl⟩,fun h2=>⟨fun h=>⟨?_,rfl⟩,fun h3=>⟨?_,rfl⟩⟩⟩⟩
 · simp_all [vR]
 · simp_all [vR]
 · have e:vR ⟨k,a,b⟩=(pIn a&&pIn b):=by simp_all [vR]
   rw [e]
   cases h':(pIn a&&pIn b)
   · simp [mS,h']
   · simp [mS,h']
 · simp_all [vR]
def mJ:Ent:=(140,fun
 | [.agg [.pd (.int .i64 k),.pd (.int .i64 a),.pd (.int .i64 b)]],[]=>some (none,.x (.c (.pd (.bool (vR ⟨k,a,b⟩)))),[])
 | _,_=>none)
theorem yl:EntOk Tryz.prog mJ:=entOk fun vs ck=>by
 unfold mJ; dsimp only; split
 · rename_i k a b; exact entS fun hp=>wm k a b
 · exact entN
theorem uq (k a b:Int):ah Tryz.prog 126 [.agg [.pd (.i k),.pd (.i a),.pd (.i b)]] [] (.x (.b (vR ⟨k,a,b⟩))) []:=by
 refine dg (cfg:=(IV)) Gp Tryz.func126 (.ite (k==(1:Int)) (.ret (.p (.bool (b==(0:Int)))) []) (.ite (k==(2:Int)) (.ret (.p (.bool (k==(2:Int)&&(a==(0:Int)&&b==(0:Int))||k==(2:Int)&&(a==(1:Int)&&b==(0:Int))))) []) (.ite (k==(3:Int)) (.ret (.p (.bool (pIn a&&pIn b))) []) (.ret (.p (.bool false)) [])))) fun Γ=>?_
 refine ⟨fun h=>⟨?_,rfl⟩,fun h1=>⟨fun h=>⟨?_,rfl⟩,fun h2=>⟨fun h=>⟨?_,rfl⟩,fun h3=>⟨?_,rfl⟩⟩⟩⟩
 · simp_all [vR]
 · have e:k=2:=by simpa using h
   subst e
   have e2:vR ⟨2,a,b⟩=(b==0&&(a==0||a==1)):=by simp [vR]
   rw [e2]
   cases hb:b==0 <;> cases h0:a==0 <;> cases h4:a==1 <;> simp
 · simp_all [vR]
 · simp_all [vR]
def ld:Ent:=(126,fun
 | [.agg [.pd (.int .i64 k),.pd (.int .i64 a),.pd (.int .i64 b)]],[]=>some (none,.x (.c (.pd (.bool (vR ⟨k,a,b⟩)))),[])
 | _,_=>none)
theorem wX:EntOk Tryz.prog ld:=entOk fun vs ck=>by
 unfold ld; dsimp only; split
 · rename_i k a b; exact entS fun hp=>uq k a b
 · exact entN
end Go.Proofs.YtgfifkhbfdacjaaGreatDoor
namespace Go.Proofs.YtgfifkhbfdacjaaGreatDoor
open Go Go.Ev
set_option maxRecDepth 100000
def Jd:Cfg:=⟨aY,[mJ,ko]⟩
theorem GY:ag Tryz.prog Jd.tab:=(ag.cons yl (ag.cons ji ag.nil))
variable (c:Chart) (l:List Ev.Stat) (i:Nat) (v:Var)
def mD:Int:=if (v.kind==3)=true then 1048576 else 1099511627776
def r5:Int:=if (v.kind==3)=true then (if v.init.b<v.init.a then v.init.b else v.init.a) else v.init.a
def oT:Int:=if (v.kind==3)=true then (if v.init.b>v.init.a then v.init.b else v.init.a) else v.init.a
def dY:Int :=
 if (decide (v.kind<1)||decide (v.kind>3)||v.init.kind != v.kind)=true then 8
 else if (decide (v.lo>v.hi)||decide (v.lo < - mD v)||decide (v.hi>mD v)||v.kind==2&&(v.lo != 0||v.hi != 1))=true then 5
 else bT (vR v.init&&decide (r5 v≥v.lo)&&decide (oT v≤v.hi)) 5
def dd:Int :=
 if ((ETy.get .stat l i).kind != 2 && !aO (ETy.get .stat l i).kind)=true then bT ((ETy.get .stat l i).initial==[]) 1
 else if (decide (az l (ETy.get .stat l i).initial<0)||aO (ETy.get .stat l (az l (ETy.get .stat l i).initial).toNat).kind)=true then 2
 else if ((ETy.get .stat l i).kind==2)=true then bT (ba l (az l (ETy.get .stat l i).initial)==(i:Int)) 2
 else if ((ETy.get .stat l i).kind==5)=true then bT (ba l (az l (ETy.get .stat l i).initial)==ba l i) 2
 else bT (gg l (ba l i) (az l (ETy.get .stat l i).initial)) 2
theorem Ds:ah Tryz.prog 91 [.e .var v] [] (.x (.i (dY v))) []:=by
 refine dg GY Tryz.func91 (let x1:Tree:=(.ite (v.kind==(3:Int)) (.ret (.i (bT (vR v.init&&decide ((if v.init.b<v.init.a then v.init.b else v.init.a)≥v.lo)&&decide ((if v.init.b>v.init.a then v.init.b else v.init.a)≤v.hi)) (5:Int))) []) (.ret (.i (bT (vR v.init&&decide (v.init.a≥v.lo)&&decide (v.init.a≤v.hi)) (5:Int))) [])); let x2:=(v.lo != (0:Int)||v.hi != (1:Int)); .ite (decide (v.kind<(1:Int))||decide (v.kind>(3:Int))||v.init.kind != v.kind) (.ret (.i 8) []) (.ite (v.kind==(3:Int)) (.ite (decide (v.lo>v.hi)||decide (v.lo<IntKind.wrap .i64 ((0:Int) - 1048576))||decide (v.hi>(1048576:Int))||v.kind==(2:Int)&&x2) (.ret (.i 5) []) x1) (.ite (decide (v.lo>v.hi)||decide (v.lo<IntKind.wrap .i64 ((0:Int) - 1099511627776))||decide (v.hi>(1099511627776:Int))||v.kind==(2:Int)&&x2) (.ret (.i 5) []) x1))) fun Γ=>?_
 conv=>zeta
 have w1:IntKind.wrap .i64 (0 - 1048576) = -1048576:=by decide
 have w2:IntKind.wrap .i64 (0 - 1099511627776) = -1099511627776:=by decide
 refine ⟨fun h=>?_,fun h=>⟨fun h3=>⟨fun hr=>?_,fun hr=>⟨fun h4=>?_,fun h4=>?_⟩⟩,fun h3=>⟨fun hr=>?_,fun hr=>⟨fun h4=>?_,fun h4=>?_⟩⟩⟩⟩
 · unfold dY; rw [if_pos h]; exact ⟨rfl,rfl⟩
 · rw [w1] at hr
   unfold dY; rw [if_neg (by rw [h]; decide)]
   simp only [mD,if_pos h3]
   rw [if_pos hr]; exact ⟨rfl,rfl⟩
 · rw [w1] at hr
   unfold dY; rw [if_neg (by rw [h]; decide)]
   simp only [mD,r5,oT,if_pos h3]
   rw [if_neg (by rw [hr]; decide)]; exact ⟨rfl,rfl⟩
 · rw [h3] at h4; cases h4
 · rw [w2] at hr
   unfold dY; rw [if_neg (by rw [h]; decide)]
   simp only [mD,if_neg (show ¬(v.kind==3)=true by rw [h3]; decide)]
   rw [if_pos hr]; exact ⟨rfl,rfl⟩
 · rw [h3] at h4; cases h4
 · rw [w2] at hr
   unfold dY; rw [if_neg (by rw [h]; decide)]
   simp only [mD,r5,oT,if_neg (show ¬(v.kind==3)=true by rw [h3]; decide)]
   rw [if_neg (by rw [hr]; decide)]; exact ⟨rfl,rfl⟩
def uI:Ent:=(91,fun
 | [.agg [.pd (.str a),.pd (.int .i64 b),.pd (.int .i64 e),.pd (.int .i64 f),.pd (.int .i64 g),.pd (.int .i64 h),.pd (.int .i64 i)]],[]=>some (none,.x (.c (.pd (.int .i64 (dY ⟨a,b,e,f,⟨g,h,i⟩⟩)))),[])
 | _,_=>none)
theorem Ho:EntOk Tryz.prog uI:=entOk fun vs ck=>by
 unfold uI; dsimp only; split
 · rename_i a b e f g h i; exact entS fun hp=>Ds ⟨a,b,e,f,⟨g,h,i⟩⟩
 · exact entN
def Dq:Cfg:=⟨aY,[mb,ko,jL,je,mc]⟩
theorem DA:ag Tryz.prog Dq.tab:=(ag.cons nF (ag.cons ji (ag.cons jM (ag.cons ka (ag.cons ri ag.nil)))))
theorem kp {α:Type} (p:α→Bool):∀ (l:List α) (i:Int),0≤i→aC p l i = -1∨(i≤aC p l i∧aC p l i<i+(l.length:Int))
 | [],i,_=>.inl rfl
 | x :: r,i,h=>by
   have ih:=kp p r (i+1) (by omega)
   unfold aC
   cases p x
   · rw [cond_false]
     rcases ih with e | ⟨h1,h2⟩
     · exact .inl e
     · refine .inr ⟨by omega,?_⟩
       rw [aF]; omega
   · rw [cond_true]
     refine .inr ⟨by omega,?_⟩
     rw [aF]; omega
theorem jh (n:Str):az l n = -1∨(0≤az l n∧az l n<(l.length:Int)):=by
 rcases kp (fun s:Ev.Stat=>s.name==n) l 0 (by omega) with h | ⟨h1,h2⟩
 · exact .inl h
 · exact .inr ⟨h1,by unfold az; omega⟩
theorem Dj (hi:i<c.states.length) (hl:c.states.length≤maxLen):ah Tryz.prog 89 [.e .chart c,.i (i:Int)] [] (.x (.i (dd c.states i))) []:=by
 refine dg DA Tryz.func89 (let x1:=(ETy.get .stat c.states i); let x2:=(az c.states (Stat.initial x1)); let x3:=(c.states.length≤maxLen); let x4:=(az c.states (Stat.initial x1)<(0:Int)); .need (inRg i c.states.length) (.ite (Stat.kind x1 != (2:Int) && !aO (Stat.kind x1)) (.ret (.i (bT (Stat.initial x1==[]) (1:Int))) []) (.need (decide x4=false→(0:Int)≤az c.states (Stat.initial x1)∧az c.states (Stat.initial x1)<(c.states.length:Int)) (.ite (decide x4||aO (Stat.kind (ETy.get .stat c.states (x2.toNat)))) (.ret (.i 2) []) (.need x3 (.ite (Stat.kind x1==(2:Int)) (.need x3 (.ret (.i (bT (ba c.states x2==(i:Int)) (2:Int))) [])) (.ite (Stat.kind x1==(5:Int)) (.need x3 (.ret (.i (bT (ba c.states x2==ba c.states (i:Int)) (2:Int))) [])) (.need x3 (.ret (.i (bT (gg c.states (ba c.states (i:Int)) x2) (2:Int))) []))))))))) fun Γ=>?_
 conv=>zeta
 unfold dd
 have hp:=jh c.states (ETy.get .stat c.states i).initial
 refine ⟨⟨by omega,by omega⟩,fun h=>?_,fun h=>⟨fun h2=>?_,fun h3=>?_,fun h3=>⟨hl,fun h4=>⟨hl,?_⟩,fun h4=>⟨fun h5=>⟨hl,?_⟩,fun h5=>⟨hl,?_⟩⟩⟩⟩⟩
 · rw [if_pos h]; exact ⟨rfl,rfl⟩
 · have:=of_decide_eq_false h2
   rcases hp with e | e
   · omega
   · exact e
 · rw [if_neg (by rw [h]; decide),if_pos h3]; exact ⟨rfl,rfl⟩
 · rw [if_neg (by rw [h]; decide),if_neg (by rw [h3]; decide),if_pos h4]; exact ⟨rfl,rfl⟩
 · rw [if_neg (by rw [h]; decide),if_neg (by rw [h3]; decide),if_neg (by rw [h4]; decide),if_pos h5]; exact ⟨rfl,rfl⟩
 · rw [if_neg (by rw [h]; decide),if_neg (by rw [h3]; decide),if_neg (by rw [h4]; decide),if_neg (by rw [h5]; decide)]; exact ⟨rfl,rfl⟩
theorem Bo (i:Int) (h:0≤i∧i<(c.states.length:Int)∧c.states.length≤maxLen):ah Tryz.prog 89 [.e .chart c,.i i] [] (.x (.i (dd c.states i.toNat))) []:=by
 obtain ⟨k,rfl⟩:=aD h.1
 rw [ai]
 exact Dj c k (by omega) h.2.2
def qH:Ent:=(89,fun
 | [.agg [.pd (.str a),.pd (.lst .str b),.pd (.lst .var c),.pd (.lst .stat d),.pd (.lst .tran e)],.c (.pd (.int .i64 i))],[]=>some (some (0≤i∧i<(d.length:Int)∧d.length≤maxLen),.x (.c (.pd (.int .i64 (dd d i.toNat)))),[])
 | _,_=>none)
theorem DJ:EntOk Tryz.prog qH:=entOk fun vs ck=>by
 unfold qH; dsimp only; split
 · rename_i a b c d e i; exact entS fun hp=>Bo ⟨a,b,c,d,e⟩ i hp
 · exact entN
end Go.Proofs.YtgfifkhbfdacjaaGreatDoor
namespace Go.Proofs.YtgfifkhbfdacjaaGreatDoor
open Go Go.Ev
set_option maxRecDepth 100000
theorem FY (v:Var) (a:Deed):ah Tryz.prog 179 [.e .var v,.p (.ref .deed a 0)] [] (.x (.b (v.name==a.name))) []:=by
 refine dg aR Tryz.func179 (.ret (.p (.bool (v.name==a.name))) []) fun Γ=>⟨rfl,rfl⟩
def Aw:Ent:=(179,fun
 | [.agg [.pd (.str a),.pd (.int .i64 b),.pd (.int .i64 e),.pd (.int .i64 f),.pd (.int .i64 g),.pd (.int .i64 h),.pd (.int .i64 i)],.c (.pd (.ref .deed ⟨x,y,z⟩ 0))],[]=>some (none,.x (.c (.pd (.bool (a==y)))),[])
 | _,_=>none)
theorem J9:EntOk Tryz.prog Aw:=entOk fun vs ck=>by
 unfold Aw; dsimp only; split
 · rename_i a b e f g h i x y z; exact entS fun hp=>FY ⟨a,b,e,f,⟨g,h,i⟩⟩ ⟨x,y,z⟩
 · exact entN
def xj:Cfg:=⟨aY,[Aw]⟩
theorem ue:ag Tryz.prog xj.tab:=(ag.cons J9 ag.nil)
abbrev zTh3:List PI:=[.code [1,0,1,0,0],.inLoop [1,0,1,0,0],.inBlock 0,.code [1,1]]
theorem Gj (l:List Var) (s:Deed) (Γ:Ctx) (hl:l.length≤maxLen)  : ∀ (n k:Nat),l.length - k≤n→k≤l.length →
 J Tryz.prog 178 (au Tryz.f178) Γ (Eq2 (.x (.i (aC (fun v:Var=>v.name==s.name) (l.drop k) k))) []) zTh3 ({ n:=19,fr:=[(0,.p (.lst .var l)),(1,.x (.c (.fn (.func 179) [] [.pd (.ref .deed s 0)]))),(4,.i 0),(7,.i l.length),(8,.i k)],ck:=[] }):=by
 intro n
 induction n with
 | zero=>?_
 | succ n ih=>?_
 all_goals
  intro k hn hk
  refine jg ue Tryz.func178 (.ite (decide ((k:Int)<(l.length:Int))) (.need (inRg k l.length) (.ite (Var.name (ETy.get .var l k)==s.2) (.ret (.i k) []) (.stop zTh3 { n:=19,fr:=[(0,.p (.lst .var l)),(1,.x (.c (.fn (.func 179) [] [.pd (.ref .deed s 0)]))),(4,.i 0),(7,.i l.length),(8,.i (IntKind.wrap .i64 ((k:Int)+1)))],ck:=[] }))) (.ret (.i (-1:Int)) [])) ?_
  refine ⟨fun hlt=>?_,fun hge=>?_⟩
  · have hk':k<l.length:=by have:=of_decide_eq_true hlt; omega
    rw [bD (t:=.var) (l:=l) hk']
    refine ⟨by omega,?_⟩
    generalize ETy.get .var l k=v
    refine ⟨fun hb=>⟨?_,rfl⟩,fun hb=>?_⟩
    · simp only [aC,hb,cond_true]
    · simp only [aC,hb,cond_false]; (rw [aX (aE hk' hl)]; first | (exfalso; omega) | exact ih (k+1) (by omega) (by omega))
  · rw [bO (l:=l) (by have:=of_decide_eq_false hge; omega)]
    exact ⟨rfl,rfl⟩
theorem GO (l:List Var) (s:Deed):ah Tryz.prog 178 [.l .var (l),SX.c (SC.fn (Fn.func 179) [] [RC.pd (PD.ref ETy.deed s 0)])] [] (.x (.i (aC (fun v:Var=>v.name==s.name) l 0))) []:=by
 refine dg ue Tryz.func178 (.stop zTh3 { n:=19,fr:=[(0,.p (.lst .var l)),(1,.x (.c (.fn (.func 179) [] [.pd (.ref .deed s 0)]))),(4,.i 0),(7,.i l.length),(8,.i 0)],ck:=[] }) fun Γ=>?_
 exact J.len 0 rfl fun hl=>Gj l s Γ hl l.length 0 (by omega) (by omega)
def AQ:Ent:=(178,fun
 | [.c (.pd (.lst .var l)),.c (.fn (.func 179) [] [.pd (.ref .deed s 0)])],[]=>some (none,.x (.c (.pd (.int .i64 (aC (fun v:Var=>v.name==s.name) l 0)))),[])
 | _,_=>none)
theorem K7:EntOk Tryz.prog AQ:=entOk fun vs ck=>by
 unfold AQ; dsimp only; split
 · rename_i l s; exact entS fun hp=>GO l s
 · exact entN
def Cq:Cfg:=⟨aY,[eOf,qq,eSc,AQ]⟩
theorem vz:ag Tryz.prog Cq.tab:=(ag.cons Ec (ag.cons Fq (ag.cons xE (ag.cons K7 ag.nil))))
variable (ev:List Str) (c:Chart) (vs:List Var) (l:List Deed) (a:Deed) (Γ:Ctx)
def cU:Int :=
 if (a.kind != 1)=true then (if (!(ev.any fun x=>a.name==x))=true then 2 else 0)
 else if decide (aC (fun v:Var=>v.name==a.name) vs 0<0)=true then 2
 else if ((bY a.expr vs []).2 != 0)=true then (bY a.expr vs []).2
 else if ((bY a.expr vs []).1 != (ETy.get .var vs (aC (fun v:Var=>v.name==a.name) vs 0).toNat).kind)=true then 8 else 0
def iW (ev:List Str) (vs:List Var):List Deed→Int
 | []=>0
 | a::r=>if (cU ev vs a != 0)=true then cU ev vs a else iW ev vs r
def b9:Int :=
 if ((l.length:Int)==0)=true then 0 else if (!ft l)=true then 1 else iW ev vs l
abbrev zTh1 (a:Chart):List Chunk:=[.cells [.pd (.str a.name),.pd (.lst .str a.events),.pd (.lst .var a.vars),.pd (.lst .stat a.states),.pd (.lst .tran a.trans)] 27]
abbrev zTh2:List PI:=[.code [1,1,1,0,1,0,0],.inLoop [1,1,1,0,1,0,0],.inBlock 0,.code [1,1,1,1]]
theorem Li (hl:l.length≤maxLen)  : ∀ (n k:Nat),l.length - k≤n→k≤l.length →
 J Tryz.prog 141 (au Tryz.f141) Γ (Eq2 (.x (.i (iW c.events c.vars (l.drop k)))) []) zTh2 ({ n:=57,fr:=[(2,.x (.c (.loc 0 0))),(4,.i 0),(16,.p (.lst .deed l)),(17,.i l.length),(18,.i k)],ck:=(zTh1 c) }):=by
 intro n
 induction n with
 | zero=>?_
 | succ n ih=>?_
 all_goals
  intro k hn hk
  refine jg vz Tryz.func141 (let x1:Tree:=(.stop zTh2 { n:=57,fr:=[(2,.x (.c (.loc 0 0))),(4,.i 0),(16,.p (.lst .deed l)),(17,.i l.length),(18,.i (IntKind.wrap .i64 ((k:Int)+1)))],ck:=(zTh1 c) }); let x2:=(bY (Deed.expr (ETy.get .deed l k)) c.vars []); .ite (decide ((k:Int)<(l.length:Int))) (.need (inRg k l.length) (.ite (Deed.kind (ETy.get .deed l k) != (1:Int)) (.ite (!List.any c.events fun x=>Deed.name (ETy.get .deed l k)==x) (.ret (.i 2) []) x1) (.ite (decide (aC (fun v=>v.name==Deed.name (ETy.get .deed l k)) c.vars (0:Int)<0)) (.ret (.i 2) []) (.ite (x2.2 != (0:Int)) (.ret (.i (x2.2)) []) (.need ((0:Int)≤aC (fun v=>v.name==Deed.name (ETy.get .deed l k)) c.vars (0:Int)∧aC (fun v=>v.name==Deed.name (ETy.get .deed l k)) c.vars (0:Int)<(c.vars.length:Int)) (.ite (x2.1 != Var.kind (ETy.get .var c.vars ((aC (fun v=>v.name==Deed.name (ETy.get .deed l k)) c.vars (0:Int)).toNat))) (.ret (.i 8) []) x1)))))) (.ret (.i 0) [])) ?_
  conv=>zeta
  refine ⟨fun hlt=>?_,fun hge=>?_⟩
  · have hk':k<l.length:=by have:=of_decide_eq_true hlt; omega
    rw [bD (t:=.deed) (l:=l) hk']
    refine ⟨by omega,?_⟩
    generalize ETy.get .deed l k=v
    have hs:∀ r,iW c.events c.vars (v::r)=if (cU c.events c.vars v != 0)=true then cU c.events c.vars v else iW c.events c.vars r:=fun _=>rfl
    have hin:=kp (fun x:Var=>x.name==v.name) c.vars 0 (by omega)
    refine ⟨fun h1=>⟨fun h2=>?_,fun h2=>?_⟩,fun h1=>⟨fun h2=>?_,fun h2=>⟨fun h3=>?_,fun h3=>⟨?_,⟨fun h4=>?_,fun h4=>?_⟩⟩⟩⟩⟩
    · have he:cU c.events c.vars v=2:=by unfold cU; rw [if_pos h1,if_pos h2]
      rw [hs,he]; exact ⟨rfl,rfl⟩
    · have he:cU c.events c.vars v=0:=by unfold cU; rw [if_pos h1,if_neg (by rw [h2]; decide)]
      rw [hs,he,if_neg (by decide)]; (rw [aX (aE hk' hl)]; first | (exfalso; omega) | exact ih (k+1) (by omega) (by omega))
    · have he:cU c.events c.vars v=2:=by unfold cU; rw [if_neg (by rw [h1]; decide)]; exact if_pos h2
      rw [hs,he]; exact ⟨rfl,rfl⟩
    · have he:cU c.events c.vars v=(bY v.expr c.vars []).2:=by unfold cU; rw [if_neg (by rw [h1]; decide),if_neg (by show ¬_; exact fun e=>by rw [e] at h2; cases h2),if_pos h3]
      rw [hs,he,if_pos h3]; exact ⟨rfl,rfl⟩
    · have:=of_decide_eq_false h2
      rcases hin with e | ⟨e1,e2⟩
      · exfalso; exact this (by show aC (fun x:Var=>x.name==v.name) c.vars 0<0; omega)
      · exact ⟨e1,by omega⟩
    · have he:cU c.events c.vars v=8:=by unfold cU; rw [if_neg (by rw [h1]; decide),if_neg (by exact fun e=>by rw [e] at h2; cases h2),if_neg (by rw [h3]; decide),if_pos h4]
      rw [hs,he]; exact ⟨rfl,rfl⟩
    · have he:cU c.events c.vars v=0:=by unfold cU; rw [if_neg (by rw [h1]; decide),if_neg (by exact fun e=>by rw [e] at h2; cases h2),if_neg (by rw [h3]; decide),if_neg (by exact fun e=>by rw [e] at h4; cases h4)]
      rw [hs,he,if_neg (by decide)]; (rw [aX (aE hk' hl)]; first | (exfalso; omega) | exact ih (k+1) (by omega) (by omega))
  · rw [bO (l:=l) (by have:=of_decide_eq_false hge; omega)]
    exact ⟨rfl,rfl⟩
theorem ym:ah Tryz.prog 141 [.e .chart c,.l .deed l] [] (.x (.i (b9 c.events c.vars l))) []:=by
 refine dg vz Tryz.func141 (.ite ((l.length:Int)==0) (.ret (.i 0) []) (.ite (!ft l) (.ret (.i 1) []) (.stop zTh2 { n:=57,fr:=[(2,.x (.c (.loc 0 0))),(4,.i 0),(16,.p (.lst .deed l)),(17,.i l.length),(18,.i 0)],ck:=(zTh1 c) }))) fun Γ=>?_
 refine ⟨fun h=>?_,fun h=>⟨fun h2=>?_,fun h2=>?_⟩⟩
 · unfold b9; rw [if_pos h]; exact ⟨rfl,rfl⟩
 · unfold b9; rw [if_neg (by rw [h]; decide),if_pos h2]; exact ⟨rfl,rfl⟩
 · unfold b9; rw [if_neg (by rw [h]; decide),if_neg (by rw [h2]; decide)]
   exact J.len 16 rfl fun hl=>Li c l Γ hl l.length 0 (by omega) (by omega)
def wJ:Ent:=(141,fun
 | [.agg [.pd (.str a),.pd (.lst .str b),.pd (.lst .var c),.pd (.lst .stat d),.pd (.lst .tran e)],.c (.pd (.lst .deed l))],[]=>some (none,.x (.c (.pd (.int .i64 (b9 b c l)))),[])
 | _,_=>none)
theorem yZ:EntOk Tryz.prog wJ:=entOk fun vs ck=>by
 unfold wJ; dsimp only; split
 · rename_i a b c d e l; exact entS fun hp=>ym ⟨a,b,c,d,e⟩ l
 · exact entN
end Go.Proofs.YtgfifkhbfdacjaaGreatDoor

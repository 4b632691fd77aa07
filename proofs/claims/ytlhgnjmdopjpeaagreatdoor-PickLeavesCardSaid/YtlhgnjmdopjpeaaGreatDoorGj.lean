/- Contracts: the layer's example holds. Conditions: none. Contracts: the document's layer 11. Conditions: sizes. Contracts: the laws PickOf, PickMay. Conditions: sizes. Lists of ints and of bytes among the laws' arguments. Conditions: none. The argument Now of the laws on what is taken, opened. Conditions: none. Numbers among the law's arguments. Conditions: none. -/
import Derived.Test.YtlhgnjmdopjpeaaGreatDoorSg
import Derived.Test.YtlhgnjmdopjpeaaGreatDoorAi
import Derived.Test.YtlhgnjmdopjpeaaGreatDoorMh
import Derived.Test.YtlhgnjmdopjpeaaGreatDoorVi
import Derived.Test.YtlhgnjmdopjpeaaGreatDoorAf
import Derived.Test.YtlhgnjmdopjpeaaGreatDoorSq
import Derived.Test.YtlhgnjmdopjpeaaGreatDoorVm
import Derived.Test.YtlhgnjmdopjpeaaGreatDoorSk
import Derived.Test.YtlhgnjmdopjpeaaGreatDoorXb
import Derived.Test.YtlhgnjmdopjpeaaGreatDoorAg
import Derived.Test.YtlhgnjmdopjpeaaGreatDoorSo
import Derived.Test.YtlhgnjmdopjpeaaGreatDoorJb
namespace Go.Proofs.YtlhgnjmdopjpeaaGreatDoor
open Go Go.Ev
set_option maxRecDepth 100000
theorem tq{V:Vn}{a:Str}{b:List Str}{d:List Ev.Stat}{e:List Tran}{u:Value}(h:SX.R V (.agg [.pd (.str a),.pd (.lst .str b),.pd (.v (.slice none 0 0)),.pd (.lst .stat d),.pd (.lst .tran e)]) u):SX.R V (.e .chart ⟨a,b,[],d,e⟩) u:=by
 obtain⟨us,e,hu⟩:=h
 refine⟨us,e,?_⟩
 cases hu with |cons h0 hu=>cases hu with |cons h1 hu=>cases hu with |cons h2 hu=>cases hu with |cons h3 hu=>cases hu with |cons h4 hu =>
  cases hu
  exact .cons h0 (.cons h1 (.cons (ir h2) (.cons h3 (.cons h4 .nil))))
theorem Jn(a:Str)(b:List Str)(d:List Ev.Stat)(e:List Tran)(l:List Int)(ev:Str)(h:d.length≤2199023255552):ag Tryz.prog 19 [.agg [.pd (.str a),.pd (.lst .str b),.pd (.v (.slice none 0 0)),.pd (.lst .stat d),.pd (.lst .tran e)],.l .int l,.l .val [],.s ev] [] (.x (.c (.pd (.lst .int (pJ ⟨a,b,[],d,e⟩ l [] ev))))) [] :=
 ag.sub (fun V vs hv=>by
  cases hv with |cons h1 hv=>exact .cons (tq h1) hv) (Mn ⟨a,b,[],d,e⟩ l [] ev ⟨by simp,h⟩ (fun _ h=>by cases h))
theorem Ga(a:Str)(b:List Str)(d:List Ev.Stat)(e:List Tran)(l:List Int)(ev:Str)(h:d.length≤2199023255552):ag Tryz.prog 17 [.agg [.pd (.str a),.pd (.lst .str b),.pd (.v (.slice none 0 0)),.pd (.lst .stat d),.pd (.lst .tran e)],.l .int l,.l .val [],.s ev] [] (.x (.c (.pd (.lst .int (tn ⟨a,b,[],d,e⟩ l [] ev))))) [] :=
 ag.sub (fun V vs hv=>by
  cases hv with |cons h1 hv=>exact .cons (tq h1) hv) (I5 ⟨a,b,[],d,e⟩ l [] ev ⟨by simp,h⟩ (fun _ h=>by cases h))
theorem yk(a:Str)(b:List Str)(d:List Ev.Stat)(e:List Tran)(l:List Int)(t:Int)(h:d.length≤2199023255552):ag Tryz.prog 11 [.agg [.pd (.str a),.pd (.lst .str b),.pd (.v (.slice none 0 0)),.pd (.lst .stat d),.pd (.lst .tran e)],.l .int l,.i t] [] (.x (.c (.pd (.lst .int (eH ⟨a,b,[],d,e⟩ l t))))) [] :=
 ag.sub (fun V vs hv=>by
  cases hv with |cons h1 hv=>exact .cons (tq h1) hv) (qW ⟨a,b,[],d,e⟩ l t ⟨by simp,h⟩)
def E7:Ent:=(19,fun
 |[.agg [.pd (.str a),.pd (.lst .str b),.pd (.v (.slice none 0 0)),.pd (.lst .stat d),.pd (.lst .tran e)],.c (.pd (.lst .int l)),.c (.pd (.lst .val [])),.c (.pd (.str ev))],[]=>some (some (d.length≤2199023255552∧pJ ⟨a,b,[],d,e⟩ l [] ev=[1]),.x (.c (.pd (.lst .int [1]))),[])
 |_,_=>none)
theorem OS:EntOk Tryz.prog E7:=entOk fun vs ck=>by
 unfold E7;dsimp only;split
 ·rename_i a b d e l ev;exact entS fun hp=>by rw[←hp.2];exact Jn a b d e l ev hp.1
 ·exact entN
def yJ:Ent:=(17,fun
 |[.agg [.pd (.str a),.pd (.lst .str b),.pd (.v (.slice none 0 0)),.pd (.lst .stat d),.pd (.lst .tran e)],.c (.pd (.lst .int l)),.c (.pd (.lst .val [])),.c (.pd (.str ev))],[]=>some (some (d.length≤2199023255552∧tn ⟨a,b,[],d,e⟩ l [] ev=[0,1]),.x (.c (.pd (.lst .int [0,1]))),[])
 |_,_=>none)
theorem Le:EntOk Tryz.prog yJ:=entOk fun vs ck=>by
 unfold yJ;dsimp only;split
 ·rename_i a b d e l ev;exact entS fun hp=>by rw[←hp.2];exact Ga a b d e l ev hp.1
 ·exact entN
def E4:Ent:=(11,fun
 |[.agg [.pd (.str a),.pd (.lst .str b),.pd (.v (.slice none 0 0)),.pd (.lst .stat d),.pd (.lst .tran e)],.c (.pd (.lst .int l)),.c (.pd (.int .i64 t))],[]=>some (some (d.length≤2199023255552∧eH ⟨a,b,[],d,e⟩ l t=[1]),.x (.c (.pd (.lst .int [1]))),[])
 |_,_=>none)
theorem OP:EntOk Tryz.prog E4:=entOk fun vs ck=>by
 unfold E4;dsimp only;split
 ·rename_i a b d e l t;exact entS fun hp=>by rw[←hp.2];exact yk a b d e l t hp.1
 ·exact entN
def QM:Cfg:=⟨aX,[yM,E7,yJ,E4,ql]⟩
theorem Hg:ah Tryz.prog QM.tab:=(ah.cons Lh (ah.cons OS (ah.cons Le (ah.cons OP (ah.cons xt ah.nil)))))
def exC:Chart:=⟨[99],[[103,111]],[],[⟨[114],2,0,[97],[],[]⟩,⟨[97],1,1,[],[],[]⟩],[⟨0,[103,111],[],[97],[]⟩,⟨1,[103,111],[],[],[]⟩]⟩
theorem KU:br exC=0:=by
 refine(dI _).2 ⟨by decide,by decide,by decide,by decide,by decide,by decide,fun k hk=>?_,fun k hk=>absurd hk (Nat.not_lt_zero _),fun k hk=>?_,fun k hk=>?_⟩
 · have hk':k<2:=hk
   rcases(show k=0∨k=1 by omega)with rfl |rfl <;> decide
 · have hk':k<2:=hk
   rcases(show k=0∨k=1 by omega)with rfl |rfl <;> decide
 · have hk':k<2:=hk
   rcases(show k=0∨k=1 by omega)with rfl |rfl <;> decide
theorem FA:(br exC==0&&bt exC.states [0,1])=true:=by rw[KU];kernel_rfl
theorem Rk:tn exC [0,1] [] [103,111]=[0,1]:=by
 have e:cU exC [0,1] [] [103,111]=[0,1]:=by kernel_rfl
 unfold tn
 rw[FA,if_pos rfl,e]
theorem RR:pJ exC [0,1] [] [103,111]=[1]:=by
 have e:lV exC.states [0,1] exC.trans (cU exC [0,1] [] [103,111])=[1]:=by kernel_rfl
 unfold pJ
 rw[FA,if_pos rfl,e]
theorem RQ:eH exC [0,1] 0=[1]:=by
 have e:jt exC.states [0,1] (ETy.get .tran exC.trans 0)=[1]:=by kernel_rfl
 have e2:(decide ((0:Int)<0)||decide ((0:Int)≥(exC.trans.length:Int)) || !(br exC==0&&bt exC.states [0,1]) || !inB [0,1] (ETy.get .tran exC.trans (0:Int).toNat).src)=false:=by
  rw[FA];kernel_rfl
 unfold eH
 rw[e2,if_neg (by decide)]
 exact e
def RW(ck:List Chunk):List Nat:=(List.range ck.length).filter (FM ck)
def BX(P:Program)(cfg:Cfg)(fn:Func)(root:Code):Nat→List PI→ST→List Prop→Option (List Prop×SV×List Chunk)
 |0,_,_,_=>none
 | n + 1,todo,st,a=>match(exec P cfg fn root 1000 todo st).walk a with
   |(a',.ret v ck)=>some (a',v,ck)
   | (a',.stop (.ops p i::k) st')=>match ti cfg.tys st' (RW st'.ck)with
     | some st1=>match oR P cfg root 999 p i st1 with
       |some (none,st2)=>BX P cfg fn root n (.ops p (i+1)::k) st2 a'
       |some (some q,st2)=>BX P cfg fn root n (.ops p (i+1)::k) st2 (q::a')
       |none=>none
     |none=>none
   |(a',.stop todo' st')=>BX P cfg fn root n todo' st' a'
   |_=>none
section
variable{P:Program}{cfg:Cfg}{Γ:Ctx}{Q:Out}{f:FuncId}{fn:Func}{root:Code}
theorem vB(ht:ah P cfg.tab)(hf:P.funcs[f]?=some fn):∀(n:Nat) {todo:List PI} {st:ST} {a ps:List Prop} {v:SV} {ck:List Chunk},BX P cfg fn root n todo st a=some (ps,v,ck)→dQ ps→Q v ck→J P f root Γ Q todo st∧dQ a
 |0,_,_,_,_,_,_,h,_,_=>by cases h
 | n + 1,todo,st,a,ps,v,ck,h,hp,hq=>by
   simp only[BX]at h
   have back:∀{a':List Prop} {todo':List PI} {st':ST},(exec P cfg fn root 1000 todo st).walk a=(a',.stop todo' st')→J P f root Γ Q todo' st'∧dQ a'→J P f root Γ Q todo st∧dQ a:=fun he hj=>by
    obtain⟨h1,h2⟩:=Tree.walk_J (Q:=Q) (Γ:=Γ) (P:=P) (f:=f) (root:=root) he hj.2 hj.1
    exact⟨J.go ht hf 1000 rfl h1,h2⟩
   split at h
   · rename_i a' v' ck' he
     simp only[aa,ae]at h
     obtain⟨rfl,rfl,rfl⟩:=h
     obtain⟨h1,h2⟩:=Tree.walk_J (Q:=Q) (Γ:=Γ) (P:=P) (f:=f) (root:=root) he hp hq
     exact⟨J.go ht hf 1000 rfl h1,h2⟩
   · rename_i a' p i k st' he
     refine back he ?_
     split at h
     · rename_i st1 hz
       split at h
       · rename_i st2 hs
         have h3:=vB ht hf n h hp hq
         exact⟨J.freeze cfg.tys _ hz (j9 ht hs trivial h3.1),h3.2⟩
       · rename_i q st2 hs
         have h3:=vB ht hf n h hp hq
         exact⟨J.freeze cfg.tys _ hz (j9 ht hs h3.2.1 h3.1),h3.2.2⟩
       ·cases h
     ·cases h
   · rename_i a' todo' st' _ he
     exact back he (vB ht hf n h hp hq)
   ·cases h
end
theorem GO:ag Tryz.prog 9 [] [] (.x (.b true)) []:=by
 refine ag.of Tryz.func9 (by kernel_rfl) (by kernel_rfl) fun Γ=>?_
 refine(vB (a:=[]) (fn:=Tryz.f9) Hg Tryz.func9 40 (ps:=[2≤2199023255552∧eH exC [0,1] 0=[1],2≤2199023255552∧tn exC [0,1] [] [103,111]=[0,1],2≤2199023255552∧pJ exC [0,1] [] [103,111]=[1],exW=exW]) (by kernel_rfl) ?_ ⟨rfl,rfl⟩).1
 exact⟨⟨by decide,RQ⟩,⟨by decide,Rk⟩,⟨by decide,RR⟩,rfl,trivial⟩
def uO:Ent:=(9,fun
 |[],[]=>some (none,.x (.c (.pd (.bool true))),[])
 |_,_=>none)
theorem IC:EntOk Tryz.prog uO:=entOk fun vs ck=>by
 unfold uO;dsimp only;split
 ·exact entS fun hp=>GO
 ·exact entN
/-! ### Leaves -/
def p7:Cfg:=⟨aX,[ux,rS,mw]⟩
theorem np:ah Tryz.prog p7.tab:=(ah.cons Be (ah.cons ta (ah.cons pj ah.nil)))
def lvF(l:List Ev.Stat)(d:Int)(k:Int):Bool:=eI l d k.toNat
abbrev zAe1(a:Chart):Chunk:=.cells [.pd (.str a.name),.pd (.lst .str a.events),.pd (.lst .var a.vars),.pd (.lst .stat a.states),.pd (.lst .tran a.trans)] 27
abbrev zAe2:List PI:=[.code [1,1,1,1,0,1,0,0],.inLoop [1,1,1,1,0,1,0,0],.inBlock 0,.code [1,1,1,1,1]]
variable(c:Chart)(s:List Int)(t d:Int)
theorem Qf(hd:fG c.states (ETy.get .tran c.trans t.toNat).src.toNat (aG c.states (ETy.get .tran c.trans t.toNat).dst).toNat=d)(hm:c.states.length≤1000)(hs:s.length≤1000∧∀y∈s,0≤y∧y<(c.states.length:Int))(Γ:Ctx):∀(n i:Nat),s.length - i≤n→i≤s.length →
 J Tryz.prog 16 (aB Tryz.f16) Γ (Eq2 (.x (.c (.own 0))) [.own 3 .int (s.filter (lvF c.states d))]) zAe2 ({n:=58,fr:=[(8,.i (fG c.states ((Tran.src (ETy.get .tran c.trans (Int.toNat t))).toNat) ((aG c.states (Tran.dst (ETy.get .tran c.trans (Int.toNat t)))).toNat))),(1,.p (.lst .int s)),(3,.x (.c (.loc 0 0))),(6,.p (.v (Value.slice none 0 0))),(7,.x (.c (.own 1))),(9,.i ((i:Int)))],ck:=[zAe1 c,.own 3 .int ((s.take i).filter (lvF c.states d))]}):=by
 have hml:s.length≤maxLen:=by unfold maxLen;omega
 intro n
 induction n with
 |zero=>?_
 |succ n ih=>?_
 all_goals
  intro i hn hi
  have hol:((s.take i).filter (lvF c.states d)).length≤1000:=by
   have:=bb (lvF c.states d) (s.take i)
   have:=List.length_take_le i s
   omega
  by_cases hi':i<s.length
  · have ht:=sH s (lvF c.states d) hi'
    have hy:=hs.2 (ETy.get .int s i) (by rw[ETy.get_eq (t:=.int) (List.getElem?_eq_getElem hi')];exact bx hi')
    generalize hout:(s.take i).filter (lvF c.states d)=out at hol ht
    refine jg np Tryz.func16 (let x4:=(ETy.get .tran c.trans (Int.toNat t));let x1:=(fG c.states ((Tran.src x4).toNat) ((aG c.states (Tran.dst x4)).toNat));let x2:List (Nat×SV):=[(8,.i x1),(1,.p (.lst .int s)),(3,.x (.c (.loc 0 0))),(6,.p (.v (Value.slice none 0 0))),(7,.x (.c (.own 1))),(9,.i (IntKind.wrap .i64 ((i:Int)+1)))];let x3:List PI:=zAe2;.ite (decide ((i:Int)<(s.length:Int))) (.need (inRg i s.length) (.need ((0:Int)≤ETy.get .int s i∧ETy.get .int s i<(c.states.length:Int)∧c.states.length≤maxLen) (.ite (eI c.states x1 ((ETy.get .int s i).toNat)) (.need (inRg i s.length) (.need (room ((out++[ETy.get .int s i]).length) 8) (.stop x3 {n:=58,fr:=x2,ck:=[zAe1 c,.own 3 .int (out++[ETy.get .int s i])]}))) (.stop x3 {n:=58,fr:=x2,ck:=[zAe1 c,.own 3 .int out]})))) (.ret (.x (.c (.own 0))) [.own 3 .int out])) ?_
    conv=>zeta
    refine⟨fun _=>⟨⟨by omega,by omega⟩,⟨hy.1,hy.2,by unfold maxLen;omega⟩,fun hb=>?_,fun hb=>?_⟩,fun hge=>?_⟩
    · have hb':lvF c.states d (ETy.get .int s i)=true:=by rw[←hd];exact hb
      rw[if_pos hb']at ht
      refine⟨⟨by omega,by omega⟩,room_le (by rw[au,cN];omega) (by omega),?_⟩
      rw[ba (aK hi' hml),←ht]
      first
      |(exfalso;omega)
      |exact ih (i+1) (by omega) (by omega)
    · have hb':lvF c.states d (ETy.get .int s i)=false:=by rw[←hd];exact hb
      rw[if_neg (by rw[hb'];decide),aO]at ht
      rw[ba (aK hi' hml),←ht]
      first
      |(exfalso;omega)
      |exact ih (i+1) (by omega) (by omega)
    ·have:=of_decide_eq_false hge;omega
  · have hie:i=s.length:=by omega
    subst hie
    rw[List.take_length]at hol ⊢
    generalize hout:s.filter (lvF c.states d)=out at hol
    have hgo:∀i:Nat,i=s.length→J Tryz.prog 16 (aB Tryz.f16) Γ (Eq2 (.x (.c (.own 0))) [.own 3 .int out]) zAe2 ({n:=58,fr:=[(8,.i (fG c.states ((Tran.src (ETy.get .tran c.trans (Int.toNat t))).toNat) ((aG c.states (Tran.dst (ETy.get .tran c.trans (Int.toNat t)))).toNat))),(1,.p (.lst .int s)),(3,.x (.c (.loc 0 0))),(6,.p (.v (Value.slice none 0 0))),(7,.x (.c (.own 1))),(9,.i ((i:Int)))],ck:=[zAe1 c,.own 3 .int out]}):=fun i hi=>by
     refine jg np Tryz.func16 (let x4:=(ETy.get .tran c.trans (Int.toNat t));let x1:=(fG c.states ((Tran.src x4).toNat) ((aG c.states (Tran.dst x4)).toNat));let x2:List (Nat×SV):=[(8,.i x1),(1,.p (.lst .int s)),(3,.x (.c (.loc 0 0))),(6,.p (.v (Value.slice none 0 0))),(7,.x (.c (.own 1))),(9,.i (IntKind.wrap .i64 ((i:Int)+1)))];let x3:List PI:=zAe2;.ite (decide ((i:Int)<(s.length:Int))) (.need (inRg i s.length) (.need ((0:Int)≤ETy.get .int s i∧ETy.get .int s i<(c.states.length:Int)∧c.states.length≤maxLen) (.ite (eI c.states x1 ((ETy.get .int s i).toNat)) (.need (inRg i s.length) (.need (room ((out++[ETy.get .int s i]).length) 8) (.stop x3 {n:=58,fr:=x2,ck:=[zAe1 c,.own 3 .int (out++[ETy.get .int s i])]}))) (.stop x3 {n:=58,fr:=x2,ck:=[zAe1 c,.own 3 .int out]})))) (.ret (.x (.c (.own 0))) [.own 3 .int out])) ?_
     conv=>zeta
     exact⟨fun hlt=>by have:=of_decide_eq_true hlt;omega,fun _=>⟨rfl,rfl⟩⟩
    exact hgo s.length rfl
theorem MM(h:Valid c∧(0≤t∧t<(c.trans.length:Int))∧(s.length≤1000∧∀y∈s,0≤y∧y<(c.states.length:Int))):ag Tryz.prog 16 [.e .chart c,.l .int s,.i t] [] (.x (.c (.pd (.lst .int (ku c.states (ETy.get .tran c.trans t.toNat) s))))) []:=by
 obtain⟨v,ht,hs⟩:=h
 have hst:=(eP c).1 v.few
 have hmc:c.states.length≤maxLen:=by unfold maxLen;omega
 by_cases hz:(ETy.get .tran c.trans t.toNat).dst=[]
 · have e:ku c.states (ETy.get .tran c.trans t.toNat) s=[]:=by unfold ku;rw[hz];rfl
   rw[e]
   refine ag.ret (ret:=.x (.c (.pd (.v (.slice none 0 0))))) ?_ fun V v hv=>ir hv
   refine dg np Tryz.func16 (let x1:=(ETy.get .tran c.trans (Int.toNat t));let x2:=((0:Int)≤t∧t<(c.trans.length:Int));let x3:=(Value.slice none 0 0);.need x2 (.ite (aD (Tran.dst x1)==(0:Int)) (.ret (.p (.v x3)) []) (.need x2 (.need x2 (.need (c.states.length≤maxLen) (.need ((0:Int)≤Tran.src x1∧Tran.src x1<(c.states.length:Int)∧(0:Int)≤aG c.states (Tran.dst x1)∧aG c.states (Tran.dst x1)<(c.states.length:Int)∧c.states.length≤maxLen) (.stop zAe2 {n:=58,fr:=[(8,.i (fG c.states ((Tran.src x1).toNat) ((aG c.states (Tran.dst x1)).toNat))),(1,.p (.lst .int s)),(3,.x (.c (.loc 0 0))),(6,.p (.v x3)),(7,.p (.v x3)),(9,.i 0)],ck:=[zAe1 c]}))))))) fun Γ=>?_
   conv=>zeta
   refine⟨ht,fun _=>⟨rfl,rfl⟩,fun hb=>?_⟩
   rw[hz]at hb;exact absurd hb (by decide)
 · obtain⟨tg,d,e1,e2,e3,e4,e5,e6,e7,e8⟩:=D3 v (i:=t.toNat) (by omega) hz
   have hsrc:0≤(ETy.get .tran c.trans t.toNat).src∧(ETy.get .tran c.trans t.toNat).src<(c.states.length:Int):=by
    have:=dU c.states e4
    rcases e8 with e |e <;> omega
   have edom:fG c.states (ETy.get .tran c.trans t.toNat).src.toNat (aG c.states (ETy.get .tran c.trans t.toNat).dst).toNat=df c.states (ETy.get .tran c.trans t.toNat).src (aG c.states (ETy.get .tran c.trans t.toNat).dst):=by
    obtain⟨q,hq⟩:=aF hsrc.1
    rw[hq,e1,ai,ai]
    exact(Dy v.tree (by omega) e2).symm
   have e:ku c.states (ETy.get .tran c.trans t.toNat) s=s.filter (lvF c.states (df c.states (ETy.get .tran c.trans t.toNat).src (aG c.states (ETy.get .tran c.trans t.toNat).dst))):=by
    unfold ku;rw[if_neg (by simpa using hz)];rfl
   rw[e]
   have own:ag Tryz.prog 16 [.e .chart c,.l .int s,.i t] [] (.x (.c (.own 0))) [.own 3 .int (s.filter (lvF c.states (df c.states (ETy.get .tran c.trans t.toNat).src (aG c.states (ETy.get .tran c.trans t.toNat).dst))))]:=by
    refine dg np Tryz.func16 (let x1:=(ETy.get .tran c.trans (Int.toNat t));let x2:=((0:Int)≤t∧t<(c.trans.length:Int));let x3:=(Value.slice none 0 0);.need x2 (.ite (aD (Tran.dst x1)==(0:Int)) (.ret (.p (.v x3)) []) (.need x2 (.need x2 (.need (c.states.length≤maxLen) (.need ((0:Int)≤Tran.src x1∧Tran.src x1<(c.states.length:Int)∧(0:Int)≤aG c.states (Tran.dst x1)∧aG c.states (Tran.dst x1)<(c.states.length:Int)∧c.states.length≤maxLen) (.stop zAe2 {n:=58,fr:=[(8,.i (fG c.states ((Tran.src x1).toNat) ((aG c.states (Tran.dst x1)).toNat))),(1,.p (.lst .int s)),(3,.x (.c (.loc 0 0))),(6,.p (.v x3)),(7,.p (.v x3)),(9,.i 0)],ck:=[zAe1 c]}))))))) fun Γ=>?_
    conv=>zeta
    refine⟨ht,fun hb=>?_,fun _=>⟨ht,ht,hmc,⟨hsrc.1,hsrc.2,by omega,by omega,hmc⟩,?_⟩⟩
    · exfalso
      have hb':(aD (ETy.get .tran c.trans t.toNat).dst==0)=true:=hb
      have:=eq_of_beq hb'
      unfold aD at this
      exact hz (bm (by omega))
    · refine J.nilOwn 7 3 .int rfl (by kernel_rfl) ?_
      exact Qf c s t _ edom (by omega) hs Γ s.length 0 (by omega) (by omega)
   exact ag.chop (ck':=[]) (ag.frz aX [0] own rfl rfl)
def uv:Ent:=(16,fun
 |[.agg [.pd (.str a),.pd (.lst .str b),.pd (.lst .var c),.pd (.lst .stat d),.pd (.lst .tran e)],.c (.pd (.lst .int s)),.c (.pd (.int .i64 t))],[]=>some (some (Valid ⟨a,b,c,d,e⟩∧(0≤t∧t<(e.length:Int))∧(s.length≤1000∧∀y∈s,0≤y∧y<(d.length:Int))),.x (.c (.pd (.lst .int (ku d (ETy.get .tran e t.toNat) s)))),[])
 |_,_=>none)
theorem Ip:EntOk Tryz.prog uv:=entOk fun vs ck=>by
 unfold uv;dsimp only;split
 ·rename_i a b c d e s t;exact entS fun hp=>MM ⟨a,b,c,d,e⟩ s t hp
 ·exact entN
def Hi:Cfg:=⟨aX,[]⟩
theorem Hj:ah Tryz.prog Hi.tab:=ah.nil
theorem K0(l:List Int)(h:l.length≤100000):ag Tryz.prog 13 [.l .int l] [] (.x (.c (.pd (.lst .int l)))) []:=by
 have own:ag Tryz.prog 13 [.l .int l] [] (.x (.c (.own 0))) [.own 3 .int ([]++l)]:=by
  refine dg Hj Tryz.func13 (.need (room (([]++l).length) 8) (.ret (.x (.c (.own 0))) [.own 3 .int ([]++l)])) fun Γ=>?_
  exact⟨room_le (by rw[cd];omega) (by omega),rfl,rfl⟩
 exact ag.chop (ck':=[]) (ag.frz aX [0] own rfl rfl)
def ud:Ent:=(13,fun
 |[.c (.pd (.lst .int l))],[]=>some (some (l.length≤100000),.x (.c (.pd (.lst .int l))),[])
 |_,_=>none)
theorem If:EntOk Tryz.prog ud:=entOk fun vs ck=>by
 unfold ud;dsimp only;split
 ·rename_i l;exact entS fun hp=>K0 l hp
 ·exact entN
theorem MJ{l:List Ev.Stat}(S:Shp l){s:List Int}(h:Lgl l s):1≤s.length∧bt l (s.drop 1)=false:=by
 have h0:(0:Int)∈s:=h.root 0 S.pos S.d0
 refine⟨eJ h0,?_⟩
 cases hb:bt l (s.drop 1)with
 |false=>rfl
 | true =>
   exfalso
   have h2:=(lO S _).1 hb
   have h3:(0:Int)∈s.drop 1:=h2.root 0 S.pos S.d0
   match s,h with
   |[],h=>simp at h3
   | a::r,h =>
     obtain⟨i,e,_,_⟩:=h.rng a (aA ..)
     have:=(cu.1 h.inc).1 0 h3
     omega
def Hk:Cfg:=⟨aX,[Lc,K6,uO,nu,uG,ud,pc,uv,ql,EU]⟩
theorem Hl:ah Tryz.prog Hk.tab:=(ah.cons ON (ah.cons OA (ah.cons IC (ah.cons Bc (ah.cons Iv (ah.cons If (ah.cons CB (ah.cons Ip (ah.cons xt (ah.cons OI ah.nil))))))))))
theorem vl{c:Chart}{s:List Int}{t:Int}(h:(br c==0&&bt c.states s)=false):eH c s t=[]:=by
 unfold eH
 rw[h,if_pos (by simp)]
theorem BD(c:Chart)(p:List Int)(vs:List Val)(t:Int)(h:pV c)(hp:∀b∈p,0≤b∧b≤255):ag Tryz.prog 3 [.e .chart c,.agg [.pd (.lst .byte p),.pd (.lst .val vs)],.i t] [] (.x (.b true)) []:=by
 have hz:=QD h
 have hb:=RK h
 have hsz:c.vars.length≤2199023255552∧c.states.length≤2199023255552:=⟨hz.1,by omega⟩
 refine dg Hl Tryz.func3 (let x1:=(gA c.states (chM c.states p));let x2:=(c.vars.length≤2199023255552∧c.states.length≤2199023255552);let x3:=(c.trans.length:Int);let x4:=(ETy.get .tran c.trans (Int.toNat t));.ite false (.ret (.p (.bool false)) []) (.need (∀(s:ETy.den .stat),s∈c.states→s.entry.length≤4398046511104∧s.leave.length≤4398046511104) (.ite (!br c==(0:Int)) (.need x2 (.ret (.p (.bool ((↑((eH c [(0:Int),(1:Int)] t).length):Int)==0))) [])) (.need (Tre c.states∧∀(b:ETy.den .byte),b∈p→(0:ETy.den .byte)≤b∧b≤(255:ETy.den .byte)) (.need (x1.length≤100000) (.need x2 (.need ((decide (t<(0:Int))||decide (t≥x3))=false→(0:Int)≤t∧t<x3) (.ite (decide (t<(0:Int))||decide (t≥x3) || !inB x1 (Tran.src x4)) (.ret (.p (.bool ((↑((eH c x1 t).length):Int)==0))) []) (.need (Valid c∧((0:Int)≤t∧t<x3)∧x1.length≤1000∧∀(y:ETy.den .int),y∈gA c.states (chM c.states p)→(0:ETy.den .int)≤y∧y<(c.states.length:Int)) (.need ((eH c x1 t==ku c.states x4 x1)=true) (.need ((0:Int)≤1∧(1:Int)≤(↑(x1.length):Int)) (.need x2 (.ret (.p (.bool (true&&(↑((eH c ((e9 x1 (some (1:Int)) none).2) t).length):Int)==0))) []))))))))))))) fun Γ=>?_
 conv=>zeta
 refine⟨fun h0=>absurd h0 (by decide),fun _=>⟨hb,fun h1=>⟨hsz,congrArg (fun b=>SV.x (.c (.pd (.bool b)))) ?_,rfl⟩,fun h1=>?_⟩⟩
 · have h1':(!br c==0)=true:=h1
   have e:eH c [0,1] t=[]:=vl (by rw[show(br c==0)=false by simpa using h1'];rfl)
   show(((eH c [0,1] t).length:Int)==0)=true
   rw[e];rfl
 · have h1':(!br c==0)=false:=h1
   have hck:(br c==0)=true:=by simpa using h1'
   have hV:=(dI c).1 (eq_of_beq hck)
   have tt:=hV.tre
   have hL:=vF tt (tV tt hp)
   have hg:=(lO tt.shp _).2 hL
   have hro:=MJ tt.shp hL
   have hsm:=nH hV hL
   generalize gA c.states (chM c.states p)=s at hL hg hro hsm
   have e0:eH c (s.drop 1) t=[]:=vl (by rw[hro.2,cS])
   have hrange:(decide (t<0)||decide (t≥(c.trans.length:Int)))=false→0≤t∧t<(c.trans.length:Int):=fun h=>by
    rw[an]at h
    have:=of_decide_eq_false h.1
    have:=of_decide_eq_false h.2
    omega
   refine⟨⟨tt,hp⟩,by omega,hsz,hrange,fun h2=>⟨congrArg (fun b=>SV.x (.c (.pd (.bool b)))) ?_,rfl⟩,fun h2=>?_⟩
   · have h2':(decide (t<0)||decide (t≥(c.trans.length:Int)) || !inB s (ETy.get .tran c.trans t.toNat).src)=true:=h2
     have e:eH c s t=[]:=by
      unfold eH
      rw[hck,hg,if_pos]
      rw[Bool.and_self,bX,bS];exact h2'
     show(((eH c s t).length:Int)==0)=true
     rw[e];rfl
   · have h2':(decide (t<0)||decide (t≥(c.trans.length:Int)) || !inB s (ETy.get .tran c.trans t.toNat).src)=false:=h2
     have e:eH c s t=ku c.states (ETy.get .tran c.trans t.toNat) s:=by
      unfold eH
      rw[hck,hg,if_neg]
      ·rfl
      ·rw[Bool.and_self,bX,bS,h2'];decide
     have ht:=hrange (an.1 h2').1
     refine⟨⟨hV,ht,hsm⟩,?_,⟨by omega,by omega⟩,hsz,congrArg (fun b=>SV.x (.c (.pd (.bool b)))) ?_,rfl⟩
     · show(eH c s t==ku c.states (ETy.get .tran c.trans t.toNat) s)=true
       rw[e];exact beq_self_eq_true _
     · show(true&&(((eH c (s.drop 1) t).length:Int)==0))=true
       rw[e0];rfl
end Go.Proofs.YtlhgnjmdopjpeaaGreatDoor
namespace Go.Proofs.YtlhgnjmdopjpeaaGreatDoor
open Go Go.Ev Go.RowKit Go.ChangeShapes Go.WideShapes Go.ChangeAt
set_option maxRecDepth 100000
section
variable{Hh:Type}{enc:TypeId×Value→Hh}{W:World}{base:Nat}{spare:Nat→Bool}{held:Bool}
theorem Oh(n:Nat)(cs:List Value)(y:DataW Hh×List MemPlace)(h:DataW.trod enc Tryz.prog W base spare held n 5 cs=some y):∃r:Int,All2 (PR (HW W)) (ETy.byte.enc r) cs∧(0≤r∧r≤255):=by
 obtain⟨k,h1,_,h2⟩:=DataW.trod_int Tryz.underlying5 h
 simp only[Lit.wf,af,decide_eq_true_eq]at h2
 have e1:IntKind.u8.min=0:=by decide
 have e2:IntKind.u8.max=255:=by decide
 rw[e1,e2]at h2
 exact⟨k,by rw[h1];exact .cons (.int _ k) .nil,h2⟩
end
section
variable{Hh:Type}{enc:TypeId×Value→Hh}{W:World}{base:Nat}{spare:Nat→Bool}{held:Bool}
def InI(n:Int):Prop:=-9223372036854775808≤n∧n≤9223372036854775807
theorem inI{n:Int}(h:(Lit.int .i64 n).wf=true):InI n:=by
 simp only[Lit.wf,af,decide_eq_true_eq]at h
 have h1:IntKind.i64.min = -9223372036854775808:=by decide
 have h2:IntKind.i64.max=9223372036854775807:=by decide
 rw[h1,h2]at h
 exact h
theorem CM(n:Nat)(cs:List Value)(y:DataW Hh×List MemPlace)(h:DataW.trod enc Tryz.prog W base spare held n 83 cs=some y):∃v:Val,All2 (PR (HW W)) (ETy.val.enc v) cs∧i64 v.a=true:=by
 obtain⟨xs,m,_,rfl,hl,hlen,hf⟩:=DataW.trod_struct Tryz.underlying83 h
 have c0:Tryz.prog.cellsOf 83=3:=by kernel_rfl
 have c1:Tryz.prog.cellsOf 3=1:=by kernel_rfl
 have c2:Tryz.prog.cellsOf 2=1:=by kernel_rfl
 have l3:xs.length=3:=hlen
 obtain⟨a,h0,w0⟩:=wq Tryz.underlying3 (hf 0 _ rfl) (by rw[List.getElem?_eq_getElem (by omega)];rfl)
 obtain⟨b,h1,w1⟩:=wq Tryz.underlying2 (hf 1 _ rfl) (by rw[List.getElem?_eq_getElem (by omega)];rfl)
 obtain⟨c,h2,w2⟩:=wq Tryz.underlying2 (hf 2 _ rfl) (by rw[List.getElem?_eq_getElem (by omega)];rfl)
 replace h0:List.take (Tryz.prog.cellsOf 3) (List.drop 0 cs)=[.int .i64 a]:=h0
 replace h1:List.take (Tryz.prog.cellsOf 2) (List.drop 1 cs)=[.int .i64 b]:=h1
 replace h2:List.take (Tryz.prog.cellsOf 2) (List.drop 2 cs)=[.int .i64 c]:=h2
 rw[c0]at hl
 rw[c1]at h0
 rw[c2]at h1 h2
 match cs,hl with
 | [u0,u1,u2],_ =>
   simp at h0 h1 h2
   subst h0;subst h1;subst h2
   exact⟨⟨a,b,c⟩,.cons (.int _ a) (.cons (.int _ b) (.cons (.int _ c) .nil)),eX.2 (inI w1)⟩
theorem PF{cs:Array Value}(h:cs.size=2):∃a b,cs=#[a,b]:=by
 obtain⟨l⟩:=cs
 match l,h with
 |[a,b],_=>exact⟨a,b,rfl⟩
theorem PE{v:Value}{d:DataW Hh}{ps:List MemPlace}{b0:Nat}(h:DataW.Trod enc Tryz.prog W base spare held 31 v d ps)(hv:Value.okWide Tryz.prog W .any b0 31 v) :
 ∃(vars:List Int) (vals:List Val),SX.R (VW W) (.agg [.pd (.lst .byte vars),.pd (.lst .val vals)]) v ∧
  ((d.weights Tryz.prog 31).all (·≤reachBytes)=true→(∀b∈vars,0≤b∧b≤255)∧room vals.length 24∧∀x∈vals,i64 x.a=true):=by
 simp only[Value.okWide,Tryz.underlying31]at hv
 obtain⟨cs,rfl,hsz,ts,hts,_,hcs⟩:=hv
 have c26:Tryz.prog.cellsOf 31=2:=by kernel_rfl
 rw[c26]at hsz
 obtain⟨v1,v2,rfl⟩:=PF hsz
 obtain⟨fuel,hf⟩:=h
 obtain⟨xs,m,_,hx,hl,hlen,hf⟩:=DataW.trod_struct Tryz.underlying31 hf
 have l2:xs.length=2:=hlen
 have h0:=hf 0 _ rfl
 have h1:=hf 1 _ rfl
 match xs,l2 with
 |[y0,y1],_ =>
 have c23:Tryz.prog.cellsOf 28=1:=by kernel_rfl
 have c24:Tryz.prog.cellsOf 29=1:=by kernel_rfl
 replace h0:DataW.trod enc Tryz.prog W base spare held m 28 (([v1,v2].drop 0).take (Tryz.prog.cellsOf 28))=some y0:=h0
 replace h1:DataW.trod enc Tryz.prog W base spare held m 29 (([v1,v2].drop 1).take (Tryz.prog.cellsOf 29))=some y1:=h1
 rw[c23]at h0
 rw[c24]at h1
 obtain⟨vars,u1,e1,q1,q3⟩:=eR .byte (Q:=fun r=>0≤r∧r≤255) Tryz.underlying28 (by kernel_rfl) (fun n cs y h=>by
  obtain⟨c,q,hi⟩:=Oh n cs y h
  exact⟨c,q,fun _=>hi⟩) h0
 obtain⟨vals,u2,e2,r1,r3⟩:=eR .val (Q:=fun v=>i64 v.a=true) Tryz.underlying29 (by kernel_rfl) (fun n cs y h=>by
  obtain⟨c,q,hi⟩:=CM n cs y h
  exact⟨c,q,fun _=>hi⟩) h1
 simp at e1 e2
 subst e1;subst e2
 refine⟨vars,vals,⟨[v1,v2],rfl,.cons q1 (.cons r1 .nil)⟩,fun hw=>?_⟩
 simp only[ae]at hx
 rw[hx.1]at hw
 have hw2:(y0.1.weights Tryz.prog 28++(y1.1.weights Tryz.prog 29++[])).all (·≤reachBytes)=true:=by
  simpa[DataW.weights,Tryz.underlying31,DataW.weightsEach]using hw
 rw[bE,aO,af]at hw2
 have h4:=(q3 hw2.1).1
 have h5:=r3 hw2.2
 have e':Tryz.prog.bytesOf 83=24:=by kernel_rfl
 rw[e']at h5
 unfold reachBytes at h5
 exact⟨h4,⟨by omega,by unfold maxLen;omega⟩,h5.1⟩
end
theorem Pj{Hh:Type}{enc:TypeId×Value→Hh}{W:World}{base:Nat}{spare:Nat→Bool}{held:Bool}{v:Value}{d:DataW Hh}{ps:List MemPlace}{b0:Nat}(h:DataW.Trod enc Tryz.prog W base spare held 3 v d ps)(hv:Value.okWide Tryz.prog W .any b0 3 v) :
 ∃n:Int,SX.R (VW W) (.c (.pd (.int .i64 n))) v∧-9223372036854775808≤n∧n≤9223372036854775807:=by
 have hv':Cell.okWide Tryz.prog W .any b0 3 v:=by simpa only[Value.okWide,Tryz.underlying3]using hv
 obtain⟨fuel,hf⟩:=h
 have hc:v.cells.toList=[v]:=by
  have hv2:=hv'
  simp only[Cell.okWide,Tryz.underlying3,Cell.ok]at hv2
  cases v <;> first |rfl |exact hv2.elim
 rw[hc]at hf
 obtain⟨n,h1,_,h2⟩:=DataW.trod_int Tryz.underlying3 hf
 simp only[List.cons.injEq,and_true]at h1
 subst h1
 simp only[Lit.wf,af,decide_eq_true_eq]at h2
 have e1:IntKind.i64.min = -9223372036854775808:=by decide
 have e2:IntKind.i64.max=9223372036854775807:=by decide
 rw[e1,e2]at h2
 exact⟨n,.int _ n,h2.1,h2.2⟩
end Go.Proofs.YtlhgnjmdopjpeaaGreatDoor

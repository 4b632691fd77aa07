/- Contracts: the layer's example holds. Conditions: none. Contracts: the document's layer 11. Conditions: sizes. Contracts: the document's layer 11: Can, May, First, meet. Conditions: sizes. Contracts: the document's layer 11: hold, From, Of. Conditions: sizes. -/
import Derived.Test.YtlhgnjmdopjpeaaGreatDoorSg
import Derived.Test.YtlhgnjmdopjpeaaGreatDoorAi
import Derived.Test.YtlhgnjmdopjpeaaGreatDoorMh
import Derived.Test.YtlhgnjmdopjpeaaGreatDoorVk
import Derived.Test.YtlhgnjmdopjpeaaGreatDoorAf
import Derived.Test.YtlhgnjmdopjpeaaGreatDoorSq
import Derived.Test.YtlhgnjmdopjpeaaGreatDoorVm
import Derived.Test.YtlhgnjmdopjpeaaGreatDoorSk
import Derived.Test.YtlhgnjmdopjpeaaGreatDoorXb
import Derived.Test.YtlhgnjmdopjpeaaGreatDoorAg
namespace Go.Proofs.YtlhgnjmdopjpeaaGreatDoor
open Go Go.Ev
set_option maxRecDepth 100000
theorem tG{V:Vn}{a:Str}{b:List Str}{d:List Ev.Stat}{e:List Tran}{u:Value}(h:SX.R V (.agg [.pd (.str a),.pd (.lst .str b),.pd (.v (.slice none 0 0)),.pd (.lst .stat d),.pd (.lst .tran e)]) u):SX.R V (.e .chart ⟨a,b,[],d,e⟩) u:=by
 obtain⟨us,e,hu⟩:=h
 refine⟨us,e,?_⟩
 cases hu with |cons h0 hu=>cases hu with |cons h1 hu=>cases hu with |cons h2 hu=>cases hu with |cons h3 hu=>cases hu with |cons h4 hu =>
  cases hu
  exact .cons h0 (.cons h1 (.cons (iA h2) (.cons h3 (.cons h4 .nil))))
theorem J4(a:Str)(b:List Str)(d:List Ev.Stat)(e:List Tran)(l:List Int)(ev:Str)(h:d.length≤2199023255552):ah Tryz.prog 19 [.agg [.pd (.str a),.pd (.lst .str b),.pd (.v (.slice none 0 0)),.pd (.lst .stat d),.pd (.lst .tran e)],.l .int l,.l .val [],.s ev] [] (.x (.c (.pd (.lst .int (gL ⟨a,b,[],d,e⟩ l [] ev))))) [] :=
 ah.sub (fun V vs hv=>by
  cases hv with |cons h1 hv=>exact .cons (tG h1) hv) (Cg ⟨a,b,[],d,e⟩ l [] ev ⟨by simp,h⟩ (fun _ h=>by cases h))
theorem GX(a:Str)(b:List Str)(d:List Ev.Stat)(e:List Tran)(l:List Int)(ev:Str)(h:d.length≤2199023255552):ah Tryz.prog 17 [.agg [.pd (.str a),.pd (.lst .str b),.pd (.v (.slice none 0 0)),.pd (.lst .stat d),.pd (.lst .tran e)],.l .int l,.l .val [],.s ev] [] (.x (.c (.pd (.lst .int (j4 ⟨a,b,[],d,e⟩ l [] ev))))) [] :=
 ah.sub (fun V vs hv=>by
  cases hv with |cons h1 hv=>exact .cons (tG h1) hv) (yc ⟨a,b,[],d,e⟩ l [] ev ⟨by simp,h⟩ (fun _ h=>by cases h))
theorem yN(a:Str)(b:List Str)(d:List Ev.Stat)(e:List Tran)(l:List Int)(t:Int)(h:d.length≤2199023255552):ah Tryz.prog 11 [.agg [.pd (.str a),.pd (.lst .str b),.pd (.v (.slice none 0 0)),.pd (.lst .stat d),.pd (.lst .tran e)],.l .int l,.i t] [] (.x (.c (.pd (.lst .int (fj ⟨a,b,[],d,e⟩ l t))))) [] :=
 ah.sub (fun V vs hv=>by
  cases hv with |cons h1 hv=>exact .cons (tG h1) hv) (rh ⟨a,b,[],d,e⟩ l t ⟨by simp,h⟩)
def FW:Ent:=(19,fun
 |[.agg [.pd (.str a),.pd (.lst .str b),.pd (.v (.slice none 0 0)),.pd (.lst .stat d),.pd (.lst .tran e)],.c (.pd (.lst .int l)),.c (.pd (.lst .val [])),.c (.pd (.str ev))],[]=>some (some (d.length≤2199023255552∧gL ⟨a,b,[],d,e⟩ l [] ev=[1]),.x (.c (.pd (.lst .int [1]))),[])
 |_,_=>none)
theorem PA:EntOk Tryz.prog FW:=entOk fun vs ck=>by
 unfold FW;dsimp only;split
 ·rename_i a b d e l ev;exact entS fun hp=>by rw[←hp.2];exact J4 a b d e l ev hp.1
 ·exact entN
def Aj:Ent:=(17,fun
 |[.agg [.pd (.str a),.pd (.lst .str b),.pd (.v (.slice none 0 0)),.pd (.lst .stat d),.pd (.lst .tran e)],.c (.pd (.lst .int l)),.c (.pd (.lst .val [])),.c (.pd (.str ev))],[]=>some (some (d.length≤2199023255552∧j4 ⟨a,b,[],d,e⟩ l [] ev=[0,1]),.x (.c (.pd (.lst .int [0,1]))),[])
 |_,_=>none)
theorem LS:EntOk Tryz.prog Aj:=entOk fun vs ck=>by
 unfold Aj;dsimp only;split
 ·rename_i a b d e l ev;exact entS fun hp=>by rw[←hp.2];exact GX a b d e l ev hp.1
 ·exact entN
def FT:Ent:=(11,fun
 |[.agg [.pd (.str a),.pd (.lst .str b),.pd (.v (.slice none 0 0)),.pd (.lst .stat d),.pd (.lst .tran e)],.c (.pd (.lst .int l)),.c (.pd (.int .i64 t))],[]=>some (some (d.length≤2199023255552∧fj ⟨a,b,[],d,e⟩ l t=[1]),.x (.c (.pd (.lst .int [1]))),[])
 |_,_=>none)
theorem Px:EntOk Tryz.prog FT:=entOk fun vs ck=>by
 unfold FT;dsimp only;split
 ·rename_i a b d e l t;exact entS fun hp=>by rw[←hp.2];exact yN a b d e l t hp.1
 ·exact entN
def Rm:Cfg:=⟨aU,[Am,FW,Aj,FT,uV]⟩
theorem H8:ag Tryz.prog Rm.tab:=(ag.cons LW (ag.cons PA (ag.cons LS (ag.cons Px (ag.cons Jf ag.nil)))))
def exC:Chart:=⟨[99],[[103,111]],[],[⟨[114],2,0,[97],[],[]⟩,⟨[97],1,1,[],[],[]⟩],[⟨0,[103,111],[],[97],[]⟩,⟨1,[103,111],[],[],[]⟩]⟩
theorem Lz:bp exC=0:=by
 refine(db _).2 ⟨by decide,by decide,by decide,by decide,by decide,by decide,fun k hk=>?_,fun k hk=>absurd hk (Nat.not_lt_zero _),fun k hk=>?_,fun k hk=>?_⟩
 · have hk':k<2:=hk
   rcases(show k=0∨k=1 by omega)with rfl |rfl <;> decide
 · have hk':k<2:=hk
   rcases(show k=0∨k=1 by omega)with rfl |rfl <;> decide
 · have hk':k<2:=hk
   rcases(show k=0∨k=1 by omega)with rfl |rfl <;> decide
theorem Gs:(bp exC==0&&bw exC.states [0,1])=true:=by rw[Lz];kernel_rfl
theorem RV:j4 exC [0,1] [] [103,111]=[0,1]:=by
 have e:bM exC [0,1] [] [103,111]=[0,1]:=by kernel_rfl
 unfold j4
 rw[Gs,if_pos rfl,e]
theorem Sq:gL exC [0,1] [] [103,111]=[1]:=by
 have e:cC exC.states [0,1] exC.trans (bM exC [0,1] [] [103,111])=[1]:=by kernel_rfl
 unfold gL
 rw[Gs,if_pos rfl,e]
theorem So:fj exC [0,1] 0=[1]:=by
 have e:iU exC.states [0,1] (ETy.get .tran exC.trans 0)=[1]:=by kernel_rfl
 have e2:(decide ((0:Int)<0)||decide ((0:Int)≥(exC.trans.length:Int)) || !(bp exC==0&&bw exC.states [0,1]) || !inB [0,1] (ETy.get .tran exC.trans (0:Int).toNat).src)=false:=by
  rw[Gs];kernel_rfl
 unfold fj
 rw[e2,if_neg (by decide)]
 exact e
def Sz(ck:List Chunk):List Nat:=(List.range ck.length).filter (GC ck)
def CG(P:Program)(cfg:Cfg)(fn:Func)(root:Code):Nat→List PI→ST→List Prop→Option (List Prop×SV×List Chunk)
 |0,_,_,_=>none
 | n + 1,todo,st,a=>match(exec P cfg fn root 1000 todo st).walk a with
   |(a',.ret v ck)=>some (a',v,ck)
   | (a',.stop (.ops p i::k) st')=>match tz cfg.tys st' (Sz st'.ck)with
     | some st1=>match o3 P cfg root 999 p i st1 with
       |some (none,st2)=>CG P cfg fn root n (.ops p (i+1)::k) st2 a'
       |some (some q,st2)=>CG P cfg fn root n (.ops p (i+1)::k) st2 (q::a')
       |none=>none
     |none=>none
   |(a',.stop todo' st')=>CG P cfg fn root n todo' st' a'
   |_=>none
section
variable{P:Program}{cfg:Cfg}{Γ:Ctx}{Q:Out}{f:FuncId}{fn:Func}{root:Code}
theorem vS(ht:ag P cfg.tab)(hf:P.funcs[f]?=some fn):∀(n:Nat) {todo:List PI} {st:ST} {a ps:List Prop} {v:SV} {ck:List Chunk},CG P cfg fn root n todo st a=some (ps,v,ck)→dX ps→Q v ck→J P f root Γ Q todo st∧dX a
 |0,_,_,_,_,_,_,h,_,_=>by cases h
 | n + 1,todo,st,a,ps,v,ck,h,hp,hq=>by
   simp only[CG]at h
   have back:∀{a':List Prop} {todo':List PI} {st':ST},(exec P cfg fn root 1000 todo st).walk a=(a',.stop todo' st')→J P f root Γ Q todo' st'∧dX a'→J P f root Γ Q todo st∧dX a:=fun he hj=>by
    obtain⟨h1,h2⟩:=Tree.walk_J (Q:=Q) (Γ:=Γ) (P:=P) (f:=f) (root:=root) he hj.2 hj.1
    exact⟨J.go ht hf 1000 rfl h1,h2⟩
   split at h
   · rename_i a' v' ck' he
     simp only[aa,ae]at h
     obtain⟨rfl,rfl,rfl⟩:=h
     obtain⟨h1,h2⟩:=Tree.walk_J (Q:=Q) (Γ:=Γ) (P:=P) (f:=f) (root:=root) he hp hq
     exact⟨J.go ht hf 1000 rfl h1,h2⟩
   · rename_i a' p i k st' he
     refine back he ?_
     split at h
     · rename_i st1 hz
       split at h
       · rename_i st2 hs
         have h3:=vS ht hf n h hp hq
         exact⟨J.freeze cfg.tys _ hz (kq ht hs trivial h3.1),h3.2⟩
       · rename_i q st2 hs
         have h3:=vS ht hf n h hp hq
         exact⟨J.freeze cfg.tys _ hz (kq ht hs h3.2.1 h3.1),h3.2.2⟩
       ·cases h
     ·cases h
   · rename_i a' todo' st' _ he
     exact back he (vS ht hf n h hp hq)
   ·cases h
end
theorem HE:ah Tryz.prog 9 [] [] (.x (.b true)) []:=by
 refine ah.of Tryz.func9 (by kernel_rfl) (by kernel_rfl) fun Γ=>?_
 refine(vS (a:=[]) (fn:=Tryz.f9) H8 Tryz.func9 40 (ps:=[2≤2199023255552∧fj exC [0,1] 0=[1],2≤2199023255552∧j4 exC [0,1] [] [103,111]=[0,1],2≤2199023255552∧gL exC [0,1] [] [103,111]=[1],exW=exW]) (by kernel_rfl) ?_ ⟨rfl,rfl⟩).1
 exact⟨⟨by decide,So⟩,⟨by decide,RV⟩,⟨by decide,Sq⟩,rfl,trivial⟩
def oO:Ent:=(9,fun
 |[],[]=>some (none,.x (.c (.pd (.bool true))),[])
 |_,_=>none)
theorem qz:EntOk Tryz.prog oO:=entOk fun vs ck=>by
 unfold oO;dsimp only;split
 ·exact entS fun hp=>HE
 ·exact entN
/-! ### Leaves -/
def p9:Cfg:=⟨aU,[uO,rY,mJ]⟩
theorem nD:ag Tryz.prog p9.tab:=(ag.cons BJ (ag.cons tm (ag.cons pt ag.nil)))
def lvF(l:List Ev.Stat)(d:Int)(k:Int):Bool:=eO l d k.toNat
abbrev zAe1(a:Chart):Chunk:=.cells [.pd (.str a.name),.pd (.lst .str a.events),.pd (.lst .var a.vars),.pd (.lst .stat a.states),.pd (.lst .tran a.trans)] 27
abbrev zAe2:List PI:=[.code [1,1,1,1,0,1,0,0],.inLoop [1,1,1,1,0,1,0,0],.inBlock 0,.code [1,1,1,1,1]]
variable(c:Chart)(s:List Int)(t d:Int)
theorem QQ(hd:fO c.states (ETy.get .tran c.trans t.toNat).src.toNat (aF c.states (ETy.get .tran c.trans t.toNat).dst).toNat=d)(hm:c.states.length≤1000)(hs:s.length≤1000∧∀y∈s,0≤y∧y<(c.states.length:Int))(Γ:Ctx):∀(n i:Nat),s.length - i≤n→i≤s.length →
 J Tryz.prog 16 (ar Tryz.f16) Γ (Eq2 (.x (.c (.own 0))) [.own 3 .int (s.filter (lvF c.states d))]) zAe2 ({n:=58,fr:=[(8,.i (fO c.states ((Tran.src (ETy.get .tran c.trans (Int.toNat t))).toNat) ((aF c.states (Tran.dst (ETy.get .tran c.trans (Int.toNat t)))).toNat))),(1,.p (.lst .int s)),(3,.x (.c (.loc 0 0))),(6,.p (.v (Value.slice none 0 0))),(7,.x (.c (.own 1))),(9,.i ((i:Int)))],ck:=[zAe1 c,.own 3 .int ((s.take i).filter (lvF c.states d))]}):=by
 have hml:s.length≤maxLen:=by unfold maxLen;omega
 intro n
 induction n with
 |zero=>?_
 |succ n ih=>?_
 all_goals
  intro i hn hi
  have hol:((s.take i).filter (lvF c.states d)).length≤1000:=by
   have:=aY (lvF c.states d) (s.take i)
   have:=List.length_take_le i s
   omega
  by_cases hi':i<s.length
  · have ht:=sQ s (lvF c.states d) hi'
    have hy:=hs.2 (ETy.get .int s i) (by rw[ETy.get_eq (t:=.int) (List.getElem?_eq_getElem hi')];exact aW hi')
    generalize hout:(s.take i).filter (lvF c.states d)=out at hol ht
    refine jg nD Tryz.func16 (let x4:=(ETy.get .tran c.trans (Int.toNat t));let x1:=(fO c.states ((Tran.src x4).toNat) ((aF c.states (Tran.dst x4)).toNat));let x2:List (Nat×SV):=[(8,.i x1),(1,.p (.lst .int s)),(3,.x (.c (.loc 0 0))),(6,.p (.v (Value.slice none 0 0))),(7,.x (.c (.own 1))),(9,.i (IntKind.wrap .i64 ((i:Int)+1)))];let x3:List PI:=zAe2;.ite (decide ((i:Int)<(s.length:Int))) (.need (inRg i s.length) (.need ((0:Int)≤ETy.get .int s i∧ETy.get .int s i<(c.states.length:Int)∧c.states.length≤maxLen) (.ite (eO c.states x1 ((ETy.get .int s i).toNat)) (.need (inRg i s.length) (.need (room ((out++[ETy.get .int s i]).length) 8) (.stop x3 {n:=58,fr:=x2,ck:=[zAe1 c,.own 3 .int (out++[ETy.get .int s i])]}))) (.stop x3 {n:=58,fr:=x2,ck:=[zAe1 c,.own 3 .int out]})))) (.ret (.x (.c (.own 0))) [.own 3 .int out])) ?_
    conv=>zeta
    refine⟨fun _=>⟨⟨by omega,by omega⟩,⟨hy.1,hy.2,by unfold maxLen;omega⟩,fun hb=>?_,fun hb=>?_⟩,fun hge=>?_⟩
    · have hb':lvF c.states d (ETy.get .int s i)=true:=by rw[←hd];exact hb
      rw[if_pos hb']at ht
      refine⟨⟨by omega,by omega⟩,room_le (by rw[au,cQ];omega) (by omega),?_⟩
      rw[aZ (aG hi' hml),←ht]
      first
      |(exfalso;omega)
      |exact ih (i+1) (by omega) (by omega)
    · have hb':lvF c.states d (ETy.get .int s i)=false:=by rw[←hd];exact hb
      rw[if_neg (by rw[hb'];decide),aO]at ht
      rw[aZ (aG hi' hml),←ht]
      first
      |(exfalso;omega)
      |exact ih (i+1) (by omega) (by omega)
    ·have:=of_decide_eq_false hge;omega
  · have hie:i=s.length:=by omega
    subst hie
    rw[List.take_length]at hol ⊢
    generalize hout:s.filter (lvF c.states d)=out at hol
    have hgo:∀i:Nat,i=s.length→J Tryz.prog 16 (ar Tryz.f16) Γ (Eq2 (.x (.c (.own 0))) [.own 3 .int out]) zAe2 ({n:=58,fr:=[(8,.i (fO c.states ((Tran.src (ETy.get .tran c.trans (Int.toNat t))).toNat) ((aF c.states (Tran.dst (ETy.get .tran c.trans (Int.toNat t)))).toNat))),(1,.p (.lst .int s)),(3,.x (.c (.loc 0 0))),(6,.p (.v (Value.slice none 0 0))),(7,.x (.c (.own 1))),(9,.i ((i:Int)))],ck:=[zAe1 c,.own 3 .int out]}):=fun i hi=>by
     refine jg nD Tryz.func16 (let x4:=(ETy.get .tran c.trans (Int.toNat t));let x1:=(fO c.states ((Tran.src x4).toNat) ((aF c.states (Tran.dst x4)).toNat));let x2:List (Nat×SV):=[(8,.i x1),(1,.p (.lst .int s)),(3,.x (.c (.loc 0 0))),(6,.p (.v (Value.slice none 0 0))),(7,.x (.c (.own 1))),(9,.i (IntKind.wrap .i64 ((i:Int)+1)))];let x3:List PI:=zAe2;.ite (decide ((i:Int)<(s.length:Int))) (.need (inRg i s.length) (.need ((0:Int)≤ETy.get .int s i∧ETy.get .int s i<(c.states.length:Int)∧c.states.length≤maxLen) (.ite (eO c.states x1 ((ETy.get .int s i).toNat)) (.need (inRg i s.length) (.need (room ((out++[ETy.get .int s i]).length) 8) (.stop x3 {n:=58,fr:=x2,ck:=[zAe1 c,.own 3 .int (out++[ETy.get .int s i])]}))) (.stop x3 {n:=58,fr:=x2,ck:=[zAe1 c,.own 3 .int out]})))) (.ret (.x (.c (.own 0))) [.own 3 .int out])) ?_
     conv=>zeta
     exact⟨fun hlt=>by have:=of_decide_eq_true hlt;omega,fun _=>⟨rfl,rfl⟩⟩
    exact hgo s.length rfl
theorem Nx(h:Valid c∧(0≤t∧t<(c.trans.length:Int))∧(s.length≤1000∧∀y∈s,0≤y∧y<(c.states.length:Int))):ah Tryz.prog 16 [.e .chart c,.l .int s,.i t] [] (.x (.c (.pd (.lst .int (eM c.states (ETy.get .tran c.trans t.toNat) s))))) []:=by
 obtain⟨v,ht,hs⟩:=h
 have hst:=(dP c).1 v.few
 have hmc:c.states.length≤maxLen:=by unfold maxLen;omega
 by_cases hz:(ETy.get .tran c.trans t.toNat).dst=[]
 · have e:eM c.states (ETy.get .tran c.trans t.toNat) s=[]:=by unfold eM;rw[hz];rfl
   rw[e]
   refine ah.ret (ret:=.x (.c (.pd (.v (.slice none 0 0))))) ?_ fun V v hv=>iA hv
   refine dg nD Tryz.func16 (let x1:=(ETy.get .tran c.trans (Int.toNat t));let x2:=((0:Int)≤t∧t<(c.trans.length:Int));let x3:=(Value.slice none 0 0);.need x2 (.ite (aE (Tran.dst x1)==(0:Int)) (.ret (.p (.v x3)) []) (.need x2 (.need x2 (.need (c.states.length≤maxLen) (.need ((0:Int)≤Tran.src x1∧Tran.src x1<(c.states.length:Int)∧(0:Int)≤aF c.states (Tran.dst x1)∧aF c.states (Tran.dst x1)<(c.states.length:Int)∧c.states.length≤maxLen) (.stop zAe2 {n:=58,fr:=[(8,.i (fO c.states ((Tran.src x1).toNat) ((aF c.states (Tran.dst x1)).toNat))),(1,.p (.lst .int s)),(3,.x (.c (.loc 0 0))),(6,.p (.v x3)),(7,.p (.v x3)),(9,.i 0)],ck:=[zAe1 c]}))))))) fun Γ=>?_
   conv=>zeta
   refine⟨ht,fun _=>⟨rfl,rfl⟩,fun hb=>?_⟩
   rw[hz]at hb;exact absurd hb (by decide)
 · obtain⟨tg,d,e1,e2,e3,e4,e5,e6,e7,e8⟩:=EU v (i:=t.toNat) (by omega) hz
   have hsrc:0≤(ETy.get .tran c.trans t.toNat).src∧(ETy.get .tran c.trans t.toNat).src<(c.states.length:Int):=by
    have:=dV c.states e4
    rcases e8 with e |e <;> omega
   have edom:fO c.states (ETy.get .tran c.trans t.toNat).src.toNat (aF c.states (ETy.get .tran c.trans t.toNat).dst).toNat=dh c.states (ETy.get .tran c.trans t.toNat).src (aF c.states (ETy.get .tran c.trans t.toNat).dst):=by
    obtain⟨q,hq⟩:=aA hsrc.1
    rw[hq,e1,ai,ai]
    exact(Ek v.tree (by omega) e2).symm
   have e:eM c.states (ETy.get .tran c.trans t.toNat) s=s.filter (lvF c.states (dh c.states (ETy.get .tran c.trans t.toNat).src (aF c.states (ETy.get .tran c.trans t.toNat).dst))):=by
    unfold eM;rw[if_neg (by simpa using hz)];rfl
   rw[e]
   have own:ah Tryz.prog 16 [.e .chart c,.l .int s,.i t] [] (.x (.c (.own 0))) [.own 3 .int (s.filter (lvF c.states (dh c.states (ETy.get .tran c.trans t.toNat).src (aF c.states (ETy.get .tran c.trans t.toNat).dst))))]:=by
    refine dg nD Tryz.func16 (let x1:=(ETy.get .tran c.trans (Int.toNat t));let x2:=((0:Int)≤t∧t<(c.trans.length:Int));let x3:=(Value.slice none 0 0);.need x2 (.ite (aE (Tran.dst x1)==(0:Int)) (.ret (.p (.v x3)) []) (.need x2 (.need x2 (.need (c.states.length≤maxLen) (.need ((0:Int)≤Tran.src x1∧Tran.src x1<(c.states.length:Int)∧(0:Int)≤aF c.states (Tran.dst x1)∧aF c.states (Tran.dst x1)<(c.states.length:Int)∧c.states.length≤maxLen) (.stop zAe2 {n:=58,fr:=[(8,.i (fO c.states ((Tran.src x1).toNat) ((aF c.states (Tran.dst x1)).toNat))),(1,.p (.lst .int s)),(3,.x (.c (.loc 0 0))),(6,.p (.v x3)),(7,.p (.v x3)),(9,.i 0)],ck:=[zAe1 c]}))))))) fun Γ=>?_
    conv=>zeta
    refine⟨ht,fun hb=>?_,fun _=>⟨ht,ht,hmc,⟨hsrc.1,hsrc.2,by omega,by omega,hmc⟩,?_⟩⟩
    · exfalso
      have hb':(aE (ETy.get .tran c.trans t.toNat).dst==0)=true:=hb
      have:=eq_of_beq hb'
      unfold aE at this
      exact hz (bE (by omega))
    · refine J.nilOwn 7 3 .int rfl (by kernel_rfl) ?_
      exact QQ c s t _ edom (by omega) hs Γ s.length 0 (by omega) (by omega)
   exact ah.chop (ck':=[]) (ah.frz aU [0] own rfl rfl)
def uM:Ent:=(16,fun
 |[.agg [.pd (.str a),.pd (.lst .str b),.pd (.lst .var c),.pd (.lst .stat d),.pd (.lst .tran e)],.c (.pd (.lst .int s)),.c (.pd (.int .i64 t))],[]=>some (some (Valid ⟨a,b,c,d,e⟩∧(0≤t∧t<(e.length:Int))∧(s.length≤1000∧∀y∈s,0≤y∧y<(d.length:Int))),.x (.c (.pd (.lst .int (eM d (ETy.get .tran e t.toNat) s)))),[])
 |_,_=>none)
theorem Ja:EntOk Tryz.prog uM:=entOk fun vs ck=>by
 unfold uM;dsimp only;split
 ·rename_i a b c d e s t;exact entS fun hp=>Nx ⟨a,b,c,d,e⟩ s t hp
 ·exact entN
def uf:Cfg:=⟨aU,[nL]⟩
theorem qa:ag Tryz.prog uf.tab:=(ag.cons mV ag.nil)
variable(Γ:Ctx)(c:Chart)(m:List Int)(y:Int)
def F1(P:Out)(c:Chart)(m:List Int)(y:Int):Prop:=J Tryz.prog 22 (ar Tryz.f22) Γ P [.code [1,0,1,0,0],.inLoop [1,0,1,0,0],.inBlock 0,.code [1,1]] ({n:=37,fr:=[(1,.p (.lst .int m)),(3,.x (.c (.loc 0 0))),(6,.i 0),(7,.i y)],ck:=[.cells [.pd (.str c.name),.pd (.lst .str c.events),.pd (.lst .var c.vars),.pd (.lst .stat c.states),.pd (.lst .tran c.trans)] 27]})
abbrev zAj1(a:Chart):List Chunk:=[.cells [.pd (.str a.name),.pd (.lst .str a.events),.pd (.lst .var a.vars),.pd (.lst .stat a.states),.pd (.lst .tran a.trans)] 27]
abbrev zAj2:List PI:=[.code [1,0,1,0,0,1,0,0,1,0,0],.inLoop [1,0,1,0,0,1,0,0,1,0,0],.inBlock 2,.inBlock 1,.code [1,0,1,0,0,1,1],.inLoop [1,0,1,0,0],.inBlock 0,.code [1,1]]
theorem Nu(R:Int)(c:Chart)(m:List Int)(y:Int)(hm:m.length≤maxLen)(hrg:∀k∈m,0≤k∧k<(c.trans.length:Int))(hy:0≤y∧y<(c.states.length:Int)∧c.states.length≤maxLen):∀(n k:Nat),m.length - k≤n→k≤m.length →
 (∀r,(m.drop k).find? (fun j=>dr c.trans j==y)=some r→R=r)→((m.drop k).find? (fun j=>dr c.trans j==y)=none→F1 Γ (Eq2 (.x (.i R)) []) c m (bq c.states y.toNat)) →
 J Tryz.prog 22 (ar Tryz.f22) Γ (Eq2 (.x (.i R)) []) zAj2 ({n:=37,fr:=[(1,.p (.lst .int m)),(3,.x (.c (.loc 0 0))),(6,.i 0),(7,.i y),(8,.i ((k:Int)))],ck:=(zAj1 c)}):=by
 intro n
 induction n with
 |zero=>?_
 |succ n ih=>?_
 all_goals
  intro k hn hk h1 h2
  refine jg qa Tryz.func22 (let x1:List Chunk:=(zAj1 c);.ite (decide ((k:Int)<(m.length:Int))) (.need (inRg k m.length) (.need ((0:Int)≤ETy.get .int m k∧ETy.get .int m k<(c.trans.length:Int)) (.ite (Tran.src (ETy.get .tran c.trans ((ETy.get .int m k).toNat))==y) (.need (inRg k m.length) (.ret (.i (ETy.get .int m k)) [])) (.stop zAj2 {n:=37,fr:=[(1,.p (.lst .int m)),(3,.x (.c (.loc 0 0))),(6,.i 0),(7,.i y),(8,.i (IntKind.wrap .i64 ((k:Int)+1)))],ck:=x1})))) (.need ((0:Int)≤y∧y<(c.states.length:Int)∧c.states.length≤maxLen) (.stop [.code [1,0,1,0,0],.inLoop [1,0,1,0,0],.inBlock 0,.code [1,1]] {n:=37,fr:=[(1,.p (.lst .int m)),(3,.x (.c (.loc 0 0))),(6,.i 0),(7,.i (bq c.states (Int.toNat y)))],ck:=x1}))) ?_
  conv=>zeta
  refine⟨fun hlt=>?_,fun hge=>⟨hy,?_⟩⟩
  · have hk':k<m.length:=by have:=of_decide_eq_true hlt;omega
    have hmem:ETy.get .int m k∈m:=by
     rw[ETy.get_eq (t:=.int) (List.getElem?_eq_getElem hk')];exact aW hk'
    rw[bx (t:=.int) hk',List.find?_cons]at h1 h2
    refine⟨⟨by omega,by omega⟩,hrg _ hmem,fun hb=>?_,fun hb=>?_⟩
    · have hb':(dr c.trans (ETy.get .int m k)==y)=true:=hb
      rw[hb']at h1
      rw[h1 _ rfl]
      exact⟨⟨by omega,by omega⟩,rfl,rfl⟩
    · have hb':(dr c.trans (ETy.get .int m k)==y)=false:=hb
      rw[hb']at h1 h2
      rw[aZ (aG hk' hm)]
      first
      |(exfalso;omega)
      |exact ih (k+1) (by omega) (by omega) h1 h2
  ·exact h2 (by rw[bS (by have:=of_decide_eq_false hge;omega)];rfl)
theorem Nt(hm:m.length≤maxLen)(v:Tre c.states)(hst:c.states.length≤maxLen)(hrg:∀k∈m,0≤k∧k<(c.trans.length:Int)):∀(n:Nat) (y:Int), -1≤y→y<(c.states.length:Int)→y<(n:Int) →
 F1 Γ (Eq2 (.x (.i (eJ c.states c.trans m n y))) []) c m y:=by
 intro n
 induction n with
 |zero=>?_
 |succ n ih=>?_
 all_goals
  intro y h1 h2 h3
  unfold F1
  refine jg qa Tryz.func22 (.ite (decide (y≥(0:Int))) (.stop zAj2 {n:=37,fr:=[(1,.p (.lst .int m)),(3,.x (.c (.loc 0 0))),(6,.i 0),(7,.i y),(8,.i 0)],ck:=(zAj1 c)}) (.ret (.i (-1:Int)) [])) ?_
  refine⟨fun hp=>?_,fun hp=>?_⟩
  · have hp':=of_decide_eq_true hp
    first
    |(exfalso;omega)
    | exact Nu Γ _ c m y hm hrg ⟨hp',h2,hst⟩ m.length 0 (by omega) (by omega) (fun r hr=>by
       rw[cA]at hr
       rw[eJ,if_pos hp',hr]) (fun hr=>by
       rw[cA]at hr
       rw[eJ,if_pos hp',hr]
       obtain⟨q,rfl⟩:=aA hp'
       have hu:=jo c.states q
       rw[←ft v.shp (by omega)]at hu
       rw[ai]
       refine ih _ ?_ ?_ ?_
       all_goals rcases hu with⟨e,_⟩ |⟨p,e,hp,_⟩ <;> rw[e] <;> omega)
  · have hp':=of_decide_eq_false hp
    have e:y = -1:=by omega
    have hz:∀m':Nat,eJ c.states c.trans m m' (-1) = -1:=fun m'=>by cases m' <;> simp[eJ]
    rw[e,hz];exact⟨rfl,rfl⟩
theorem DG(h:Valid c∧(∀k∈m,0≤k∧k<(c.trans.length:Int))∧(0≤y∧y<(c.states.length:Int))):ah Tryz.prog 22 [.e .chart c,.l .int m,.i y] [] (.x (.i (firstM c.states c.trans m y))) []:=by
 obtain⟨v,hrg,hy⟩:=h
 have hst:=(dP c).1 v.few
 refine dg qa Tryz.func22 (.stop [.code [1,0,1,0,0],.inLoop [1,0,1,0,0],.inBlock 0,.code [1,1]] {n:=37,fr:=[(1,.p (.lst .int m)),(3,.x (.c (.loc 0 0))),(6,.i 0),(7,.i y)],ck:=(zAj1 c)}) fun Γ=>?_
 refine J.len 1 rfl fun hm=>?_
 exact Nt Γ c m hm v.tre (by unfold maxLen;omega) hrg (c.states.length+1) y (by omega) (by omega) (by omega)
def rT:Ent:=(22,fun
 |[.agg [.pd (.str a),.pd (.lst .str b),.pd (.lst .var c),.pd (.lst .stat d),.pd (.lst .tran e)],.c (.pd (.lst .int m)),.c (.pd (.int .i64 y))],[]=>some (some (Valid ⟨a,b,c,d,e⟩∧(∀k∈m,0≤k∧k<(e.length:Int))∧(0≤y∧y<(d.length:Int))),.x (.c (.pd (.int .i64 (firstM d e m y)))),[])
 |_,_=>none)
theorem F6:EntOk Tryz.prog rT:=entOk fun vs ck=>by
 unfold rT;dsimp only;split
 ·rename_i a b c d e m y;exact entS fun hp=>DG ⟨a,b,c,d,e⟩ m y hp
 ·exact entN
def OR(K:List Int)(i:Nat):List Int:=((List.range i).filter fun k:Nat=>inB K (k:Int)).map fun k:Nat=>(k:Int)
theorem qR(K:List Int)(i:Nat):(OR K i).length≤i:=by
 unfold OR
 rw[aP]
 exact aC (aY _ _) (by simp)
theorem J.frameP{P:Program}{f:FuncId}{root:Code}{Γ:Ctx}{Q:Out}{todo:List PI}{st:ST}{fr':List (Nat×SV)}(h:∀p∈fr',p∈st.fr)(hk:J P f root Γ Q todo {st with fr:=fr'}):J P f root Γ Q todo st :=
 fun hT V a w r=>hk hT V a w (r.weaken h)
end Go.Proofs.YtlhgnjmdopjpeaaGreatDoor

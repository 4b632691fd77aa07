/- What a transition leaves and enters; what is made by choices (plain). Conditions: a valid chart. Contracts: moves.Enter. Conditions: sizes. Contracts: the layer's example holds. Conditions: none. Lists of ints and of bytes among the laws' arguments. Conditions: none. Contracts: the law MovesEnter. Conditions: sizes. Contracts: the law MovesChild. Conditions: sizes. What is left, and entered again by a deep history, is what was there (plain). Conditions: a valid chart. -/
import Derived.Test.YtgfifkhbfdacjaaGreatDoorEa
import Derived.Test.YtgfifkhbfdacjaaGreatDoorNv
import Derived.Test.YtgfifkhbfdacjaaGreatDoorNh
import Derived.Test.YtgfifkhbfdacjaaGreatDoorEg
import Derived.Test.YtgfifkhbfdacjaaGreatDoorEq
import Derived.Test.YtgfifkhbfdacjaaGreatDoorEo
import Derived.Test.YtgfifkhbfdacjaaGreatDoorLx
import Derived.Test.YtgfifkhbfdacjaaGreatDoorKb
import Derived.Test.YtgfifkhbfdacjaaGreatDoorCe
import Derived.Test.YtgfifkhbfdacjaaGreatDoorCq
import Derived.Test.YtgfifkhbfdacjaaGreatDoorSk
namespace Go.Proofs.YtgfifkhbfdacjaaGreatDoor
open Go Go.Ev
set_option maxRecDepth 100000
def uD (l:List Ev.Stat) (ps:List Past) (tg:Int):List Int:=if aO (ETy.get .stat l tg.toNat).kind=true then (match gP ps tg with
 | some p=>p.set
 | none=>[az l (ETy.get .stat l tg.toNat).initial]) else [tg]
def fI (l:List Ev.Stat) (tr:Tran) (ps:List Past):List Int:=if (tr.dst==[])=true then [] else dnM l (uD l ps (az l tr.dst)) (dt l tr.src (az l tr.dst)).toNat
/-! ### transitions -/
theorem DV {l:List Ev.Stat} (t:Tre l) (j:Int):∀ (n:Nat) (k:Int),k<(l.length:Int)→0≤gr l j n k→∃ d:Nat,gr l j n k=(d:Int)∧d<l.length∧knd l d=2∧(d:Int)<j∧j<((endM l d:Nat):Int)∧(k=(d:Int)∨((d:Int)<k∧k<((endM l d:Nat):Int)))
 | 0,k,_,h=>by rw [gr] at h; omega
 | n + 1,k,hk,h=>by
   rw [gr] at h ⊢
   by_cases h0:k<0
   · rw [if_pos h0] at h; omega
   · rw [if_neg h0] at h ⊢
     obtain ⟨q,rfl⟩:=aD (show 0≤k by omega)
     have hq:q<l.length:=by omega
     by_cases hb:((ETy.get .stat l (q:Int).toNat).kind==2&&decide (j>(q:Int))&&decide (j<((endM l (q:Int).toNat:Nat):Int)))=true
     · rw [if_pos hb]
       rw [af,af,decide_eq_true_eq,decide_eq_true_eq,ai] at hb
       exact ⟨q,rfl,hq,eq_of_beq hb.1.1,by omega,hb.2,.inl rfl⟩
     · rw [if_neg hb] at h ⊢
       rw [ai] at h ⊢
       have hup:=kC l (ETy.get .stat l q).depth q
       rcases kY l q with ⟨e,_⟩ | ⟨p,e,hpq,_⟩
       · rw [e] at h
         cases n with
         | zero=>rw [gr] at h; omega
         | succ n=>rw [gr,if_pos (by omega)] at h; omega
       · rw [e] at h ⊢
         obtain ⟨d,h1,h2,h3,h4,h5,h6⟩:=DV t j n (p:Int) (by omega) h
         refine ⟨d,h1,h2,h3,h4,h5,.inr ?_⟩
         have hk2:=(cB t.shp hq).1 e
         rcases h6 with h6 | h6
         · have:p=d:=by omega
           subst this; omega
         · have:=gB l h2 (q:=p) (by omega) (by omega)
           omega
theorem sf {c:Chart} (v:Valid c) {i:Nat} (hi:i<c.trans.length) (hd:(ETy.get .tran c.trans i).dst≠[]):∃ tg d:Nat,az c.states (ETy.get .tran c.trans i).dst=(tg:Int)∧tg<c.states.length∧dt c.states (ETy.get .tran c.trans i).src (az c.states (ETy.get .tran c.trans i).dst)=(d:Int)∧d<c.states.length∧knd c.states d=2∧d<tg∧tg<endM c.states d ∧
 ((ETy.get .tran c.trans i).src=(d:Int)∨((d:Int)<(ETy.get .tran c.trans i).src∧(ETy.get .tran c.trans i).src<((endM c.states d:Nat):Int))):=by
 have t:=v.tre
 have hz:=(qn c i _ _).1 (v.trans i hi)
 have h0:=hz.2.2.2
 have hto:=Gi v hi hd
 unfold eu at h0
 rw [if_pos (by simpa using hd),if_neg (by rw [decide_eq_false (by omega)]; decide)] at h0
 have hdm:0≤dt c.states (ETy.get .tran c.trans i).src (az c.states (ETy.get .tran c.trans i).dst):=by
  by_cases h:decide (dt c.states (ETy.get .tran c.trans i).src (az c.states (ETy.get .tran c.trans i).dst)<0)=true
  · rw [if_pos h] at h0; exact absurd h0 (by decide)
  · have:=of_decide_eq_false (bX _ ▸ h); omega
 rcases iH c.states (ETy.get .tran c.trans i).dst with ⟨e,_⟩ | ⟨tg,e,hl,_⟩
 · omega
 · rw [e] at hdm ⊢
   unfold dt at hdm ⊢
   by_cases hh:(bR c.states (ETy.get .tran c.trans i).src&&bR c.states (tg:Int))=true
   · rw [if_pos hh] at hdm ⊢
     have hs:(ETy.get .tran c.trans i).src<(c.states.length:Int):=by
      have hb:=hz.1
      unfold fQ at hb
      simp only [ay,decide_eq_false_iff_not] at hb
      omega
     obtain ⟨d,h1,h2,h3,h4,h5,h6⟩:=DV t _ _ _ hs hdm
     exact ⟨tg,d,rfl,hl,h1,h2,h3,by omega,by omega,h6⟩
   · rw [if_neg hh] at hdm; omega
def D8:Cfg:=⟨aY,[]⟩
theorem Do:ag Tryz.prog D8.tab:=ag.nil
theorem JP (p:Past) (t:Int):ah Tryz.prog 40 [.e .past p,.p (.ref .int t 0)] [] (.x (.b (p.state==t))) []:=by
 refine dg Do Tryz.func40 (.ret (.p (.bool (Past.state p==t))) []) fun Γ=>⟨rfl,rfl⟩
def eE1:Ent:=(40,fun
 | [.agg [.pd (.int .i64 a),.pd (.lst .int b)],.c (.pd (.ref .int t 0))],[]=>some (none,.x (.c (.pd (.bool (a==t)))),[])
 | _,_=>none)
theorem Mo:EntOk Tryz.prog eE1:=entOk fun vs ck=>by
 unfold eE1; dsimp only; split
 · rename_i a b t; exact entS fun hp=>JP ⟨a,b⟩ t
 · exact entN
def vK:Cfg:=⟨aY,[eE1]⟩
theorem ta:ag Tryz.prog vK.tab:=(ag.cons Mo ag.nil)
abbrev zEl1:List PI:=[.code [1,0,1,0,0],.inLoop [1,0,1,0,0],.inBlock 0,.code [1,1]]
variable (c:Chart) (t:Int) (l ps:List Past)
theorem Hv (t:Int) (Γ:Ctx) (hl:l.length≤maxLen)  : ∀ (n k:Nat),l.length - k≤n→k≤l.length →
 J Tryz.prog 39 (au Tryz.f39) Γ (Eq2 (.x (.i (aC (fun p:Past=>p.state==t) (l.drop k) k))) []) zEl1 ({ n:=19,fr:=[(0,.p (.lst .past l)),(1,.x (.c (.fn (.func 40) [] [.pd (.ref .int t 0)]))),(4,.i 0),(7,.i l.length),(8,.i k)],ck:=[] }):=by
 intro n
 induction n with
 | zero=>?_
 | succ n ih=>?_
 all_goals
  intro k hn hk
  refine jg ta Tryz.func39 (.ite (decide ((k:Int)<(l.length:Int))) (.need (inRg k l.length) (.ite (Past.state (ETy.get .past l k)==t) (.ret (.i k) []) (.stop zEl1 { n:=19,fr:=[(0,.p (.lst .past l)),(1,.x (.c (.fn (.func 40) [] [.pd (.ref .int t 0)]))),(4,.i 0),(7,.i l.length),(8,.i (IntKind.wrap .i64 ((k:Int)+1)))],ck:=[] }))) (.ret (.i (-1:Int)) [])) ?_
  refine ⟨fun hlt=>?_,fun hge=>?_⟩
  · have hk':k<l.length:=by have:=of_decide_eq_true hlt; omega
    rw [bD (t:=.past) (l:=l) hk']
    refine ⟨by omega,?_⟩
    generalize ETy.get .past l k=v
    refine ⟨fun hb=>⟨?_,rfl⟩,fun hb=>?_⟩
    · have hb':((v:Past).state==t)=true:=hb
      simp only [aC,hb',cond_true]
    · have hb':((v:Past).state==t)=false:=hb
      simp only [aC,hb',cond_false]; (rw [aX (aE hk' hl)]; first | (exfalso; omega) | exact ih (k+1) (by omega) (by omega))
  · rw [bO (l:=l) (by have:=of_decide_eq_false hge; omega)]
    exact ⟨rfl,rfl⟩
theorem FU (t:Int):ah Tryz.prog 39 [.l .past (l),SX.c (SC.fn (Fn.func 40) [] [RC.pd (PD.ref ETy.int t 0)])] [] (.x (.i (aC (fun p:Past=>p.state==t) l 0))) []:=by
 refine dg ta Tryz.func39 (.stop zEl1 { n:=19,fr:=[(0,.p (.lst .past l)),(1,.x (.c (.fn (.func 40) [] [.pd (.ref .int t 0)]))),(4,.i 0),(7,.i l.length),(8,.i 0)],ck:=[] }) fun Γ=>?_
 exact J.len 0 rfl fun hl=>Hv l t Γ hl l.length 0 (by omega) (by omega)
def Bj:Ent:=(39,fun
 | [.c (.pd (.lst .past l)),.c (.fn (.func 40) [] [.pd (.ref .int t 0)])],[]=>some (none,.x (.c (.pd (.int .i64 (aC (fun p:Past=>p.state==t) l 0)))),[])
 | _,_=>none)
theorem KP:EntOk Tryz.prog Bj:=entOk fun vs ck=>by
 unfold Bj; dsimp only; split
 · rename_i l t; exact entS fun hp=>FU l t
 · exact entN
def vv:Cfg:=⟨aY,[mu,jL,l5,iU,Bj,rG]⟩
theorem tU:ag Tryz.prog vv.tab:=(ag.cons qS (ag.cons jM (ag.cons rR (ag.cons iy (ag.cons KP (ag.cons xI ag.nil))))))
def hU:Bool:=decide (t<0)||decide (t≥(c.trans.length:Int))||(ETy.get .tran c.trans t.toNat).dst==[] || !(bC c==0&&cb (cw c.states) none ps)
def eS:List Int:=if hU c t ps=true then [] else fI c.states (ETy.get .tran c.trans t.toNat) ps
theorem mX (t:Int):∀ (ps:List Past) (k:Int),(aC (fun p:Past=>p.state==t) ps k = -1∧gP ps t=none)∨∃ j:Nat,j<ps.length∧aC (fun p:Past=>p.state==t) ps k=k+(j:Int)∧gP ps t=some (ETy.get .past ps j)
 | [],k=>.inl ⟨rfl,rfl⟩
 | p :: r,k=>by
   cases hb:p.state==t
   · have e1:gP (p::r) t=gP r t:=by unfold gP; rw [List.find?_cons,hb]
     have e2:aC (fun p:Past=>p.state==t) (p::r) k=aC (fun p:Past=>p.state==t) r (k+1):=by simp only [aC,hb,cond_false]
     rcases mX t r (k+1) with ⟨h1,h2⟩ | ⟨j,h1,h2,h3⟩
     · exact .inl ⟨by rw [e2,h1],by rw [e1,h2]⟩
     · exact .inr ⟨j+1,by simp; omega,by rw [e2,h2]; omega,by rw [e1,h3]; rfl⟩
   · have e1:gP (p::r) t=some p:=by unfold gP; rw [List.find?_cons,hb]
     exact .inr ⟨0,by simp,by simp only [aC,hb,cond_true]; omega,by rw [e1]; rfl⟩
theorem A7 {a b:Bool} (h:(a||b)=false):a=false∧b=false:=by rwa [ay] at h
theorem IJ {t:Int} {n:Nat} (h:(decide (t<0)||decide (t≥(n:Int)))=false):0≤t∧t<(n:Int):=by
 have h1:=A7 h
 have:=of_decide_eq_false h1.1
 have:=of_decide_eq_false h1.2
 omega
theorem JC (hz:c.vars.length≤2199023255552∧c.states.length≤2199023255552) (h:hU c t ps=true):ah Tryz.prog 15 [.e .chart c,.i t,.l .past ps] [] (.x (.c (.pd (.v (.slice none 0 0))))) []:=by
 refine dg tU Tryz.func15 (let x1:=(ETy.get .tran c.trans (Int.toNat t)); let x3:=(az c.states (Tran.dst x1)); let x2:=(Tre c.states∧(0:Int)≤dt c.states (Tran.src x1) x3∧dt c.states (Tran.src x1) x3<(c.states.length:Int)); let x4:=((0:Int)≤az c.states (Tran.dst x1)∧az c.states (Tran.dst x1)<(c.states.length:Int)); let x5:=(c.trans.length:Int); let x6:=((dt c.states (Tran.src x1) x3).toNat); let x7:=[az c.states (Tran.dst x1)]; let x8:=(ETy.get .stat c.states (x3.toNat)); .need ((decide (t<(0:Int))||decide (t≥x5))=false→(0:Int)≤t∧t<x5) (.need ((decide (t<(0:Int))||decide (t≥x5)||Tran.dst x1==[])=false→c.vars.length≤2199023255552∧c.states.length≤2199023255552) (.ite (decide (t<(0:Int))||decide (t≥x5)||Tran.dst x1==[] || !(bC c==(0:Int)&&cb (cw c.states) none ps)) (.ret (.p (.v (Value.slice none 0 0))) []) (.need ((0:Int)≤t∧t<x5) (.need ((0:Int)≤t∧t<x5) (.need (c.states.length≤maxLen) (.need x4 (.ite (aO (Stat.kind x8)) (.need x4 (.need ((0:Int)≤0∧(0:Int)<(↑(List.length x7):Int)) (.need (0<List.length x7) (.ite (decide (aC (fun p=>Past.state p==az c.states (Tran.dst x1)) ps (0:Int)≥0)) (.need ((0:Int)≤aC (fun p=>Past.state p==az c.states (Tran.dst x1)) ps (0:Int)∧aC (fun p=>Past.state p==az c.states (Tran.dst x1)) ps (0:Int)<(ps.length:Int)) (.need x2 (.ret (.p (.lst .int (dnM c.states (Past.set (ETy.get .past ps ((aC (fun p=>Past.state p==az c.states (Tran.dst x1)) ps (0:Int)).toNat))) x6))) []))) (.need x2 (.ret (.p (.lst .int (dnM c.states [az c.states (Stat.initial x8)] x6))) [])))))) (.need x2 (.ret (.p (.lst .int (dnM c.states x7 x6))) [])))))))))) fun Γ=>?_
 conv=>zeta
 refine ⟨fun h1=>IJ h1,fun _=>hz,fun _=>⟨rfl,rfl⟩,fun h1=>?_⟩
 have h1':hU c t ps=false:=h1
 rw [h] at h1'; cases h1'
theorem L5 (hz:c.vars.length≤2199023255552∧c.states.length≤2199023255552) (h:hU c t ps=false):ah Tryz.prog 15 [.e .chart c,.i t,.l .past ps] [] (.x (.c (.pd (.lst .int (fI c.states (ETy.get .tran c.trans t.toNat) ps))))) []:=by
 have h0:=h
 unfold hU at h0
 have h1:=A7 h0
 have h2:=A7 h1.1
 have hin:=IJ h2.1
 have h3:(bC c==0&&cb (cw c.states) none ps)=true:=by simpa using h1.2
 rw [af] at h3
 have v:=(iB c).1 (eq_of_beq h3.1)
 have hst:=(mV c).1 v.few
 have hmc:c.states.length≤maxLen:=by unfold maxLen; omega
 have hi:t.toNat<c.trans.length:=by omega
 obtain ⟨tg,d,e1,e2,e3,e4,_⟩:=sf v hi (by intro e; rw [e] at h2; exact absurd h2.2 (by decide))
 refine dg tU Tryz.func15 (let x1:=(ETy.get .tran c.trans (Int.toNat t)); let x3:=(az c.states (Tran.dst x1)); let x2:=(Tre c.states∧(0:Int)≤dt c.states (Tran.src x1) x3∧dt c.states (Tran.src x1) x3<(c.states.length:Int)); let x4:=((0:Int)≤az c.states (Tran.dst x1)∧az c.states (Tran.dst x1)<(c.states.length:Int)); let x5:=(c.trans.length:Int); let x6:=((dt c.states (Tran.src x1) x3).toNat); let x7:=[az c.states (Tran.dst x1)]; let x8:=(ETy.get .stat c.states (x3.toNat)); .need ((decide (t<(0:Int))||decide (t≥x5))=false→(0:Int)≤t∧t<x5) (.need ((decide (t<(0:Int))||decide (t≥x5)||Tran.dst x1==[])=false→c.vars.length≤2199023255552∧c.states.length≤2199023255552) (.ite (decide (t<(0:Int))||decide (t≥x5)||Tran.dst x1==[] || !(bC c==(0:Int)&&cb (cw c.states) none ps)) (.ret (.p (.v (Value.slice none 0 0))) []) (.need ((0:Int)≤t∧t<x5) (.need ((0:Int)≤t∧t<x5) (.need (c.states.length≤maxLen) (.need x4 (.ite (aO (Stat.kind x8)) (.need x4 (.need ((0:Int)≤0∧(0:Int)<(↑(List.length x7):Int)) (.need (0<List.length x7) (.ite (decide (aC (fun p=>Past.state p==az c.states (Tran.dst x1)) ps (0:Int)≥0)) (.need ((0:Int)≤aC (fun p=>Past.state p==az c.states (Tran.dst x1)) ps (0:Int)∧aC (fun p=>Past.state p==az c.states (Tran.dst x1)) ps (0:Int)<(ps.length:Int)) (.need x2 (.ret (.p (.lst .int (dnM c.states (Past.set (ETy.get .past ps ((aC (fun p=>Past.state p==az c.states (Tran.dst x1)) ps (0:Int)).toNat))) x6))) []))) (.need x2 (.ret (.p (.lst .int (dnM c.states [az c.states (Stat.initial x8)] x6))) [])))))) (.need x2 (.ret (.p (.lst .int (dnM c.states x7 x6))) [])))))))))) fun Γ=>?_
 conv=>zeta
 unfold fI uD
 rw [e3,e1,h2.2,if_neg (by decide),ai,ai]
 refine ⟨fun _=>hin,fun _=>hz,fun h5=>?_,fun _=>⟨hin,hin,hmc,⟨by omega,by omega⟩,fun hp=>?_,fun hp=>?_⟩⟩
 · exfalso
   have h5':(decide (t<0)||decide (t≥(c.trans.length:Int))||false || !(bC c==0&&cb (cw c.states) none ps))=true:=h5
   rw [← h2.2,h0] at h5'; cases h5'
 · rw [if_pos (by exact hp)]
   refine ⟨⟨by omega,by omega⟩,⟨by omega,Int.one_pos⟩,Nat.one_pos,fun hf=>?_,fun hf=>?_⟩
   · rcases mX (tg:Int) ps 0 with ⟨f1,f2⟩ | ⟨j,f1,f2,f3⟩
     · rw [f1] at hf; exact absurd hf (by decide)
     · rw [f2,f3,Int.zero_add,ai]
       exact ⟨⟨by omega,by omega⟩,⟨v.tre,by omega,by omega⟩,rfl,rfl⟩
   · rcases mX (tg:Int) ps 0 with ⟨f1,f2⟩ | ⟨j,f1,f2,f3⟩
     · rw [f2]
       exact ⟨⟨v.tre,by omega,by omega⟩,rfl,rfl⟩
     · rw [f2] at hf
       exact absurd (of_decide_eq_false hf) (by omega)
 · rw [if_neg (by rw [show aO (ETy.get .stat c.states tg).kind=false from hp]; decide)]
   exact ⟨⟨v.tre,by omega,by omega⟩,rfl,rfl⟩
theorem xn (hz:c.vars.length≤2199023255552∧c.states.length≤2199023255552):ah Tryz.prog 15 [.e .chart c,.i t,.l .past ps] [] (.x (.c (.pd (.lst .int (eS c t ps))))) []:=by
 unfold eS
 by_cases h:hU c t ps=true
 · rw [if_pos h]
   exact ah.ret (JC c t ps hz h) fun V v hv=>nY hv
 · rw [if_neg h]
   exact L5 c t ps hz (Bool.eq_false_iff.2 h)
def oS:Ent:=(15,fun
 | [.agg [.pd (.str a),.pd (.lst .str b),.pd (.lst .var c),.pd (.lst .stat d),.pd (.lst .tran e)],.c (.pd (.int .i64 t)),.c (.pd (.lst .past ps))],[]=>some (some (c.length≤2199023255552∧d.length≤2199023255552),.x (.c (.pd (.lst .int (eS ⟨a,b,c,d,e⟩ t ps)))),[])
 | _,_=>none)
theorem Cw:EntOk Tryz.prog oS:=entOk fun vs ck=>by
 unfold oS; dsimp only; split
 · rename_i a b c d e t ps; exact entS fun hp=>xn ⟨a,b,c,d,e⟩ t ps hp
 · exact entN
end Go.Proofs.YtgfifkhbfdacjaaGreatDoor
namespace Go.Proofs.YtgfifkhbfdacjaaGreatDoor
open Go Go.Ev
set_option maxRecDepth 100000
theorem xp {V:Vn} {a:Str} {b:List Str} {d:List Ev.Stat} {e:List Tran} {u:Value} (h:SX.R V (.agg [.pd (.str a),.pd (.lst .str b),.pd (.v (.slice none 0 0)),.pd (.lst .stat d),.pd (.lst .tran e)]) u):SX.R V (.e .chart ⟨a,b,[],d,e⟩) u:=by
 obtain ⟨us,e,hu⟩:=h
 refine ⟨us,e,?_⟩
 cases hu with | cons h0 hu=>cases hu with | cons h1 hu=>cases hu with | cons h2 hu=>cases hu with | cons h3 hu=>cases hu with | cons h4 hu =>
  cases hu
  exact .cons h0 (.cons h1 (.cons (nY h2) (.cons h3 (.cons h4 .nil))))
variable (a:Str) (b:List Str) (d:List Ev.Stat) (e:List Tran) (ps:List Past)
theorem A3 (l left:List Int) (h:d.length≤2199023255552):ah Tryz.prog 18 [.agg [.pd (.str a),.pd (.lst .str b),.pd (.v (.slice none 0 0)),.pd (.lst .stat d),.pd (.lst .tran e)],.l .int l,.l .int left,.l .past []] [] (.x (.c (.pd (.lst .past (jn ⟨a,b,[],d,e⟩ l left))))) [] :=
 ah.sub (fun V vs hv=>by
  cases hv with | cons h1 hv=>exact .cons (xp h1) hv) (uh ⟨a,b,[],d,e⟩ l left ⟨by simp,h⟩)
def qx:Ent:=(18,fun
 | [.agg [.pd (.str a),.pd (.lst .str b),.pd (.v (.slice none 0 0)),.pd (.lst .stat d),.pd (.lst .tran e)],.c (.pd (.lst .int l)),.c (.pd (.lst .int left)),.c (.pd (.lst .past []))],[]=>some (some (d.length≤2199023255552∧jn ⟨a,b,[],d,e⟩ l left=[⟨5,[4]⟩]),.x (.c (.pd (.lst .past [⟨5,[4]⟩]))),[])
 | _,_=>none)
theorem DK:EntOk Tryz.prog qx:=entOk fun vs ck=>by
 unfold qx; dsimp only; split
 · rename_i a b d e l left; exact entS fun hp=>by rw [← hp.2]; exact A3 a b d e l left hp.1
 · exact entN
theorem tZ (t:Int) (ps:List Past) (h:d.length≤2199023255552):ah Tryz.prog 15 [.agg [.pd (.str a),.pd (.lst .str b),.pd (.v (.slice none 0 0)),.pd (.lst .stat d),.pd (.lst .tran e)],.i t,.l .past ps] [] (.x (.c (.pd (.lst .int (eS ⟨a,b,[],d,e⟩ t ps))))) [] :=
 ah.sub (fun V vs hv=>by
  cases hv with | cons h1 hv=>exact .cons (xp h1) hv) (xn ⟨a,b,[],d,e⟩ t ps ⟨by simp,h⟩)
def rW:Ent:=(15,fun
 | [.agg [.pd (.str a),.pd (.lst .str b),.pd (.v (.slice none 0 0)),.pd (.lst .stat d),.pd (.lst .tran e)],.c (.pd (.int .i64 t)),.c (.pd (.lst .past (p::q)))],[]=>some (some (d.length≤2199023255552∧eS ⟨a,b,[],d,e⟩ t (p::q)=[2,4]),.x (.c (.pd (.lst .int [2,4]))),[])
 | _,_=>none)
theorem Fp:EntOk Tryz.prog rW:=entOk fun vs ck=>by
 unfold rW; dsimp only; split
 · rename_i a b d e t p q; exact entS fun hp=>by rw [← hp.2]; exact tZ a b d e t (p::q) hp.1
 · exact entN
def qk:Ent:=(15,fun
 | [.agg [.pd (.str a),.pd (.lst .str b),.pd (.v (.slice none 0 0)),.pd (.lst .stat d),.pd (.lst .tran e)],.c (.pd (.int .i64 t)),.c (.pd (.lst .past []))],[]=>some (some (d.length≤2199023255552∧eS ⟨a,b,[],d,e⟩ t []=[1]),.x (.c (.pd (.lst .int [1]))),[])
 | _,_=>none)
theorem Dw:EntOk Tryz.prog qk:=entOk fun vs ck=>by
 unfold qk; dsimp only; split
 · rename_i a b d e t; exact entS fun hp=>by rw [← hp.2]; exact tZ a b d e t [] hp.1
 · exact entN
def LD:Cfg:=⟨aY,[vl,qx,rW,qk,qO]⟩
theorem D1:ag Tryz.prog LD.tab:=(ag.cons Hj (ag.cons DK (ag.cons Fp (ag.cons Dw (ag.cons D0 ag.nil)))))
def exC:Chart:=⟨[99],[[103,111]],[],[⟨[114],2,0,[97],[],[]⟩,⟨[97],1,1,[],[],[]⟩,⟨[98],2,1,[99],[],[]⟩,⟨[99],1,2,[],[],[]⟩,⟨[100],1,2,[],[],[]⟩,⟨[104],6,1,[97],[],[]⟩],[⟨1,[103,111],[],[104],[]⟩]⟩
theorem wQ:bC exC=0:=by
 refine (iB _).2 ⟨by decide,by decide,by decide,by decide,by decide,by decide,fun k hk=>?_,fun k hk=>absurd hk (Nat.not_lt_zero _),fun k hk=>?_,fun k hk=>?_⟩
 · have hk':k<6:=hk
   rcases (show k=0∨k=1∨k=2∨k=3∨k=4∨k=5 by omega) with rfl | rfl | rfl | rfl | rfl | rfl <;> decide
 · have hk':k<6:=hk
   rcases (show k=0∨k=1∨k=2∨k=3∨k=4∨k=5 by omega) with rfl | rfl | rfl | rfl | rfl | rfl <;> decide
 · have hk':k<1:=hk
   have:k=0:=by omega
   subst this; decide
theorem Me:jn exC [0,2,4] [0,2,4]=[⟨5,[4]⟩]:=by
 have e:(bC exC==0&&dF exC.states [0,2,4])=true:=by rw [wQ]; kernel_rfl
 have e2:sw exC.states [0,2,4] [0,2,4]=[⟨5,[4]⟩]:=by kernel_rfl
 unfold jn
 rw [e,if_pos rfl]
 exact e2
theorem IX (r:List Int) (h1:cb (cw exC.states) none ps=true) (h2:fI exC.states (ETy.get .tran exC.trans 0) ps=r):eS exC 0 ps=r:=by
 have e:hU exC 0 ps=false:=by
  unfold hU
  rw [wQ,h1]; kernel_rfl
 unfold eS
 rw [e,if_neg (by decide)]
 exact h2
theorem Cc:ah Tryz.prog 9 [] [] (.x (.b true)) []:=by
 refine ah.of Tryz.func9 (by kernel_rfl) (by kernel_rfl) fun Γ=>?_
 refine (kR (a:=[]) (fn:=Tryz.f9) (fz:=999) D1 Tryz.func9 20 (ps:=[6≤2199023255552∧eS exC 0 []=[1],6≤2199023255552∧eS exC 0 [⟨5,[4]⟩]=[2,4],true=true→(0:Int)≤0∧(0:Int)<(1:Nat),6≤2199023255552∧jn exC [0,2,4] [0,2,4]=[⟨5,[4]⟩],exW=exW]) (by kernel_rfl) ?_ ⟨rfl,rfl⟩).1
 exact ⟨⟨by decide,IX _ _ (by kernel_rfl) (by kernel_rfl)⟩,⟨by decide,IX _ _ (by kernel_rfl) (by kernel_rfl)⟩,fun _=>⟨by decide,by decide⟩,⟨by decide,Me⟩,rfl,trivial⟩
def ry:Ent:=(9,fun
 | [],[]=>some (none,.x (.c (.pd (.bool true))),[])
 | _,_=>none)
theorem Ef:EntOk Tryz.prog ry:=entOk fun vs ck=>by
 unfold ry; dsimp only; split
 · exact entS fun hp=>Cc
 · exact entN
end Go.Proofs.YtgfifkhbfdacjaaGreatDoor
namespace Go.Proofs.YtgfifkhbfdacjaaGreatDoor
open Go Go.Ev Go.RowKit Go.ChangeShapes Go.WideShapes Go.ChangeAt
set_option maxRecDepth 100000
section
variable {Hh:Type} {enc:TypeId×Value→Hh} {W:World} {base:Nat} {spare:Nat→Bool} {held:Bool}
theorem Ko (n:Nat) (cs:List Value) (y:DataW Hh×List MemPlace) (h:DataW.trod enc Tryz.prog W base spare held n 5 cs=some y):∃ r:Int,All2 (PR (HW W)) (ETy.byte.enc r) cs∧(0≤r∧r≤255):=by
 obtain ⟨k,h1,_,h2⟩:=DataW.trod_int Tryz.underlying5 h
 simp only [Lit.wf,af,decide_eq_true_eq] at h2
 have e1:IntKind.u8.min=0:=by decide
 have e2:IntKind.u8.max=255:=by decide
 rw [e1,e2] at h2
 exact ⟨k,by rw [h1]; exact .cons (.int _ k) .nil,h2⟩
theorem Du {v:Value} {d:DataW Hh} {ps:List MemPlace} {b0:Nat} (h:DataW.Trod enc Tryz.prog W base spare held 43 v d ps) (hv:Value.okWide Tryz.prog W .any b0 43 v) :
 ∃ l:List Int,SX.R (VW W) (.c (.pd (.lst .byte l))) v∧∀ b∈l,0≤b∧b≤255:=by
 have hv':Cell.okWide Tryz.prog W .any b0 43 v:=by simpa only [Value.okWide,Tryz.underlying43] using hv
 obtain ⟨fuel,hf⟩:=h
 have hc:v.cells.toList=[v]:=by
  have hv2:=hv'
  simp only [Cell.okWide,Tryz.underlying43,Cell.ok] at hv2
  cases v <;> first | rfl | exact hv2.elim
 rw [hc] at hf
 obtain ⟨l,h1,h2,_⟩:=wA .byte (Q:=fun b:Int=>0≤b∧b≤255) Tryz.underlying43 (by kernel_rfl) Ko hf ⟨_,_,hv'⟩
 exact ⟨l,h1,h2⟩
end
end Go.Proofs.YtgfifkhbfdacjaaGreatDoor
namespace Go.Proofs.YtgfifkhbfdacjaaGreatDoor
open Go Go.Ev
set_option maxRecDepth 100000
theorem IN {c:Chart} {t:Int} (h1:(!bC c==0||decide (t<0)||decide (t≥(c.trans.length:Int)))=false):bC c=0∧0≤t∧t<(c.trans.length:Int):=by
 cases ha:bC c==0 <;> cases hb:decide (t<0) <;> cases hc:decide (t≥(c.trans.length:Int)) <;> simp [ha,hb,hc] at h1
 have h2:=of_decide_eq_false hb
 have h3:=of_decide_eq_false hc
 exact ⟨eq_of_beq ha,by omega,by omega⟩
theorem EK {c:Chart} {t:Int} {ps:List Past} (h:bC c=0∧0≤t∧t<(c.trans.length:Int)) (hps:cb (cw c.states) none ps=true):eS c t ps=fI c.states (ETy.get .tran c.trans t.toNat) ps:=by
 unfold eS
 cases hb:hU c t ps
 · rw [if_neg (by decide)]
 · rw [if_pos rfl]
   unfold hU at hb
   rw [h.1,hps] at hb
   have h2:decide (t<0)=false:=decide_eq_false (by omega)
   have h3:decide (t≥(c.trans.length:Int))=false:=decide_eq_false (by omega)
   rw [h2,h3] at hb
   unfold fI
   rw [if_pos (by simpa using hb)]
end Go.Proofs.YtgfifkhbfdacjaaGreatDoor
namespace Go.Proofs.YtgfifkhbfdacjaaGreatDoor
open Go Go.Ev
set_option maxRecDepth 100000
def kq (l:List Ev.Stat) (n:Str):Nat→Int
 | 0=>-1
 | i+1=>if ((ETy.get .stat l i).name==n)=true then (i:Int) else kq l n i
theorem A1 {l:List Ev.Stat} (t:Tre l) {n:Str} {tg:Nat} (hp:az l n=(tg:Int)) (h2:tg<l.length):kq l n l.length=(tg:Int):=by
 have hn:(ETy.get .stat l tg).name=n:=by
  rcases iH l n with ⟨e,_⟩ | ⟨k,e,hk,hn⟩
  · rw [hp] at e; omega
  · rw [hp] at e
    have:tg=k:=by omega
    subst this; exact hn
 have key:∀ m:Nat,m≤l.length→kq l n m=if tg<m then (tg:Int) else -1:=by
  intro m
  induction m with
  | zero=>intro _; rfl
  | succ m ih =>
    intro hm
    rw [kq]
    by_cases hb:((ETy.get .stat l m).name==n)=true
    · have:m=tg:=vF t.names (by omega) h2 ((eq_of_beq hb).trans hn.symm)
      subst this
      rw [if_pos hb,if_pos (by omega)]
    · rw [if_neg hb,ih (by omega)]
      by_cases hmt:m=tg
      · subst hmt; exact absurd (by simp [hn]) hb
      · by_cases hlt:tg<m
        · rw [if_pos hlt,if_pos (by omega)]
        · rw [if_neg hlt,if_neg (by omega)]
 rw [key _ (aq _),if_pos h2]
end Go.Proofs.YtgfifkhbfdacjaaGreatDoor
namespace Go.Proofs.YtgfifkhbfdacjaaGreatDoor
open Go Go.Ev
set_option maxRecDepth 100000
theorem me {f:Nat→Option Past} (hf:∀ i p,f i=some p→p.state=(i:Int)):∀ (n i:Nat),gP ((List.range n).filterMap f) (i:Int)=if i<n then f i else none
 | 0,i=>by rw [if_neg (by omega)]; rfl
 | n + 1,i=>by
   have ih:=me hf n i
   unfold gP at ih ⊢
   rw [eA,List.filterMap_append,List.find?_append,ih]
   by_cases h:i<n
   · rw [if_pos h,if_pos (by omega)]
     cases hfi:f i with
     | some p=>rfl
     | none =>
       rw [Option.none_or]
       cases hn:f n with
       | none=>simp [hn]
       | some p =>
         have:=hf n p hn
         simp [hn,this]; omega
   · rw [if_neg h,Option.none_or]
     by_cases h2:i=n
     · subst h2
       rw [if_pos (by omega)]
       cases hn:f i with
       | none=>simp [hn]
       | some p =>
         have:=hf i p hn
         simp [hn,this]
     · rw [if_neg (by omega)]
       cases hn:f n with
       | none=>simp [hn]
       | some p =>
         have:=hf n p hn
         simp [hn,this]; omega
variable {l:List Ev.Stat}
theorem Cu {s left:List Int} {ps:List Past} (i:Nat) (p:Past) (h:jl l s left ps i=some p):p.state=(i:Int):=by
 unfold jl at h
 split at h
 · split at h
   · simp only [aa] at h
     rw [← h]
   · exact (xJ h).2
 · cases h
theorem GC (l:List Ev.Stat) (s left:List Int) (ps:List Past) (i:Nat) (hi:i<l.length):gP (j4 l s left ps) (i:Int)=jl l s left ps i:=by
 unfold j4
 rw [me (fun i p h=>Cu i p h),if_pos hi]
theorem Rchd.trans {ch:Nat→Int} {d u j:Nat} (h:Rchd l ch d u) (k:Rchd l ch u j):Rchd l ch d j:=by
 induction k with
 | self=>exact h
 | step _ h2 h3 h4 ih=>exact .step ih h2 h3 h4
theorem DW (t:Tre l) {ch:Nat→Int} {d u j:Nat} (h:Rchd l ch d j) (hw:j=u∨(u<j∧j<endM l u)) (hd:d≤u):Rchd l ch u j:=by
 induction h with
 | self =>
   rcases hw with rfl | hw
   · exact .self
   · omega
 | @step p j h1 h2 h3 h4 ih =>
   rcases hw with rfl | hw
   · exact .self
   · refine .step (ih ?_) h2 h3 h4
     have:=(qY t (d:=u) h2 h3).1 hw
     rcases this with h5 | h5
     · exact .inl h5
     · exact .inr h5
theorem CT {l:List Ev.Stat} (t:Tre l) {ts:List Int} {d u:Nat} (hd:d<l.length) (hu:u<l.length) (hne:0<ts.length) (hts:∀ x∈ts,(u:Int)<x∧x<((endM l u:Nat):Int)):∀ (n k:Nat),k<n→k<l.length→(k=d∨(d<k∧k<endM l d))→(u=k∨(k<u∧u<endM l k))→Rchd l (gn l ts) d k
 | 0,k,h,_,_,_=>by omega
 | n + 1, k, hn,hk,h1,h2=>by
   rcases h1 with rfl | h1
   · exact .self
   · obtain ⟨h3,h4⟩:=(jj l hk (by omega)).1 h1
     obtain ⟨p,hp⟩:=aD h3
     have hkp:=(cB t.shp hk).1 hp
     have hpl:p<l.length:=by omega
     have hpu:p<u∧u<endM l p:=by
      rcases h2 with rfl | h2
      · omega
      · have:=gB l hpl hkp.1 hkp.2.1; omega
     have ih:=CT t hd hu hne hts n p (by omega) hpl (by rw [hp] at h4; omega) (.inr hpu)
     refine .step ih hk hp ?_
     rcases t.both hk hp with h5 | h5
     · refine .inr ⟨h5,?_⟩
       have hin:∀ x∈ts,(k:Int)≤x∧x<((endM l k:Nat):Int):=fun x hx=>by
        have:=hts x hx
        rcases h2 with rfl | h2
        · omega
        · have:=gB l hk h2.1 h2.2; omega
       have hwk:dw l ts (k:Int)=true:=by
        obtain ⟨x,r,e⟩:∃ x r,ts=x::r:=by
         match ts,hne with
         | x::r,_=>exact ⟨x,r,rfl⟩
        unfold dw
        rw [bn]
        refine ⟨x,by rw [e]; exact ax,?_⟩
        have:=hin x (by rw [e]; exact ax)
        rw [af,decide_eq_true_eq,decide_eq_true_eq,ai]
        omega
       unfold gn
       cases hf:(bb l p).find? fun y=>dw l ts y with
       | none =>
         exfalso
         exact List.find?_eq_none.1 hf (k:Int) ((dW t.shp hpl _).2 ⟨k,rfl,hk,hp⟩) hwk
       | some y =>
         obtain ⟨m,rfl,hm,hmu⟩:=(dW t.shp hpl y).1 (List.mem_of_find?_eq_some hf)
         have hw:=List.find?_some (p:=fun y=>dw l ts y) hf
         have hw':dw l ts (m:Int)=true:=hw
         unfold dw at hw'
         rw [bn] at hw'
         obtain ⟨x,hx,hb⟩:=hw'
         rw [af,decide_eq_true_eq,decide_eq_true_eq,ai] at hb
         have h6:=hin x hx
         have h7:=(cB t.shp hm).1 hmu
         have h8:=hkp
         show (m:Int)=(k:Int)
         obtain ⟨z,rfl⟩:=aD (show 0≤x by omega)
         by_cases he:m=k
         · rw [he]
         · exfalso
           rcases Nat.lt_or_gt_of_ne he with hlt | hgt
           · by_cases hkm:k<endM l m
             · have:=fL l m k hlt hkm; omega
             · omega
           · by_cases hmk:m<endM l k
             · have:=fL l k m hgt hmk; omega
             · omega
     · exact .inl h5.1
theorem Ia {c:Chart} (v:Valid c) {i:Nat} (hi:i<c.trans.length) (hd0:(ETy.get .tran c.trans i).dst≠[]) {tg u:Nat} (htg:az c.states (ETy.get .tran c.trans i).dst=(tg:Int)) (hk6:knd c.states tg=6) (hu:upM c.states tg=(u:Int)) {s:List Int} (h:Lgl c.states s) (hus:(u:Int)∈s) :
 (∀ y∈s,c9 c.states (u:Int) y.toNat=true→y∈fI c.states (ETy.get .tran c.trans i) (j4 c.states s [(u:Int)] []))∧(∀ y∈fI c.states (ETy.get .tran c.trans i) (j4 c.states s [(u:Int)] []),c9 c.states (u:Int) y.toNat=true→y∈s) ∧
 ∀ y∈fI c.states (ETy.get .tran c.trans i) (j4 c.states s [(u:Int)] []),0≤y∧y<(c.states.length:Int):=by
 have t:=v.tre
 obtain ⟨tg',d,e1,hto,e2,hd,hk,h1,h2,_⟩:=sf v hi hd0
 have:tg'=tg:=by omega
 subst this
 have hp:aO (ETy.get .stat c.states tg').kind=true:=by
  have:(ETy.get .stat c.states tg').kind=6:=hk6
  rw [this]; rfl
 have hul:u<c.states.length:=by have:=(cB t.shp hto).1 hu; omega
 obtain ⟨u',hu',_,_,hk2⟩:=kv t hto hp
 have:u'=u:=by omega
 subst this
 have het:uD c.states (j4 c.states s [(u':Int)] []) (tg':Int)=j1 c.states s tg':=by
  unfold uD
  rw [ai,if_pos hp,GC _ _ _ _ _ hto]
  unfold jl
  rw [if_pos hp,dK t.shp hto,hu,(cO _ _).2 hus,(cO [(u':Int)] (u':Int)).2 ax]
  rfl
 have hdeep:=vN t h hto hk6 hu
 have hdr:=rz t h hul hus (.inl hk2) (ts:=j1 c.states s tg') (h.inc.filter _) hdeep
 have hen:fI c.states (ETy.get .tran c.trans i) (j4 c.states s [(u':Int)] [])=dnM c.states (j1 c.states s tg') d:=by
  unfold fI
  rw [if_neg (by simpa using hd0),e2,e1,het,ai]
 rw [hen]
 generalize hts:j1 c.states s tg'=ts at hdeep hdr
 have hdu:d=u'∨(d<u'∧u'<endM c.states d):=by
  have:=(qY t (d:=d) hto hu).1 ⟨h1,h2⟩
  rcases this with h5 | h5
  · exact .inl h5.symm
  · exact .inr h5
 have hE:Rchd c.states (gn c.states ts) d u':=CT t hd hul hdr.2 (fun x hx=>by have:=(hdeep x).1 hx; omega) (u'+1) u' (by omega) hul (by rcases hdu with h5 | h5; exact .inl h5.symm; exact .inr h5) (.inl rfl)
 have hdn:=fun y=>C3 t (iz t ts) hd y
 have hw:∀ j:Nat,j<c.states.length→(c9 c.states (u':Int) j=true↔u'<j∧j<endM c.states u'):=fun j hj=>by
  rw [nn t.shp hj,af,decide_eq_true_eq,decide_eq_true_eq]
 refine ⟨fun y hy hwy=>?_,fun y hy hwy=>?_,fun y hy=>?_⟩
 · obtain ⟨j,rfl,hj,_⟩:=h.rng y hy
   rw [ai] at hwy
   have h5:=(hw j hj).1 hwy
   exact (hdn _).2 ⟨j,rfl,by omega,hE.trans ((my t h hul hus hdeep j).2 ⟨hj,hy,by omega,h5.2⟩)⟩
 · obtain ⟨j,rfl,hne,hj⟩:=(hdn y).1 hy
   have hjl:=hj.lt t hd
   rw [ai] at hwy
   have h5:=(hw j hjl.1).1 hwy
   have h6:=DW t hj (.inr h5) (by omega)
   exact ((my t h hul hus hdeep j).1 h6).2.1
 · obtain ⟨j,rfl,hne,hj⟩:=(hdn y).1 hy
   have hjl:=hj.lt t hd
   omega
end Go.Proofs.YtgfifkhbfdacjaaGreatDoor

/- Contracts: the document's names, operands, right lists. Conditions: none. Contracts: where the document's operands begin; its searches, its kinds of leaves. Conditions: none. -/
import Derived.Test.YtlhgnjmdopjpeaaGreatDoorTn
namespace Go.Proofs.YtlhgnjmdopjpeaaGreatDoor
open Go Go.Ev
set_option maxRecDepth 100000
def jN(k:Int)(c:UInt8):Bool :=
 !(decide ((c.toNat:Int)≥97)&&decide ((c.toNat:Int)≤122))&&(k==0 || !(decide ((c.toNat:Int)≥48)&&decide ((c.toNat:Int)≤57)||(c.toNat:Int)==95))
def nq(s:List UInt8):Bool:=decide (aE s<1)||decide (aE s>12)||s==[116,114,117,101]||s==[102,97,108,115,101]||s==[105,110]||s==[114,101]||s==[105,109]
variable(op:Int){k:Nat}(a:Int)(l:List Cell)(s:Str){c:UInt8}(Γ:Ctx)
theorem DF(hk:k≠0)(h:jN k c=true):l9 c=true:=by
 have hk':((k:Int)==0)=false:=by simp;omega
 simp only[jN,hk',bj,af,aK,bZ,al,decide_eq_false_iff_not,l9,aN,decide_eq_true_eq,bne_iff_ne,beq_eq_false_iff_ne]at *
 omega
theorem GU(h:jN k c=false):l9 c=false:=by
 cases hb:l9 c
 ·rfl
 · exfalso
   have h':jN k c=true:=by
    cases hk:((k:Int)==0) <;>
    simp only[jN,hk,bj,b9,dF,af,aK,bZ,al,decide_eq_false_iff_not,l9,aN,decide_eq_true_eq,bne_iff_ne,beq_eq_false_iff_ne]at * <;> omega
   rw[h]at h';cases h'
theorem Ki{s:List UInt8}(h:nq s=true):bk s=false:=by
 simp only[nq,aN,decide_eq_true_eq,beq_iff_eq]at h
 cases hn:bk s
 ·rfl
 · exfalso
   simp only[bk,lE,rI,af,aK,al,decide_eq_false_iff_not,beq_eq_false_iff_ne]at hn
   have hl:s=[]∨1≤aE s:=by cases s <;> simp[aE];omega
   rcases h with(((((h |h) |h) |h) |h) |h) |h
   · rcases hl with hl |hl
     ·exact hn.1.1.1.1.1 hl
     ·omega
   ·exact hn.1.1.1.1.2 h
   all_goals first |exact hn.2.1.1.1.1 h |exact hn.2.1.1.1.2 h |exact hn.2.1.1.2 h |exact hn.2.1.2 h |exact hn.2.2 h
abbrev zFd1:List PI:=[.code [1,1,0,1,0,0],.inLoop [1,1,0,1,0,0],.inBlock 0,.code [1,1,1]]
theorem yX (h0:nq s=false):∀(n k:Nat),s.length - k≤n→k≤s.length→(∀j,j<k→jN j (s.getD j 0)=false) →
 J Tryz.prog 46 (ar Tryz.f46) Γ (Eq2 (.x (.b (bk s))) []) zFd1 ({n:=76,fr:=[(0,.p (.str s)),(2,.p (.bool false)),(3,.i k)],ck:=[],kn:=[2]}):=by
 have hlen:s.length≤12∧1≤s.length:=by
  simp only[nq,al,decide_eq_false_iff_not,aE]at h0
  have h1:=of_decide_eq_false h0.1.1.1.1.1.1
  have h2:=of_decide_eq_false h0.1.1.1.1.1.2
  omega
 intro n
 induction n with
 |zero=>?_
 |succ n ih=>?_
 all_goals
  intro k hn hk hb
  refine jg aX Tryz.func46 (let x1:=(↑((List.getD s k (0:UInt8)).toNat):Int);let x2:=((0:Int)≤(k:Int)∧(k:Int)<aE s);.ite (decide ((k:Int)<aE s)) (.need x2 (.need (decide (x1≥97)=true→(0:Int)≤(k:Int)∧(k:Int)<aE s) (.need x2 (.need (decide (x1≥48)=true→(0:Int)≤(k:Int)∧(k:Int)<aE s) (.need ((decide (x1≥48)&&decide (x1≤57))=false→(0:Int)≤(k:Int)∧(k:Int)<aE s) (.ite (!(decide (x1≥97)&&decide (x1≤122))&&((k:Int)==0 || !(decide (x1≥48)&&decide (x1≤57)||x1==95))) (.ret (.p (.bool false)) []) (.stop zFd1 {n:=76,fr:=[(0,.p (.str s)),(2,.p (.bool false)),(3,.i (IntKind.wrap .i64 ((k:Int)+1)))],ck:=[],kn:=[2]}))))))) (.ret (.p (.bool true)) [])) ?_
  conv=>zeta
  have inb:decide ((k:Int)<aE s)=true→0≤(k:Int)∧(k:Int)<aE s:=fun h=>⟨by omega,of_decide_eq_true h⟩
  refine⟨fun hlt=>⟨inb hlt,fun _=>inb hlt,inb hlt,fun _=>inb hlt,fun _=>inb hlt,fun hbad=>⟨?_,rfl⟩,fun hok=>?_⟩,fun hge=>⟨?_,rfl⟩⟩
  · have hbad':jN k (s.getD k 0)=true:=hbad
    have hlt':=of_decide_eq_true hlt
    simp only[aE]at hlt'
    have e:bk s=false:=by
     by_cases hz:k=0
     · subst hz
       have:lE s=true:=by
        simp only[jN,af,aK,bZ,decide_eq_false_iff_not]at hbad'
        simp only[lE,aN,decide_eq_true_eq]
        omega
       simp[bk,this]
     ·simp[bk,AQ (by omega) (DF hz hbad')]
    rw[e]
  · have hok':jN k (s.getD k 0)=false:=hok
    have hlt':=of_decide_eq_true hlt
    simp only[aE]at hlt'
    first
    |(exfalso;omega)
    | (rw[aZ (by omega)]
       exact ih (k+1) (by omega) (by omega) fun j hj=>if e:j=k then by rw[e];exact hok' else hb j (by omega))
  · have hge':=of_decide_eq_false hge
    simp only[aE]at hge'
    have hany:s.any l9=false:=qY fun j hj=>GU (hb j (by omega))
    have h00:=hb 0 (by omega)
    simp only[jN,Int.ofNat_eq_natCast,bZ,dM,af,decide_eq_true_eq]at h00
    simp only[nq,al,decide_eq_false_iff_not]at h0
    have hne:(s==[])=false:=by cases s with |nil=>simp at hlen |cons=>rfl
    have hn0:lE s=false:=by
     simp only[lE,hne,bj,al,decide_eq_false_iff_not]
     rcases h00 with h |h
     ·refine⟨⟨by omega,by omega⟩,by omega⟩
     ·simp at h
    have hw5:rI s=false:=by simp[rI,h0]
    simp[bk,hany,hn0,hw5]
theorem yY:ah Tryz.prog 46 [.s s] [] (.x (.b (bk s))) []:=by
 refine dg aX Tryz.func46 (.ite (decide (aE s<(1:Int))||decide (aE s>(12:Int))||s==[116,114,117,101]||s==[102,97,108,115,101]||s==[105,110]||s==[114,101]||s==[105,109]) (.ret (.p (.bool false)) []) (.stop zFd1 {n:=76,fr:=[(0,.p (.str s)),(2,.p (.bool false)),(3,.i 0)],ck:=[],kn:=[2]})) fun Γ=>?_
 refine⟨fun h=>⟨?_,rfl⟩,fun h=>?_⟩
 ·rw[Ki h]
 ·exact yX s Γ h s.length 0 (by omega) (by omega) (fun j hj=>by omega)
def qu:Ent:=(46,fun
 |[.c (.pd (.str s))],[]=>some (none,.x (.c (.pd (.bool (bk s)))),[])
 |_,_=>none)
theorem oI:EntOk Tryz.prog qu:=entOk fun vs ck=>by
 unfold qu;dsimp only;split
 ·rename_i s;exact entS fun hp=>yY s
 ·exact entN
def IC:Cfg:=⟨aU,[qu]⟩
theorem ID:ag Tryz.prog IC.tab:=(ag.cons oI ag.nil)
theorem Du(s:List UInt8) :
 (bif (!((op==5||op==6)==decide (aE s>0))||(op==5||op==6) && !bk s || !(op==1||op==2)&&a != 0||decide (a<0))then(-1:Int)
  else bif (op==1&&decide (a>1099511627776)||op==2&&decide (a>1048576)||decide (op<1)||decide (op>23))then -1
  else bif decide (op≤6)then 0 else bif decide (op≤10)then 1 else 2)=cV op a s:=by
 have hs:decide (aE s>0) = !(s==[]):=by cases s <;> simp[aE]
 rw[hs]
 have hn:(s==[])=true→bk s=false:=by
  intro h;have:s=[]:=by simpa using h
  subst this;rfl
 unfold cV
 generalize hx:(s==[])=x at *
 generalize bk s=y at *
 by_cases h1:op=1
 · subst h1
   cases x <;> simp[cond_eq_ite] <;> (repeat' split) <;> omega
 · by_cases h2:op=2
   · subst h2
     cases x <;> simp[cond_eq_ite] <;> (repeat' split) <;> omega
   · by_cases h5:op=5
     · subst h5
       cases x <;> cases y <;> simp_all [cond_eq_ite] <;> (repeat' split) <;> omega
     · by_cases h6:op=6
       · subst h6
         cases x <;> cases y <;> simp_all [cond_eq_ite] <;> (repeat' split) <;> omega
       ·cases x <;> simp_all [cond_eq_ite] <;> (repeat' split) <;> omega
theorem yM:ah Tryz.prog 184 [.agg [.i op,.i a,.pd (.str s)]] [] (.x (.i (cV op a s))) []:=by
 rw[←Du]
 refine dg ID Tryz.func184 (.ite (!(op==(5:Int)||op==(6:Int))==decide (aE s>(0:Int))||(op==(5:Int)||op==(6:Int)) && !bk s || !(op==(1:Int)||op==(2:Int))&&a != (0:Int)||decide (a<(0:Int))) (.ret (.i (-1:Int)) []) (.ite (op==(1:Int)&&decide (a>(1099511627776:Int))||op==(2:Int)&&decide (a>(1048576:Int))||decide (op<(1:Int))||decide (op>(23:Int))) (.ret (.i (-1:Int)) []) (.ite (decide (op≤(6:Int))) (.ret (.i 0) []) (.ite (decide (op≤(10:Int))) (.ret (.i 1) []) (.ret (.i 2) []))))) fun Γ=>?_
 refine⟨fun h=>?_,fun h=>⟨fun h1=>?_,fun h1=>⟨fun h2=>?_,fun h2=>⟨fun h3=>?_,fun h3=>?_⟩⟩⟩⟩
 all_goals
  refine⟨?_,rfl⟩
  simp only[*,cond_true,cond_false]
def BN:Ent:=(184,fun
 |[.agg [.pd (.int .i64 op),.pd (.int .i64 a),.pd (.str s)]],[]=>some (none,.x (.c (.pd (.int .i64 (cV op a s)))),[])
 |_,_=>none)
theorem Ep:EntOk Tryz.prog BN:=entOk fun vs ck=>by
 unfold BN;dsimp only;split
 ·rename_i op a s;exact entS fun hp=>yM op a s
 ·exact entN
def uk:Cfg:=⟨aU,[BN]⟩
theorem qg:ag Tryz.prog uk.tab:=(ag.cons Ep ag.nil)
theorem wY:∀(n k:Nat) (m:Int),33 - k≤n→k≤l.length→k≤32→0≤m→m≤k →
 J Tryz.prog 116 (ar Tryz.f116) Γ (Eq2 (.x (.b (!decide ((l.length:Int)>32)&&cv (l.drop k) m))) []) zFd1 ({n:=34,fr:=[(0,.p (.lst .cell l)),(2,.p (.bool false)),(3,.i m),(4,.i k)],ck:=[],kn:=[2]}):=by
 intro n
 induction n with
 |zero=>intro k m h1 h2 h3;omega
 |succ n ih=>?_
 intro k m hn hk hk32 hm0 hm
 refine jg qg Tryz.func116 (let x1:=(Cell.name (ETy.get .cell l k));let x2:=(Cell.op (ETy.get .cell l k));let x3:=(Cell.a (ETy.get .cell l k));.ite (decide ((k:Int)<(l.length:Int))) (.need (inRg k l.length) (.ite (decide (cV x2 x3 x1<(0:Int))||decide (m<cV x2 x3 x1)||decide ((k:Int)≥32)) (.ret (.p (.bool false)) []) (.stop zFd1 {n:=34,fr:=[(0,.p (.lst .cell l)),(2,.p (.bool false)),(3,.i (IntKind.wrap .i64 (IntKind.wrap .i64 (m - cV x2 x3 x1)+(1:Int)))),(4,.i (IntKind.wrap .i64 ((k:Int)+1)))],ck:=[],kn:=[2]}))) (.ret (.p (.bool (m==(1:Int)))) [])) ?_
 conv=>zeta
 refine⟨fun hlt=>?_,fun hge=>⟨?_,rfl⟩⟩
 · have hk':k<l.length:=by have:=of_decide_eq_true hlt;omega
   refine⟨⟨by omega,by omega⟩,?_⟩
   rw[bx (t:=.cell) hk']
   generalize ETy.get .cell l k=c
   refine⟨fun h=>⟨?_,rfl⟩,fun h=>?_⟩
   · have h':(decide (aV c<0)||decide (m<aV c)||decide ((k:Int)≥32))=true:=h
     simp only[aN]at h'
     have e:(!decide ((l.length:Int)>32)&&cv (c::l.drop (k+1)) m)=false:=by
      rcases h' with h |h
      · have h':(decide (aV c<0)||decide (aV c>m))=true:=by
         rcases h with h |h
         ·rw[h];rfl
         · have:decide (aV c>m)=true:=h
           rw[this,Bool.or_true]
        simp only[cv,h',cond_true,df]
      · have:decide ((l.length:Int)>32)=true:=decide_eq_true (by have:=of_decide_eq_true h;omega)
        rw[this];rfl
     rw[e]
   · have h':(decide (aV c<0)||decide (m<aV c)||decide ((k:Int)≥32))=false:=h
     simp only[al]at h'
     have h1:=of_decide_eq_false h'.1.1
     have h2:=of_decide_eq_false h'.1.2
     have h3:=of_decide_eq_false h'.2
     show J Tryz.prog 116 (ar Tryz.f116) Γ _ zFd1 ({n:=34,fr:=[(0,.p (.lst .cell l)),(2,.p (.bool false)),(3,.i (IntKind.wrap .i64 (IntKind.wrap .i64 (m - aV c)+1))),(4,.i (IntKind.wrap .i64 ((k:Int)+1)))],ck:=[],kn:=[2]})
     have e1:IntKind.wrap IntKind.i64 (IntKind.wrap IntKind.i64 (m - aV c)+1)=m+(1 - aV c):=by
      rw[cg (n:=m - _) (by omega) (by omega),cg (by omega) (by omega)];omega
     have e2:cv (c::l.drop (k+1)) m=cv (l.drop (k+1)) (m+(1 - aV c)):=by
      have hb':(decide (aV c<0)||decide (aV c>m))=false:=by
       rw[al];exact⟨decide_eq_false h1,decide_eq_false (by omega)⟩
      simp only[cv,hb',cond_false]
     rw[e1,e2,aZ (by omega)]
     exact ih (k+1) (m+(1 - aV c)) (by omega) (by omega) (by omega) (by omega) (by omega)
 · have h2:=of_decide_eq_false hge
   rw[bS (by omega),cv,show decide ((l.length:Int)>32)=false from decide_eq_false (by omega)];rfl
theorem wZ:ah Tryz.prog 116 [.l .cell l] [] (.x (.b (dH l))) []:=by
 refine dg qg Tryz.func116 (.stop zFd1 {n:=34,fr:=[(0,.p (.lst .cell l)),(2,.p (.bool false)),(3,.i 0),(4,.i 0)],ck:=[],kn:=[2]}) fun Γ=>?_
 exact wY l Γ 33 0 0 (by omega) (by omega) (by omega) (by omega) (by omega)
def oJ:Ent:=(116,fun
 |[.c (.pd (.lst .cell l))],[]=>some (none,.x (.c (.pd (.bool (dH l)))),[])
 |_,_=>none)
theorem uU:EntOk Tryz.prog oJ:=entOk fun vs ck=>by
 unfold oJ;dsimp only;split
 ·rename_i l;exact entS fun hp=>wZ l
 ·exact entN
abbrev zJ186Fe:=J Tryz.prog 186 (ar Tryz.f186)
variable(vs:List Var)(s:Str)(l:List Cell)(c:Cell)(Γ:Ctx)
theorem Ol:aV c≤2:=by
 unfold aV cV
 simp only[cond_eq_ite]
 repeat' split
 all_goals omega
abbrev zFe2:List PI:=[.code [1,1,1,0,0],.inLoop [1,1,1,0,0],.inBlock 0]
theorem o9(hl:l.length≤32){e:Nat}(he:e<l.length)(m:Int)(h1:1≤m)(h2:m≤100){Q:Out}
 (hw:0≤aV l[e]) (hend:m - 1+aV l[e]=0→Q (.x (.i (e:Int))) [])
 (hgo:m - 1+aV l[e]≠0→zJ186Fe Γ Q zFe2 ({n:=21,fr:=[(0,.p (.lst .cell l)),(4,.i 0),(5,.i (m - 1+aV l[e])),(6,.i ((e:Int) - 1))],ck:=[]})) :
 zJ186Fe Γ Q zFe2 ({n:=21,fr:=[(0,.p (.lst .cell l)),(4,.i 0),(5,.i m),(6,.i ((e:Int)))],ck:=[]}):=by
 have hle:=Ol l[e]
 have hg:ETy.get .cell l e=l[e]:=ETy.get_eq (t:=.cell) (List.getElem?_eq_getElem he)
 refine jg qg Tryz.func186 (let x1:=(IntKind.wrap .i64 (m - (1:Int))+cV (Cell.op (ETy.get .cell l e)) (Cell.a (ETy.get .cell l e)) (Cell.name (ETy.get .cell l e)));.need (inRg e l.length) (.ite (IntKind.wrap .i64 x1==(0:Int)) (.ret (.i e) []) (.stop zFe2 {n:=21,fr:=[(0,.p (.lst .cell l)),(4,.i 0),(5,.i (IntKind.wrap .i64 x1)),(6,.i (IntKind.wrap .i64 ((e:Int) - 1)))],ck:=[]}))) ?_
 conv=>zeta
 rw[hg]
 generalize l[e]=c at *
 refine⟨⟨by omega,by omega⟩,?_⟩
 have e1:IntKind.wrap IntKind.i64 (IntKind.wrap IntKind.i64 (m - 1)+aV c)=m - 1+aV c:=by
  rw[cg (n:=m - 1) (by omega) (by omega),cg (by omega) (by omega)]
 have e2:IntKind.wrap IntKind.i64 ((e:Int) - 1)=(e:Int) - 1:=cg (by omega) (by omega)
 refine⟨fun h=>?_,fun h=>?_⟩
 · have h':(IntKind.wrap IntKind.i64 (IntKind.wrap IntKind.i64 (m - 1)+aV c)==0)=true:=h
   rw[e1]at h'
   exact hend (by simpa using h')
 · have h':(IntKind.wrap IntKind.i64 (IntKind.wrap IntKind.i64 (m - 1)+aV c)==0)=false:=h
   rw[e1]at h'
   show zJ186Fe Γ Q zFe2 ({n:=21,fr:=[(0,.p (.lst .cell l)),(4,.i 0),(5,.i (IntKind.wrap .i64 (IntKind.wrap .i64 (m - 1)+aV c))),(6,.i (IntKind.wrap .i64 ((e:Int) - 1)))],ck:=[]})
   rw[e1,e2]
   exact hgo (by simpa using h')
theorem pa(l:List Cell)(Γ:Ctx)(hl:l.length≤32){Q:Out} :
 ∀(t:Tm),t.ok→∀(pre post:List Cell) (m:Int),l=pre++t.flat++post→1≤m→m+(t.flat.length:Int)≤100→(m=1→Q (.x (.i (pre.length:Int))) []) →
  (m≠1→zJ186Fe Γ Q zFe2 ({n:=21,fr:=[(0,.p (.lst .cell l)),(4,.i 0),(5,.i (m - 1)),(6,.i ((pre.length:Int) - 1))],ck:=[]})) →
  zJ186Fe Γ Q zFe2 ({n:=21,fr:=[(0,.p (.lst .cell l)),(4,.i 0),(5,.i m),(6,.i (((pre.length:Int)+t.flat.length - 1)))],ck:=[]})
 | .leaf c,h,pre,post,m,hq,h1,h2,hend,hgo=>by
   have he:pre.length<l.length:=by rw[hq];simp[Tm.flat]
   have hc:l[pre.length]=c:=by
    have:l[pre.length]?=some c:=by rw[hq];simp[Tm.flat]
    rw[List.getElem?_eq_getElem he]at this;simpa using this
   have hw:aV c=0:=h
   have e1:(pre.length:Int)+((Tm.leaf c).flat.length:Int) - 1=(pre.length:Int):=by simp[Tm.flat]
   rw[e1]
   refine o9 l Γ hl he m h1 (by omega) (by rw[hc,hw];exact fA _) (fun h0=>hend (by rw[hc,hw]at h0;omega)) (fun h0=>?_)
   rw[hc,hw]at h0 ⊢
   have e2:m - 1+0=m - 1:=by omega
   rw[e2]
   exact hgo (by omega)
 | .un c t,⟨hw,ht⟩,pre,post,m,hq,h1,h2,hend,hgo=>by
   simp only[Tm.flat,au,ax,bJ]at h2 ⊢
   have hq2:l=pre++t.flat++([c]++post):=by rw[hq];simp[Tm.flat]
   have he:pre.length+t.flat.length<l.length:=by rw[hq2];simp
   have hc:l[pre.length+t.flat.length]=c:=by
    have:l[pre.length+t.flat.length]?=some c:=by rw[hq2,List.getElem?_append_right (by simp)];simp
    rw[List.getElem?_eq_getElem he]at this;simpa using this
   have e1:(pre.length:Int)+((t.flat.length+(0+1):Nat):Int) - 1=((pre.length+t.flat.length:Nat):Int):=by omega
   rw[e1]
   have htp:=t.flat_pos
   refine o9 l Γ hl he m h1 (by omega) (by rw[hc,hw];decide) (fun h0=>absurd h0 (by rw[hc,hw];omega)) (fun _=>?_)
   rw[hc,hw]
   have e2:m - 1+1=m:=by omega
   have e3:((pre.length+t.flat.length:Nat):Int) - 1=(pre.length:Int)+t.flat.length - 1:=by omega
   rw[e2,e3]
   exact pa l Γ hl t ht pre ([c]++post) m hq2 h1 (by omega) hend hgo
 | .bin c t u,⟨hw,ht,hu⟩,pre,post,m,hq,h1,h2,hend,hgo=>by
   simp only[Tm.flat,au,ax,bJ]at h2 ⊢
   have hq1:l=pre++t.flat++(u.flat++[c]++post):=by rw[hq];simp[Tm.flat]
   have hq2:l=(pre++t.flat)++u.flat++([c]++post):=by rw[hq];simp[Tm.flat]
   have he:pre.length+t.flat.length+u.flat.length<l.length:=by rw[hq2];simp;omega
   have hc:l[pre.length+t.flat.length+u.flat.length]=c:=by
    have hx:pre.length+t.flat.length+u.flat.length=(pre++t.flat++u.flat).length:=by simp[gG]
    have:l[pre.length+t.flat.length+u.flat.length]?=some c:=by rw[hx,hq2,List.getElem?_append_right (av _),eY];rfl
    rw[List.getElem?_eq_getElem he]at this;simpa using this
   have e1:(pre.length:Int)+((t.flat.length+u.flat.length+(0+1):Nat):Int) - 1=((pre.length+t.flat.length+u.flat.length:Nat):Int):=by omega
   rw[e1]
   have htp:=t.flat_pos
   have hup:=u.flat_pos
   refine o9 l Γ hl he m h1 (by omega) (by rw[hc,hw];decide) (fun h0=>absurd h0 (by rw[hc,hw];omega)) (fun _=>?_)
   rw[hc,hw]
   have e2:m - 1+2=m+1:=by omega
   have e3:((pre.length+t.flat.length+u.flat.length:Nat):Int) - 1=((pre++t.flat).length:Int)+u.flat.length - 1:=by simp only[au];omega
   rw[e2,e3]
   refine pa l Γ hl u hu (pre++t.flat) ([c]++post) (m+1) hq2 (by omega) (by omega) (fun h0=>absurd h0 (by omega)) (fun _=>?_)
   have e4:m+1 - 1=m:=by omega
   have e5:(((pre++t.flat).length:Nat):Int) - 1=(pre.length:Int)+t.flat.length - 1:=by simp
   rw[e4,e5]
   exact pa l Γ hl t ht pre (u.flat++[c]++post) m hq1 h1 (by omega) hend hgo
theorem E6(t:Tm)(ht:t.ok)(pre post:List Cell)(hq:l=pre++t.flat++post)(hl:l.length≤32) :
 ah Tryz.prog 186 [.l .cell l,.i ((pre.length:Int)+t.flat.length - 1)] [] (.x (.i (pre.length:Int))) []:=by
 generalize he:(pre.length:Int)+t.flat.length - 1=e
 refine dg aX Tryz.func186 (.stop zFe2 {n:=21,fr:=[(0,.p (.lst .cell l)),(4,.i 0),(5,.i 1),(6,.i e)],ck:=[]}) fun Γ=>?_
 rw[←he]
 exact pa l Γ hl t ht pre post 1 hq (by omega) (by
  have:l.length=pre.length+t.flat.length+post.length:=by rw[hq,au,au]
  omega) (fun _=>⟨rfl,rfl⟩) (fun h=>absurd rfl h)
abbrev zFe1:List PI:=[.code [1,0,1,0,0],.inLoop [1,0,1,0,0],.inBlock 0,.code [1,1]]
theorem Mg(l:List Str)(s:Str)(Γ:Ctx)(hl:l.length≤maxLen):∀(n k:Nat),l.length - k≤n→k≤l.length →
 J Tryz.prog 94 (ar Tryz.f94) Γ (Eq2 (.x (.b ((l.drop k).any fun x=>x==s))) []) zFe1 ({n:=18,fr:=[(0,.p (.lst .str l)),(1,.p (.str s)),(4,.p (.bool false)),(5,.i k)],ck:=[],kn:=[4]}):=by
 intro n
 induction n with
 |zero=>?_
 |succ n ih=>?_
 all_goals
  intro k hn hk
  refine jg aX Tryz.func94 (.ite (decide ((k:Int)<(l.length:Int))) (.need (inRg k l.length) (.ite (ETy.get .str l k==s) (.ret (.p (.bool true)) []) (.stop zFe1 {n:=18,fr:=[(0,.p (.lst .str l)),(1,.p (.str s)),(4,.p (.bool false)),(5,.i (IntKind.wrap .i64 ((k:Int)+1)))],ck:=[],kn:=[4]}))) (.ret (.p (.bool false)) [])) ?_
  refine⟨fun hlt=>?_,fun hge=>⟨?_,rfl⟩⟩
  · have hk':k<l.length:=by have:=of_decide_eq_true hlt;omega
    rw[bx (t:=.str) hk']
    refine⟨by omega,?_⟩
    generalize ETy.get .str l k=v
    refine⟨fun hb=>⟨?_,rfl⟩,fun hb=>?_⟩
    · have hb':(v==s)=true:=hb
      rw[cr,hb'];rfl
    · have hb':(v==s)=false:=hb
      rw[cr,hb',bj,aZ (aG hk' hl)]
      first
      |(exfalso;omega)
      |exact ih (k+1) (by omega) (by omega)
  ·rw[bS (by have:=of_decide_eq_false hge;omega)];rfl
theorem Mh(l:List Str)(s:Str):ah Tryz.prog 94 [.l .str l,.s s] [] (.x (.b (l.any fun x=>x==s))) []:=by
 refine dg aX Tryz.func94 (.stop zFe1 {n:=18,fr:=[(0,.p (.lst .str l)),(1,.p (.str s)),(4,.p (.bool false)),(5,.i 0)],ck:=[],kn:=[4]}) fun Γ=>?_
 exact J.len 0 rfl fun hl=>Mg l s Γ hl l.length 0 (by omega) (by omega)
def wq:Ent:=(94,fun
 |[.c (.pd (.lst .str l)),.c (.pd (.str s))],[]=>some (none,.x (.c (.pd (.bool (l.any fun x=>x==s)))),[])
 |_,_=>none)
theorem wt:EntOk Tryz.prog wq:=entOk fun vs ck=>by
 unfold wq;dsimp only;split
 ·rename_i l s;exact entS fun hp=>Mh l s
 ·exact entN
theorem Js(hl:vs.length≤maxLen):∀(n k:Nat),vs.length - k≤n→k≤vs.length →
 J Tryz.prog 95 (ar Tryz.f95) Γ (Eq2 (.x (.i (ay (fun v:Var=>v.name==s) (vs.drop k) k))) []) zFe1 ({n:=20,fr:=[(0,.p (.lst .var vs)),(1,.p (.str s)),(4,.i 0),(5,.i k)],ck:=[]}):=by
 intro n
 induction n with
 |zero=>?_
 |succ n ih=>?_
 all_goals
  intro k hn hk
  refine jg aX Tryz.func95 (.ite (decide ((k:Int)<(vs.length:Int))) (.need (inRg k vs.length) (.ite (Var.name (ETy.get .var vs k)==s) (.ret (.i k) []) (.stop zFe1 {n:=20,fr:=[(0,.p (.lst .var vs)),(1,.p (.str s)),(4,.i 0),(5,.i (IntKind.wrap .i64 ((k:Int)+1)))],ck:=[]}))) (.ret (.i (-1:Int)) [])) ?_
  refine⟨fun hlt=>?_,fun hge=>⟨?_,rfl⟩⟩
  · have hk':k<vs.length:=by have:=of_decide_eq_true hlt;omega
    rw[bx (t:=.var) hk']
    refine⟨by omega,?_⟩
    generalize ETy.get .var vs k=v
    refine⟨fun hb=>⟨?_,rfl⟩,fun hb=>?_⟩
    · have hb':(v.name==s)=true:=hb
      simp only[ay,hb',cond_true]
    · have hb':(v.name==s)=false:=hb
      simp only[ay,hb',cond_false]
      rw[aZ (aG hk' hl)]
      first
      |(exfalso;omega)
      |exact ih (k+1) (by omega) (by omega)
  ·rw[bS (by have:=of_decide_eq_false hge;omega)];rfl
theorem find_spec:ah Tryz.prog 95 [.l .var vs,.s s] [] (.x (.i (ay (fun v:Var=>v.name==s) vs 0))) []:=by
 refine dg aX Tryz.func95 (.stop zFe1 {n:=20,fr:=[(0,.p (.lst .var vs)),(1,.p (.str s)),(4,.i 0),(5,.i 0)],ck:=[]}) fun Γ=>?_
 exact J.len 0 rfl fun hl=>Js vs s Γ hl vs.length 0 (by omega) (by omega)
def uD:Ent:=(95,fun
 |[.c (.pd (.lst .var vs)),.c (.pd (.str s))],[]=>some (none,.x (.c (.pd (.int .i64 (ay (fun v:Var=>v.name==s) vs 0)))),[])
 |_,_=>none)
theorem BA:EntOk Tryz.prog uD:=entOk fun vs ck=>by
 unfold uD;dsimp only;split
 ·rename_i vs s;exact entS fun hp=>find_spec vs s
 ·exact entN
def OE:Cfg:=⟨aU,[uD,wq]⟩
theorem Lq:ag Tryz.prog OE.tab:=(ag.cons BA (ag.cons wt ag.nil))
theorem yW(vs:List Var)(ss:List Str):ah Tryz.prog 206 [.e .cell c,.l .var vs,.l .str ss] [] (cL (b6 c vs ss)) []:=by
 refine dg Lq Tryz.func206 (.ite (c.op==(1:Int)) (.ret (.tup [.i 1,.i 0]) []) (.ite (c.op==(2:Int)) (.ret (.tup [.i 3,.i 0]) []) (.ite (c.op==(5:Int)) (.ite (decide (ay (fun v=>v.name==c.name) vs (0:Int)<0)) (.ret (.tup [.i 0,.i 2]) []) (.need ((0:Int)≤ay (fun v=>v.name==c.name) vs (0:Int)∧ay (fun v=>v.name==c.name) vs (0:Int)<(vs.length:Int)) (.need (decide (Var.kind (ETy.get .var vs ((ay (fun v=>v.name==c.name) vs (0:Int)).toNat))<(1:Int))=false→(0:Int)≤ay (fun v=>v.name==c.name) vs (0:Int)∧ay (fun v=>v.name==c.name) vs (0:Int)<(vs.length:Int)) (.ite (decide (Var.kind (ETy.get .var vs ((ay (fun v=>v.name==c.name) vs (0:Int)).toNat))<(1:Int))||decide (Var.kind (ETy.get .var vs ((ay (fun v=>v.name==c.name) vs (0:Int)).toNat))>(3:Int))) (.ret (.tup [.i 0,.i 8]) []) (.need ((0:Int)≤ay (fun v=>v.name==c.name) vs (0:Int)∧ay (fun v=>v.name==c.name) vs (0:Int)<(vs.length:Int)) (.ret (.tup [.i (Var.kind (ETy.get .var vs ((ay (fun v=>v.name==c.name) vs (0:Int)).toNat))),.i 0]) [])))))) (.ite (c.op==(6:Int)) (.ite (!List.any ss fun x=>x==c.name) (.ret (.tup [.i 0,.i 2]) []) (.ret (.tup [.i 2,.i 0]) [])) (.ret (.tup [.i 2,.i 0]) []))))) fun Γ=>?_
 refine⟨fun h1=>⟨by simp only[b6,h1,cond_true,cL],rfl⟩,fun h1=>⟨fun h2=>⟨by simp only[b6,h1,h2,cond_true,cond_false,cL],rfl⟩,fun h2=>⟨fun h5=>?_,fun h5=>⟨fun h6=>⟨fun h=>⟨?_,rfl⟩,fun h=>⟨?_,rfl⟩⟩,fun h6=>⟨by simp only[b6,h1,h2,h5,h6,cond_false,cL],rfl⟩⟩⟩⟩⟩
 · rcases ij (fun v:Var=>v.name==c.name) vs 0 with⟨g1,g2⟩ |⟨k,x,g1,g2,g3⟩
   · simp only[dd]at g1
     rw[g1]
     exact⟨fun _=>⟨by simp only[b6,h1,h2,h5,ju,g2,cond_true,cond_false,cL],rfl⟩,fun h=>by simp at h⟩
   · simp only[dd,ba]at g1
     have hk:=(List.getElem?_eq_some_iff.1 g2).1
     rw[g1]
     have hkind:(decide (x.kind≥1)&&decide (x.kind≤3)) = !(decide (x.kind<1)||decide (x.kind>3)):=by
      rw[aT]
      simp only[af,decide_eq_true_eq,aK,al,decide_eq_false_iff_not]
      omega
     refine⟨fun h=>by have:=of_decide_eq_true h;omega,fun _=>⟨by omega,?_⟩⟩
     rw[ai,ETy.get_eq (t:=.var) g2]
     refine⟨fun _=>⟨by omega,by omega⟩,fun h=>⟨?_,rfl⟩,fun h=>⟨⟨by omega,by omega⟩,?_,rfl⟩⟩
     ·simp only[b6,h1,h2,h5,ju,g3,hkind,h,cq,cond_true,cond_false,cL]
     ·simp only[b6,h1,h2,h5,ju,g3,hkind,h,cI,cond_true,cond_false,cL]
 ·simp only[b6,h1,h2,h5,h6,h,cond_true,cond_false,cL]
 ·simp only[b6,h1,h2,h5,h6,h,cond_true,cond_false,cL]
def uS:Ent:=(206,fun
 |[.agg [.pd (.int .i64 a),.pd (.int .i64 b),.pd (.str d)],.c (.pd (.lst .var vs)),.c (.pd (.lst .str ss))],[]=>some (none,cL (b6 ⟨a,b,d⟩ vs ss),[])
 |_,_=>none)
theorem Je:EntOk Tryz.prog uS:=entOk fun vs ck=>by
 unfold uS;dsimp only;split
 ·rename_i a b d vs ss;exact entS fun hp=>yW ⟨a,b,d⟩ vs ss
 ·exact entN
theorem Do(op k:Int):ah Tryz.prog 207 [.i op,.i k] [] (cL (iP op k)) []:=by
 refine dg aX Tryz.func207 (let x1:Tree:=(.ret (.tup [.i 0,.i 8]) []);let x2:Tree:=(.ret (.tup [.i k,.i 0]) []);.ite (op==(16:Int)||op==(17:Int)) (.ret (.tup [.i 2,.i 0]) []) (.ite (op==(22:Int)||op==(23:Int)) (.ite (k==(2:Int)) x2 x1) (.ite (decide (op≥(18:Int))) (.ite (k==(1:Int)) (.ret (.tup [.i 2,.i 0]) []) x1) (.ite (decide (op≥(14:Int))) (.ite (k==(1:Int)) x2 x1) (.ite (k != (2:Int)) x2 x1))))) fun Γ=>?_
 conv=>zeta
 (repeat' (first |intro h |constructor)) <;> simp only[iP, *,cond_true,cond_false,cL]
def eJn:Ent:=(207,fun
 |[.c (.pd (.int .i64 op)),.c (.pd (.int .i64 k))],[]=>some (none,cL (iP op k),[])
 |_,_=>none)
theorem RG:EntOk Tryz.prog eJn:=entOk fun vs ck=>by
 unfold eJn;dsimp only;split
 ·rename_i op k;exact entS fun hp=>Do op k
 ·exact entN
end Go.Proofs.YtlhgnjmdopjpeaaGreatDoor

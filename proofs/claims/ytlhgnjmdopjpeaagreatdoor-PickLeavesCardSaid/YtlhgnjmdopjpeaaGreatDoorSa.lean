/- Contracts: the document's trees: parents, what is within, children, right trees, domains. Conditions: sizes. -/
import Derived.Test.YtlhgnjmdopjpeaaGreatDoorTd
namespace Go.Proofs.YtlhgnjmdopjpeaaGreatDoor
open Go Go.Ev
set_option maxRecDepth 100000
abbrev zJ50Sa:=J Tryz.prog 50 (aB Tryz.f50)
def gL(l:List Ev.Stat)(d:Int):Nat→Int
 |0=>-1
 |k+1=>if((ETy.get .stat l k).depth==d)=true then(k:Int)else gL l d k
variable(l:List Ev.Stat)(i r:Int)(j k:Nat)
def bw(i:Nat):Int:=gL l (IntKind.wrap .i64 ((ETy.get .stat l i).depth - 1)) i
def ji(l:List Ev.Stat)(i:Int):Nat→Int→Bool
 |0,_=>false
 |n+1,k=>if k<0 then false else if(k==i)=true then true else ji l i n (bw l k.toNat)
def eI:Bool:=ji l i (l.length+1) (bw l j)
def dq(n:Nat):List Int:=((List.range n).filter fun k=>bw l k==i&&decide ((ETy.get .stat l k).depth>0)).map fun k:Nat=>(k:Int)
def jw:Bool:=decide ((ETy.get .stat l k).kind<1)||decide ((ETy.get .stat l k).kind>6)||decide ((ETy.get .stat l k).depth<0)||decide ((ETy.get .stat l k).depth>5)||decide (0<k)&&decide ((ETy.get .stat l k).depth>IntKind.wrap .i64 ((ETy.get .stat l (k - 1)).depth+1))
def fH(l:List Ev.Stat):Nat→Nat→Int→Option Int
 |0,_,r=>some r
 |n+1,k,r=>if jw l k=true then none else if((ETy.get .stat l k).depth==0)=true then(if((ETy.get .stat l k).kind != 2)=true then none else fH l n (k+1) (IntKind.wrap .i64 (r+1)))else fH l n (k+1) r
def Gs:Option Int→Bool
 |none=>false
 |some r=>decide (r≤4)
def jz:Bool:=!(decide (l.length<1)||decide (l.length>40)||(ETy.get .stat l 0).depth != 0)&&Gs (fH l l.length 0 0)
def lA(i:Nat):Bool :=
 !(decide (bw l i≥0)&&(ETy.get .stat l (bw l i).toNat).kind != 2&&((ETy.get .stat l (bw l i).toNat).kind != 3||decide ((ETy.get .stat l i).kind>3)))&&(bif (ETy.get .stat l i).kind != 2&&(ETy.get .stat l i).kind != 3 then true else(dq l (i:Int) l.length).any fun y=>!a7 (ETy.get .stat l y.toNat).kind)
def ij(l:List Ev.Stat):Nat→Nat→Bool
 |0,_=>true
 |n+1,k=>lA l k&&ij l n (k+1)
def ig:Bool:=jz l&&ij l l.length 0
def lQ(l:List Ev.Stat)(j:Nat):Nat→Int→Int
 |0,_=>-1
 |n+1,k=>if k<0 then k else if((ETy.get .stat l k.toNat).kind==2&&eI l k j)=true then k else lQ l j n (bw l k.toNat)
def fG(i j:Nat):Int:=lQ l j (l.length+1) (i:Int)
theorem xQ(l:List Ev.Stat)(d:Int):∀k:Nat, -1≤gL l d k∧gL l d k<(k:Int)
 |0=>by rw[gL];omega
 | k+1=>by
   have:=xQ l d k
   rw[gL];split <;> omega
theorem mA : -1≤bw l k∧bw l k<(k:Int):=xQ _ _ _
theorem C6(k:Int):ag Tryz.prog 29 [.i k] [] (.x (.b (a7 k))) []:=by
 refine dg aV Tryz.func29 (.ret (.p (.bool (k==(5:Int)||k==(6:Int)))) []) fun Γ=>?_
 exact⟨rfl,rfl⟩
def lH:Ent:=(29,fun
 |[.c (.pd (.int .i64 k))],[]=>some (none,.x (.c (.pd (.bool (a7 k)))),[])
 |_,_=>none)
theorem lI:EntOk Tryz.prog lH:=entOk fun vs ck=>by
 unfold lH;dsimp only;split
 ·rename_i k;exact entS fun hp=>C6 k
 ·exact entN
abbrev zSa1:List PI:=[.code [1,1,0,1,0,0],.inLoop [1,1,0,1,0,0],.inBlock 0,.code [1,1,1]]
theorem Qh(i:Nat)(hi:i<l.length)(hl:l.length≤maxLen)(Γ:Ctx):∀n k:Nat,i - k≤n→k≤i →
 J Tryz.prog 40 (aB Tryz.f40) Γ (Eq2 (.x (.i (bw l i))) []) zSa1 ({n:=26,fr:=[(0,.p (.lst .stat l)),(1,.i i),(4,.i 0),(5,.i ((gL l (IntKind.wrap .i64 ((ETy.get .stat l i).depth - 1)) k))),(6,.i ((k:Int)))],ck:=[]}):=by
 intro n
 induction n with
 |zero=>?_
 |succ n ih=>?_
 all_goals
  intro k hn hk
  generalize hfd:gL l (IntKind.wrap .i64 ((ETy.get .stat l i).depth - 1)) k=fd
  refine jg aV Tryz.func40 (.ite (decide ((k:Int)<(i:Int))) (.need (inRg k l.length) (.need (inRg i l.length) (.ite (Stat.depth (ETy.get .stat l k)==IntKind.wrap .i64 (Stat.depth (ETy.get .stat l i) - (1:Int))) (.stop zSa1 {n:=26,fr:=[(0,.p (.lst .stat l)),(1,.i i),(4,.i 0),(5,.i k),(6,.i (IntKind.wrap .i64 ((k:Int)+1)))],ck:=[]}) (.stop zSa1 {n:=26,fr:=[(0,.p (.lst .stat l)),(1,.i i),(4,.i 0),(5,.i fd),(6,.i (IntKind.wrap .i64 ((k:Int)+1)))],ck:=[]})))) (.ret (.i fd) [])) ?_
  refine⟨fun hlt=>?_,fun hge=>?_⟩
  · have hk':k<i:=by have:=of_decide_eq_true hlt;omega
    have hw:=ba (aK (show k<l.length by omega) hl)
    refine⟨⟨by omega,by omega⟩,⟨by omega,by omega⟩,fun h=>?_,fun h=>?_⟩
    · have e:gL l (IntKind.wrap .i64 ((ETy.get .stat l i).depth - 1)) (k+1)=(k:Int):=by rw[gL,if_pos h]
      rw[hw,←e]
      first
      |(exfalso;omega)
      |exact ih (k+1) (by omega) (by omega)
    · have e:gL l (IntKind.wrap .i64 ((ETy.get .stat l i).depth - 1)) (k+1)=fd:=by rw[gL,if_neg (by rw[h];decide),hfd]
      rw[hw,←e]
      first
      |(exfalso;omega)
      |exact ih (k+1) (by omega) (by omega)
  · have hke:k=i:=by have:=of_decide_eq_false hge;omega
    subst hke
    refine⟨?_,rfl⟩
    rw[←hfd];rfl
theorem JH(h:0≤i∧i<(l.length:Int)∧l.length≤maxLen):ag Tryz.prog 40 [.l .stat l,.i i] [] (.x (.i (bw l i.toNat))) []:=by
 obtain⟨k,rfl⟩:=aF h.1
 rw[ai]
 have key:ag Tryz.prog 40 [.l .stat l,.i (k:Int)] [] (.x (.i (bw l k))) []:=by
  refine dg aV Tryz.func40 (.stop zSa1 {n:=26,fr:=[(0,.p (.lst .stat l)),(1,.i k),(4,.i 0),(5,.i (-1:Int)),(6,.i 0)],ck:=[]}) fun Γ=>?_
  exact Qh l k (by omega) h.2.2 Γ k 0 (by omega) (by omega)
 exact key
def pg:Ent:=(40,fun
 |[.c (.pd (.lst .stat l)),.c (.pd (.int .i64 i))],[]=>some (some (0≤i∧i<(l.length:Int)∧l.length≤maxLen),.x (.c (.pd (.int .i64 (bw l i.toNat)))),[])
 |_,_=>none)
theorem ph:EntOk Tryz.prog pg:=entOk fun vs ck=>by
 unfold pg;dsimp only;split
 ·rename_i l i;exact entS fun hp=>JH l i hp
 ·exact entN
def tR:Cfg:=⟨aX,[pg]⟩
theorem o4:ah Tryz.prog tR.tab:=(ah.cons ph ah.nil)
abbrev zSa6:List PI:=[.code [1,0,1,0,0],.inLoop [1,0,1,0,0],.inBlock 0,.code [1,1]]
theorem Ql(j:Nat)(hl:l.length≤maxLen)(Γ:Ctx):∀(n:Nat) (k:Int), -1≤k→k<(l.length:Int)→k+1<(n:Int) →
 J Tryz.prog 32 (aB Tryz.f32) Γ (Eq2 (.x (.b (ji l i n k))) []) zSa6 ({n:=19,fr:=[(0,.p (.lst .stat l)),(1,.i i),(6,.p (.bool false)),(7,.i k)],ck:=[],kn:=[6]}):=by
 intro n
 induction n with
 |zero=>intro k h1 h2 h3;omega
 | succ n ih =>
   intro k h1 h2 h3
   refine jg o4 Tryz.func32 (.ite (decide (k≥(0:Int))) (.ite (k==i) (.ret (.p (.bool true)) []) (.need ((0:Int)≤k∧k<(l.length:Int)∧l.length≤maxLen) (.stop zSa6 {n:=19,fr:=[(0,.p (.lst .stat l)),(1,.i i),(6,.p (.bool false)),(7,.i (bw l (Int.toNat k)))],ck:=[],kn:=[6]}))) (.ret (.p (.bool false)) [])) ?_
   refine⟨fun h=>⟨fun he=>?_,fun he=>?_⟩,fun h=>?_⟩
   · have hk:k≥0:=of_decide_eq_true h
     rw[ji,if_neg (by omega),if_pos he];exact⟨rfl,rfl⟩
   · have hk:k≥0:=of_decide_eq_true h
     have hp:=mA l k.toNat
     have e:((k.toNat:Nat):Int)=k:=fv hk
     refine⟨⟨hk,h2,hl⟩,?_⟩
     rw[ji,if_neg (by omega),if_neg (by rw[he];decide)]
     exact ih (bw l k.toNat) hp.1 (by omega) (by omega)
   · have hk:¬k≥0:=of_decide_eq_false h
     rw[ji,if_pos (by omega)];exact⟨rfl,rfl⟩
theorem JL(j:Int)(h:0≤j∧j<(l.length:Int)∧l.length≤maxLen):ag Tryz.prog 32 [.l .stat l,.i i,.i j] [] (.x (.b (eI l i j.toNat))) []:=by
 obtain⟨k,rfl⟩:=aF h.1
 rw[ai]
 have key:ag Tryz.prog 32 [.l .stat l,.i i,.i (k:Int)] [] (.x (.b (eI l i k))) []:=by
  refine dg o4 Tryz.func32 (.need ((0:Int)≤(k:Int)∧(k:Int)<(l.length:Int)∧l.length≤maxLen) (.stop zSa6 {n:=19,fr:=[(0,.p (.lst .stat l)),(1,.i i),(6,.p (.bool false)),(7,.i (bw l k))],ck:=[],kn:=[6]})) fun Γ=>?_
  have hp:=mA l k
  exact⟨h,Ql l i k h.2.2 Γ (l.length+1) (bw l k) hp.1 (by omega) (by omega)⟩
 exact key
def rS:Ent:=(32,fun
 |[.c (.pd (.lst .stat l)),.c (.pd (.int .i64 i)),.c (.pd (.int .i64 j))],[]=>some (some (0≤j∧j<(l.length:Int)∧l.length≤maxLen),.x (.c (.pd (.bool (eI l i j.toNat)))),[])
 |_,_=>none)
theorem ta:EntOk Tryz.prog rS:=entOk fun vs ck=>by
 unfold rS;dsimp only;split
 ·rename_i l i j;exact entS fun hp=>JL l i j hp
 ·exact entN
theorem Gr:dq l i (k+1)=if(bw l k==i&&decide ((ETy.get .stat l k).depth>0))=true then dq l i k++[(k:Int)]else dq l i k:=by
 unfold dq
 rw[List.range_succ,ct,bF]
 cases h:(bw l k==i&&decide ((ETy.get .stat l k).depth>0)) <;> simp[h]
theorem tD:(dq l i k).length≤k:=by
 unfold dq
 rw[aQ]
 exact aC (bb _ _) (by simp)
theorem BT{k:Nat}{y:Int}(h:y∈dq l i k):0≤y∧y<(k:Int):=by
 unfold dq at h
 obtain⟨m,hm,rfl⟩:=aL.1 h
 have:=bB.1 (az.1 hm).1
 omega
theorem Qe(hl:l.length≤1466015503701)(Γ:Ctx):∀(n k:Nat),l.length - k≤n→k≤l.length →
 J Tryz.prog 28 (aB Tryz.f28) Γ (Eq2 (.x (.c (.own 0))) [.own 3 .int (dq l i l.length)]) zSa1 ({n:=31,fr:=[(0,.p (.lst .stat l)),(1,.i i),(4,.p (.v (Value.slice none 0 0))),(5,.x (.c (.own 0))),(6,.i ((k:Int)))],ck:=[.own 3 .int (dq l i k)]}):=by
 have hm:l.length≤maxLen:=aC hl (by decide)
 intro n
 induction n with
 |zero=>?_
 |succ n ih=>?_
 all_goals
  intro k hn hk
  generalize hout:dq l i k=out
  refine jg o4 Tryz.func28 (let x1:List (Nat×SV):=[(0,.p (.lst .stat l)),(1,.i i),(4,.p (.v (Value.slice none 0 0))),(5,.x (.c (.own 0))),(6,.i (IntKind.wrap .i64 ((k:Int)+1)))];let x2:List PI:=zSa1;.ite (decide ((k:Int)<(l.length:Int))) (.need ((0:Int)≤(k:Int)∧(k:Int)<(l.length:Int)∧l.length≤maxLen) (.need ((bw l k==i)=true→(0:Int)≤(k:Int)∧(k:Int)<(l.length:Int)) (.ite (bw l k==i&&decide (Stat.depth (ETy.get .stat l k)>(0:Int))) (.need (room ((out++[(k:Int)]).length) 8) (.stop x2 {n:=31,fr:=x1,ck:=[.own 3 .int (out++[(k:Int)])]})) (.stop x2 {n:=31,fr:=x1,ck:=[.own 3 .int out]})))) (.ret (.x (.c (.own 0))) [.own 3 .int out])) ?_
  conv=>zeta
  have hs:=Gr l i k
  rw[hout]at hs
  refine⟨fun hlt=>?_,fun hge=>?_⟩
  · have hk':k<l.length:=by have:=of_decide_eq_true hlt;omega
    refine⟨⟨by omega,by omega,hm⟩,fun _=>⟨by omega,by omega⟩,fun h=>?_,fun h=>?_⟩
    · rw[if_pos h]at hs
      have hle:=tD l i (k+1)
      rw[hs]at hle
      refine⟨⟨by omega,by unfold maxLen;omega⟩,?_⟩
      rw[ba (aK hk' hm),←hs]
      first
      |(exfalso;omega)
      |exact ih (k+1) (by omega) (by omega)
    · rw[if_neg (by rw[h];decide)]at hs
      rw[ba (aK hk' hm),←hs]
      first
      |(exfalso;omega)
      |exact ih (k+1) (by omega) (by omega)
  · have hke:k=l.length:=by have:=of_decide_eq_false hge;omega
    subst hke
    rw[hout];exact⟨rfl,rfl⟩
theorem Gq(hl:l.length≤1466015503701):ag Tryz.prog 28 [.l .stat l,.i i] [] (.x (.c (.own 0))) [.own 3 .int (dq l i l.length)]:=by
 refine dg o4 Tryz.func28 (.stop zSa1 {n:=31,fr:=[(0,.p (.lst .stat l)),(1,.i i),(4,.p (.v (Value.slice none 0 0))),(5,.p (.v (Value.slice none 0 0))),(6,.i 0)],ck:=[]}) fun Γ=>?_
 refine J.nilOwn 5 3 .int rfl (by kernel_rfl) ?_
 exact Qe l i hl Γ l.length 0 (by omega) (by omega)
def qj:Ent:=(28,fun
 |[.c (.pd (.lst .stat l)),.c (.pd (.int .i64 i))],[]=>some (some (l.length≤1466015503701),.x (.c (.own 0)),[.own 3 .int (dq l i l.length)])
 |_,_=>none)
theorem xr:EntOk Tryz.prog qj:=entOk fun vs ck=>by
 unfold qj;dsimp only;split
 ·rename_i l i;exact entS fun hp=>Gq l i hp
 ·exact entN
def tS:Cfg:=⟨aX,[pg,qj,lH]⟩
theorem o5:ah Tryz.prog tS.tab:=(ah.cons ph (ah.cons xr (ah.cons lI ah.nil)))
theorem P6(hk:k<9223372036854775807):(decide ((ETy.get .stat l k).kind<1)||decide ((ETy.get .stat l k).kind>6)||decide ((ETy.get .stat l k).depth<0)||decide ((ETy.get .stat l k).depth>5)||decide ((k:Int)>0)&&decide ((ETy.get .stat l k).depth>IntKind.wrap .i64 ((ETy.get .stat l (IntKind.wrap .i64 ((k:Int) - 1)).toNat).depth+1)))=jw l k:=by
 unfold jw
 congr 1
 by_cases h0:0<k
 · have e:(IntKind.wrap .i64 ((k:Int) - 1)).toNat=k - 1:=by rw[cj (by omega) (by omega)];omega
   rw[e,decide_eq_true h0,decide_eq_true (show(k:Int)>0 by omega)]
 ·rw[decide_eq_false h0,decide_eq_false (show ¬(k:Int)>0 by omega),bq,bq]
theorem Oe{b:Bool}{i:Int}(h:(decide (i≥0)&&b)=true):0≤i:=by
 rw[af]at h;exact of_decide_eq_true h.1
abbrev zSa2:List PI:=[.code [1,1,1,1,0,1,0,0,1,0,0,1,1,1,1,1,0,1,0,0],.inLoop [1,1,1,1,0,1,0,0,1,0,0,1,1,1,1,1,0,1,0,0],.inBlock 4,.code [1,1,1,1,0,1,0,0,1,0,0,1,1,1,1,1,1],.inBlock 3,.code [1,1,1,1,0,1,0,0,1,1],.inLoop [1,1,1,1,0,1,0,0],.inBlock 2,.code [1,1,1,1,1]]
abbrev zSa3:List PI:=[.code [1,1,1,1,0,1,0,0],.inLoop [1,1,1,1,0,1,0,0],.inBlock 2,.code [1,1,1,1,1]]
theorem MT(ks:List Int)(hks:∀y∈ks,0≤y∧y<(l.length:Int))(hlen:ks.length≤maxLen)(Γ:Ctx)(res:Bool):∀(n j:Nat) (b:Bool),ks.length - j≤n→j≤ks.length →
 ((b||(ks.drop j).any fun y=>!a7 (ETy.get .stat l y.toNat).kind)=true→zJ50Sa Γ (Eq2 (.x (.b res)) []) zSa3 ({n:=158,fr:=[(0,.p (.lst .stat l)),(2,.p (.bool false)),(3,.i r),(6,.i ((IntKind.wrap .i64 ((k:Int)+1))))],ck:=[],kn:=[2]}))→((b||(ks.drop j).any fun y=>!a7 (ETy.get .stat l y.toNat).kind)=false→res=false) →
 zJ50Sa Γ (Eq2 (.x (.b res)) []) zSa2 ({n:=158,fr:=[(0,.p (.lst .stat l)),(2,.p (.bool false)),(3,.i r),(6,.i k),(8,.p (.bool b)),(9,.x (.c (.own 0))),(10,.i ((j:Int)))],ck:=[.own 3 .int ks],kn:=[2]}):=by
 intro n
 induction n with
 |zero=>?_
 |succ n ih=>?_
 all_goals
  intro j b hn hj h1 h0
  refine jg o5 Tryz.func50 (.ite (decide ((j:Int)<(ks.length:Int))) (.need (b=false→(0:Int)≤(j:Int)∧(j:Int)<(ks.length:Int)) (.need (b=false→j<ks.length) (.need (b=false→(0:Int)≤ETy.get .int ks j∧ETy.get .int ks j<(l.length:Int)) (.stop zSa2 {n:=158,fr:=[(0,.p (.lst .stat l)),(2,.p (.bool false)),(3,.i r),(6,.i k),(8,.p (.bool (b || !a7 (Stat.kind (ETy.get .stat l ((ETy.get .int ks j).toNat)))))),(9,.x (.c (.own 0))),(10,.i (IntKind.wrap .i64 ((j:Int)+1)))],ck:=[.own 3 .int ks],kn:=[2]})))) (.ite (!b) (.ret (.p (.bool false)) []) (.stop zSa3 {n:=158,fr:=[(0,.p (.lst .stat l)),(2,.p (.bool false)),(3,.i r),(6,.i (IntKind.wrap .i64 ((k:Int)+1)))],ck:=[],kn:=[2]}))) ?_
  refine⟨fun hlt=>?_,fun hge=>?_⟩
  · have hj':j<ks.length:=by have:=of_decide_eq_true hlt;omega
    have hy:=hks (ETy.get .int ks j) (by rw[ETy.get_eq (t:=.int) (List.getElem?_eq_getElem hj')];exact bx hj')
    refine⟨fun _=>⟨by omega,by omega⟩,fun _=>hj',fun _=>hy,?_⟩
    rw[ba (aK hj' hlen)]
    have ed:ks.drop j=ETy.get .int ks j::ks.drop (j+1):=bK (t:=.int) (l:=ks) hj'
    rw[ed,cM,←Bool.or_assoc]at h1 h0
    first
    |(exfalso;omega)
    |exact ih (j+1) _ (by omega) (by omega) h1 h0
  · have hje:ks.drop j=[]:=bZ (by have:=of_decide_eq_false hge;omega)
    rw[hje,List.any_nil,bS]at h1 h0
    refine⟨fun hb=>?_,fun hb=>?_⟩
    ·rw[h0 (by simpa using hb)];exact⟨rfl,rfl⟩
    ·exact h1 (by simpa using hb)
theorem MS (hl:l.length≤1466015503701) (Γ:Ctx):∀n k:Nat,l.length - k=n→k≤l.length →
 zJ50Sa Γ (Eq2 (.x (.b (ij l n k&&decide (r≤4)))) []) zSa3 ({n:=158,fr:=[(0,.p (.lst .stat l)),(2,.p (.bool false)),(3,.i r),(6,.i ((k:Int)))],ck:=[],kn:=[2]}):=by
 have hm:l.length≤maxLen:=aC hl (by decide)
 intro n
 induction n with
 |zero=>?_
 |succ n ih=>?_
 all_goals
  intro k hn hk
  refine jg o5 Tryz.func50 (let x1:=(ETy.get .stat l ((bw l k).toNat));let x2:=(bw l k≥(0:Int));let x3:List Nat:=[1,1,1,1,0,1,0,0,1,0,0,1,1,1,1,1,0,1,0,0];let x4:=(decide x2&&Stat.kind x1 != (2:Int));let x5:List Nat:=[1,1,1,1,0,1,0,0];.ite (decide ((k:Int)<(l.length:Int))) (.need ((0:Int)≤(k:Int)∧(k:Int)<(l.length:Int)∧l.length≤maxLen) (.need (decide x2=true→(0:Int)≤bw l k∧bw l k<(l.length:Int)) (.need (x4=true→(0:Int)≤bw l k∧bw l k<(l.length:Int)) (.need (x4=true∧(Stat.kind x1 != (3:Int))=false→(0:Int)≤(k:Int)∧(k:Int)<(l.length:Int)) (.ite (decide x2&&Stat.kind x1 != (2:Int)&&(Stat.kind x1 != (3:Int)||decide (Stat.kind (ETy.get .stat l k)>(3:Int)))) (.ret (.p (.bool false)) []) (.need (inRg k l.length) (.need ((Stat.kind (ETy.get .stat l k) != (2:Int))=true→(0:Int)≤(k:Int)∧(k:Int)<(l.length:Int)) (.ite (Stat.kind (ETy.get .stat l k) != (2:Int)&&Stat.kind (ETy.get .stat l k) != (3:Int)) (.stop [.code x5,.inLoop x5,.inBlock 2,.code [1,1,1,1,1]] {n:=158,fr:=[(0,.p (.lst .stat l)),(2,.p (.bool false)),(3,.i r),(6,.i (IntKind.wrap .i64 ((k:Int)+1)))],ck:=[],kn:=[2]}) (.need (l.length≤1466015503701) (.stop [.code x3,.inLoop x3,.inBlock 4,.code [1,1,1,1,0,1,0,0,1,0,0,1,1,1,1,1,1],.inBlock 3,.code [1,1,1,1,0,1,0,0,1,1],.inLoop x5,.inBlock 2,.code [1,1,1,1,1]] {n:=158,fr:=[(0,.p (.lst .stat l)),(2,.p (.bool false)),(3,.i r),(6,.i k),(8,.p (.bool false)),(9,.x (.c (.own 0))),(10,.i 0)],ck:=[.own 3 .int (dq l (k:Int) l.length)],kn:=[8,2]})))))))))) (.ret (.p (.bool (decide (r≤(4:Int))))) [])) ?_
  conv=>zeta
  refine⟨fun hlt=>?_,fun hge=>?_⟩
  · have hk':k<l.length:=by have:=of_decide_eq_true hlt;omega
    have hp:=mA l k
    refine⟨⟨by omega,by omega,hm⟩,fun h=>⟨of_decide_eq_true h,by omega⟩,fun h=>⟨Oe h,by omega⟩,fun _=>⟨by omega,by omega⟩,fun hb=>?_,fun hb=>⟨⟨by omega,by omega⟩,fun _=>⟨by omega,by omega⟩,fun hs=>?_,fun hs=>⟨hl,?_⟩⟩⟩
    · have e:lA l k=false:=by unfold lA;rw[hb];rfl
      first
      |(exfalso;omega)
      |(rw[ij,e];exact⟨rfl,rfl⟩)
    · have e:lA l k=true:=by unfold lA;rw[hb,hs];rfl
      rw[ba (aK hk' hm)]
      first
      |(exfalso;omega)
      |(rw[ij,e,a6];exact ih (k+1) (by omega) (by omega))
    · have e:lA l k=(dq l (k:Int) l.length).any fun y=>!a7 (ETy.get .stat l y.toNat).kind:=by unfold lA;rw[hb,hs];rfl
      refine J.kn [2] (MT l r k _ (fun y hy=>BT l k hy) (aC (tD l k l.length) hm) Γ _ (dq l k l.length).length 0 false (by omega) (by omega) (fun h=>?_) (fun h=>?_))
      · rw[eg,bk,←e]at h
        rw[ba (aK hk' hm)]
        first
        |(exfalso;omega)
        |(rw[ij,h,a6];exact ih (k+1) (by omega) (by omega))
      · rw[eg,bk,←e]at h
        first
        |(exfalso;omega)
        |(rw[ij,h];rfl)
  · have:=of_decide_eq_false hge
    first
    |(exfalso;omega)
    |exact⟨rfl,rfl⟩
def BV:Option Int→Bool
 |none=>false
 |some q=>ij l l.length 0&&decide (q≤4)
abbrev zSa4:List PI:=[.code [1,1,1,0,1,0,0],.inLoop [1,1,1,0,1,0,0],.inBlock 0,.code [1,1,1,1]]
theorem MR(hl:l.length≤1466015503701)(Γ:Ctx):∀(n k:Nat) (r:Int),l.length - k=n→k≤l.length →
 zJ50Sa Γ (Eq2 (.x (.b (BV l (fH l n k r)))) []) zSa4 ({n:=158,fr:=[(0,.p (.lst .stat l)),(2,.p (.bool false)),(3,.i r),(4,.i ((k:Int)))],ck:=[],kn:=[2]}):=by
 have hm:l.length≤maxLen:=aC hl (by decide)
 intro n
 induction n with
 |zero=>?_
 |succ n ih=>?_
 all_goals
  intro k r hn hk
  refine jg o5 Tryz.func50 (let x1:=(Stat.depth (ETy.get .stat l k)==(0:Int)&&Stat.kind (ETy.get .stat l k) != (2:Int));let x2:List PI:=zSa4;let x3:Tree:=(.ret (.p (.bool false)) []);let x4:=(Stat.depth (ETy.get .stat l k)<(0:Int));let x5:=(Stat.depth (ETy.get .stat l k)>(5:Int));let x6:=(Stat.kind (ETy.get .stat l k)<(1:Int));let x7:=(Stat.kind (ETy.get .stat l k)>(6:Int));let x8:=(IntKind.wrap .i64 ((k:Int)+1));.ite (decide ((k:Int)<(l.length:Int))) (.need (inRg k l.length) (.need ((((21,57,true,gC true (decide ((k:Int)>0)) (some (18,54,false,gC false (decide x6||decide x7||decide x4||decide x5) none))).2).2).2→(0:Int)≤IntKind.wrap .i64 ((k:Int) - 1)∧IntKind.wrap .i64 ((k:Int) - 1)<(l.length:Int)) (.ite (decide x6||decide x7||decide x4||decide x5||decide ((k:Int)>0)&&decide (Stat.depth (ETy.get .stat l k)>IntKind.wrap .i64 (Stat.depth (ETy.get .stat l ((IntKind.wrap .i64 ((k:Int) - 1)).toNat))+(1:Int)))) x3 (.ite (Stat.depth (ETy.get .stat l k)==(0:Int)) (.ite x1 x3 (.stop x2 {n:=158,fr:=[(0,.p (.lst .stat l)),(2,.p (.bool false)),(3,.i (IntKind.wrap .i64 (r+(1:Int)))),(4,.i x8)],ck:=[]})) (.ite x1 x3 (.stop x2 {n:=158,fr:=[(0,.p (.lst .stat l)),(2,.p (.bool false)),(3,.i r),(4,.i x8)],ck:=[]})))))) (.stop zSa3 {n:=158,fr:=[(0,.p (.lst .stat l)),(2,.p (.bool false)),(3,.i r),(6,.i 0)],ck:=[],kn:=[2]})) ?_
  conv=>zeta
  refine⟨fun hlt=>?_,fun hge=>?_⟩
  · have hk':k<l.length:=by have:=of_decide_eq_true hlt;omega
    have hmx:=aK hk' hm
    have hbe:=P6 l k hmx
    rw[ba hmx]
    refine⟨⟨by omega,by omega⟩,fun h=>?_,fun hb=>?_,fun hb=>⟨fun h0=>⟨fun h2=>?_,fun h2=>?_⟩,fun h0=>⟨fun h2=>?_,fun h2=>?_⟩⟩⟩
    · have h1:decide ((k:Int)>0)=true:=h.2
      have:=of_decide_eq_true h1
      rw[cj (by omega) (by omega)];omega
    · have hb':jw l k=true:=by rw[←hbe];exact hb
      first
      |(exfalso;omega)
      |(rw[fH,if_pos hb'];exact⟨rfl,rfl⟩)
    · have hb':jw l k=false:=by rw[←hbe];exact hb
      rw[h0,a6]at h2
      first
      |(exfalso;omega)
      |(rw[fH,if_neg (by rw[hb'];decide),if_pos h0,if_pos h2];exact⟨rfl,rfl⟩)
    · have hb':jw l k=false:=by rw[←hbe];exact hb
      rw[h0,a6]at h2
      first
      |(exfalso;omega)
      |(rw[fH,if_neg (by rw[hb'];decide),if_pos h0,if_neg (by rw[h2];decide)];exact J.kn [2] (ih (k+1) _ (by omega) (by omega)))
    ·rw[h0,bq]at h2;cases h2
    · have hb':jw l k=false:=by rw[←hbe];exact hb
      first
      |(exfalso;omega)
      |(rw[fH,if_neg (by rw[hb'];decide),if_neg (by rw[h0];decide)];exact J.kn [2] (ih (k+1) _ (by omega) (by omega)))
  · have:=of_decide_eq_false hge
    first
    |(exfalso;omega)
    |exact MS l r hl Γ l.length 0 (by omega) (aP _)
theorem C4(hl:l.length≤1466015503701):ag Tryz.prog 50 [.l .stat l] [] (.x (.b (ig l))) []:=by
 have eh:(decide ((l.length:Int)<1)||decide ((l.length:Int)>40)||(ETy.get .stat l 0).depth != 0)=(decide (l.length<1)||decide (l.length>40)||(ETy.get .stat l 0).depth != 0):=by
  rw[decide_eq_decide.2 (show(l.length:Int)<1↔l.length<1 by omega),decide_eq_decide.2 (show(l.length:Int)>40↔l.length>40 by omega)]
 refine dg o5 Tryz.func50 (.need ((decide ((l.length:Int)<1)||decide ((l.length:Int)>40))=false→(0:Int)≤0∧(0:Int)<(l.length:Int)) (.ite (decide ((l.length:Int)<1)||decide ((l.length:Int)>40)||Stat.depth (ETy.get .stat l 0) != (0:Int)) (.ret (.p (.bool false)) []) (.stop zSa4 {n:=158,fr:=[(0,.p (.lst .stat l)),(2,.p (.bool false)),(3,.i 0),(4,.i 0)],ck:=[],kn:=[2]}))) fun Γ=>?_
 refine⟨fun h=>⟨by omega,?_⟩,fun h=>?_,fun h=>?_⟩
 · rw[an]at h
   have:=of_decide_eq_false h.1
   omega
 · have h':=eh.symm.trans h
   unfold ig jz;rw[h'];exact⟨rfl,rfl⟩
 · have h':=eh.symm.trans h
   have e:ig l=BV l (fH l l.length 0 0):=by
    unfold ig jz;rw[h',cD,a6]
    cases fH l l.length 0 0 with
    |none=>rfl
    |some q=>unfold Gs BV;simp only;rw[Bool.and_comm]
   rw[e]
   exact MR l hl Γ l.length 0 0 (by omega) (aP _)
def Fi:Ent:=(50,fun
 |[.c (.pd (.lst .stat l))],[]=>some (some (l.length≤1466015503701),.x (.c (.pd (.bool (ig l)))),[])
 |_,_=>none)
theorem OX:EntOk Tryz.prog Fi:=entOk fun vs ck=>by
 unfold Fi;dsimp only;split
 ·rename_i l;exact entS fun hp=>C4 l hp
 ·exact entN
def Ex:Cfg:=⟨aX,[pg,rS]⟩
theorem AO:ah Tryz.prog Ex.tab:=(ah.cons ph (ah.cons ta ah.nil))
abbrev zSa5:List PI:=[.code [1,1,0,0,0],.inLoop [1,1,0,0,0],.inBlock 0,.code [1,1,1]]
theorem P9(hj:j<l.length)(hl:l.length≤maxLen)(Γ:Ctx):∀(n:Nat) (k:Int), -1≤k→k<(l.length:Int)→k+1<(n:Int) →
 J Tryz.prog 30 (aB Tryz.f30) Γ (Eq2 (.x (.i (lQ l j n k))) []) zSa5 ({n:=30,fr:=[(0,.p (.lst .stat l)),(2,.i j),(6,.i 0),(7,.i k)],ck:=[]}):=by
 intro n
 induction n with
 |zero=>intro k h1 h2 h3;omega
 | succ n ih =>
   intro k h1 h2 h3
   refine jg AO Tryz.func30 (.need (decide (k≥(0:Int))=true→(0:Int)≤k∧k<(l.length:Int)) (.need (decide (k≥(0:Int))=true∧(Stat.kind (ETy.get .stat l (Int.toNat k))==(2:Int))=true→(0:Int)≤(j:Int)∧(j:Int)<(l.length:Int)∧l.length≤maxLen) (.ite (decide (k≥(0:Int)) && !(Stat.kind (ETy.get .stat l (Int.toNat k))==(2:Int)&&eI l k j)) (.need ((0:Int)≤k∧k<(l.length:Int)∧l.length≤maxLen) (.stop zSa5 {n:=30,fr:=[(0,.p (.lst .stat l)),(2,.i j),(6,.i 0),(7,.i (bw l (Int.toNat k)))],ck:=[]})) (.ret (.i k) [])))) ?_
   refine⟨fun h=>⟨of_decide_eq_true h,h2⟩,fun h=>⟨by omega,by omega,hl⟩,fun h=>?_,fun h=>?_⟩
   · rw[af]at h
     have hk:k≥0:=of_decide_eq_true h.1
     have hp:=mA l k.toNat
     have e:((k.toNat:Nat):Int)=k:=fv hk
     refine⟨⟨hk,h2,hl⟩,?_⟩
     have hc:((ETy.get .stat l k.toNat).kind==2&&eI l k j)=false:=by
      have h4:=h.2
      cases hx:((ETy.get .stat l k.toNat).kind==2&&eI l k j)
      ·rfl
      ·rw[hx]at h4;cases h4
     rw[lQ,if_neg (by omega),if_neg (by rw[hc];decide)]
     exact ih (bw l k.toNat) hp.1 (by omega) (by omega)
   · by_cases hk:k<0
     ·rw[lQ,if_pos hk];exact⟨rfl,rfl⟩
     · rw[decide_eq_true (show k≥0 by omega),a6]at h
       have hc:((ETy.get .stat l k.toNat).kind==2&&eI l k j)=true:=by simpa using h
       rw[lQ,if_neg hk,if_pos hc];exact⟨rfl,rfl⟩
theorem MG(i j:Nat)(hi:i<l.length)(hj:j<l.length)(hl:l.length≤maxLen):ag Tryz.prog 30 [.l .stat l,.i (i:Int),.i (j:Int)] [] (.x (.i (fG l i j))) []:=by
 refine dg AO Tryz.func30 (.stop zSa5 {n:=30,fr:=[(0,.p (.lst .stat l)),(2,.i j),(6,.i 0),(7,.i i)],ck:=[]}) fun Γ=>?_
 exact P9 l j hj hl Γ (l.length+1) (i:Int) (by omega) (by omega) (by omega)
theorem Jv(j:Int)(h:0≤i∧i<(l.length:Int)∧0≤j∧j<(l.length:Int)∧l.length≤maxLen):ag Tryz.prog 30 [.l .stat l,.i i,.i j] [] (.x (.i (fG l i.toNat j.toNat))) []:=by
 obtain⟨a,rfl⟩:=aF h.1
 obtain⟨b,rfl⟩:=aF h.2.2.1
 rw[ai,ai]
 exact MG l a b (by omega) (by omega) h.2.2.2.2
def ux:Ent:=(30,fun
 |[.c (.pd (.lst .stat l)),.c (.pd (.int .i64 i)),.c (.pd (.int .i64 j))],[]=>some (some (0≤i∧i<(l.length:Int)∧0≤j∧j<(l.length:Int)∧l.length≤maxLen),.x (.c (.pd (.int .i64 (fG l i.toNat j.toNat)))),[])
 |_,_=>none)
theorem Be:EntOk Tryz.prog ux:=entOk fun vs ck=>by
 unfold ux;dsimp only;split
 ·rename_i l i j;exact entS fun hp=>Jv l i j hp
 ·exact entN
end Go.Proofs.YtlhgnjmdopjpeaaGreatDoor

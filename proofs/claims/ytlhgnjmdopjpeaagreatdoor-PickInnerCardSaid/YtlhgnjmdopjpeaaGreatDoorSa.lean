/- Contracts: the document's trees: parents, what is within, children, right trees, domains. Conditions: sizes. -/
import Derived.Test.YtlhgnjmdopjpeaaGreatDoorTd
namespace Go.Proofs.YtlhgnjmdopjpeaaGreatDoor
open Go Go.Ev
set_option maxRecDepth 100000
abbrev zJ50Sa:=J Tryz.prog 50 (ar Tryz.f50)
def gT(l:List Ev.Stat)(d:Int):Nat→Int
 |0=>-1
 |k+1=>if((ETy.get .stat l k).depth==d)=true then(k:Int)else gT l d k
variable(l:List Ev.Stat)(i r:Int)(j k:Nat)
def bq(i:Nat):Int:=gT l (IntKind.wrap .i64 ((ETy.get .stat l i).depth - 1)) i
def jm(l:List Ev.Stat)(i:Int):Nat→Int→Bool
 |0,_=>false
 |n+1,k=>if k<0 then false else if(k==i)=true then true else jm l i n (bq l k.toNat)
def eO:Bool:=jm l i (l.length+1) (bq l j)
def dt(n:Nat):List Int:=((List.range n).filter fun k=>bq l k==i&&decide ((ETy.get .stat l k).depth>0)).map fun k:Nat=>(k:Int)
def jz:Bool:=decide ((ETy.get .stat l k).kind<1)||decide ((ETy.get .stat l k).kind>6)||decide ((ETy.get .stat l k).depth<0)||decide ((ETy.get .stat l k).depth>5)||decide (0<k)&&decide ((ETy.get .stat l k).depth>IntKind.wrap .i64 ((ETy.get .stat l (k - 1)).depth+1))
def fP(l:List Ev.Stat):Nat→Nat→Int→Option Int
 |0,_,r=>some r
 |n+1,k,r=>if jz l k=true then none else if((ETy.get .stat l k).depth==0)=true then(if((ETy.get .stat l k).kind != 2)=true then none else fP l n (k+1) (IntKind.wrap .i64 (r+1)))else fP l n (k+1) r
def He:Option Int→Bool
 |none=>false
 |some r=>decide (r≤4)
def jC:Bool:=!(decide (l.length<1)||decide (l.length>40)||(ETy.get .stat l 0).depth != 0)&&He (fP l l.length 0 0)
def lI(i:Nat):Bool :=
 !(decide (bq l i≥0)&&(ETy.get .stat l (bq l i).toNat).kind != 2&&((ETy.get .stat l (bq l i).toNat).kind != 3||decide ((ETy.get .stat l i).kind>3)))&&(bif (ETy.get .stat l i).kind != 2&&(ETy.get .stat l i).kind != 3 then true else(dt l (i:Int) l.length).any fun y=>!bg (ETy.get .stat l y.toNat).kind)
def ix(l:List Ev.Stat):Nat→Nat→Bool
 |0,_=>true
 |n+1,k=>lI l k&&ix l n (k+1)
def iw:Bool:=jC l&&ix l l.length 0
def lY(l:List Ev.Stat)(j:Nat):Nat→Int→Int
 |0,_=>-1
 |n+1,k=>if k<0 then k else if((ETy.get .stat l k.toNat).kind==2&&eO l k j)=true then k else lY l j n (bq l k.toNat)
def fO(i j:Nat):Int:=lY l j (l.length+1) (i:Int)
theorem yr(l:List Ev.Stat)(d:Int):∀k:Nat, -1≤gT l d k∧gT l d k<(k:Int)
 |0=>by rw[gT];omega
 | k+1=>by
   have:=yr l d k
   rw[gT];split <;> omega
theorem mL : -1≤bq l k∧bq l k<(k:Int):=yr _ _ _
theorem DO(k:Int):ah Tryz.prog 29 [.i k] [] (.x (.b (bg k))) []:=by
 refine dg aX Tryz.func29 (.ret (.p (.bool (k==(5:Int)||k==(6:Int)))) []) fun Γ=>?_
 exact⟨rfl,rfl⟩
def lQ:Ent:=(29,fun
 |[.c (.pd (.int .i64 k))],[]=>some (none,.x (.c (.pd (.bool (bg k)))),[])
 |_,_=>none)
theorem lR:EntOk Tryz.prog lQ:=entOk fun vs ck=>by
 unfold lQ;dsimp only;split
 ·rename_i k;exact entS fun hp=>DO k
 ·exact entN
abbrev zSa1:List PI:=[.code [1,1,0,1,0,0],.inLoop [1,1,0,1,0,0],.inBlock 0,.code [1,1,1]]
theorem QS(i:Nat)(hi:i<l.length)(hl:l.length≤maxLen)(Γ:Ctx):∀n k:Nat,i - k≤n→k≤i →
 J Tryz.prog 40 (ar Tryz.f40) Γ (Eq2 (.x (.i (bq l i))) []) zSa1 ({n:=26,fr:=[(0,.p (.lst .stat l)),(1,.i i),(4,.i 0),(5,.i ((gT l (IntKind.wrap .i64 ((ETy.get .stat l i).depth - 1)) k))),(6,.i ((k:Int)))],ck:=[]}):=by
 intro n
 induction n with
 |zero=>?_
 |succ n ih=>?_
 all_goals
  intro k hn hk
  generalize hfd:gT l (IntKind.wrap .i64 ((ETy.get .stat l i).depth - 1)) k=fd
  refine jg aX Tryz.func40 (.ite (decide ((k:Int)<(i:Int))) (.need (inRg k l.length) (.need (inRg i l.length) (.ite (Stat.depth (ETy.get .stat l k)==IntKind.wrap .i64 (Stat.depth (ETy.get .stat l i) - (1:Int))) (.stop zSa1 {n:=26,fr:=[(0,.p (.lst .stat l)),(1,.i i),(4,.i 0),(5,.i k),(6,.i (IntKind.wrap .i64 ((k:Int)+1)))],ck:=[]}) (.stop zSa1 {n:=26,fr:=[(0,.p (.lst .stat l)),(1,.i i),(4,.i 0),(5,.i fd),(6,.i (IntKind.wrap .i64 ((k:Int)+1)))],ck:=[]})))) (.ret (.i fd) [])) ?_
  refine⟨fun hlt=>?_,fun hge=>?_⟩
  · have hk':k<i:=by have:=of_decide_eq_true hlt;omega
    have hw:=aZ (aG (show k<l.length by omega) hl)
    refine⟨⟨by omega,by omega⟩,⟨by omega,by omega⟩,fun h=>?_,fun h=>?_⟩
    · have e:gT l (IntKind.wrap .i64 ((ETy.get .stat l i).depth - 1)) (k+1)=(k:Int):=by rw[gT,if_pos h]
      rw[hw,←e]
      first
      |(exfalso;omega)
      |exact ih (k+1) (by omega) (by omega)
    · have e:gT l (IntKind.wrap .i64 ((ETy.get .stat l i).depth - 1)) (k+1)=fd:=by rw[gT,if_neg (by rw[h];decide),hfd]
      rw[hw,←e]
      first
      |(exfalso;omega)
      |exact ih (k+1) (by omega) (by omega)
  · have hke:k=i:=by have:=of_decide_eq_false hge;omega
    subst hke
    refine⟨?_,rfl⟩
    rw[←hfd];rfl
theorem Kn(h:0≤i∧i<(l.length:Int)∧l.length≤maxLen):ah Tryz.prog 40 [.l .stat l,.i i] [] (.x (.i (bq l i.toNat))) []:=by
 obtain⟨k,rfl⟩:=aA h.1
 rw[ai]
 have key:ah Tryz.prog 40 [.l .stat l,.i (k:Int)] [] (.x (.i (bq l k))) []:=by
  refine dg aX Tryz.func40 (.stop zSa1 {n:=26,fr:=[(0,.p (.lst .stat l)),(1,.i k),(4,.i 0),(5,.i (-1:Int)),(6,.i 0)],ck:=[]}) fun Γ=>?_
  exact QS l k (by omega) h.2.2 Γ k 0 (by omega) (by omega)
 exact key
def nL:Ent:=(40,fun
 |[.c (.pd (.lst .stat l)),.c (.pd (.int .i64 i))],[]=>some (some (0≤i∧i<(l.length:Int)∧l.length≤maxLen),.x (.c (.pd (.int .i64 (bq l i.toNat)))),[])
 |_,_=>none)
theorem mV:EntOk Tryz.prog nL:=entOk fun vs ck=>by
 unfold nL;dsimp only;split
 ·rename_i l i;exact entS fun hp=>Kn l i hp
 ·exact entN
def um:Cfg:=⟨aU,[nL]⟩
theorem pc:ag Tryz.prog um.tab:=(ag.cons mV ag.nil)
abbrev zSa6:List PI:=[.code [1,0,1,0,0],.inLoop [1,0,1,0,0],.inBlock 0,.code [1,1]]
theorem QV(j:Nat)(hl:l.length≤maxLen)(Γ:Ctx):∀(n:Nat) (k:Int), -1≤k→k<(l.length:Int)→k+1<(n:Int) →
 J Tryz.prog 32 (ar Tryz.f32) Γ (Eq2 (.x (.b (jm l i n k))) []) zSa6 ({n:=19,fr:=[(0,.p (.lst .stat l)),(1,.i i),(6,.p (.bool false)),(7,.i k)],ck:=[],kn:=[6]}):=by
 intro n
 induction n with
 |zero=>intro k h1 h2 h3;omega
 | succ n ih =>
   intro k h1 h2 h3
   refine jg pc Tryz.func32 (.ite (decide (k≥(0:Int))) (.ite (k==i) (.ret (.p (.bool true)) []) (.need ((0:Int)≤k∧k<(l.length:Int)∧l.length≤maxLen) (.stop zSa6 {n:=19,fr:=[(0,.p (.lst .stat l)),(1,.i i),(6,.p (.bool false)),(7,.i (bq l (Int.toNat k)))],ck:=[],kn:=[6]}))) (.ret (.p (.bool false)) [])) ?_
   refine⟨fun h=>⟨fun he=>?_,fun he=>?_⟩,fun h=>?_⟩
   · have hk:k≥0:=of_decide_eq_true h
     rw[jm,if_neg (by omega),if_pos he];exact⟨rfl,rfl⟩
   · have hk:k≥0:=of_decide_eq_true h
     have hp:=mL l k.toNat
     have e:((k.toNat:Nat):Int)=k:=fE hk
     refine⟨⟨hk,h2,hl⟩,?_⟩
     rw[jm,if_neg (by omega),if_neg (by rw[he];decide)]
     exact ih (bq l k.toNat) hp.1 (by omega) (by omega)
   · have hk:¬k≥0:=of_decide_eq_false h
     rw[jm,if_pos (by omega)];exact⟨rfl,rfl⟩
theorem Ks(j:Int)(h:0≤j∧j<(l.length:Int)∧l.length≤maxLen):ah Tryz.prog 32 [.l .stat l,.i i,.i j] [] (.x (.b (eO l i j.toNat))) []:=by
 obtain⟨k,rfl⟩:=aA h.1
 rw[ai]
 have key:ah Tryz.prog 32 [.l .stat l,.i i,.i (k:Int)] [] (.x (.b (eO l i k))) []:=by
  refine dg pc Tryz.func32 (.need ((0:Int)≤(k:Int)∧(k:Int)<(l.length:Int)∧l.length≤maxLen) (.stop zSa6 {n:=19,fr:=[(0,.p (.lst .stat l)),(1,.i i),(6,.p (.bool false)),(7,.i (bq l k))],ck:=[],kn:=[6]})) fun Γ=>?_
  have hp:=mL l k
  exact⟨h,QV l i k h.2.2 Γ (l.length+1) (bq l k) hp.1 (by omega) (by omega)⟩
 exact key
def rY:Ent:=(32,fun
 |[.c (.pd (.lst .stat l)),.c (.pd (.int .i64 i)),.c (.pd (.int .i64 j))],[]=>some (some (0≤j∧j<(l.length:Int)∧l.length≤maxLen),.x (.c (.pd (.bool (eO l i j.toNat)))),[])
 |_,_=>none)
theorem tm:EntOk Tryz.prog rY:=entOk fun vs ck=>by
 unfold rY;dsimp only;split
 ·rename_i l i j;exact entS fun hp=>Ks l i j hp
 ·exact entN
theorem Hd:dt l i (k+1)=if(bq l k==i&&decide ((ETy.get .stat l k).depth>0))=true then dt l i k++[(k:Int)]else dt l i k:=by
 unfold dt
 rw[List.range_succ,cc,bC]
 cases h:(bq l k==i&&decide ((ETy.get .stat l k).depth>0)) <;> simp[h]
theorem tS:(dt l i k).length≤k:=by
 unfold dt
 rw[aP]
 exact aC (aY _ _) (by simp)
theorem CB{k:Nat}{y:Int}(h:y∈dt l i k):0≤y∧y<(k:Int):=by
 unfold dt at h
 obtain⟨m,hm,rfl⟩:=aM.1 h
 have:=bL.1 (aH.1 hm).1
 omega
theorem QP(hl:l.length≤1466015503701)(Γ:Ctx):∀(n k:Nat),l.length - k≤n→k≤l.length →
 J Tryz.prog 28 (ar Tryz.f28) Γ (Eq2 (.x (.c (.own 0))) [.own 3 .int (dt l i l.length)]) zSa1 ({n:=31,fr:=[(0,.p (.lst .stat l)),(1,.i i),(4,.p (.v (Value.slice none 0 0))),(5,.x (.c (.own 0))),(6,.i ((k:Int)))],ck:=[.own 3 .int (dt l i k)]}):=by
 have hm:l.length≤maxLen:=aC hl (by decide)
 intro n
 induction n with
 |zero=>?_
 |succ n ih=>?_
 all_goals
  intro k hn hk
  generalize hout:dt l i k=out
  refine jg pc Tryz.func28 (let x1:List (Nat×SV):=[(0,.p (.lst .stat l)),(1,.i i),(4,.p (.v (Value.slice none 0 0))),(5,.x (.c (.own 0))),(6,.i (IntKind.wrap .i64 ((k:Int)+1)))];let x2:List PI:=zSa1;.ite (decide ((k:Int)<(l.length:Int))) (.need ((0:Int)≤(k:Int)∧(k:Int)<(l.length:Int)∧l.length≤maxLen) (.need ((bq l k==i)=true→(0:Int)≤(k:Int)∧(k:Int)<(l.length:Int)) (.ite (bq l k==i&&decide (Stat.depth (ETy.get .stat l k)>(0:Int))) (.need (room ((out++[(k:Int)]).length) 8) (.stop x2 {n:=31,fr:=x1,ck:=[.own 3 .int (out++[(k:Int)])]})) (.stop x2 {n:=31,fr:=x1,ck:=[.own 3 .int out]})))) (.ret (.x (.c (.own 0))) [.own 3 .int out])) ?_
  conv=>zeta
  have hs:=Hd l i k
  rw[hout]at hs
  refine⟨fun hlt=>?_,fun hge=>?_⟩
  · have hk':k<l.length:=by have:=of_decide_eq_true hlt;omega
    refine⟨⟨by omega,by omega,hm⟩,fun _=>⟨by omega,by omega⟩,fun h=>?_,fun h=>?_⟩
    · rw[if_pos h]at hs
      have hle:=tS l i (k+1)
      rw[hs]at hle
      refine⟨⟨by omega,by unfold maxLen;omega⟩,?_⟩
      rw[aZ (aG hk' hm),←hs]
      first
      |(exfalso;omega)
      |exact ih (k+1) (by omega) (by omega)
    · rw[if_neg (by rw[h];decide)]at hs
      rw[aZ (aG hk' hm),←hs]
      first
      |(exfalso;omega)
      |exact ih (k+1) (by omega) (by omega)
  · have hke:k=l.length:=by have:=of_decide_eq_false hge;omega
    subst hke
    rw[hout];exact⟨rfl,rfl⟩
theorem Hc(hl:l.length≤1466015503701):ah Tryz.prog 28 [.l .stat l,.i i] [] (.x (.c (.own 0))) [.own 3 .int (dt l i l.length)]:=by
 refine dg pc Tryz.func28 (.stop zSa1 {n:=31,fr:=[(0,.p (.lst .stat l)),(1,.i i),(4,.p (.v (Value.slice none 0 0))),(5,.p (.v (Value.slice none 0 0))),(6,.i 0)],ck:=[]}) fun Γ=>?_
 refine J.nilOwn 5 3 .int rfl (by kernel_rfl) ?_
 exact QP l i hl Γ l.length 0 (by omega) (by omega)
def qq:Ent:=(28,fun
 |[.c (.pd (.lst .stat l)),.c (.pd (.int .i64 i))],[]=>some (some (l.length≤1466015503701),.x (.c (.own 0)),[.own 3 .int (dt l i l.length)])
 |_,_=>none)
theorem xQ:EntOk Tryz.prog qq:=entOk fun vs ck=>by
 unfold qq;dsimp only;split
 ·rename_i l i;exact entS fun hp=>Hc l i hp
 ·exact entN
def uo:Cfg:=⟨aU,[nL,qq,lQ]⟩
theorem pe:ag Tryz.prog uo.tab:=(ag.cons mV (ag.cons xQ (ag.cons lR ag.nil)))
theorem QH(hk:k<9223372036854775807):(decide ((ETy.get .stat l k).kind<1)||decide ((ETy.get .stat l k).kind>6)||decide ((ETy.get .stat l k).depth<0)||decide ((ETy.get .stat l k).depth>5)||decide ((k:Int)>0)&&decide ((ETy.get .stat l k).depth>IntKind.wrap .i64 ((ETy.get .stat l (IntKind.wrap .i64 ((k:Int) - 1)).toNat).depth+1)))=jz l k:=by
 unfold jz
 congr 1
 by_cases h0:0<k
 · have e:(IntKind.wrap .i64 ((k:Int) - 1)).toNat=k - 1:=by rw[cg (by omega) (by omega)];omega
   rw[e,decide_eq_true h0,decide_eq_true (show(k:Int)>0 by omega)]
 ·rw[decide_eq_false h0,decide_eq_false (show ¬(k:Int)>0 by omega),br,br]
theorem O0{b:Bool}{i:Int}(h:(decide (i≥0)&&b)=true):0≤i:=by
 rw[af]at h;exact of_decide_eq_true h.1
abbrev zSa2:List PI:=[.code [1,1,1,1,0,1,0,0,1,0,0,1,1,1,1,1,0,1,0,0],.inLoop [1,1,1,1,0,1,0,0,1,0,0,1,1,1,1,1,0,1,0,0],.inBlock 4,.code [1,1,1,1,0,1,0,0,1,0,0,1,1,1,1,1,1],.inBlock 3,.code [1,1,1,1,0,1,0,0,1,1],.inLoop [1,1,1,1,0,1,0,0],.inBlock 2,.code [1,1,1,1,1]]
abbrev zSa3:List PI:=[.code [1,1,1,1,0,1,0,0],.inLoop [1,1,1,1,0,1,0,0],.inBlock 2,.code [1,1,1,1,1]]
theorem NF(ks:List Int)(hks:∀y∈ks,0≤y∧y<(l.length:Int))(hlen:ks.length≤maxLen)(Γ:Ctx)(res:Bool):∀(n j:Nat) (b:Bool),ks.length - j≤n→j≤ks.length →
 ((b||(ks.drop j).any fun y=>!bg (ETy.get .stat l y.toNat).kind)=true→zJ50Sa Γ (Eq2 (.x (.b res)) []) zSa3 ({n:=158,fr:=[(0,.p (.lst .stat l)),(2,.p (.bool false)),(3,.i r),(6,.i ((IntKind.wrap .i64 ((k:Int)+1))))],ck:=[],kn:=[2]}))→((b||(ks.drop j).any fun y=>!bg (ETy.get .stat l y.toNat).kind)=false→res=false) →
 zJ50Sa Γ (Eq2 (.x (.b res)) []) zSa2 ({n:=158,fr:=[(0,.p (.lst .stat l)),(2,.p (.bool false)),(3,.i r),(6,.i k),(8,.p (.bool b)),(9,.x (.c (.own 0))),(10,.i ((j:Int)))],ck:=[.own 3 .int ks],kn:=[2]}):=by
 intro n
 induction n with
 |zero=>?_
 |succ n ih=>?_
 all_goals
  intro j b hn hj h1 h0
  refine jg pe Tryz.func50 (.ite (decide ((j:Int)<(ks.length:Int))) (.need (b=false→(0:Int)≤(j:Int)∧(j:Int)<(ks.length:Int)) (.need (b=false→j<ks.length) (.need (b=false→(0:Int)≤ETy.get .int ks j∧ETy.get .int ks j<(l.length:Int)) (.stop zSa2 {n:=158,fr:=[(0,.p (.lst .stat l)),(2,.p (.bool false)),(3,.i r),(6,.i k),(8,.p (.bool (b || !bg (Stat.kind (ETy.get .stat l ((ETy.get .int ks j).toNat)))))),(9,.x (.c (.own 0))),(10,.i (IntKind.wrap .i64 ((j:Int)+1)))],ck:=[.own 3 .int ks],kn:=[2]})))) (.ite (!b) (.ret (.p (.bool false)) []) (.stop zSa3 {n:=158,fr:=[(0,.p (.lst .stat l)),(2,.p (.bool false)),(3,.i r),(6,.i (IntKind.wrap .i64 ((k:Int)+1)))],ck:=[],kn:=[2]}))) ?_
  refine⟨fun hlt=>?_,fun hge=>?_⟩
  · have hj':j<ks.length:=by have:=of_decide_eq_true hlt;omega
    have hy:=hks (ETy.get .int ks j) (by rw[ETy.get_eq (t:=.int) (List.getElem?_eq_getElem hj')];exact aW hj')
    refine⟨fun _=>⟨by omega,by omega⟩,fun _=>hj',fun _=>hy,?_⟩
    rw[aZ (aG hj' hlen)]
    have ed:ks.drop j=ETy.get .int ks j::ks.drop (j+1):=bx (t:=.int) (l:=ks) hj'
    rw[ed,cr,←fy]at h1 h0
    first
    |(exfalso;omega)
    |exact ih (j+1) _ (by omega) (by omega) h1 h0
  · have hje:ks.drop j=[]:=bS (by have:=of_decide_eq_false hge;omega)
    rw[hje,List.any_nil,bN]at h1 h0
    refine⟨fun hb=>?_,fun hb=>?_⟩
    ·rw[h0 (by simpa using hb)];exact⟨rfl,rfl⟩
    ·exact h1 (by simpa using hb)
theorem ND (hl:l.length≤1466015503701) (Γ:Ctx):∀n k:Nat,l.length - k=n→k≤l.length →
 zJ50Sa Γ (Eq2 (.x (.b (ix l n k&&decide (r≤4)))) []) zSa3 ({n:=158,fr:=[(0,.p (.lst .stat l)),(2,.p (.bool false)),(3,.i r),(6,.i ((k:Int)))],ck:=[],kn:=[2]}):=by
 have hm:l.length≤maxLen:=aC hl (by decide)
 intro n
 induction n with
 |zero=>?_
 |succ n ih=>?_
 all_goals
  intro k hn hk
  refine jg pe Tryz.func50 (let x1:=(ETy.get .stat l ((bq l k).toNat));let x2:=(bq l k≥(0:Int));let x3:List Nat:=[1,1,1,1,0,1,0,0,1,0,0,1,1,1,1,1,0,1,0,0];let x4:=(decide x2&&Stat.kind x1 != (2:Int));let x5:List Nat:=[1,1,1,1,0,1,0,0];.ite (decide ((k:Int)<(l.length:Int))) (.need ((0:Int)≤(k:Int)∧(k:Int)<(l.length:Int)∧l.length≤maxLen) (.need (decide x2=true→(0:Int)≤bq l k∧bq l k<(l.length:Int)) (.need (x4=true→(0:Int)≤bq l k∧bq l k<(l.length:Int)) (.need (x4=true∧(Stat.kind x1 != (3:Int))=false→(0:Int)≤(k:Int)∧(k:Int)<(l.length:Int)) (.ite (decide x2&&Stat.kind x1 != (2:Int)&&(Stat.kind x1 != (3:Int)||decide (Stat.kind (ETy.get .stat l k)>(3:Int)))) (.ret (.p (.bool false)) []) (.need (inRg k l.length) (.need ((Stat.kind (ETy.get .stat l k) != (2:Int))=true→(0:Int)≤(k:Int)∧(k:Int)<(l.length:Int)) (.ite (Stat.kind (ETy.get .stat l k) != (2:Int)&&Stat.kind (ETy.get .stat l k) != (3:Int)) (.stop [.code x5,.inLoop x5,.inBlock 2,.code [1,1,1,1,1]] {n:=158,fr:=[(0,.p (.lst .stat l)),(2,.p (.bool false)),(3,.i r),(6,.i (IntKind.wrap .i64 ((k:Int)+1)))],ck:=[],kn:=[2]}) (.need (l.length≤1466015503701) (.stop [.code x3,.inLoop x3,.inBlock 4,.code [1,1,1,1,0,1,0,0,1,0,0,1,1,1,1,1,1],.inBlock 3,.code [1,1,1,1,0,1,0,0,1,1],.inLoop x5,.inBlock 2,.code [1,1,1,1,1]] {n:=158,fr:=[(0,.p (.lst .stat l)),(2,.p (.bool false)),(3,.i r),(6,.i k),(8,.p (.bool false)),(9,.x (.c (.own 0))),(10,.i 0)],ck:=[.own 3 .int (dt l (k:Int) l.length)],kn:=[8,2]})))))))))) (.ret (.p (.bool (decide (r≤(4:Int))))) [])) ?_
  conv=>zeta
  refine⟨fun hlt=>?_,fun hge=>?_⟩
  · have hk':k<l.length:=by have:=of_decide_eq_true hlt;omega
    have hp:=mL l k
    refine⟨⟨by omega,by omega,hm⟩,fun h=>⟨of_decide_eq_true h,by omega⟩,fun h=>⟨O0 h,by omega⟩,fun _=>⟨by omega,by omega⟩,fun hb=>?_,fun hb=>⟨⟨by omega,by omega⟩,fun _=>⟨by omega,by omega⟩,fun hs=>?_,fun hs=>⟨hl,?_⟩⟩⟩
    · have e:lI l k=false:=by unfold lI;rw[hb];rfl
      first
      |(exfalso;omega)
      |(rw[ix,e];exact⟨rfl,rfl⟩)
    · have e:lI l k=true:=by unfold lI;rw[hb,hs];rfl
      rw[aZ (aG hk' hm)]
      first
      |(exfalso;omega)
      |(rw[ix,e,bb];exact ih (k+1) (by omega) (by omega))
    · have e:lI l k=(dt l (k:Int) l.length).any fun y=>!bg (ETy.get .stat l y.toNat).kind:=by unfold lI;rw[hb,hs];rfl
      refine J.kn [2] (NF l r k _ (fun y hy=>CB l k hy) (aC (tS l k l.length) hm) Γ _ (dt l k l.length).length 0 false (by omega) (by omega) (fun h=>?_) (fun h=>?_))
      · rw[cA,bj,←e]at h
        rw[aZ (aG hk' hm)]
        first
        |(exfalso;omega)
        |(rw[ix,h,bb];exact ih (k+1) (by omega) (by omega))
      · rw[cA,bj,←e]at h
        first
        |(exfalso;omega)
        |(rw[ix,h];rfl)
  · have:=of_decide_eq_false hge
    first
    |(exfalso;omega)
    |exact⟨rfl,rfl⟩
def CE:Option Int→Bool
 |none=>false
 |some q=>ix l l.length 0&&decide (q≤4)
abbrev zSa4:List PI:=[.code [1,1,1,0,1,0,0],.inLoop [1,1,1,0,1,0,0],.inBlock 0,.code [1,1,1,1]]
theorem NC(hl:l.length≤1466015503701)(Γ:Ctx):∀(n k:Nat) (r:Int),l.length - k=n→k≤l.length →
 zJ50Sa Γ (Eq2 (.x (.b (CE l (fP l n k r)))) []) zSa4 ({n:=158,fr:=[(0,.p (.lst .stat l)),(2,.p (.bool false)),(3,.i r),(4,.i ((k:Int)))],ck:=[],kn:=[2]}):=by
 have hm:l.length≤maxLen:=aC hl (by decide)
 intro n
 induction n with
 |zero=>?_
 |succ n ih=>?_
 all_goals
  intro k r hn hk
  refine jg pe Tryz.func50 (let x1:=(Stat.depth (ETy.get .stat l k)==(0:Int)&&Stat.kind (ETy.get .stat l k) != (2:Int));let x2:List PI:=zSa4;let x3:Tree:=(.ret (.p (.bool false)) []);let x4:=(Stat.depth (ETy.get .stat l k)<(0:Int));let x5:=(Stat.depth (ETy.get .stat l k)>(5:Int));let x6:=(Stat.kind (ETy.get .stat l k)<(1:Int));let x7:=(Stat.kind (ETy.get .stat l k)>(6:Int));let x8:=(IntKind.wrap .i64 ((k:Int)+1));.ite (decide ((k:Int)<(l.length:Int))) (.need (inRg k l.length) (.need ((((21,57,true,gk true (decide ((k:Int)>0)) (some (18,54,false,gk false (decide x6||decide x7||decide x4||decide x5) none))).2).2).2→(0:Int)≤IntKind.wrap .i64 ((k:Int) - 1)∧IntKind.wrap .i64 ((k:Int) - 1)<(l.length:Int)) (.ite (decide x6||decide x7||decide x4||decide x5||decide ((k:Int)>0)&&decide (Stat.depth (ETy.get .stat l k)>IntKind.wrap .i64 (Stat.depth (ETy.get .stat l ((IntKind.wrap .i64 ((k:Int) - 1)).toNat))+(1:Int)))) x3 (.ite (Stat.depth (ETy.get .stat l k)==(0:Int)) (.ite x1 x3 (.stop x2 {n:=158,fr:=[(0,.p (.lst .stat l)),(2,.p (.bool false)),(3,.i (IntKind.wrap .i64 (r+(1:Int)))),(4,.i x8)],ck:=[]})) (.ite x1 x3 (.stop x2 {n:=158,fr:=[(0,.p (.lst .stat l)),(2,.p (.bool false)),(3,.i r),(4,.i x8)],ck:=[]})))))) (.stop zSa3 {n:=158,fr:=[(0,.p (.lst .stat l)),(2,.p (.bool false)),(3,.i r),(6,.i 0)],ck:=[],kn:=[2]})) ?_
  conv=>zeta
  refine⟨fun hlt=>?_,fun hge=>?_⟩
  · have hk':k<l.length:=by have:=of_decide_eq_true hlt;omega
    have hmx:=aG hk' hm
    have hbe:=QH l k hmx
    rw[aZ hmx]
    refine⟨⟨by omega,by omega⟩,fun h=>?_,fun hb=>?_,fun hb=>⟨fun h0=>⟨fun h2=>?_,fun h2=>?_⟩,fun h0=>⟨fun h2=>?_,fun h2=>?_⟩⟩⟩
    · have h1:decide ((k:Int)>0)=true:=h.2
      have:=of_decide_eq_true h1
      rw[cg (by omega) (by omega)];omega
    · have hb':jz l k=true:=by rw[←hbe];exact hb
      first
      |(exfalso;omega)
      |(rw[fP,if_pos hb'];exact⟨rfl,rfl⟩)
    · have hb':jz l k=false:=by rw[←hbe];exact hb
      rw[h0,bb]at h2
      first
      |(exfalso;omega)
      |(rw[fP,if_neg (by rw[hb'];decide),if_pos h0,if_pos h2];exact⟨rfl,rfl⟩)
    · have hb':jz l k=false:=by rw[←hbe];exact hb
      rw[h0,bb]at h2
      first
      |(exfalso;omega)
      |(rw[fP,if_neg (by rw[hb'];decide),if_pos h0,if_neg (by rw[h2];decide)];exact J.kn [2] (ih (k+1) _ (by omega) (by omega)))
    ·rw[h0,br]at h2;cases h2
    · have hb':jz l k=false:=by rw[←hbe];exact hb
      first
      |(exfalso;omega)
      |(rw[fP,if_neg (by rw[hb'];decide),if_neg (by rw[h0];decide)];exact J.kn [2] (ih (k+1) _ (by omega) (by omega)))
  · have:=of_decide_eq_false hge
    first
    |(exfalso;omega)
    |exact ND l r hl Γ l.length 0 (by omega) (aS _)
theorem DM(hl:l.length≤1466015503701):ah Tryz.prog 50 [.l .stat l] [] (.x (.b (iw l))) []:=by
 have eh:(decide ((l.length:Int)<1)||decide ((l.length:Int)>40)||(ETy.get .stat l 0).depth != 0)=(decide (l.length<1)||decide (l.length>40)||(ETy.get .stat l 0).depth != 0):=by
  rw[decide_eq_decide.2 (show(l.length:Int)<1↔l.length<1 by omega),decide_eq_decide.2 (show(l.length:Int)>40↔l.length>40 by omega)]
 refine dg pe Tryz.func50 (.need ((decide ((l.length:Int)<1)||decide ((l.length:Int)>40))=false→(0:Int)≤0∧(0:Int)<(l.length:Int)) (.ite (decide ((l.length:Int)<1)||decide ((l.length:Int)>40)||Stat.depth (ETy.get .stat l 0) != (0:Int)) (.ret (.p (.bool false)) []) (.stop zSa4 {n:=158,fr:=[(0,.p (.lst .stat l)),(2,.p (.bool false)),(3,.i 0),(4,.i 0)],ck:=[],kn:=[2]}))) fun Γ=>?_
 refine⟨fun h=>⟨by omega,?_⟩,fun h=>?_,fun h=>?_⟩
 · rw[al]at h
   have:=of_decide_eq_false h.1
   omega
 · have h':=eh.symm.trans h
   unfold iw jC;rw[h'];exact⟨rfl,rfl⟩
 · have h':=eh.symm.trans h
   have e:iw l=CE l (fP l l.length 0 0):=by
    unfold iw jC;rw[h',cI,bb]
    cases fP l l.length 0 0 with
    |none=>rfl
    |some q=>unfold He CE;simp only;rw[Bool.and_comm]
   rw[e]
   exact NC l hl Γ l.length 0 0 (by omega) (aS _)
def Ga:Ent:=(50,fun
 |[.c (.pd (.lst .stat l))],[]=>some (some (l.length≤1466015503701),.x (.c (.pd (.bool (iw l)))),[])
 |_,_=>none)
theorem PG:EntOk Tryz.prog Ga:=entOk fun vs ck=>by
 unfold Ga;dsimp only;split
 ·rename_i l;exact entS fun hp=>DM l hp
 ·exact entN
def Fp:Cfg:=⟨aU,[nL,rY]⟩
theorem Bg:ag Tryz.prog Fp.tab:=(ag.cons mV (ag.cons tm ag.nil))
abbrev zSa5:List PI:=[.code [1,1,0,0,0],.inLoop [1,1,0,0,0],.inBlock 0,.code [1,1,1]]
theorem QK(hj:j<l.length)(hl:l.length≤maxLen)(Γ:Ctx):∀(n:Nat) (k:Int), -1≤k→k<(l.length:Int)→k+1<(n:Int) →
 J Tryz.prog 30 (ar Tryz.f30) Γ (Eq2 (.x (.i (lY l j n k))) []) zSa5 ({n:=30,fr:=[(0,.p (.lst .stat l)),(2,.i j),(6,.i 0),(7,.i k)],ck:=[]}):=by
 intro n
 induction n with
 |zero=>intro k h1 h2 h3;omega
 | succ n ih =>
   intro k h1 h2 h3
   refine jg Bg Tryz.func30 (.need (decide (k≥(0:Int))=true→(0:Int)≤k∧k<(l.length:Int)) (.need (decide (k≥(0:Int))=true∧(Stat.kind (ETy.get .stat l (Int.toNat k))==(2:Int))=true→(0:Int)≤(j:Int)∧(j:Int)<(l.length:Int)∧l.length≤maxLen) (.ite (decide (k≥(0:Int)) && !(Stat.kind (ETy.get .stat l (Int.toNat k))==(2:Int)&&eO l k j)) (.need ((0:Int)≤k∧k<(l.length:Int)∧l.length≤maxLen) (.stop zSa5 {n:=30,fr:=[(0,.p (.lst .stat l)),(2,.i j),(6,.i 0),(7,.i (bq l (Int.toNat k)))],ck:=[]})) (.ret (.i k) [])))) ?_
   refine⟨fun h=>⟨of_decide_eq_true h,h2⟩,fun h=>⟨by omega,by omega,hl⟩,fun h=>?_,fun h=>?_⟩
   · rw[af]at h
     have hk:k≥0:=of_decide_eq_true h.1
     have hp:=mL l k.toNat
     have e:((k.toNat:Nat):Int)=k:=fE hk
     refine⟨⟨hk,h2,hl⟩,?_⟩
     have hc:((ETy.get .stat l k.toNat).kind==2&&eO l k j)=false:=by
      have h4:=h.2
      cases hx:((ETy.get .stat l k.toNat).kind==2&&eO l k j)
      ·rfl
      ·rw[hx]at h4;cases h4
     rw[lY,if_neg (by omega),if_neg (by rw[hc];decide)]
     exact ih (bq l k.toNat) hp.1 (by omega) (by omega)
   · by_cases hk:k<0
     ·rw[lY,if_pos hk];exact⟨rfl,rfl⟩
     · rw[decide_eq_true (show k≥0 by omega),bb]at h
       have hc:((ETy.get .stat l k.toNat).kind==2&&eO l k j)=true:=by simpa using h
       rw[lY,if_neg hk,if_pos hc];exact⟨rfl,rfl⟩
theorem Nq(i j:Nat)(hi:i<l.length)(hj:j<l.length)(hl:l.length≤maxLen):ah Tryz.prog 30 [.l .stat l,.i (i:Int),.i (j:Int)] [] (.x (.i (fO l i j))) []:=by
 refine dg Bg Tryz.func30 (.stop zSa5 {n:=30,fr:=[(0,.p (.lst .stat l)),(2,.i j),(6,.i 0),(7,.i i)],ck:=[]}) fun Γ=>?_
 exact QK l j hj hl Γ (l.length+1) (i:Int) (by omega) (by omega) (by omega)
theorem Kc(j:Int)(h:0≤i∧i<(l.length:Int)∧0≤j∧j<(l.length:Int)∧l.length≤maxLen):ah Tryz.prog 30 [.l .stat l,.i i,.i j] [] (.x (.i (fO l i.toNat j.toNat))) []:=by
 obtain⟨a,rfl⟩:=aA h.1
 obtain⟨b,rfl⟩:=aA h.2.2.1
 rw[ai,ai]
 exact Nq l a b (by omega) (by omega) h.2.2.2.2
def uO:Ent:=(30,fun
 |[.c (.pd (.lst .stat l)),.c (.pd (.int .i64 i)),.c (.pd (.int .i64 j))],[]=>some (some (0≤i∧i<(l.length:Int)∧0≤j∧j<(l.length:Int)∧l.length≤maxLen),.x (.c (.pd (.int .i64 (fO l i.toNat j.toNat)))),[])
 |_,_=>none)
theorem BJ:EntOk Tryz.prog uO:=entOk fun vs ck=>by
 unfold uO;dsimp only;split
 ·rename_i l i j;exact entS fun hp=>Kc l i j hp
 ·exact entN
end Go.Proofs.YtlhgnjmdopjpeaaGreatDoor

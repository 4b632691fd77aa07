/- Contracts: pick: leaves, sorted. Conditions: sizes. Contracts: pick: may, May. Conditions: sizes. -/
import Derived.Test.YtlhgnjmdopjpeaaGreatDoorVk
import Derived.Test.YtlhgnjmdopjpeaaGreatDoorVm
import Derived.Test.YtlhgnjmdopjpeaaGreatDoorAf
import Derived.Test.YtlhgnjmdopjpeaaGreatDoorSq
namespace Go.Proofs.YtlhgnjmdopjpeaaGreatDoor
open Go Go.Ev
set_option maxRecDepth 100000
def HS:Cfg:=⟨aU,[r5,vc]⟩
theorem HT:ag Tryz.prog HS.tab:=(ag.cons tq (ag.cons BP ag.nil))
theorem KB(l:List Ev.Stat)(i:Int)(h:cw l i=true∧l.length≤maxLen):ah Tryz.prog 60 [.l .stat l,.i i] [] (.x (.i ((endM l i.toNat:Nat):Int))) []:=by
 have hi:=sw h.1
 refine dg HT Tryz.func60 (.need (l.length≤maxLen) (.ite (!cw l i) (.ret (.i (-1:Int)) []) (.need ((0:Int)≤i∧i<(l.length:Int)∧l.length≤maxLen) (.ret (.i (↑(endM l (Int.toNat i)):Int)) [])))) fun Γ=>?_
 refine⟨h.2,fun hb=>?_,fun _=>⟨⟨hi.1,hi.2,h.2⟩,rfl,rfl⟩⟩
 have hb':(!cw l i)=true:=hb
 rw[h.1]at hb';cases hb'
def Au:Ent:=(60,fun
 |[.c (.pd (.lst .stat l)),.c (.pd (.int .i64 i))],[]=>some (some (cw l i=true∧l.length≤maxLen),.x (.c (.pd (.int .i64 ((endM l i.toNat:Nat):Int)))),[])
 |_,_=>none)
theorem L2:EntOk Tryz.prog Au:=entOk fun vs ck=>by
 unfold Au;dsimp only;split
 ·rename_i l i;exact entS fun hp=>KB l i hp
 ·exact entN
def p8:Cfg:=⟨aU,[Au,mT,oE]⟩
theorem nC:ag Tryz.prog p8.tab:=(ag.cons L2 (ag.cons nH (ag.cons uA ag.nil)))
variable(c:Chart)(s:List Int)(tr:Tran)(d:Nat)
def goB(e:Nat)(k:Int):Bool:=decide (k>(d:Int))&&decide (k<((e:Nat):Int))
theorem Qq(hd:dh c.states tr.src (aF c.states tr.dst)=(d:Int))(hs:s.length≤1000)(Γ:Ctx):∀(n i:Nat),s.length - i≤n→i≤s.length →
 J Tryz.prog 27 (ar Tryz.f27) Γ (Eq2 (.x (.c (.own 0))) [.own 3 .int (s.filter (goB d (endM c.states d)))]) [.code [1,1,1,1,1,0,1,0,0],.inLoop [1,1,1,1,1,0,1,0,0],.inBlock 0,.code [1,1,1,1,1,1]] ({n:=48,fr:=[(7,.i (dh c.states tr.src (aF c.states tr.dst))),(6,.p (.v (Value.slice none 0 0))),(8,.i (↑(endM c.states ((dh c.states tr.src (aF c.states tr.dst)).toNat)):Int)),(9,.x (.c (.own 0))),(28,.p (.lst .int s)),(29,.i s.length),(30,.i ((i:Int)))],ck:=[.own 3 .int ((s.take i).filter (goB d (endM c.states d)))]}):=by
 have hml:s.length≤maxLen:=by unfold maxLen;omega
 intro n
 induction n with
 |zero=>?_
 |succ n ih=>?_
 all_goals
  intro i hn hi
  have hol:((s.take i).filter (goB d (endM c.states d))).length≤1000:=by
   have:=aY (goB d (endM c.states d)) (s.take i)
   have:=List.length_take_le i s
   omega
  by_cases hi':i<s.length
  · have ht:=sQ s (goB d (endM c.states d)) hi'
    generalize hout:(s.take i).filter (goB d (endM c.states d))=out at hol ht
    refine jg nC Tryz.func27 (let x3:=(dh c.states tr.src (aF c.states tr.dst));let x4:=(↑(endM c.states (x3.toNat)):Int);let x1:List (Nat×SV):=[(7,.i x3),(6,.p (.v (Value.slice none 0 0))),(8,.i x4),(9,.x (.c (.own 0))),(28,.p (.lst .int s)),(29,.i s.length),(30,.i (IntKind.wrap .i64 ((i:Int)+1)))];let x2:List PI:=[.code [1,1,1,1,1,0,1,0,0],.inLoop [1,1,1,1,1,0,1,0,0],.inBlock 0,.code [1,1,1,1,1,1]];.ite (decide ((i:Int)<(s.length:Int))) (.need (inRg i s.length) (.ite (decide (ETy.get .int s i>dh c.states tr.src (aF c.states tr.dst))&&decide (ETy.get .int s i<x4)) (.need (room ((out++[ETy.get .int s i]).length) 8) (.stop x2 {n:=48,fr:=x1,ck:=[.own 3 .int (out++[ETy.get .int s i])]})) (.stop x2 {n:=48,fr:=x1,ck:=[.own 3 .int out]}))) (.ret (.x (.c (.own 0))) [.own 3 .int out])) ?_
    conv=>zeta
    rw[hd,ai]at *
    refine⟨fun _=>⟨⟨by omega,by omega⟩,fun hb=>?_,fun hb=>?_⟩,fun hge=>?_⟩
    · have hb':goB d (endM c.states d) (ETy.get .int s i)=true:=hb
      rw[if_pos hb']at ht
      refine⟨room_le (by rw[au,cQ];omega) (by omega),?_⟩
      rw[aZ (aG hi' hml),←ht]
      first
      |(exfalso;omega)
      |exact ih (i+1) (by omega) (by omega)
    · have hb':goB d (endM c.states d) (ETy.get .int s i)=false:=hb
      rw[if_neg (by rw[hb'];decide),aO]at ht
      rw[aZ (aG hi' hml),←ht]
      first
      |(exfalso;omega)
      |exact ih (i+1) (by omega) (by omega)
    ·have:=of_decide_eq_false hge;omega
  · have hie:i=s.length:=by omega
    subst hie
    rw[List.take_length]at hol ⊢
    generalize s.filter (goB d (endM c.states d))=out at hol
    have hgo:∀i:Nat,i=s.length→J Tryz.prog 27 (ar Tryz.f27) Γ (Eq2 (.x (.c (.own 0))) [.own 3 .int out]) [.code [1,1,1,1,1,0,1,0,0],.inLoop [1,1,1,1,1,0,1,0,0],.inBlock 0,.code [1,1,1,1,1,1]] ({n:=48,fr:=[(7,.i (dh c.states tr.src (aF c.states tr.dst))),(6,.p (.v (Value.slice none 0 0))),(8,.i (↑(endM c.states ((dh c.states tr.src (aF c.states tr.dst)).toNat)):Int)),(9,.x (.c (.own 0))),(28,.p (.lst .int s)),(29,.i s.length),(30,.i ((i:Int)))],ck:=[.own 3 .int out]}):=fun i hi=>by
     refine jg nC Tryz.func27 (let x3:=(dh c.states tr.src (aF c.states tr.dst));let x4:=(↑(endM c.states (x3.toNat)):Int);let x1:List (Nat×SV):=[(7,.i x3),(6,.p (.v (Value.slice none 0 0))),(8,.i x4),(9,.x (.c (.own 0))),(28,.p (.lst .int s)),(29,.i s.length),(30,.i (IntKind.wrap .i64 ((i:Int)+1)))];let x2:List PI:=[.code [1,1,1,1,1,0,1,0,0],.inLoop [1,1,1,1,1,0,1,0,0],.inBlock 0,.code [1,1,1,1,1,1]];.ite (decide ((i:Int)<(s.length:Int))) (.need (inRg i s.length) (.ite (decide (ETy.get .int s i>dh c.states tr.src (aF c.states tr.dst))&&decide (ETy.get .int s i<x4)) (.need (room ((out++[ETy.get .int s i]).length) 8) (.stop x2 {n:=48,fr:=x1,ck:=[.own 3 .int (out++[ETy.get .int s i])]})) (.stop x2 {n:=48,fr:=x1,ck:=[.own 3 .int out]}))) (.ret (.x (.c (.own 0))) [.own 3 .int out])) ?_
     conv=>zeta
     exact⟨fun hlt=>by have:=of_decide_eq_true hlt;omega,fun _=>⟨rfl,rfl⟩⟩
    exact hgo s.length rfl
theorem M5(h:Valid c∧(∃i:Nat,i<c.trans.length∧tr=ETy.get .tran c.trans i)∧(s.length≤1000∧∀y∈s,0≤y∧y<(c.states.length:Int))):ah Tryz.prog 27 [.e .chart c,.l .int s,.e .tran tr] [] (.x (.c (.pd (.lst .int (iU c.states s tr))))) []:=by
 obtain⟨v,⟨i,hi,rfl⟩,hs⟩:=h
 have hst:=(dP c).1 v.few
 have hmc:c.states.length≤maxLen:=by unfold maxLen;omega
 by_cases hz:(ETy.get .tran c.trans i).dst=[]
 · have e:iU c.states s (ETy.get .tran c.trans i)=[]:=by unfold iU;rw[hz];rfl
   rw[e]
   refine ah.ret (ret:=.x (.c (.pd (.v (.slice none 0 0))))) ?_ fun V v hv=>iA hv
   generalize ETy.get .tran c.trans i=tr at hz
   refine dg nC Tryz.func27 (let x1:=(dh c.states tr.src (aF c.states tr.dst));let x2:=(Value.slice none 0 0);.ite (tr.dst==[]) (.ret (.p (.v x2)) []) (.need (c.states.length≤maxLen) (.need (cw c.states x1=true∧c.states.length≤maxLen) (.stop [.code [1,1,1,1,1,0,1,0,0],.inLoop [1,1,1,1,1,0,1,0,0],.inBlock 0,.code [1,1,1,1,1,1]] {n:=48,fr:=[(7,.i x1),(6,.p (.v x2)),(8,.i (↑(endM c.states (x1.toNat)):Int)),(9,.p (.v x2)),(28,.p (.lst .int s)),(29,.i s.length),(30,.i 0)],ck:=[]})))) fun Γ=>?_
   conv=>zeta
   refine⟨fun _=>⟨rfl,rfl⟩,fun hb=>?_⟩
   rw[hz]at hb;exact absurd hb (by decide)
 · obtain⟨tg,d,e1,e2,e3,e4,e5,e6,e7,e8⟩:=EU v hi hz
   have e:iU c.states s (ETy.get .tran c.trans i)=s.filter (goB d (endM c.states d)):=by
    unfold iU
    rw[if_neg (by simpa using hz),e3]
    refine gr fun k hk=>?_
    have hk2:=hs.2 k hk
    obtain⟨q,rfl⟩:=aA hk2.1
    rw[ai,nv v.tre.shp (by omega)]
    unfold goB
    rw[aT]
    simp only[af,decide_eq_true_eq]
    omega
   rw[e]
   generalize ETy.get .tran c.trans i=tr at hz e3
   have own:ah Tryz.prog 27 [.e .chart c,.l .int s,.e .tran tr] [] (.x (.c (.own 0))) [.own 3 .int (s.filter (goB d (endM c.states d)))]:=by
    refine dg nC Tryz.func27 (let x1:=(dh c.states tr.src (aF c.states tr.dst));let x2:=(Value.slice none 0 0);.ite (tr.dst==[]) (.ret (.p (.v x2)) []) (.need (c.states.length≤maxLen) (.need (cw c.states x1=true∧c.states.length≤maxLen) (.stop [.code [1,1,1,1,1,0,1,0,0],.inLoop [1,1,1,1,1,0,1,0,0],.inBlock 0,.code [1,1,1,1,1,1]] {n:=48,fr:=[(7,.i x1),(6,.p (.v x2)),(8,.i (↑(endM c.states (x1.toNat)):Int)),(9,.p (.v x2)),(28,.p (.lst .int s)),(29,.i s.length),(30,.i 0)],ck:=[]})))) fun Γ=>?_
    conv=>zeta
    refine⟨fun hb=>?_,fun _=>⟨hmc,⟨by rw[e3];exact j8 v.tree e4,hmc⟩,?_⟩⟩
    ·exact absurd (eq_of_beq (show(tr.dst==[])=true from hb)) hz
    · refine J.nilOwn 9 3 .int rfl (by kernel_rfl) ?_
      exact Qq c s tr d e3 hs.1 Γ s.length 0 (by omega) (by omega)
   exact ah.chop (ck':=[]) (ah.frz aU [0] own rfl rfl)
def BF:Ent:=(27,fun
 |[.agg [.pd (.str a),.pd (.lst .str b),.pd (.lst .var c),.pd (.lst .stat d),.pd (.lst .tran e)],.c (.pd (.lst .int s)),.agg [.pd (.int .i64 f),.pd (.str g),.pd (.lst .cell h),.pd (.str k),.pd (.lst .deed m)]],[]=>some (some (Valid ⟨a,b,c,d,e⟩∧(∃i:Nat,i<e.length∧(⟨f,g,h,k,m⟩:Tran)=ETy.get .tran e i)∧(s.length≤1000∧∀y∈s,0≤y∧y<(d.length:Int))),.x (.c (.pd (.lst .int (iU d s ⟨f,g,h,k,m⟩)))),[])
 |_,_=>none)
theorem Em:EntOk Tryz.prog BF:=entOk fun vs ck=>by
 unfold BF;dsimp only;split
 ·rename_i a b c d e s f g h k m;exact entS fun hp=>M5 ⟨a,b,c,d,e⟩ s ⟨f,g,h,k,m⟩ hp
 ·exact entN
def oz:Cfg:=⟨aU,[uY]⟩
theorem lM:ag Tryz.prog oz.tab:=(ag.cons Jh ag.nil)
theorem Q0 (es:List (Int×Nat)) (clk:Nat) (hm:MapOk es clk) (hl:es.length≤1000) (Γ:Ctx):∀(n:Nat) (done:List (Int×Nat)),es.length - done.length≤n→(∀e∈done,e∈es)→(done.map (·.2)).Nodup →
 J Tryz.prog 33 (ar Tryz.f33) Γ (Eq2 (.x (.c (.own 1))) [.obj (.set es clk),.own 3 .int (dC (es.map (·.1)))]) [.code [1,1,0,1,0,0],.inLoop [1,1,0,1,0,0],.inBlock 0,.code [1,1,1]] ({n:=18,fr:=[(2,.p (.v (Value.slice none 0 0))),(3,.x (.c (.own 2))),(6,.x (.c (.loc 1 0)))],ck:=[Chunk.obj (Ob.set es clk),Chunk.obj (Ob.it 0 done clk),.own 3 .int (done.reverse.map (·.1))],m:=1}):=by
 intro n
 induction n with
 |zero=>?_
 |succ n ih=>?_
 all_goals
  intro done hn hin hnd
  have hle:done.length≤es.length:=k0 (k6 hnd) hin
  have hk:(done.reverse.map (·.1)).length=done.length:=by simp
  have hcore:∀out:List Int,out=done.reverse.map (·.1)→J Tryz.prog 33 (ar Tryz.f33) Γ (Eq2 (.x (.c (.own 1))) [.obj (.set es clk),.own 3 .int (dC (es.map (·.1)))]) [.code [1,1,0,1,0,0],.inLoop [1,1,0,1,0,0],.inBlock 0,.code [1,1,1]] ({n:=18,fr:=[(2,.p (.v (Value.slice none 0 0))),(3,.x (.c (.own 2))),(6,.x (.c (.loc 1 0)))],ck:=[Chunk.obj (Ob.set es clk),Chunk.obj (Ob.it 0 done clk),.own 3 .int out],m:=1}):=fun out hout=>by
   refine jg lM Tryz.func33 (.stop [.ops [1,1,0,1,0,0,0] 0,.code [1,1,0,1,0,0,1],.inLoop [1,1,0,1,0,0],.inBlock 0,.code [1,1,1]] {n:=18,fr:=[(2,.p (.v (Value.slice none 0 0))),(3,.x (.c (.own 2))),(6,.x (.c (.loc 1 0)))],ck:=[Chunk.obj (Ob.set es clk),Chunk.obj (Ob.it 0 done clk),.own 3 .int out],m:=1}) ?_
   refine J.next (es:=es) (done:=done) (clk:=clk) (clk':=clk) (d:=7) (q:=1) (j:=0) (by kernel_rfl) rfl hm (fun hall=>?_) (fun e he hne=>?_)
   · refine jg lM Tryz.func33 (.ite false (.stop [.ops [1,1,0,1,0,0,1,1,0,0] 0,.code [1,1,0,1,0,0,1,1,0,1],.inBlock 1,.inLoop [1,1,0,1,0,0],.inBlock 0,.code [1,1,1]] {n:=18,fr:=[(2,.p (.v (Value.slice none 0 0))),(3,.x (.c (.own 2))),(6,.x (.c (.loc 1 0)))],ck:=[Chunk.obj (Ob.set es clk),Chunk.obj (Ob.it 0 done clk),.own 3 .int out],m:=1}) (.need (out.length≤1000000) (.ret (.x (.c (.own 1))) [Chunk.obj (Ob.set es clk),.own 3 .int (dC out)]))) ?_
     refine⟨fun h=>absurd h (by decide),fun _=>⟨by rw[hout,hk];omega,rfl,?_⟩⟩
     have e:dC out=dC (es.map (·.1)):=by
      have hp:out.Perm (es.map (·.1)):=by
       rw[hout]
       refine((List.reverse_perm done).map _).trans (List.Perm.map _ ?_)
       refine(List.perm_ext_iff_of_nodup (k6 hnd) (k6 hm.nodup)).2 fun e=>⟨hin e,fun he=>?_⟩
       obtain⟨e2,h1,h2⟩:=aM.1 (hall e he)
       have:e2=e:=by
        have hmem:=hin e2 h1
        exact ng hm.nodup hmem he h2
       rw[←this];exact h1
      have hs:(dC (es.map (·.1))).Pairwise (· < ·):=N1 hm.keys
      exact yx (hp.nodup_iff.2 hm.keys) hs fun y=>hp.mem_iff.trans ((fG _ _).mem_iff).symm
     rw[e]
   · obtain⟨x,b⟩:=e
     refine jg lM Tryz.func33 (.ite true (.stop [.ops [1,1,0,1,0,0,1,1,0,0] 0,.code [1,1,0,1,0,0,1,1,0,1],.inBlock 1,.inLoop [1,1,0,1,0,0],.inBlock 0,.code [1,1,1]] {n:=18,fr:=[(2,.p (.v (Value.slice none 0 0))),(3,.x (.c (.own 2))),(6,.x (.c (.loc 1 0)))],ck:=[Chunk.obj (Ob.set es clk),Chunk.obj (Ob.it 0 ((x,b)::done) clk),.own 3 .int out],m:=1}) (.need (out.length≤1000000) (.ret (.x (.c (.own 1))) [Chunk.obj (Ob.set es clk),.own 3 .int (dC out)]))) ?_
     refine⟨fun _=>?_,fun h=>absurd h (by decide)⟩
     refine J.entry (es:=es) (done:=done) (e:=(x,b)) (clk:=clk) (clk':=clk) (d:=9) (q:=1) (j:=0) (by kernel_rfl) rfl hm he ?_
     refine jg lM Tryz.func33 (.need (room ((out++[x]).length) 8) (.stop [.code [1,1,0,1,0,0],.inLoop [1,1,0,1,0,0],.inBlock 0,.code [1,1,1]] {n:=18,fr:=[(2,.p (.v (Value.slice none 0 0))),(3,.x (.c (.own 2))),(6,.x (.c (.loc 1 0)))],ck:=[Chunk.obj (Ob.set es clk),Chunk.obj (Ob.it 0 ((x,b)::done) clk),.own 3 .int (out++[x])],m:=1})) ?_
     have hnd2:(((x,b)::done).map (·.2)).Nodup:=dv.2 ⟨hne,hnd⟩
     have hin2:∀e∈(x,b)::done,e∈es:=fun e h=>by
      rcases aI.1 h with rfl |h
      ·exact he
      ·exact hin e h
     have hle2:((x,b)::done).length≤es.length:=k0 (k6 hnd2) hin2
     rw[ax]at hle2
     refine⟨room_le (by rw[au,cQ,hout,hk];omega) (by omega),?_⟩
     have e2:out++[x]=(((x,b)::done).reverse.map (·.1)):=by rw[bP,bC,hout];rfl
     rw[e2]
     first
     |(exfalso;omega)
     |exact ih ((x,b)::done) (by rw[ax];omega) hin2 hnd2
  exact hcore _ rfl
theorem DU(es:List (Int×Nat))(clk:Nat)(h:MapOk es clk∧es.length≤1000):ah Tryz.prog 33 [.c (.own 0)] [.obj (.set es clk)] (.x (.c (.own 1))) [.obj (.set es clk),.own 3 .int (dC (es.map (·.1)))]:=by
 refine dg lM Tryz.func33 (.stop [.code [1,1,0,1,0,0],.inLoop [1,1,0,1,0,0],.inBlock 0,.code [1,1,1]] {n:=18,fr:=[(2,.p (.v (Value.slice none 0 0))),(3,.p (.v (Value.slice none 0 0))),(6,.x (.c (.loc 1 0)))],ck:=[Chunk.obj (Ob.set es clk),Chunk.obj (Ob.it 0 [] clk)],m:=1}) fun Γ=>?_
 refine J.nilOwn 3 3 .int rfl (by kernel_rfl) ?_
 exact Q0 es clk h.1 h.2 Γ es.length [] (by omega) (fun _ h=>by cases h) gg
def oL:Ent:=(33,fun
 |[.c (.own 0)],[.obj (.set es clk)]=>some (some (MapOk es clk∧es.length≤1000),.x (.c (.own 1)),[.obj (.set es clk),.own 3 .int (dC (es.map (·.1)))])
 |_,_=>none)
theorem u7:EntOk Tryz.prog oL:=entOk fun vs ck=>by
 unfold oL;dsimp only;split
 ·rename_i es clk;exact entS fun hp=>DU es clk hp
 ·exact entN
abbrev zJ34Ag:=J Tryz.prog 34 (ar Tryz.f34)
def okG(vars:List Var)(vs:List Val)(ns:List Str)(tr:Tran):Bool:=bif decide ((tr.guard.length:Int)>0)then(!((eE tr.guard vars vs ns).2 != 0 || !((eE tr.guard vars vs ns).1.kind==2&&((eE tr.guard vars vs ns).1.a==1&&(eE tr.guard vars vs ns).1.b==0))))else true
variable(c:Chart)(s:List Int)(vs:List Val)(ev:Str)(i:Nat)
def bM:List Int:=eG (okG c.vars vs (fq c.states s)) ev s c.trans
def j4:List Int:=if(bp c==0&&bw c.states s)=true then bM c s vs ev else[]
def AW:Cfg:=⟨aU,[pn,tn,Af]⟩
theorem xt:ag Tryz.prog AW.tab:=(ag.cons Dh (ag.cons rZ (ag.cons LO ag.nil)))
def pB:List Int:=((List.range i).filter fun k:Nat=>ma (okG c.vars vs (fq c.states s)) ev s (ETy.get .tran c.trans k)).map fun k:Nat=>(k:Int)
theorem JQ:pB c s vs ev (i+1)=pB c s vs ev i++(if ma (okG c.vars vs (fq c.states s)) ev s (ETy.get .tran c.trans i)=true then[(i:Int)]else[]):=by
 unfold pB
 rw[List.range_succ,cc,bC,List.filter_cons]
 cases ma (okG c.vars vs (fq c.states s)) ev s (ETy.get .tran c.trans i) <;> rfl
theorem MK:(i:Int) ∉ pB c s vs ev i:=by
 unfold pB
 intro h
 obtain⟨k,h1,h2⟩:=aM.1 h
 have:=bL.1 (aH.1 h1).1
 omega
abbrev zAg1(a:Chart):Chunk:=.cells [.pd (.str a.name),.pd (.lst .str a.events),.pd (.lst .var a.vars),.pd (.lst .stat a.states),.pd (.lst .tran a.trans)] 27
abbrev zAg2:List PI:=[.code [1,1,1,0,1,0,0],.inLoop [1,1,1,0,1,0,0],.inBlock 0,.code [1,1,1,1]]
abbrev zAg3(a:List Int)(b:List Val)(c:Str)(d:Chart)(e:Nat):List (Nat×SV):=[(1,.p (.lst .int a)),(2,.p (.lst .val b)),(3,.p (.str c)),(4,.x (.c (.loc 0 0))),(8,.p (.v (Value.map none))),(9,.p (.lst .str (di d a))),(10,.x (.c (.own 1))),(20,.p (.lst .tran d.trans)),(21,.i d.trans.length),(22,.i ((e:Int)))]
theorem Qf(hv:∀v∈vs,i64 v.a=true)(hns:di c s=fq c.states s)(Γ:Ctx)(hm:c.trans.length≤maxLen):∀(n i:Nat),c.trans.length - i≤n→i≤c.trans.length →
 zJ34Ag Γ (Eq2 (.x (.c (.own 0))) [.obj (.set (cY (bM c s vs ev)) (bM c s vs ev).length)]) zAg2 ({n:=63,fr:=(zAg3 s vs ev c i),ck:=[zAg1 c,Chunk.obj (Ob.set (cY (pB c s vs ev i)) (pB c s vs ev i).length)]}):=by
 intro n
 induction n with
 |zero=>?_
 |succ n ih=>?_
 all_goals
  intro i hn hi
  have hsucc:=JQ c s vs ev i
  have hadd:=tu (MK c s vs ev i)
  have hcore:∀(es:List (Int×Nat)) (clk:Nat),es=cY (pB c s vs ev i)→clk=(pB c s vs ev i).length→zJ34Ag Γ (Eq2 (.x (.c (.own 0))) [.obj (.set (cY (bM c s vs ev)) (bM c s vs ev).length)]) zAg2 ({n:=63,fr:=(zAg3 s vs ev c i),ck:=[zAg1 c,Chunk.obj (Ob.set es clk)]}):=fun es clk he hc=>by
   refine jg xt Tryz.func34 (let x1:List (Nat×SV):=[(1,.p (.lst .int s)),(2,.p (.lst .val vs)),(3,.p (.str ev)),(4,.x (.c (.loc 0 0))),(8,.p (.v (Value.map none))),(9,.p (.lst .str (di c s))),(10,.x (.c (.own 1))),(20,.p (.lst .tran c.trans)),(21,.i c.trans.length),(22,.i (IntKind.wrap .i64 ((i:Int)+1)))];let x5:List PI:=zAg2;let x2:Tree:=(.stop x5 {n:=63,fr:=x1,ck:=[zAg1 c,Chunk.obj (Ob.set (jD es clk (i:Int)) (ky es clk (i:Int)))]});let x3:Tree:=(.stop x5 {n:=63,fr:=x1,ck:=[zAg1 c,Chunk.obj (Ob.set es clk)]});let x6:=(ETy.get .tran c.trans i);let x4:=(eE (Tran.guard x6) c.vars vs (di c s));.ite (decide ((i:Int)<(c.trans.length:Int))) (.need (inRg i c.trans.length) (.ite (!Tran.event x6==ev || !inB s (Tran.src x6)) x3 (.ite (decide ((↑((Tran.guard x6).length):Int)>0)) (.need (∀(v:ETy.den .val),v∈vs→i64 v.a=true) (.ite (x4.2 != (0:Int) || !(Val.kind (x4.1)==(2:Int)&&(Val.a (x4.1)==(1:Int)&&Val.b (x4.1)==(0:Int)))) x3 x2)) x2))) (.ret (.x (.c (.own 0))) [Chunk.obj (Ob.set es clk)])) ?_
   conv=>zeta
   refine⟨fun hlt=>?_,fun hge=>?_⟩
   · have hi':i<c.trans.length:=by have:=of_decide_eq_true hlt;omega
     have no:ma (okG c.vars vs (fq c.states s)) ev s (ETy.get .tran c.trans i)=false→zJ34Ag Γ (Eq2 (.x (.c (.own 0))) [.obj (.set (cY (bM c s vs ev)) (bM c s vs ev).length)]) zAg2 ({n:=63,fr:=[(1,.p (.lst .int s)),(2,.p (.lst .val vs)),(3,.p (.str ev)),(4,.x (.c (.loc 0 0))),(8,.p (.v (Value.map none))),(9,.p (.lst .str (di c s))),(10,.x (.c (.own 1))),(20,.p (.lst .tran c.trans)),(21,.i c.trans.length),(22,.i ((IntKind.wrap .i64 ((i:Int)+1))))],ck:=[zAg1 c,Chunk.obj (Ob.set es clk)]}):=fun hf=>by
      rw[if_neg (by rw[hf];decide),aO]at hsucc
      rw[aZ (aG hi' hm),he,hc,←hsucc]
      first
      |(exfalso;omega)
      |exact ih (i+1) (by omega) (by omega)
     have yes:ma (okG c.vars vs (fq c.states s)) ev s (ETy.get .tran c.trans i)=true→zJ34Ag Γ (Eq2 (.x (.c (.own 0))) [.obj (.set (cY (bM c s vs ev)) (bM c s vs ev).length)]) zAg2 ({n:=63,fr:=[(1,.p (.lst .int s)),(2,.p (.lst .val vs)),(3,.p (.str ev)),(4,.x (.c (.loc 0 0))),(8,.p (.v (Value.map none))),(9,.p (.lst .str (di c s))),(10,.x (.c (.own 1))),(20,.p (.lst .tran c.trans)),(21,.i c.trans.length),(22,.i ((IntKind.wrap .i64 ((i:Int)+1))))],ck:=[zAg1 c,Chunk.obj (Ob.set (jD es clk (i:Int)) (ky es clk (i:Int)))]}):=fun hf=>by
      rw[if_pos hf]at hsucc
      rw[aZ (aG hi' hm),he,hc,hadd.1,hadd.2,←hsucc]
      first
      |(exfalso;omega)
      |exact ih (i+1) (by omega) (by omega)
     refine⟨⟨by omega,by omega⟩,fun hb=>no ?_,fun hb=>⟨fun hg=>⟨hv,fun h2=>no ?_,fun h2=>yes ?_⟩,fun hg=>yes ?_⟩⟩
     · have hb':(!(ETy.get .tran c.trans i).event==ev || !inB s (ETy.get .tran c.trans i).src)=true:=hb
       unfold ma
       cases h1:(ETy.get .tran c.trans i).event==ev <;> cases h2:inB s (ETy.get .tran c.trans i).src <;> simp[h1,h2]at hb' ⊢
     all_goals
      have hb':(!(ETy.get .tran c.trans i).event==ev || !inB s (ETy.get .tran c.trans i).src)=false:=hb
      have h12:(ETy.get .tran c.trans i).event==ev&&inB s (ETy.get .tran c.trans i).src:=by
       cases h1:(ETy.get .tran c.trans i).event==ev <;> cases h2:inB s (ETy.get .tran c.trans i).src <;> simp[h1,h2]at hb' ⊢
      unfold ma
      rw[h12,bb]
      unfold okG
     · rw[show decide (((ETy.get .tran c.trans i).guard.length:Int)>0)=true from hg,cond_true]
       rw[←hns]
       have h2':((eE (ETy.get .tran c.trans i).guard c.vars vs (di c s)).2 != 0 || !((eE (ETy.get .tran c.trans i).guard c.vars vs (di c s)).1.kind==2&&((eE (ETy.get .tran c.trans i).guard c.vars vs (di c s)).1.a==1&&(eE (ETy.get .tran c.trans i).guard c.vars vs (di c s)).1.b==0)))=true:=h2
       rw[h2'];rfl
     · rw[show decide (((ETy.get .tran c.trans i).guard.length:Int)>0)=true from hg,cond_true]
       rw[←hns]
       have h2':((eE (ETy.get .tran c.trans i).guard c.vars vs (di c s)).2 != 0 || !((eE (ETy.get .tran c.trans i).guard c.vars vs (di c s)).1.kind==2&&((eE (ETy.get .tran c.trans i).guard c.vars vs (di c s)).1.a==1&&(eE (ETy.get .tran c.trans i).guard c.vars vs (di c s)).1.b==0)))=false:=h2
       rw[h2'];rfl
     ·rw[show decide (((ETy.get .tran c.trans i).guard.length:Int)>0)=false from hg,cond_false]
   · have hie:i=c.trans.length:=by have:=of_decide_eq_false hge;omega
     rw[he,hc,hie];exact⟨rfl,rfl⟩
  exact hcore _ _ rfl rfl
theorem ML(h:(Valid c∧bw c.states s=true)∧∀v∈vs,i64 v.a=true):ah Tryz.prog 34 [.e .chart c,.l .int s,.l .val vs,.s ev] [] (.x (.c (.own 0))) [.obj (.set (cY (bM c s vs ev)) (bM c s vs ev).length)]:=by
 have hst:=(dP c).1 h.1.1.few
 have hns:di c s=fq c.states s:=by unfold di;rw[(db c).2 h.1.1,h.1.2];rfl
 refine dg xt Tryz.func34 (.need (c.vars.length≤2199023255552∧c.states.length≤2199023255552) (.stop zAg2 {n:=63,fr:=[(1,.p (.lst .int s)),(2,.p (.lst .val vs)),(3,.p (.str ev)),(4,.x (.c (.loc 0 0))),(8,.p (.v (Value.map none))),(9,.p (.lst .str (di c s))),(10,.x (.c (.own 1))),(20,.p (.lst .tran c.trans)),(21,.i c.trans.length),(22,.i 0)],ck:=[zAg1 c,Chunk.obj (Ob.set [] 0)]})) fun Γ=>?_
 refine⟨⟨by omega,by omega⟩,?_⟩
 refine J.len 20 rfl fun hm=>?_
 exact Qf c s vs ev h.2 hns Γ hm c.trans.length 0 (by omega) (by omega)
def uG:Ent:=(34,fun
 |[.agg [.pd (.str a),.pd (.lst .str b),.pd (.lst .var c),.pd (.lst .stat d),.pd (.lst .tran e)],.c (.pd (.lst .int s)),.c (.pd (.lst .val vs)),.c (.pd (.str ev))],[]=>some (some ((Valid ⟨a,b,c,d,e⟩∧bw d s=true)∧∀v:Val,v∈vs→i64 v.a=true),.x (.c (.own 0)),[.obj (.set (cY (bM ⟨a,b,c,d,e⟩ s vs ev)) (bM ⟨a,b,c,d,e⟩ s vs ev).length)])
 |_,_=>none)
theorem BD:EntOk Tryz.prog uG:=entOk fun vs ck=>by
 unfold uG;dsimp only;split
 ·rename_i a b c d e s vs ev;exact entS fun hp=>ML ⟨a,b,c,d,e⟩ s vs ev hp
 ·exact entN
def AX:Cfg:=⟨aU,[uG,oL,kX]⟩
theorem xu:ag Tryz.prog AX.tab:=(ag.cons BD (ag.cons u7 (ag.cons ml ag.nil)))
theorem Qd:(bM c s vs ev).length≤c.trans.length:=by
 unfold bM eG
 rw[aP]
 exact aC (aY _ _) (by simp)
theorem wJ:(bM c s vs ev).Pairwise (· < ·):=kN _ _
theorem MH{a:List Int}(h:a.Pairwise (· < ·)):a.Nodup:=h.imp fun h e=>by omega
theorem yc(hz:c.vars.length≤2199023255552∧c.states.length≤2199023255552)(hv:∀v∈vs,i64 v.a=true):ah Tryz.prog 17 [.e .chart c,.l .int s,.l .val vs,.s ev] [] (.x (.c (.pd (.lst .int (j4 c s vs ev))))) []:=by
 unfold j4
 by_cases hg:(bp c==0&&bw c.states s)=true
 · rw [if_pos hg]
   have hg':=hg
   rw[af]at hg'
   have v:=(db c).1 (eq_of_beq hg'.1)
   have hst:=(dP c).1 v.few
   have hl:=Qd c s vs ev
   have own:ah Tryz.prog 17 [.e .chart c,.l .int s,.l .val vs,.s ev] [] (.x (.c (.own 0))) [.own 3 .int (bM c s vs ev)]:=by
    refine dg xu Tryz.func17 (.need (c.vars.length≤2199023255552∧c.states.length≤2199023255552) (.ite (!(bp c==(0:Int)&&bw c.states s)) (.ret (.p (.v (Value.slice none 0 0))) []) (.need ((Valid c∧bw c.states s=true)∧∀(v:Val),v∈vs→i64 v.a=true) (.need (MapOk (cY (bM c s vs ev)) ((bM c s vs ev).length)∧(cY (bM c s vs ev)).length≤1000) (.ret (.x (.c (.own 0))) [.own 3 .int (dC (List.map (fun x=>Prod.fst x) (cY (bM c s vs ev))))]))))) fun Γ=>?_
    refine⟨hz,fun hb=>?_,fun _=>⟨⟨⟨v,hg'.2⟩,hv⟩,⟨PS (MH (wJ c s vs ev)),by unfold cY;rw[List.length_zipIdx];exact aC hl (by omega)⟩,rfl,?_⟩⟩
    · have hb':(!(bp c==0&&bw c.states s))=true:=hb
      rw[hg]at hb';cases hb'
    · show[Chunk.own 3 ETy.int (dC ((cY (bM c s vs ev)).map (·.1)))]=_
      rw[lS,N0 ((wJ c s vs ev).imp fun h=>Int.le_of_lt h)]
   exact ah.chop (ck':=[]) (ah.frz aU [0] own rfl rfl)
 · rw[if_neg hg]
   refine ah.ret (ret:=.x (.c (.pd (.v (.slice none 0 0))))) ?_ fun V v hv=>iA hv
   refine dg xu Tryz.func17 (.need (c.vars.length≤2199023255552∧c.states.length≤2199023255552) (.ite (!(bp c==(0:Int)&&bw c.states s)) (.ret (.p (.v (Value.slice none 0 0))) []) (.need ((Valid c∧bw c.states s=true)∧∀(v:Val),v∈vs→i64 v.a=true) (.need (MapOk (cY (bM c s vs ev)) ((bM c s vs ev).length)∧(cY (bM c s vs ev)).length≤1000) (.ret (.x (.c (.own 0))) [.own 3 .int (dC (List.map (fun x=>Prod.fst x) (cY (bM c s vs ev))))]))))) fun Γ=>?_
   refine⟨hz,fun _=>⟨rfl,rfl⟩,fun hb=>?_⟩
   have hb':(!(bp c==0&&bw c.states s))=false:=hb
   rw[Bool.eq_false_iff.2 hg]at hb';cases hb'
def uH:Ent:=(17,fun
 |[.agg [.pd (.str a),.pd (.lst .str b),.pd (.lst .var c),.pd (.lst .stat d),.pd (.lst .tran e)],.c (.pd (.lst .int s)),.c (.pd (.lst .val vs)),.c (.pd (.str ev))],[]=>some (some ((c.length≤2199023255552∧d.length≤2199023255552)∧∀v:Val,v∈vs→i64 v.a=true),.x (.c (.pd (.lst .int (j4 ⟨a,b,c,d,e⟩ s vs ev)))),[])
 |_,_=>none)
theorem BE:EntOk Tryz.prog uH:=entOk fun vs ck=>by
 unfold uH;dsimp only;split
 ·rename_i a b c d e s vs ev;exact entS fun hp=>yc ⟨a,b,c,d,e⟩ s vs ev hp.1 hp.2
 ·exact entN
end Go.Proofs.YtlhgnjmdopjpeaaGreatDoor

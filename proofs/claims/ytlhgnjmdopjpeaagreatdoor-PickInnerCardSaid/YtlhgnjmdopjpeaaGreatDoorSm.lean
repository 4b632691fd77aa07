/- Contracts: the document's questions about Initial and about blocks. Conditions: trees that are right. Contracts: the document's questions about a transition. Conditions: trees that are right, names that differ. -/
import Derived.Test.YtlhgnjmdopjpeaaGreatDoorSk
import Derived.Test.YtlhgnjmdopjpeaaGreatDoorCc
import Derived.Test.YtlhgnjmdopjpeaaGreatDoorSg
namespace Go.Proofs.YtlhgnjmdopjpeaaGreatDoor
open Go Go.Ev
set_option maxRecDepth 100000
/-! ### a state's Initial -/
theorem PZ{l:List Ev.Stat}(hT:cn l=true){i:Nat}(hi:i<l.length):eg l i =
 if((ETy.get .stat l i).kind != 2&&(ETy.get .stat l i).kind != 5&&(ETy.get .stat l i).kind != 6)=true then(if decide (aE (ETy.get .stat l i).initial>0)=true then 1 else 0)
 else if(decide (aF l (ETy.get .stat l i).initial<0)||bg (ETy.get .stat l (aF l (ETy.get .stat l i).initial).toNat).kind)=true then 2
 else if((ETy.get .stat l i).kind==2&&bq l (aF l (ETy.get .stat l i).initial).toNat==(i:Int)||(ETy.get .stat l i).kind==5&&bq l (aF l (ETy.get .stat l i).initial).toNat==bq l i||(ETy.get .stat l i).kind==6&&eO l (bq l i) (aF l (ETy.get .stat l i).initial).toNat)=true then 0 else 2:=by
 have hp:=k8 l (ETy.get .stat l i).initial
 have e1:∀k:Int,(k != 2 && !bg k)=(k != 2&&k != 5&&k != 6):=fun k=>by
  unfold bg
  rw[Bool.not_or,Bool.and_assoc];rfl
 unfold eg
 rw[e1]
 generalize hs:ETy.get .stat l i=s at hp
 by_cases h:(s.kind != 2&&s.kind != 5&&s.kind != 6)=true
 · rw[if_pos h,if_pos h]
   cases s.initial with
   |nil=>rfl
   | cons a r =>
     have:decide (aE (a::r)>0)=true:=decide_eq_true (by show((a::r).length:Int)>0;rw[ax];omega)
     rw[if_pos this];rfl
 · rw [if_neg h,if_neg h]
   by_cases h2:(decide (aF l s.initial<0)||bg (ETy.get .stat l (aF l s.initial).toNat).kind)=true
   ·rw[if_pos h2,if_pos h2]
   · rw[if_neg h2,if_neg h2]
     have hk:s.kind=2∨s.kind=5∨s.kind=6:=by
      simp only[af,bne_iff_ne]at h
      omega
     have h3:¬aF l s.initial<0:=fun e=>h2 (by rw[decide_eq_true e,b9])
     obtain⟨q,hq⟩:=aA (show 0≤aF l s.initial by omega)
     rw[hq,ai]
     have hql:q<l.length:=by omega
     rw[kI hT hql,kI hT hi,HH hT hql hi]
     rcases hk with e |e |e
     · rw[e]
       show b7 (bq l q==(i:Int)) 2=if(true&&bq l q==(i:Int)||false&&_||false&&_)=true then 0 else 2
       rw[bb,br,br,bN,bN];rfl
     · rw[e]
       show b7 (bq l q==bq l i) 2=if(false&&_||true&&bq l q==bq l i||false&&_)=true then 0 else 2
       rw[bb,br,br,bj,bN];rfl
     · rw[e]
       show b7 (eO l (bq l i) q) 2=if(false&&_||false&&_||true&&eO l (bq l i) q)=true then 0 else 2
       rw[bb,br,br,bj,bj];rfl
def II:Cfg:=⟨aU,[mJ,lQ,nL,rY]⟩
theorem IJ:ag Tryz.prog II.tab:=(ag.cons pt (ag.cons lR (ag.cons mV (ag.cons tm ag.nil))))
variable(c:Chart)(l:List Deed)
theorem Kj(i:Nat)(hi:i<c.states.length)(hl:c.states.length≤maxLen)(hT:cn c.states=true):ah Tryz.prog 51 [.e .chart c,.i (i:Int)] [] (.x (.i (eg c.states i))) []:=by
 refine dg IJ Tryz.func51 (let x2:=(ETy.get .stat c.states i);let x1:=(Stat.initial x2);let x3:=((aF c.states x1).toNat);let x4:=(c.states.length:Int);let x5:=(aF c.states x1<(0:Int));.need (inRg i c.states.length) (.ite (Stat.kind x2 != (2:Int)&&Stat.kind x2 != (5:Int)&&Stat.kind x2 != (6:Int)) (.ite (decide (aE x1>(0:Int))) (.ret (.i 1) []) (.ret (.i 0) [])) (.need (c.states.length≤maxLen) (.need (decide x5=false→(0:Int)≤aF c.states x1∧aF c.states x1<x4) (.ite (decide x5||bg (Stat.kind (ETy.get .stat c.states x3))) (.ret (.i 2) []) (.need ((0:Int)≤(i:Int)∧(i:Int)<x4∧c.states.length≤maxLen) (.need ((0:Int)≤aF c.states x1∧aF c.states x1<x4∧c.states.length≤maxLen) (.need ((Stat.kind x2==(2:Int)&&bq c.states x3==(i:Int)||Stat.kind x2==(5:Int)&&bq c.states x3==bq c.states i)=false∧(Stat.kind x2==(6:Int))=true→(0:Int)≤aF c.states x1∧aF c.states x1<x4∧c.states.length≤maxLen) (.ite (Stat.kind x2==(2:Int)&&bq c.states x3==(i:Int)||Stat.kind x2==(5:Int)&&bq c.states x3==bq c.states i||Stat.kind x2==(6:Int)&&eO c.states (bq c.states i) x3) (.ret (.i 0) []) (.ret (.i 2) [])))))))))) fun Γ=>?_
 conv=>zeta
 have hp:=k8 c.states (ETy.get .stat c.states i).initial
 rw[PZ hT hi]
 have no:∀{b:Bool},b=false→¬b=true:=fun h e=>by rw[h]at e;cases e
 have hz:∀{b:Bool},(decide (aF c.states (ETy.get .stat c.states i).initial<0)||b)=false→0≤aF c.states (ETy.get .stat c.states i).initial∧aF c.states (ETy.get .stat c.states i).initial<(c.states.length:Int):=fun h=>by
  rw[al]at h
  have:=of_decide_eq_false h.1
  omega
 refine⟨⟨by omega,by omega⟩,fun h1=>⟨fun h2=>?_,fun h2=>?_⟩,fun h1=>⟨hl,fun h2=>?_,fun h2=>?_,fun h2=>⟨⟨by omega,by omega,hl⟩,⟨(hz h2).1,(hz h2).2,hl⟩,fun _=>⟨(hz h2).1,(hz h2).2,hl⟩,fun h3=>?_,fun h3=>?_⟩⟩⟩
 ·rw[if_pos h1,if_pos h2];exact⟨rfl,rfl⟩
 ·rw[if_pos h1,if_neg (no h2)];exact⟨rfl,rfl⟩
 ·exact hz (b:=false) (by rw[bN];exact h2)
 ·rw[if_neg (no h1),if_pos h2];exact⟨rfl,rfl⟩
 ·rw[if_neg (no h1),if_neg (no h2),if_pos h3];exact⟨rfl,rfl⟩
 ·rw[if_neg (no h1),if_neg (no h2),if_neg (no h3)];exact⟨rfl,rfl⟩
theorem Hb(i:Int)(h:0≤i∧i<(c.states.length:Int)∧c.states.length≤maxLen∧cn c.states=true):ah Tryz.prog 51 [.e .chart c,.i i] [] (.x (.i (eg c.states i.toNat))) []:=by
 obtain⟨k,rfl⟩:=aA h.1
 rw[ai]
 exact Kj c k (by omega) h.2.2.1 h.2.2.2
def uR:Ent:=(51,fun
 |[.agg [.pd (.str a),.pd (.lst .str b),.pd (.lst .var c),.pd (.lst .stat d),.pd (.lst .tran e)],.c (.pd (.int .i64 i))],[]=>some (some (0≤i∧i<(d.length:Int)∧d.length≤maxLen∧cn d=true),.x (.c (.pd (.int .i64 (eg d i.toNat)))),[])
 |_,_=>none)
theorem Jd:EntOk Tryz.prog uR:=entOk fun vs ck=>by
 unfold uR;dsimp only;split
 ·rename_i a b c d e i;exact entS fun hp=>Hb ⟨a,b,c,d,e⟩ i hp
 ·exact entN
/-! ### blocks -/
def Bj:Cfg:=⟨aU,[rU,wq,uD,BM]⟩
theorem xG:ag Tryz.prog Bj.tab:=(ag.cons F7 (ag.cons wt (ag.cons BA (ag.cons Eo ag.nil))))
theorem Ew(l:List Str)(s:Str):(l.any fun x=>x==s)=l.any fun x=>s==x:=by
 congr 1
 funext x
 exact Bool.beq_comm
abbrev zSl1(a:Chart):List Chunk:=[.cells [.pd (.str a.name),.pd (.lst .str a.events),.pd (.lst .var a.vars),.pd (.lst .stat a.states),.pd (.lst .tran a.trans)] 27]
abbrev zSl2:List PI:=[.code [1,1,0,1,0,0],.inLoop [1,1,0,1,0,0],.inBlock 0,.code [1,1,1]]
theorem Ka(Γ:Ctx)(hl:l.length≤maxLen)  : ∀(n k:Nat),l.length - k≤n→k≤l.length →
 J Tryz.prog 53 (ar Tryz.f53) Γ (Eq2 (.x (.i (kA c.events c.vars (l.drop k)))) []) zSl2 ({n:=70,fr:=[(1,.p (.lst .deed l)),(2,.x (.c (.loc 0 0))),(4,.i 0),(5,.i k)],ck:=(zSl1 c)}):=by
 intro n
 induction n with
 |zero=>?_
 |succ n ih=>?_
 all_goals
  intro k hn hk
  refine jg xG Tryz.func53 (let x1:Tree:=(.stop zSl2 {n:=70,fr:=[(1,.p (.lst .deed l)),(2,.x (.c (.loc 0 0))),(4,.i 0),(5,.i (IntKind.wrap .i64 ((k:Int)+1)))],ck:=(zSl1 c)});let x2:=(cm (Deed.expr (ETy.get .deed l k)) c.vars []);.ite (decide ((k:Int)<(l.length:Int))) (.need (inRg k l.length) (.ite (Deed.kind (ETy.get .deed l k) != (1:Int)) (.need (inRg k l.length) (.ite (!List.any c.events fun x=>x==Deed.name (ETy.get .deed l k)) (.ret (.i 2) []) x1)) (.need (inRg k l.length) (.ite (decide (ay (fun v=>v.name==Deed.name (ETy.get .deed l k)) c.vars (0:Int)<0)) (.ret (.i 2) []) (.need (inRg k l.length) (.ite (x2.2 != (0:Int)) (.ret (.i (x2.2)) []) (.need ((0:Int)≤ay (fun v=>v.name==Deed.name (ETy.get .deed l k)) c.vars (0:Int)∧ay (fun v=>v.name==Deed.name (ETy.get .deed l k)) c.vars (0:Int)<(c.vars.length:Int)) (.ite (x2.1 != Var.kind (ETy.get .var c.vars ((ay (fun v=>v.name==Deed.name (ETy.get .deed l k)) c.vars (0:Int)).toNat))) (.ret (.i 8) []) x1)))))))) (.ret (.i 0) [])) ?_
  conv=>zeta
  refine⟨fun hlt=>?_,fun hge=>?_⟩
  · have hk':k<l.length:=by have:=of_decide_eq_true hlt;omega
    rw[bx (t:=.deed) (l:=l) hk']
    refine⟨by omega,?_⟩
    generalize ETy.get .deed l k=v
    have hs:∀r,kA c.events c.vars (v::r)=if(dI c.events c.vars v != 0)=true then dI c.events c.vars v else kA c.events c.vars r:=fun _=>rfl
    have hin:=mq (fun x:Var=>x.name==v.name) c.vars 0 (by omega)
    have no:∀{b:Bool},b=false→¬b=true:=fun h e=>by rw[h]at e;cases e
    rw[Ew c.events v.name]
    refine⟨fun h1=>⟨⟨by omega,by omega⟩,fun h2=>?_,fun h2=>?_⟩,fun h1=>⟨⟨by omega,by omega⟩,fun h2=>?_,fun h2=>⟨⟨by omega,by omega⟩,fun h3=>?_,fun h3=>⟨?_,⟨fun h4=>?_,fun h4=>?_⟩⟩⟩⟩⟩
    · have he:dI c.events c.vars v=2:=by unfold dI;rw[if_pos h1,if_pos h2]
      rw[hs,he];exact⟨rfl,rfl⟩
    · have he:dI c.events c.vars v=0:=by unfold dI;rw[if_pos h1,if_neg (no h2)]
      rw[hs,he,if_neg (by decide)];(rw[aZ (aG hk' hl)];first |(exfalso;omega) |exact ih (k+1) (by omega) (by omega))
    · have he:dI c.events c.vars v=2:=by unfold dI;rw[if_neg (no h1)];exact if_pos h2
      rw[hs,he];exact⟨rfl,rfl⟩
    · have he:dI c.events c.vars v=(cm v.expr c.vars []).2:=by unfold dI;rw[if_neg (no h1),if_neg (by exact no h2),if_pos h3]
      rw[hs,he,if_pos h3];exact⟨rfl,rfl⟩
    · have:=of_decide_eq_false h2
      rcases hin with e |⟨e1,e2⟩
      ·exfalso;exact this (by show ay (fun x:Var=>x.name==v.name) c.vars 0<0;omega)
      ·exact⟨e1,by omega⟩
    · have he:dI c.events c.vars v=8:=by unfold dI;rw[if_neg (no h1),if_neg (by exact no h2),if_neg (no h3),if_pos h4]
      rw[hs,he];exact⟨rfl,rfl⟩
    · have he:dI c.events c.vars v=0:=by unfold dI;rw[if_neg (no h1),if_neg (by exact no h2),if_neg (no h3),if_neg (by exact no h4)]
      rw[hs,he,if_neg (by decide)];(rw[aZ (aG hk' hl)];first |(exfalso;omega) |exact ih (k+1) (by omega) (by omega))
  · rw[bS (l:=l) (by have:=of_decide_eq_false hge;omega)]
    exact⟨rfl,rfl⟩
theorem No:ah Tryz.prog 53 [.e .chart c,.l .deed l] [] (.x (.i (cE c.events c.vars l))) []:=by
 refine dg xG Tryz.func53 (.ite (decide ((l.length:Int)>0) && !gM l) (.ret (.i 1) []) (.stop zSl2 {n:=70,fr:=[(1,.p (.lst .deed l)),(2,.x (.c (.loc 0 0))),(4,.i 0),(5,.i 0)],ck:=(zSl1 c)})) fun Γ=>?_
 have e0:cE c.events c.vars l=if(decide ((l.length:Int)>0) && !gM l)=true then 1 else kA c.events c.vars l:=by
  unfold cE
  cases l with
  |nil=>rfl
  | cons a r =>
    have h1:(((a::r).length:Int)==0)=false:=by
     have:¬((a::r).length:Int)=0:=by rw[ax];omega
     simpa using this
    have h2:decide (((a::r).length:Int)>0)=true:=decide_eq_true (by rw[ax];omega)
    rw[h1,h2,bb,if_neg (by decide)]
 rw[e0]
 refine⟨fun h=>?_,fun h=>?_⟩
 ·rw[if_pos h];exact⟨rfl,rfl⟩
 · rw[if_neg (by rw[h];decide)]
   exact J.len 1 rfl fun hl=>Ka c l Γ hl l.length 0 (by omega) (by omega)
def BI:Ent:=(53,fun
 |[.agg [.pd (.str a),.pd (.lst .str b),.pd (.lst .var c),.pd (.lst .stat d),.pd (.lst .tran e)],.c (.pd (.lst .deed l))],[]=>some (none,.x (.c (.pd (.int .i64 (cE b c l)))),[])
 |_,_=>none)
theorem En:EntOk Tryz.prog BI:=entOk fun vs ck=>by
 unfold BI;dsimp only;split
 ·rename_i a b c d e l;exact entS fun hp=>No ⟨a,b,c,d,e⟩ l
 ·exact entN
variable(c:Chart){s:Str}(t:Tran)
theorem GQ(h:bk s=true):s.length≤12:=by
 unfold bk at h
 rw[af,af]at h
 have h1:=h.1.1
 unfold lE at h1
 rw[aK,al,al,al]at h1
 have h2:=of_decide_eq_false h1.1.1.2
 have h3:aE s=(s.length:Int):=rfl
 omega
theorem ox(s:Str):(aE s==0||s==qE||c.events.any fun x=>x==s)=nA c s:=by
 unfold nA
 rw[Ew]
 congr 2
 cases s with
 |nil=>rfl
 | cons a r =>
   have h1:¬aE (a::r)=0:=by show ¬(((a::r).length:Nat):Int)=0;rw[ax];omega
   rw[show(aE (a::r)==0)=false by simpa using h1];rfl
theorem DI{l:List Ev.Stat}{s:Str}{k:Nat}(hk:k<l.length):jB (l.take (k+1)) s=(jB (l.take k) s||(((ETy.get .stat l k).kind==2||(ETy.get .stat l k).kind==3)&&s==gi++(ETy.get .stat l k).name)):=by
 unfold jB
 rw[show ETy.get .stat l k=l[k]from ETy.get_eq (t:=.stat) (List.getElem?_eq_getElem hk),aL hk,fK];simp
def Hr(real:List Str)(t:Tran):Int :=
 if(!jf c t.event)=true then 2
 else if decide ((t.guard.length:Int)>0)=true then
  (if((cm t.guard c.vars real).2 != 0)=true then(cm t.guard c.vars real).2
   else if((cm t.guard c.vars real).1 != 2)=true then 8 else fI c t)
 else fI c t
theorem K4{c:Chart}(hT:cn c.states=true){t:Tran}(h0:0≤t.src)(h1:t.src<(c.states.length:Int)):fI c t =
 if decide (aE t.dst>0)=true then(if decide (aF c.states t.dst<0)=true then 2 else if decide (fO c.states t.src.toNat (aF c.states t.dst).toNat<0)=true then 9 else cE c.events c.vars t.acts)else cE c.events c.vars t.acts:=by
 unfold fI
 have hp:=k8 c.states t.dst
 have e1:(!(t.dst==[]))=decide (aE t.dst>0):=by
  cases t.dst with
  |nil=>rfl
  |cons a r=>rw[decide_eq_true (show aE (a::r)>0 by show(((a::r).length:Nat):Int)>0;rw[ax];omega)];rfl
 rw[e1]
 congr 1
 by_cases h2:aF c.states t.dst<0
 ·rw[if_pos (decide_eq_true h2),if_pos (decide_eq_true h2)]
 · have h3:¬decide (aF c.states t.dst<0)=true:=by simpa using h2
   rw[if_neg h3,if_neg h3]
   obtain⟨a,ha⟩:=aA h0
   obtain⟨b,hb⟩:=aA (show 0≤aF c.states t.dst by omega)
   rw[ha,hb,ai,ai,Ek hT (by omega) (by omega)]
def Bk:Cfg:=⟨aU,[wq,BM,oH,mJ,uO,BI]⟩
theorem xH:ag Tryz.prog Bk.tab:=(ag.cons wt (ag.cons Eo (ag.cons uT (ag.cons pt (ag.cons BJ (ag.cons En ag.nil))))))
abbrev zSm1(a:Chart):Chunk:=.cells [.pd (.str a.name),.pd (.lst .str a.events),.pd (.lst .var a.vars),.pd (.lst .stat a.states),.pd (.lst .tran a.trans)] 27
abbrev zSm2:List PI:=[.code [1,1,1,1,1,0,1,0,0],.inLoop [1,1,1,1,1,0,1,0,0],.inBlock 0,.code [1,1,1,1,1,1]]
theorem NL(hT:cn c.states=true)(hn:(c.states.map fun s:Ev.Stat=>s.name).Nodup)(hl:c.states.length≤1466015503701)(hnm:∀s∈c.states,bk s.name=true)(h0:0≤t.src)(h1:t.src<(c.states.length:Int))(Γ:Ctx):∀n k:Nat,c.states.length - k≤n→k≤c.states.length →
 J Tryz.prog 54 (ar Tryz.f54) Γ (Eq2 (.x (.i (Hr c (dS c.states) t))) []) zSm2 ({n:=164,fr:=[(2,.x (.c (.loc 0 0))),(4,.i 0),(5,.x (.c (.loc 1 0))),(6,.p (.bool ((nA c t.event||jB (c.states.take k) t.event)))),(7,.i ((k:Int)))],ck:=[zSm1 c,.cells [.pd (.int .i64 t.src),.pd (.str t.event),.pd (.lst .cell t.guard),.pd (.str t.dst),.pd (.lst .deed t.acts)] 42]}):=by
 have hm:c.states.length≤maxLen:=aC hl (by decide)
 have no:∀{b:Bool},b=false→¬b=true:=fun h e=>by rw[h]at e;cases e
 intro n
 induction n with
 |zero=>?_
 |succ n ih=>?_
 all_goals
  intro k hn' hk
  generalize hkn:(nA c t.event||jB (c.states.take k) t.event)=kn
  refine jg xH Tryz.func54 (let x7:=(c.states.length:Int);let x9:Tree:=(.ret (.i (cE c.events c.vars t.acts)) []);let x1:Tree:=(.ite (decide (aE t.dst>(0:Int))) (.need (c.states.length≤maxLen) (.ite (decide (aF c.states t.dst<(0:Int))) (.ret (.i 2) []) (.need ((0:Int)≤t.src∧t.src<x7∧(0:Int)≤aF c.states t.dst∧aF c.states t.dst<x7∧c.states.length≤maxLen) (.ite (decide (fO c.states (Int.toNat t.src) ((aF c.states t.dst).toNat)<(0:Int))) (.ret (.i 9) []) x9)))) x9);let x2:List Chunk:=[zSm1 c,.cells [.i t.src,.pd (.str t.event),.pd (.lst .cell t.guard),.pd (.str t.dst),.pd (.lst .deed t.acts)] 42];let x5:=(ETy.get .stat c.states k);let x3:=(Stat.kind x5==(2:Int)||Stat.kind x5==(3:Int));let x4:List PI:=zSm2;let x6:=(cm t.guard c.vars (dL false c.states));let x8:=(((16,110,true,gk true x3 none).2).2);let x10:=(IntKind.wrap .i64 ((k:Int)+1));.ite (decide ((k:Int)<x7)) (.need (inRg k c.states.length) (.need ((((7,101,false,gk false (Stat.kind x5==(2:Int)) none).2).2).2→(0:Int)≤(k:Int)∧(k:Int)<x7) (.need (x8.2→(0:Int)≤(k:Int)∧(k:Int)<x7) (.need (x8.2→5+(Stat.name x5).length≤9223372036854775807) (.ite (x3&&t.event==[100,111,110,101,46]++Stat.name x5) (.stop x4 {n:=164,fr:=[(2,.x (.c (.loc 0 0))),(4,.i 0),(5,.x (.c (.loc 1 0))),(6,.p (.bool true)),(7,.i x10)],ck:=x2,kn:=[6]}) (.stop x4 {n:=164,fr:=[(2,.x (.c (.loc 0 0))),(4,.i 0),(5,.x (.c (.loc 1 0))),(6,.p (.bool kn)),(7,.i x10)],ck:=x2})))))) (.ite (!kn) (.ret (.i 2) []) (.ite (decide ((t.guard.length:Int)>0)) (.need (c.states.length≤1466015503701) (.ite (x6.2 != (0:Int)) (.ret (.i (x6.2)) []) (.ite (x6.1 != (2:Int)) (.ret (.i 8) []) x1))) x1))) ?_
  conv=>zeta
  refine⟨fun hlt=>?_,fun hge=>?_⟩
  · have hk':k<c.states.length:=by have:=of_decide_eq_true hlt;omega
    have hs:=DI (s:=t.event) hk'
    have hw:=GQ (hnm (ETy.get .stat c.states k) (by rw[ETy.get_eq (t:=.stat) (List.getElem?_eq_getElem hk')];exact aW hk'))
    have hx:(nA c t.event||jB (c.states.take (k+1)) t.event)=(kn||(((ETy.get .stat c.states k).kind==2||(ETy.get .stat c.states k).kind==3)&&t.event==gi++(ETy.get .stat c.states k).name)):=by
     rw[hs,←fy,hkn]
    refine⟨⟨by omega,by omega⟩,fun _=>⟨by omega,by omega⟩,fun _=>⟨by omega,by omega⟩,fun _=>by omega,fun hb=>?_,fun hb=>?_⟩
    · have hb':(((ETy.get .stat c.states k).kind==2||(ETy.get .stat c.states k).kind==3)&&t.event==gi++(ETy.get .stat c.states k).name)=true:=hb
      rw[hb',Bool.or_true]at hx
      rw[aZ (aG hk' hm)]
      first
      |(exfalso;omega)
      | (have h9:=ih (k+1) (by omega) (by omega)
         rw[hx]at h9
         exact J.kn [] h9)
    · have hb':(((ETy.get .stat c.states k).kind==2||(ETy.get .stat c.states k).kind==3)&&t.event==gi++(ETy.get .stat c.states k).name)=false:=hb
      rw[hb',bN]at hx
      rw[aZ (aG hk' hm)]
      first
      |(exfalso;omega)
      | (have h9:=ih (k+1) (by omega) (by omega)
         rw[hx]at h9
         exact J.kn [] h9)
  · have hke:k=c.states.length:=by have:=of_decide_eq_false hge;omega
    subst hke
    rw[a8 (av _),←L8 hn]at hkn
    have ha:=K4 hT h0 h1
    have hz:decide (aF c.states t.dst<0)=false→0≤aF c.states t.dst∧aF c.states t.dst<(c.states.length:Int):=fun h=>by
     have:=of_decide_eq_false h
     have:=k8 c.states t.dst
     omega
    unfold Hr
    rw[hkn,ha,←CC]
    refine⟨fun h2=>?_,fun h2=>⟨fun hg=>⟨hl,fun h3=>?_,fun h3=>⟨fun h4=>?_,fun h4=>⟨fun h5=>⟨hm,fun h6=>?_,fun h6=>⟨⟨h0,h1,(hz h6).1,(hz h6).2,hm⟩,fun h7=>?_,fun h7=>?_⟩⟩,fun h5=>?_⟩⟩⟩,fun hg=>⟨fun h5=>⟨hm,fun h6=>?_,fun h6=>⟨⟨h0,h1,(hz h6).1,(hz h6).2,hm⟩,fun h7=>?_,fun h7=>?_⟩⟩,fun h5=>?_⟩⟩⟩
    ·rw[if_pos h2];exact⟨rfl,rfl⟩
    ·rw[if_neg (no h2),if_pos hg,if_pos h3];exact⟨rfl,rfl⟩
    ·rw[if_neg (no h2),if_pos hg,if_neg (no h3),if_pos h4];exact⟨rfl,rfl⟩
    ·rw[if_neg (no h2),if_pos hg,if_neg (no h3),if_neg (no h4),if_pos h5,if_pos h6];exact⟨rfl,rfl⟩
    ·rw[if_neg (no h2),if_pos hg,if_neg (no h3),if_neg (no h4),if_pos h5,if_neg (no h6),if_pos h7];exact⟨rfl,rfl⟩
    ·rw[if_neg (no h2),if_pos hg,if_neg (no h3),if_neg (no h4),if_pos h5,if_neg (no h6),if_neg (no h7)];exact⟨rfl,rfl⟩
    ·rw[if_neg (no h2),if_pos hg,if_neg (no h3),if_neg (no h4),if_neg (no h5)];exact⟨rfl,rfl⟩
    ·rw[if_neg (no h2),if_neg (no hg),if_pos h5,if_pos h6];exact⟨rfl,rfl⟩
    ·rw[if_neg (no h2),if_neg (no hg),if_pos h5,if_neg (no h6),if_pos h7];exact⟨rfl,rfl⟩
    ·rw[if_neg (no h2),if_neg (no hg),if_pos h5,if_neg (no h6),if_neg (no h7)];exact⟨rfl,rfl⟩
    ·rw[if_neg (no h2),if_neg (no hg),if_neg (no h5)];exact⟨rfl,rfl⟩
theorem QU(i:Nat)(hi:i<c.trans.length)(hi2:c.trans.length≤maxLen)(hT:cn c.states=true)(hn:(c.states.map fun s:Ev.Stat=>s.name).Nodup)(hl:c.states.length≤1466015503701)(hnm:∀s∈c.states,bk s.name=true):ah Tryz.prog 54 [.e .chart c,.i (i:Int)] [] (.x (.i (dk c i (dS c.states) (ETy.get .tran c.trans i)))) []:=by
 refine dg xH Tryz.func54 (let x1:=(ETy.get .tran c.trans i);let x2:=(ETy.get .stat c.states ((Tran.src x1).toNat));let x3:=(c.states.length:Int);.need (inRg i c.trans.length) (.need ((((14,30,true,gk true (decide ((i:Int)>0)) (some (11,27,false,gk false (decide (Tran.src x1<(0:Int))||decide (Tran.src x1≥x3)) none))).2).2).2→(0:Int)≤IntKind.wrap .i64 ((i:Int) - 1)∧IntKind.wrap .i64 ((i:Int) - 1)<(c.trans.length:Int)) (.ite (decide (Tran.src x1<(0:Int))||decide (Tran.src x1≥x3)||decide ((i:Int)>0)&&decide (Tran.src (ETy.get .tran c.trans ((IntKind.wrap .i64 ((i:Int) - 1)).toNat))>Tran.src x1)) (.ret (.i 1) []) (.need ((0:Int)≤Tran.src x1∧Tran.src x1<x3) (.need ((Stat.kind x2 != (1:Int))=true→(0:Int)≤Tran.src x1∧Tran.src x1<x3) (.need ((Stat.kind x2 != (1:Int)&&Stat.kind x2 != (2:Int))=true→(0:Int)≤Tran.src x1∧Tran.src x1<x3) (.ite (Stat.kind x2 != (1:Int)&&Stat.kind x2 != (2:Int)&&Stat.kind x2 != (3:Int)) (.ret (.i 1) []) (.stop zSm2 {n:=164,fr:=[(2,.x (.c (.loc 0 0))),(4,.i 0),(5,.x (.c (.loc 1 0))),(6,.p (.bool (aE (Tran.event x1)==(0:Int)||Tran.event x1==[101,114,114,111,114]||List.any c.events fun x=>x==Tran.event x1))),(7,.i 0)],ck:=[zSm1 c,.cells [.i (Tran.src x1),.pd (.str (Tran.event x1)),.pd (.lst .cell (Tran.guard x1)),.pd (.str (Tran.dst x1)),.pd (.lst .deed (Tran.acts x1))] 42]})))))))) fun Γ=>?_
 conv=>zeta
 have et:∀t:Tran,dk c i (dS c.states) t=if gA c i t=true then 1 else Hr c (dS c.states) t:=fun _=>rfl
 rw[et]
 have hm:maxLen≤9223372036854775807:=by decide
 refine⟨⟨by omega,by omega⟩,fun h=>?_,?_⟩
 · have h1:decide ((i:Int)>0)=true:=h.2
   have:=of_decide_eq_true h1
   rw[cg (by omega) (by omega)];omega
 generalize ETy.get .tran c.trans i=t
 have hb:=ox c t.event
 have S:=kp hT
 refine⟨fun h1=>?_,fun h1=>?_⟩
 · have h2:gA c i t=true:=by
    unfold gA
    have h3:(decide (t.src<0)||decide (t.src≥(c.states.length:Int))||decide ((i:Int)>0)&&decide (t.src<(ETy.get .tran c.trans (IntKind.wrap .i64 ((i:Int) - 1)).toNat).src))=true:=h1
    rw[h3,b9]
   rw[if_pos h2];exact⟨rfl,rfl⟩
 have h3:(decide (t.src<0)||decide (t.src≥(c.states.length:Int))||decide ((i:Int)>0)&&decide (t.src<(ETy.get .tran c.trans (IntKind.wrap .i64 ((i:Int) - 1)).toNat).src))=false:=h1
 have hs:0≤t.src∧t.src<(c.states.length:Int):=by
  rw[al,al]at h3
  have:=of_decide_eq_false h3.1.1
  have:=of_decide_eq_false h3.1.2
  omega
 have hk:=S.k1 t.src.toNat (by omega)
 have hbad:gA c i t=((ETy.get .stat c.states t.src.toNat).kind != 1&&(ETy.get .stat c.states t.src.toNat).kind != 2&&(ETy.get .stat c.states t.src.toNat).kind != 3):=by
  unfold gA
  rw[h3,bj]
  generalize (ETy.get .stat c.states t.src.toNat).kind=q at hk
  rw[aT]
  simp only[af,decide_eq_true_eq,bne_iff_ne]
  omega
 rw[hbad]
 refine⟨hs,fun _=>hs,fun _=>hs,fun h4=>?_,fun h4=>?_⟩
 ·rw[if_pos h4];exact⟨rfl,rfl⟩
 · rw[if_neg (by rw[h4];decide)]
   have h5:=NL c t hT hn hl hnm hs.1 hs.2 Γ c.states.length 0 (by omega) (by omega)
   rw[show jB (c.states.take 0) t.event=false from rfl,bN,←hb]at h5
   exact h5
theorem NM(i:Int)(h:0≤i∧i<(c.trans.length:Int)∧c.trans.length≤maxLen∧cn c.states=true∧(c.states.map fun s:Ev.Stat=>s.name).Nodup∧c.states.length≤1466015503701∧∀s∈c.states,bk s.name=true):ah Tryz.prog 54 [.e .chart c,.i i] [] (.x (.i (dk c i.toNat (dS c.states) (ETy.get .tran c.trans i.toNat)))) []:=by
 obtain⟨k,rfl⟩:=aA h.1
 rw[ai]
 exact QU c k (by omega) h.2.2.1 h.2.2.2.1 h.2.2.2.2.1 h.2.2.2.2.2.1 h.2.2.2.2.2.2
def Gb:Ent:=(54,fun
 |[.agg [.pd (.str a),.pd (.lst .str b),.pd (.lst .var c),.pd (.lst .stat d),.pd (.lst .tran e)],.c (.pd (.int .i64 i))],[]=>some (some (0≤i∧i<(e.length:Int)∧e.length≤maxLen∧cn d=true∧(d.map fun s:Ev.Stat=>s.name).Nodup∧d.length≤1466015503701∧∀s∈d,bk s.name=true),.x (.c (.pd (.int .i64 (dk ⟨a,b,c,d,e⟩ i.toNat (dS d) (ETy.get .tran e i.toNat))))),[])
 |_,_=>none)
theorem PH:EntOk Tryz.prog Gb:=entOk fun vs ck=>by
 unfold Gb;dsimp only;split
 ·rename_i a b c d e i;exact entS fun hp=>NM ⟨a,b,c,d,e⟩ i hp
 ·exact entN
end Go.Proofs.YtlhgnjmdopjpeaaGreatDoor

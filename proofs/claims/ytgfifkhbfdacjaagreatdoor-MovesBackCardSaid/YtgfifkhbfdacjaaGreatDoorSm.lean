/- Contracts: the document's questions about Initial and about blocks. Conditions: trees that are right. Contracts: the document's questions about a transition. Conditions: trees that are right, names that differ. -/
import Derived.Test.YtgfifkhbfdacjaaGreatDoorSk
import Derived.Test.YtgfifkhbfdacjaaGreatDoorVk
import Derived.Test.YtgfifkhbfdacjaaGreatDoorNh
namespace Go.Proofs.YtgfifkhbfdacjaaGreatDoor
open Go Go.Ev
set_option maxRecDepth 100000
/-! ### a state's Initial -/
theorem JQ {l:List Ev.Stat} (hT:bZ l=true) {i:Nat} (hi:i<l.length):dd l i =
 if ((ETy.get .stat l i).kind != 2&&(ETy.get .stat l i).kind != 5&&(ETy.get .stat l i).kind != 6)=true then (if decide (aB (ETy.get .stat l i).initial>0)=true then 1 else 0)
 else if (decide (az l (ETy.get .stat l i).initial<0)||aO (ETy.get .stat l (az l (ETy.get .stat l i).initial).toNat).kind)=true then 2
 else if ((ETy.get .stat l i).kind==2&&a7 l (az l (ETy.get .stat l i).initial).toNat==(i:Int)||(ETy.get .stat l i).kind==5&&a7 l (az l (ETy.get .stat l i).initial).toNat==a7 l i||(ETy.get .stat l i).kind==6&&c9 l (a7 l i) (az l (ETy.get .stat l i).initial).toNat)=true then 0 else 2:=by
 have hp:=jh l (ETy.get .stat l i).initial
 have e1:∀ k:Int,(k != 2 && !aO k)=(k != 2&&k != 5&&k != 6):=fun k=>by
  unfold aO
  rw [Bool.not_or,eT]; rfl
 unfold dd
 rw [e1]
 generalize hs:ETy.get .stat l i=s at hp
 by_cases h:(s.kind != 2&&s.kind != 5&&s.kind != 6)=true
 · rw [if_pos h,if_pos h]
   cases s.initial with
   | nil=>rfl
   | cons a r =>
     have:decide (aB (a::r)>0)=true:=decide_eq_true (by show ((a::r).length:Int)>0; rw [aF]; omega)
     rw [if_pos this]; rfl
 · rw [if_neg h,if_neg h]
   by_cases h2:(decide (az l s.initial<0)||aO (ETy.get .stat l (az l s.initial).toNat).kind)=true
   · rw [if_pos h2,if_pos h2]
   · rw [if_neg h2,if_neg h2]
     have hk:s.kind=2∨s.kind=5∨s.kind=6:=by
      simp only [af,bne_iff_ne] at h
      omega
     have h3:¬az l s.initial<0:=fun e=>h2 (by rw [decide_eq_true e,b6])
     obtain ⟨q,hq⟩:=aD (show 0≤az l s.initial by omega)
     rw [hq,ai]
     have hql:q<l.length:=by omega
     rw [fY hT hql,fY hT hi,BL hT hql hi]
     rcases hk with e | e | e
     · rw [e]
       show bT (a7 l q==(i:Int)) 2=if (true&&a7 l q==(i:Int)||false&&_||false&&_)=true then 0 else 2
       rw [aS,a6,a6,bU,bU]; rfl
     · rw [e]
       show bT (a7 l q==a7 l i) 2=if (false&&_||true&&a7 l q==a7 l i||false&&_)=true then 0 else 2
       rw [aS,a6,a6,bf,bU]; rfl
     · rw [e]
       show bT (c9 l (a7 l i) q) 2=if (false&&_||false&&_||true&&c9 l (a7 l i) q)=true then 0 else 2
       rw [aS,a6,a6,bf,bf]; rfl
def EC:Cfg:=⟨aY,[l7,jE,lF,oU]⟩
theorem Db:ag Tryz.prog EC.tab:=(ag.cons rU (ag.cons jT (ag.cons kX (ag.cons pN ag.nil))))
variable (c:Chart) (l:List Deed)
theorem Dc (i:Nat) (hi:i<c.states.length) (hl:c.states.length≤maxLen) (hT:bZ c.states=true):ah Tryz.prog 69 [.e .chart c,.i (i:Int)] [] (.x (.i (dd c.states i))) []:=by
 refine dg Db Tryz.func69 (let x2:=(ETy.get .stat c.states i); let x1:=(Stat.initial x2); let x3:=((az c.states x1).toNat); let x4:=(c.states.length:Int); let x5:=(az c.states x1<(0:Int)); .need (inRg i c.states.length) (.ite (Stat.kind x2 != (2:Int)&&Stat.kind x2 != (5:Int)&&Stat.kind x2 != (6:Int)) (.ite (decide (aB x1>(0:Int))) (.ret (.i 1) []) (.ret (.i 0) [])) (.need (c.states.length≤maxLen) (.need (decide x5=false→(0:Int)≤az c.states x1∧az c.states x1<x4) (.ite (decide x5||aO (Stat.kind (ETy.get .stat c.states x3))) (.ret (.i 2) []) (.need ((0:Int)≤(i:Int)∧(i:Int)<x4∧c.states.length≤maxLen) (.need ((0:Int)≤az c.states x1∧az c.states x1<x4∧c.states.length≤maxLen) (.need ((Stat.kind x2==(2:Int)&&a7 c.states x3==(i:Int)||Stat.kind x2==(5:Int)&&a7 c.states x3==a7 c.states i)=false∧(Stat.kind x2==(6:Int))=true→(0:Int)≤az c.states x1∧az c.states x1<x4∧c.states.length≤maxLen) (.ite (Stat.kind x2==(2:Int)&&a7 c.states x3==(i:Int)||Stat.kind x2==(5:Int)&&a7 c.states x3==a7 c.states i||Stat.kind x2==(6:Int)&&c9 c.states (a7 c.states i) x3) (.ret (.i 0) []) (.ret (.i 2) [])))))))))) fun Γ=>?_
 conv=>zeta
 have hp:=jh c.states (ETy.get .stat c.states i).initial
 rw [JQ hT hi]
 have no:∀ {b:Bool},b=false→¬b=true:=fun h e=>by rw [h] at e; cases e
 have hz:∀ {b:Bool},(decide (az c.states (ETy.get .stat c.states i).initial<0)||b)=false→0≤az c.states (ETy.get .stat c.states i).initial∧az c.states (ETy.get .stat c.states i).initial<(c.states.length:Int):=fun h=>by
  rw [ay] at h
  have:=of_decide_eq_false h.1
  omega
 refine ⟨⟨by omega,by omega⟩,fun h1=>⟨fun h2=>?_,fun h2=>?_⟩,fun h1=>⟨hl,fun h2=>?_,fun h2=>?_,fun h2=>⟨⟨by omega,by omega,hl⟩,⟨(hz h2).1,(hz h2).2,hl⟩,fun _=>⟨(hz h2).1,(hz h2).2,hl⟩,fun h3=>?_,fun h3=>?_⟩⟩⟩
 · rw [if_pos h1,if_pos h2]; exact ⟨rfl,rfl⟩
 · rw [if_pos h1,if_neg (no h2)]; exact ⟨rfl,rfl⟩
 · exact hz (b:=false) (by rw [bU]; exact h2)
 · rw [if_neg (no h1),if_pos h2]; exact ⟨rfl,rfl⟩
 · rw [if_neg (no h1),if_neg (no h2),if_pos h3]; exact ⟨rfl,rfl⟩
 · rw [if_neg (no h1),if_neg (no h2),if_neg (no h3)]; exact ⟨rfl,rfl⟩
theorem BO (i:Int) (h:0≤i∧i<(c.states.length:Int)∧c.states.length≤maxLen∧bZ c.states=true):ah Tryz.prog 69 [.e .chart c,.i i] [] (.x (.i (dd c.states i.toNat))) []:=by
 obtain ⟨k,rfl⟩:=aD h.1
 rw [ai]
 exact Dc c k (by omega) h.2.2.1 h.2.2.2
def qM:Ent:=(69,fun
 | [.agg [.pd (.str a),.pd (.lst .str b),.pd (.lst .var c),.pd (.lst .stat d),.pd (.lst .tran e)],.c (.pd (.int .i64 i))],[]=>some (some (0≤i∧i<(d.length:Int)∧d.length≤maxLen∧bZ d=true),.x (.c (.pd (.int .i64 (dd d i.toNat)))),[])
 | _,_=>none)
theorem DE:EntOk Tryz.prog qM:=entOk fun vs ck=>by
 unfold qM; dsimp only; split
 · rename_i a b c d e i; exact entS fun hp=>BO ⟨a,b,c,d,e⟩ i hp
 · exact entN
/-! ### blocks -/
def xd:Cfg:=⟨aY,[oL,r8,rI,xL]⟩
theorem tY:ag Tryz.prog xd.tab:=(ag.cons B0 (ag.cons sO (ag.cons wy (ag.cons yQ ag.nil))))
theorem Au (l:List Str) (s:Str):(l.any fun x=>x==s)=l.any fun x=>s==x:=by
 congr 1
 funext x
 exact Bool.beq_comm
abbrev zSl1 (a:Chart):List Chunk:=[.cells [.pd (.str a.name),.pd (.lst .str a.events),.pd (.lst .var a.vars),.pd (.lst .stat a.states),.pd (.lst .tran a.trans)] 27]
abbrev zSl2:List PI:=[.code [1,1,0,1,0,0],.inLoop [1,1,0,1,0,0],.inBlock 0,.code [1,1,1]]
theorem D9 (Γ:Ctx) (hl:l.length≤maxLen)  : ∀ (n k:Nat),l.length - k≤n→k≤l.length →
 J Tryz.prog 71 (au Tryz.f71) Γ (Eq2 (.x (.i (iW c.events c.vars (l.drop k)))) []) zSl2 ({ n:=70,fr:=[(1,.p (.lst .deed l)),(2,.x (.c (.loc 0 0))),(4,.i 0),(5,.i k)],ck:=(zSl1 c) }):=by
 intro n
 induction n with
 | zero=>?_
 | succ n ih=>?_
 all_goals
  intro k hn hk
  refine jg tY Tryz.func71 (let x1:Tree:=(.stop zSl2 { n:=70,fr:=[(1,.p (.lst .deed l)),(2,.x (.c (.loc 0 0))),(4,.i 0),(5,.i (IntKind.wrap .i64 ((k:Int)+1)))],ck:=(zSl1 c) }); let x2:=(bY (Deed.expr (ETy.get .deed l k)) c.vars []); .ite (decide ((k:Int)<(l.length:Int))) (.need (inRg k l.length) (.ite (Deed.kind (ETy.get .deed l k) != (1:Int)) (.need (inRg k l.length) (.ite (!List.any c.events fun x=>x==Deed.name (ETy.get .deed l k)) (.ret (.i 2) []) x1)) (.need (inRg k l.length) (.ite (decide (aC (fun v=>v.name==Deed.name (ETy.get .deed l k)) c.vars (0:Int)<0)) (.ret (.i 2) []) (.need (inRg k l.length) (.ite (x2.2 != (0:Int)) (.ret (.i (x2.2)) []) (.need ((0:Int)≤aC (fun v=>v.name==Deed.name (ETy.get .deed l k)) c.vars (0:Int)∧aC (fun v=>v.name==Deed.name (ETy.get .deed l k)) c.vars (0:Int)<(c.vars.length:Int)) (.ite (x2.1 != Var.kind (ETy.get .var c.vars ((aC (fun v=>v.name==Deed.name (ETy.get .deed l k)) c.vars (0:Int)).toNat))) (.ret (.i 8) []) x1)))))))) (.ret (.i 0) [])) ?_
  conv=>zeta
  refine ⟨fun hlt=>?_,fun hge=>?_⟩
  · have hk':k<l.length:=by have:=of_decide_eq_true hlt; omega
    rw [bD (t:=.deed) (l:=l) hk']
    refine ⟨by omega,?_⟩
    generalize ETy.get .deed l k=v
    have hs:∀ r,iW c.events c.vars (v::r)=if (cU c.events c.vars v != 0)=true then cU c.events c.vars v else iW c.events c.vars r:=fun _=>rfl
    have hin:=kp (fun x:Var=>x.name==v.name) c.vars 0 (by omega)
    have no:∀ {b:Bool},b=false→¬b=true:=fun h e=>by rw [h] at e; cases e
    rw [Au c.events v.name]
    refine ⟨fun h1=>⟨⟨by omega,by omega⟩,fun h2=>?_,fun h2=>?_⟩,fun h1=>⟨⟨by omega,by omega⟩,fun h2=>?_,fun h2=>⟨⟨by omega,by omega⟩,fun h3=>?_,fun h3=>⟨?_,⟨fun h4=>?_,fun h4=>?_⟩⟩⟩⟩⟩
    · have he:cU c.events c.vars v=2:=by unfold cU; rw [if_pos h1,if_pos h2]
      rw [hs,he]; exact ⟨rfl,rfl⟩
    · have he:cU c.events c.vars v=0:=by unfold cU; rw [if_pos h1,if_neg (no h2)]
      rw [hs,he,if_neg (by decide)]; (rw [aX (aE hk' hl)]; first | (exfalso; omega) | exact ih (k+1) (by omega) (by omega))
    · have he:cU c.events c.vars v=2:=by unfold cU; rw [if_neg (no h1)]; exact if_pos h2
      rw [hs,he]; exact ⟨rfl,rfl⟩
    · have he:cU c.events c.vars v=(bY v.expr c.vars []).2:=by unfold cU; rw [if_neg (no h1),if_neg (by exact no h2),if_pos h3]
      rw [hs,he,if_pos h3]; exact ⟨rfl,rfl⟩
    · have:=of_decide_eq_false h2
      rcases hin with e | ⟨e1,e2⟩
      · exfalso; exact this (by show aC (fun x:Var=>x.name==v.name) c.vars 0<0; omega)
      · exact ⟨e1,by omega⟩
    · have he:cU c.events c.vars v=8:=by unfold cU; rw [if_neg (no h1),if_neg (by exact no h2),if_neg (no h3),if_pos h4]
      rw [hs,he]; exact ⟨rfl,rfl⟩
    · have he:cU c.events c.vars v=0:=by unfold cU; rw [if_neg (no h1),if_neg (by exact no h2),if_neg (no h3),if_neg (by exact no h4)]
      rw [hs,he,if_neg (by decide)]; (rw [aX (aE hk' hl)]; first | (exfalso; omega) | exact ih (k+1) (by omega) (by omega))
  · rw [bO (l:=l) (by have:=of_decide_eq_false hge; omega)]
    exact ⟨rfl,rfl⟩
theorem F4:ah Tryz.prog 71 [.e .chart c,.l .deed l] [] (.x (.i (b9 c.events c.vars l))) []:=by
 refine dg tY Tryz.func71 (.ite (decide ((l.length:Int)>0) && !ft l) (.ret (.i 1) []) (.stop zSl2 { n:=70,fr:=[(1,.p (.lst .deed l)),(2,.x (.c (.loc 0 0))),(4,.i 0),(5,.i 0)],ck:=(zSl1 c) })) fun Γ=>?_
 have e0:b9 c.events c.vars l=if (decide ((l.length:Int)>0) && !ft l)=true then 1 else iW c.events c.vars l:=by
  unfold b9
  cases l with
  | nil=>rfl
  | cons a r =>
    have h1:(((a::r).length:Int)==0)=false:=by
     have:¬((a::r).length:Int)=0:=by rw [aF]; omega
     simpa using this
    have h2:decide (((a::r).length:Int)>0)=true:=decide_eq_true (by rw [aF]; omega)
    rw [h1,h2,aS,if_neg (by decide)]
 rw [e0]
 refine ⟨fun h=>?_,fun h=>?_⟩
 · rw [if_pos h]; exact ⟨rfl,rfl⟩
 · rw [if_neg (by rw [h]; decide)]
   exact J.len 1 rfl fun hl=>D9 c l Γ hl l.length 0 (by omega) (by omega)
def xC:Ent:=(71,fun
 | [.agg [.pd (.str a),.pd (.lst .str b),.pd (.lst .var c),.pd (.lst .stat d),.pd (.lst .tran e)],.c (.pd (.lst .deed l))],[]=>some (none,.x (.c (.pd (.int .i64 (b9 b c l)))),[])
 | _,_=>none)
theorem Ap:EntOk Tryz.prog xC:=entOk fun vs ck=>by
 unfold xC; dsimp only; split
 · rename_i a b c d e l; exact entS fun hp=>F4 ⟨a,b,c,d,e⟩ l
 · exact entN
end Go.Proofs.YtgfifkhbfdacjaaGreatDoor
namespace Go.Proofs.YtgfifkhbfdacjaaGreatDoor
open Go Go.Ev
set_option maxRecDepth 100000
variable (c:Chart) {s:Str} (t:Tran)
theorem Az (h:aZ s=true):s.length≤12:=by
 unfold aZ at h
 rw [af,af] at h
 have h1:=h.1.1
 unfold jy at h1
 rw [aH,ay,ay,ay] at h1
 have h2:=of_decide_eq_false h1.1.1.2
 have h3:aB s=(s.length:Int):=rfl
 omega
theorem y7 (s:Str):(aB s==0||s==nP||c.events.any fun x=>x==s)=lg c s:=by
 unfold lg
 rw [Au]
 congr 2
 cases s with
 | nil=>rfl
 | cons a r =>
   have h1:¬aB (a::r)=0:=by show ¬(((a::r).length:Nat):Int)=0; rw [aF]; omega
   rw [show (aB (a::r)==0)=false by simpa using h1]; rfl
theorem yn {l:List Ev.Stat} {s:Str} {k:Nat} (hk:k<l.length):gT (l.take (k+1)) s=(gT (l.take k) s||(((ETy.get .stat l k).kind==2||(ETy.get .stat l k).kind==3)&&s==eX++(ETy.get .stat l k).name)):=by
 unfold gT
 rw [show ETy.get .stat l k=l[k] from ETy.get_eq (t:=.stat) (List.getElem?_eq_getElem hk),aU hk,ez]; simp
def CF (real:List Str) (t:Tran):Int :=
 if (!gE c t.event)=true then 2
 else if decide ((t.guard.length:Int)>0)=true then
  (if ((bY t.guard c.vars real).2 != 0)=true then (bY t.guard c.vars real).2
   else if ((bY t.guard c.vars real).1 != 2)=true then 8 else eu c t)
 else eu c t
theorem Ip {c:Chart} (hT:bZ c.states=true) {t:Tran} (h0:0≤t.src) (h1:t.src<(c.states.length:Int)):eu c t =
 if decide (aB t.dst>0)=true then (if decide (az c.states t.dst<0)=true then 2 else if decide (lz c.states t.src.toNat (az c.states t.dst).toNat<0)=true then 9 else b9 c.events c.vars t.acts) else b9 c.events c.vars t.acts:=by
 unfold eu
 have hp:=jh c.states t.dst
 have e1:(!(t.dst==[]))=decide (aB t.dst>0):=by
  cases t.dst with
  | nil=>rfl
  | cons a r=>rw [decide_eq_true (show aB (a::r)>0 by show (((a::r).length:Nat):Int)>0; rw [aF]; omega)]; rfl
 rw [e1]
 congr 1
 by_cases h2:az c.states t.dst<0
 · rw [if_pos (decide_eq_true h2),if_pos (decide_eq_true h2)]
 · have h3:¬decide (az c.states t.dst<0)=true:=by simpa using h2
   rw [if_neg h3,if_neg h3]
   obtain ⟨a,ha⟩:=aD h0
   obtain ⟨b,hb⟩:=aD (show 0≤az c.states t.dst by omega)
   rw [ha,hb,ai,ai,J0 hT (by omega) (by omega)]
def wv:Cfg:=⟨aY,[r8,xL,l3,l7,vo,xC]⟩
theorem tq:ag Tryz.prog wv.tab:=(ag.cons sO (ag.cons yQ (ag.cons rF (ag.cons rU (ag.cons GI (ag.cons Ap ag.nil))))))
abbrev zSm1 (a:Chart):Chunk:=.cells [.pd (.str a.name),.pd (.lst .str a.events),.pd (.lst .var a.vars),.pd (.lst .stat a.states),.pd (.lst .tran a.trans)] 27
abbrev zSm2:List PI:=[.code [1,1,1,1,1,0,1,0,0],.inLoop [1,1,1,1,1,0,1,0,0],.inBlock 0,.code [1,1,1,1,1,1]]
theorem HJ (hT:bZ c.states=true) (hn:(c.states.map fun s:Ev.Stat=>s.name).Nodup) (hl:c.states.length≤1466015503701) (hnm:∀ s∈c.states,aZ s.name=true) (h0:0≤t.src) (h1:t.src<(c.states.length:Int)) (Γ:Ctx):∀ n k:Nat,c.states.length - k≤n→k≤c.states.length →
 J Tryz.prog 72 (au Tryz.f72) Γ (Eq2 (.x (.i (CF c (c6 c.states) t))) []) zSm2 ({ n:=164,fr:=[(2,.x (.c (.loc 0 0))),(4,.i 0),(5,.x (.c (.loc 1 0))),(6,.p (.bool ((lg c t.event||gT (c.states.take k) t.event)))),(7,.i ((k:Int)))],ck:=[zSm1 c,.cells [.pd (.int .i64 t.src),.pd (.str t.event),.pd (.lst .cell t.guard),.pd (.str t.dst),.pd (.lst .deed t.acts)] 51] }):=by
 have hm:c.states.length≤maxLen:=av hl (by decide)
 have no:∀ {b:Bool},b=false→¬b=true:=fun h e=>by rw [h] at e; cases e
 intro n
 induction n with
 | zero=>?_
 | succ n ih=>?_
 all_goals
  intro k hn' hk
  generalize hkn:(lg c t.event||gT (c.states.take k) t.event)=kn
  refine jg tq Tryz.func72 (let x7:=(c.states.length:Int); let x9:Tree:=(.ret (.i (b9 c.events c.vars t.acts)) []); let x1:Tree:=(.ite (decide (aB t.dst>(0:Int))) (.need (c.states.length≤maxLen) (.ite (decide (az c.states t.dst<(0:Int))) (.ret (.i 2) []) (.need ((0:Int)≤t.src∧t.src<x7∧(0:Int)≤az c.states t.dst∧az c.states t.dst<x7∧c.states.length≤maxLen) (.ite (decide (lz c.states (Int.toNat t.src) ((az c.states t.dst).toNat)<(0:Int))) (.ret (.i 9) []) x9)))) x9); let x2:List Chunk:=[zSm1 c,.cells [.i t.src,.pd (.str t.event),.pd (.lst .cell t.guard),.pd (.str t.dst),.pd (.lst .deed t.acts)] 51]; let x5:=(ETy.get .stat c.states k); let x3:=(Stat.kind x5==(2:Int)||Stat.kind x5==(3:Int)); let x4:List PI:=zSm2; let x6:=(bY t.guard c.vars (cX false c.states)); let x8:=(((16,110,true,du true x3 none).2).2); let x10:=(IntKind.wrap .i64 ((k:Int)+1)); .ite (decide ((k:Int)<x7)) (.need (inRg k c.states.length) (.need ((((7,101,false,du false (Stat.kind x5==(2:Int)) none).2).2).2→(0:Int)≤(k:Int)∧(k:Int)<x7) (.need (x8.2→(0:Int)≤(k:Int)∧(k:Int)<x7) (.need (x8.2→5+(Stat.name x5).length≤9223372036854775807) (.ite (x3&&t.event==[100,111,110,101,46]++Stat.name x5) (.stop x4 { n:=164,fr:=[(2,.x (.c (.loc 0 0))),(4,.i 0),(5,.x (.c (.loc 1 0))),(6,.p (.bool true)),(7,.i x10)],ck:=x2,kn:=[6] }) (.stop x4 { n:=164,fr:=[(2,.x (.c (.loc 0 0))),(4,.i 0),(5,.x (.c (.loc 1 0))),(6,.p (.bool kn)),(7,.i x10)],ck:=x2 })))))) (.ite (!kn) (.ret (.i 2) []) (.ite (decide ((t.guard.length:Int)>0)) (.need (c.states.length≤1466015503701) (.ite (x6.2 != (0:Int)) (.ret (.i (x6.2)) []) (.ite (x6.1 != (2:Int)) (.ret (.i 8) []) x1))) x1))) ?_
  conv=>zeta
  refine ⟨fun hlt=>?_,fun hge=>?_⟩
  · have hk':k<c.states.length:=by have:=of_decide_eq_true hlt; omega
    have hs:=yn (s:=t.event) hk'
    have hw:=Az (hnm (ETy.get .stat c.states k) (by rw [ETy.get_eq (t:=.stat) (List.getElem?_eq_getElem hk')]; exact bo hk'))
    have hx:(lg c t.event||gT (c.states.take (k+1)) t.event)=(kn||(((ETy.get .stat c.states k).kind==2||(ETy.get .stat c.states k).kind==3)&&t.event==eX++(ETy.get .stat c.states k).name)):=by
     rw [hs,← Bool.or_assoc,hkn]
    refine ⟨⟨by omega,by omega⟩,fun _=>⟨by omega,by omega⟩,fun _=>⟨by omega,by omega⟩,fun _=>by omega,fun hb=>?_,fun hb=>?_⟩
    · have hb':(((ETy.get .stat c.states k).kind==2||(ETy.get .stat c.states k).kind==3)&&t.event==eX++(ETy.get .stat c.states k).name)=true:=hb
      rw [hb',Bool.or_true] at hx
      rw [aX (aE hk' hm)]
      first
      | (exfalso; omega)
      | (have h9:=ih (k+1) (by omega) (by omega)
         rw [hx] at h9
         exact J.kn [] h9)
    · have hb':(((ETy.get .stat c.states k).kind==2||(ETy.get .stat c.states k).kind==3)&&t.event==eX++(ETy.get .stat c.states k).name)=false:=hb
      rw [hb',bU] at hx
      rw [aX (aE hk' hm)]
      first
      | (exfalso; omega)
      | (have h9:=ih (k+1) (by omega) (by omega)
         rw [hx] at h9
         exact J.kn [] h9)
  · have hke:k=c.states.length:=by have:=of_decide_eq_false hge; omega
    subst hke
    rw [aW (aq _),← HP hn] at hkn
    have ha:=Ip hT h0 h1
    have hz:decide (az c.states t.dst<0)=false→0≤az c.states t.dst∧az c.states t.dst<(c.states.length:Int):=fun h=>by
     have:=of_decide_eq_false h
     have:=jh c.states t.dst
     omega
    unfold CF
    rw [hkn,ha,← wk]
    refine ⟨fun h2=>?_,fun h2=>⟨fun hg=>⟨hl,fun h3=>?_,fun h3=>⟨fun h4=>?_,fun h4=>⟨fun h5=>⟨hm,fun h6=>?_,fun h6=>⟨⟨h0,h1,(hz h6).1,(hz h6).2,hm⟩,fun h7=>?_,fun h7=>?_⟩⟩,fun h5=>?_⟩⟩⟩,fun hg=>⟨fun h5=>⟨hm,fun h6=>?_,fun h6=>⟨⟨h0,h1,(hz h6).1,(hz h6).2,hm⟩,fun h7=>?_,fun h7=>?_⟩⟩,fun h5=>?_⟩⟩⟩
    · rw [if_pos h2]; exact ⟨rfl,rfl⟩
    · rw [if_neg (no h2),if_pos hg,if_pos h3]; exact ⟨rfl,rfl⟩
    · rw [if_neg (no h2),if_pos hg,if_neg (no h3),if_pos h4]; exact ⟨rfl,rfl⟩
    · rw [if_neg (no h2),if_pos hg,if_neg (no h3),if_neg (no h4),if_pos h5,if_pos h6]; exact ⟨rfl,rfl⟩
    · rw [if_neg (no h2),if_pos hg,if_neg (no h3),if_neg (no h4),if_pos h5,if_neg (no h6),if_pos h7]; exact ⟨rfl,rfl⟩
    · rw [if_neg (no h2),if_pos hg,if_neg (no h3),if_neg (no h4),if_pos h5,if_neg (no h6),if_neg (no h7)]; exact ⟨rfl,rfl⟩
    · rw [if_neg (no h2),if_pos hg,if_neg (no h3),if_neg (no h4),if_neg (no h5)]; exact ⟨rfl,rfl⟩
    · rw [if_neg (no h2),if_neg (no hg),if_pos h5,if_pos h6]; exact ⟨rfl,rfl⟩
    · rw [if_neg (no h2),if_neg (no hg),if_pos h5,if_neg (no h6),if_pos h7]; exact ⟨rfl,rfl⟩
    · rw [if_neg (no h2),if_neg (no hg),if_pos h5,if_neg (no h6),if_neg (no h7)]; exact ⟨rfl,rfl⟩
    · rw [if_neg (no h2),if_neg (no hg),if_neg (no h5)]; exact ⟨rfl,rfl⟩
theorem KH (i:Nat) (hi:i<c.trans.length) (hi2:c.trans.length≤maxLen) (hT:bZ c.states=true) (hn:(c.states.map fun s:Ev.Stat=>s.name).Nodup) (hl:c.states.length≤1466015503701) (hnm:∀ s∈c.states,aZ s.name=true):ah Tryz.prog 72 [.e .chart c,.i (i:Int)] [] (.x (.i (cK c i (c6 c.states) (ETy.get .tran c.trans i)))) []:=by
 refine dg tq Tryz.func72 (let x1:=(ETy.get .tran c.trans i); let x2:=(ETy.get .stat c.states ((Tran.src x1).toNat)); let x3:=(c.states.length:Int); .need (inRg i c.trans.length) (.need ((((14,30,true,du true (decide ((i:Int)>0)) (some (11,27,false,du false (decide (Tran.src x1<(0:Int))||decide (Tran.src x1≥x3)) none))).2).2).2→(0:Int)≤IntKind.wrap .i64 ((i:Int) - 1)∧IntKind.wrap .i64 ((i:Int) - 1)<(c.trans.length:Int)) (.ite (decide (Tran.src x1<(0:Int))||decide (Tran.src x1≥x3)||decide ((i:Int)>0)&&decide (Tran.src (ETy.get .tran c.trans ((IntKind.wrap .i64 ((i:Int) - 1)).toNat))>Tran.src x1)) (.ret (.i 1) []) (.need ((0:Int)≤Tran.src x1∧Tran.src x1<x3) (.need ((Stat.kind x2 != (1:Int))=true→(0:Int)≤Tran.src x1∧Tran.src x1<x3) (.need ((Stat.kind x2 != (1:Int)&&Stat.kind x2 != (2:Int))=true→(0:Int)≤Tran.src x1∧Tran.src x1<x3) (.ite (Stat.kind x2 != (1:Int)&&Stat.kind x2 != (2:Int)&&Stat.kind x2 != (3:Int)) (.ret (.i 1) []) (.stop zSm2 { n:=164,fr:=[(2,.x (.c (.loc 0 0))),(4,.i 0),(5,.x (.c (.loc 1 0))),(6,.p (.bool (aB (Tran.event x1)==(0:Int)||Tran.event x1==[101,114,114,111,114]||List.any c.events fun x=>x==Tran.event x1))),(7,.i 0)],ck:=[zSm1 c,.cells [.i (Tran.src x1),.pd (.str (Tran.event x1)),.pd (.lst .cell (Tran.guard x1)),.pd (.str (Tran.dst x1)),.pd (.lst .deed (Tran.acts x1))] 51] })))))))) fun Γ=>?_
 conv=>zeta
 have et:∀ t:Tran,cK c i (c6 c.states) t=if fQ c i t=true then 1 else CF c (c6 c.states) t:=fun _=>rfl
 rw [et]
 have hm:maxLen≤9223372036854775807:=by decide
 refine ⟨⟨by omega,by omega⟩,fun h=>?_,?_⟩
 · have h1:decide ((i:Int)>0)=true:=h.2
   have:=of_decide_eq_true h1
   rw [cg (by omega) (by omega)]; omega
 generalize ETy.get .tran c.trans i=t
 have hb:=y7 c t.event
 have S:=iC hT
 refine ⟨fun h1=>?_,fun h1=>?_⟩
 · have h2:fQ c i t=true:=by
    unfold fQ
    have h3:(decide (t.src<0)||decide (t.src≥(c.states.length:Int))||decide ((i:Int)>0)&&decide (t.src<(ETy.get .tran c.trans (IntKind.wrap .i64 ((i:Int) - 1)).toNat).src))=true:=h1
    rw [h3,b6]
   rw [if_pos h2]; exact ⟨rfl,rfl⟩
 have h3:(decide (t.src<0)||decide (t.src≥(c.states.length:Int))||decide ((i:Int)>0)&&decide (t.src<(ETy.get .tran c.trans (IntKind.wrap .i64 ((i:Int) - 1)).toNat).src))=false:=h1
 have hs:0≤t.src∧t.src<(c.states.length:Int):=by
  rw [ay,ay] at h3
  have:=of_decide_eq_false h3.1.1
  have:=of_decide_eq_false h3.1.2
  omega
 have hk:=S.k1 t.src.toNat (by omega)
 have hbad:fQ c i t=((ETy.get .stat c.states t.src.toNat).kind != 1&&(ETy.get .stat c.states t.src.toNat).kind != 2&&(ETy.get .stat c.states t.src.toNat).kind != 3):=by
  unfold fQ
  rw [h3,bf]
  generalize (ETy.get .stat c.states t.src.toNat).kind=q at hk
  rw [bp]
  simp only [af,decide_eq_true_eq,bne_iff_ne]
  omega
 rw [hbad]
 refine ⟨hs,fun _=>hs,fun _=>hs,fun h4=>?_,fun h4=>?_⟩
 · rw [if_pos h4]; exact ⟨rfl,rfl⟩
 · rw [if_neg (by rw [h4]; decide)]
   have h5:=HJ c t hT hn hl hnm hs.1 hs.2 Γ c.states.length 0 (by omega) (by omega)
   rw [show gT (c.states.take 0) t.event=false from rfl,bU,← hb] at h5
   exact h5
theorem GL (i:Int) (h:0≤i∧i<(c.trans.length:Int)∧c.trans.length≤maxLen∧bZ c.states=true∧(c.states.map fun s:Ev.Stat=>s.name).Nodup∧c.states.length≤1466015503701∧∀ s∈c.states,aZ s.name=true):ah Tryz.prog 72 [.e .chart c,.i i] [] (.x (.i (cK c i.toNat (c6 c.states) (ETy.get .tran c.trans i.toNat)))) []:=by
 obtain ⟨k,rfl⟩:=aD h.1
 rw [ai]
 exact KH c k (by omega) h.2.2.1 h.2.2.2.1 h.2.2.2.2.1 h.2.2.2.2.2.1 h.2.2.2.2.2.2
def A9:Ent:=(72,fun
 | [.agg [.pd (.str a),.pd (.lst .str b),.pd (.lst .var c),.pd (.lst .stat d),.pd (.lst .tran e)],.c (.pd (.int .i64 i))],[]=>some (some (0≤i∧i<(e.length:Int)∧e.length≤maxLen∧bZ d=true∧(d.map fun s:Ev.Stat=>s.name).Nodup∧d.length≤1466015503701∧∀ s∈d,aZ s.name=true),.x (.c (.pd (.int .i64 (cK ⟨a,b,c,d,e⟩ i.toNat (c6 d) (ETy.get .tran e i.toNat))))),[])
 | _,_=>none)
theorem Ky:EntOk Tryz.prog A9:=entOk fun vs ck=>by
 unfold A9; dsimp only; split
 · rename_i a b c d e i; exact entS fun hp=>GL ⟨a,b,c,d,e⟩ i hp
 · exact entN
end Go.Proofs.YtgfifkhbfdacjaaGreatDoor

/- Contracts: valid: variables, a state's Initial. Conditions: sizes. Contracts: valid: blocks. Conditions: sizes. -/
import Derived.Test.YtcopfgbbjdefbaaGreatDoorJz
namespace Go.Proofs.YtcopfgbbjdefbaaGreatDoor
open Go Go.Ev
set_option maxRecDepth 100000
def F8:Cfg:=⟨bk,[lH,jC]⟩
theorem D7:ah Tryz.prog F8.tab:=(ah.cons vY (ah.cons iO ah.nil))
variable (c:Chart) (l:List Ev.Stat) (i:Nat) (v:Var)
def mg:Int:=if (v.kind==3)=true then 1048576 else 1099511627776
def ru:Int:=if (v.kind==3)=true then (if v.init.b<v.init.a then v.init.b else v.init.a) else v.init.a
def n6:Int:=if (v.kind==3)=true then (if v.init.b>v.init.a then v.init.b else v.init.a) else v.init.a
def dL:Int :=
 if (decide (v.kind<1)||decide (v.kind>3)||v.init.kind != v.kind)=true then 8
 else if (decide (v.lo>v.hi)||decide (v.lo < - mg v)||decide (v.hi>mg v)||v.kind==2&&(v.lo != 0||v.hi != 1))=true then 5
 else bM (vR v.init&&decide (ru v≥v.lo)&&decide (n6 v≤v.hi)) 5
def c6:Int :=
 if ((ETy.get .stat l i).kind != 2 && !aY (ETy.get .stat l i).kind)=true then bM ((ETy.get .stat l i).initial==[]) 1
 else if (decide (aK l (ETy.get .stat l i).initial<0)||aY (ETy.get .stat l (aK l (ETy.get .stat l i).initial).toNat).kind)=true then 2
 else if ((ETy.get .stat l i).kind==2)=true then bM (cH l (aK l (ETy.get .stat l i).initial)==(i:Int)) 2
 else if ((ETy.get .stat l i).kind==5)=true then bM (cH l (aK l (ETy.get .stat l i).initial)==cH l i) 2
 else bM (ie l (cH l i) (aK l (ETy.get .stat l i).initial)) 2
theorem Dc:ag Tryz.prog 99 [.e .var v] [] (.x (.i (dL v))) []:=by
 refine dg D7 Tryz.func99 (let x1:Tree:=(.ite (v.kind==(3:Int)) (.ret (.i (bM (vR v.init&&decide ((if v.init.b<v.init.a then v.init.b else v.init.a)≥v.lo)&&decide ((if v.init.b>v.init.a then v.init.b else v.init.a)≤v.hi)) (5:Int))) []) (.ret (.i (bM (vR v.init&&decide (v.init.a≥v.lo)&&decide (v.init.a≤v.hi)) (5:Int))) [])); let x2:=(v.lo != (0:Int)||v.hi != (1:Int)); .ite (decide (v.kind<(1:Int))||decide (v.kind>(3:Int))||v.init.kind != v.kind) (.ret (.i 8) []) (.ite (v.kind==(3:Int)) (.ite (decide (v.lo>v.hi)||decide (v.lo<IntKind.wrap .i64 ((0:Int) - 1048576))||decide (v.hi>(1048576:Int))||v.kind==(2:Int)&&x2) (.ret (.i 5) []) x1) (.ite (decide (v.lo>v.hi)||decide (v.lo<IntKind.wrap .i64 ((0:Int) - 1099511627776))||decide (v.hi>(1099511627776:Int))||v.kind==(2:Int)&&x2) (.ret (.i 5) []) x1))) fun Γ=>?_
 conv=>zeta
 have w1:IntKind.wrap .i64 (0 - 1048576) = -1048576:=by decide
 have w2:IntKind.wrap .i64 (0 - 1099511627776) = -1099511627776:=by decide
 refine ⟨fun h=>?_,fun h=>⟨fun h3=>⟨fun hr=>?_,fun hr=>⟨fun h4=>?_,fun h4=>?_⟩⟩,fun h3=>⟨fun hr=>?_,fun hr=>⟨fun h4=>?_,fun h4=>?_⟩⟩⟩⟩
 · unfold dL; rw [if_pos h]; exact ⟨rfl,rfl⟩
 · rw [w1] at hr
   unfold dL; rw [if_neg (by rw [h]; decide)]
   simp only [mg,if_pos h3]
   rw [if_pos hr]; exact ⟨rfl,rfl⟩
 · rw [w1] at hr
   unfold dL; rw [if_neg (by rw [h]; decide)]
   simp only [mg,ru,n6,if_pos h3]
   rw [if_neg (by rw [hr]; decide)]; exact ⟨rfl,rfl⟩
 · rw [h3] at h4; cases h4
 · rw [w2] at hr
   unfold dL; rw [if_neg (by rw [h]; decide)]
   simp only [mg,if_neg (show ¬(v.kind==3)=true by rw [h3]; decide)]
   rw [if_pos hr]; exact ⟨rfl,rfl⟩
 · rw [h3] at h4; cases h4
 · rw [w2] at hr
   unfold dL; rw [if_neg (by rw [h]; decide)]
   simp only [mg,ru,n6,if_neg (show ¬(v.kind==3)=true by rw [h3]; decide)]
   rw [if_neg (by rw [hr]; decide)]; exact ⟨rfl,rfl⟩
def tn:Ent:=(99,fun
 | [.agg [.pd (.str a),.pd (.int .i64 b),.pd (.int .i64 e),.pd (.int .i64 f),.pd (.int .i64 g),.pd (.int .i64 h),.pd (.int .i64 i)]],[]=>some (none,.x (.c (.pd (.int .i64 (dL ⟨a,b,e,f,⟨g,h,i⟩⟩)))),[])
 | _,_=>none)
theorem DU:EntOk Tryz.prog tn:=entOk fun vs ck=>by
 unfold tn; dsimp only; split
 · rename_i a b e f g h i; exact entS fun hp=>Dc ⟨a,b,e,f,⟨g,h,i⟩⟩
 · exact entN
def Bc:Cfg:=⟨bk,[lf,jC,jZ,lE,nT]⟩
theorem A7:ah Tryz.prog Bc.tab:=(ah.cons nk (ah.cons iO (ah.cons kD (ah.cons pz (ah.cons yF ah.nil)))))
theorem jE {α:Type} (p:α→Bool):∀ (l:List α) (i:Int),0≤i→aJ p l i = -1∨(i≤aJ p l i∧aJ p l i<i+(l.length:Int))
 | [],i,_=>.inl rfl
 | x :: r,i,h=>by
   have ih:=jE p r (i+1) (by omega)
   unfold aJ
   cases p x
   · rw [cond_false]
     rcases ih with e | ⟨h1,h2⟩
     · exact .inl e
     · refine .inr ⟨by omega,?_⟩
       rw [az]; omega
   · rw [cond_true]
     refine .inr ⟨by omega,?_⟩
     rw [az]; omega
theorem iL (n:Str):aK l n = -1∨(0≤aK l n∧aK l n<(l.length:Int)):=by
 rcases jE (fun s:Ev.Stat=>s.name==n) l 0 (by omega) with h | ⟨h1,h2⟩
 · exact .inl h
 · exact .inr ⟨h1,by unfold aK; omega⟩
theorem BB (hi:i<c.states.length) (hl:c.states.length≤maxLen):ag Tryz.prog 97 [.e .chart c,.i (i:Int)] [] (.x (.i (c6 c.states i))) []:=by
 refine dg A7 Tryz.func97 (let x1:=(ETy.get .stat c.states i); let x2:=(aK c.states (Stat.initial x1)); let x3:=(c.states.length≤maxLen); let x4:=(aK c.states (Stat.initial x1)<(0:Int)); .need (inRg i c.states.length) (.ite (Stat.kind x1 != (2:Int) && !aY (Stat.kind x1)) (.ret (.i (bM (Stat.initial x1==[]) (1:Int))) []) (.need (decide x4=false→(0:Int)≤aK c.states (Stat.initial x1)∧aK c.states (Stat.initial x1)<(c.states.length:Int)) (.ite (decide x4||aY (Stat.kind (ETy.get .stat c.states (x2.toNat)))) (.ret (.i 2) []) (.need x3 (.ite (Stat.kind x1==(2:Int)) (.need x3 (.ret (.i (bM (cH c.states x2==(i:Int)) (2:Int))) [])) (.ite (Stat.kind x1==(5:Int)) (.need x3 (.ret (.i (bM (cH c.states x2==cH c.states (i:Int)) (2:Int))) [])) (.need x3 (.ret (.i (bM (ie c.states (cH c.states (i:Int)) x2) (2:Int))) []))))))))) fun Γ=>?_
 conv=>zeta
 unfold c6
 have hp:=iL c.states (ETy.get .stat c.states i).initial
 refine ⟨⟨by omega,by omega⟩,fun h=>?_,fun h=>⟨fun h2=>?_,fun h3=>?_,fun h3=>⟨hl,fun h4=>⟨hl,?_⟩,fun h4=>⟨fun h5=>⟨hl,?_⟩,fun h5=>⟨hl,?_⟩⟩⟩⟩⟩
 · rw [if_pos h]; exact ⟨rfl,rfl⟩
 · have:=of_decide_eq_false h2
   rcases hp with e | e
   · omega
   · exact e
 · rw [if_neg (by rw [h]; decide),if_pos h3]; exact ⟨rfl,rfl⟩
 · rw [if_neg (by rw [h]; decide),if_neg (by rw [h3]; decide),if_pos h4]; exact ⟨rfl,rfl⟩
 · rw [if_neg (by rw [h]; decide),if_neg (by rw [h3]; decide),if_neg (by rw [h4]; decide),if_pos h5]; exact ⟨rfl,rfl⟩
 · rw [if_neg (by rw [h]; decide),if_neg (by rw [h3]; decide),if_neg (by rw [h4]; decide),if_neg (by rw [h5]; decide)]; exact ⟨rfl,rfl⟩
theorem Ah (i:Int) (h:0≤i∧i<(c.states.length:Int)∧c.states.length≤maxLen):ag Tryz.prog 97 [.e .chart c,.i i] [] (.x (.i (c6 c.states i.toNat))) []:=by
 obtain ⟨k,rfl⟩:=aF h.1
 rw [aj]
 exact BB c k (by omega) h.2.2
def pD:Ent:=(97,fun
 | [.agg [.pd (.str a),.pd (.lst .str b),.pd (.lst .var c),.pd (.lst .stat d),.pd (.lst .tran e)],.c (.pd (.int .i64 i))],[]=>some (some (0≤i∧i<(d.length:Int)∧d.length≤maxLen),.x (.c (.pd (.int .i64 (c6 d i.toNat)))),[])
 | _,_=>none)
theorem Cm:EntOk Tryz.prog pD:=entOk fun vs ck=>by
 unfold pD; dsimp only; split
 · rename_i a b c d e i; exact entS fun hp=>Ah ⟨a,b,c,d,e⟩ i hp
 · exact entN
end Go.Proofs.YtcopfgbbjdefbaaGreatDoor
namespace Go.Proofs.YtcopfgbbjdefbaaGreatDoor
open Go Go.Ev
set_option maxRecDepth 100000
theorem Dz (v:Var) (a:Deed):ag Tryz.prog 185 [.e .var v,.p (.ref .deed a 0)] [] (.x (.b (v.name==a.name))) []:=by
 refine dg aT Tryz.func185 (.ret (.p (.bool (v.name==a.name))) []) fun Γ=>⟨rfl,rfl⟩
def Am:Ent:=(185,fun
 | [.agg [.pd (.str a),.pd (.int .i64 b),.pd (.int .i64 e),.pd (.int .i64 f),.pd (.int .i64 g),.pd (.int .i64 h),.pd (.int .i64 i)],.c (.pd (.ref .deed ⟨x,y,z⟩ 0))],[]=>some (none,.x (.c (.pd (.bool (a==y)))),[])
 | _,_=>none)
theorem Ib:EntOk Tryz.prog Am:=entOk fun vs ck=>by
 unfold Am; dsimp only; split
 · rename_i a b e f g h i x y z; exact entS fun hp=>Dz ⟨a,b,e,f,⟨g,h,i⟩⟩ ⟨x,y,z⟩
 · exact entN
def tZ:Cfg:=⟨bk,[Am]⟩
theorem rN:ah Tryz.prog tZ.tab:=(ah.cons Ib ah.nil)
abbrev zTh3:List PI:=[.code [1,0,1,0,0],.inLoop [1,0,1,0,0],.inBlock 0,.code [1,1]]
theorem D2 (l:List Var) (s:Deed) (Γ:Ctx) (hl:l.length≤maxLen)  : ∀ (n k:Nat),l.length - k≤n→k≤l.length →
 J Tryz.prog 184 (aw Tryz.f184) Γ (Eq2 (.x (.i (aJ (fun v:Var=>v.name==s.name) (l.drop k) k))) []) zTh3 ({ n:=19,fr:=[(0,.p (.lst .var l)),(1,.x (.c (.fn (.func 185) [] [.pd (.ref .deed s 0)]))),(4,.i 0),(7,.i l.length),(8,.i k)],ck:=[] }):=by
 intro n
 induction n with
 | zero=>?_
 | succ n ih=>?_
 all_goals
  intro k hn hk
  refine jg rN Tryz.func184 (.ite (decide ((k:Int)<(l.length:Int))) (.need (inRg k l.length) (.ite (Var.name (ETy.get .var l k)==s.2) (.ret (.i k) []) (.stop zTh3 { n:=19,fr:=[(0,.p (.lst .var l)),(1,.x (.c (.fn (.func 185) [] [.pd (.ref .deed s 0)]))),(4,.i 0),(7,.i l.length),(8,.i (IntKind.wrap .i64 ((k:Int)+1)))],ck:=[] }))) (.ret (.i (-1:Int)) [])) ?_
  refine ⟨fun hlt=>?_,fun hge=>?_⟩
  · have hk':k<l.length:=by have:=of_decide_eq_true hlt; omega
    rw [bL (t:=.var) (l:=l) hk']
    refine ⟨by omega,?_⟩
    generalize ETy.get .var l k=v
    refine ⟨fun hb=>⟨?_,rfl⟩,fun hb=>?_⟩
    · simp only [aJ,hb,cond_true]
    · simp only [aJ,hb,cond_false]; (rw [aZ (aE hk' hl)]; first | (exfalso; omega) | exact ih (k+1) (by omega) (by omega))
  · rw [bY (l:=l) (by have:=of_decide_eq_false hge; omega)]
    exact ⟨rfl,rfl⟩
theorem Dn (l:List Var) (s:Deed):ag Tryz.prog 184 [.l .var (l),SX.c (SC.fn (Fn.func 185) [] [RC.pd (PD.ref ETy.deed s 0)])] [] (.x (.i (aJ (fun v:Var=>v.name==s.name) l 0))) []:=by
 refine dg rN Tryz.func184 (.stop zTh3 { n:=19,fr:=[(0,.p (.lst .var l)),(1,.x (.c (.fn (.func 185) [] [.pd (.ref .deed s 0)]))),(4,.i 0),(7,.i l.length),(8,.i 0)],ck:=[] }) fun Γ=>?_
 exact J.len 0 rfl fun hl=>D2 l s Γ hl l.length 0 (by omega) (by omega)
def yw:Ent:=(184,fun
 | [.c (.pd (.lst .var l)),.c (.fn (.func 185) [] [.pd (.ref .deed s 0)])],[]=>some (none,.x (.c (.pd (.int .i64 (aJ (fun v:Var=>v.name==s.name) l 0)))),[])
 | _,_=>none)
theorem Hq:EntOk Tryz.prog yw:=entOk fun vs ck=>by
 unfold yw; dsimp only; split
 · rename_i l s; exact entS fun hp=>Dn l s
 · exact entN
def AR:Cfg:=⟨bk,[eOf,qH,eSc,yw]⟩
theorem uW:ah Tryz.prog AR.tab:=(ah.cons Bv (ah.cons B6 (ah.cons uQ (ah.cons Hq ah.nil))))
variable (ev:List Str) (c:Chart) (vs:List Var) (l:List Deed) (a:Deed) (Γ:Ctx)
def cL:Int :=
 if (a.kind != 1)=true then (if (!(ev.any fun x=>a.name==x))=true then 2 else 0)
 else if decide (aJ (fun v:Var=>v.name==a.name) vs 0<0)=true then 2
 else if ((bZ a.expr vs []).2 != 0)=true then (bZ a.expr vs []).2
 else if ((bZ a.expr vs []).1 != (ETy.get .var vs (aJ (fun v:Var=>v.name==a.name) vs 0).toNat).kind)=true then 8 else 0
def iE (ev:List Str) (vs:List Var):List Deed→Int
 | []=>0
 | a::r=>if (cL ev vs a != 0)=true then cL ev vs a else iE ev vs r
def b6:Int :=
 if ((l.length:Int)==0)=true then 0 else if (!eS l)=true then 1 else iE ev vs l
abbrev zTh1 (a:Chart):List Chunk:=[.cells [.pd (.str a.name),.pd (.lst .str a.events),.pd (.lst .var a.vars),.pd (.lst .stat a.states),.pd (.lst .tran a.trans)] 27]
abbrev zTh2:List PI:=[.code [1,1,1,0,1,0,0],.inLoop [1,1,1,0,1,0,0],.inBlock 0,.code [1,1,1,1]]
theorem HY (hl:l.length≤maxLen)  : ∀ (n k:Nat),l.length - k≤n→k≤l.length →
 J Tryz.prog 145 (aw Tryz.f145) Γ (Eq2 (.x (.i (iE c.events c.vars (l.drop k)))) []) zTh2 ({ n:=57,fr:=[(2,.x (.c (.loc 0 0))),(4,.i 0),(16,.p (.lst .deed l)),(17,.i l.length),(18,.i k)],ck:=(zTh1 c) }):=by
 intro n
 induction n with
 | zero=>?_
 | succ n ih=>?_
 all_goals
  intro k hn hk
  refine jg uW Tryz.func145 (let x1:Tree:=(.stop zTh2 { n:=57,fr:=[(2,.x (.c (.loc 0 0))),(4,.i 0),(16,.p (.lst .deed l)),(17,.i l.length),(18,.i (IntKind.wrap .i64 ((k:Int)+1)))],ck:=(zTh1 c) }); let x2:=(bZ (Deed.expr (ETy.get .deed l k)) c.vars []); .ite (decide ((k:Int)<(l.length:Int))) (.need (inRg k l.length) (.ite (Deed.kind (ETy.get .deed l k) != (1:Int)) (.ite (!List.any c.events fun x=>Deed.name (ETy.get .deed l k)==x) (.ret (.i 2) []) x1) (.ite (decide (aJ (fun v=>v.name==Deed.name (ETy.get .deed l k)) c.vars (0:Int)<0)) (.ret (.i 2) []) (.ite (x2.2 != (0:Int)) (.ret (.i (x2.2)) []) (.need ((0:Int)≤aJ (fun v=>v.name==Deed.name (ETy.get .deed l k)) c.vars (0:Int)∧aJ (fun v=>v.name==Deed.name (ETy.get .deed l k)) c.vars (0:Int)<(c.vars.length:Int)) (.ite (x2.1 != Var.kind (ETy.get .var c.vars ((aJ (fun v=>v.name==Deed.name (ETy.get .deed l k)) c.vars (0:Int)).toNat))) (.ret (.i 8) []) x1)))))) (.ret (.i 0) [])) ?_
  conv=>zeta
  refine ⟨fun hlt=>?_,fun hge=>?_⟩
  · have hk':k<l.length:=by have:=of_decide_eq_true hlt; omega
    rw [bL (t:=.deed) (l:=l) hk']
    refine ⟨by omega,?_⟩
    generalize ETy.get .deed l k=v
    have hs:∀ r,iE c.events c.vars (v::r)=if (cL c.events c.vars v != 0)=true then cL c.events c.vars v else iE c.events c.vars r:=fun _=>rfl
    have hin:=jE (fun x:Var=>x.name==v.name) c.vars 0 (by omega)
    refine ⟨fun h1=>⟨fun h2=>?_,fun h2=>?_⟩,fun h1=>⟨fun h2=>?_,fun h2=>⟨fun h3=>?_,fun h3=>⟨?_,⟨fun h4=>?_,fun h4=>?_⟩⟩⟩⟩⟩
    · have he:cL c.events c.vars v=2:=by unfold cL; rw [if_pos h1,if_pos h2]
      rw [hs,he]; exact ⟨rfl,rfl⟩
    · have he:cL c.events c.vars v=0:=by unfold cL; rw [if_pos h1,if_neg (by rw [h2]; decide)]
      rw [hs,he,if_neg (by decide)]; (rw [aZ (aE hk' hl)]; first | (exfalso; omega) | exact ih (k+1) (by omega) (by omega))
    · have he:cL c.events c.vars v=2:=by unfold cL; rw [if_neg (by rw [h1]; decide)]; exact if_pos h2
      rw [hs,he]; exact ⟨rfl,rfl⟩
    · have he:cL c.events c.vars v=(bZ v.expr c.vars []).2:=by unfold cL; rw [if_neg (by rw [h1]; decide),if_neg (by show ¬_; exact fun e=>by rw [e] at h2; cases h2),if_pos h3]
      rw [hs,he,if_pos h3]; exact ⟨rfl,rfl⟩
    · have:=of_decide_eq_false h2
      rcases hin with e | ⟨e1,e2⟩
      · exfalso; exact this (by show aJ (fun x:Var=>x.name==v.name) c.vars 0<0; omega)
      · exact ⟨e1,by omega⟩
    · have he:cL c.events c.vars v=8:=by unfold cL; rw [if_neg (by rw [h1]; decide),if_neg (by exact fun e=>by rw [e] at h2; cases h2),if_neg (by rw [h3]; decide),if_pos h4]
      rw [hs,he]; exact ⟨rfl,rfl⟩
    · have he:cL c.events c.vars v=0:=by unfold cL; rw [if_neg (by rw [h1]; decide),if_neg (by exact fun e=>by rw [e] at h2; cases h2),if_neg (by rw [h3]; decide),if_neg (by exact fun e=>by rw [e] at h4; cases h4)]
      rw [hs,he,if_neg (by decide)]; (rw [aZ (aE hk' hl)]; first | (exfalso; omega) | exact ih (k+1) (by omega) (by omega))
  · rw [bY (l:=l) (by have:=of_decide_eq_false hge; omega)]
    exact ⟨rfl,rfl⟩
theorem wI:ag Tryz.prog 145 [.e .chart c,.l .deed l] [] (.x (.i (b6 c.events c.vars l))) []:=by
 refine dg uW Tryz.func145 (.ite ((l.length:Int)==0) (.ret (.i 0) []) (.ite (!eS l) (.ret (.i 1) []) (.stop zTh2 { n:=57,fr:=[(2,.x (.c (.loc 0 0))),(4,.i 0),(16,.p (.lst .deed l)),(17,.i l.length),(18,.i 0)],ck:=(zTh1 c) }))) fun Γ=>?_
 refine ⟨fun h=>?_,fun h=>⟨fun h2=>?_,fun h2=>?_⟩⟩
 · unfold b6; rw [if_pos h]; exact ⟨rfl,rfl⟩
 · unfold b6; rw [if_neg (by rw [h]; decide),if_pos h2]; exact ⟨rfl,rfl⟩
 · unfold b6; rw [if_neg (by rw [h]; decide),if_neg (by rw [h2]; decide)]
   exact J.len 16 rfl fun hl=>HY c l Γ hl l.length 0 (by omega) (by omega)
def vG:Ent:=(145,fun
 | [.agg [.pd (.str a),.pd (.lst .str b),.pd (.lst .var c),.pd (.lst .stat d),.pd (.lst .tran e)],.c (.pd (.lst .deed l))],[]=>some (none,.x (.c (.pd (.int .i64 (b6 b c l)))),[])
 | _,_=>none)
theorem xx:EntOk Tryz.prog vG:=entOk fun vs ck=>by
 unfold vG; dsimp only; split
 · rename_i a b c d e l; exact entS fun hp=>wI ⟨a,b,c,d,e⟩ l
 · exact entN
end Go.Proofs.YtcopfgbbjdefbaaGreatDoor

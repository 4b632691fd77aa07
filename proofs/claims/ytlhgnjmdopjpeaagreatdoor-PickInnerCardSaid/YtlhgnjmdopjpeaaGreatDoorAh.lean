/- Contracts: pick: wanted. Conditions: sizes. -/
import Derived.Test.YtlhgnjmdopjpeaaGreatDoorAg
namespace Go.Proofs.YtlhgnjmdopjpeaaGreatDoor
open Go Go.Ev
set_option maxRecDepth 100000
def HU:Cfg:=⟨aU,[]⟩
theorem HV:ag Tryz.prog HU.tab:=ag.nil
theorem Ra(tr:Tran)(t:Int):ah Tryz.prog 70 [.e .tran tr,.p (.ref .int t 0)] [] (.x (.b (tr.src==t))) []:=by
 refine dg HV Tryz.func70 (.ret (.p (.bool (tr.src==t))) []) fun Γ=>⟨rfl,rfl⟩
def eW1:Ent:=(70,fun
 |[.agg [.pd (.int .i64 a),.pd (.str b),.pd (.lst .cell c),.pd (.str d),.pd (.lst .deed e)],.c (.pd (.ref .int t 0))],[]=>some (none,.x (.c (.pd (.bool (a==t)))),[])
 |_,_=>none)
theorem RQ:EntOk Tryz.prog eW1:=entOk fun vs ck=>by
 unfold eW1;dsimp only;split
 ·rename_i a b c d e t;exact entS fun hp=>Ra ⟨a,b,c,d,e⟩ t
 ·exact entN
def AY:Cfg:=⟨aU,[eW1]⟩
theorem xv:ag Tryz.prog AY.tab:=(ag.cons RQ ag.nil)
abbrev zAh4:List PI:=[.code [1,0,1,0,0],.inLoop [1,0,1,0,0],.inBlock 0,.code [1,1]]
variable(Γ:Ctx)(P:Out)(c:Chart)(s:List Int)(l:List Tran)(out:List Int)(t:Int)
theorem Mm(Γ:Ctx)(hl:l.length≤maxLen)  : ∀(n k:Nat),l.length - k≤n→k≤l.length →
 J Tryz.prog 69 (ar Tryz.f69) Γ (Eq2 (.x (.i (ay (fun p:Tran=>p.src==t) (l.drop k) k))) []) zAh4 ({n:=19,fr:=[(0,.p (.lst .tran l)),(1,.x (.c (.fn (.func 70) [] [.pd (.ref .int t 0)]))),(4,.i 0),(7,.i l.length),(8,.i k)],ck:=[]}):=by
 intro n
 induction n with
 |zero=>?_
 |succ n ih=>?_
 all_goals
  intro k hn hk
  refine jg xv Tryz.func69 (.ite (decide ((k:Int)<(l.length:Int))) (.need (inRg k l.length) (.ite (Tran.src (ETy.get .tran l k)==t) (.ret (.i k) []) (.stop zAh4 {n:=19,fr:=[(0,.p (.lst .tran l)),(1,.x (.c (.fn (.func 70) [] [.pd (.ref .int t 0)]))),(4,.i 0),(7,.i l.length),(8,.i (IntKind.wrap .i64 ((k:Int)+1)))],ck:=[]}))) (.ret (.i (-1:Int)) [])) ?_
  refine⟨fun hlt=>?_,fun hge=>?_⟩
  · have hk':k<l.length:=by have:=of_decide_eq_true hlt;omega
    rw[bx (t:=.tran) (l:=l) hk']
    refine⟨by omega,?_⟩
    generalize ETy.get .tran l k=v
    refine⟨fun hb=>⟨?_,rfl⟩,fun hb=>?_⟩
    · have hb':((v:Tran).src==t)=true:=hb
      simp only[ay,hb',cond_true]
    · have hb':((v:Tran).src==t)=false:=hb
      simp only[ay,hb',cond_false];(rw[aZ (aG hk' hl)];first |(exfalso;omega) |exact ih (k+1) (by omega) (by omega))
  · rw[bS (l:=l) (by have:=of_decide_eq_false hge;omega)]
    exact⟨rfl,rfl⟩
theorem Mn:ah Tryz.prog 69 [.l .tran (l),SX.c (SC.fn (Fn.func 70) [] [RC.pd (PD.ref ETy.int t 0)])] [] (.x (.i (ay (fun p:Tran=>p.src==t) l 0))) []:=by
 refine dg xv Tryz.func69 (.stop zAh4 {n:=19,fr:=[(0,.p (.lst .tran l)),(1,.x (.c (.fn (.func 70) [] [.pd (.ref .int t 0)]))),(4,.i 0),(7,.i l.length),(8,.i 0)],ck:=[]}) fun Γ=>?_
 exact J.len 0 rfl fun hl=>Mm l t Γ hl l.length 0 (by omega) (by omega)
def FM:Ent:=(69,fun
 |[.c (.pd (.lst .tran l)),.c (.fn (.func 70) [] [.pd (.ref .int t 0)])],[]=>some (none,.x (.c (.pd (.int .i64 (ay (fun p:Tran=>p.src==t) l 0)))),[])
 |_,_=>none)
theorem Pr:EntOk Tryz.prog FM:=entOk fun vs ck=>by
 unfold FM;dsimp only;split
 ·rename_i l t;exact entS fun hp=>Mn l t
 ·exact entN
def oA:Cfg:=⟨aU,[nG,tn,mI,FM]⟩
theorem lN:ag Tryz.prog oA.tab:=(ag.cons By (ag.cons rZ (ag.cons pr (ag.cons Pr ag.nil))))
/-! ### the search -/
theorem yy(ts:List Tran)(y:Int):∀(n a:Nat),ts.length - a≤n→(ay (fun p:Tran=>p.src==y) (ts.drop a) (a:Int) = -1∧∀j,a≤j→j<ts.length→(ETy.get .tran ts j).src≠y)∨∃k:Nat,ay (fun p:Tran=>p.src==y) (ts.drop a) (a:Int)=(k:Int)∧k<ts.length∧(ETy.get .tran ts k).src=y∧∀j,a≤j→j<k→(ETy.get .tran ts j).src≠y:=by
 intro n
 induction n with
 | zero =>
   intro a h
   rw[List.drop_eq_nil_of_le (by omega)]
   exact .inl ⟨rfl,fun j h1 h2=>by omega⟩
 | succ n ih =>
   intro a h
   by_cases ha:a<ts.length
   · have hd:ts.drop a=ETy.get .tran ts a::ts.drop (a+1):=by
      rw[dm ha,ETy.get_eq (t:=.tran) (List.getElem?_eq_getElem ha)]
     rw[hd]
     by_cases e:(ETy.get .tran ts a).src=y
     · refine .inr ⟨a,?_,ha,e,fun j h1 h2=>by omega⟩
       have hb:((ETy.get .tran ts a).src==y)=true:=by simpa using e
       simp only[ay,hb,cond_true]
     · have hb:((ETy.get .tran ts a).src==y)=false:=by simpa using e
       simp only[ay,hb,cond_false]
       rcases ih (a+1) (by omega)with⟨g1,g2⟩ |⟨k,g1,g2,g3,g4⟩
       · refine .inl ⟨g1,fun j h1 h2=>?_⟩
         by_cases e2:j=a
         ·rw[e2];exact e
         ·exact g2 j (by omega) h2
       · refine .inr ⟨k,g1,g2,g3,fun j h1 h2=>?_⟩
         by_cases e2:j=a
         ·rw[e2];exact e
         ·exact g4 j (by omega) h2
   · rw[List.drop_eq_nil_of_le (by omega)]
     exact .inl ⟨rfl,fun j h1 h2=>by omega⟩
theorem Jt{ts:List Tran}(hs:rK ts){may:List Int}(hinc:may.Pairwise (· < ·))(hrg:∀k∈may,0≤k∧k<(ts.length:Int))(y r:Int)(hr:kR ts may y (ts.length+2) (ay (fun p:Tran=>p.src==y) ts 0)=r) :
 may.find? (fun k=>dr ts k==y)=if nd ts y r=true then some r else none:=by
 subst hr
 rcases yy ts y ts.length 0 (by omega)with⟨g1,g2⟩ |⟨k,g1,g2,g3,g4⟩
 · have g1':ay (fun p:Tran=>p.src==y) ts 0 = -1:=g1
   have e:kR ts may y (ts.length+2) (-1) = -1:=by rw[kR];exact if_neg (by simp)
   rw[g1',e,if_neg (by unfold nd;simp)]
   refine List.find?_eq_none.2 fun k hk=>?_
   obtain⟨h1,h2⟩:=hrg k hk
   have:=g2 k.toNat (by omega) (by omega)
   simpa[dr]using this
 · have g1':ay (fun p:Tran=>p.src==y) ts 0=(k:Int):=g1
   rw[g1']
   exact Kt hs hinc hrg y (ts.length+2) k (by omega) (by omega) ⟨k,g2,av _,g3⟩ fun j hj _=>g4 j (aS j) hj
theorem tZ(f:Int→Int):∀(ls out:List Int),(ls.foldl (dU f) out).length≤out.length+ls.length
 |[],out=>by simp
 | a::ls,out=>by
   rw[bT]
   have h1:=tZ f ls (dU f out a)
   have h2:(dU f out a).length≤out.length+1:=by
    unfold dU;split
    ·rw[au,cQ];omega
    ·omega
   rw[ax];omega
theorem EC{l:List Ev.Stat}{s:List Int}(h:Lgl l s):s.length≤l.length:=by
 have:=k0 (a:=s) (b:=(List.range l.length).map fun i:Nat=>(i:Int)) (h.inc.imp fun h e=>by omega) fun y hy=>by
  obtain⟨i,rfl,h3,_⟩:=h.rng y hy
  exact aM.2 ⟨i,bL.2 h3,rfl⟩
 simpa using this
def W1(es:List (Int×Nat))(clk:Nat)(i:Int):Prop:=J Tryz.prog 36 (ar Tryz.f36) Γ P [.code [1,1,1,0,1,0,0],.inLoop [1,1,1,0,1,0,0],.inBlock 0,.code [1,1,1,1]] ({n:=91,fr:=[(2,.x (.c (.own 0))),(3,.x (.c (.loc 1 0))),(6,.p (.v (Value.slice none 0 0))),(7,.x (.c (.own 2))),(8,.p (.lst .int (b8 c s))),(16,.i (↑((b8 c s).length):Int)),(17,.i i)],ck:=[Chunk.obj (Ob.set es clk),.cells [.pd (.str c.name),.pd (.lst .str c.events),.pd (.lst .var c.vars),.pd (.lst .stat c.states),.pd (.lst .tran c.trans)] 27,.own 3 .int out],m:=1})
def W2(es:List (Int×Nat))(clk i:Nat)(y:Int):Prop:=J Tryz.prog 36 (ar Tryz.f36) Γ P [.code [1,1,1,0,1,0,0,1,1,0,0,1,1,0,0],.inLoop [1,1,1,0,1,0,0,1,1,0,0,1,1,0,0],.inBlock 2,.inBlock 1,.code [1,1,1,0,1,0,0,1,1,1],.inLoop [1,1,1,0,1,0,0],.inBlock 0,.code [1,1,1,1]] ({n:=91,fr:=[(2,.x (.c (.own 0))),(3,.x (.c (.loc 1 0))),(6,.p (.v (Value.slice none 0 0))),(7,.x (.c (.own 2))),(8,.p (.lst .int (b8 c s))),(16,.i (↑((b8 c s).length):Int)),(17,.i i),(10,.x (.c (.loc 3 0)))],ck:=[Chunk.obj (Ob.set es clk),.cells [.pd (.str c.name),.pd (.lst .str c.events),.pd (.lst .var c.vars),.pd (.lst .stat c.states),.pd (.lst .tran c.trans)] 27,.own 3 .int out,.cells [.pd (.int .i64 y)] 3],m:=1})
def W3(es:List (Int×Nat))(clk i:Nat)(y k:Int):Prop:=J Tryz.prog 36 (ar Tryz.f36) Γ P [.code [1,1,1,0,1,0,0,1,1,0,0,1,1,0,0,1,0,0,1,0,0,0],.inLoop [1,1,1,0,1,0,0,1,1,0,0,1,1,0,0,1,0,0,1,0,0,0],.inBlock 4,.code [1,1,1,0,1,0,0,1,1,0,0,1,1,0,0,1,0,0,1,1],.inBlock 3,.code [1,1,1,0,1,0,0,1,1,0,0,1,1,0,0,1,1],.inLoop [1,1,1,0,1,0,0,1,1,0,0,1,1,0,0],.inBlock 2,.inBlock 1,.code [1,1,1,0,1,0,0,1,1,1],.inLoop [1,1,1,0,1,0,0],.inBlock 0,.code [1,1,1,1]] ({n:=91,fr:=[(2,.x (.c (.own 0))),(3,.x (.c (.loc 1 0))),(6,.p (.v (Value.slice none 0 0))),(7,.x (.c (.own 2))),(8,.p (.lst .int (b8 c s))),(16,.i (↑((b8 c s).length):Int)),(17,.i i),(10,.x (.c (.loc 3 0))),(11,.i k)],ck:=[Chunk.obj (Ob.set es clk),.cells [.pd (.str c.name),.pd (.lst .str c.events),.pd (.lst .var c.vars),.pd (.lst .stat c.states),.pd (.lst .tran c.trans)] 27,.own 3 .int out,.cells [.i y] 3],m:=1})
def wQ(r:Int):List Int:=if(decide (r≥0) && !inB out r)=true then out++[r]else out
abbrev zAh1(a:Chart):Chunk:=.cells [.pd (.str a.name),.pd (.lst .str a.events),.pd (.lst .var a.vars),.pd (.lst .stat a.states),.pd (.lst .tran a.trans)] 27
abbrev zAh3:List PI:=[.code [1,1,1,0,1,0,0],.inLoop [1,1,1,0,1,0,0],.inBlock 0,.code [1,1,1,1]]
theorem Rc(es:List (Int×Nat))(clk i:Nat)(y:Int)(hm:c.trans.length≤1000000)(hst:c.states.length≤maxLen)(hol:out.length≤1000):∀(n:Nat) (k:Int), -1≤k→k≤(c.trans.length:Int)→(c.trans.length:Int) - k<(n:Int) →
 (∀r:Int,kR c.trans (es.map (·.1)) y n k=r→(nd c.trans y r=true→W1 Γ P c s (wQ out r) es clk (IntKind.wrap .i64 ((i:Int)+1)))∧(nd c.trans y r=false→W2 Γ P c s out es clk i (c7 c.states y))) →
 W3 Γ P c s out es clk i y k:=by
 intro n
 induction n with
 |zero=>intro k h1 h2 h3;omega
 | succ n ih =>
   intro k h1 h2 h3 H
   rw[kR]at H
   have hguard:(decide (k≥0)&&decide (k<(c.trans.length:Int)))=true→0≤k∧k<(c.trans.length:Int):=fun h=>by simpa using h
   unfold W3
   refine jg lN Tryz.func36 (let x11:Nat×SV:=(3,.x (.c (.loc 1 0)));let x6:Nat×SV:=(6,.p (.v (Value.slice none 0 0)));let x8:Nat×SV:=(8,.p (.lst .int (b8 c s)));let x5:Nat×SV:=(16,.i (↑((b8 c s).length):Int));let x1:List (Nat×SV):=[(2,.x (.c (.own 0))),x11,x6,(7,.x (.c (.own 2))),x8,x5,(17,.i (IntKind.wrap .i64 ((i:Int)+1)))];let x2:=(c.trans.length:Int);let x3:List PI:=zAh3;let x4:List Nat:=[1,1,1,0,1,0,0,1,1,0,0,1,1,0,0];let x7:List Nat:=[1,1,1,0,1,0,0,1,1,0,0,1,1,0,0,1,0,0,1,0,0,0];let x9:=(decide (k≥(0:Int))&&decide (k<x2));let x10:=(ETy.get .tran c.trans (Int.toNat k));.need ((((9,43,true,gk true x9 none).2).2).2→(0:Int)≤k∧k<x2) (.ite (decide (k≥(0:Int))&&decide (k<x2)&&Tran.src x10==y && !ji es k) (.stop [.code x7,.inLoop x7,.inBlock 4,.code [1,1,1,0,1,0,0,1,1,0,0,1,1,0,0,1,0,0,1,1],.inBlock 3,.code [1,1,1,0,1,0,0,1,1,0,0,1,1,0,0,1,1],.inLoop x4,.inBlock 2,.inBlock 1,.code [1,1,1,0,1,0,0,1,1,1],.inLoop [1,1,1,0,1,0,0],.inBlock 0,.code [1,1,1,1]] {n:=91,fr:=[(2,.x (.c (.own 0))),x11,x6,(7,.x (.c (.own 2))),x8,x5,(17,.i i),(10,.x (.c (.loc 3 0))),(11,.i (IntKind.wrap .i64 (k+(1:Int))))],ck:=[Chunk.obj (Ob.set es clk),zAh1 c,.own 3 .int out,.cells [.i y] 3],m:=1}) (.need ((((9,70,true,gk true x9 none).2).2).2→(0:Int)≤k∧k<x2) (.ite (decide (k≥(0:Int))&&decide (k<x2)&&Tran.src x10==y) (.ite (!inB out k) (.need (room ((out++[k]).length) 8) (.stop x3 {n:=91,fr:=x1,ck:=[Chunk.obj (Ob.set es clk),zAh1 c,.own 3 .int (out++[k])],m:=1})) (.stop x3 {n:=91,fr:=x1,ck:=[Chunk.obj (Ob.set es clk),zAh1 c,.own 3 .int out],m:=1})) (.need (c.states.length≤maxLen) (.stop [.code x4,.inLoop x4,.inBlock 2,.inBlock 1,.code [1,1,1,0,1,0,0,1,1,1],.inLoop [1,1,1,0,1,0,0],.inBlock 0,.code [1,1,1,1]] {n:=91,fr:=[(2,.x (.c (.own 0))),x11,x6,(7,.x (.c (.own 2))),x8,x5,(17,.i i),(10,.x (.c (.loc 3 0)))],ck:=[Chunk.obj (Ob.set es clk),zAh1 c,.own 3 .int out,.cells [.i (c7 c.states y)] 3],m:=1})))))) ?_
   conv=>zeta
   refine⟨hguard,fun hb=>?_,fun hb=>⟨hguard,fun hc=>?_,fun hc=>?_⟩⟩
   · have hb':(decide (k≥0)&&decide (k<(c.trans.length:Int))&&dr c.trans k==y && !inB (es.map (·.1)) k)=true:=by rw[←nQ];exact hb
     rw[if_pos hb']at H
     have hk:0≤k∧k<(c.trans.length:Int):=by
      refine hguard ?_
      cases hx:(decide (k≥0)&&decide (k<(c.trans.length:Int)))
      ·rw[hx]at hb';exact absurd hb' (by simp)
      ·rfl
     rw[cg (n:=k+1) (by omega) (by omega)]
     exact ih (k+1) (by omega) (by omega) (by omega) H
   all_goals
    have hb':¬(decide (k≥0)&&decide (k<(c.trans.length:Int))&&dr c.trans k==y && !inB (es.map (·.1)) k)=true:=by
     rw[←nQ]
     have:(decide (k≥0)&&decide (k<(c.trans.length:Int))&&dr c.trans k==y && !ji es k)=false:=hb
     rw[this];exact Bool.false_ne_true
    rw[if_neg hb']at H
    obtain⟨H1,H2⟩:=H k rfl
   · have hc':nd c.trans y k=true:=hc
     have hk0:decide (k≥0)=true:=by
      unfold nd at hc'
      cases hx:decide (k≥0)
      ·rw[hx]at hc';exact absurd hc' (by simp)
      ·rfl
     have h1':=H1 hc'
     unfold wQ at h1'
     refine⟨fun hi=>?_,fun hi=>?_⟩
     · have hi':(!inB out k)=true:=hi
       rw[hk0,hi']at h1'
       exact⟨room_le (by rw[au,cQ];omega) (by omega),h1'⟩
     · have hi':(!inB out k)=false:=hi
       rw[hk0,hi']at h1'
       exact h1'
   ·exact⟨hst,H2 hc⟩
abbrev zAh2:List PI:=[.code [1,1,1,0,1,0,0,1,1,0,0,1,1,0,0,1,0,0,1,0,0,0],.inLoop [1,1,1,0,1,0,0,1,1,0,0,1,1,0,0,1,0,0,1,0,0,0],.inBlock 4,.code [1,1,1,0,1,0,0,1,1,0,0,1,1,0,0,1,0,0,1,1],.inBlock 3,.code [1,1,1,0,1,0,0,1,1,0,0,1,1,0,0,1,1],.inLoop [1,1,1,0,1,0,0,1,1,0,0,1,1,0,0],.inBlock 2,.inBlock 1,.code [1,1,1,0,1,0,0,1,1,1],.inLoop [1,1,1,0,1,0,0],.inBlock 0,.code [1,1,1,1]]
theorem Rb(es:List (Int×Nat))(clk i:Nat)(hm:c.trans.length≤1000000)(v:Tre c.states)(hst:c.states.length≤maxLen)(hol:out.length≤1000)(hs:rK c.trans)(hinc:(es.map (·.1)).Pairwise (· < ·))(hrg:∀k∈es.map (·.1),0≤k∧k<(c.trans.length:Int)):∀(n:Nat) (y:Int), -1≤y→y<(c.states.length:Int)→y<(n:Int) →
 W1 Γ P c s (wQ out (eJ c.states c.trans (es.map (·.1)) n y)) es clk (IntKind.wrap .i64 ((i:Int)+1))→W2 Γ P c s out es clk i y:=by
 intro n
 induction n with
 |zero=>?_
 |succ n ih=>?_
 all_goals
  intro y h1 h2 h3 H
  by_cases hy:y = -1
  · have hz:∀m:Nat,eJ c.states c.trans (es.map (·.1)) m (-1) = -1:=fun m=>by cases m <;> simp[eJ]
    have e:wQ out (-1)=out:=by unfold wQ;simp
    rw[hy,hz,e]at H
    unfold W2
    refine jg lN Tryz.func36 (.ite (decide (y≥(0:Int))) (.stop zAh2 {n:=91,fr:=[(2,.x (.c (.own 0))),(3,.x (.c (.loc 1 0))),(6,.p (.v (Value.slice none 0 0))),(7,.x (.c (.own 2))),(8,.p (.lst .int (b8 c s))),(16,.i (↑((b8 c s).length):Int)),(17,.i i),(10,.x (.c (.loc 3 0))),(11,.i (ay (fun p=>p.src==y) c.trans (0:Int)))],ck:=[Chunk.obj (Ob.set es clk),zAh1 c,.own 3 .int out,.cells [.i y] 3],m:=1}) (.stop zAh3 {n:=91,fr:=[(2,.x (.c (.own 0))),(3,.x (.c (.loc 1 0))),(6,.p (.v (Value.slice none 0 0))),(7,.x (.c (.own 2))),(8,.p (.lst .int (b8 c s))),(16,.i (↑((b8 c s).length):Int)),(17,.i (IntKind.wrap .i64 ((i:Int)+1)))],ck:=[Chunk.obj (Ob.set es clk),zAh1 c,.own 3 .int out],m:=1})) ?_
    exact⟨fun h=>by have:=of_decide_eq_true h;omega,fun _=>H⟩
 ·exfalso;omega
 · unfold W2
   refine jg lN Tryz.func36 (.ite (decide (y≥(0:Int))) (.stop zAh2 {n:=91,fr:=[(2,.x (.c (.own 0))),(3,.x (.c (.loc 1 0))),(6,.p (.v (Value.slice none 0 0))),(7,.x (.c (.own 2))),(8,.p (.lst .int (b8 c s))),(16,.i (↑((b8 c s).length):Int)),(17,.i i),(10,.x (.c (.loc 3 0))),(11,.i (ay (fun p=>p.src==y) c.trans (0:Int)))],ck:=[Chunk.obj (Ob.set es clk),zAh1 c,.own 3 .int out,.cells [.i y] 3],m:=1}) (.stop zAh3 {n:=91,fr:=[(2,.x (.c (.own 0))),(3,.x (.c (.loc 1 0))),(6,.p (.v (Value.slice none 0 0))),(7,.x (.c (.own 2))),(8,.p (.lst .int (b8 c s))),(16,.i (↑((b8 c s).length):Int)),(17,.i (IntKind.wrap .i64 ((i:Int)+1)))],ck:=[Chunk.obj (Ob.set es clk),zAh1 c,.own 3 .int out],m:=1})) ?_
   refine⟨fun _=>?_,fun h=>by have:=of_decide_eq_false h;omega⟩
   obtain⟨q,rfl⟩:=aA (by omega:0≤y)
   have hq:q<c.states.length:=by omega
   have hf : -1≤ay (fun p:Tran=>p.src==(q:Int)) c.trans 0∧ay (fun p:Tran=>p.src==(q:Int)) c.trans 0≤(c.trans.length:Int):=by
    rcases yy c.trans q c.trans.length 0 (by omega)with⟨g1,_⟩ |⟨k,g1,g2,_⟩
    · have g1':ay (fun p:Tran=>p.src==(q:Int)) c.trans 0 = -1:=g1
      omega
    · have g1':ay (fun p:Tran=>p.src==(q:Int)) c.trans 0=(k:Int):=g1
      omega
   refine Rc Γ P c s out es clk i (q:Int) hm hst hol (c.trans.length+2) _ hf.1 hf.2 (by omega) fun r hr=>?_
   have hfind:=Jt hs hinc hrg (q:Int) r hr
   rw[eJ,if_pos (by omega),hfind]at H
   refine⟨fun hh=>?_,fun hh=>?_⟩
   ·rw[if_pos hh]at H;exact H
   · rw[if_neg (by rw[hh];decide)]at H
     simp only[ai]at H
     rw[kI v.right hq]
     have hu:=jo c.states q
     rw[←ft v.shp hq]at hu
     refine ih _ ?_ ?_ ?_ H
     all_goals rcases hu with⟨e,_⟩ |⟨p,e,hp,_⟩ <;> rw[e] <;> omega
theorem Q9(es:List (Int×Nat))(clk:Nat)(v:Valid c)(hl:Lgl c.states s)(hlv:b8 c s=aR c.states s)(hm:c.trans.length≤1000000)(hinc:(es.map (·.1)).Pairwise (· < ·))(hrg:∀k∈es.map (·.1),0≤k∧k<(c.trans.length:Int)):∀(n i:Nat),(aR c.states s).length - i≤n→i≤(aR c.states s).length →
 W1 Γ (Eq2 (.x (.c (.own 1))) [.obj (.set es clk),.own 3 .int (fk (firstM c.states c.trans (es.map (·.1))) (aR c.states s))]) c s (((aR c.states s).take i).foldl (dU (firstM c.states c.trans (es.map (·.1)))) []) es clk (i:Int):=by
 have hst:=(dP c).1 v.few
 have hl1:(aR c.states s).length≤1000:=by
  have h1:=EC hl
  have h2:(aR c.states s).length≤s.length:=aY _ _
  omega
 intro n
 induction n with
 |zero=>?_
 |succ n ih=>?_
 all_goals
  intro i hn hi
  have hol:(((aR c.states s).take i).foldl (dU (firstM c.states c.trans (es.map (·.1)))) []).length≤1000:=by
   have h1:=tZ (firstM c.states c.trans (es.map (·.1))) ((aR c.states s).take i) []
   have:=List.length_take_le i (aR c.states s)
   rw[bJ]at h1
   omega
  have hnext:∀hi':i<(aR c.states s).length,((aR c.states s).take (i+1)).foldl (dU (firstM c.states c.trans (es.map (·.1)))) []=wQ (((aR c.states s).take i).foldl (dU (firstM c.states c.trans (es.map (·.1)))) []) (firstM c.states c.trans (es.map (·.1)) (ETy.get .int (aR c.states s) i)):=fun hi'=>by
   rw[ETy.get_eq (t:=.int) (List.getElem?_eq_getElem hi'),aL hi',gu];rfl
  have hend:(aR c.states s).length≤i→((aR c.states s).take i).foldl (dU (firstM c.states c.trans (es.map (·.1)))) []=fk (firstM c.states c.trans (es.map (·.1))) (aR c.states s):=fun h=>by
   rw[a8 h];rfl
  generalize hR:fk (firstM c.states c.trans (es.map (·.1))) (aR c.states s)=R at *
  generalize hO:((aR c.states s).take i).foldl (dU (firstM c.states c.trans (es.map (·.1)))) []=out at *
  unfold W1
  refine jg lN Tryz.func36 (.ite (decide ((i:Int)<(↑((b8 c s).length):Int))) (.need ((0:Int)≤(i:Int)∧(i:Int)<(↑((b8 c s).length):Int)) (.stop [.code [1,1,1,0,1,0,0,1,1,0,0,1,1,0,0],.inLoop [1,1,1,0,1,0,0,1,1,0,0,1,1,0,0],.inBlock 2,.inBlock 1,.code [1,1,1,0,1,0,0,1,1,1],.inLoop [1,1,1,0,1,0,0],.inBlock 0,.code [1,1,1,1]] {n:=91,fr:=[(2,.x (.c (.own 0))),(3,.x (.c (.loc 1 0))),(6,.p (.v (Value.slice none 0 0))),(7,.x (.c (.own 2))),(8,.p (.lst .int (b8 c s))),(16,.i (↑((b8 c s).length):Int)),(17,.i i),(10,.x (.c (.loc 3 0)))],ck:=[Chunk.obj (Ob.set es clk),zAh1 c,.own 3 .int out,.cells [.i (ETy.get .int (b8 c s) i)] 3],m:=1})) (.ret (.x (.c (.own 1))) [Chunk.obj (Ob.set es clk),.own 3 .int out])) ?_
  refine⟨fun hlt=>?_,fun hge=>?_⟩
  · have hi':i<(aR c.states s).length:=by have:=of_decide_eq_true hlt;rw[hlv]at this;omega
    have hmem:ETy.get .int (aR c.states s) i∈aR c.states s:=by
     rw[ETy.get_eq (t:=.int) (List.getElem?_eq_getElem hi')];exact aW hi'
    obtain⟨q,eq,hq,_⟩:=nh hl hmem
    refine⟨⟨by omega,by rw[hlv];omega⟩,?_⟩
    have hn':=hnext hi'
    rw[←hlv]at eq
    refine Rb Γ _ c s out es clk i hm v.tre (by unfold maxLen;omega) hol (C0 v) hinc hrg (c.states.length+1) (ETy.get .int (b8 c s) i) (by omega) (by omega) (by omega) ?_
    unfold firstM at hn'
    rw[hlv,←hn',cg (n:=(i:Int)+1) (by omega) (by omega)]
    first
    |(exfalso;omega)
    |exact ih (i+1) (by omega) (by omega)
  · have:=of_decide_eq_false hge
    rw[hlv]at this
    rw[hend (by omega)];exact⟨rfl,rfl⟩
theorem D6(es:List (Int×Nat))(clk:Nat)(h:(Valid c∧bw c.states s=true)∧c.trans.length≤1000000∧(es.map (·.1)).Pairwise (· < ·)∧∀k∈es.map (·.1),0≤k∧k<(c.trans.length:Int)):ah Tryz.prog 36 [.e .chart c,.l .int s,.c (.own 0)] [.obj (.set es clk)] (.x (.c (.own 1))) [.obj (.set es clk),.own 3 .int (fk (firstM c.states c.trans (es.map (·.1))) (aR c.states s))]:=by
 obtain⟨⟨v,hg⟩,hm,hinc,hrg⟩:=h
 have hst:=(dP c).1 v.few
 have hl:=(kj v.tre.shp s).1 hg
 have hlv:b8 c s=aR c.states s:=by unfold b8;rw[(db c).2 v,hg];rfl
 refine dg lN Tryz.func36 (.need (c.vars.length≤2199023255552∧c.states.length≤2199023255552) (.stop zAh3 {n:=91,fr:=[(2,.x (.c (.own 0))),(3,.x (.c (.loc 1 0))),(6,.p (.v (Value.slice none 0 0))),(7,.p (.v (Value.slice none 0 0))),(8,.p (.lst .int (b8 c s))),(16,.i (↑((b8 c s).length):Int)),(17,.i 0)],ck:=[Chunk.obj (Ob.set es clk),zAh1 c],m:=1})) fun Γ=>?_
 refine⟨⟨by omega,by omega⟩,?_⟩
 refine J.nilOwn 7 3 .int rfl (by kernel_rfl) ?_
 exact Q9 Γ c s es clk v hl hlv hm hinc hrg (aR c.states s).length 0 (by omega) (by omega)
def r6:Ent:=(36,fun
 |[.agg [.pd (.str a),.pd (.lst .str b),.pd (.lst .var c),.pd (.lst .stat d),.pd (.lst .tran e)],.c (.pd (.lst .int s)),.c (.own 0)],[.obj (.set es clk)]=>some (some ((Valid ⟨a,b,c,d,e⟩∧bw d s=true)∧e.length≤1000000∧(es.map (·.1)).Pairwise (· < ·)∧∀k∈es.map (·.1),0≤k∧k<(e.length:Int)),.x (.c (.own 1)),[.obj (.set es clk),.own 3 .int (fk (firstM d e (es.map (·.1))) (aR d s))])
 |_,_=>none)
theorem Gj:EntOk Tryz.prog r6:=entOk fun vs ck=>by
 unfold r6;dsimp only;split
 ·rename_i a b c d e s es clk;exact entS fun hp=>D6 ⟨a,b,c,d,e⟩ s es clk hp
 ·exact entN
end Go.Proofs.YtlhgnjmdopjpeaaGreatDoor

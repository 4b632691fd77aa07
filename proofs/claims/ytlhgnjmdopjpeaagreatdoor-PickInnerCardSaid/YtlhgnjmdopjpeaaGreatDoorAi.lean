/- Contracts: pick: meet, Leaves, Of. Conditions: sizes. -/
import Derived.Test.YtlhgnjmdopjpeaaGreatDoorAg
import Derived.Test.YtlhgnjmdopjpeaaGreatDoorAh
namespace Go.Proofs.YtlhgnjmdopjpeaaGreatDoor
open Go Go.Ev
set_option maxRecDepth 100000
variable(Γ:Ctx)(c:Chart)(P:Out)(s ws l:List Int)(vs:List Val)(b:List Int)(ev:Str)(t:Int)
def gL:List Int:=if(bp c==0&&bw c.states s)=true then cC c.states s c.trans (bM c s vs ev)else[]
def fj:List Int:=if(decide (t<0)||decide (t≥(c.trans.length:Int)) || !(bp c==0&&bw c.states s) || !inB s (ETy.get .tran c.trans t.toNat).src)=true then[]else iU c.states s (ETy.get .tran c.trans t.toNat)
def HX:Cfg:=⟨aU,[tn]⟩
theorem HY:ag Tryz.prog HX.tab:=(ag.cons rZ ag.nil)
theorem MM(k:Int):ah Tryz.prog 72 [.i k,.p (.ref .ints b 0)] [] (.x (.b (inB b k))) []:=by
 refine dg HY Tryz.func72 (.ret (.p (.bool (inB b k))) []) fun Γ=>⟨rfl,rfl⟩
def FU:Ent:=(72,fun
 |[.c (.pd (.int .i64 k)),.c (.pd (.ref .ints b 0))],[]=>some (none,.x (.c (.pd (.bool (inB b k)))),[])
 |_,_=>none)
theorem Py:EntOk Tryz.prog FU:=entOk fun vs ck=>by
 unfold FU;dsimp only;split
 ·rename_i k b;exact entS fun hp=>MM b k
 ·exact entN
def AZ:Cfg:=⟨aU,[FU]⟩
theorem xw:ag Tryz.prog AZ.tab:=(ag.cons Py ag.nil)
abbrev zAi4:List PI:=[.code [1,0,1,0,0],.inLoop [1,0,1,0,0],.inBlock 0,.code [1,1]]
theorem Mi(Γ:Ctx)(hl:l.length≤maxLen)  : ∀(n k:Nat),l.length - k≤n→k≤l.length →
 J Tryz.prog 118 (ar Tryz.f118) Γ (Eq2 (.x (.i (ay (fun p:Int=>inB b p) (l.drop k) k))) []) zAi4 ({n:=19,fr:=[(0,.p (.lst .int l)),(1,.x (.c (.fn (.func 72) [] [.pd (.ref .ints b 0)]))),(4,.i 0),(7,.i l.length),(8,.i k)],ck:=[]}):=by
 intro n
 induction n with
 |zero=>?_
 |succ n ih=>?_
 all_goals
  intro k hn hk
  refine jg xw Tryz.func118 (.ite (decide ((k:Int)<(l.length:Int))) (.need (inRg k l.length) (.ite (inB b (ETy.get .int l k)) (.ret (.i k) []) (.stop zAi4 {n:=19,fr:=[(0,.p (.lst .int l)),(1,.x (.c (.fn (.func 72) [] [.pd (.ref .ints b 0)]))),(4,.i 0),(7,.i l.length),(8,.i (IntKind.wrap .i64 ((k:Int)+1)))],ck:=[]}))) (.ret (.i (-1:Int)) [])) ?_
  refine⟨fun hlt=>?_,fun hge=>?_⟩
  · have hk':k<l.length:=by have:=of_decide_eq_true hlt;omega
    rw[bx (t:=.int) (l:=l) hk']
    refine⟨by omega,?_⟩
    generalize ETy.get .int l k=v
    refine⟨fun hb=>⟨?_,rfl⟩,fun hb=>?_⟩
    · have hb':inB b (v:Int)=true:=hb
      simp only[ay,hb',cond_true]
    · have hb':inB b (v:Int)=false:=hb
      simp only[ay,hb',cond_false];(rw[aZ (aG hk' hl)];first |(exfalso;omega) |exact ih (k+1) (by omega) (by omega))
  · rw[bS (l:=l) (by have:=of_decide_eq_false hge;omega)]
    exact⟨rfl,rfl⟩
theorem Mj:ah Tryz.prog 118 [.l .int (l),SX.c (SC.fn (Fn.func 72) [] [RC.pd (PD.ref ETy.ints b 0)])] [] (.x (.i (ay (fun p:Int=>inB b p) l 0))) []:=by
 refine dg xw Tryz.func118 (.stop zAi4 {n:=19,fr:=[(0,.p (.lst .int l)),(1,.x (.c (.fn (.func 72) [] [.pd (.ref .ints b 0)]))),(4,.i 0),(7,.i l.length),(8,.i 0)],ck:=[]}) fun Γ=>?_
 exact J.len 0 rfl fun hl=>Mi l b Γ hl l.length 0 (by omega) (by omega)
def FJ:Ent:=(118,fun
 |[.c (.pd (.lst .int l)),.c (.fn (.func 72) [] [.pd (.ref .ints b 0)])],[]=>some (none,.x (.c (.pd (.int .i64 (ay (fun p:Int=>inB b p) l 0)))),[])
 |_,_=>none)
theorem Pp:EntOk Tryz.prog FJ:=entOk fun vs ck=>by
 unfold FJ;dsimp only;split
 ·rename_i l b;exact entS fun hp=>Mj l b
 ·exact entN
def HZ:Cfg:=⟨aU,[FJ]⟩
theorem H3:ag Tryz.prog HZ.tab:=(ag.cons Pp ag.nil)
theorem Ly:ah Tryz.prog 71 [.l .int l,.c (.fn (.func 72) [] [.pd (.ref .ints b 0)])] [] (.x (.b (cJ l b))) []:=by
 refine dg H3 Tryz.func71 (.ret (.p (.bool (decide (ay (fun p=>inB b p) l (0:Int)≥0)))) []) fun Γ=>⟨?_,rfl⟩
 rw[iO _ _ _ (by omega)];rfl
def FD:Ent:=(71,fun
 |[.c (.pd (.lst .int l)),.c (.fn (.func 72) [] [.pd (.ref .ints b 0)])],[]=>some (none,.x (.c (.pd (.bool (cJ l b)))),[])
 |_,_=>none)
theorem Pn:EntOk Tryz.prog FD:=entOk fun vs ck=>by
 unfold FD;dsimp only;split
 ·rename_i l b;exact entS fun hp=>Ly l b
 ·exact entN
def H4:Cfg:=⟨aU,[FD]⟩
theorem H5:ag Tryz.prog H4.tab:=(ag.cons Pn ag.nil)
theorem JR:ah Tryz.prog 37 [.l .int l,.l .int b] [] (.x (.b (cJ l b))) []:=by
 refine dg H5 Tryz.func37 (.ret (.p (.bool (cJ l b))) []) fun Γ=>⟨rfl,rfl⟩
def Ak:Ent:=(37,fun
 |[.c (.pd (.lst .int l)),.c (.pd (.lst .int b))],[]=>some (none,.x (.c (.pd (.bool (cJ l b)))),[])
 |_,_=>none)
theorem LU:EntOk Tryz.prog Ak:=entOk fun vs ck=>by
 unfold Ak;dsimp only;split
 ·rename_i l b;exact entS fun hp=>JR l b
 ·exact entN
def A0:Cfg:=⟨aU,[kX,tn,BF]⟩
theorem xx:ag Tryz.prog A0.tab:=(ag.cons ml (ag.cons rZ (ag.cons Em ag.nil)))
def jH:Cfg:=⟨aU,[kX,uG,r6,BF,Ak,oP,oL]⟩
theorem gP:ag Tryz.prog jH.tab:=(ag.cons ml (ag.cons BD (ag.cons Gj (ag.cons Em (ag.cons LU (ag.cons vi (ag.cons u7 ag.nil)))))))
def O1(c:Chart)(s ws:List Int)(vs:List Val)(ev:Str)(es:List (Int×Nat))(clk:Nat)(i:Int):Prop:=J Tryz.prog 19 (ar Tryz.f19) Γ P [.code [1,1,1,0,1,0,0],.inLoop [1,1,1,0,1,0,0],.inBlock 0,.code [1,1,1,1]] ({n:=96,fr:=[(30,.p (.lst .int ws)),(31,.i ((ws.length:Int))),(32,.i i),(1,.p (.lst .int s)),(4,.x (.c (.loc 0 0))),(8,.p (.v (Value.slice none 0 0))),(9,.x (.c (.own 1)))],ck:=[.cells [.pd (.str c.name),.pd (.lst .str c.events),.pd (.lst .var c.vars),.pd (.lst .stat c.states),.pd (.lst .tran c.trans)] 27,Chunk.obj (Ob.set es clk)]})
def O2(c:Chart)(s ws own gone:List Int)(vs:List Val)(ev:Str)(es done:List (Int×Nat))(clk i:Nat)(t:Int)(b:Bool):Prop:=J Tryz.prog 19 (ar Tryz.f19) Γ P [.code [1,1,1,0,1,0,0,1,1,0,0,1,1,1,1,0,1,0,0],.inLoop [1,1,1,0,1,0,0,1,1,0,0,1,1,1,1,0,1,0,0],.inBlock 2,.code [1,1,1,0,1,0,0,1,1,0,0,1,1,1,1,1],.inBlock 1,.code [1,1,1,0,1,0,0,1,1,1],.inLoop [1,1,1,0,1,0,0],.inBlock 0,.code [1,1,1,1]] ({n:=96,fr:=[(12,.p (.lst .int own)),(30,.p (.lst .int ws)),(31,.i ws.length),(32,.i i),(1,.p (.lst .int s)),(4,.x (.c (.loc 0 0))),(8,.p (.v (Value.slice none 0 0))),(9,.x (.c (.own 1))),(11,.i t),(13,.p (.bool b)),(14,.x (.c (.own 3))),(45,.x (.c (.loc 2 0)))],ck:=[.cells [.pd (.str c.name),.pd (.lst .str c.events),.pd (.lst .var c.vars),.pd (.lst .stat c.states),.pd (.lst .tran c.trans)] 27,Chunk.obj (Ob.set es clk),Chunk.obj (Ob.it 1 done clk),.own 3 .int gone]})
def O6(c:Chart)(s ws own gone:List Int)(vs:List Val)(ev:Str)(es es2 done:List (Int×Nat))(clk i j:Nat)(t:Int)(b:Bool):Prop:=J Tryz.prog 19 (ar Tryz.f19) Γ P [.code [1,1,1,0,1,0,0,1,1,0,0,1,1,1,1,1,1,0,1,0,0],.inLoop [1,1,1,0,1,0,0,1,1,0,0,1,1,1,1,1,1,0,1,0,0],.inBlock 4,.code [1,1,1,0,1,0,0,1,1,0,0,1,1,1,1,1,1,1],.inBlock 1,.code [1,1,1,0,1,0,0,1,1,1],.inLoop [1,1,1,0,1,0,0],.inBlock 0,.code [1,1,1,1]] ({n:=96,fr:=[(30,.p (.lst .int ws)),(31,.i ws.length),(32,.i i),(1,.p (.lst .int s)),(4,.x (.c (.loc 0 0))),(8,.p (.v (Value.slice none 0 0))),(9,.x (.c (.own 1))),(11,.i t),(82,.x (.c (.own 2))),(83,.i gone.length),(84,.i ((j:Int)))],ck:=[.cells [.pd (.str c.name),.pd (.lst .str c.events),.pd (.lst .var c.vars),.pd (.lst .stat c.states),.pd (.lst .tran c.trans)] 27,Chunk.obj (Ob.set es2 clk),.own 3 .int gone]})
abbrev zAi1(a:Chart):Chunk:=.cells [.pd (.str a.name),.pd (.lst .str a.events),.pd (.lst .var a.vars),.pd (.lst .stat a.states),.pd (.lst .tran a.trans)] 27
abbrev zAi3:List PI:=[.code [1,1,1,0,1,0,0],.inLoop [1,1,1,0,1,0,0],.inBlock 0,.code [1,1,1,1]]
theorem Qm(c:Chart)(s ws own gone:List Int)(vs:List Val)(ev:Str)(es done:List (Int×Nat))(clk i:Nat)(t:Int)(b:Bool)(hgl:gone.length≤1000):∀(n j:Nat) (es2:List (Int×Nat)),gone.length - j≤n→j≤gone.length →
 O1 Γ P c s ws vs ev (jD (pk es2 (gone.drop j)) clk t) (ky (pk es2 (gone.drop j)) clk t) (IntKind.wrap .i64 ((i:Int)+1))→O6 Γ P c s ws own gone vs ev es es2 done clk i j t b:=by
 intro n
 induction n with
 |zero=>?_
 |succ n ih=>?_
 all_goals
  intro j es2 hn hj H
  unfold O6
  refine jg gP Tryz.func19 (.ite (decide ((j:Int)<(gone.length:Int))) (.need (inRg j gone.length) (.need (j<gone.length) (.stop [.ops [1,1,1,0,1,0,0,1,1,0,0,1,1,1,1,1,1,0,1,0,0,1,1,0,0,1] 2,.inBlock 5,.code [1,1,1,0,1,0,0,1,1,0,0,1,1,1,1,1,1,0,1,0,0,1,1,1],.inLoop [1,1,1,0,1,0,0,1,1,0,0,1,1,1,1,1,1,0,1,0,0],.inBlock 4,.code [1,1,1,0,1,0,0,1,1,0,0,1,1,1,1,1,1,1],.inBlock 1,.code [1,1,1,0,1,0,0,1,1,1],.inLoop [1,1,1,0,1,0,0],.inBlock 0,.code [1,1,1,1]] {n:=96,fr:=[(30,.p (.lst .int ws)),(31,.i ws.length),(32,.i i),(1,.p (.lst .int s)),(4,.x (.c (.loc 0 0))),(8,.p (.v (Value.slice none 0 0))),(9,.x (.c (.own 1))),(11,.i t),(82,.x (.c (.own 2))),(83,.i gone.length),(84,.i j),(88,.x (.c (.own 1))),(89,.i (ETy.get .int gone j))],ck:=[zAi1 c,Chunk.obj (Ob.set es2 clk),.own 3 .int gone]}))) (.stop zAi3 {n:=96,fr:=[(30,.p (.lst .int ws)),(31,.i ws.length),(32,.i (IntKind.wrap .i64 ((i:Int)+1))),(1,.p (.lst .int s)),(4,.x (.c (.loc 0 0))),(8,.p (.v (Value.slice none 0 0))),(9,.x (.c (.own 1)))],ck:=[zAi1 c,Chunk.obj (Ob.set (jD es2 clk t) (ky es2 clk t))]})) ?_
  refine⟨fun hlt=>?_,fun hge=>?_⟩
  · have hj':j<gone.length:=by have:=of_decide_eq_true hlt;omega
    rw[bx (t:=.int) hj']at H
    refine⟨⟨by omega,by omega⟩,hj',?_⟩
    refine J.delete (es:=es2) (n:=ETy.get .int gone j) (clk:=clk) (j:=1) (od:=none) (by kernel_rfl) ?_
    refine jg gP Tryz.func19 (.stop [.code [1,1,1,0,1,0,0,1,1,0,0,1,1,1,1,1,1,0,1,0,0],.inLoop [1,1,1,0,1,0,0,1,1,0,0,1,1,1,1,1,1,0,1,0,0],.inBlock 4,.code [1,1,1,0,1,0,0,1,1,0,0,1,1,1,1,1,1,1],.inBlock 1,.code [1,1,1,0,1,0,0,1,1,1],.inLoop [1,1,1,0,1,0,0],.inBlock 0,.code [1,1,1,1]] {n:=96,fr:=[(30,.p (.lst .int ws)),(31,.i ws.length),(32,.i i),(1,.p (.lst .int s)),(4,.x (.c (.loc 0 0))),(8,.p (.v (Value.slice none 0 0))),(9,.x (.c (.own 1))),(11,.i t),(82,.x (.c (.own 2))),(83,.i gone.length),(84,.i (IntKind.wrap .i64 ((j:Int)+1)))],ck:=[zAi1 c,Chunk.obj (Ob.set (kV es2 (ETy.get .int gone j)) clk),.own 3 .int gone]}) ?_
    rw[cg (n:=(j:Int)+1) (by omega) (by omega)]
    first
    |(exfalso;omega)
    |exact ih (j+1) (kV es2 (ETy.get .int gone j)) (by omega) (by omega) H
  · rw[bS (by have:=of_decide_eq_false hge;omega)]at H
    exact H
theorem Ky{c:Chart}(v:Valid c){k:Int}(h:0≤k∧k<(c.trans.length:Int)):∃q:Nat,dr c.trans k=(q:Int)∧q<c.states.length:=by
 have h0:=((mE c k.toNat _ _).1 (v.trans k.toNat (by omega))).1
 unfold gA at h0
 rw[al,al,al]at h0
 have h1:=of_decide_eq_false h0.1.1.1
 have h2:=of_decide_eq_false h0.1.1.2
 obtain⟨q,hq⟩:=aA (by omega:0≤(ETy.get .tran c.trans k.toNat).src)
 exact⟨q,hq,by omega⟩
abbrev zAi2:List PI:=[.ops [1,1,1,0,1,0,0,1,1,0,0,1,1,1,1,0,1,0,0,1,1,0,0] 0,.code [1,1,1,0,1,0,0,1,1,0,0,1,1,1,1,0,1,0,0,1,1,0,1],.inBlock 3,.inLoop [1,1,1,0,1,0,0,1,1,0,0,1,1,1,1,0,1,0,0],.inBlock 2,.code [1,1,1,0,1,0,0,1,1,0,0,1,1,1,1,1],.inBlock 1,.code [1,1,1,0,1,0,0,1,1,1],.inLoop [1,1,1,0,1,0,0],.inBlock 0,.code [1,1,1,1]]
theorem Ql (c:Chart) (s ws:List Int) (vs:List Val) (ev:Str) (es:List (Int×Nat)) (clk i:Nat) (t:Int) (v:Valid c) (hs:s.length≤1000∧∀y∈s,0≤y∧y<(c.states.length:Int)) (hm:MapOk es clk) (hl:es.length≤1000) (ht:0≤t∧t<(c.trans.length:Int)) (hK:∀k∈es.map (·.1),0≤k∧k<(c.trans.length:Int))
 (H:∀(gone:List Int) (b:Bool),(∀k,k∈gone↔k∈es.map (·.1)∧(cJ (lvM c.states s c.trans t) (lvM c.states s c.trans k)&&wiM c.states c.trans k t)=true)→b = !(es.map (·.1)).any (fun k=>cJ (lvM c.states s c.trans t) (lvM c.states s c.trans k) && !wiM c.states c.trans k t) →
  (b=false→O1 Γ P c s ws vs ev es clk (IntKind.wrap .i64 ((i:Int)+1)))∧(b=true→O1 Γ P c s ws vs ev (jD (pk es gone) clk t) (ky (pk es gone) clk t) (IntKind.wrap .i64 ((i:Int)+1)))) :
 ∀(n:Nat) (done:List (Int×Nat)) (gone:List Int) (b:Bool),es.length - done.length≤n→(∀e∈done,e∈es)→(done.map (·.2)).Nodup→gone.length≤done.length→(∀k,k∈gone↔k∈done.map (·.1)∧(cJ (lvM c.states s c.trans t) (lvM c.states s c.trans k)&&wiM c.states c.trans k t)=true)→b = !(done.map (·.1)).any (fun k=>cJ (lvM c.states s c.trans t) (lvM c.states s c.trans k) && !wiM c.states c.trans k t) →
 O2 Γ P c s ws (lvM c.states s c.trans t) gone vs ev es done clk i t b:=by
 have hst:=(dP c).1 v.few
 generalize hown:lvM c.states s c.trans t=own at *
 intro n
 induction n with
 |zero=>?_
 |succ n ih=>?_
 all_goals
  intro done gone b hn hin hnd hgl hg hb
  have hle:done.length≤es.length:=k0 (k6 hnd) hin
  unfold O2
  refine jg gP Tryz.func19 (.stop [.ops [1,1,1,0,1,0,0,1,1,0,0,1,1,1,1,0,1,0,0,0] 0,.code [1,1,1,0,1,0,0,1,1,0,0,1,1,1,1,0,1,0,0,1],.inLoop [1,1,1,0,1,0,0,1,1,0,0,1,1,1,1,0,1,0,0],.inBlock 2,.code [1,1,1,0,1,0,0,1,1,0,0,1,1,1,1,1],.inBlock 1,.code [1,1,1,0,1,0,0,1,1,1],.inLoop [1,1,1,0,1,0,0],.inBlock 0,.code [1,1,1,1]] {n:=96,fr:=[(12,.p (.lst .int own)),(30,.p (.lst .int ws)),(31,.i ws.length),(32,.i i),(1,.p (.lst .int s)),(4,.x (.c (.loc 0 0))),(8,.p (.v (Value.slice none 0 0))),(9,.x (.c (.own 1))),(11,.i t),(13,.p (.bool b)),(14,.x (.c (.own 3))),(45,.x (.c (.loc 2 0)))],ck:=[zAi1 c,Chunk.obj (Ob.set es clk),Chunk.obj (Ob.it 1 done clk),.own 3 .int gone]}) ?_
  refine J.next (es:=es) (done:=done) (clk:=clk) (clk':=clk) (d:=46) (q:=2) (j:=1) (by kernel_rfl) rfl hm (fun hall=>?_) (fun e he hne=>?_)
  · refine jg gP Tryz.func19 (let x1:Nat×SV:=(8,.p (.v (Value.slice none 0 0)));let x2:List Nat:=[1,1,1,0,1,0,0,1,1,0,0,1,1,1,1,1,1,0,1,0,0];let x3:Nat×SV:=(30,.p (.lst .int ws));let x4:Nat×SV:=(4,.x (.c (.loc 0 0)));.ite false (.stop zAi2 {n:=96,fr:=[(12,.p (.lst .int own)),x3,(31,.i ws.length),(32,.i i),(1,.p (.lst .int s)),x4,x1,(9,.x (.c (.own 1))),(11,.i t),(13,.p (.bool b)),(14,.x (.c (.own 3))),(45,.x (.c (.loc 2 0)))],ck:=[zAi1 c,Chunk.obj (Ob.set es clk),Chunk.obj (Ob.it 1 done clk),.own 3 .int gone]}) (.ite (!b) (.stop zAi3 {n:=96,fr:=[x3,(31,.i ws.length),(32,.i (IntKind.wrap .i64 ((i:Int)+1))),(1,.p (.lst .int s)),x4,x1,(9,.x (.c (.own 1)))],ck:=[zAi1 c,Chunk.obj (Ob.set es clk)]}) (.stop [.code x2,.inLoop x2,.inBlock 4,.code [1,1,1,0,1,0,0,1,1,0,0,1,1,1,1,1,1,1],.inBlock 1,.code [1,1,1,0,1,0,0,1,1,1],.inLoop [1,1,1,0,1,0,0],.inBlock 0,.code [1,1,1,1]] {n:=96,fr:=[x3,(31,.i ws.length),(32,.i i),(1,.p (.lst .int s)),x4,x1,(9,.x (.c (.own 1))),(11,.i t),(82,.x (.c (.own 2))),(83,.i gone.length),(84,.i 0)],ck:=[zAi1 c,Chunk.obj (Ob.set es clk),.own 3 .int gone]}))) ?_
    conv=>zeta
    have hkeys:∀k,k∈done.map (·.1)↔k∈es.map (·.1):=fun k=>by
     rw[aM,aM]
     constructor
     ·rintro⟨e,h1,h2⟩;exact⟨e,hin e h1,h2⟩
     · rintro⟨e,h1,h2⟩
       obtain⟨e2,h3,h4⟩:=aM.1 (hall e h1)
       exact⟨e2,h3,by rw[ng hm.nodup (hin e2 h3) h1 h4];exact h2⟩
    have hb2:b = !(es.map (·.1)).any (fun k=>cJ own (lvM c.states s c.trans k) && !wiM c.states c.trans k t):=by
     rw[hb];congr 1
     rw[aT,bf,bf]
     constructor
     ·rintro⟨k,h1,h2⟩;exact⟨k,(hkeys k).1 h1,h2⟩
     ·rintro⟨k,h1,h2⟩;exact⟨k,(hkeys k).2 h1,h2⟩
    obtain⟨H1,H2⟩:=H gone b (fun k=>by rw[hg,hkeys]) hb2
    refine⟨fun h=>absurd h (by decide),fun _=>⟨fun h=>H1 (by simpa using h),fun h=>?_⟩⟩
    exact Qm Γ P c s ws own gone vs ev es done clk i t b (by omega) gone.length 0 es (by omega) (by omega) (H2 (by simpa using h))
  · obtain ⟨x,b2⟩:=e
    have hx:=hK x (aM.2 ⟨_,he,rfl⟩)
    refine jg gP Tryz.func19 (let x1:Nat×SV:=(8,.p (.v (Value.slice none 0 0)));let x2:List Nat:=[1,1,1,0,1,0,0,1,1,0,0,1,1,1,1,1,1,0,1,0,0];let x3:Nat×SV:=(30,.p (.lst .int ws));let x4:Nat×SV:=(4,.x (.c (.loc 0 0)));.ite true (.stop zAi2 {n:=96,fr:=[(12,.p (.lst .int own)),x3,(31,.i ws.length),(32,.i i),(1,.p (.lst .int s)),x4,x1,(9,.x (.c (.own 1))),(11,.i t),(13,.p (.bool b)),(14,.x (.c (.own 3))),(45,.x (.c (.loc 2 0)))],ck:=[zAi1 c,Chunk.obj (Ob.set es clk),Chunk.obj (Ob.it 1 ((x,b2)::done) clk),.own 3 .int gone]}) (.ite (!b) (.stop zAi3 {n:=96,fr:=[x3,(31,.i ws.length),(32,.i (IntKind.wrap .i64 ((i:Int)+1))),(1,.p (.lst .int s)),x4,x1,(9,.x (.c (.own 1)))],ck:=[zAi1 c,Chunk.obj (Ob.set es clk)]}) (.stop [.code x2,.inLoop x2,.inBlock 4,.code [1,1,1,0,1,0,0,1,1,0,0,1,1,1,1,1,1,1],.inBlock 1,.code [1,1,1,0,1,0,0,1,1,1],.inLoop [1,1,1,0,1,0,0],.inBlock 0,.code [1,1,1,1]] {n:=96,fr:=[x3,(31,.i ws.length),(32,.i i),(1,.p (.lst .int s)),x4,x1,(9,.x (.c (.own 1))),(11,.i t),(82,.x (.c (.own 2))),(83,.i gone.length),(84,.i 0)],ck:=[zAi1 c,Chunk.obj (Ob.set es clk),.own 3 .int gone]}))) ?_
    conv=>zeta
    refine⟨fun _=>?_,fun h=>absurd h (by decide)⟩
    refine J.entry (es:=es) (done:=done) (e:=(x,b2)) (clk:=clk) (clk':=clk) (d:=48) (q:=2) (j:=1) (by kernel_rfl) rfl hm he ?_
    refine jg gP Tryz.func19 (let x5:List Nat:=[1,1,1,0,1,0,0,1,1,0,0,1,1,1,1,0,1,0,0];let x1:List PI:=[.code x5,.inLoop x5,.inBlock 2,.code [1,1,1,0,1,0,0,1,1,0,0,1,1,1,1,1],.inBlock 1,.code [1,1,1,0,1,0,0,1,1,1],.inLoop [1,1,1,0,1,0,0],.inBlock 0,.code [1,1,1,1]];let x2:List Chunk:=[zAi1 c,Chunk.obj (Ob.set es clk),Chunk.obj (Ob.it 1 ((x,b2)::done) clk),.own 3 .int gone];let x3:=(ETy.get .tran c.trans (Int.toNat x));let x4:Nat×SV:=(8,.p (.v (Value.slice none 0 0)));let x6:=((0:Int)≤x∧x<(c.trans.length:Int));let x7:Nat×SV:=(12,.p (.lst .int own));let x8:Nat×SV:=(45,.x (.c (.loc 2 0)));let x9:Nat×SV:=(30,.p (.lst .int ws));let x10:Nat×SV:=(4,.x (.c (.loc 0 0)));.need x6 (.need (Valid c∧(∃i,i<c.trans.length∧x3=ETy.get .tran c.trans i)∧s.length≤1000∧∀(y:ETy.den .int),y∈s→(0:ETy.den .int)≤y∧y<(c.states.length:Int)) (.ite (!cJ own (iU c.states s x3)) (.stop x1 {n:=96,fr:=[x7,x9,(31,.i ws.length),(32,.i i),(1,.p (.lst .int s)),x10,x4,(9,.x (.c (.own 1))),(11,.i t),(13,.p (.bool b)),(14,.x (.c (.own 3))),x8],ck:=x2}) (.need x6 (.need ((0:Int)≤t∧t<(c.trans.length:Int)) (.need (c.states.length≤maxLen) (.ite (iR c.states (Tran.src x3) (Tran.src (ETy.get .tran c.trans (Int.toNat t)))) (.need (room ((gone++[x]).length) 8) (.stop x1 {n:=96,fr:=[x7,x9,(31,.i ws.length),(32,.i i),(1,.p (.lst .int s)),x10,x4,(9,.x (.c (.own 1))),(11,.i t),(13,.p (.bool b)),(14,.x (.c (.own 3))),x8],ck:=[zAi1 c,Chunk.obj (Ob.set es clk),Chunk.obj (Ob.it 1 ((x,b2)::done) clk),.own 3 .int (gone++[x])]})) (.stop x1 {n:=96,fr:=[x7,x9,(31,.i ws.length),(32,.i i),(1,.p (.lst .int s)),x10,x4,(9,.x (.c (.own 1))),(11,.i t),(13,.p (.bool false)),(14,.x (.c (.own 3))),x8],ck:=x2,kn:=[13]})))))))) ?_
    conv=>zeta
    have hnd2:(((x,b2)::done).map (·.2)).Nodup:=dv.2 ⟨hne,hnd⟩
    have hin2:∀e∈(x,b2)::done,e∈es:=fun e h=>by
     rcases aI.1 h with rfl |h
     ·exact he
     ·exact hin e h
    have hle2:((x,b2)::done).length≤es.length:=k0 (k6 hnd2) hin2
    rw[ax]at hle2
    obtain⟨qx,ex,hqx⟩:=Ky v hx
    obtain⟨qt,et,hqt⟩:=Ky v ht
    have hwi:iR c.states (ETy.get .tran c.trans x.toNat).src (ETy.get .tran c.trans t.toNat).src=wiM c.states c.trans x t:=by
     have h1:(ETy.get .tran c.trans x.toNat).src=(qx:Int):=ex
     have h2:(ETy.get .tran c.trans t.toNat).src=(qt:Int):=et
     unfold wiM
     rw[ex,et,h1,h2,ai]
     exact v7 v.tre.right hqx hqt
    have hany:∀F:Int→Bool,(((x,b2)::done).map (·.1)).any F=(F x||(done.map (·.1)).any F):=fun F=>by rw[aq,cr]
    have hmem:∀k,k∈((x,b2)::done).map (·.1)↔k=x∨k∈done.map (·.1):=fun k=>by rw[aq,aI]
    refine⟨hx,⟨v,⟨x.toNat,by omega,rfl⟩,hs⟩,fun hmt=>?_,fun hmt=>?_⟩
    · have hmt':cJ own (lvM c.states s c.trans x)=false:=by have h:(!cJ own (lvM c.states s c.trans x))=true:=hmt;simpa using h
      have hg2:∀k,k∈gone↔k∈((x,b2)::done).map (·.1)∧(cJ own (lvM c.states s c.trans k)&&wiM c.states c.trans k t)=true:=fun k=>by
       rw[hg,hmem]
       constructor
       ·rintro⟨h1,h2⟩;exact⟨.inr h1,h2⟩
       · rintro⟨rfl |h1,h2⟩
         ·rw[hmt']at h2;cases h2
         ·exact⟨h1,h2⟩
      have hb2':b = !(((x,b2)::done).map (·.1)).any (fun k=>cJ own (lvM c.states s c.trans k) && !wiM c.states c.trans k t):=by
       rw[hany,hb,hmt'];rfl
      first
      |(exfalso;omega)
      |exact ih ((x,b2)::done) gone b (by rw[ax];omega) hin2 hnd2 (by rw[ax];omega) hg2 hb2'
    · have hmt':cJ own (lvM c.states s c.trans x)=true:=by have h:(!cJ own (lvM c.states s c.trans x))=false:=hmt;simpa using h
      refine⟨hx,ht,by unfold maxLen;omega,fun hw=>?_,fun hw=>?_⟩
      · have hw':wiM c.states c.trans x t=true:=by rw[←hwi];exact hw
        have hg2:∀k,k∈gone++[x]↔k∈((x,b2)::done).map (·.1)∧(cJ own (lvM c.states s c.trans k)&&wiM c.states c.trans k t)=true:=fun k=>by
         rw[bK,aQ,hg,hmem]
         constructor
         · rintro(⟨h1,h2⟩ |rfl)
           ·exact⟨.inr h1,h2⟩
           ·exact⟨.inl rfl,by rw[hmt',hw'];rfl⟩
         · rintro⟨rfl |h1,h2⟩
           ·exact .inr rfl
           ·exact .inl ⟨h1,h2⟩
        have hb2':b = !(((x,b2)::done).map (·.1)).any (fun k=>cJ own (lvM c.states s c.trans k) && !wiM c.states c.trans k t):=by
         rw[hany,hb,hmt',hw'];rfl
        refine⟨room_le (by rw[au,cQ];omega) (by omega),?_⟩
        first
        |(exfalso;omega)
        |exact ih ((x,b2)::done) (gone++[x]) b (by rw[ax];omega) hin2 hnd2 (by rw[au,cQ,ax];omega) hg2 hb2'
      · have hw':wiM c.states c.trans x t=false:=by rw[←hwi];exact hw
        have hg2:∀k,k∈gone↔k∈((x,b2)::done).map (·.1)∧(cJ own (lvM c.states s c.trans k)&&wiM c.states c.trans k t)=true:=fun k=>by
         rw[hg,hmem]
         constructor
         ·rintro⟨h1,h2⟩;exact⟨.inr h1,h2⟩
         · rintro⟨rfl |h1,h2⟩
           ·rw[hw',df]at h2;cases h2
           ·exact⟨h1,h2⟩
        have hb2':false = !(((x,b2)::done).map (·.1)).any (fun k=>cJ own (lvM c.states s c.trans k) && !wiM c.states c.trans k t):=by
         rw[hany,hmt',hw'];rfl
        refine J.kn [] ?_
        first
        |(exfalso;omega)
        |exact ih ((x,b2)::done) gone false (by rw[ax];omega) hin2 hnd2 (by rw[ax];omega) hg2 hb2'
theorem Qj(v:Valid c)(hs:s.length≤1000∧∀y∈s,0≤y∧y<(c.states.length:Int))(hw:ws.Nodup)(hwl:ws.length≤1000)(hrg:∀k∈ws,0≤k∧k<(c.trans.length:Int)):∀(n i:Nat) (es:List (Int×Nat)) (clk:Nat),ws.length - i≤n→i≤ws.length→MapOk es clk→es.map (·.1)=(ws.take i).foldl (fC (lvM c.states s c.trans) (wiM c.states c.trans)) [] →
 O1 Γ (Eq2 (.x (.c (.own 0))) [.own 3 .int (dC (se (lvM c.states s c.trans) (wiM c.states c.trans) ws))]) c s ws vs ev es clk (i:Int):=by
 have hst:=(dP c).1 v.few
 intro n
 induction n with
 |zero=>?_
 |succ n ih=>?_
 all_goals
  intro i es clk hn hi hm hk
  have hsub:∀k∈es.map (·.1),k∈ws.take i:=fun k h=>by
   rw[hk]at h
   exact(tC _ [] k h).resolve_left (by simp)
  have hel:es.length≤1000:=by
   have h1:=k0 hm.keys (fun k h=>List.mem_of_mem_take (hsub k h))
   rw[aP]at h1;omega
  have hnext:∀hi':i<ws.length,(ws.take (i+1)).foldl (fC (lvM c.states s c.trans) (wiM c.states c.trans)) []=fC (lvM c.states s c.trans) (wiM c.states c.trans) (es.map (·.1)) (ETy.get .int ws i):=fun hi'=>by
   rw[hk,ETy.get_eq (t:=.int) (List.getElem?_eq_getElem hi'),aL hi',gu];rfl
  unfold O1
  refine jg gP Tryz.func19 (.ite (decide ((i:Int)<(ws.length:Int))) (.need (inRg i ws.length) (.need ((0:Int)≤ETy.get .int ws i∧ETy.get .int ws i<(c.trans.length:Int)) (.need (Valid c∧(∃i_1,i_1<c.trans.length∧(ETy.get .tran c.trans ((ETy.get .int ws i).toNat))=ETy.get .tran c.trans i_1)∧s.length≤1000∧∀(y:ETy.den .int),y∈s→(0:ETy.den .int)≤y∧y<(c.states.length:Int)) (.stop [.code [1,1,1,0,1,0,0,1,1,0,0,1,1,1,1,0,1,0,0],.inLoop [1,1,1,0,1,0,0,1,1,0,0,1,1,1,1,0,1,0,0],.inBlock 2,.code [1,1,1,0,1,0,0,1,1,0,0,1,1,1,1,1],.inBlock 1,.code [1,1,1,0,1,0,0,1,1,1],.inLoop [1,1,1,0,1,0,0],.inBlock 0,.code [1,1,1,1]] {n:=96,fr:=[(12,.p (.lst .int (iU c.states s (ETy.get .tran c.trans ((ETy.get .int ws i).toNat))))),(30,.p (.lst .int ws)),(31,.i ws.length),(32,.i i),(1,.p (.lst .int s)),(4,.x (.c (.loc 0 0))),(8,.p (.v (Value.slice none 0 0))),(9,.x (.c (.own 1))),(11,.i (ETy.get .int ws i)),(13,.p (.bool true)),(14,.p (.v (Value.slice none 0 0))),(45,.x (.c (.loc 2 0)))],ck:=[zAi1 c,Chunk.obj (Ob.set es clk),Chunk.obj (Ob.it 1 [] clk)],kn:=[13]})))) (.need (MapOk es clk∧es.length≤1000) (.ret (.x (.c (.own 0))) [.own 3 .int (dC (List.map (fun x=>Prod.fst x) es))]))) ?_
  refine⟨fun hlt=>?_,fun hge=>?_⟩
  · have hi':i<ws.length:=by have:=of_decide_eq_true hlt;omega
    have hmem:ETy.get .int ws i∈ws:=by
     rw[ETy.get_eq (t:=.int) (List.getElem?_eq_getElem hi')];exact aW hi'
    have ht:=hrg _ hmem
    have hnew:ETy.get .int ws i ∉ es.map (·.1):=fun h=>by
     have h1:=hsub _ h
     rw[ETy.get_eq (t:=.int) (List.getElem?_eq_getElem hi')]at h1
     obtain⟨m,hm1,hm2⟩:=dy.1 h1
     rw[a6]at hm1
     rw[gv]at hm2
     have:=(List.getElem_inj hw).1 hm2
     omega
    have hnext':=hnext hi'
    refine⟨⟨by omega,by omega⟩,ht,⟨v,⟨(ETy.get .int ws i).toNat,by omega,rfl⟩,hs⟩,?_⟩
    refine J.nilOwn 14 3 .int rfl (by kernel_rfl) (J.kn [] ?_)
    refine Ql Γ _ c s ws vs ev es clk i (ETy.get .int ws i) v hs hm hel ht (fun k h=>hrg k (List.mem_of_mem_take (hsub k h))) (fun gone b hg hb=>?_) es.length [] [] true (by simp) (fun _ h=>by cases h) gg (by simp) (fun k=>by simp) rfl
    have hk2:=JE hg hb
    rw[cg (n:=(i:Int)+1) (by omega) (by omega)]
    refine⟨fun h=>?_,fun h=>?_⟩
    · rw[h,if_neg (by decide)]at hk2
      first
      |(exfalso;omega)
      |exact ih (i+1) es clk (by omega) (by omega) hm (by rw[hnext',←hk2])
    · rw[h,if_pos rfl]at hk2
      have hd:=xM (gone:=gone) hm
      have hne:ji (pk es gone) (ETy.get .int ws i)=false:=by
       rw[nQ,hd.2]
       cases hb2:inB ((es.map (·.1)).filter fun k=>!inB gone k) (ETy.get .int ws i)
       ·rfl
       ·exact absurd (aH.1 ((cu _ _).1 hb2)).1 hnew
      have hadd:=K1 (pk es gone) clk (ETy.get .int ws i)
      rw[hne,cond_false,hd.2]at hadd
      first
      |(exfalso;omega)
      |exact ih (i+1) _ _ (by omega) (by omega) (hd.1.add _) (by rw[hnext',←hk2,hadd])
  · have hie:i=ws.length:=by have:=of_decide_eq_false hge;omega
    rw[hk,hie,List.take_length]
    exact⟨⟨hm,hel⟩,rfl,rfl⟩
theorem km{c:Chart}(v:Valid c){s:List Int}(hl:Lgl c.states s):s.length≤1000∧∀y∈s,0≤y∧y<(c.states.length:Int):=by
 have hst:=(dP c).1 v.few
 have:=EC hl
 refine⟨by omega,fun y hy=>?_⟩
 obtain⟨i,rfl,h3,_⟩:=hl.rng y hy
 omega
theorem Cg(hz:c.vars.length≤2199023255552∧c.states.length≤2199023255552)(hv:∀v∈vs,i64 v.a=true):ah Tryz.prog 19 [.e .chart c,.l .int s,.l .val vs,.s ev] [] (.x (.c (.pd (.lst .int (gL c s vs ev))))) []:=by
 unfold gL
 by_cases hg:(bp c==0&&bw c.states s)=true
 · rw [if_pos hg]
   have hg':=hg
   rw[af]at hg'
   have v:=(db c).1 (eq_of_beq hg'.1)
   have hst:=(dP c).1 v.few
   have hl:=(kj v.tre.shp s).1 hg'.2
   have hfs:dC (mr c.states s c.trans (bM c s vs ev))=cC c.states s c.trans (bM c s vs ev):=Dn v.tre.shp hl (List.Perm.refl _)
   have hwm:∀k∈fk (firstM c.states c.trans (bM c s vs ev)) (aR c.states s),0≤k∧k<(c.trans.length:Int):=fun k hk=>by
    obtain⟨n,rfl,h2,_⟩:=ko.1 (C2 v.tre.shp hl hk).1
    omega
   have hmr:∀k∈bM c s vs ev,0≤k∧k<(c.trans.length:Int):=fun k hk=>by
    obtain⟨n,rfl,h2,_⟩:=ko.1 hk
    omega
   have hwl:(fk (firstM c.states c.trans (bM c s vs ev)) (aR c.states s)).length≤1000:=by
    have h1:=tZ (firstM c.states c.trans (bM c s vs ev)) (aR c.states s) []
    have h2:(aR c.states s).length≤s.length:=aY _ _
    have h3:=km v hl
    rw[bJ]at h1
    unfold fk;omega
   have own:ah Tryz.prog 19 [.e .chart c,.l .int s,.l .val vs,.s ev] [] (.x (.c (.own 0))) [.own 3 .int (cC c.states s c.trans (bM c s vs ev))]:=by
    rw[←hfs]
    refine dg gP Tryz.func19 (.need (c.vars.length≤2199023255552∧c.states.length≤2199023255552) (.ite (!(bp c==(0:Int)&&bw c.states s)) (.ret (.p (.v (Value.slice none 0 0))) []) (.need ((Valid c∧bw c.states s=true)∧∀(v:Val),v∈vs→i64 v.a=true) (.need ((Valid c∧bw c.states s=true)∧c.trans.length≤1000000∧List.Pairwise (fun x1 x2=>x1<x2) (List.map (fun x=>Prod.fst x) (cY (bM c s vs ev)))∧∀(k:Int),k∈List.map (fun x=>Prod.fst x) (cY (bM c s vs ev))→(0:Int)≤k∧k<(c.trans.length:Int)) (.stop zAi3 {n:=96,fr:=[(30,.p (.lst .int (fk (firstM c.states c.trans (List.map (fun x=>Prod.fst x) (cY (bM c s vs ev)))) (aR c.states s)))),(31,.i (↑((fk (firstM c.states c.trans (List.map (fun x=>Prod.fst x) (cY (bM c s vs ev)))) (aR c.states s)).length):Int)),(32,.i 0),(1,.p (.lst .int s)),(4,.x (.c (.loc 0 0))),(8,.p (.v (Value.slice none 0 0))),(9,.x (.c (.own 1)))],ck:=[zAi1 c,Chunk.obj (Ob.set [] 0)]}))))) fun Γ=>?_
    refine⟨hz,fun hb=>?_,fun _=>⟨⟨⟨v,hg'.2⟩,hv⟩,⟨⟨v,hg'.2⟩,by omega,?_,?_⟩,?_⟩⟩
    · have hb':(!(bp c==0&&bw c.states s))=true:=hb
      rw[hg]at hb';cases hb'
    ·rw[lS];exact wJ c s vs ev
    ·rw[lS];exact hmr
    · rw[lS]
      exact Qj Γ c s _ vs ev v (km v hl) (vY _ _ [] gg) hwl hwm (fk (firstM c.states c.trans (bM c s vs ev)) (aR c.states s)).length 0 [] 0 (Nat.sub_le _ _) (aS _) MapOk.nil rfl
   exact ah.chop (ck':=[]) (ah.frz aU [0] own rfl rfl)
 · rw[if_neg hg]
   refine ah.ret (ret:=.x (.c (.pd (.v (.slice none 0 0))))) ?_ fun V v hv=>iA hv
   refine dg gP Tryz.func19 (.need (c.vars.length≤2199023255552∧c.states.length≤2199023255552) (.ite (!(bp c==(0:Int)&&bw c.states s)) (.ret (.p (.v (Value.slice none 0 0))) []) (.need ((Valid c∧bw c.states s=true)∧∀(v:Val),v∈vs→i64 v.a=true) (.need ((Valid c∧bw c.states s=true)∧c.trans.length≤1000000∧List.Pairwise (fun x1 x2=>x1<x2) (List.map (fun x=>Prod.fst x) (cY (bM c s vs ev)))∧∀(k:Int),k∈List.map (fun x=>Prod.fst x) (cY (bM c s vs ev))→(0:Int)≤k∧k<(c.trans.length:Int)) (.stop zAi3 {n:=96,fr:=[(30,.p (.lst .int (fk (firstM c.states c.trans (List.map (fun x=>Prod.fst x) (cY (bM c s vs ev)))) (aR c.states s)))),(31,.i (↑((fk (firstM c.states c.trans (List.map (fun x=>Prod.fst x) (cY (bM c s vs ev)))) (aR c.states s)).length):Int)),(32,.i 0),(1,.p (.lst .int s)),(4,.x (.c (.loc 0 0))),(8,.p (.v (Value.slice none 0 0))),(9,.x (.c (.own 1)))],ck:=[zAi1 c,Chunk.obj (Ob.set [] 0)]}))))) fun Γ=>?_
   refine⟨hz,fun _=>⟨rfl,rfl⟩,fun hb=>?_⟩
   have hb':(!(bp c==0&&bw c.states s))=false:=hb
   rw[Bool.eq_false_iff.2 hg]at hb';cases hb'
def wy:Ent:=(19,fun
 |[.agg [.pd (.str a),.pd (.lst .str b),.pd (.lst .var c),.pd (.lst .stat d),.pd (.lst .tran e)],.c (.pd (.lst .int s)),.c (.pd (.lst .val vs)),.c (.pd (.str ev))],[]=>some (some ((c.length≤2199023255552∧d.length≤2199023255552)∧∀v:Val,v∈vs→i64 v.a=true),.x (.c (.pd (.lst .int (gL ⟨a,b,c,d,e⟩ s vs ev)))),[])
 |_,_=>none)
theorem wz:EntOk Tryz.prog wy:=entOk fun vs ck=>by
 unfold wy;dsimp only;split
 ·rename_i a b c d e s vs ev;exact entS fun hp=>Cg ⟨a,b,c,d,e⟩ s vs ev hp.1 hp.2
 ·exact entN
theorem rh(hz:c.vars.length≤2199023255552∧c.states.length≤2199023255552):ah Tryz.prog 11 [.e .chart c,.l .int s,.i t] [] (.x (.c (.pd (.lst .int (fj c s t))))) []:=by
 have hrange:(decide (t<0)||decide (t≥(c.trans.length:Int)))=false→0≤t∧t<(c.trans.length:Int):=fun h=>by
  rw[al]at h
  have:=of_decide_eq_false h.1
  have:=of_decide_eq_false h.2
  omega
 unfold fj
 by_cases hg:(decide (t<0)||decide (t≥(c.trans.length:Int)) || !(bp c==0&&bw c.states s) || !inB s (ETy.get .tran c.trans t.toNat).src)=true
 · rw[if_pos hg]
   refine ah.ret (ret:=.x (.c (.pd (.v (.slice none 0 0))))) ?_ fun V v hv=>iA hv
   refine dg xx Tryz.func11 (let x1:=(c.trans.length:Int);let x2:=(ETy.get .tran c.trans (Int.toNat t));let x3:=(bp c==(0:Int)&&bw c.states s);.need ((decide (t<(0:Int))||decide (t≥x1))=false→c.vars.length≤2199023255552∧c.states.length≤2199023255552) (.need ((decide (t<(0:Int))||decide (t≥x1) || !x3)=false→(0:Int)≤t∧t<x1) (.ite (decide (t<(0:Int))||decide (t≥x1) || !x3 || !inB s (Tran.src x2)) (.ret (.p (.v (Value.slice none 0 0))) []) (.need ((0:Int)≤t∧t<x1) (.need (Valid c∧(∃i,i<c.trans.length∧x2=ETy.get .tran c.trans i)∧s.length≤1000∧∀(y:ETy.den .int),y∈s→(0:ETy.den .int)≤y∧y<(c.states.length:Int)) (.ret (.p (.lst .int (iU c.states s x2))) [])))))) fun Γ=>?_
   conv=>zeta
   refine⟨fun _=>hz,fun h=>hrange (al.1 h).1,fun _=>⟨rfl,rfl⟩,fun hb=>?_⟩
   have hb':(decide (t<0)||decide (t≥(c.trans.length:Int)) || !(bp c==0&&bw c.states s) || !inB s (ETy.get .tran c.trans t.toNat).src)=false:=hb
   rw[hb']at hg;cases hg
 · rw[if_neg hg]
   have hg2:=Bool.eq_false_iff.2 hg
   rw[al,al]at hg2
   have ht:=hrange hg2.1.1
   have hg':(bp c==0&&bw c.states s)=true:=by simpa using hg2.1.2
   rw[af]at hg'
   have v:=(db c).1 (eq_of_beq hg'.1)
   have hl:=(kj v.tre.shp s).1 hg'.2
   refine dg xx Tryz.func11 (let x1:=(c.trans.length:Int);let x2:=(ETy.get .tran c.trans (Int.toNat t));let x3:=(bp c==(0:Int)&&bw c.states s);.need ((decide (t<(0:Int))||decide (t≥x1))=false→c.vars.length≤2199023255552∧c.states.length≤2199023255552) (.need ((decide (t<(0:Int))||decide (t≥x1) || !x3)=false→(0:Int)≤t∧t<x1) (.ite (decide (t<(0:Int))||decide (t≥x1) || !x3 || !inB s (Tran.src x2)) (.ret (.p (.v (Value.slice none 0 0))) []) (.need ((0:Int)≤t∧t<x1) (.need (Valid c∧(∃i,i<c.trans.length∧x2=ETy.get .tran c.trans i)∧s.length≤1000∧∀(y:ETy.den .int),y∈s→(0:ETy.den .int)≤y∧y<(c.states.length:Int)) (.ret (.p (.lst .int (iU c.states s x2))) [])))))) fun Γ=>?_
   conv=>zeta
   refine⟨fun _=>hz,fun _=>ht,fun hb=>?_,fun _=>⟨ht,⟨v,⟨t.toNat,by omega,rfl⟩,km v hl⟩,rfl,rfl⟩⟩
   exact absurd hb hg
def po:Ent:=(11,fun
 |[.agg [.pd (.str a),.pd (.lst .str b),.pd (.lst .var c),.pd (.lst .stat d),.pd (.lst .tran e)],.c (.pd (.lst .int s)),.c (.pd (.int .i64 t))],[]=>some (some (c.length≤2199023255552∧d.length≤2199023255552),.x (.c (.pd (.lst .int (fj ⟨a,b,c,d,e⟩ s t)))),[])
 |_,_=>none)
theorem Di:EntOk Tryz.prog po:=entOk fun vs ck=>by
 unfold po;dsimp only;split
 ·rename_i a b c d e s t;exact entS fun hp=>rh ⟨a,b,c,d,e⟩ s t hp
 ·exact entN
end Go.Proofs.YtlhgnjmdopjpeaaGreatDoor

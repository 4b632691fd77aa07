/- Contracts: the laws ConfBegins, ConfStart. Conditions: sizes. Contracts: the document's Some. Conditions: sizes. Contracts: the document's Some. Conditions: sizes. Contracts: the document's Some, whole. Conditions: a valid chart, bytes. Contracts: arguments that read as others; a mark. Conditions: none. -/
import Derived.Test.YtlhgnjmdopjpeaaGreatDoorMh
import Derived.Test.YtlhgnjmdopjpeaaGreatDoorSo
import Derived.Test.YtlhgnjmdopjpeaaGreatDoorAb
import Derived.Test.YtlhgnjmdopjpeaaGreatDoorVk
import Derived.Test.YtlhgnjmdopjpeaaGreatDoorTq
namespace Go.Proofs.YtlhgnjmdopjpeaaGreatDoor
open Go Go.Ev
set_option maxRecDepth 100000
theorem Ez:∀(l:List Int) (a b:Int),l.Pairwise (· < ·)→(∀y∈l,a≤y∧y<b)→(l.length:Int)≤(if a≤b then b - a else 0)
 |[],a,b,_,_=>by split <;> simp <;> omega
 | x::r,a,b,hp,hm=>by
   rw[cf]at hp
   have h1:=hm x (az ..)
   have ih:=Ez r (x+1) b hp.2 (fun y hy=>⟨by have:=hp.1 y hy;omega,(hm y (aD _ hy)).2⟩)
   rw[ax]
   rw[if_pos (by omega)]at ih ⊢
   omega
theorem JL{l:List Ev.Stat}{s:List Int}(h:bw l s=true):(∀y∈s,0≤y∧y<(l.length:Int))∧s.length≤l.length:=by
 unfold bw at h
 rw[af]at h
 have h1:=(wE l s (-1) (by omega)).1 h.1
 have h2:∀y∈s,0≤y∧y<(l.length:Int):=fun y hy=>by
  obtain⟨_,i,rfl,hi,_⟩:=h1.2 y hy
  omega
 refine⟨h2,?_⟩
 have h3:=Ez s 0 l.length h1.1 h2
 rw[if_pos (by omega)]at h3
 omega
theorem xj{c:Chart}(h:mO c):c.vars.length≤2199023255552∧c.states.length≤1466015503701:=by
 obtain⟨_,⟨h2,_⟩,⟨h3,_⟩,_⟩:=h
 have h2':c.vars.length * 64≤140737488355328:=h2
 have h3':c.states.length * 96≤140737488355328:=h3
 omega
theorem C1{c:Chart}(h:mO c):∀s∈c.states,s.entry.length≤4398046511104∧s.leave.length≤4398046511104:=by
 intro s hs
 obtain⟨⟨h1,_⟩,⟨h2,_⟩⟩:=h.2.2.1.2 s hs
 have h1':s.entry.length * 48≤140737488355328:=h1
 have h2':s.leave.length * 48≤140737488355328:=h2
 omega
def lP:Cfg:=⟨aU,[lQ,qq]⟩
theorem jb:ag Tryz.prog lP.tab:=(ag.cons lR (ag.cons xQ ag.nil))
variable(l:List Ev.Stat)(p:List Int)(b:List Bool)(k:Nat)(ks:List Int)
def nk(n:Nat):List Int:=((List.range n).filter fun i=>b.getD i false).map fun i:Nat=>(i:Int)
def chM(i:Nat)(m:Int):Int:=ETy.get .int (jA l i) (if decide ((p.length:Int)>0)=true then(Int.tmod (IntKind.wrap .i64 (ETy.get .byte p (Int.tmod m (p.length:Int)).toNat)) ((jA l i).length:Int)).toNat else 0)
theorem M3:nk b (k+1)=nk b k++(if ETy.get .bool b k=true then[(k:Int)]else[]):=by
 unfold nk
 have e:b.getD k false=ETy.get .bool b k:=rfl
 have e2:List.filter (fun i=>b.getD i false) [k]=if b.getD k false=true then[k]else[]:=by rw[List.filter_cons];rfl
 rw[List.range_succ,cc,bC,←e,e2]
 cases b.getD k false <;> rfl
abbrev zCq3:List PI:=[.code [1,1,1,1,1,0,1,0,0],.inLoop [1,1,1,1,1,0,1,0,0],.inBlock 6,.code [1,1,1,1,1,1]]
theorem NY(c:Chart)(p:List Int)(a:List Bool)(hl:a.length≤1000)(Γ:Ctx):∀(n j:Nat),a.length - j≤n→j≤a.length →
 J Tryz.prog 12 (ar Tryz.f12) Γ (Eq2 (.x (.c (.own 0))) [.own 3 .int (nk a a.length)]) zCq3 ({n:=132,fr:=[(4,.p (.v (Value.slice none 0 0))),(5,.x (.c (.own 0))),(13,.x (.c (.own 1))),(14,.i ((j:Int)))],ck:=[.own 4 .bool a,.own 3 .int (nk a j)]}):=by
 have hm:a.length≤maxLen:=by unfold maxLen;omega
 intro n
 induction n with
 |zero=>?_
 |succ n ih=>?_
 all_goals
  intro j hn hj
  have hol:(nk a j).length≤j:=by
   unfold nk
   rw[aP]
   exact aC (aY _ _) (by simp)
  have ht:=M3 a j
  generalize hout:nk a j=out at hol ht
  refine jg jb Tryz.func12 (let x1:List (Nat×SV):=[(4,.p (.v (Value.slice none 0 0))),(5,.x (.c (.own 0))),(13,.x (.c (.own 1))),(14,.i (IntKind.wrap .i64 ((j:Int)+1)))];let x2:List PI:=zCq3;.ite (decide ((j:Int)<(a.length:Int))) (.need (inRg j a.length) (.need (j<a.length) (.ite (ETy.get .bool a j) (.need (room ((out++[(j:Int)]).length) 8) (.stop x2 {n:=132,fr:=x1,ck:=[.own 4 .bool a,.own 3 .int (out++[(j:Int)])]})) (.stop x2 {n:=132,fr:=x1,ck:=[.own 4 .bool a,.own 3 .int out]})))) (.ret (.x (.c (.own 0))) [.own 3 .int out])) ?_
  conv=>zeta
  refine⟨fun hlt=>?_,fun hge=>?_⟩
  · have hj':j<a.length:=by have:=of_decide_eq_true hlt;omega
    refine⟨⟨by omega,by omega⟩,hj',fun hb=>?_,fun hb=>?_⟩
    · rw[if_pos (by exact hb)]at ht
      refine⟨⟨by rw[au];show(_+1) * 8≤_;omega,by rw[au];show _+1≤_;unfold maxLen;omega⟩,?_⟩
      rw[aZ (aG hj' hm),←ht]
      first
      |(exfalso;omega)
      |exact ih (j+1) (by omega) (by omega)
    · rw[if_neg (by rw[show ETy.get .bool a j=false from hb];decide),aO]at ht
      rw[aZ (aG hj' hm),←ht]
      first
      |(exfalso;omega)
      |exact ih (j+1) (by omega) (by omega)
  · have hje:j=a.length:=by have:=of_decide_eq_false hge;omega
    subst hje
    rw[←hout];exact⟨rfl,rfl⟩
def rlK:List Int:=ks.filter fun y=>!bg (ETy.get .stat l y.toNat).kind
theorem QR{ks:List Int}{j:Nat}(hj:j<ks.length):rlK l (ks.take (j+1))=rlK l (ks.take j)++(if(!bg (ETy.get .stat l (ETy.get .int ks j).toNat).kind)=true then[ETy.get .int ks j]else[]):=by
 unfold rlK
 rw[ETy.get_eq (t:=.int) (List.getElem?_eq_getElem hj),aL hj,cc]
 cases h:(!bg (ETy.get .stat l (ks[j]).toNat).kind) <;> simp[h]
abbrev zCq1(a:Chart):Chunk:=.cells [.pd (.str a.name),.pd (.lst .str a.events),.pd (.lst .var a.vars),.pd (.lst .stat a.states),.pd (.lst .tran a.trans)] 27
abbrev zCq2:List PI:=[.code [1,1,1,0,1,0,0,1,0,0,1,1,1,1,0,1,0,0],.inLoop [1,1,1,0,1,0,0,1,0,0,1,1,1,1,0,1,0,0],.inBlock 2,.code [1,1,1,0,1,0,0,1,0,0,1,1,1,1,1],.inBlock 1,.code [1,1,1,0,1,0,0,1,1],.inLoop [1,1,1,0,1,0,0],.inBlock 0,.code [1,1,1,1]]
theorem NW(c:Chart)(p:List Int)(a:List Bool)(m:Int)(k:Nat)(ks:List Int)(hl:ks.length≤1000)(hks:∀y∈ks,0≤y∧y<(c.states.length:Int))(Γ:Ctx)(Q:Out)
 (hend:J Tryz.prog 12 (ar Tryz.f12) Γ Q zCq2 ({n:=132,fr:=[(1,.p (.lst .byte p)),(2,.x (.c (.loc 0 0))),(4,.p (.v (Value.slice none 0 0))),(5,.x (.c (.own 1))),(6,.i m),(7,.i k),(8,.x (.c (.own 2))),(9,.x (.c (.own 3))),(10,.i ((ks.length:Int)))],ck:=[zCq1 c,.own 4 .bool a,.own 3 .int ks,.own 3 .int (rlK c.states ks)]})):∀(n j:Nat),ks.length - j≤n→j≤ks.length →
 J Tryz.prog 12 (ar Tryz.f12) Γ Q zCq2 ({n:=132,fr:=[(1,.p (.lst .byte p)),(2,.x (.c (.loc 0 0))),(4,.p (.v (Value.slice none 0 0))),(5,.x (.c (.own 1))),(6,.i m),(7,.i k),(8,.x (.c (.own 2))),(9,.x (.c (.own 3))),(10,.i ((j:Int)))],ck:=[zCq1 c,.own 4 .bool a,.own 3 .int ks,.own 3 .int (rlK c.states (ks.take j))]}):=by
 have hm:ks.length≤maxLen:=by unfold maxLen;omega
 intro n
 induction n with
 |zero=>?_
 |succ n ih=>?_
 all_goals
  intro j hn hj
  by_cases hj':j<ks.length
  · have hol:(rlK c.states (ks.take j)).length≤j:=by
     unfold rlK
     exact aC (aY _ _) (by rw[a6];omega)
    have ht:=QR c.states hj'
    have hy:=hks (ETy.get .int ks j) (by rw[ETy.get_eq (t:=.int) (List.getElem?_eq_getElem hj')];exact aW hj')
    generalize hrl:rlK c.states (ks.take j)=rl at hol ht
    refine jg jb Tryz.func12 (let x1:=(IntKind.wrap .i64 (ETy.get .byte p ((Int.tmod m (p.length:Int)).toNat)));let x11:List Nat:=[1,1,1,0,1,0,0,1,0,0,1,1,1,1,0,1,0,0];let x2:List PI:=[.code x11,.inLoop x11,.inBlock 2,.code [1,1,1,0,1,0,0,1,0,0,1,1,1,1,1],.inBlock 1,.code [1,1,1,0,1,0,0,1,1],.inLoop [1,1,1,0,1,0,0],.inBlock 0,.code [1,1,1,1]];let x10:Nat×SV:=(1,.p (.lst .byte p));let x9:Nat×SV:=(2,.x (.c (.loc 0 0)));let x7:Nat×SV:=(4,.p (.v (Value.slice none 0 0)));let x3:List (Nat×SV):=[x10,x9,x7,(5,.x (.c (.own 1))),(6,.i m),(7,.i k),(8,.x (.c (.own 2))),(9,.x (.c (.own 3))),(10,.i (IntKind.wrap .i64 ((j:Int)+1)))];let x12:=(IntKind.wrap .i64 ((k:Int)+1));let x4:List (Nat×SV):=[x10,x9,x7,(5,.x (.c (.own 1))),(6,.i (IntKind.wrap .i64 (m+(1:Int)))),(7,.i x12)];let x5:List PI:=[.code [1,1,1,0,1,0,0],.inLoop [1,1,1,0,1,0,0],.inBlock 0,.code [1,1,1,1]];let x6:=(Int.tmod x1 (rl.length:Int));let x8:List Nat:=[1,1,1,0,1,0,0,1,0,0,1,1,1,1,1,0,1,0,1,0,0];.ite (decide ((j:Int)<(ks.length:Int))) (.need (inRg j ks.length) (.need (j<ks.length) (.need ((0:Int)≤ETy.get .int ks j∧ETy.get .int ks j<(c.states.length:Int)) (.ite (!bg (Stat.kind (ETy.get .stat c.states ((ETy.get .int ks j).toNat)))) (.need (inRg j ks.length) (.need (j<ks.length) (.need (room ((rl++[ETy.get .int ks j]).length) 8) (.stop x2 {n:=132,fr:=x3,ck:=[zCq1 c,.own 4 .bool a,.own 3 .int ks,.own 3 .int (rl++[ETy.get .int ks j])]})))) (.stop x2 {n:=132,fr:=x3,ck:=[zCq1 c,.own 4 .bool a,.own 3 .int ks,.own 3 .int rl]}))))) (.need (inRg k c.states.length) (.ite (Stat.kind (ETy.get .stat c.states k)==(3:Int)) (.stop [.code x8,.inLoop x8,.inBlock 4,.code [1,1,1,0,1,0,0,1,0,0,1,1,1,1,1,1],.inBlock 1,.code [1,1,1,0,1,0,0,1,1],.inLoop [1,1,1,0,1,0,0],.inBlock 0,.code [1,1,1,1]] {n:=132,fr:=[x10,x9,x7,(5,.x (.c (.own 1))),(6,.i m),(7,.i k),(9,.x (.c (.own 2))),(11,.i 0)],ck:=[zCq1 c,.own 4 .bool a,.own 3 .int rl]}) (.need (inRg k c.states.length) (.ite (Stat.kind (ETy.get .stat c.states k)==(2:Int)) (.ite (decide ((p.length:Int)>0)) (.need ((p.length:Int)≠(0:Int)) (.need ((0:Int)≤Int.tmod m (p.length:Int)∧Int.tmod m (p.length:Int)<(p.length:Int)) (.need ((rl.length:Int)≠(0:Int)) (.need ((0:Int)≤Int.tmod x1 (rl.length:Int)∧Int.tmod x1 (rl.length:Int)<(rl.length:Int)) (.need (x6.toNat<rl.length) (.need ((0:Int)≤ETy.get .int rl (x6.toNat)∧ETy.get .int rl (x6.toNat)<(a.length:Int)) (.need ((ETy.get .int rl (x6.toNat)).toNat<a.length) (.stop x5 {n:=132,fr:=x4,ck:=[zCq1 c,.own 4 .bool (List.set a ((ETy.get .int rl (x6.toNat)).toNat) true)]})))))))) (.need ((rl.length:Int)≠(0:Int)) (.need ((0:Int)≤Int.tmod (0:Int) (rl.length:Int)∧Int.tmod (0:Int) (rl.length:Int)<(rl.length:Int)) (.need (0<rl.length) (.need ((0:Int)≤ETy.get .int rl 0∧ETy.get .int rl 0<(a.length:Int)) (.need ((ETy.get .int rl 0).toNat<a.length) (.stop x5 {n:=132,fr:=x4,ck:=[zCq1 c,.own 4 .bool (List.set a ((ETy.get .int rl 0).toNat) true)]}))))))) (.stop x5 {n:=132,fr:=[x10,x9,x7,(5,.x (.c (.own 1))),(6,.i m),(7,.i x12)],ck:=[zCq1 c,.own 4 .bool a]})))))) ?_
    conv=>zeta
    refine⟨fun hlt=>⟨⟨by omega,by omega⟩,hj',hy,fun hb=>?_,fun hb=>?_⟩,fun hge=>?_⟩
    · rw[if_pos (by exact hb)]at ht
      refine⟨⟨by omega,by omega⟩,hj',⟨by rw[au];show(_+1) * 8≤_;omega,by rw[au];show _+1≤_;unfold maxLen;omega⟩,?_⟩
      rw[aZ (aG hj' hm),←ht]
      first
      |(exfalso;omega)
      |exact ih (j+1) (by omega) (by omega)
    · rw[if_neg (by rw[show(!bg (ETy.get .stat c.states (ETy.get .int ks j).toNat).kind)=false from hb];decide),aO]at ht
      rw[aZ (aG hj' hm),←ht]
      first
      |(exfalso;omega)
      |exact ih (j+1) (by omega) (by omega)
    ·have:=of_decide_eq_false hge;omega
  · have hje:j=ks.length:=by omega
    subst hje
    rw[a8 (av _)]
    exact hend
abbrev zJ12Cr:=J Tryz.prog 12 (ar Tryz.f12)
abbrev zCr1(a:Chart):Chunk:=.cells [.pd (.str a.name),.pd (.lst .str a.events),.pd (.lst .var a.vars),.pd (.lst .stat a.states),.pd (.lst .tran a.trans)] 27
abbrev zCr2:List PI:=[.code [1,1,1,0,1,0,0],.inLoop [1,1,1,0,1,0,0],.inBlock 0,.code [1,1,1,1]]
theorem NX(c:Chart)(p:List Int)(m:Int)(k:Nat)(rl:List Int)(hl:rl.length≤1000)(N:Nat)(hrl:∀y∈rl,0≤y∧y<(N:Int))(Γ:Ctx)(Q:Out)(fin:List Bool)
 (hcont:zJ12Cr Γ Q zCr2 ({n:=132,fr:=[(1,.p (.lst .byte p)),(2,.x (.c (.loc 0 0))),(4,.p (.v (Value.slice none 0 0))),(5,.x (.c (.own 1))),(6,.i m),(7,.i ((IntKind.wrap .i64 ((k:Int)+1))))],ck:=[zCr1 c,.own 4 .bool fin]})) (h2:((ETy.get .stat c.states k).kind==2)=false) (hk:k<c.states.length):∀(n j:Nat) (a:List Bool),rl.length - j≤n→j≤rl.length→a.length=N→jn a (rl.drop j)=fin →
 zJ12Cr Γ Q [.code [1,1,1,0,1,0,0,1,0,0,1,1,1,1,1,0,1,0,1,0,0],.inLoop [1,1,1,0,1,0,0,1,0,0,1,1,1,1,1,0,1,0,1,0,0],.inBlock 4,.code [1,1,1,0,1,0,0,1,0,0,1,1,1,1,1,1],.inBlock 1,.code [1,1,1,0,1,0,0,1,1],.inLoop [1,1,1,0,1,0,0],.inBlock 0,.code [1,1,1,1]] ({n:=132,fr:=[(1,.p (.lst .byte p)),(2,.x (.c (.loc 0 0))),(4,.p (.v (Value.slice none 0 0))),(5,.x (.c (.own 1))),(6,.i m),(7,.i k),(9,.x (.c (.own 2))),(11,.i ((j:Int)))],ck:=[zCr1 c,.own 4 .bool a,.own 3 .int rl]}):=by
 have hm:rl.length≤maxLen:=by unfold maxLen;omega
 intro n
 induction n with
 |zero=>?_
 |succ n ih=>?_
 all_goals
  intro j a hn hj ha hf
  refine jg jb Tryz.func12 (let x1:=(IntKind.wrap .i64 (ETy.get .byte p ((Int.tmod m (p.length:Int)).toNat)));let x8:Nat×SV:=(2,.x (.c (.loc 0 0)));let x5:Nat×SV:=(4,.p (.v (Value.slice none 0 0)));let x7:=(IntKind.wrap .i64 ((k:Int)+1));let x2:List (Nat×SV):=[(1,.p (.lst .byte p)),x8,x5,(5,.x (.c (.own 1))),(6,.i (IntKind.wrap .i64 (m+(1:Int)))),(7,.i x7)];let x3:List PI:=zCr2;let x4:=(Int.tmod x1 (rl.length:Int));let x6:List Nat:=[1,1,1,0,1,0,0,1,0,0,1,1,1,1,1,0,1,0,1,0,0];.ite (decide ((j:Int)<(rl.length:Int))) (.need (inRg j rl.length) (.need (j<rl.length) (.need ((0:Int)≤ETy.get .int rl j∧ETy.get .int rl j<(a.length:Int)) (.need ((ETy.get .int rl j).toNat<a.length) (.stop [.code x6,.inLoop x6,.inBlock 4,.code [1,1,1,0,1,0,0,1,0,0,1,1,1,1,1,1],.inBlock 1,.code [1,1,1,0,1,0,0,1,1],.inLoop [1,1,1,0,1,0,0],.inBlock 0,.code [1,1,1,1]] {n:=132,fr:=[(1,.p (.lst .byte p)),x8,x5,(5,.x (.c (.own 1))),(6,.i m),(7,.i k),(9,.x (.c (.own 2))),(11,.i (IntKind.wrap .i64 ((j:Int)+1)))],ck:=[zCr1 c,.own 4 .bool (List.set a ((ETy.get .int rl j).toNat) true),.own 3 .int rl]}))))) (.need (inRg k c.states.length) (.ite (Stat.kind (ETy.get .stat c.states k)==(2:Int)) (.ite (decide ((p.length:Int)>0)) (.need ((p.length:Int)≠(0:Int)) (.need ((0:Int)≤Int.tmod m (p.length:Int)∧Int.tmod m (p.length:Int)<(p.length:Int)) (.need ((rl.length:Int)≠(0:Int)) (.need ((0:Int)≤Int.tmod x1 (rl.length:Int)∧Int.tmod x1 (rl.length:Int)<(rl.length:Int)) (.need (x4.toNat<rl.length) (.need ((0:Int)≤ETy.get .int rl (x4.toNat)∧ETy.get .int rl (x4.toNat)<(a.length:Int)) (.need ((ETy.get .int rl (x4.toNat)).toNat<a.length) (.stop x3 {n:=132,fr:=x2,ck:=[zCr1 c,.own 4 .bool (List.set a ((ETy.get .int rl (x4.toNat)).toNat) true)]})))))))) (.need ((rl.length:Int)≠(0:Int)) (.need ((0:Int)≤Int.tmod (0:Int) (rl.length:Int)∧Int.tmod (0:Int) (rl.length:Int)<(rl.length:Int)) (.need (0<rl.length) (.need ((0:Int)≤ETy.get .int rl 0∧ETy.get .int rl 0<(a.length:Int)) (.need ((ETy.get .int rl 0).toNat<a.length) (.stop x3 {n:=132,fr:=x2,ck:=[zCr1 c,.own 4 .bool (List.set a ((ETy.get .int rl 0).toNat) true)]}))))))) (.stop x3 {n:=132,fr:=[(1,.p (.lst .byte p)),x8,x5,(5,.x (.c (.own 1))),(6,.i m),(7,.i x7)],ck:=[zCr1 c,.own 4 .bool a]})))) ?_
  conv=>zeta
  refine⟨fun hlt=>?_,fun hge=>?_⟩
  · have hj':j<rl.length:=by have:=of_decide_eq_true hlt;omega
    have hy:=hrl (ETy.get .int rl j) (by rw[ETy.get_eq (t:=.int) (List.getElem?_eq_getElem hj')];exact aW hj')
    have ed:rl.drop j=ETy.get .int rl j::rl.drop (j+1):=bx (t:=.int) (l:=rl) hj'
    rw[ed,jn]at hf
    have hy2:0≤ETy.get .int rl j∧ETy.get .int rl j<(a.length:Int):=by rw[ha];exact hy
    refine⟨⟨by omega,by omega⟩,hj',hy2,ku hy2,?_⟩
    rw[aZ (aG hj' hm)]
    first
    |(exfalso;omega)
    |exact ih (j+1) _ (by omega) (by omega) (by rw[bA];exact ha) hf
  · have hje:rl.drop j=[]:=bS (by have:=of_decide_eq_false hge;omega)
    rw[hje,jn]at hf
    subst hf
    exact⟨⟨by omega,by omega⟩,fun h=>absurd (h.symm.trans h2) (by decide),fun _=>hcont⟩
theorem sB{x:Int}{n:Nat}(hx:0≤x)(hn:0<n):0≤Int.tmod x (n:Int)∧Int.tmod x (n:Int)<(n:Int):=⟨Int.tmod_nonneg _ hx,Int.tmod_lt_of_pos x (by omega)⟩
theorem AT{p:List Int}(hp:∀b∈p,0≤b∧b≤255)(k:Nat):0≤IntKind.wrap .i64 (ETy.get .byte p k):=by
 by_cases hk:k<p.length
 · have h:=hp p[k] (aW hk)
   rw[ETy.get_eq (t:=.byte) (List.getElem?_eq_getElem hk),cg (n:=p[k]) (by omega) (by omega)];exact h.1
 · have e:ETy.get .byte p k=(0:Int):=by
    unfold ETy.get
    rw[List.getD_eq_getElem?_getD,List.getElem?_eq_none (by omega)];rfl
   rw[e];decide
theorem EM(l:List Ev.Stat){p:List Int}(hp:∀b∈p,0≤b∧b≤255)(i:Nat)(m:Int)(hr:0<(jA l i).length):chM l p i m∈jA l i:=by
 unfold chM
 split
 · have h:=sB (AT hp (Int.tmod m (p.length:Int)).toNat) hr
   have h2:=ku h
   rw[ETy.get_eq (t:=.int) (List.getElem?_eq_getElem h2)];exact aW h2
 ·rw[ETy.get_eq (t:=.int) (List.getElem?_eq_getElem hr)];exact aW hr
theorem mj{l:List Ev.Stat}(t:Tre l){p:List Int}(hp:∀b∈p,0≤b∧b≤255):wa l (chM l p):=by
 intro i n hi hk
 have h:=EM l hp i n (Cx t hi (.inl hk))
 obtain⟨q,e,h1,h2,h3⟩:=(pJ t.shp hi _).1 h
 exact⟨q,e,h1,h2,h3⟩
theorem Sd(c:Chart)(t:Tre c.states)(p:List Int)(hp:∀b∈p,0≤b∧b≤255)(a:List Bool)(m:Int)(k:Nat)(ha:a.length=c.states.length)(hk:k<c.states.length)(hm0:0≤m)(Γ:Ctx)(Q:Out)
 (h3:((ETy.get .stat c.states k).kind==3)=true→zJ12Cr Γ Q zCr2 ({n:=132,fr:=[(1,.p (.lst .byte p)),(2,.x (.c (.loc 0 0))),(4,.p (.v (Value.slice none 0 0))),(5,.x (.c (.own 1))),(6,.i m),(7,.i ((IntKind.wrap .i64 ((k:Int)+1))))],ck:=[zCr1 c,.own 4 .bool (jn a (jA c.states k))]}))
 (h2:((ETy.get .stat c.states k).kind==2)=true→zJ12Cr Γ Q zCr2 ({n:=132,fr:=[(1,.p (.lst .byte p)),(2,.x (.c (.loc 0 0))),(4,.p (.v (Value.slice none 0 0))),(5,.x (.c (.own 1))),(6,.i ((IntKind.wrap .i64 (m+1)))),(7,.i ((IntKind.wrap .i64 ((k:Int)+1))))],ck:=[zCr1 c,.own 4 .bool (a.set (chM c.states p k m).toNat true)]}))
 (h1:((ETy.get .stat c.states k).kind==3)=false→((ETy.get .stat c.states k).kind==2)=false→zJ12Cr Γ Q zCr2 ({n:=132,fr:=[(1,.p (.lst .byte p)),(2,.x (.c (.loc 0 0))),(4,.p (.v (Value.slice none 0 0))),(5,.x (.c (.own 1))),(6,.i m),(7,.i ((IntKind.wrap .i64 ((k:Int)+1))))],ck:=[zCr1 c,.own 4 .bool a]}))
 (ks:List Int) (hks:ks=dt c.states (k:Int) c.states.length) :
 zJ12Cr Γ Q [.code [1,1,1,0,1,0,0,1,0,0,1,1,1,1,0,1,0,0],.inLoop [1,1,1,0,1,0,0,1,0,0,1,1,1,1,0,1,0,0],.inBlock 2,.code [1,1,1,0,1,0,0,1,0,0,1,1,1,1,1],.inBlock 1,.code [1,1,1,0,1,0,0,1,1],.inLoop [1,1,1,0,1,0,0],.inBlock 0,.code [1,1,1,1]] ({n:=132,fr:=[(1,.p (.lst .byte p)),(2,.x (.c (.loc 0 0))),(4,.p (.v (Value.slice none 0 0))),(5,.x (.c (.own 1))),(6,.i m),(7,.i k),(8,.x (.c (.own 2))),(9,.p (.v (Value.slice none 0 0))),(10,.i (0))],ck:=[zCr1 c,.own 4 .bool a,.own 3 .int ks]}):=by
 have hfew:=t.shp.few
 have hkl:=tS c.states (k:Int) c.states.length
 rw[←hks]at hkl
 have hkin:∀y∈ks,0≤y∧y<(c.states.length:Int):=fun y hy=>CB c.states (k:Int) (by rw[hks]at hy;exact hy)
 have hrl:rlK c.states ks=jA c.states k:=by rw[hks];rfl
 have hrin:∀y∈jA c.states k,0≤y∧y<(c.states.length:Int):=fun y hy=>hkin y ((aH.1 (by rw[←hrl]at hy;exact hy)).1)
 have hrlen:(jA c.states k).length≤1000:=by
  rw[←hrl]
  have:=aY (fun y:Int=>!bg (ETy.get .stat c.states y.toNat).kind) ks
  exact aC this (by omega)
 refine J.nilOwn 9 3 .int rfl (by kernel_rfl) ?_
 refine NW c p a m k ks (by omega) hkin Γ Q ?_ ks.length 0 (by omega) (by omega)
 rw[hrl]
 have hpk:=EM c.states hp k m
 have hpos:=fun h=>Cx t hk h
 generalize hrr:jA c.states k=rl at hrin hrlen hpk hpos
 refine jg jb Tryz.func12 (let x1:=(IntKind.wrap .i64 (ETy.get .byte p ((Int.tmod m (p.length:Int)).toNat)));let x11:List Nat:=[1,1,1,0,1,0,0,1,0,0,1,1,1,1,0,1,0,0];let x2:List PI:=[.code x11,.inLoop x11,.inBlock 2,.code [1,1,1,0,1,0,0,1,0,0,1,1,1,1,1],.inBlock 1,.code [1,1,1,0,1,0,0,1,1],.inLoop [1,1,1,0,1,0,0],.inBlock 0,.code [1,1,1,1]];let x10:Nat×SV:=(1,.p (.lst .byte p));let x9:Nat×SV:=(2,.x (.c (.loc 0 0)));let x7:Nat×SV:=(4,.p (.v (Value.slice none 0 0)));let x3:List (Nat×SV):=[x10,x9,x7,(5,.x (.c (.own 1))),(6,.i m),(7,.i k),(8,.x (.c (.own 2))),(9,.x (.c (.own 3))),(10,.i (IntKind.wrap .i64 ((ks.length:Int)+1)))];let x13:=(IntKind.wrap .i64 ((k:Int)+1));let x4:List (Nat×SV):=[x10,x9,x7,(5,.x (.c (.own 1))),(6,.i (IntKind.wrap .i64 (m+(1:Int)))),(7,.i x13)];let x5:List PI:=zCr2;let x6:=(Int.tmod x1 (rl.length:Int));let x8:List Nat:=[1,1,1,0,1,0,0,1,0,0,1,1,1,1,1,0,1,0,1,0,0];let x12:=(rl++[ETy.get .int ks ks.length]);.ite (decide ((ks.length:Int)<(ks.length:Int))) (.need (inRg ks.length ks.length) (.need (ks.length<ks.length) (.need ((0:Int)≤ETy.get .int ks ks.length∧ETy.get .int ks ks.length<(c.states.length:Int)) (.ite (!bg (Stat.kind (ETy.get .stat c.states ((ETy.get .int ks ks.length).toNat)))) (.need (inRg ks.length ks.length) (.need (ks.length<ks.length) (.need (room (x12.length) 8) (.stop x2 {n:=132,fr:=x3,ck:=[zCr1 c,.own 4 .bool a,.own 3 .int ks,.own 3 .int x12]})))) (.stop x2 {n:=132,fr:=x3,ck:=[zCr1 c,.own 4 .bool a,.own 3 .int ks,.own 3 .int rl]}))))) (.need (inRg k c.states.length) (.ite (Stat.kind (ETy.get .stat c.states k)==(3:Int)) (.stop [.code x8,.inLoop x8,.inBlock 4,.code [1,1,1,0,1,0,0,1,0,0,1,1,1,1,1,1],.inBlock 1,.code [1,1,1,0,1,0,0,1,1],.inLoop [1,1,1,0,1,0,0],.inBlock 0,.code [1,1,1,1]] {n:=132,fr:=[x10,x9,x7,(5,.x (.c (.own 1))),(6,.i m),(7,.i k),(9,.x (.c (.own 2))),(11,.i 0)],ck:=[zCr1 c,.own 4 .bool a,.own 3 .int rl]}) (.need (inRg k c.states.length) (.ite (Stat.kind (ETy.get .stat c.states k)==(2:Int)) (.ite (decide ((p.length:Int)>0)) (.need ((p.length:Int)≠(0:Int)) (.need ((0:Int)≤Int.tmod m (p.length:Int)∧Int.tmod m (p.length:Int)<(p.length:Int)) (.need ((rl.length:Int)≠(0:Int)) (.need ((0:Int)≤Int.tmod x1 (rl.length:Int)∧Int.tmod x1 (rl.length:Int)<(rl.length:Int)) (.need (x6.toNat<rl.length) (.need ((0:Int)≤ETy.get .int rl (x6.toNat)∧ETy.get .int rl (x6.toNat)<(a.length:Int)) (.need ((ETy.get .int rl (x6.toNat)).toNat<a.length) (.stop x5 {n:=132,fr:=x4,ck:=[zCr1 c,.own 4 .bool (List.set a ((ETy.get .int rl (x6.toNat)).toNat) true)]})))))))) (.need ((rl.length:Int)≠(0:Int)) (.need ((0:Int)≤Int.tmod (0:Int) (rl.length:Int)∧Int.tmod (0:Int) (rl.length:Int)<(rl.length:Int)) (.need (0<rl.length) (.need ((0:Int)≤ETy.get .int rl 0∧ETy.get .int rl 0<(a.length:Int)) (.need ((ETy.get .int rl 0).toNat<a.length) (.stop x5 {n:=132,fr:=x4,ck:=[zCr1 c,.own 4 .bool (List.set a ((ETy.get .int rl 0).toNat) true)]}))))))) (.stop x5 {n:=132,fr:=[x10,x9,x7,(5,.x (.c (.own 1))),(6,.i m),(7,.i x13)],ck:=[zCr1 c,.own 4 .bool a]})))))) ?_
 conv=>zeta
 refine⟨fun hlt=>?_,fun _=>⟨⟨by omega,by omega⟩,fun hk3=>?_,fun hk3=>⟨⟨by omega,by omega⟩,fun hk2=>⟨fun hpl=>?_,fun hpl=>?_⟩,fun hk2=>h1 hk3 hk2⟩⟩⟩
 ·have:=of_decide_eq_true hlt;omega
 · have hk2:((ETy.get .stat c.states k).kind==2)=false:=by rw[eq_of_beq hk3];rfl
   exact NX c p m k rl hrlen c.states.length hrin Γ Q _ (by have:=h3 hk3;rw[hrr]at this;exact this) hk2 hk rl.length 0 a (by omega) (by omega) ha rfl
 · have hr0:=hpos (.inl (eq_of_beq hk2))
   have hp0:0<p.length:=by have:=of_decide_eq_true hpl;omega
   have hi1:=sB hm0 hp0
   have hi2:=sB (AT hp (Int.tmod m (p.length:Int)).toNat) hr0
   have hmem:=hpk hr0
   have hce:chM c.states p k m=ETy.get .int rl (Int.tmod (IntKind.wrap .i64 (ETy.get .byte p (Int.tmod m (p.length:Int)).toNat)) (rl.length:Int)).toNat:=by unfold chM;rw[if_pos hpl,hrr]
   have h2':=h2 hk2
   rw[hce]at hmem h2'
   have hy:=hrin _ hmem
   have hy2:0≤ETy.get .int rl (Int.tmod (IntKind.wrap .i64 (ETy.get .byte p (Int.tmod m (p.length:Int)).toNat)) (rl.length:Int)).toNat∧ETy.get .int rl (Int.tmod (IntKind.wrap .i64 (ETy.get .byte p (Int.tmod m (p.length:Int)).toNat)) (rl.length:Int)).toNat<(a.length:Int):=by rw[ha];exact hy
   exact⟨by omega,hi1,by omega,hi2,ku hi2,hy2,ku hy2,h2'⟩
 · have hr0:=hpos (.inl (eq_of_beq hk2))
   have hi2:=sB (x:=0) (fA 0) hr0
   have hmem:=hpk hr0
   have hce:chM c.states p k m=ETy.get .int rl 0:=by unfold chM;rw[if_neg (by rw[hpl];decide),hrr]
   have h2':=h2 hk2
   rw[hce]at hmem h2'
   have hy:=hrin _ hmem
   have hy2:0≤ETy.get .int rl 0∧ETy.get .int rl 0<(a.length:Int):=by rw[ha];exact hy
   exact⟨by omega,hi2,hr0,hy2,ku hy2,h2'⟩
abbrev zJ12Ct:=J Tryz.prog 12 (ar Tryz.f12)
theorem vV(r:List Int)(a:List Bool):(jn a r).length=a.length:=(mC r a 0).1
theorem nr(l:List Ev.Stat)(a:List Bool)(i:Nat):(iH l a i).length=a.length:=by unfold iH;split <;> simp
abbrev zCt1(a:Chart):Chunk:=.cells [.pd (.str a.name),.pd (.lst .str a.events),.pd (.lst .var a.vars),.pd (.lst .stat a.states),.pd (.lst .tran a.trans)] 27
abbrev zCt2:List PI:=[.code [1,1,1,0,1,0,0],.inLoop [1,1,1,0,1,0,0],.inBlock 0,.code [1,1,1,1]]
theorem NV(c:Chart)(t:Tre c.states)(p:List Int)(hp:∀b∈p,0≤b∧b≤255)(Γ:Ctx)(fin:List Bool):∀(n k:Nat) (a:List Bool) (m:Int),c.states.length - k=n→k≤c.states.length→a.length=c.states.length→0≤m∧m≤k→iM c.states (chM c.states p) n k a m=fin →
 zJ12Ct Γ (Eq2 (.x (.c (.own 0))) [.own 3 .int (nk fin fin.length)]) zCt2 ({n:=132,fr:=[(1,.p (.lst .byte p)),(2,.x (.c (.loc 0 0))),(4,.p (.v (Value.slice none 0 0))),(5,.x (.c (.own 1))),(6,.i m),(7,.i ((k:Int)))],ck:=[zCt1 c,.own 4 .bool a]}):=by
 have hfew:=t.shp.few
 have hm:c.states.length≤maxLen:=by unfold maxLen;omega
 have no:∀{b:Bool},b=false→¬b=true:=fun h e=>by rw[h]at e;cases e
 intro n
 induction n with
 |zero=>?_
 |succ n ih=>?_
 all_goals
  intro k a m hn hk ha hm0 hf
  refine jg jb Tryz.func12 (let x7:List Nat:=[1,1,1,0,1,0,0,1,0,0,1,1,1,1,0,1,0,0];let x1:List PI:=[.code x7,.inLoop x7,.inBlock 2,.code [1,1,1,0,1,0,0,1,0,0,1,1,1,1,1],.inBlock 1,.code [1,1,1,0,1,0,0,1,1],.inLoop [1,1,1,0,1,0,0],.inBlock 0,.code [1,1,1,1]];let x5:=(Value.slice none 0 0);let x2:List (Nat×SV):=[(1,.p (.lst .byte p)),(2,.x (.c (.loc 0 0))),(4,.p (.v x5)),(5,.x (.c (.own 1))),(6,.i m),(7,.i k),(8,.x (.c (.own 2))),(9,.p (.v x5)),(10,.i 0)];let x3:List (Nat×SV):=[(1,.p (.lst .byte p)),(2,.x (.c (.loc 0 0))),(4,.p (.v x5)),(5,.x (.c (.own 1))),(6,.i m),(7,.i (IntKind.wrap .i64 ((k:Int)+1)))];let x4:List PI:=zCt2;let x6:=(dt c.states (k:Int) c.states.length);let x8:=(c.states.length≤1466015503701);.ite (decide ((k:Int)<(c.states.length:Int))) (.need (inRg k c.states.length) (.ite (Stat.depth (ETy.get .stat c.states k)==(0:Int)) (.need (inRg k a.length) (.need (k<a.length) (.need ((0:Int)≤(k:Int)∧(k:Int)<(↑((List.set a k true).length):Int)) (.need (k<(List.set a k true).length) (.ite (!ETy.get .bool (List.set a k true) k) (.stop x4 {n:=132,fr:=x3,ck:=[zCt1 c,.own 4 .bool (List.set a k true)]}) (.need x8 (.stop x1 {n:=132,fr:=x2,ck:=[zCt1 c,.own 4 .bool (List.set a k true),.own 3 .int x6]}))))))) (.need (inRg k a.length) (.need (k<a.length) (.ite (!ETy.get .bool a k) (.stop x4 {n:=132,fr:=x3,ck:=[zCt1 c,.own 4 .bool a]}) (.need x8 (.stop x1 {n:=132,fr:=x2,ck:=[zCt1 c,.own 4 .bool a,.own 3 .int x6]}))))))) (.stop [.code [1,1,1,1,1,0,1,0,0],.inLoop [1,1,1,1,1,0,1,0,0],.inBlock 6,.code [1,1,1,1,1,1]] {n:=132,fr:=[(4,.p (.v x5)),(5,.x (.c (.own 0))),(13,.p (.v x5)),(14,.i 0)],ck:=[.own 4 .bool a]})) ?_
  conv=>zeta
  refine⟨fun hlt=>?_,fun hge=>?_⟩
 ·have:=of_decide_eq_true hlt;omega
 · rw[iM]at hf
   subst hf
   refine J.nilOwn 13 3 .int rfl (by kernel_rfl) ?_
   exact NY c p a (by omega) Γ a.length 0 (by omega) (by omega)
 · have hk':k<c.states.length:=by omega
   have hn2:c.states.length - (k+1)=n:=by omega
   have hwk:IntKind.wrap .i64 ((k:Int)+1)=((k+1:Nat):Int):=aZ (aG hk' hm)
   have hwm:IntKind.wrap .i64 (m+1)=m+1:=cg (by omega) (by omega)
   have step:∀b:List Bool,iH c.states a k=b →
    ((!ETy.get .bool b k)=true→zJ12Ct Γ (Eq2 (.x (.c (.own 0))) [.own 3 .int (nk fin fin.length)]) zCt2 ({n:=132,fr:=[(1,.p (.lst .byte p)),(2,.x (.c (.loc 0 0))),(4,.p (.v (Value.slice none 0 0))),(5,.x (.c (.own 1))),(6,.i m),(7,.i ((IntKind.wrap .i64 ((k:Int)+1))))],ck:=[zCt1 c,.own 4 .bool b]})) ∧
    ((!ETy.get .bool b k)=false→zJ12Ct Γ (Eq2 (.x (.c (.own 0))) [.own 3 .int (nk fin fin.length)]) [.code [1,1,1,0,1,0,0,1,0,0,1,1,1,1,0,1,0,0],.inLoop [1,1,1,0,1,0,0,1,0,0,1,1,1,1,0,1,0,0],.inBlock 2,.code [1,1,1,0,1,0,0,1,0,0,1,1,1,1,1],.inBlock 1,.code [1,1,1,0,1,0,0,1,1],.inLoop [1,1,1,0,1,0,0],.inBlock 0,.code [1,1,1,1]] ({n:=132,fr:=[(1,.p (.lst .byte p)),(2,.x (.c (.loc 0 0))),(4,.p (.v (Value.slice none 0 0))),(5,.x (.c (.own 1))),(6,.i m),(7,.i k),(8,.x (.c (.own 2))),(9,.p (.v (Value.slice none 0 0))),(10,.i (0))],ck:=[zCt1 c,.own 4 .bool b,.own 3 .int (dt c.states (k:Int) c.states.length)]})):=by
    intro b hb
    have hbl:b.length=c.states.length:=by rw[←hb,nr];exact ha
    rw[iM,hb]at hf
    refine⟨fun h=>?_,fun h=>Sd c t p hp b m k hbl hk' hm0.1 Γ _ (fun h3=>?_) (fun h2=>?_) (fun h3 h2=>?_) _ rfl⟩
    · rw[if_pos (by exact h)]at hf
      rw[hwk];exact ih (k+1) b m hn2 (by omega) hbl (by omega) hf
    all_goals rw[if_neg (by exact no h)]at hf
    · rw[if_pos h3]at hf
      rw[hwk];exact ih (k+1) _ m hn2 (by omega) (by rw[vV];exact hbl) (by omega) hf
    · rw[if_neg (by rw[eq_of_beq h2];decide),if_pos h2]at hf
      rw[hwk];exact ih (k+1) _ _ hn2 (by omega) (by rw[bA];exact hbl) (by rw[hwm];omega) hf
    · rw[if_neg (no h3),if_neg (no h2)]at hf
      rw[hwk];exact ih (k+1) b m hn2 (by omega) hbl (by omega) hf
   refine⟨⟨by omega,by omega⟩,fun hd=>?_,fun hd=>?_⟩
   · have hs:=step (a.set k true) (by unfold iH;rw[if_pos (by exact hd)])
     refine⟨⟨by omega,by omega⟩,by omega,⟨by omega,by rw[bA];omega⟩,by rw[bA];omega,fun hb=>hs.1 hb,fun hb=>⟨by omega,hs.2 hb⟩⟩
   · have hs:=step a (by unfold iH;rw[if_neg (by exact no hd)])
     exact⟨⟨by omega,by omega⟩,by omega,fun hb=>hs.1 hb,fun hb=>⟨by omega,hs.2 hb⟩⟩
 ·have:=of_decide_eq_false hge;omega
theorem l5(l:List Ev.Stat)(ch:Nat→Int→Int):∀(f i:Nat) (a:List Bool) (n:Int),(iM l ch f i a n).length=a.length
 |0,_,_,_=>rfl
 | f + 1,i,a,n=>by
   rw[iM]
   split
   ·rw[l5 l ch f,nr]
   · split
     ·rw[l5 l ch f,vV,nr]
     · split
       ·rw[l5 l ch f,bA,nr]
       ·rw[l5 l ch f,nr]
theorem Kx(c:Chart)(t:Tre c.states)(p:List Int)(hp:∀b∈p,0≤b∧b≤255):ah Tryz.prog 12 [.e .chart c,.l .byte p] [] (.x (.c (.own 0))) [.own 3 .int (dK c.states (chM c.states p))]:=by
 have hfew:=t.shp.few
 refine dg jb Tryz.func12 (.stop [.ops [1,0] 3,.code [1,1]] {n:=132,fr:=[(1,.p (.lst .byte p)),(2,.x (.c (.loc 0 0))),(4,.p (.v (Value.slice none 0 0))),(17,.i c.states.length)],ck:=[zCt1 c]}) fun Γ=>?_
 refine J.make (d:=18) (e:=4) (by1:=1) .bool false c.states.length (by kernel_rfl) rfl rfl (fun H=>.cons (.bool false) .nil) rfl rfl ⟨by omega,by unfold maxLen;omega⟩ ?_
 have rest:∀a:List Bool,a=List.replicate c.states.length false→zJ12Ct Γ (Eq2 (.x (.c (.own 0))) [.own 3 .int (dK c.states (chM c.states p))]) [.ops [1,0] 4,.code [1,1]] ({n:=132,fr:=[(1,.p (.lst .byte p)),(2,.x (.c (.loc 0 0))),(4,.p (.v (Value.slice none 0 0))),(17,.i c.states.length),(18,.x (.c (.own 1)))],ck:=[zCt1 c,.own 4 .bool a]}):=fun a ha=>by
  refine jg jb Tryz.func12 (.stop zCt2 {n:=132,fr:=[(1,.p (.lst .byte p)),(2,.x (.c (.loc 0 0))),(4,.p (.v (Value.slice none 0 0))),(5,.x (.c (.own 1))),(6,.i 0),(7,.i 0)],ck:=[zCt1 c,.own 4 .bool a]}) ?_
  subst ha
  have h:=NV c t p hp Γ _ c.states.length 0 (List.replicate c.states.length false) 0 (by omega) (by omega) (by rw[dZ]) (by omega) rfl
  rw[l5,dZ]at h
  exact h
 exact rest _ rfl
theorem ah.sub{P:Program}{f:FuncId}{args args':List SX}{ck ck':List Chunk}{ret:SV}(h:∀(V:Vn) (vs:List Value),All2 (SX.R V) args vs→All2 (SX.R V) args' vs)(d:ah P f args' ck ret ck'):ah P f args ck ret ck' :=
 fun w V vs hw hT hv=>d w V vs hw hT (h V vs hv)
theorem iA{H:Mem}{t:ETy}{u:Value}(h:PR H (.v (.slice none 0 0)) u):PR H (.lst t []) u:=by
 cases h;exact .emp t none 0 (fun _=>rfl)
/-! ### a mark: guards that are literal count as none -/
def BC:Ent:=(1000000007,fun _ _=>none)
variable(vs:List SX)(ck:List Chunk)
theorem wx(p:Option Prop)(ret:SV)(ck':List Chunk)(h:BC.2 vs ck=some (p,ret,ck'))(_:Holds p):ah Tryz.prog BC.1 vs ck ret ck':=by cases h
def Bx:Ent:=(1000000009,fun _ _=>none)
theorem wo(p:Option Prop)(ret:SV)(ck':List Chunk)(h:Bx.2 vs ck=some (p,ret,ck'))(_:Holds p):ah Tryz.prog Bx.1 vs ck ret ck':=by cases h
end Go.Proofs.YtlhgnjmdopjpeaaGreatDoor

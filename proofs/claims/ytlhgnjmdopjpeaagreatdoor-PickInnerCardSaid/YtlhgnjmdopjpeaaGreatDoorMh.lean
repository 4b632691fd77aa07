/- Contracts: the document's layer 10: what a state begins with. Conditions: sizes. Contracts: conf.legal. Conditions: sizes. Contracts: conf: Legal; the document's Active. Conditions: sizes. From a call's contract to a law's row: arguments opened, the row shut. Conditions: each theorem's own. From a row that lists the library's tables to what the walks ask; a world for the witness. Conditions: none. Lists of cells among the laws' arguments. Conditions: none. -/
import Derived.Test.YtlhgnjmdopjpeaaGreatDoorSk
import Derived.Test.YtlhgnjmdopjpeaaGreatDoorCc
import Derived.Test.YtlhgnjmdopjpeaaGreatDoorSn
import Derived.Test.YtlhgnjmdopjpeaaGreatDoorAb
import Derived.Test.YtlhgnjmdopjpeaaGreatDoorVk
import Derived.Test.YtlhgnjmdopjpeaaGreatDoorVb
import Derived.ProofKit
import Derived.Deep.Slices
import Derived.SizedLaws
import Derived.Test.YtlhgnjmdopjpeaaGreatDoorCards
import Derived.Test.YtlhgnjmdopjpeaaGreatDoorTie
import Derived.Deep.DeepHandedRow
import Derived.Lib.LaidTab
import Derived.LaidSub
import Derived.Stop.LaidErr
import Derived.MakeChecks
import Derived.Shelf.Vars
import Derived.Test.YtlhgnjmdopjpeaaGreatDoorKb
namespace Go.Proofs.YtlhgnjmdopjpeaaGreatDoor
open Go Go.Ev
set_option maxRecDepth 100000
def Ig:Cfg:=⟨aU,[rV]⟩
theorem Ih:ag Tryz.prog Ig.tab:=(ag.cons F8 ag.nil)
theorem yU(c:Chart)(hb:∀s∈c.states,s.entry.length≤4398046511104∧s.leave.length≤4398046511104):ah Tryz.prog 10 [.e .chart c] [] (.x (.b (bp c==0))) []:=by
 refine dg Ih Tryz.func10 (.need (∀(s:ETy.den .stat),s∈c.states→s.entry.length≤4398046511104∧s.leave.length≤4398046511104) (.ret (.p (.bool (bp c==(0:Int)))) [])) fun Γ=>?_
 exact⟨hb,rfl,rfl⟩
def kh:Ent:=(10,fun
 |[.agg [.pd (.str a),.pd (.lst .str b),.pd (.lst .var c),.pd (.lst .stat d),.pd (.lst .tran e)]],[]=>some (some (∀s∈d,s.entry.length≤4398046511104∧s.leave.length≤4398046511104),.x (.c (.pd (.bool (bp ⟨a,b,c,d,e⟩==0)))),[])
 |_,_=>none)
theorem mU:EntOk Tryz.prog kh:=entOk fun vs ck=>by
 unfold kh;dsimp only;split
 ·rename_i a b c d e;exact entS fun hp=>yU ⟨a,b,c,d,e⟩ hp
 ·exact entN
/-! ### lists of places -/
abbrev zAk1:List PI:=[.code [1,1,0,1,0,0],.inLoop [1,1,0,1,0,0],.inBlock 0,.code [1,1,1]]
variable(a l b:List Int)(m:Int)(Γ:Ctx)
theorem Nk(hl:a.length≤maxLen)(hab:a.length=b.length):∀(n k:Nat),a.length - k≤n→k≤a.length →
 J Tryz.prog 15 (ar Tryz.f15) Γ (Eq2 (.x (.b (a.drop k==b.drop k))) []) zAk1 ({n:=26,fr:=[(0,.p (.lst .int a)),(1,.p (.lst .int b)),(4,.p (.bool false)),(5,.i k)],ck:=[],kn:=[4]}):=by
 intro n
 induction n with
 |zero=>?_
 |succ n ih=>?_
 all_goals
  intro k hn hk
  refine jg aX Tryz.func15 (.ite (decide ((k:Int)<(a.length:Int))) (.need (inRg k a.length) (.need (inRg k b.length) (.ite (ETy.get .int a k != ETy.get .int b k) (.ret (.p (.bool false)) []) (.stop zAk1 {n:=26,fr:=[(0,.p (.lst .int a)),(1,.p (.lst .int b)),(4,.p (.bool false)),(5,.i (IntKind.wrap .i64 ((k:Int)+1)))],ck:=[]})))) (.ret (.p (.bool true)) [])) ?_
  refine⟨fun hlt=>?_,fun hge=>?_⟩
  · have hk':k<a.length:=by have:=of_decide_eq_true hlt;omega
    rw[bx (t:=.int) (l:=a) hk']
    generalize ETy.get .int a k=v
    rw[bx (t:=.int) (l:=b) (by omega)]
    refine⟨⟨by omega,by omega⟩,⟨by omega,by omega⟩,?_⟩
    generalize ETy.get .int b k=u
    refine⟨fun hb=>⟨?_,rfl⟩,fun hb=>?_⟩
    · have hb':(v==u)=false:=nt hb
      rw[List.cons_beq_cons,hb',br]
    · have hb':(v==u)=true:=nf hb
      rw[List.cons_beq_cons,hb',bb];(rw[aZ (aG hk' hl)];first |(exfalso;omega) |exact J.kn [4] (ih (k+1) (by omega) (by omega)))
  · rw[bS (l:=a) (by have:=of_decide_eq_false hge;omega)]
    rw[bS (l:=b) (by have:=of_decide_eq_false hge;omega)];exact⟨rfl,rfl⟩
theorem DN:ah Tryz.prog 15 [.l .int a,.l .int b] [] (.x (.b (a==b))) []:=by
 refine dg aX Tryz.func15 (.ite ((a.length:Int) != (b.length:Int)) (.ret (.p (.bool false)) []) (.stop zAk1 {n:=26,fr:=[(0,.p (.lst .int a)),(1,.p (.lst .int b)),(4,.p (.bool false)),(5,.i 0)],ck:=[],kn:=[4]})) fun Γ=>?_
 refine⟨fun h=>?_,fun h=>?_⟩
 · have hne:a.length≠b.length:=by
    have:(a.length:Int)≠b.length:=by simpa using h
    omega
   rw[show(a==b)=false from by rw[beq_eq_false_iff_ne];exact fun e=>hne (by rw[e])];exact⟨rfl,rfl⟩
 · have hab:a.length=b.length:=by
    have:(a.length:Int)=b.length:=by simpa using h
    omega
   exact J.len 0 rfl fun hl=>Nk a b Γ hl hab a.length 0 (by omega) (by omega)
def uV:Ent:=(15,fun
 |[.c (.pd (.lst .int a)),.c (.pd (.lst .int b))],[]=>some (none,.x (.c (.pd (.bool (a==b)))),[])
 |_,_=>none)
theorem Jf:EntOk Tryz.prog uV:=entOk fun vs ck=>by
 unfold uV;dsimp only;split
 ·rename_i a b;exact entS fun hp=>DN a b
 ·exact entN
abbrev zAk2:List PI:=[.code [1,0,1,0,0],.inLoop [1,0,1,0,0],.inBlock 0,.code [1,1]]
theorem Nf(hl:l.length≤maxLen)  : ∀(n k:Nat),l.length - k≤n→k≤l.length →
 J Tryz.prog 14 (ar Tryz.f14) Γ (Eq2 (.x (.b (inB (l.drop k) m))) []) zAk2 ({n:=18,fr:=[(0,.p (.lst .int l)),(1,.i m),(4,.p (.bool false)),(5,.i k)],ck:=[],kn:=[4]}):=by
 intro n
 induction n with
 |zero=>?_
 |succ n ih=>?_
 all_goals
  intro k hn hk
  refine jg aX Tryz.func14 (.ite (decide ((k:Int)<(l.length:Int))) (.need (inRg k l.length) (.ite (ETy.get .int l k==m) (.ret (.p (.bool true)) []) (.stop zAk2 {n:=18,fr:=[(0,.p (.lst .int l)),(1,.i m),(4,.p (.bool false)),(5,.i (IntKind.wrap .i64 ((k:Int)+1)))],ck:=[],kn:=[4]}))) (.ret (.p (.bool false)) [])) ?_
  refine⟨fun hlt=>?_,fun hge=>?_⟩
  · have hk':k<l.length:=by have:=of_decide_eq_true hlt;omega
    rw[bx (t:=.int) (l:=l) hk']
    refine⟨by omega,?_⟩
    generalize ETy.get .int l k=v
    refine⟨fun hb=>⟨?_,rfl⟩,fun hb=>?_⟩
    · have hb':(v==m)=true:=hb
      unfold inB;rw[cr,hb'];rfl
    · have hb':(v==m)=false:=hb
      unfold inB;rw[cr,hb',bj];(rw[aZ (aG hk' hl)];first |(exfalso;omega) |exact ih (k+1) (by omega) (by omega) |exact J.kn [4] (ih (k+1) (by omega) (by omega)))
  · rw[bS (l:=l) (by have:=of_decide_eq_false hge;omega)]
    exact⟨rfl,rfl⟩
theorem Ng:ah Tryz.prog 14 [.l .int (l),.i (m)] [] (.x (.b (inB l m))) []:=by
 refine dg aX Tryz.func14 (.stop zAk2 {n:=18,fr:=[(0,.p (.lst .int l)),(1,.i m),(4,.p (.bool false)),(5,.i 0)],ck:=[],kn:=[4]}) fun Γ=>?_
 exact J.len 0 rfl fun hl=>Nf l m Γ hl l.length 0 (by omega) (by omega)
def wu:Ent:=(14,fun
 |[.c (.pd (.lst .int l)),.c (.pd (.int .i64 m))],[]=>some (none,.x (.c (.pd (.bool (inB l m)))),[])
 |_,_=>none)
theorem wv:EntOk Tryz.prog wu:=entOk fun vs ck=>by
 unfold wu;dsimp only;split
 ·rename_i l m;exact entS fun hp=>Ng l m
 ·exact entN
abbrev zJ56Cl:=J Tryz.prog 56 (ar Tryz.f56)
def oB:Cfg:=⟨aU,[uz,mI,u9]⟩
theorem lO:ag Tryz.prog oB.tab:=(ag.cons I2 (ag.cons pr (ag.cons Jj ag.nil)))
structure FlagOk (a:List Bool) (s:List Int) (n:Nat):Prop where
 len:a.length=n
 get:∀j,j<n→ETy.get .bool a j=inB s (j:Int)
theorem xU(n:Nat):FlagOk (List.replicate n false) [] n:=by
 refine⟨dZ,fun j hj=>?_⟩
 rw[ETy.get_eq (t:=.bool) (x:=false) (by rw[List.getElem?_replicate,if_pos hj])];rfl
theorem BW{a:List Bool}{s:List Int}{n:Nat}(h:FlagOk a s n){x:Nat}(hx:x<n):FlagOk (a.set x true) (s++[(x:Int)]) n:=by
 refine⟨by rw[bA];exact h.len,fun j hj=>?_⟩
 have e:inB (s++[(x:Int)]) (j:Int)=(inB s (j:Int)||(x:Int)==(j:Int)):=by unfold inB;rw[fK];simp
 rw[e,←h.get j hj]
 by_cases hxj:x=j
 · subst hxj
   rw[ETy.get_eq (t:=.bool) (x:=true) (by rw[List.getElem?_set_self (by rw[h.len];exact hx)])];simp
 · have h1:((x:Int)==(j:Int))=false:=by
    have:¬(x:Int)=(j:Int):=by omega
    simpa using this
   rw[h1,bN]
   have h2:j<a.length:=by rw[h.len];exact hj
   rw[ETy.get_eq (t:=.bool) (x:=a[j]) (by rw[List.getElem?_set_ne hxj,List.getElem?_eq_getElem h2]),ETy.get_eq (t:=.bool) (List.getElem?_eq_getElem h2)]
variable(c:Chart)(s:List Int){x:Int}(ks:List Int){n:Nat}
theorem K0{ks:List Int}{j:Nat}(hj:j<ks.length):gB s (ks.take (j+1))=gB s (ks.take j)+(if inB s (ETy.get .int ks j)=true then 1 else 0):=by
 unfold gB
 rw[ETy.get_eq (t:=.int) (List.getElem?_eq_getElem hj),aL hj,cc,au]
 cases h:inB s ks[j] <;> simp[h]
theorem Rj:gB s ks≤ks.length:=aY _ _
abbrev zCl1(a:Chart):Chunk:=.cells [.pd (.str a.name),.pd (.lst .str a.events),.pd (.lst .var a.vars),.pd (.lst .stat a.states),.pd (.lst .tran a.trans)] 27
abbrev zCl2:List PI:=[.code [1,1,1,1,0,1,0,0],.inLoop [1,1,1,1,0,1,0,0],.inBlock 2,.code [1,1,1,1,1]]
theorem LC(v:Ev.Stat)(ks:List Int)(a:List Bool)(k:Nat)(hf:FlagOk a s c.states.length)(hks:∀y∈ks,0≤y∧y<(c.states.length:Int))(hl:ks.length≤1000)(Γ:Ctx)(res:Bool)
 (hcont:(v.kind==2&&(gB s ks:Int) != 1||v.kind==3&&(gB s ks:Int) != (ks.length:Int))=false→zJ56Cl Γ (Eq2 (.x (.b res)) []) zCl2 ({n:=138,fr:=[(2,.x (.c (.loc 0 0))),(4,.p (.bool false)),(5,.x (.c (.own 1))),(49,.p (.lst .stat c.states)),(50,.i c.states.length),(51,.i ((IntKind.wrap .i64 ((k:Int)+1))))],ck:=[zCl1 c,.own 4 .bool a],kn:=[4]}))
 (hstop:(v.kind==2&&(gB s ks:Int) != 1||v.kind==3&&(gB s ks:Int) != (ks.length:Int))=true→res=false):∀(n j:Nat),ks.length - j≤n→j≤ks.length →
 zJ56Cl Γ (Eq2 (.x (.b res)) []) [.code [1,1,1,1,0,1,0,0,1,1,0,0,1,1,1,1,0,1,0,0],.inLoop [1,1,1,1,0,1,0,0,1,1,0,0,1,1,1,1,0,1,0,0],.inBlock 4,.code [1,1,1,1,0,1,0,0,1,1,0,0,1,1,1,1,1],.inBlock 3,.code [1,1,1,1,0,1,0,0,1,1,1],.inLoop [1,1,1,1,0,1,0,0],.inBlock 2,.code [1,1,1,1,1]] ({n:=138,fr:=[(2,.x (.c (.loc 0 0))),(4,.p (.bool false)),(5,.x (.c (.own 1))),(49,.p (.lst .stat c.states)),(50,.i c.states.length),(51,.i k),(10,.x (.c (.loc 2 0))),(11,.i ((gB s (ks.take j):Int))),(12,.x (.c (.own 3))),(106,.x (.c (.own 3))),(107,.i ((ks.length:Int))),(108,.i ((j:Int)))],ck:=[zCl1 c,.own 4 .bool a,.cells [.pd (.str v.name),SC.i v.kind,SC.i v.depth,.pd (.str v.initial),.pd (.lst .deed v.entry),.pd (.lst .deed v.leave)] 57,.own 3 .int ks],kn:=[4]}):=by
 have hm:ks.length≤maxLen:=by unfold maxLen;omega
 intro n
 induction n with
 |zero=>?_
 |succ n ih=>?_
 all_goals
  intro j hn hj
  generalize hac:(gB s (ks.take j):Int)=m
  refine jg lO Tryz.func56 (let x3:List Nat:=[1,1,1,1,0,1,0,0,1,1,0,0,1,1,1,1,0,1,0,0];let x7:List Nat:=[1,1,1,1,0,1,0,0];let x1:List PI:=[.code x3,.inLoop x3,.inBlock 4,.code [1,1,1,1,0,1,0,0,1,1,0,0,1,1,1,1,1],.inBlock 3,.code [1,1,1,1,0,1,0,0,1,1,1],.inLoop x7,.inBlock 2,.code [1,1,1,1,1]];let x2:List Chunk:=[zCl1 c,.own 4 .bool a,.cells [.pd (.str v.name),.i v.kind,.i v.depth,.pd (.str v.initial),.pd (.lst .deed v.entry),.pd (.lst .deed v.leave)] 57,.own 3 .int ks];let x4:Nat×SV:=(49,.p (.lst .stat c.states));let x5:=(IntKind.wrap .i64 ((j:Int)+1));let x6:Nat×SV:=(50,.i c.states.length);let x8:Nat×SV:=(2,.x (.c (.loc 0 0)));.ite (decide ((j:Int)<(ks.length:Int))) (.need (inRg j ks.length) (.need (j<ks.length) (.need ((0:Int)≤ETy.get .int ks j∧ETy.get .int ks j<(a.length:Int)) (.need ((ETy.get .int ks j).toNat<a.length) (.ite (ETy.get .bool a ((ETy.get .int ks j).toNat)) (.stop x1 {n:=138,fr:=[x8,(4,.p (.bool false)),(5,.x (.c (.own 1))),x4,x6,(51,.i k),(10,.x (.c (.loc 2 0))),(11,.i (IntKind.wrap .i64 (m+(1:Int)))),(12,.x (.c (.own 3))),(106,.x (.c (.own 3))),(107,.i ks.length),(108,.i x5)],ck:=x2,kn:=[4]}) (.stop x1 {n:=138,fr:=[x8,(4,.p (.bool false)),(5,.x (.c (.own 1))),x4,x6,(51,.i k),(10,.x (.c (.loc 2 0))),(11,.i m),(12,.x (.c (.own 3))),(106,.x (.c (.own 3))),(107,.i ks.length),(108,.i x5)],ck:=x2,kn:=[4]})))))) (.ite (v.kind==(2:Int)&&m != (1:Int)||v.kind==(3:Int)&&m != (ks.length:Int)) (.ret (.p (.bool false)) []) (.stop [.code x7,.inLoop x7,.inBlock 2,.code [1,1,1,1,1]] {n:=138,fr:=[x8,(4,.p (.bool false)),(5,.x (.c (.own 1))),x4,x6,(51,.i (IntKind.wrap .i64 ((k:Int)+1)))],ck:=[zCl1 c,.own 4 .bool a],kn:=[4]}))) ?_
  conv=>zeta
  refine⟨fun hlt=>?_,fun hge=>?_⟩
  · have hj':j<ks.length:=by have:=of_decide_eq_true hlt;omega
    have hy:=hks (ETy.get .int ks j) (by rw[ETy.get_eq (t:=.int) (List.getElem?_eq_getElem hj')];exact aW hj')
    have hs:=K0 s hj'
    have hle:=Rj s (ks.take j)
    rw[a6]at hle
    have hg:=hf.get (ETy.get .int ks j).toNat (by omega)
    rw[fE hy.1]at hg
    have key:∀y:Int,0≤y→y<(c.states.length:Int)→(0≤y∧y<(a.length:Int))∧y.toNat<a.length:=by
     intro y h1 h2
     have hfl:=hf.len
     omega
    have hk2:=key _ hy.1 hy.2
    refine⟨⟨by omega,by omega⟩,hj',hk2.1,hk2.2,fun hb=>?_,fun hb=>?_⟩
    · rw[if_pos (by rw[←hg];exact hb)]at hs
      have hw:IntKind.wrap .i64 (m+1)=(gB s (ks.take (j+1)):Int):=by rw[cg (by omega) (by omega)];omega
      rw[hw,aZ (aG hj' hm)]
      first
      |(exfalso;omega)
      |exact ih (j+1) (by omega) (by omega)
    · rw[if_neg (by rw[←hg];exact fun e=>by rw[show _=false from hb]at e;cases e)]at hs
      have hw:m=(gB s (ks.take (j+1)):Int):=by omega
      rw[hw,aZ (aG hj' hm)]
      first
      |(exfalso;omega)
      |exact ih (j+1) (by omega) (by omega)
  · have hje:j=ks.length:=by have:=of_decide_eq_false hge;omega
    subst hje
    rw[a8 (av _)]at hac
    subst hac
    refine⟨fun hb=>?_,fun hb=>hcont hb⟩
    rw[hstop hb];exact⟨rfl,rfl⟩
theorem LB(t:Tre c.states)(s:List Int)(a:List Bool)(hf:FlagOk a s c.states.length)(Γ:Ctx):∀(n i:Nat),c.states.length - i=n→i≤c.states.length →
 zJ56Cl Γ (Eq2 (.x (.b (qW c.states s n i))) []) zCl2 ({n:=138,fr:=[(2,.x (.c (.loc 0 0))),(4,.p (.bool false)),(5,.x (.c (.own 1))),(49,.p (.lst .stat c.states)),(50,.i c.states.length),(51,.i ((i:Int)))],ck:=[zCl1 c,.own 4 .bool a],kn:=[4]}):=by
 have hfew:=t.shp.few
 have hm:c.states.length≤maxLen:=by unfold maxLen;omega
 have hfl:=hf.len
 have no:∀{b:Bool},b=false→¬b=true:=fun h e=>by rw[h]at e;cases e
 intro n
 induction n with
 |zero=>?_
 |succ n ih=>?_
 all_goals
  intro i hn hi
  refine jg lO Tryz.func56 (let x1:=(ETy.get .stat c.states i);let x2:=(Stat.depth x1==(0:Int) && !ETy.get .bool a i);let x3:=(Stat.depth x1>(0:Int));let x4:=(decide x3&&ETy.get .bool a i);let x5:List Nat:=[1,1,1,1,0,1,0,0,1,1,0,0,1,1,1,1,0,1,0,0];let x6:List Nat:=[1,1,1,1,0,1,0,0];.ite (decide ((i:Int)<(c.states.length:Int))) (.need (inRg i c.states.length) (.need ((Stat.depth x1==(0:Int))=true→(0:Int)≤(i:Int)∧(i:Int)<(a.length:Int)) (.need ((Stat.depth x1==(0:Int))=true→i<a.length) (.need (x2=false∧decide x3=true→(0:Int)≤(i:Int)∧(i:Int)<(a.length:Int)) (.need (x2=false∧decide x3=true→i<a.length) (.need (x2=false∧x4=true→c.states.length≤maxLen) (.need (x2=false∧x4=true→(0:Int)≤c7 c.states (i:Int)∧c7 c.states (i:Int)<(a.length:Int)) (.need (x2=false∧x4=true→(c7 c.states (i:Int)).toNat<a.length) (.ite (Stat.depth x1==(0:Int) && !ETy.get .bool a i||decide x3&&ETy.get .bool a i && !ETy.get .bool a ((c7 c.states (i:Int)).toNat)) (.ret (.p (.bool false)) []) (.need (inRg i a.length) (.need (i<a.length) (.ite (!ETy.get .bool a i||Stat.kind x1 != (2:Int)&&Stat.kind x1 != (3:Int)) (.stop [.code x6,.inLoop x6,.inBlock 2,.code [1,1,1,1,1]] {n:=138,fr:=[(2,.x (.c (.loc 0 0))),(4,.p (.bool false)),(5,.x (.c (.own 1))),(49,.p (.lst .stat c.states)),(50,.i c.states.length),(51,.i (IntKind.wrap .i64 ((i:Int)+1)))],ck:=[zCl1 c,.own 4 .bool a],kn:=[4]}) (.need (cw c.states (i:Int)=true) (.stop [.code x5,.inLoop x5,.inBlock 4,.code [1,1,1,1,0,1,0,0,1,1,0,0,1,1,1,1,1],.inBlock 3,.code [1,1,1,1,0,1,0,0,1,1,1],.inLoop x6,.inBlock 2,.code [1,1,1,1,1]] {n:=138,fr:=[(2,.x (.c (.loc 0 0))),(4,.p (.bool false)),(5,.x (.c (.own 1))),(49,.p (.lst .stat c.states)),(50,.i c.states.length),(51,.i i),(10,.x (.c (.loc 2 0))),(11,.i 0),(12,.x (.c (.own 3))),(106,.x (.c (.own 3))),(107,.i (↑((bB c.states i).length):Int)),(108,.i 0)],ck:=[zCl1 c,.own 4 .bool a,.cells [.pd (.str (Stat.name x1)),.i (Stat.kind x1),.i (Stat.depth x1),.pd (.str (Stat.initial x1)),.pd (.lst .deed (Stat.entry x1)),.pd (.lst .deed (Stat.leave x1))] 57,.own 3 .int (bB c.states i)],kn:=[4]})))))))))))))) (.ret (.p (.bool true)) [])) ?_
  conv=>zeta
  refine⟨fun hlt=>?_,fun hge=>?_⟩
 ·have:=of_decide_eq_true hlt;omega
 ·exact⟨rfl,rfl⟩
 · have hi':i<c.states.length:=by omega
   have hn2:c.states.length - (i+1)=n:=by omega
   have hi2:i+1≤c.states.length:=by omega
   have hkn:=qS c.states i
   have hkm:(bB c.states i).length≤1000:=by omega
   have hgi:=hf.get i hi'
   have hpar:c7 c.states (i:Int)=upM c.states i:=by rw[kI t.right hi',ft t.shp hi']
   have hup:(ETy.get .stat c.states i).depth>0→∃p:Nat,upM c.states i=(p:Int)∧p<i:=fun h=>JD t.shp h
   have hpn:∀{b:Bool},b=false∧(decide ((ETy.get .stat c.states i).depth>0)&&ETy.get .bool a i)=true→0≤c7 c.states (i:Int)∧c7 c.states (i:Int)<(c.states.length:Int):=fun h=>by
    have h1:=h.2
    rw[af]at h1
    obtain⟨p,e,hp⟩:=hup (of_decide_eq_true h1.1)
    rw[hpar,e];omega
   have hG:((ETy.get .stat c.states i).depth==0 && !ETy.get .bool a i||decide ((ETy.get .stat c.states i).depth>0)&&ETy.get .bool a i && !ETy.get .bool a (c7 c.states (i:Int)).toNat)=((ETy.get .stat c.states i).depth==0 && !inB s i||decide ((ETy.get .stat c.states i).depth>0)&&inB s i && !inB s (upM c.states i)):=by
    rw[hgi,hpar]
    by_cases hd:(ETy.get .stat c.states i).depth>0
    · obtain⟨p,e,hp⟩:=hup hd
      rw[e,ai,hf.get p (by omega)]
    ·rw[decide_eq_false hd];simp only[br]
   rw[qW]
   refine⟨⟨by omega,by omega⟩,fun _=>⟨by omega,by omega⟩,fun _=>by omega,fun _=>⟨by omega,by omega⟩,fun _=>by omega,fun _=>hm,fun h=>by have:=hpn h;omega,fun h=>by have:=hpn h;omega,fun hg=>?_,fun hg=>⟨⟨by omega,by omega⟩,by omega,fun hh=>?_,fun hh=>⟨j8 t.right hi',?_⟩⟩⟩
   · have hg':=hG.symm.trans hg
     have e1:mv c.states s i=false:=by unfold mv;rw[if_pos hg']
     rw[e1,br];exact⟨rfl,rfl⟩
   · have hg':=hG.symm.trans hg
     have hh':(!inB s i||(ETy.get .stat c.states i).kind != 2&&(ETy.get .stat c.states i).kind != 3)=true:=by rw[←hgi];exact hh
     have e1:mv c.states s i=true:=by unfold mv;rw[if_neg (no hg'),if_pos hh']
     rw[e1,bb,aZ (aG hi' hm)]
     exact ih (i+1) hn2 hi2
   · have hg':=hG.symm.trans hg
     have hh':(!inB s i||(ETy.get .stat c.states i).kind != 2&&(ETy.get .stat c.states i).kind != 3)=false:=by rw[←hgi];exact hh
     have e1:mv c.states s i = !((ETy.get .stat c.states i).kind==2&&(gB s (bB c.states i):Int) != 1||(ETy.get .stat c.states i).kind==3&&(gB s (bB c.states i):Int) != ((bB c.states i).length:Int)):=by unfold mv;rw[if_neg (no hg'),if_neg (no hh')]
     refine LC c s (ETy.get .stat c.states i) (bB c.states i) a i hf (fun y hy=>?_) hkm Γ _ (fun hb=>?_) (fun hb=>?_) _ 0 (av _) (aS _)
     · obtain⟨q,rfl,e2,_⟩:=GH t hi' hy
       omega
     · rw[e1,hb,cI,bb,aZ (aG hi' hm)]
       exact ih (i+1) hn2 hi2
     ·rw[e1,hb];rfl
 ·have:=of_decide_eq_false hge;omega
theorem Mo{la x n:Int}{b:Bool}(hla : -1≤la)(h:(decide (x≤la)||decide (x≥n)||b)=false):0≤x∧x<n:=by
 rw[al,al]at h
 have:=of_decide_eq_false h.1.1
 have:=of_decide_eq_false h.1.2
 omega
theorem ku(h:0≤x∧x<(n:Int)):x.toNat<n:=by omega
abbrev zCl3:List PI:=[.code [1,1,1,0,1,0,0],.inLoop [1,1,1,0,1,0,0],.inBlock 0,.code [1,1,1,1]]
theorem LA(t:Tre c.states)(s:List Int)(hsl:s.length≤maxLen)(Γ:Ctx):∀(n k:Nat) (la:Int) (a:List Bool),s.length - k≤n→k≤s.length→-1≤la→FlagOk a (s.take k) c.states.length →
 zJ56Cl Γ (Eq2 (.x (.b (qO c.states la (s.drop k)&&qW c.states s c.states.length 0))) []) zCl3 ({n:=138,fr:=[(2,.x (.c (.loc 0 0))),(4,.p (.bool false)),(5,.x (.c (.own 1))),(6,.i la),(19,.p (.lst .int s)),(20,.i s.length),(21,.i ((k:Int)))],ck:=[zCl1 c,.own 4 .bool a],kn:=[4]}):=by
 have no:∀{b:Bool},b=false→¬b=true:=fun h e=>by rw[h]at e;cases e
 intro n
 induction n with
 |zero=>?_
 |succ n ih=>?_
 all_goals
  intro k la a hn hk hla hf
  have hfl:=hf.len
  refine jg lO Tryz.func56 (.ite (decide ((k:Int)<(s.length:Int))) (.need (inRg k s.length) (.need ((decide (ETy.get .int s k≤la)||decide (ETy.get .int s k≥(a.length:Int)))=false→(0:Int)≤ETy.get .int s k∧ETy.get .int s k<(c.states.length:Int)) (.ite (decide (ETy.get .int s k≤la)||decide (ETy.get .int s k≥(a.length:Int))||bg (Stat.kind (ETy.get .stat c.states ((ETy.get .int s k).toNat)))) (.ret (.p (.bool false)) []) (.need ((0:Int)≤ETy.get .int s k∧ETy.get .int s k<(a.length:Int)) (.need ((ETy.get .int s k).toNat<a.length) (.stop zCl3 {n:=138,fr:=[(2,.x (.c (.loc 0 0))),(4,.p (.bool false)),(5,.x (.c (.own 1))),(6,.i (ETy.get .int s k)),(19,.p (.lst .int s)),(20,.i s.length),(21,.i (IntKind.wrap .i64 ((k:Int)+1)))],ck:=[zCl1 c,.own 4 .bool (List.set a ((ETy.get .int s k).toNat) true)],kn:=[4]})))))) (.stop zCl2 {n:=138,fr:=[(2,.x (.c (.loc 0 0))),(4,.p (.bool false)),(5,.x (.c (.own 1))),(49,.p (.lst .stat c.states)),(50,.i c.states.length),(51,.i 0)],ck:=[zCl1 c,.own 4 .bool a],kn:=[4]})) ?_
  refine⟨fun hlt=>?_,fun hge=>?_⟩
  · have hk':k<s.length:=by have:=of_decide_eq_true hlt;omega
    have ht:s.take (k+1)=s.take k++[ETy.get .int s k]:=by
     rw[ETy.get_eq (t:=.int) (List.getElem?_eq_getElem hk')];exact aL hk'
    rw[bx (t:=.int) (l:=s) hk',qO]
    generalize ETy.get .int s k=x at ht
    rw[hfl]
    have hz:∀{b:Bool},(decide (x≤la)||decide (x≥(c.states.length:Int))||b)=false→0≤x∧x<(c.states.length:Int):=fun h=>Mo hla h
    refine⟨⟨by omega,by omega⟩,fun h=>hz (b:=false) (by rw[bN];exact h),fun hg=>?_,fun hg=>⟨hz hg,ku (hz hg),?_⟩⟩
    ·rw[if_pos hg,br];exact⟨rfl,rfl⟩
    · have hx:=hz hg
      rw[if_neg (no hg),aZ (aG hk' hsl)]
      obtain⟨q,rfl⟩:=aA hx.1
      rw[ai]
      first
      |(exfalso;omega)
      |exact ih (k+1) _ _ (by omega) (by omega) (by omega) (by rw[ht];exact BW hf (Int.ofNat_lt.1 hx.2))
  · have hke:k=s.length:=by have:=of_decide_eq_false hge;omega
    subst hke
    rw[a8 (av _)]at hf
    rw[List.drop_of_length_le (av _),qO,bb]
    exact LB c t s a hf Γ c.states.length 0 (by omega) (by omega)
theorem Da(t:Tre c.states):ah Tryz.prog 56 [.e .chart c,.l .int s] [] (.x (.b (bw c.states s))) []:=by
 have hfew:=t.shp.few
 refine dg lO Tryz.func56 (.stop [.ops [1,0] 3,.code [1,1]] {n:=138,fr:=[(1,.p (.lst .int s)),(2,.x (.c (.loc 0 0))),(4,.p (.bool false)),(17,.i c.states.length)],ck:=[zCl1 c],kn:=[4]}) fun Γ=>?_
 refine J.make (d:=18) (e:=4) (by1:=1) .bool false c.states.length (by kernel_rfl) rfl rfl (fun H=>.cons (.bool false) .nil) rfl rfl ⟨by omega,by unfold maxLen;omega⟩ ?_
 have rest:∀a:List Bool,a=List.replicate c.states.length false→zJ56Cl Γ (Eq2 (.x (.b (bw c.states s))) []) [.ops [1,0] 4,.code [1,1]] ({n:=138,fr:=[(1,.p (.lst .int s)),(2,.x (.c (.loc 0 0))),(4,.p (.bool false)),(17,.i c.states.length),(18,.x (.c (.own 1)))],ck:=[zCl1 c,.own 4 .bool a],kn:=[4]}):=fun a ha=>by
  refine jg lO Tryz.func56 (.stop zCl3 {n:=138,fr:=[(2,.x (.c (.loc 0 0))),(4,.p (.bool false)),(5,.x (.c (.own 1))),(6,.i (-1:Int)),(19,.p (.lst .int s)),(20,.i s.length),(21,.i 0)],ck:=[zCl1 c,.own 4 .bool a],kn:=[4]}) ?_
  refine J.len 19 rfl fun hl=>?_
  exact LA c t s hl Γ s.length 0 (-1) a (by omega) (by omega) (by omega) (by rw[ha];exact xU _)
 exact rest _ rfl
def rN:Ent:=(56,fun
 |[.agg [.pd (.str a),.pd (.lst .str b),.pd (.lst .var c),.pd (.lst .stat d),.pd (.lst .tran e)],.c (.pd (.lst .int s))],[]=>some (some (Tre d),.x (.c (.pd (.bool (bw d s)))),[])
 |_,_=>none)
theorem FE:EntOk Tryz.prog rN:=entOk fun vs ck=>by
 unfold rN;dsimp only;split
 ·rename_i a b c d e s;exact entS fun hp=>Da ⟨a,b,c,d,e⟩ s hp
 ·exact entN
def Ii:Cfg:=⟨aU,[rQ,rN]⟩
theorem Ij:ag Tryz.prog Ii.tab:=(ag.cons FH (ag.cons FE ag.nil))
theorem C5(c:Chart)(s:List Int)(hz:c.vars.length≤2199023255552∧c.states.length≤2199023255552):ah Tryz.prog 25 [.e .chart c,.l .int s] [] (.x (.b (bp c==0&&bw c.states s))) []:=by
 refine dg Ij Tryz.func25 (.need (c.vars.length≤2199023255552∧c.states.length≤2199023255552) (.need ((bp c==(0:Int))=true→Tre c.states) (.ret (.p (.bool (bp c==(0:Int)&&bw c.states s))) []))) fun Γ=>?_
 exact⟨hz,fun h=>((db c).1 (eq_of_beq h)).tre,rfl,rfl⟩
def kX:Ent:=(25,fun
 |[.agg [.pd (.str a),.pd (.lst .str b),.pd (.lst .var c),.pd (.lst .stat d),.pd (.lst .tran e)],.c (.pd (.lst .int s))],[]=>some (some (c.length≤2199023255552∧d.length≤2199023255552),.x (.c (.pd (.bool (bp ⟨a,b,c,d,e⟩==0&&bw d s)))),[])
 |_,_=>none)
theorem ml:EntOk Tryz.prog kX:=entOk fun vs ck=>by
 unfold kX;dsimp only;split
 ·rename_i a b c d e s;exact entS fun hp=>C5 ⟨a,b,c,d,e⟩ s hp
 ·exact entN
end Go.Proofs.YtlhgnjmdopjpeaaGreatDoor
namespace Go.Ev
open Go.RowKit Go.ChangeShapes Go.WideShapes
def HW(W:World):Mem:=fun k=>W.heap[k]?
def VW(W:World):Vn:=⟨HW W,fun _=>0,fun _=>undef⟩
theorem KW(W:World):WOk (entry [] (VW W) W) [] (VW W) W where
 ext:=Fr.refl _ _
 imm:=fun _ _ h=>h
 hle:=HLe.refl _
 frz:=fun _ h=>.inl h
 agr:=fun i hi=>absurd hi (Nat.not_lt_zero _)
 own:=fun i c h=>by simp at h
 base:=fun i c b h=>by simp at h
 inj:=fun i j c d b h=>by simp at h
theorem ah.law{P:Program}{f:FuncId}{args:List SX}{b:Bool}(h:ah P f args [] (.x (.c (.pd (.bool b)))) []){W:World}(hT:hZ P (HW W)){vs:List Value}(hvs:All2 (SX.R (VW W)) args vs) :
 Calls P f vs.toArray W (fun e W'=>e = .returned (.bool b)∧Below W.heap.size W W'):=by
 refine(h W (VW W) vs (KW W) hT hvs).mono fun e W' hp=>?_
 obtain⟨v,V',rfl,hr,hw⟩:=hp
 have hr':PR V'.H (.bool b) v:=hr
 cases hr'
 refine⟨rfl,hw.ext.os,hw.ext.tape,hw.ext.output,hw.ext.size,fun k hk=>hw.ext.block k hk ?_⟩
 rintro⟨i,c,hc,_⟩
 simp[entry]at hc
section
variable{Hh:Type}{enc:TypeId×Value→Hh}{P:Program}{W:World}{base:Nat}{spare:Nat→Bool}{held:Bool}
theorem O7{a:Addr}(hs:a.spot=none){b off:Nat}(hb:a.block=b)(ho:a.off=off){i:Nat}{u:Value}(h:W.cell? (a.add i)=some u):∃cells e fr,W.heap[b]?=some (.cells cells e fr)∧cells[off+i]?=some u:=by
 obtain⟨b',off',sp⟩:=a
 simp only at hs hb ho
 subst hs;subst hb;subst ho
 rw[addr_add]at h
 unfold World.cell? at h
 split at h
 · rename_i c e fr hb
   exact⟨c,e,fr,hb,by simpa using h⟩
 ·cases h
end
section
variable{Hh:Type}{enc:TypeId×Value→Hh}{P:Program}{W W':World}
theorem pV(hl:laidOutB P=true)(hb:Below W.heap.size W W'):∀{ts:List TypeId} {vs:List Value} {ds:List (DataW Hh)} {p:List MemPlace},(∀t∈ts,P.readableRec t=true∧t<P.types.size)→(∀x∈p,x.block<W.heap.size) →
 DataW.TrodAll enc P W 0 (fun _=>true) true ts vs ds p→DataW.TrodAll enc P W' 0 (fun b=>decide (b<W.heap.size)) true ts vs ds p
 | [],_,_,_,_,_,h=>by
   obtain⟨rfl,rfl,rfl⟩:=trodAll_nil h
   rfl
 | t::ts,_,_,_,hr,hp,h=>by
   obtain⟨v,vs,d,ds,a,b,rfl,rfl,rfl,h1,h2⟩:=trodAll_cons h
   exact⟨a,b,Below.trod hl (hr t az).1 (hr t az).2 h1 hb (fun x hx=>hp x (cH _ hx)),
    pV hl hb (fun u hu=>hr u (aD _ hu)) (fun x hx=>hp x (ct _ hx)) h2,rfl⟩
theorem tD{f:Func}{s:ChangeSpec}{tb:TypeId}{args:Array Value}{ds gs:List (DataW Hh)}{before:List MemPlace}(hl:laidOutB P=true)(hrt:f.resultTypes.toList=[tb])(hsz:f.resultTypes.size=1)(htb:P.underlying tb=some .bool)(hvars:s.vars=[])
 (hfn:(s.fn Hh ds).results=[.lit (.bool true)]∧(s.fn Hh ds).args=ds∧(s.fn Hh ds).vars=[]) (hpar:∀t∈f.params.toList,P.readableRec t=true∧t<P.types.size)
 (hW:DataW.Whole enc P f.params.toList s.vars false W args.toList ds gs before) (hb:Below W.heap.size W W'):s.post enc P f false true false false W args (.bool true) W':=by
 have hW':=hW
 obtain⟨p,q,hA,hV,rfl,hfz,hnd⟩:=hW
 rw[hvars]at hV
 obtain⟨rfl,rfl⟩:=trodVars_none hV
 rw[aO]at hW' hfz
 have hlt:∀x∈p,x.block<W.heap.size:=fun x hx=>by simpa using hW'.lt x hx
 refine⟨ds,[],p,[],p,[],hW',?_,?_,?_,?_,fun h=>Bool.noConfusion h⟩
 · rw[aO,hfn.1,hrt,hsz]
   exact trodAll_mk1 (shut_bool htb _)
 · rw[aO,hfn.2.1]
   exact pV hl hb hpar hlt hA
 · rw[aO,hfn.2.2,hvars]
   rfl
 ·exact World.keptBut_mono (fun x hx=>⟨hx,.inr (.inl hx)⟩) (hb.frame _)
end
end Go.Ev
namespace Go.Proofs.YtlhgnjmdopjpeaaGreatDoor
open Go Go.Ev Go.RowKit Go.ChangeShapes Go.WideShapes Go.ChangeAt
set_option maxRecDepth 100000
theorem own:ownKnob Tryz.prog.godebug=none:=by kernel_rfl
theorem laidOut:laidOutB Tryz.prog=true:=by kernel_rfl
theorem EG{P:Program}{W:World}{name:String}{cs:Array Value}(h:W.var? P name=some cs):wb P (HW W) name cs:=by
 unfold World.var? at h
 cases hg:P.globalNamed name with
 |none=>rw[hg]at h;simp at h
 | some g =>
   rw[hg]at h
   simp only[Option.bind_some]at h
   split at h
   · rename_i c e fr hb
     simp only[aa]at h
     subst h
     exact⟨g,e,fr,hg,hb⟩
   ·cases h
abbrev yC:ByteArray:=⟨#[118,97,108,117,101,32,111,117,116,32,111,102,32,114,97,110,103,101]⟩
abbrev vX:ByteArray:=⟨#[105,110,118,97,108,105,100,32,115,121,110,116,97,120]⟩
theorem RT (u:TypeId) (h:Tryz.prog.typeName? 3 u=some "*errors.errorString"):u=314 :=
 typeName_ptr_named (nm:="errors.errorString") (by rw [show ("*"++"errors.errorString":String)="*errors.errorString" by kernel_rfl]; kernel_rfl) (by kernel_rfl) (by decide) u (by rw [show ("*"++"errors.errorString":String)="*errors.errorString" by kernel_rfl]; exact h)
theorem EF {W:World} {n:String} {text:List UInt8} {l:List (String×DataW Unit)} (h:laidMetH Tryz.prog l W) (e:(l.filter fun x=>x.1==n)=[(n,.iface "*errors.errorString" (.ptr (.agg [.lit (.string text)])))]) (ht:(Tryz.prog.globals[(Tryz.prog.globalNamed n).getD 0]?).map (·.type)=some 201) (hg:(Tryz.prog.globalNamed n).isSome=true):KY Tryz.prog (HW W) n:=fun _=>by
 have h1:=laidMetH.filter (fun x=>x.1==n) h
 rw[e,MakeChecks.laidMetH_plain _ _ _ (by rfl)]at h1
 obtain⟨g,hg⟩:=fM.1 hg
 rw[hg]at ht
 obtain⟨a0,s0,hv0, -, -, -⟩:=laid_sentinel h1 hg ht Tryz.underlying201 RT Tryz.underlying314 Tryz.underlying316 rfl rfl Tryz.underlying9 (by kernel_rfl) (by kernel_rfl)
 exact⟨_,_,EG hv0⟩
theorem JP {W:World} (h:W.ShapedOpen Tryz.prog):AJ Tryz.prog (HW W) "internal/bytealg.MaxLen":=fun _=>by
 obtain⟨m,hm⟩:∃m,W.cell? ⟨0,0,none⟩=some (.int .i64 m):=Go.Proofs.cell_of_shapedOpen_int (zero:=#[.int .i64 0]) (t:=3) h (of_decide_eq_true (by kernel_rfl)) (by kernel_rfl) rfl (by kernel_rfl) (by kernel_rfl) Tryz.underlying3
 unfold World.cell? at hm
 split at hm
 · split at hm
   ·cases hm
   · rename_i cs e fr hb _
     exact⟨0,cs,e,fr,m,by kernel_rfl,hb,hm⟩
 ·cases hm
theorem Hq{W:World}(h:laidMetH Tryz.prog Rows.pickLeavesRow.laid W)(hs:W.ShapedOpen Tryz.prog):hZ Tryz.prog (HW W):=by
 refine⟨fun _=>?_,EF (text:=vX.data.toList) h (by kernel_rfl) (by kernel_rfl) (by kernel_rfl),EF (text:=yC.data.toList) h (by kernel_rfl) (by kernel_rfl) (by kernel_rfl),JP hs⟩
 have h1:=laidMetH.filter (fun x=>x.1=="internal/strconv.uint64pow10") h
 have e:(Rows.pickLeavesRow.laid.filter fun x=>x.1=="internal/strconv.uint64pow10")=[("internal/strconv.uint64pow10",Lib.tabData .u64 Lib.pow10Tab)]:=by kernel_rfl
 rw[e]at h1
 have ht:(Tryz.prog.globals[(Tryz.prog.globalNamed "internal/strconv.uint64pow10").getD 0]?).map (·.type)=some 318:=by kernel_rfl
 exact EG (Lib.tabIs_of_head (rest:=[]) (g:=(Tryz.prog.globalNamed "internal/strconv.uint64pow10").getD 0) (by kernel_rfl) ht Tryz.underlying318 Tryz.underlying185 (by kernel_rfl) (by kernel_rfl) h1)
noncomputable def Qc:DataW Unit→List Value
 |.lit (.int k z)=>[Value.int k z]
 |.agg [.lit (.int k z),.lit (.int k' z')]=>[Value.int k z,Value.int k' z']
 |_=>[]
noncomputable def N5:DataW Unit→Array Value
 |.agg ds=>(ds.flatMap Qc).toArray
 |_=>#[]
noncomputable def tE(name:String)(cs:Array Value)(heap:Array Obj):Array Obj:=heap.modify ((Tryz.prog.globalNamed name).getD 0) fun
 |.cells _ t frozen=>.cells cs t frozen
 |o=>o
noncomputable def qU(name:String)(d:DataW Unit)(heap:Array Obj):Array Obj:=tE name (N5 d) heap
noncomputable def low:Nat:=(World.holding Tryz.prog default ⟨#[],#[],[]⟩).heap.size
noncomputable def KX(os:Os):World:=World.holding Tryz.prog os ⟨#[.cells #[.string yC] 316,.cells #[.string vX] 316],#[],[]⟩
noncomputable def gS(os:Os):World :=
 { KX os with heap:=tE "strconv.ErrRange" #[.iface 314 (.pointer (some ⟨low,0,none⟩))] (tE "strconv.ErrSyntax" #[.iface 314 (.pointer (some ⟨low+1,0,none⟩))] (qU "unicode/utf8.first" Rows.laid_unicode_utf8_first (qU "unicode/utf8.acceptRanges" Rows.laid_unicode_utf8_acceptRanges (qU "internal/strconv.uint64pow10" Rows.laid_internal_strconv_uint64pow10 (qU "math/bits.deBruijn64tab" Rows.laid_math_bits_deBruijn64tab (qU "math/bits.deBruijn32tab" Rows.laid_math_bits_deBruijn32tab (KX os).heap)))))) }
theorem xg{Hh:Type}{enc:TypeId×Value→Hh}{W:World}{base:Nat}{spare:Nat→Bool}{held:Bool}{v:Value}{d:DataW Hh}{ps:List MemPlace}{b0:Nat}(h:DataW.Trod enc Tryz.prog W base spare held 9 v d ps)(hv:Value.okWide Tryz.prog W .any b0 9 v) :
 ∃s:Str,SX.R (VW W) (.c (.pd (.str s))) v∧d = .lit (.string s):=by
 have hv':Cell.okWide Tryz.prog W .any b0 9 v:=by simpa only[Value.okWide,Tryz.underlying9]using hv
 obtain⟨fuel,hf⟩:=h
 have hc:v.cells.toList=[v]:=by
  have hv2:=hv'
  simp only[Cell.okWide,Tryz.underlying9,Cell.ok]at hv2
  cases v <;> first |rfl |exact hv2.elim
 rw[hc]at hf
 obtain⟨s,h1,h2⟩:=DataW.trod_string Tryz.underlying9 hf
 simp only[List.cons.injEq,and_true]at h1
 subst h1
 refine⟨s.data.toList,?_,?_⟩
 · have:PR (HW W) (.str s.data.toList) (.string (bs s.data.toList)):=.str _
   rw[lL]at this
   exact this
 ·exact congrArg Prod.fst h2.1
section
variable{Hh:Type}{enc:TypeId×Value→Hh}{W:World}{base:Nat}{spare:Nat→Bool}{held:Bool}
theorem wP{t:TypeId}{k:IntKind}(ht:Tryz.prog.underlying t=some (.int k)){fuel:Nat}{cs:List Value}{y:Option (DataW Hh×List MemPlace)}(h:DataW.trod enc Tryz.prog W base spare held fuel t cs=y)(hy:y.isSome=true):∃n,cs=[.int k n]∧(Lit.int k n).wf=true:=by
 obtain⟨x,rfl⟩:=fM.1 hy
 obtain⟨n,h1,_,h2⟩:=DataW.trod_int ht h
 exact⟨n,h1,h2⟩
end
end Go.Proofs.YtlhgnjmdopjpeaaGreatDoor

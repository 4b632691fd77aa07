/- Contracts: the laws PickOf, PickMay. Conditions: sizes. Lists of ints and of bytes among the laws' arguments. Conditions: none. The argument Now of the laws on what is taken, opened. Conditions: none. Contracts: the law PickApart. Conditions: sizes. -/
import Derived.Test.YtlhgnjmdopjpeaaGreatDoorAp
import Derived.Test.YtlhgnjmdopjpeaaGreatDoorSq
import Derived.Test.YtlhgnjmdopjpeaaGreatDoorSo
import Derived.Test.YtlhgnjmdopjpeaaGreatDoorMh
import Derived.Test.YtlhgnjmdopjpeaaGreatDoorJb
namespace Go.Proofs.YtlhgnjmdopjpeaaGreatDoor
open Go Go.Ev
set_option maxRecDepth 100000
def H9:Cfg:=⟨aU,[]⟩
theorem Ia:ag Tryz.prog H9.tab:=ag.nil
theorem LG(l:List Int)(h:l.length≤100000):ah Tryz.prog 13 [.l .int l] [] (.x (.c (.pd (.lst .int l)))) []:=by
 have own:ah Tryz.prog 13 [.l .int l] [] (.x (.c (.own 0))) [.own 3 .int ([]++l)]:=by
  refine dg Ia Tryz.func13 (.need (room (([]++l).length) 8) (.ret (.x (.c (.own 0))) [.own 3 .int ([]++l)])) fun Γ=>?_
  exact⟨room_le (by rw[cd];omega) (by omega),rfl,rfl⟩
 exact ah.chop (ck':=[]) (ah.frz aU [0] own rfl rfl)
def oD:Ent:=(13,fun
 |[.c (.pd (.lst .int l))],[]=>some (some (l.length≤100000),.x (.c (.pd (.lst .int l))),[])
 |_,_=>none)
theorem ql:EntOk Tryz.prog oD:=entOk fun vs ck=>by
 unfold oD;dsimp only;split
 ·rename_i l;exact entS fun hp=>LG l hp
 ·exact entN
def ug:Cfg:=⟨aU,[BC,Bx,oO,kh,oK,oD,wy,wu]⟩
theorem qb:ag Tryz.prog ug.tab:=(ag.cons wx (ag.cons wo (ag.cons qz (ag.cons mU (ag.cons qv (ag.cons ql (ag.cons wz (ag.cons wv ag.nil))))))))
abbrev zBt1(a:Chart):List Chunk:=[.cells [.pd (.str a.name),.pd (.lst .str a.events),.pd (.lst .var a.vars),.pd (.lst .stat a.states),.pd (.lst .tran a.trans)] 27]
abbrev zBt2:List PI:=[.code [1,1,1,1,1,1,1,0,1,0,0],.inLoop [1,1,1,1,1,1,1,0,1,0,0],.inBlock 2,.code [1,1,1,1,1,1,1,1]]
variable(Γ:Ctx)(c:Chart)
theorem MJ(p s out:List Int)(vs:List Val)(ev:Str)(b:Bool)(i:Nat)(hl:out.length≤maxLen)(hout:∀k∈out,(0≤k∧k<(c.trans.length:Int))∧(ETy.get .tran c.trans k.toNat).event==ev∧inB s (ETy.get .tran c.trans k.toNat).src=true)(hb:(b||((out.length:Int)==0))=true):∀(n j:Nat),out.length - j≤n→j≤out.length →
 J Tryz.prog 8 (ar Tryz.f8) Γ (Eq2 (.x (.b true)) []) zBt2 ({n:=79,fr:=[(8,.p (.lst .int out)),(2,.p (.str ev)),(3,.x (.c (.loc 0 0))),(6,.p (.bool false)),(7,.p (.lst .int s)),(9,.p (.bool b)),(47,.p (.lst .int out)),(48,.i out.length),(49,.i ((j:Int)))],ck:=(zBt1 c)}):=by
 intro n
 induction n with
 |zero=>?_
 |succ n ih=>?_
 all_goals
  intro j hn hj
  refine jg qb Tryz.func8 (let x1:=(ETy.get .tran c.trans ((ETy.get .int out j).toNat));.ite (decide ((j:Int)<(out.length:Int))) (.need (inRg j out.length) (.need ((0:Int)≤ETy.get .int out j∧ETy.get .int out j<(c.trans.length:Int)) (.need ((!Tran.event x1==ev)=false→(0:Int)≤ETy.get .int out j∧ETy.get .int out j<(c.trans.length:Int)) (.ite (!Tran.event x1==ev || !inB s (Tran.src x1)) (.ret (.p (.bool false)) []) (.stop zBt2 {n:=79,fr:=[(8,.p (.lst .int out)),(2,.p (.str ev)),(3,.x (.c (.loc 0 0))),(6,.p (.bool false)),(7,.p (.lst .int s)),(9,.p (.bool b)),(47,.p (.lst .int out)),(48,.i out.length),(49,.i (IntKind.wrap .i64 ((j:Int)+1)))],ck:=(zBt1 c)}))))) (.ret (.p (.bool (b||(out.length:Int)==0))) [])) ?_
  conv=>zeta
  refine⟨fun hlt=>?_,fun hge=>⟨congrArg (fun b=>SV.x (.c (.pd (.bool b)))) hb,rfl⟩⟩
  have hj':j<out.length:=by have:=of_decide_eq_true hlt;omega
  have hmem:ETy.get .int out j∈out:=by
   rw[ETy.get_eq (t:=.int) (List.getElem?_eq_getElem hj')];exact aW hj'
  obtain⟨h1,h2,h3⟩:=hout _ hmem
  refine⟨⟨by omega,by omega⟩,h1,fun _=>h1,fun hx=>?_,fun _=>?_⟩
  · exfalso
    have hx':(!(ETy.get .tran c.trans (ETy.get .int out j).toNat).event==ev || !inB s (ETy.get .tran c.trans (ETy.get .int out j).toNat).src)=true:=hx
    rw[h2,h3]at hx';cases hx'
  · rw[aZ (aG hj' hl)]
    first
    |(exfalso;omega)
    |exact ih (j+1) (by omega) (by omega)
abbrev zBt3:List PI:=[.code [1,1,1,1,1,1,0,1,0,0],.inLoop [1,1,1,1,1,1,0,1,0,0],.inBlock 0,.code [1,1,1,1,1,1,1]]
theorem MI(p s out:List Int)(vs:List Val)(ev:Str)(hm:c.trans.length≤1000)(hl:out.length≤maxLen)(hout:∀k∈out,(0≤k∧k<(c.trans.length:Int))∧(ETy.get .tran c.trans k.toNat).event==ev∧inB s (ETy.get .tran c.trans k.toNat).src=true):∀(n i:Nat) (b:Bool),c.trans.length - i≤n→i≤c.trans.length →
 ((b||(c.trans.drop i).any fun tr=>tr.event==ev)||((out.length:Int)==0))=true →
 J Tryz.prog 8 (ar Tryz.f8) Γ (Eq2 (.x (.b true)) []) zBt3 ({n:=79,fr:=[(8,.p (.lst .int out)),(2,.p (.str ev)),(3,.x (.c (.loc 0 0))),(6,.p (.bool false)),(7,.p (.lst .int s)),(9,.p (.bool b)),(31,.i c.trans.length),(32,.i ((i:Int)))],ck:=(zBt1 c)}):=by
 intro n
 induction n with
 |zero=>?_
 |succ n ih=>?_
 all_goals
  intro i b hn hi hb
  refine jg qb Tryz.func8 (let x1:List Chunk:=(zBt1 c);.ite (decide ((i:Int)<(c.trans.length:Int))) (.need (b=false→(0:Int)≤(i:Int)∧(i:Int)<(c.trans.length:Int)) (.stop zBt3 {n:=79,fr:=[(8,.p (.lst .int out)),(2,.p (.str ev)),(3,.x (.c (.loc 0 0))),(6,.p (.bool false)),(7,.p (.lst .int s)),(9,.p (.bool (b||Tran.event (ETy.get .tran c.trans i)==ev))),(31,.i c.trans.length),(32,.i (IntKind.wrap .i64 ((i:Int)+1)))],ck:=x1})) (.stop zBt2 {n:=79,fr:=[(8,.p (.lst .int out)),(2,.p (.str ev)),(3,.x (.c (.loc 0 0))),(6,.p (.bool false)),(7,.p (.lst .int s)),(9,.p (.bool b)),(47,.p (.lst .int out)),(48,.i out.length),(49,.i 0)],ck:=x1})) ?_
  conv=>zeta
  refine⟨fun hlt=>?_,fun hge=>?_⟩
  · have hi':i<c.trans.length:=by have:=of_decide_eq_true hlt;omega
    rw[bx (t:=.tran) hi',cr,←fy]at hb
    refine⟨fun _=>⟨by omega,by omega⟩,?_⟩
    rw[cg (n:=(i:Int)+1) (by omega) (by omega)]
    first
    |(exfalso;omega)
    |exact J.kn [] (ih (i+1) _ (by omega) (by omega) hb)
  · rw[bS (by have:=of_decide_eq_false hge;omega),List.any_nil,bN]at hb
    exact MJ Γ c p s out vs ev b i hl hout hb out.length 0 (by omega) (by omega)
theorem Gn(p:List Int)(vs:List Val)(ev:Str)(h:mO c)(hp:∀b∈p,0≤b∧b≤255)(hv:∀v∈vs,i64 v.a=true):ah Tryz.prog 8 [.e .chart c,.agg [.pd (.lst .byte p),.pd (.lst .val vs)],.s ev] [] (.x (.b true)) []:=by
 have hz:=xj h
 have hb:=C1 h
 have hsz:c.vars.length≤2199023255552∧c.states.length≤2199023255552:=⟨hz.1,by omega⟩
 refine dg qb Tryz.func8 (.ite false (.ret (.p (.bool false)) []) (.need (∀(s:ETy.den .stat),s∈c.states→s.entry.length≤4398046511104∧s.leave.length≤4398046511104) (.ite (!bp c==(0:Int)) (.ret (.p (.bool true)) []) (.need (Tre c.states∧∀(b:ETy.den .byte),b∈p→(0:ETy.den .byte)≤b∧b≤(255:ETy.den .byte)) (.need ((dK c.states (chM c.states p)).length≤100000) (.need ((c.vars.length≤2199023255552∧c.states.length≤2199023255552)∧∀(v:Val),v∈vs→i64 v.a=true) (.stop zBt3 {n:=79,fr:=[(8,.p (.lst .int (gL c (dK c.states (chM c.states p)) vs ev))),(2,.p (.str ev)),(3,.x (.c (.loc 0 0))),(6,.p (.bool false)),(7,.p (.lst .int (dK c.states (chM c.states p)))),(9,.p (.bool false)),(31,.i c.trans.length),(32,.i 0)],ck:=(zBt1 c),kn:=[9]}))))))) fun Γ=>?_
 refine⟨fun h0=>absurd h0 (by decide),fun _=>⟨hb,fun h1=>⟨rfl,rfl⟩,fun h1=>?_⟩⟩
 have h1':(!bp c==0)=false:=h1
 have hck:(bp c==0)=true:=by simpa using h1'
 have hV:=(db c).1 (eq_of_beq hck)
 have tt:=hV.tre
 have hst:=(dP c).1 hV.few
 have hL:=mD tt (mj tt hp)
 have hg:=(kj tt.shp _).2 hL
 have hsm:=km hV hL
 refine⟨⟨tt,hp⟩,by omega,⟨hsz,hv⟩,?_⟩
 generalize dK c.states (chM c.states p)=s at hL hg hsm
 have e:gL c s vs ev=cC c.states s c.trans (bM c s vs ev):=by unfold gL;rw[hck,hg];rfl
 rw[e]
 have hout:∀k∈cC c.states s c.trans (bM c s vs ev),(0≤k∧k<(c.trans.length:Int))∧(ETy.get .tran c.trans k.toNat).event==ev∧inB s (ETy.get .tran c.trans k.toNat).src=true:=fun k hk=>by
  obtain⟨n,rfl,h2,h3⟩:=ko.1 (l6 tt.shp hL hk)
  unfold ma at h3
  rw[af,af]at h3
  rw[ai]
  exact⟨⟨by omega,by omega⟩,h3.1.1,h3.1.2⟩
 have hl:(cC c.states s c.trans (bM c s vs ev)).length≤c.trans.length:=qR _ _
 refine J.kn [] ?_
 refine MI Γ c p s _ vs ev (by omega) (by unfold maxLen;omega) hout c.trans.length 0 false (by omega) (by omega) ?_
 rw[bj,cA]
 cases ho:cC c.states s c.trans (bM c s vs ev)with
 |nil=>simp
 | cons k r =>
   rw[ho]at hout
   obtain⟨h1,h2,_⟩:=hout k az
   rw[aN]
   refine .inl (bf.2 ⟨ETy.get .tran c.trans k.toNat,?_,h2⟩)
   rw[ETy.get_eq (t:=.tran) (List.getElem?_eq_getElem (show k.toNat<c.trans.length by omega))]
   exact aW _
end Go.Proofs.YtlhgnjmdopjpeaaGreatDoor
namespace Go.Proofs.YtlhgnjmdopjpeaaGreatDoor
open Go Go.Ev Go.RowKit Go.ChangeShapes Go.WideShapes Go.ChangeAt
set_option maxRecDepth 100000
section
variable{Hh:Type}{enc:TypeId×Value→Hh}{W:World}{base:Nat}{spare:Nat→Bool}{held:Bool}
theorem O5(n:Nat)(cs:List Value)(y:DataW Hh×List MemPlace)(h:DataW.trod enc Tryz.prog W base spare held n 5 cs=some y):∃r:Int,All2 (PR (HW W)) (ETy.byte.enc r) cs∧(0≤r∧r≤255):=by
 obtain⟨k,h1,_,h2⟩:=DataW.trod_int Tryz.underlying5 h
 simp only[Lit.wf,af,decide_eq_true_eq]at h2
 have e1:IntKind.u8.min=0:=by decide
 have e2:IntKind.u8.max=255:=by decide
 rw[e1,e2]at h2
 exact⟨k,by rw[h1];exact .cons (.int _ k) .nil,h2⟩
end
section
variable{Hh:Type}{enc:TypeId×Value→Hh}{W:World}{base:Nat}{spare:Nat→Bool}{held:Bool}
def InI(n:Int):Prop:=-9223372036854775808≤n∧n≤9223372036854775807
theorem inI{n:Int}(h:(Lit.int .i64 n).wf=true):InI n:=by
 simp only[Lit.wf,af,decide_eq_true_eq]at h
 have h1:IntKind.i64.min = -9223372036854775808:=by decide
 have h2:IntKind.i64.max=9223372036854775807:=by decide
 rw[h1,h2]at h
 exact h
theorem Ds(n:Nat)(cs:List Value)(y:DataW Hh×List MemPlace)(h:DataW.trod enc Tryz.prog W base spare held n 83 cs=some y):∃v:Val,All2 (PR (HW W)) (ETy.val.enc v) cs∧i64 v.a=true:=by
 obtain⟨xs,m,_,rfl,hl,hlen,hf⟩:=DataW.trod_struct Tryz.underlying83 h
 have c0:Tryz.prog.cellsOf 83=3:=by kernel_rfl
 have c1:Tryz.prog.cellsOf 3=1:=by kernel_rfl
 have c2:Tryz.prog.cellsOf 2=1:=by kernel_rfl
 have l3:xs.length=3:=hlen
 obtain⟨a,h0,w0⟩:=wP Tryz.underlying3 (hf 0 _ rfl) (by rw[List.getElem?_eq_getElem (by omega)];rfl)
 obtain⟨b,h1,w1⟩:=wP Tryz.underlying2 (hf 1 _ rfl) (by rw[List.getElem?_eq_getElem (by omega)];rfl)
 obtain⟨c,h2,w2⟩:=wP Tryz.underlying2 (hf 2 _ rfl) (by rw[List.getElem?_eq_getElem (by omega)];rfl)
 replace h0:List.take (Tryz.prog.cellsOf 3) (List.drop 0 cs)=[.int .i64 a]:=h0
 replace h1:List.take (Tryz.prog.cellsOf 2) (List.drop 1 cs)=[.int .i64 b]:=h1
 replace h2:List.take (Tryz.prog.cellsOf 2) (List.drop 2 cs)=[.int .i64 c]:=h2
 rw[c0]at hl
 rw[c1]at h0
 rw[c2]at h1 h2
 match cs,hl with
 | [u0,u1,u2],_ =>
   simp at h0 h1 h2
   subst h0;subst h1;subst h2
   exact⟨⟨a,b,c⟩,.cons (.int _ a) (.cons (.int _ b) (.cons (.int _ c) .nil)),eZ.2 (inI w1)⟩
theorem Qi{cs:Array Value}(h:cs.size=2):∃a b,cs=#[a,b]:=by
 obtain⟨l⟩:=cs
 match l,h with
 |[a,b],_=>exact⟨a,b,rfl⟩
theorem wK{v:Value}{d:DataW Hh}{ps:List MemPlace}{b0:Nat}(h:DataW.Trod enc Tryz.prog W base spare held 31 v d ps)(hv:Value.okWide Tryz.prog W .any b0 31 v) :
 ∃(vars:List Int) (vals:List Val),SX.R (VW W) (.agg [.pd (.lst .byte vars),.pd (.lst .val vals)]) v ∧
  ((d.weights Tryz.prog 31).all (·≤reachBytes)=true→(∀b∈vars,0≤b∧b≤255)∧room vals.length 24∧∀x∈vals,i64 x.a=true):=by
 simp only[Value.okWide,Tryz.underlying31]at hv
 obtain⟨cs,rfl,hsz,ts,hts,_,hcs⟩:=hv
 have c26:Tryz.prog.cellsOf 31=2:=by kernel_rfl
 rw[c26]at hsz
 obtain⟨v1,v2,rfl⟩:=Qi hsz
 obtain⟨fuel,hf⟩:=h
 obtain⟨xs,m,_,hx,hl,hlen,hf⟩:=DataW.trod_struct Tryz.underlying31 hf
 have l2:xs.length=2:=hlen
 have h0:=hf 0 _ rfl
 have h1:=hf 1 _ rfl
 match xs,l2 with
 |[y0,y1],_ =>
 have c23:Tryz.prog.cellsOf 28=1:=by kernel_rfl
 have c24:Tryz.prog.cellsOf 29=1:=by kernel_rfl
 replace h0:DataW.trod enc Tryz.prog W base spare held m 28 (([v1,v2].drop 0).take (Tryz.prog.cellsOf 28))=some y0:=h0
 replace h1:DataW.trod enc Tryz.prog W base spare held m 29 (([v1,v2].drop 1).take (Tryz.prog.cellsOf 29))=some y1:=h1
 rw[c23]at h0
 rw[c24]at h1
 obtain⟨vars,u1,e1,q1,q3⟩:=eT .byte (Q:=fun r=>0≤r∧r≤255) Tryz.underlying28 (by kernel_rfl) (fun n cs y h=>by
  obtain⟨c,q,hi⟩:=O5 n cs y h
  exact⟨c,q,fun _=>hi⟩) h0
 obtain⟨vals,u2,e2,r1,r3⟩:=eT .val (Q:=fun v=>i64 v.a=true) Tryz.underlying29 (by kernel_rfl) (fun n cs y h=>by
  obtain⟨c,q,hi⟩:=Ds n cs y h
  exact⟨c,q,fun _=>hi⟩) h1
 simp at e1 e2
 subst e1;subst e2
 refine⟨vars,vals,⟨[v1,v2],rfl,.cons q1 (.cons r1 .nil)⟩,fun hw=>?_⟩
 simp only[ae]at hx
 rw[hx.1]at hw
 have hw2:(y0.1.weights Tryz.prog 28++(y1.1.weights Tryz.prog 29++[])).all (·≤reachBytes)=true:=by
  simpa[DataW.weights,Tryz.underlying31,DataW.weightsEach]using hw
 rw[bz,aO,af]at hw2
 have h4:=(q3 hw2.1).1
 have h5:=r3 hw2.2
 have e':Tryz.prog.bytesOf 83=24:=by kernel_rfl
 rw[e']at h5
 unfold reachBytes at h5
 exact⟨h4,⟨by omega,by unfold maxLen;omega⟩,h5.1⟩
end
end Go.Proofs.YtlhgnjmdopjpeaaGreatDoor
namespace Go.Proofs.YtlhgnjmdopjpeaaGreatDoor
open Go Go.Ev
set_option maxRecDepth 100000
abbrev zJ6Bv:=J Tryz.prog 6 (ar Tryz.f6)
def qc:Cfg:=⟨aU,[BC,Bx,oO,kh,oK,oD,wy,uH,wu,po]⟩
theorem nE:ag Tryz.prog qc.tab:=(ag.cons wx (ag.cons wo (ag.cons qz (ag.cons mU (ag.cons qv (ag.cons ql (ag.cons wz (ag.cons BE (ag.cons wv (ag.cons Di ag.nil))))))))))
abbrev zBv1(a:Chart):Chunk:=.cells [.pd (.str a.name),.pd (.lst .str a.events),.pd (.lst .var a.vars),.pd (.lst .stat a.states),.pd (.lst .tran a.trans)] 27
abbrev zBv2:List PI:=[.code [1,1,1,1,1,1,1,0,1,0,0],.inLoop [1,1,1,1,1,1,1,0,1,0,0],.inBlock 0,.code [1,1,1,1,1,1,1,1]]
abbrev zBv3:List PI:=[.code [1,1,1,1,1,1,1,0,1,0,0,1,1,0,0,1,1,1,0,0],.inLoop [1,1,1,1,1,1,1,0,1,0,0,1,1,0,0,1,1,1,0,0],.inBlock 2,.inBlock 1,.code [1,1,1,1,1,1,1,0,1,0,0,1,1,1],.inLoop [1,1,1,1,1,1,1,0,1,0,0],.inBlock 0,.code [1,1,1,1,1,1,1,1]]
theorem MC(Γ:Ctx)(Q:Out)(c:Chart)(p s out m ls A:List Int)(vs:List Val)(ev:Str)(sn:List Bool)(j:Nat)(hl:ls.length≤maxLen)(hrg:∀y∈ls,0≤y∧y<(c.states.length:Int))(hnd:ls.Nodup)(hdis:∀y∈ls,y ∉ A)
 (H:∀sn3:List Bool,FlagOk sn3 (A++ls) c.states.length→zJ6Bv Γ Q zBv2 ({n:=78,fr:=[(9,.p (.lst .int m)),(3,.x (.c (.loc 0 0))),(6,.p (.bool false)),(7,.p (.lst .int s)),(10,.x (.c (.own 1))),(49,.p (.lst .int out)),(50,.i out.length),(51,.i ((IntKind.wrap .i64 ((j:Int)+1))))],ck:=[zBv1 c,.own 4 .bool sn3]})):∀(n q:Nat) (sn2:List Bool),ls.length - q≤n→q≤ls.length→FlagOk sn2 (A++ls.take q) c.states.length →
 zJ6Bv Γ Q zBv3 ({n:=78,fr:=[(63,.p (.lst .int ls)),(64,.i ((ls.length:Int))),(65,.i ((q:Int))),(9,.p (.lst .int m)),(3,.x (.c (.loc 0 0))),(6,.p (.bool false)),(7,.p (.lst .int s)),(10,.x (.c (.own 1))),(49,.p (.lst .int out)),(50,.i out.length),(51,.i j)],ck:=[zBv1 c,.own 4 .bool sn2]}):=by
 intro n
 induction n with
 |zero=>?_
 |succ n ih=>?_
 all_goals
  intro q sn2 hn hq hF
  refine jg nE Tryz.func6 (let x1:=((0:Int)≤ETy.get .int ls q∧ETy.get .int ls q<(sn2.length:Int));let x2:List Nat:=[1,1,1,1,1,1,1,0,1,0,0];let x3:List Nat:=[1,1,1,1,1,1,1,0,1,0,0,1,1,0,0,1,1,1,0,0];let x4:=((ETy.get .int ls q).toNat<sn2.length);.ite (decide ((q:Int)<(ls.length:Int))) (.need (inRg q ls.length) (.need x1 (.need x4 (.ite (ETy.get .bool sn2 ((ETy.get .int ls q).toNat)) (.ret (.p (.bool false)) []) (.need x1 (.need x4 (.stop [.code x3,.inLoop x3,.inBlock 2,.inBlock 1,.code [1,1,1,1,1,1,1,0,1,0,0,1,1,1],.inLoop x2,.inBlock 0,.code [1,1,1,1,1,1,1,1]] {n:=78,fr:=[(63,.p (.lst .int ls)),(64,.i ls.length),(65,.i (IntKind.wrap .i64 ((q:Int)+1))),(9,.p (.lst .int m)),(3,.x (.c (.loc 0 0))),(6,.p (.bool false)),(7,.p (.lst .int s)),(10,.x (.c (.own 1))),(49,.p (.lst .int out)),(50,.i out.length),(51,.i j)],ck:=[zBv1 c,.own 4 .bool (List.set sn2 ((ETy.get .int ls q).toNat) true)]}))))))) (.stop [.code x2,.inLoop x2,.inBlock 0,.code [1,1,1,1,1,1,1,1]] {n:=78,fr:=[(9,.p (.lst .int m)),(3,.x (.c (.loc 0 0))),(6,.p (.bool false)),(7,.p (.lst .int s)),(10,.x (.c (.own 1))),(49,.p (.lst .int out)),(50,.i out.length),(51,.i (IntKind.wrap .i64 ((j:Int)+1)))],ck:=[zBv1 c,.own 4 .bool sn2]})) ?_
  conv=>zeta
  refine⟨fun hlt=>?_,fun hge=>?_⟩
  · have hq':q<ls.length:=by have:=of_decide_eq_true hlt;omega
    have hmem:ETy.get .int ls q∈ls:=by
     rw[ETy.get_eq (t:=.int) (List.getElem?_eq_getElem hq')];exact aW hq'
    have hy:=hrg _ hmem
    have hlen:=hF.len
    have hnot:ETy.get .int ls q ∉ ls.take q:=fun h=>by
     rw[ETy.get_eq (t:=.int) (List.getElem?_eq_getElem hq')]at h
     obtain⟨k,hk1,hk2⟩:=dy.1 h
     rw[a6]at hk1
     rw[gv]at hk2
     have:=(List.getElem_inj hnd).1 hk2
     omega
    have hoff:=hdis _ hmem
    have htk:ls.take (q+1)=ls.take q++[ETy.get .int ls q]:=by
     rw[ETy.get_eq (t:=.int) (List.getElem?_eq_getElem hq'),aL hq']
    generalize hyy:ETy.get .int ls q=y at hy hnot hoff htk
    obtain⟨z,rfl⟩:=aA hy.1
    have hz:z<c.states.length:=by omega
    have hg:ETy.get .bool sn2 z=false:=by
     rw[hF.get z hz]
     cases hb:inB (A++ls.take q) (z:Int)
     ·rfl
     · rcases bK.1 ((cu _ _).1 hb)with h |h
       ·exact absurd h hoff
       ·exact absurd h hnot
    have hF2:FlagOk (sn2.set z true) (A++ls.take (q+1)) c.states.length:=by
     rw[htk,←bD];exact BW hF hz
    rw[ai]
    refine⟨⟨by omega,by omega⟩,⟨hy.1,by rw[hlen];exact hy.2⟩,by omega,fun h=>?_,fun _=>⟨⟨hy.1,by rw[hlen];exact hy.2⟩,by omega,?_⟩⟩
    · have h':ETy.get .bool sn2 z=true:=h
      rw[hg]at h';cases h'
    · rw[aZ (aG hq' hl)]
      first
      |(exfalso;omega)
      |exact ih (q+1) _ (by omega) (by omega) hF2
  · have hqe:q=ls.length:=by have:=of_decide_eq_false hge;omega
    rw[hqe,List.take_length]at hF
    exact H sn2 hF
theorem MB(Γ:Ctx)(c:Chart)(p s out m:List Int)(vs:List Val)(ev:Str)(sn:List Bool)(hsz:c.vars.length≤2199023255552∧c.states.length≤2199023255552)(hs:s.length≤1000∧∀y∈s,0≤y∧y<(c.states.length:Int))(hl:out.length≤maxLen)(hm:∀k∈out,inB m k=true)(hll:∀k∈out,(fj c s k).length≤maxLen∧(fj c s k).Nodup∧∀y∈fj c s k,0≤y∧y<(c.states.length:Int))(hdis:out.Pairwise fun a b=>∀y∈fj c s b,y ∉ fj c s a):∀(n j:Nat) (sn2:List Bool),out.length - j≤n→j≤out.length→FlagOk sn2 ((out.take j).flatMap (fj c s)) c.states.length →
 zJ6Bv Γ (Eq2 (.x (.b true)) []) zBv2 ({n:=78,fr:=[(9,.p (.lst .int m)),(3,.x (.c (.loc 0 0))),(6,.p (.bool false)),(7,.p (.lst .int s)),(10,.x (.c (.own 1))),(49,.p (.lst .int out)),(50,.i out.length),(51,.i ((j:Int)))],ck:=[zBv1 c,.own 4 .bool sn2]}):=by
 intro n
 induction n with
 |zero=>?_
 |succ n ih=>?_
 all_goals
  intro j sn2 hn hj hF
  refine jg nE Tryz.func6 (.ite (decide ((j:Int)<(out.length:Int))) (.need (inRg j out.length) (.ite (!inB m (ETy.get .int out j)) (.ret (.p (.bool false)) []) (.need (s.length≤100000) (.need (c.vars.length≤2199023255552∧c.states.length≤2199023255552) (.stop zBv3 {n:=78,fr:=[(63,.p (.lst .int (fj c s (ETy.get .int out j)))),(64,.i (↑((fj c s (ETy.get .int out j)).length):Int)),(65,.i 0),(9,.p (.lst .int m)),(3,.x (.c (.loc 0 0))),(6,.p (.bool false)),(7,.p (.lst .int s)),(10,.x (.c (.own 1))),(49,.p (.lst .int out)),(50,.i out.length),(51,.i j)],ck:=[zBv1 c,.own 4 .bool sn2]}))))) (.ret (.p (.bool true)) [])) ?_
  refine⟨fun hlt=>?_,fun hge=>⟨rfl,rfl⟩⟩
  have hj':j<out.length:=by have:=of_decide_eq_true hlt;omega
  have hget:ETy.get .int out j=out[j]:=ETy.get_eq (t:=.int) (List.getElem?_eq_getElem hj')
  have hmem:ETy.get .int out j∈out:=by rw[hget];exact aW hj'
  obtain⟨g1,g2,g3⟩:=hll _ hmem
  have htk:out.take (j+1)=out.take j++[ETy.get .int out j]:=by
   rw[hget,aL hj']
  have hoff:∀y∈fj c s (ETy.get .int out j),y ∉ (out.take j).flatMap (fj c s):=fun y hy h=>by
   obtain⟨a,ha,hya⟩:=a7.1 h
   obtain⟨k,hk1,hk2⟩:=dy.1 ha
   rw[a6]at hk1
   rw[gv]at hk2
   have:=dn.1 hdis k j (by omega) hj' (by omega) y (by rw[←hget];exact hy)
   rw[hk2]at this
   exact this hya
  refine⟨⟨by omega,by omega⟩,fun h=>?_,fun _=>⟨by omega,hsz,?_⟩⟩
  · have h':(!inB m (ETy.get .int out j))=true:=h
    rw[hm _ hmem]at h';cases h'
  · refine MC Γ _ c p s out m _ _ vs ev sn j g1 g3 g2 hoff (fun sn3 hF3=>?_) (fj c s (ETy.get .int out j)).length 0 sn2 (by omega) (by omega) (by rw[List.take_zero,aO];exact hF)
    have hF4:FlagOk sn3 ((out.take (j+1)).flatMap (fj c s)) c.states.length:=by
     rw[htk,List.flatMap_append];simpa using hF3
    rw[aZ (aG hj' hl)]
    first
    |(exfalso;omega)
    |exact ih (j+1) sn3 (by omega) (by omega) hF4
theorem HN (c:Chart) (p:List Int) (vs:List Val) (ev:Str) (h:mO c) (hp:∀b∈p,0≤b∧b≤255) (hv:∀v∈vs,i64 v.a=true):ah Tryz.prog 6 [.e .chart c,.agg [.pd (.lst .byte p),.pd (.lst .val vs)],.s ev] [] (.x (.b true)) []:=by
 have hz:=xj h
 have hb:=C1 h
 have hsz:c.vars.length≤2199023255552∧c.states.length≤2199023255552:=⟨hz.1,by omega⟩
 refine dg nE Tryz.func6 (let x1:=(dK c.states (chM c.states p));let x2:=(c.vars.length≤2199023255552∧c.states.length≤2199023255552);.ite false (.ret (.p (.bool false)) []) (.need (∀(s:ETy.den .stat),s∈c.states→s.entry.length≤4398046511104∧s.leave.length≤4398046511104) (.ite (!bp c==(0:Int)) (.ret (.p (.bool true)) []) (.need (Tre c.states∧∀(b:ETy.den .byte),b∈p→(0:ETy.den .byte)≤b∧b≤(255:ETy.den .byte)) (.need (x1.length≤100000) (.need (x2∧∀(v:Val),v∈vs→i64 v.a=true) (.need (x1.length≤100000) (.need (x2∧∀(v:Val),v∈vs→i64 v.a=true) (.ite (!((↑((gL c x1 vs ev).length):Int)==0)==((↑((j4 c x1 vs ev).length):Int)==0)) (.ret (.p (.bool false)) []) (.stop [.ops [1,1,1,1,1,1,0] 3,.code [1,1,1,1,1,1,1]] {n:=78,fr:=[(8,.p (.lst .int (gL c x1 vs ev))),(9,.p (.lst .int (j4 c x1 vs ev))),(3,.x (.c (.loc 0 0))),(6,.p (.bool false)),(7,.p (.lst .int x1)),(47,.i c.states.length)],ck:=[zBv1 c]})))))))))) fun Γ=>?_
 conv=>zeta
 refine⟨fun h0=>absurd h0 (by decide),fun _=>⟨hb,fun h1=>⟨rfl,rfl⟩,fun h1=>?_⟩⟩
 have h1':(!bp c==0)=false:=h1
 have hck:(bp c==0)=true:=by simpa using h1'
 have hV:=(db c).1 (eq_of_beq hck)
 have tt:=hV.tre
 have hst:=(dP c).1 hV.few
 have hL:=mD tt (mj tt hp)
 have hg:=(kj tt.shp _).2 hL
 have hsm:=km hV hL
 refine⟨⟨tt,hp⟩,by omega,⟨hsz,hv⟩,by omega,⟨hsz,hv⟩,?_⟩
 generalize dK c.states (chM c.states p)=s at hL hg hsm
 have e:gL c s vs ev=cC c.states s c.trans (bM c s vs ev):=by unfold gL;rw[hck,hg];rfl
 have e2:j4 c s vs ev=bM c s vs ev:=by unfold j4;rw[hck,hg];rfl
 rw[e,e2]
 have hlv:∀k∈cC c.states s c.trans (bM c s vs ev),fj c s k=lvM c.states s c.trans k:=fun k hk=>by
  obtain⟨n,rfl,h2,h3⟩:=ko.1 (l6 tt.shp hL hk)
  unfold ma at h3
  rw[af,af]at h3
  unfold fj
  rw[hck,hg,ai,h3.1.2,if_neg]
  ·unfold lvM;rw[ai]
  ·rw[decide_eq_false (by omega),decide_eq_false (by omega)];decide
 have hl:(cC c.states s c.trans (bM c s vs ev)).length≤c.trans.length:=qR _ _
 have hgl:∀k,(lvM c.states s c.trans k).Sublist s:=fun k=>by
  unfold lvM iU
  split
  ·exact List.nil_sublist _
  ·exact List.filter_sublist
 have hinc:(cC c.states s c.trans (bM c s vs ev)).Pairwise (· < ·):=kN _ _
 refine⟨fun hx=>?_,fun _=>?_⟩
 · exfalso
   have hx':(!((((cC c.states s c.trans (bM c s vs ev)).length:Int)==0)==(((bM c s vs ev).length:Int)==0)))=true:=hx
   cases hmy:bM c s vs ev with
   | nil =>
     have:cC c.states s c.trans (bM c s vs ev)=[]:=by
      cases ht:cC c.states s c.trans (bM c s vs ev)with
      |nil=>rfl
      | cons k r =>
        have h2:k∈bM c s vs ev:=l6 tt.shp hL (show k∈cC c.states s c.trans (bM c s vs ev)by rw[ht];exact az)
        rw[hmy]at h2;cases h2
     rw[this,hmy]at hx';exact absurd hx' (by decide)
   | cons k r =>
     have:cC c.states s c.trans (bM c s vs ev)≠[]:=Ht tt hL (show bM c s vs ev≠[]by rw[hmy];exact List.cons_ne_nil _ _)
     have h3:=List.length_pos_iff.2 this
     have e3:(((cC c.states s c.trans (bM c s vs ev)).length:Int)==0)=false:=by
      have:¬((cC c.states s c.trans (bM c s vs ev)).length:Int)=0:=by omega
      simpa using this
     have e4:(((bM c s vs ev).length:Int)==0)=false:=by
      have:¬((bM c s vs ev).length:Int)=0:=by rw[hmy,ax];omega
      simpa using this
     rw[e3,e4]at hx';cases hx'
 · refine J.make (d:=48) (e:=4) (by1:=1) .bool false c.states.length (by kernel_rfl) rfl rfl (fun H=>.cons (.bool false) .nil) rfl rfl ⟨by omega,by unfold maxLen;omega⟩ ?_
   have rest:∀(out m:List Int) (a:List Bool),a=List.replicate c.states.length false→zJ6Bv Γ (Eq2 (.x (.b true)) []) zBv2 ({n:=78,fr:=[(9,.p (.lst .int m)),(3,.x (.c (.loc 0 0))),(6,.p (.bool false)),(7,.p (.lst .int s)),(10,.x (.c (.own 1))),(49,.p (.lst .int out)),(50,.i out.length),(51,.i (0))],ck:=[zBv1 c,.own 4 .bool a]})→zJ6Bv Γ (Eq2 (.x (.b true)) []) [.ops [1,1,1,1,1,1,0] 4,.code [1,1,1,1,1,1,1]] ({n:=78,fr:=[(8,.p (.lst .int out)),(9,.p (.lst .int m)),(3,.x (.c (.loc 0 0))),(6,.p (.bool false)),(7,.p (.lst .int s)),(47,.i c.states.length),(48,.x (.c (.own 1)))],ck:=[zBv1 c,.own 4 .bool a]}):=fun out m sn _ hh=>by
    refine jg nE Tryz.func6 (.stop zBv2 {n:=78,fr:=[(9,.p (.lst .int m)),(3,.x (.c (.loc 0 0))),(6,.p (.bool false)),(7,.p (.lst .int s)),(10,.x (.c (.own 1))),(49,.p (.lst .int out)),(50,.i out.length),(51,.i 0)],ck:=[zBv1 c,.own 4 .bool sn]}) ?_
    exact hh
   refine rest _ _ _ rfl ?_
   refine MB Γ c p s _ _ vs ev [] hsz hsm (show(cC c.states s c.trans (bM c s vs ev)).length≤maxLen by unfold maxLen;omega) (fun k hk=>(cu _ _).2 (l6 tt.shp hL hk)) (fun k hk=>?_) ?_ (cC c.states s c.trans (bM c s vs ev)).length 0 _ (Nat.sub_le _ _) (aS _) (by rw[List.take_zero];exact xU _)
   · rw[hlv k hk]
     refine⟨?_,?_,fun y hy=>hsm.2 y ((hgl k).subset hy)⟩
     · have:=(hgl k).length_le
       unfold maxLen;omega
     ·exact(hgl k).nodup (hL.inc.imp fun h e=>by omega)
   · refine hinc.imp_of_mem fun{a b} ha hb hab y hy hya=>?_
     rw[hlv a ha]at hya
     rw[hlv b hb]at hy
     exact DZ tt.shp hL ha hb (by omega) y hya hy
end Go.Proofs.YtlhgnjmdopjpeaaGreatDoor

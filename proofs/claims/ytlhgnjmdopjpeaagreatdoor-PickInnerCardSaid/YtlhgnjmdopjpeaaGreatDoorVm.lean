/- Contracts: conf: Names; the document's Leaves, Names. Conditions: sizes. Contracts: slices.Contains on ints; conf: over. Conditions: a valid chart, a legal list. An executor for function bodies of the model over data, part VM: maps from whole numbers to true: iterators, entries taken out. Conditions: births that differ. -/
import Derived.Test.YtlhgnjmdopjpeaaGreatDoorSq
import Derived.Test.YtlhgnjmdopjpeaaGreatDoorCc
import Derived.Test.YtlhgnjmdopjpeaaGreatDoorKb
import Derived.Test.YtlhgnjmdopjpeaaGreatDoorMh
import Derived.Test.YtlhgnjmdopjpeaaGreatDoorVk
import Derived.Maps.RangeRun
namespace Go.Proofs.YtlhgnjmdopjpeaaGreatDoor
open Go Go.Ev
set_option maxRecDepth 100000
def mP:Cfg:=⟨aU,[kX]⟩
theorem kb:ag Tryz.prog mP.tab:=(ag.cons ml ag.nil)
abbrev zAv1(a:Chart):Chunk:=.cells [.pd (.str a.name),.pd (.lst .str a.events),.pd (.lst .var a.vars),.pd (.lst .stat a.states),.pd (.lst .tran a.trans)] 27
abbrev zAv2:List PI:=[.code [1,1,1,0,1,0,0],.inLoop [1,1,1,0,1,0,0],.inBlock 0,.code [1,1,1,1]]
variable(c:Chart)(l:List Ev.Stat)(a s:List Int)(b:Chart)(k:Nat)
theorem K9(hl:s.length≤1000)(hs:∀y∈s,0≤y∧y<(c.states.length:Int))(Γ:Ctx):∀(n k:Nat),s.length - k≤n→k≤s.length →
 J Tryz.prog 67 (ar Tryz.f67) Γ (Eq2 (.x (.c (.own 0))) [.own 3 .int (aR c.states s)]) zAv2 ({n:=37,fr:=[(2,.x (.c (.loc 0 0))),(4,.p (.v (Value.slice none 0 0))),(5,.x (.c (.own 1))),(13,.p (.lst .int s)),(14,.i s.length),(15,.i ((k:Int)))],ck:=[zAv1 c,.own 3 .int (aR c.states (s.take k))]}):=by
 have hm:s.length≤maxLen:=by unfold maxLen;omega
 intro n
 induction n with
 |zero=>?_
 |succ n ih=>?_
 all_goals
  intro k hn hk
  have hol:(aR c.states (s.take k)).length≤k:=aC (aY _ _) (by rw[a6];omega)
  have htk:∀hk':k<s.length,aR c.states (s.take (k+1))=aR c.states (s.take k)++(if gJ c.states (ETy.get .int s k)=true then[ETy.get .int s k]else[]):=fun hk'=>by
   unfold aR
   rw[ETy.get_eq (t:=.int) (List.getElem?_eq_getElem hk'),aL hk',cc]
   cases h:gJ c.states s[k] <;> simp[h]
  generalize hout:aR c.states (s.take k)=out at hol htk
  refine jg kb Tryz.func67 (let x1:List (Nat×SV):=[(2,.x (.c (.loc 0 0))),(4,.p (.v (Value.slice none 0 0))),(5,.x (.c (.own 1))),(13,.p (.lst .int s)),(14,.i s.length),(15,.i (IntKind.wrap .i64 ((k:Int)+1)))];let x2:List PI:=zAv2;let x3:=(ETy.get .stat c.states ((ETy.get .int s k).toNat));.ite (decide ((k:Int)<(s.length:Int))) (.need (inRg k s.length) (.need ((0:Int)≤ETy.get .int s k∧ETy.get .int s k<(c.states.length:Int)) (.ite (Stat.kind x3==(1:Int)||Stat.kind x3==(4:Int)) (.need (room ((out++[ETy.get .int s k]).length) 8) (.stop x2 {n:=37,fr:=x1,ck:=[zAv1 c,.own 3 .int (out++[ETy.get .int s k])]})) (.stop x2 {n:=37,fr:=x1,ck:=[zAv1 c,.own 3 .int out]})))) (.ret (.x (.c (.own 0))) [.own 3 .int out])) ?_
  conv=>zeta
  refine⟨fun hlt=>?_,fun hge=>?_⟩
  · have hk':k<s.length:=by have:=of_decide_eq_true hlt;omega
    have ht:=htk hk'
    have hy:=hs (ETy.get .int s k) (by rw[ETy.get_eq (t:=.int) (List.getElem?_eq_getElem hk')];exact aW hk')
    refine⟨⟨by omega,by omega⟩,hy,fun hb=>?_,fun hb=>?_⟩
    · rw[if_pos (by exact hb)]at ht
      refine⟨⟨by rw[au];show(_+1) * 8≤_;omega,by rw[au];show _+1≤_;unfold maxLen;omega⟩,?_⟩
      rw[aZ (aG hk' hm),←ht]
      first
      |(exfalso;omega)
      |exact ih (k+1) (by omega) (by omega)
    · have hb':gJ c.states (ETy.get .int s k)=false:=hb
      rw[if_neg (by rw[hb'];decide),aO]at ht
      rw[aZ (aG hk' hm),←ht]
      first
      |(exfalso;omega)
      |exact ih (k+1) (by omega) (by omega)
  · have hke:k=s.length:=by have:=of_decide_eq_false hge;omega
    subst hke
    rw[a8 (av _)]at hout
    rw[←hout];exact⟨rfl,rfl⟩
abbrev zAv3:ST:={n:=37,fr:=[(2,.x (.c (.loc 0 0))),(4,.p (.v (Value.slice none 0 0))),(5,.p (.v (Value.slice none 0 0))),(13,.p (.lst .int a)),(14,.i a.length),(15,.i 0)],ck:=[zAv1 b]}
theorem AU(h:Valid c∧bw c.states s=true):ah Tryz.prog 67 [.e .chart c,.l .int s] [] (.x (.c (.own 0))) [.own 3 .int (aR c.states s)]:=by
 have hl:=(dP c).1 h.1.few
 have hi:=JL h.2
 refine dg kb Tryz.func67 (.need (c.vars.length≤2199023255552∧c.states.length≤2199023255552) (.ite (!(bp c==(0:Int)&&bw c.states s)) (.ret (.p (.v (Value.slice none 0 0))) []) (.stop zAv2 (zAv3 s c)))) fun Γ=>?_
 have hc:bp c=0:=(db c).2 h.1
 refine⟨⟨by omega,by omega⟩,fun hb=>?_,fun _=>?_⟩
 · exfalso
   have hb':(!(bp c==0&&bw c.states s))=true:=hb
   rw[hc,h.2]at hb';cases hb'
 · refine J.nilOwn 5 3 .int rfl (by kernel_rfl) ?_
   exact K9 c s (by omega) hi.1 Γ s.length 0 (by omega) (by omega)
def A4:Cfg:=⟨aU,[]⟩
theorem xz:ag Tryz.prog A4.tab:=ag.nil
def fq:List Str:=s.map fun y=>(ETy.get .stat l y.toNat).name
theorem Dq(hk:k<s.length):fq l (s.take (k+1))=fq l (s.take k)++[(ETy.get .stat l (ETy.get .int s k).toNat).name]:=by
 unfold fq
 rw[ETy.get_eq (t:=.int) (List.getElem?_eq_getElem hk),aL hk,bC];rfl
theorem B9(hk:k<s.length):aR l (s.take (k+1))=aR l (s.take k)++(if gJ l (ETy.get .int s k)=true then[ETy.get .int s k]else[]):=by
 unfold aR
 rw[ETy.get_eq (t:=.int) (List.getElem?_eq_getElem hk),aL hk,cc]
 cases h:gJ l s[k] <;> simp[h]
theorem La(hl:s.length≤1000)(hs:∀y∈s,0≤y∧y<(c.states.length:Int))(Γ:Ctx):∀(n k:Nat),s.length - k≤n→k≤s.length →
 J Tryz.prog 62 (ar Tryz.f62) Γ (Eq2 (.x (.c (.own 0))) [.own 9 .str (fq c.states s)]) zAv2 ({n:=29,fr:=[(2,.x (.c (.loc 0 0))),(4,.p (.v (Value.slice none 0 0))),(5,.x (.c (.own 1))),(12,.p (.lst .int s)),(13,.i s.length),(14,.i ((k:Int)))],ck:=[zAv1 c,.own 9 .str (fq c.states (s.take k))]}):=by
 have hm:s.length≤maxLen:=by unfold maxLen;omega
 intro n
 induction n with
 |zero=>?_
 |succ n ih=>?_
 all_goals
  intro k hn hk
  have hol:(fq c.states (s.take k)).length≤k:=by unfold fq;rw[aP,a6];omega
  have htk:=Dq c.states s k
  generalize hout:fq c.states (s.take k)=out at hol htk
  refine jg kb Tryz.func62 (.ite (decide ((k:Int)<(s.length:Int))) (.need (inRg k s.length) (.need ((0:Int)≤ETy.get .int s k∧ETy.get .int s k<(c.states.length:Int)) (.need (room ((out++[Stat.name (ETy.get .stat c.states ((ETy.get .int s k).toNat))]).length) 16) (.stop zAv2 {n:=29,fr:=[(2,.x (.c (.loc 0 0))),(4,.p (.v (Value.slice none 0 0))),(5,.x (.c (.own 1))),(12,.p (.lst .int s)),(13,.i s.length),(14,.i (IntKind.wrap .i64 ((k:Int)+1)))],ck:=[zAv1 c,.own 9 .str (out++[Stat.name (ETy.get .stat c.states ((ETy.get .int s k).toNat))])]})))) (.ret (.x (.c (.own 0))) [.own 9 .str out])) ?_
  refine⟨fun hlt=>?_,fun hge=>?_⟩
  · have hk':k<s.length:=by have:=of_decide_eq_true hlt;omega
    have ht:=htk hk'
    have hy:=hs (ETy.get .int s k) (by rw[ETy.get_eq (t:=.int) (List.getElem?_eq_getElem hk')];exact aW hk')
    refine⟨⟨by omega,by omega⟩,hy,⟨by rw[au];show(_+1) * 16≤_;omega,by rw[au];show _+1≤_;unfold maxLen;omega⟩,?_⟩
    rw[aZ (aG hk' hm),←ht]
    first
    |(exfalso;omega)
    |exact ih (k+1) (by omega) (by omega)
  · have hke:k=s.length:=by have:=of_decide_eq_false hge;omega
    subst hke
    rw[a8 (av _)]at hout
    rw[←hout];exact⟨rfl,rfl⟩
abbrev zAv5:List PI:=[.code [1,1,0,1,0,0],.inLoop [1,1,0,1,0,0],.inBlock 0,.code [1,1,1]]
theorem Nh(hl:s.length≤1000)(hs:∀y∈s,0≤y∧y<(c.states.length:Int))(Γ:Ctx):∀(n k:Nat),s.length - k≤n→k≤s.length →
 J Tryz.prog 21 (ar Tryz.f21) Γ (Eq2 (.x (.c (.own 0))) [.own 3 .int (aR c.states s)]) zAv5 ({n:=43,fr:=[(1,.p (.lst .int s)),(2,.x (.c (.loc 0 0))),(4,.p (.v (Value.slice none 0 0))),(5,.x (.c (.own 1))),(6,.i ((k:Int)))],ck:=[zAv1 c,.own 3 .int (aR c.states (s.take k))]}):=by
 have hm:s.length≤maxLen:=by unfold maxLen;omega
 intro n
 induction n with
 |zero=>?_
 |succ n ih=>?_
 all_goals
  intro k hn hk
  have hol:(aR c.states (s.take k)).length≤k:=aC (aY _ _) (by rw[a6];omega)
  have htk:=B9 c.states s k
  generalize hout:aR c.states (s.take k)=out at hol htk
  refine jg xz Tryz.func21 (let x1:=(ETy.get .stat c.states ((ETy.get .int s k).toNat));let x2:List (Nat×SV):=[(1,.p (.lst .int s)),(2,.x (.c (.loc 0 0))),(4,.p (.v (Value.slice none 0 0))),(5,.x (.c (.own 1))),(6,.i (IntKind.wrap .i64 ((k:Int)+1)))];let x3:List PI:=zAv5;let x4:=(((10,23,false,gk false (Stat.kind x1==(1:Int)) none).2).2);.ite (decide ((k:Int)<(s.length:Int))) (.need (inRg k s.length) (.need ((0:Int)≤ETy.get .int s k∧ETy.get .int s k<(c.states.length:Int)) (.need (x4.2→(0:Int)≤(k:Int)∧(k:Int)<(s.length:Int)) (.need (x4.2→(0:Int)≤ETy.get .int s k∧ETy.get .int s k<(c.states.length:Int)) (.ite (Stat.kind x1==(1:Int)||Stat.kind x1==(4:Int)) (.need (inRg k s.length) (.need (room ((out++[ETy.get .int s k]).length) 8) (.stop x3 {n:=43,fr:=x2,ck:=[zAv1 c,.own 3 .int (out++[ETy.get .int s k])]}))) (.stop x3 {n:=43,fr:=x2,ck:=[zAv1 c,.own 3 .int out]})))))) (.ret (.x (.c (.own 0))) [.own 3 .int out])) ?_
  conv=>zeta
  refine⟨fun hlt=>?_,fun hge=>?_⟩
  · have hk':k<s.length:=by have:=of_decide_eq_true hlt;omega
    have ht:=htk hk'
    have hy:=hs (ETy.get .int s k) (by rw[ETy.get_eq (t:=.int) (List.getElem?_eq_getElem hk')];exact aW hk')
    refine⟨⟨by omega,by omega⟩,hy,fun _=>⟨by omega,by omega⟩,fun _=>hy,fun hb=>?_,fun hb=>?_⟩
    · rw[if_pos (by exact hb)]at ht
      refine⟨⟨by omega,by omega⟩,⟨by rw[au];show(_+1) * 8≤_;omega,by rw[au];show _+1≤_;unfold maxLen;omega⟩,?_⟩
      rw[aZ (aG hk' hm),←ht]
      first
      |(exfalso;omega)
      |exact ih (k+1) (by omega) (by omega)
    · have hb':gJ c.states (ETy.get .int s k)=false:=hb
      rw[if_neg (by rw[hb'];decide),aO]at ht
      rw[aZ (aG hk' hm),←ht]
      first
      |(exfalso;omega)
      |exact ih (k+1) (by omega) (by omega)
  · have hke:k=s.length:=by have:=of_decide_eq_false hge;omega
    subst hke
    rw[a8 (av _)]at hout
    rw[←hout];exact⟨rfl,rfl⟩
abbrev zAv4:ST:={n:=29,fr:=[(2,.x (.c (.loc 0 0))),(4,.p (.v (Value.slice none 0 0))),(5,.p (.v (Value.slice none 0 0))),(12,.p (.lst .int a)),(13,.i a.length),(14,.i 0)],ck:=[zAv1 b]}
theorem C6(h:Valid c∧bw c.states s=true):ah Tryz.prog 62 [.e .chart c,.l .int s] [] (.x (.c (.own 0))) [.own 9 .str (fq c.states s)]:=by
 have hl:=(dP c).1 h.1.few
 have hi:=JL h.2
 refine dg kb Tryz.func62 (.need (c.vars.length≤2199023255552∧c.states.length≤2199023255552) (.ite (!(bp c==(0:Int)&&bw c.states s)) (.ret (.p (.v (Value.slice none 0 0))) []) (.stop zAv2 (zAv4 s c)))) fun Γ=>?_
 have hc:bp c=0:=(db c).2 h.1
 refine⟨⟨by omega,by omega⟩,fun hb=>?_,fun _=>?_⟩
 · exfalso
   have hb':(!(bp c==0&&bw c.states s))=true:=hb
   rw[hc,h.2]at hb';cases hb'
 · refine J.nilOwn 5 9 .str rfl (by kernel_rfl) ?_
   exact La c s (by omega) hi.1 Γ s.length 0 (by omega) (by omega)
theorem E8(h:(c.vars.length≤2199023255552∧c.states.length≤2199023255552)∧¬(Valid c∧bw c.states s=true)):ah Tryz.prog 62 [.e .chart c,.l .int s] [] (.x (.c (.pd (.v (.slice none 0 0))))) []:=by
 refine dg kb Tryz.func62 (.need (c.vars.length≤2199023255552∧c.states.length≤2199023255552) (.ite (!(bp c==(0:Int)&&bw c.states s)) (.ret (.p (.v (Value.slice none 0 0))) []) (.stop zAv2 (zAv4 s c)))) fun Γ=>?_
 refine⟨h.1,fun _=>⟨rfl,rfl⟩,fun hb=>absurd ?_ h.2⟩
 have hb':(!(bp c==0&&bw c.states s))=false:=hb
 rw[dM,af]at hb'
 exact⟨(db c).1 (eq_of_beq hb'.1),hb'.2⟩
theorem C4(h:(c.vars.length≤2199023255552∧c.states.length≤2199023255552)∧¬(Valid c∧bw c.states s=true)):ah Tryz.prog 67 [.e .chart c,.l .int s] [] (.x (.c (.pd (.v (.slice none 0 0))))) []:=by
 refine dg kb Tryz.func67 (.need (c.vars.length≤2199023255552∧c.states.length≤2199023255552) (.ite (!(bp c==(0:Int)&&bw c.states s)) (.ret (.p (.v (Value.slice none 0 0))) []) (.stop zAv2 (zAv3 s c)))) fun Γ=>?_
 refine⟨h.1,fun _=>⟨rfl,rfl⟩,fun hb=>absurd ?_ h.2⟩
 have hb':(!(bp c==0&&bw c.states s))=false:=hb
 rw[dM,af]at hb'
 exact⟨(db c).1 (eq_of_beq hb'.1),hb'.2⟩
theorem Cu(h:s.length≤1000∧∀y∈s,0≤y∧y<(c.states.length:Int)):ah Tryz.prog 21 [.e .chart c,.l .int s] [] (.x (.c (.own 0))) [.own 3 .int (aR c.states s)]:=by
 refine dg xz Tryz.func21 (.stop zAv5 {n:=43,fr:=[(1,.p (.lst .int s)),(2,.x (.c (.loc 0 0))),(4,.p (.v (Value.slice none 0 0))),(5,.p (.v (Value.slice none 0 0))),(6,.i 0)],ck:=[zAv1 c]}) fun Γ=>?_
 refine J.nilOwn 5 3 .int rfl (by kernel_rfl) ?_
 exact Nh c s h.1 h.2 Γ s.length 0 (by omega) (by omega)
def b8:List Int:=if(bp c==0&&bw c.states s)=true then aR c.states s else[]
def di:List Str:=if(bp c==0&&bw c.states s)=true then fq c.states s else[]
theorem yG(h:c.vars.length≤2199023255552∧c.states.length≤2199023255552):ah Tryz.prog 67 [.e .chart c,.l .int s] [] (.x (.c (.pd (.lst .int (b8 c s))))) []:=by
 unfold b8
 by_cases hg:(bp c==0&&bw c.states s)=true
 · rw[if_pos hg]
   rw[af]at hg
   exact ah.chop (ck':=[]) (ah.frz aU [0] (AU c s ⟨(db c).1 (eq_of_beq hg.1),hg.2⟩) rfl rfl)
 · rw[if_neg hg]
   refine ah.ret (C4 c s ⟨h,fun hv=>hg ?_⟩) fun V v hv=>iA hv
   rw[(db c).2 hv.1,hv.2];rfl
def nG:Ent:=(67,fun
 |[.agg [.pd (.str a),.pd (.lst .str b),.pd (.lst .var c),.pd (.lst .stat d),.pd (.lst .tran e)],.c (.pd (.lst .int s))],[]=>some (some (c.length≤2199023255552∧d.length≤2199023255552),.x (.c (.pd (.lst .int (b8 ⟨a,b,c,d,e⟩ s)))),[])
 |_,_=>none)
theorem By:EntOk Tryz.prog nG:=entOk fun vs ck=>by
 unfold nG;dsimp only;split
 ·rename_i a b c d e s;exact entS fun hp=>yG ⟨a,b,c,d,e⟩ s hp
 ·exact entN
theorem AV(h:c.vars.length≤2199023255552∧c.states.length≤2199023255552):ah Tryz.prog 62 [.e .chart c,.l .int s] [] (.x (.c (.pd (.lst .str (di c s))))) []:=by
 unfold di
 by_cases hg:(bp c==0&&bw c.states s)=true
 · rw[if_pos hg]
   rw[af]at hg
   exact ah.chop (ck':=[]) (ah.frz aU [0] (C6 c s ⟨(db c).1 (eq_of_beq hg.1),hg.2⟩) rfl rfl)
 · rw[if_neg hg]
   refine ah.ret (E8 c s ⟨h,fun hv=>hg ?_⟩) fun V v hv=>iA hv
   rw[(db c).2 hv.1,hv.2];rfl
def pn:Ent:=(62,fun
 |[.agg [.pd (.str a),.pd (.lst .str b),.pd (.lst .var c),.pd (.lst .stat d),.pd (.lst .tran e)],.c (.pd (.lst .int s))],[]=>some (some (c.length≤2199023255552∧d.length≤2199023255552),.x (.c (.pd (.lst .str (di ⟨a,b,c,d,e⟩ s)))),[])
 |_,_=>none)
theorem Dh:EntOk Tryz.prog pn:=entOk fun vs ck=>by
 unfold pn;dsimp only;split
 ·rename_i a b c d e s;exact entS fun hp=>AV ⟨a,b,c,d,e⟩ s hp
 ·exact entN
theorem yV(h:s.length≤1000∧∀y∈s,0≤y∧y<(c.states.length:Int)):ah Tryz.prog 21 [.e .chart c,.l .int s] [] (.x (.c (.pd (.lst .int (aR c.states s))))) []:=ah.chop (ck':=[]) (ah.frz aU [0] (Cu c s h) rfl rfl)
def nI:Ent:=(21,fun
 |[.agg [.pd (.str a),.pd (.lst .str b),.pd (.lst .var c),.pd (.lst .stat d),.pd (.lst .tran e)],.c (.pd (.lst .int s))],[]=>some (some (s.length≤1000∧∀y∈s,0≤y∧y<(d.length:Int)),.x (.c (.pd (.lst .int (aR d s)))),[])
 |_,_=>none)
theorem BH:EntOk Tryz.prog nI:=entOk fun vs ck=>by
 unfold nI;dsimp only;split
 ·rename_i a b c d e s;exact entS fun hp=>yV ⟨a,b,c,d,e⟩ s hp
 ·exact entN
theorem Hl(p:List Int)(h:Tre c.states∧∀b∈p,0≤b∧b≤255):ah Tryz.prog 12 [.e .chart c,.l .byte p] [] (.x (.c (.pd (.lst .int (dK c.states (chM c.states p)))))) []:=ah.chop (ck':=[]) (ah.frz aU [0] (Kx c h.1 p h.2) rfl rfl)
def oK:Ent:=(12,fun
 |[.agg [.pd (.str a),.pd (.lst .str b),.pd (.lst .var c),.pd (.lst .stat d),.pd (.lst .tran e)],.c (.pd (.lst .byte p))],[]=>some (some (Tre d∧∀b∈p,0≤b∧b≤255),.x (.c (.pd (.lst .int (dK d (chM d p))))),[])
 |_,_=>none)
theorem qv:EntOk Tryz.prog oK:=entOk fun vs ck=>by
 unfold oK;dsimp only;split
 ·rename_i a b c d e p;exact entS fun hp=>Hl ⟨a,b,c,d,e⟩ p hp
 ·exact entN
abbrev zNy1:List PI:=[.code [1,0,1,0,0],.inLoop [1,0,1,0,0],.inBlock 0,.code [1,1]]
variable(l:List Int)(s:Int)
theorem NT(Γ:Ctx)(hl:l.length≤maxLen):∀(n k:Nat),l.length - k≤n→k≤l.length →
 J Tryz.prog 57 (ar Tryz.f57) Γ (Eq2 (.x (.i (ay (fun x:Int=>s==x) (l.drop k) k))) []) zNy1 ({n:=19,fr:=[(0,.p (.lst .int l)),(1,.i s),(4,.i 0),(7,.i l.length),(8,.i k)],ck:=[]}):=by
 intro n
 induction n with
 |zero=>?_
 |succ n ih=>?_
 all_goals
  intro k hn hk
  refine jg aX Tryz.func57 (.ite (decide ((k:Int)<(l.length:Int))) (.need (inRg k l.length) (.ite (s==ETy.get .int l k) (.ret (.i k) []) (.stop zNy1 {n:=19,fr:=[(0,.p (.lst .int l)),(1,.i s),(4,.i 0),(7,.i l.length),(8,.i (IntKind.wrap .i64 ((k:Int)+1)))],ck:=[]}))) (.ret (.i (-1:Int)) [])) ?_
  refine⟨fun hlt=>?_,fun hge=>⟨?_,rfl⟩⟩
  · have hk':k<l.length:=by have:=of_decide_eq_true hlt;omega
    rw[bx (t:=.int) hk']
    refine⟨by omega,?_⟩
    generalize ETy.get .int l k=v
    refine⟨fun hb=>⟨?_,rfl⟩,fun hb=>?_⟩
    ·simp only[ay,hb,cond_true]
    · simp only[ay,hb,cond_false]
      rw[aZ (aG hk' hl)]
      first
      |(exfalso;omega)
      |exact ih (k+1) (by omega) (by omega)
  ·rw[bS (by have:=of_decide_eq_false hge;omega)];rfl
theorem NU:ah Tryz.prog 57 [.l .int l,.i s] [] (.x (.i (ay (fun x:Int=>s==x) l 0))) []:=by
 refine dg aX Tryz.func57 (.stop zNy1 {n:=19,fr:=[(0,.p (.lst .int l)),(1,.i s),(4,.i 0),(7,.i l.length),(8,.i 0)],ck:=[]}) fun Γ=>?_
 exact J.len 0 rfl fun hl=>NT l s Γ hl l.length 0 (by omega) (by omega)
def Gd:Ent:=(57,fun
 |[.c (.pd (.lst .int l)),.c (.pd (.int .i64 s))],[]=>some (none,.x (.c (.pd (.int .i64 (ay (fun x:Int=>s==x) l 0)))),[])
 |_,_=>none)
theorem PJ:EntOk Tryz.prog Gd:=entOk fun vs ck=>by
 unfold Gd;dsimp only;split
 ·rename_i l s;exact entS fun hp=>NU l s
 ·exact entN
def IE:Cfg:=⟨aU,[Gd]⟩
theorem IF:ag Tryz.prog IE.tab:=(ag.cons PJ ag.nil)
theorem PW:(l.any fun x=>s==x)=inB l s:=by
 unfold inB
 congr 1;funext x
 cases h:x==s
 ·simp only[beq_eq_false_iff_ne,ne_eq]at h ⊢;exact fun e=>h e.symm
 ·rw[eq_of_beq h];simp
theorem NQ:ah Tryz.prog 26 [.l .int l,.i s] [] (.x (.b (inB l s))) []:=by
 rw[←PW]
 refine dg IF Tryz.func26 (.ret (.p (.bool (decide (ay (fun x=>s==x) l (0:Int)≥0)))) []) fun Γ=>⟨?_,rfl⟩
 rw[iO _ _ _ (by omega)]
def tn:Ent:=(26,fun
 |[.c (.pd (.lst .int l)),.c (.pd (.int .i64 s))],[]=>some (none,.x (.c (.pd (.bool (inB l s)))),[])
 |_,_=>none)
theorem rZ:EntOk Tryz.prog tn:=entOk fun vs ck=>by
 unfold tn;dsimp only;split
 ·rename_i l s;exact entS fun hp=>NQ l s
 ·exact entN
end Go.Proofs.YtlhgnjmdopjpeaaGreatDoor
namespace Go.Ev
open Go.RowKit
structure MapOk (es:List (Int×Nat)) (clk:Nat):Prop where
 nodup:(es.map (·.2)).Nodup
 old:∀e∈es,e.2<clk
 keys:(es.map (·.1)).Nodup
theorem MapOk.nil:MapOk [] 0:=⟨List.Pairwise.nil,fun _ h=>(List.not_mem_nil h).elim,List.Pairwise.nil⟩
theorem B4{es:List (Int×Nat)}{n:Int}:ji es n=true↔n∈es.map (·.1):=by
 unfold ji
 rw[bf,aM]
 constructor
 ·rintro⟨e,h1,h2⟩;exact⟨e,h1,(eq_of_beq h2).symm⟩
 ·rintro⟨e,h1,h2⟩;exact⟨e,h1,by simp[h2]⟩
theorem MapOk.add{es:List (Int×Nat)}{clk:Nat}(h:MapOk es clk)(n:Int):MapOk (jD es clk n) (ky es clk n):=by
 unfold jD ky
 cases hb:ji es n
 · simp only[cond_false]
   refine⟨?_,?_,?_⟩
   · rw[bC,eV]
     refine⟨h.nodup,by simp,?_⟩
     intro a ha b hb2 e
     obtain⟨x,hx,rfl⟩:=aM.1 ha
     simp only[aq,cb,aQ]at hb2
     have:=h.old x hx
     omega
   · intro e he
     rcases bK.1 he with he |he
     ·exact Nat.lt_succ_of_lt (h.old e he)
     ·simp only[aQ]at he;subst he;exact Nat.lt_succ_self _
   · rw[bC,eV]
     refine⟨h.keys,by simp,?_⟩
     intro a ha b hb2 e
     simp only[aq,cb,aQ]at hb2
     rw[e,hb2]at ha
     rw[B4.2 ha]at hb;cases hb
 ·exact h
theorem K1(es:List (Int×Nat))(clk:Nat)(n:Int):(jD es clk n).map (·.1)=bif ji es n then es.map (·.1)else es.map (·.1)++[n]:=by
 unfold jD
 cases ji es n <;> simp
def kV(es:List (Int×Nat))(n:Int):List (Int×Nat):=match jF n es 0 with
 |some i=>es.eraseIdx i
 |none=>es
theorem MapOk.del{es:List (Int×Nat)}{clk:Nat}(h:MapOk es clk)(n:Int):MapOk (kV es n) clk:=by
 unfold kV
 split
 · rename_i i _
   have hs:=List.eraseIdx_sublist es i
   exact⟨(hs.map (·.2)).nodup h.nodup,fun e he=>h.old e (hs.subset he),(hs.map (·.1)).nodup h.keys⟩
 ·exact h
theorem Bs:∀{es:List (Int×Nat)} (n:Int) (i:Nat),(es.map (·.1)).Nodup→(match jF n es i with |some j=>es.eraseIdx (j - i) |none=>es:List (Int×Nat)).map (·.1)=(es.map (·.1)).filter fun k=>!(n==k)
 |[],_,_,_=>rfl
 | e :: es,n,i,h=>by
   rw[aq,dv]at h
   rw[jF,aq,List.filter_cons]
   cases hb:n==e.1
   · have ih:=Bs n (i+1) h.2
     simp only[cond_false,cI,if_true]
     cases hp:jF n es (i+1)with
     | none =>
       rw[hp]at ih
       have ih':es.map (·.1)=_:=ih
       show(e::es).map (·.1)=_
       rw[aq,←ih']
     | some j =>
       rw[hp]at ih
       have:=(pI n es (i+1) j hp).1
       have ih':(es.eraseIdx (j - (i+1))).map (·.1)=_:=ih
       show((e::es).eraseIdx (j - i)).map (·.1)=_
       rw[show j - i=(j - (i+1))+1 by omega,List.eraseIdx_cons_succ,aq,ih']
   · simp only[cond_true,eY,List.eraseIdx_cons_zero,cq]
     rw[if_neg (by decide)]
     symm
     rw[eD]
     intro k hk
     have e2:=eq_of_beq hb
     cases hc:n==k
     ·rfl
     · have:=eq_of_beq hc
       rw[←this,e2]at hk
       exact absurd hk h.1
theorem IU{es:List (Int×Nat)}(n:Int)(h:(es.map (·.1)).Nodup):(kV es n).map (·.1)=(es.map (·.1)).filter fun k=>!(n==k):=by
 have:=Bs n 0 h
 rw[←this]
 unfold kV
 cases jF n es 0 <;> rfl
def AE(P:Program)(root:Code)(p:List Nat)(i:Nat)(nx:Bool)(st:ST):Option (Nat×Nat×Nat×List (Int×Nat)×List (Int×Nat)×Nat×Nat) :=
 match(opsOf (sub root p))[i]? with
 | some o=>match o.guard,o.dst,(match o.op with |.next x false=>bif nx then some x else none |.entry x=>bif nx then none else some x |_=>none)with
   | none,some d,some x=>match bt st none x with
     | some (.c (.loc q 0))=>match st.ck[q]? with
       | some (.obj (.it j done clk))=>match st.ck[j]? with
         |some (.obj (.set es clk'))=>bif Nat.blt d st.n then some (d,q,j,es,done,clk,clk')else none
         |_=>none
       |_=>none
     |_=>none
   |_,_,_=>none
 |none=>none
theorem vA{P:Program}{root:Code}{p:List Nat}{i:Nat}{nx:Bool}{st:ST}{d q j clk clk':Nat}{es done:List (Int×Nat)}(h:AE P root p i nx st=some (d,q,j,es,done,clk,clk')) :
 ∃o x,(opsOf (sub root p))[i]?=some o∧o.guard=none∧o.dst=some d∧o.op=(bif nx then .next x false else .entry x)∧bt st none x=some (.c (.loc q 0))∧st.ck[q]?=some (.obj (.it j done clk))∧st.ck[j]?=some (.obj (.set es clk'))∧d<st.n:=by
 unfold AE at h
 split at h
 · rename_i o ho
   split at h
   · rename_i d' x hg hd hop
     split at h
     · rename_i q' hx
       split at h
       · rename_i j' done' clk0 hq
         split at h
         · rename_i es' clk1 hj
           cases hb:Nat.blt d' st.n
           ·rw[hb]at h;cases h
           · rw[hb]at h
             simp only[cond_true,aa,ae]at h
             obtain⟨rfl,rfl,rfl,rfl,rfl,rfl,rfl⟩:=h
             refine⟨o,x,ho,hg,hd,?_,hx,hq,hj,aB hb⟩
             split at hop
             · rename_i y heq
               cases nx with
               |true=>simp only[cond_true,aa]at hop;subst hop;rw[heq];rfl
               |false=>cases hop
             · rename_i y heq
               cases nx with
               |true=>cases hop
               |false=>simp only[cond_false,aa]at hop;subst hop;rw[heq];rfl
             ·cases hop
         ·cases h
       ·cases h
     ·cases h
   ·cases h
 ·cases h
section
variable{P:Program}{f:Go.Sy.Md}{root:Code}{Γ:Ctx}{Q:Out}{st:ST}{k:List PI}
theorem J.next{p:List Nat}{i d q j clk clk':Nat}{es done:List (Int×Nat)}(h:AE P root p i true st=some (d,q,j,es,done,clk,clk'))(hc:clk'=clk)(hm:MapOk es clk)
 (h0:(∀e∈es,e.2∈done.map (·.2))→J P f root Γ Q (.ops p (i+1)::k) {st with fr:=bH d (.tup [.c (.pd (.bool false))]) st.fr})
 (h1:∀e∈es,e.2 ∉ done.map (·.2)→J P f root Γ Q (.ops p (i+1)::k) {st with fr:=bH d (.tup [.c (.pd (.bool true)),.c (.pd (.int .i64 e.1)),.c (.pd (.bool true))]) st.fr,ck:=st.ck.set q (.obj (.it j (e::done) clk))}):J P f root Γ Q (.ops p i::k) st:=by
 obtain⟨o,x,ho,hg,hd,hop,hx,hq,hj,hds⟩:=vA h
 subst hc
 intro hT V a w r
 have hil:i<(opsOf (sub root p)).size:=(Array.getElem?_eq_some_iff.1 ho).1
 have hsz:(opsOf (sub root p)).size - i=((opsOf (sub root p)).size - (i+1))+1:=by omega
 simp only[aq,PI.den]
 rw[hsz,bG]
 have hw:Region.wanted o (yielded (opsOf (sub root p)) a.tmps)=true:=by simp only[Region.wanted,hg]
 have e1:a.eval x = .pointer (some ⟨V.σ q,0,none⟩):=aJ r (g:=none) trivial hx
 obtain⟨g1,g2⟩:=r.wok.own q _ hq
 obtain⟨g3,g4⟩:=r.wok.own j _ hj
 have g1':w.heap[V.σ q]?=some (.mapIter (some (V.σ j)) clk' (done.reverse.map (·.2)).toArray clk'):=g1
 have g3':w.heap[V.σ j]?=some (.map (es.map fg).toArray clk'):=g3
 have hex:∀{v:Value} {w':World},(Instr.next (.pointer (some ⟨V.σ q,0,none⟩)) false o.type).run P w = .ok v w'→(execOp a.eval o).run P w = .ok (.value v) w':=fun{v w'} hr=>by
  obtain⟨dst,op,ty',pos,after,guard⟩:=o
  simp only at hop
  subst hop
  simp only[cond_true,execOp,e1]
  exact bo hr
 have hseen:∀b:Nat,b∈(done.reverse.map (·.2)).toArray↔b∈done.map (·.2):=fun b=>by simp
 rcases run_next_at (P:=P) w o.type (V.σ q) (V.σ j) clk' clk' _ _ clk' g1' g3' (fun y hy=>by
  simp only[aM]at hy
  obtain⟨e,he,rfl⟩:=hy
  exact hm.old e he) (av _)with⟨hl,hrun⟩ |⟨y,hy,w1,hw1,hrun⟩
 · refine Go.Sy.Fin.op_value ho hw (hex hrun) ?_
   rw[hd]
   refine h0 (fun e he=>?_) hT V _ w (r.put d _ (.tuple #[.bool false]) hds fun a' _ hv=>⟨[.bool false],hv,.cons (.bool false) .nil⟩)
   rw[←hseen]
   by_cases hb:e.2∈(done.reverse.map (·.2)).toArray
   ·exact hb
   · exfalso
     have:fg e∈(Go.leftOf (es.map fg).toArray (done.reverse.map (·.2)).toArray):=by
      unfold Go.leftOf
      simp only[List.mem_toArray,Array.mem_filter,aK]
      refine⟨aM.2 ⟨e,he,rfl⟩,?_⟩
      cases hc:(done.reverse.map (·.2)).toArray.contains (fg e).born
      ·rfl
      ·exact absurd (Array.contains_iff_mem.1 hc) hb
     rw[Array.eq_empty_of_size_eq_zero hl]at this
     simp at this
 · have hy2:y∈Go.leftOf (es.map fg).toArray (done.reverse.map (·.2)).toArray:=by simpa using hy
   unfold Go.leftOf at hy2
   simp only[List.mem_toArray,Array.mem_filter,aK]at hy2
   obtain⟨hy3,hy4⟩:=hy2
   obtain⟨e,he,rfl⟩:=aM.1 hy3
   have hne:e.2 ∉ done.map (·.2):=by
    intro hin
    rw[←hseen]at hin
    have hy5:(done.reverse.map (·.2)).toArray.contains e.2=false:=hy4
    rw[Array.contains_iff_mem.2 hin]at hy5;cases hy5
   have hwh:w1.heap=w.heap∧w1.os=w.os∧w1.tape=w.tape∧w1.output=w.output:=by rcases hw1 with rfl |rfl <;> exact⟨rfl,rfl,rfl,rfl⟩
   have hlt:V.σ q<w.heap.size:=(Array.getElem?_eq_some_iff.1 g1).1
   refine Go.Sy.Fin.op_value ho hw (hex hrun) ?_
   rw[hd]
   have hwk:WOk Γ (st.ck.set q (.obj (.it j (e::done) clk'))) V (Go.ChangeMaps.setBlock w1 (V.σ q) (.mapIter (some (V.σ j)) clk' ((done.reverse.map (·.2)).toArray.push (fg e).born) clk')):=by
    refine r.wok.rewrite hq _ ⟨hwh.2.1,hwh.2.2.1,hwh.2.2.2,by simp[Go.ChangeMaps.setBlock,hwh.1]⟩ (fun b hb=>?_) rfl ⟨?_,g2⟩
    · have hb':b≠V.σ q:=fun he2=>hb (by rw[he2];rfl)
      simp only[Go.ChangeMaps.setBlock]
      rw[Array.getElem?_setIfInBounds_ne (Ne.symm hb'),hwh.1]
    · simp only[Go.ChangeMaps.setBlock]
      rw[Array.getElem?_setIfInBounds_self_of_lt (by rw[hwh.1];exact hlt)]
      simp[Ob.mem,fg]
   exact h1 e he hne hT V _ _ ((r.setCk hwk).put d _ _ hds fun a' _ hv=>⟨_,hv,.cons (.bool true) (.cons (.int .i64 e.1) (.cons (.bool true) .nil))⟩)
theorem J.entry{p:List Nat}{i d q j clk clk':Nat}{es done:List (Int×Nat)}{e:Int×Nat}(h:AE P root p i false st=some (d,q,j,es,e::done,clk,clk'))(hc:clk'=clk)(hm:MapOk es clk)(he:e∈es)
 (hk:J P f root Γ Q (.ops p (i+1)::k) {st with fr:=bH d (.tup [.c (.pd (.int .i64 e.1)),.c (.pd (.bool true))]) st.fr}):J P f root Γ Q (.ops p i::k) st:=by
 obtain⟨o,x,ho,hg,hd,hop,hx,hq,hj,hds⟩:=vA h
 subst hc
 intro hT V a w r
 have hil:i<(opsOf (sub root p)).size:=(Array.getElem?_eq_some_iff.1 ho).1
 have hsz:(opsOf (sub root p)).size - i=((opsOf (sub root p)).size - (i+1))+1:=by omega
 simp only[aq,PI.den]
 rw[hsz,bG]
 have hw:Region.wanted o (yielded (opsOf (sub root p)) a.tmps)=true:=by simp only[Region.wanted,hg]
 have e1:a.eval x = .pointer (some ⟨V.σ q,0,none⟩):=aJ r (g:=none) trivial hx
 obtain⟨g1,_⟩:=r.wok.own q _ hq
 obtain⟨g3,_⟩:=r.wok.own j _ hj
 have hrun:=run_entry_at (P:=P) w (V.σ q) (V.σ j) clk' (done.reverse.map (·.2)).toArray (es.map fg).toArray clk' (fg e) (by rw[show w.heap[V.σ q]?=_ from g1];simp[Ob.mem,fg]) g3 (by simp only[aM];exact⟨e,he,rfl⟩) (by
  simp only[List.map_map]
  exact hm.nodup)
 have hex:(execOp a.eval o).run P w = .ok (.value (.tuple #[.int .i64 e.1,.bool true])) w:=by
  obtain⟨dst,op,ty',pos,after,guard⟩:=o
  simp only at hop
  subst hop
  simp only[cond_false,execOp,e1]
  exact bo hrun
 refine Go.Sy.Fin.op_value ho hw hex ?_
 rw[hd]
 exact hk hT V _ w (r.put d _ _ hds fun a' _ hv=>⟨_,hv,.cons (.int .i64 e.1) (.cons (.bool true) .nil)⟩)
end
theorem yd{α β:Type}(f:α→β):∀(l:List α) (j:Nat),(l.map f).eraseIdx j=(l.eraseIdx j).map f
 |[],_=>rfl
 |_::_,0=>rfl
 |a::l,j+1=>by simp only[aq,List.eraseIdx_cons_succ,yd f l j]
theorem w9{P:Program}{w:World}{t t2 ty kt et:TypeId}{kk:IntKind}(ht:P.underlying t=some (.map kt et))(hk:P.underlying kt=some (.int kk)){b clk:Nat}{es:List (Int×Nat)}(hb:w.heap[b]?=some (.map (es.map fg).toArray clk))(n:Int) :
 ∃w',(Builtin.delete_ #[t,t2] ty #[.map (some b),.int .i64 n]).run P w = .ok (.tuple #[]) w'∧w'.os=w.os∧w'.tape=w.tape∧w'.output=w.output∧w'.heap.size=w.heap.size ∧
  w'.heap[b]?=some (.map ((kV es n).map fg).toArray clk)∧∀k,k≠b→w'.heap[k]?=w.heap[k]?:=by
 have hlt:b<w.heap.size:=(Array.getElem?_eq_some_iff.1 hb).1
 have hg:(getObj b).run P w = .ok (.map (es.map fg).toArray clk) w:=by simp[getObj,Sem.run,hb]
 have hset:∀es' clk',(setObj b (.map es' clk')).run P w = .ok () (Go.ChangeMaps.setBlock w b (.map es' clk')):=fun es' clk'=>by simp[setObj,Sem.run,hb,Go.ChangeMaps.setBlock]
 have hres:∀o:Obj,(Go.ChangeMaps.setBlock w b o).heap[b]?=some o∧(Go.ChangeMaps.setBlock w b o).heap.size=w.heap.size∧∀k,k≠b→(Go.ChangeMaps.setBlock w b o).heap[k]?=w.heap[k]?:=fun o =>
  ⟨by simp[Go.ChangeMaps.setBlock,hlt],by simp[Go.ChangeMaps.setBlock],fun k hk=>by simp only[Go.ChangeMaps.setBlock];exact Array.getElem?_setIfInBounds_ne (Ne.symm hk)⟩
 refine⟨Go.ChangeMaps.setBlock w b (.map ((kV es n).map fg).toArray clk),?_,rfl,rfl,rfl,(hres _).2.1,(hres _).1,(hres _).2.2⟩
 have h1:(#[t,t2]:Array TypeId)[0]?=some t:=rfl
 have h2:(#[Value.map (some b),.int .i64 n]:Array Value)[0]?=some (.map (some b)):=rfl
 have h3:(#[Value.map (some b),.int .i64 n]:Array Value)[1]?=some (.int .i64 n):=rfl
 simp only[Builtin.delete_,h1,h2,h3,Sem.run_bind,run_underlying ht,Result.andThen_ok,hg,j6 hk,List.toList_toArray,kQ hk]
 unfold kV
 cases hp:jF n es 0 with
 |none=>simp only[Option.map_none,Sem.run_bind,hset,Result.andThen_ok];rfl
 | some j =>
   have hj:=(pI n es 0 j hp).2
   obtain⟨b1,hj⟩:=hj
   have hjl:j<es.length:=by have:=(List.getElem?_eq_some_iff.1 hj).1;omega
   simp only[bu,Sem.run_bind,hset,Result.andThen_ok]
   have e:(es.map fg).toArray.eraseIdxIfInBounds j=((es.eraseIdx j).map fg).toArray:=by
    rw[List.eraseIdxIfInBounds_toArray,yd]
   rw[e];rfl
def IV (P:Program) (root:Code) (p:List Nat) (i:Nat) (st:ST):Option (Nat×List (Int×Nat)×Nat×Int×Option Nat) :=
 match(opsOf (sub root p))[i]? with
 | some o=>match o.guard,o.op with
   | none, .call {callee:=.builtin .delete,args:=args,argTypes:=ts}=>match args.toList,ts.toList with
     | [x, y],[t,_]=>match bt st none x,bt st none y,P.underlying t with
       | some (.c (.own j)),some (.c (.pd (.int .i64 n))),some (.map kt _)=>match st.ck[j]?,P.underlying kt with
         | some (.obj (.set es clk)),some (.int _)=>match o.dst with
           |none=>some (j,es,clk,n,none)
           |some d=>bif Nat.blt d st.n then some (j,es,clk,n,some d)else none
         |_,_=>none
       |_,_,_=>none
     |_,_=>none
   |_,_=>none
 |none=>none
section
variable{P:Program}{f:Go.Sy.Md}{root:Code}{Γ:Ctx}{Q:Out}{st:ST}{k:List PI}
theorem J.delete{p:List Nat}{i j clk:Nat}{es:List (Int×Nat)}{n:Int}{od:Option Nat}(h:IV P root p i st=some (j,es,clk,n,od))
 (hk:J P f root Γ Q (.ops p (i+1)::k) {st with fr:=(match od with |some d=>kW d st.fr |none=>st.fr),ck:=st.ck.set j (.obj (.set (kV es n) clk))}):J P f root Γ Q (.ops p i::k) st:=by
 unfold IV at h
 split at h
 · rename_i o ho
   split at h
   · rename_i args ts hg hop
     split at h
     · rename_i x y t t2 ha hts
       split at h
       · rename_i j' n' kt et hx hy hu
         split at h
         · rename_i es' clk' kk hj hku
           have hcore:es'=es∧clk'=clk∧n'=n∧j'=j∧od=o.dst∧∀d,o.dst=some d→d<st.n:=by
            split at h
            · rename_i hd
              simp only[aa,ae]at h
              obtain⟨rfl,rfl,rfl,rfl,rfl⟩:=h
              exact⟨rfl,rfl,rfl,rfl,hd.symm,fun d hd2=>by rw[hd]at hd2;cases hd2⟩
            · rename_i d hd
              cases hb:Nat.blt d st.n
              ·rw[hb]at h;cases h
              · rw[hb]at h
                simp only[cond_true,aa,ae]at h
                obtain⟨rfl,rfl,rfl,rfl,rfl⟩:=h
                exact⟨rfl,rfl,rfl,rfl,hd.symm,fun d2 hd2=>by rw[hd]at hd2;cases hd2;exact aB hb⟩
           obtain⟨rfl,rfl,rfl,rfl,hod,hdn⟩:=hcore
           intro hT V a w r
           have hil:i<(opsOf (sub root p)).size:=(Array.getElem?_eq_some_iff.1 ho).1
           have hsz:(opsOf (sub root p)).size - i=((opsOf (sub root p)).size - (i+1))+1:=by omega
           simp only[aq,PI.den]
           rw[hsz,bG]
           have hw:Region.wanted o (yielded (opsOf (sub root p)) a.tmps)=true:=by simp only[Region.wanted,hg]
           have e1:a.eval x=V.ov j':=aJ r (g:=none) trivial hx
           have e2:=aJ r (g:=none) trivial hy
           obtain⟨g1,g2⟩:=r.wok.own j' _ hj
           obtain⟨w',hrun,q1,q2,q3,q4,q5,q6⟩:=w9 (P:=P) (t2:=t2) (ty:=o.type) hu hku g1 n'
           have hwk:=r.setCk (r.wok.rewrite hj (.obj (.set (kV es' n') clk')) ⟨q1,q2,q3,q4⟩ (fun b hb=>q6 b fun e=>hb (by rw[e];rfl)) rfl ⟨q5,g2⟩)
           have hex:(execOp a.eval o).run P w = .ok (.value (.tuple #[])) w':=by
            obtain⟨dst,op,ty',pos,after,guard⟩:=o
            simp only at hop
            subst hop
            have ea:args=#[x,y]:=by rw[←fm (xs:=args),ha]
            have et2:ts=#[t,t2]:=by rw[←fm (xs:=ts),hts]
            subst ea;subst et2
            simp only[execOp,resolve,invoke,builtin,Sem.run_bind,Sem.run_pure,Result.andThen_ok,de,aq,cb,e1,g2]
            generalize a.eval y=u at e2 ⊢
            cases e2
            simp only[hrun,Result.andThen_ok]
           refine Go.Sy.Fin.op_value ho hw hex ?_
           cases hdst:o.dst with
           | none =>
             rw[hdst]at hod
             subst hod
             exact hk hT V _ w' hwk
           | some d =>
             rw[hdst]at hod
             subst hod
             exact hk hT V _ w' (hwk.forget d _ (hdn d hdst))
         ·cases h
       ·cases h
     ·cases h
   ·cases h
 ·cases h
end
end Go.Ev

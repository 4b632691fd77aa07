/- Contracts: the law ConfLeaves. Conditions: sizes. -/
import Derived.Test.YtcopfgbbjdefbaaGreatDoorKs
namespace Go.Proofs.YtcopfgbbjdefbaaGreatDoor
open Go Go.Ev
set_option maxRecDepth 100000
abbrev zJ7Dd:=J Tryz.prog 7 (aw Tryz.f7)
variable (c:Chart) (l:List Ev.Stat) (lv:List Int) (a:Chart) (n:Nat) (s:List Int)
def ji:List Int:=if (bj c==0&&bb c.states s)=true then cf c.states s else []
def kr:List Str:=if (bj c==0&&bb c.states s)=true then dz c.states s else []
theorem uL (h:c.vars.length≤2199023255552∧c.states.length≤2199023255552):ah Tryz.prog 22 [.e .chart c,.l .int s] [] (.x (.c (.pd (.lst .int (ji c s))))) []:=by
 unfold ji
 by_cases hg:(bj c==0&&bb c.states s)=true
 · rw [if_pos hg]
   rw [af] at hg
   exact ah.chop (ck':=[]) (ah.frz aX [0] (nx c s ⟨(c8 c).1 (eq_of_beq hg.1),hg.2⟩) rfl rfl)
 · rw [if_neg hg]
   refine ah.ret (pP c s ⟨h,fun hv=>hg ?_⟩) fun V v hv=>jO hv
   rw [(c8 c).2 hv.1,hv.2]; rfl
def lK:Ent:=(22,fun
 | [.agg [.pd (.str a),.pd (.lst .str b),.pd (.lst .var c),.pd (.lst .stat d),.pd (.lst .tran e)],.c (.pd (.lst .int s))],[]=>some (some (c.length≤2199023255552∧d.length≤2199023255552),.x (.c (.pd (.lst .int (ji ⟨a,b,c,d,e⟩ s)))),[])
 | _,_=>none)
theorem ye:EntOk Tryz.prog lK:=entOk fun vs ck=>by
 unfold lK; dsimp only; split
 · rename_i a b c d e s; exact entS fun hp=>uL ⟨a,b,c,d,e⟩ s hp
 · exact entN
theorem xX (h:c.vars.length≤2199023255552∧c.states.length≤2199023255552):ah Tryz.prog 23 [.e .chart c,.l .int s] [] (.x (.c (.pd (.lst .str (kr c s))))) []:=by
 unfold kr
 by_cases hg:(bj c==0&&bb c.states s)=true
 · rw [if_pos hg]
   rw [af] at hg
   exact ah.chop (ck':=[]) (ah.frz aX [0] (yG c s ⟨(c8 c).1 (eq_of_beq hg.1),hg.2⟩) rfl rfl)
 · rw [if_neg hg]
   refine ah.ret (qU c s ⟨h,fun hv=>hg ?_⟩) fun V v hv=>jO hv
   rw [(c8 c).2 hv.1,hv.2]; rfl
def kA:Ent:=(23,fun
 | [.agg [.pd (.str a),.pd (.lst .str b),.pd (.lst .var c),.pd (.lst .stat d),.pd (.lst .tran e)],.c (.pd (.lst .int s))],[]=>some (some (c.length≤2199023255552∧d.length≤2199023255552),.x (.c (.pd (.lst .str (kr ⟨a,b,c,d,e⟩ s)))),[])
 | _,_=>none)
theorem pG:EntOk Tryz.prog kA:=entOk fun vs ck=>by
 unfold kA; dsimp only; split
 · rename_i a b c d e s; exact entS fun hp=>xX ⟨a,b,c,d,e⟩ s hp
 · exact entN
theorem uP (h:s.length≤1000∧∀ y∈s,0≤y∧y<(c.states.length:Int)):ah Tryz.prog 24 [.e .chart c,.l .int s] [] (.x (.c (.pd (.lst .int (cf c.states s))))) []:=ah.chop (ck':=[]) (ah.frz aX [0] (wy c s h) rfl rfl)
def jQ:Ent:=(24,fun
 | [.agg [.pd (.str a),.pd (.lst .str b),.pd (.lst .var c),.pd (.lst .stat d),.pd (.lst .tran e)],.c (.pd (.lst .int s))],[]=>some (some (s.length≤1000∧∀ y∈s,0≤y∧y<(d.length:Int)),.x (.c (.pd (.lst .int (cf d s)))),[])
 | _,_=>none)
theorem nE:EntOk Tryz.prog jQ:=entOk fun vs ck=>by
 unfold jQ; dsimp only; split
 · rename_i a b c d e s; exact entS fun hp=>uP ⟨a,b,c,d,e⟩ s hp
 · exact entN
theorem xR (h:s.length≤1000∧∀ y∈s,0≤y∧y<(c.states.length:Int)):ah Tryz.prog 26 [.e .chart c,.l .int s] [] (.x (.c (.pd (.lst .str (dz c.states s))))) []:=ah.chop (ck':=[]) (ah.frz aX [0] (y6 c s h) rfl rfl)
def kH:Ent:=(26,fun
 | [.agg [.pd (.str a),.pd (.lst .str b),.pd (.lst .var c),.pd (.lst .stat d),.pd (.lst .tran e)],.c (.pd (.lst .int s))],[]=>some (some (s.length≤1000∧∀ y∈s,0≤y∧y<(d.length:Int)),.x (.c (.pd (.lst .str (dz d s)))),[])
 | _,_=>none)
theorem pN:EntOk Tryz.prog kH:=entOk fun vs ck=>by
 unfold kH; dsimp only; split
 · rename_i a b c d e s; exact entS fun hp=>xR ⟨a,b,c,d,e⟩ s hp
 · exact entN
def xr:Ent:=(22,fun
 | [.agg [.pd (.str a),.pd (.lst .str b),.pd (.lst .var c),.pd (.lst .stat d),.pd (.lst .tran e)],.c (.pd (.lst .int s))],[]=>some (some ((c.length≤2199023255552∧d.length≤2199023255552)∧¬(Valid ⟨a,b,c,d,e⟩∧bb d s=true)),.x (.c (.pd (.v (.slice none 0 0)))),[])
 | _,_=>none)
theorem Az:EntOk Tryz.prog xr:=entOk fun vs ck=>by
 unfold xr; dsimp only; split
 · rename_i a b c d e s; exact entS fun hp=>pP ⟨a,b,c,d,e⟩ s hp
 · exact entN
def yi:Ent:=(23,fun
 | [.agg [.pd (.str a),.pd (.lst .str b),.pd (.lst .var c),.pd (.lst .stat d),.pd (.lst .tran e)],.c (.pd (.lst .int s))],[]=>some (some ((c.length≤2199023255552∧d.length≤2199023255552)∧¬(Valid ⟨a,b,c,d,e⟩∧bb d s=true)),.x (.c (.pd (.v (.slice none 0 0)))),[])
 | _,_=>none)
theorem AT:EntOk Tryz.prog yi:=entOk fun vs ck=>by
 unfold yi; dsimp only; split
 · rename_i a b c d e s; exact entS fun hp=>qU ⟨a,b,c,d,e⟩ s hp
 · exact entN
theorem vK (h:Tre c.states∧bb c.states s=false):ah Tryz.prog 16 [.e .chart c,.l .int s] [] (.x (.b false)) []:=by
 have:=lO c s h.1
 rw [h.2] at this
 exact this
def mG:Ent:=(16,fun
 | [.agg [.pd (.str a),.pd (.lst .str b),.pd (.lst .var c),.pd (.lst .stat d),.pd (.lst .tran e)],.c (.pd (.lst .int s))],[]=>some (some (Tre d∧bb d s=false),.x (.c (.pd (.bool false))),[])
 | _,_=>none)
theorem yV:EntOk Tryz.prog mG:=entOk fun vs ck=>by
 unfold mG; dsimp only; split
 · rename_i a b c d e s; exact entS fun hp=>vK ⟨a,b,c,d,e⟩ s hp
 · exact entN
/-! ### operations that are not wanted -/
def uV:Ent:=(15,fun
 | [.c (.pd (.lst .int l))],[]=>some (some (False),.x (.c (.pd (.v (.slice none 0 0)))),[])
 | _,_=>none)
theorem GZ:EntOk Tryz.prog uV:=entOk fun vs ck=>by
 unfold uV; dsimp only; split
 · rename_i l; exact entS fun hp=>hp.elim
 · exact entN
def Cm:Ent:=(22,fun
 | [.agg [.pd (.str a),.pd (.lst .str b),.pd (.lst .var c),.pd (.lst .stat d),.pd (.lst .tran e)],.c (.pd (.v (.slice none 0 0)))],[]=>some (some (False),.x (.c (.pd (.v (.slice none 0 0)))),[])
 | _,_=>none)
theorem J9:EntOk Tryz.prog Cm:=entOk fun vs ck=>by
 unfold Cm; dsimp only; split
 · rename_i a b c d e; exact entS fun hp=>hp.elim
 · exact entN
def C5:Ent:=(23,fun
 | [.agg [.pd (.str a),.pd (.lst .str b),.pd (.lst .var c),.pd (.lst .stat d),.pd (.lst .tran e)],.c (.pd (.v (.slice none 0 0)))],[]=>some (some (False),.x (.c (.pd (.v (.slice none 0 0)))),[])
 | _,_=>none)
theorem Kg:EntOk Tryz.prog C5:=entOk fun vs ck=>by
 unfold C5; dsimp only; split
 · rename_i a b c d e; exact entS fun hp=>hp.elim
 · exact entN
def wE:Cfg:=⟨aX,[jh,ir,lj,nJ,lK,kA,jQ,kH,kE,oM,my]⟩
theorem uj:ag Tryz.prog wE.tab:=(ag.cons lS (ag.cons kJ (ag.cons kS (ag.cons ui (ag.cons ye (ag.cons pG (ag.cons nE (ag.cons pN (ag.cons kZ (ag.cons ux (ag.cons nd ag.nil)))))))))))
def DG:Cfg:=⟨aX,[qi,lj,xr,yi]⟩
theorem Fx:ag Tryz.prog DG.tab:=(ag.cons mn (ag.cons kS (ag.cons Az (ag.cons AT ag.nil))))
def Ek:Cfg:=⟨aX,[qi,lj,xr,yi,mG]⟩
theorem EE:ag Tryz.prog Ek.tab:=(ag.cons mn (ag.cons kS (ag.cons Az (ag.cons AT (ag.cons yV ag.nil)))))
def FR:Cfg:=⟨[],[uV,Cm,C5,mP]⟩
theorem F9:ag Tryz.prog FR.tab:=(ag.cons GZ (ag.cons J9 (ag.cons Kg (ag.cons yN ag.nil))))
def F5:Cfg:=⟨aX,[qi,CO,lj,kA,jQ,kH,kE,oM]⟩
theorem EU:ag Tryz.prog F5.tab:=(ag.cons mn (ag.cons AR (ag.cons kS (ag.cons pG (ag.cons nE (ag.cons pN (ag.cons kZ (ag.cons ux ag.nil))))))))
def wO:Cfg:=⟨aX,[kE,my]⟩
theorem ue:ag Tryz.prog wO.tab:=(ag.cons kZ (ag.cons nd ag.nil))
def mJ:List Int:=((List.range n).filter fun i:Nat=>lv.any fun k=>k==(i:Int)||dN l (i:Int) k.toNat).map fun i:Nat=>(i:Int)
theorem EN:mJ l lv (n+1)=mJ l lv n++(if (lv.any fun k=>k==(n:Int)||dN l (n:Int) k.toNat)=true then [(n:Int)] else []):=by
 unfold mJ
 rw [List.range_succ,b3,bP,List.filter_cons]
 cases (lv.any fun k=>k==(n:Int)||dN l (n:Int) k.toNat) <;> rfl
theorem Hs:(mJ l lv n).length≤n:=by
 unfold mJ
 rw [aN]
 exact av (bn _ _) (by simp)
abbrev zDd1:Chunk:=.cells [.pd (.str a.name),.pd (.lst .str a.events),.pd (.lst .var a.vars),.pd (.lst .stat a.states),.pd (.lst .tran a.trans)] 27
abbrev zDd3:List PI:=[.code [1,1,1,1,1,1,1,1,0,1,0,0,1,1,0,0,1,1,0,1,0,0],.inLoop [1,1,1,1,1,1,1,1,0,1,0,0,1,1,0,0,1,1,0,1,0,0],.inBlock 2,.code [1,1,1,1,1,1,1,1,0,1,0,0,1,1,0,0,1,1,1],.inBlock 1,.code [1,1,1,1,1,1,1,1,0,1,0,0,1,1,1],.inLoop [1,1,1,1,1,1,1,1,0,1,0,0],.inBlock 0,.code [1,1,1,1,1,1,1,1,1]]
abbrev zDd4:List PI:=[.code [1,1,1,1,1,1,1,1,0,1,0,0],.inLoop [1,1,1,1,1,1,1,1,0,1,0,0],.inBlock 0,.code [1,1,1,1,1,1,1,1,1]]
theorem H7 (out:List Int) (i:Nat) (hlv:∀ y∈lv,0≤y∧y<(c.states.length:Int)) (hm:c.states.length≤1000) (hl:lv.length≤1000) (ho:out.length≤1000) (Γ:Ctx) (Q:Out) (fin:Bool)
 (hcont:zJ7Dd Γ Q zDd4 ({ n:=112,fr:=[(8,.p (.lst .int lv)),(3,.x (.c (.loc 0 0))),(6,.p (.bool false)),(7,.p (.lst .int s)),(9,.x (.c (.own 1))),(79,.i c.states.length),(80,.i ((IntKind.wrap .i64 ((i:Int)+1))))],ck:=[zDd1 c,.own 3 .int (out++(if fin=true then [(i:Int)] else []))] })):∀ (n j:Nat) (b:Bool),lv.length - j≤n→j≤lv.length→(b||(lv.drop j).any fun k=>k==(i:Int)||dN c.states (i:Int) k.toNat)=fin →
 zJ7Dd Γ Q zDd3 ({ n:=112,fr:=[(8,.p (.lst .int lv)),(3,.x (.c (.loc 0 0))),(6,.p (.bool false)),(7,.p (.lst .int s)),(9,.x (.c (.own 1))),(79,.i c.states.length),(80,.i ((i:Int))),(10,.i ((i:Int))),(11,.p (.bool b)),(83,.p (.lst .int lv)),(84,.i lv.length),(85,.i ((j:Int)))],ck:=[zDd1 c,.own 3 .int out] }):=by
 have hml:lv.length≤maxLen:=by unfold maxLen; omega
 intro n
 induction n with
 | zero=>?_
 | succ n ih=>?_
 all_goals
  intro j b hn hj hf
  refine jg ue Tryz.func7 (let x1:List (Nat×SV):=[(8,.p (.lst .int lv)),(3,.x (.c (.loc 0 0))),(6,.p (.bool false)),(7,.p (.lst .int s)),(9,.x (.c (.own 1))),(79,.i c.states.length),(80,.i (IntKind.wrap .i64 ((i:Int)+1)))]; let x2:List Chunk:=[zDd1 c,.own 3 .int out]; let x4:List Nat:=[1,1,1,1,1,1,1,1,0,1,0,0]; let x3:List PI:=[.code x4,.inLoop x4,.inBlock 0,.code [1,1,1,1,1,1,1,1,1]]; let x5:List Nat:=[1,1,1,1,1,1,1,1,0,1,0,0,1,1,0,0,1,1,0,1,0,0]; .ite (decide ((j:Int)<(lv.length:Int))) (.need (inRg j lv.length) (.need ((b||ETy.get .int lv j==(i:Int))=false→(0:Int)≤ETy.get .int lv j∧ETy.get .int lv j<(c.states.length:Int)∧c.states.length≤maxLen) (.stop [.code x5,.inLoop x5,.inBlock 2,.code [1,1,1,1,1,1,1,1,0,1,0,0,1,1,0,0,1,1,1],.inBlock 1,.code [1,1,1,1,1,1,1,1,0,1,0,0,1,1,1],.inLoop x4,.inBlock 0,.code [1,1,1,1,1,1,1,1,1]] { n:=112,fr:=[(8,.p (.lst .int lv)),(3,.x (.c (.loc 0 0))),(6,.p (.bool false)),(7,.p (.lst .int s)),(9,.x (.c (.own 1))),(79,.i c.states.length),(80,.i i),(10,.i i),(11,.p (.bool (b||ETy.get .int lv j==(i:Int)||dN c.states (i:Int) (Int.toNat (ETy.get .int lv j))))),(83,.p (.lst .int lv)),(84,.i lv.length),(85,.i (IntKind.wrap .i64 ((j:Int)+1)))],ck:=x2 }))) (.ite b (.need (room (List.length (out++[(i:Int)])) 8) (.stop x3 { n:=112,fr:=x1,ck:=[zDd1 c,.own 3 .int (out++[(i:Int)])] })) (.stop x3 { n:=112,fr:=x1,ck:=x2 }))) ?_
  conv=>zeta
  refine ⟨fun hlt=>?_,fun hge=>?_⟩
  · have hj':j<lv.length:=by have:=of_decide_eq_true hlt; omega
    have hy:=hlv (ETy.get .int lv j) (by rw [ETy.get_eq (t:=.int) (List.getElem?_eq_getElem hj')]; exact bf hj')
    have ed:lv.drop j=ETy.get .int lv j::lv.drop (j+1):=bI (t:=.int) (l:=lv) hj'
    rw [ed,b7] at hf
    refine ⟨⟨by omega,by omega⟩,fun _=>⟨hy.1,hy.2,by unfold maxLen; omega⟩,?_⟩
    rw [aZ (aC hj' hml)]
    first
    | (exfalso; omega)
    | exact ih (j+1) _ (by omega) (by omega) (by rw [← hf]; simp only [e8])
  · have hje:lv.drop j=[]:=bT (by have:=of_decide_eq_false hge; omega)
    rw [hje,List.any_nil,bD] at hf
    subst hf
    refine ⟨fun hb=>⟨⟨by rw [aq]; show (_+1) * 8≤_; omega,by rw [aq]; show _+1≤_; unfold maxLen; omega⟩,?_⟩,fun hb=>?_⟩
    · rw [hb] at hcont; exact hcont
    · rw [show b=false from hb] at hcont
      have e:out++(if false=true then [(i:Int)] else [])=out:=aO _
      rw [e] at hcont; exact hcont
theorem Hi (hlv:∀ y∈lv,0≤y∧y<(c.states.length:Int)) (hm:c.states.length≤1000) (hl:lv.length≤1000) (Γ:Ctx):∀ (n i:Nat),c.states.length - i≤n→i≤c.states.length →
 zJ7Dd Γ (Eq2 (.x (.b (mJ c.states lv c.states.length==s))) []) zDd4 ({ n:=112,fr:=[(8,.p (.lst .int lv)),(3,.x (.c (.loc 0 0))),(6,.p (.bool false)),(7,.p (.lst .int s)),(9,.x (.c (.own 1))),(79,.i c.states.length),(80,.i ((i:Int)))],ck:=[zDd1 c,.own 3 .int (mJ c.states lv i)] }):=by
 have hml:c.states.length≤maxLen:=by unfold maxLen; omega
 intro n
 induction n with
 | zero=>?_
 | succ n ih=>?_
 all_goals
  intro i hn hi
  have hol:=Hs c.states lv i
  have ht:=EN c.states lv i
  generalize hout:mJ c.states lv i=out at hol ht
  refine jg ue Tryz.func7 (.ite (decide ((i:Int)<(c.states.length:Int))) (.stop zDd3 { n:=112,fr:=[(8,.p (.lst .int lv)),(3,.x (.c (.loc 0 0))),(6,.p (.bool false)),(7,.p (.lst .int s)),(9,.x (.c (.own 1))),(79,.i c.states.length),(80,.i i),(10,.i i),(11,.p (.bool false)),(83,.p (.lst .int lv)),(84,.i lv.length),(85,.i 0)],ck:=[zDd1 c,.own 3 .int out],kn:=[11] }) (.ret (.p (.bool (out==s))) [])) ?_
  refine ⟨fun hlt=>?_,fun hge=>?_⟩
  · have hi':i<c.states.length:=by have:=of_decide_eq_true hlt; omega
    refine J.kn [] (H7 c lv s out i hlv hm hl (by omega) Γ _ _ ?_ lv.length 0 false (by omega) (by omega) rfl)
    rw [a6,cK,← ht,aZ (aC hi' hml)]
    first
    | (exfalso; omega)
    | exact ih (i+1) (by omega) (by omega)
  · have hie:i=c.states.length:=by have:=of_decide_eq_false hge; omega
    subst hie
    rw [← hout]; exact ⟨rfl,rfl⟩
abbrev zDd2 (b:List Int):ST:={ n:=112,fr:=[(3,.x (.c (.loc 0 0))),(6,.p (.bool false)),(53,.x (.agg [.pd (.str a.name),.pd (.lst .str a.events),.pd (.lst .var a.vars),.pd (.lst .stat a.states),.pd (.lst .tran a.trans)])),(54,.p (.lst .byte b))],ck:=[zDd1 a] }
theorem C6 (p:List Int) (h:kp c) (hs:room s.length 8) (hp:∀ b∈p,0≤b∧b≤255):ah Tryz.prog 7 [.e .chart c,.l .int s,.l .byte p] [] (.x (.b true)) []:=by
 have hz:=sO h
 have hb:=xc h
 have hsz:c.vars.length≤2199023255552∧c.states.length≤2199023255552:=⟨hz.1,by omega⟩
 refine dg uj Tryz.func7 (let x1:List Chunk:=[zDd1 c]; .ite false (.ret (.p (.bool false)) []) (.need (∀ (s:ETy.den .stat),s∈c.states→s.entry.length≤4398046511104∧s.leave.length≤4398046511104) (.ite (!bj c==(0:Int)) (.stop [.code [1,1,0,1,0,0],.code [1,1,0,1,0,1],.code [1,1,1]] { n:=112,fr:=[(1,.p (.lst .int s)),(2,.p (.lst .byte p)),(3,.x (.c (.loc 0 0))),(6,.p (.bool false))],ck:=x1,kn:=[6] }) (.stop [.code [1,1,1,0,0],.code [1,1,1,0,1],.code [1,1,1,1]] { n:=112,fr:=[(1,.p (.lst .int s)),(2,.p (.lst .byte p)),(3,.x (.c (.loc 0 0))),(6,.p (.bool false))],ck:=x1,kn:=[6] })))) fun Γ=>?_
 conv=>zeta
 refine ⟨fun h0=>absurd h0 (by decide),fun _=>⟨hb,fun h1=>?_,fun h1=>?_⟩⟩
 · have h1':(!bj c==0)=true:=h1
   have h2:(bj c==0)=false:=by simpa using h1'
   have hn:¬(Valid c∧bb c.states s=true):=fun hv=>by
    rw [(c8 c).2 hv.1] at h2; exact absurd h2 (by decide)
   refine jg Fx Tryz.func7 (let x1:=((c.vars.length≤2199023255552∧c.states.length≤2199023255552)∧¬(Valid c∧bb c.states s=true)); .need (room s.length 8) (.need x1 (.need (room s.length 8) (.need x1 (.ret (.p (.bool true)) []))))) ?_
   conv=>zeta
   exact ⟨hs,⟨hsz,hn⟩,hs,⟨hsz,hn⟩,rfl,rfl⟩
 · have h1':(!bj c==0)=false:=h1
   have h2:(bj c==0)=true:=by simpa using h1'
   have hv:=(c8 c).1 (eq_of_beq h2)
   have t:=hv.tre
   have hL:=jY t (j7 t hp)
   have hg:=(jF t.shp _).2 hL
   have hlen:=xf t hp
   have hin:=(n5 hg).1
   have hst:=(jc c).1 hv.few
   have rest:zJ7Dd Γ (Eq2 (.x (.b true)) []) [.ops [1,1,1,1,0] 2,.code [1,1,1,1,1]] ((zDd2 c p)):=by
    refine jg uj Tryz.func7 (.need (Tre c.states∧∀ (b:ETy.den .byte),b∈p→(0:ETy.den .byte)≤b∧b≤(255:ETy.den .byte)) (.need (room (List.length (dx c.states (chM c.states p))) 8) (.need (c.vars.length≤2199023255552∧c.states.length≤2199023255552) (.stop [.code [1,1,1,1,1,1,0,0],.code [1,1,1,1,1,1,0,1],.code [1,1,1,1,1,1,1]] { n:=112,fr:=[(8,.p (.lst .int (ji c (dx c.states (chM c.states p))))),(3,.x (.c (.loc 0 0))),(6,.p (.bool false)),(7,.p (.lst .int (dx c.states (chM c.states p))))],ck:=[zDd1 c] })))) ?_
    refine ⟨⟨t,hp⟩,⟨by omega,by unfold maxLen; omega⟩,hsz,?_⟩
    have eL:ji c (dx c.states (chM c.states p))=cf c.states (dx c.states (chM c.states p)):=by
     unfold ji; rw [h2,hg]; rfl
    have eN:kr c (dx c.states (chM c.states p))=dz c.states (dx c.states (chM c.states p)):=by
     unfold kr; rw [h2,hg]; rfl
    have hall:=CL t hL
    generalize dx c.states (chM c.states p)=s at hlen hin eL eN hall
    rw [show ji c s=cf c.states s from eL]
    have hqs:∀ y∈cf c.states s,0≤y∧y<(c.states.length:Int):=fun y hy=>hin y (aB.1 hy).1
    have hql:(cf c.states s).length≤1000:=av (bn _ _) (by omega)
    generalize hlv:cf c.states s=lv at hqs hql hall
    refine jg EU Tryz.func7 (.need (s.length≤1000∧∀ (y:ETy.den .int),y∈s→(0:ETy.den .int)≤y∧y<(c.states.length:Int)) (.need ((!lv==cf c.states s)=false) (.need (room s.length 8) (.need (c.vars.length≤2199023255552∧c.states.length≤2199023255552) (.need (s.length≤1000∧∀ (y:ETy.den .int),y∈s→(0:ETy.den .int)≤y∧y<(c.states.length:Int)) (.ite (false || !kr c s==dz c.states s) (.ret (.p (.bool false)) []) (.stop zDd4 { n:=112,fr:=[(8,.p (.lst .int lv)),(3,.x (.c (.loc 0 0))),(6,.p (.bool false)),(7,.p (.lst .int s)),(9,.p (.v (Value.slice none 0 0))),(79,.i c.states.length),(80,.i 0)],ck:=[zDd1 c] }))))))) ?_
    refine ⟨⟨by omega,hin⟩,by rw [hlv]; simp,⟨by omega,by unfold maxLen; omega⟩,hsz,⟨by omega,hin⟩,fun hbad=>?_,fun _=>?_⟩
    · have hb':(false || !kr c s==dz c.states s)=true:=hbad
      rw [eN] at hb'; simp at hb'
    · refine J.nilOwn 9 3 .int rfl (by kernel_rfl) ?_
      have hfin:=Hi c lv s hqs (by omega) hql Γ c.states.length 0 (by omega) (by omega)
      rw [show mJ c.states lv c.states.length=s from hall] at hfin
      rw [show (s==s)=true from by simp] at hfin
      exact hfin
   by_cases hl:bb c.states s=true
   · refine jg F9 Tryz.func7 (let x1:=(Prod.snd (Prod.snd (Prod.snd (11,44,false,cE false (decide ((0:Int)>0)) (some (4,37,true,cE true (!true) none)))))→False); let x2:=(Prod.snd (Prod.snd (Prod.snd (4,37,true,cE true (!true) none)))→False); .need (Tre c.states∧bb c.states s=true) (.need x2 (.need x2 (.need x1 (.need x1 (.ite false (.ret (.p (.bool false)) []) (.stop [.ops [1,1,1,1,0] 2,.code [1,1,1,1,1]] (zDd2 c p)))))))) ?_
     conv=>zeta
     exact ⟨⟨t,hl⟩,fun h=>absurd (show (!true)=true from h) (by decide),fun h=>absurd (show (!true)=true from h) (by decide),fun h=>absurd (show (!true)=true from And.left h) (by decide),fun h=>absurd (show (!true)=true from And.left h) (by decide),fun h=>absurd h (by decide),fun _=>rest⟩
   · refine jg EE Tryz.func7 (let x1:=((c.vars.length≤2199023255552∧c.states.length≤2199023255552)∧¬(Valid c∧bb c.states s=true)); .need (Tre c.states∧bb c.states s=false) (.need (room s.length 8) (.need x1 (.need (room s.length 8) (.need x1 (.ite false (.ret (.p (.bool false)) []) (.stop [.ops [1,1,1,1,0] 2,.code [1,1,1,1,1]] (zDd2 c p)))))))) ?_
     conv=>zeta
     have hn:¬(Valid c∧bb c.states s=true):=fun hv=>hl hv.2
     exact ⟨⟨t,Bool.eq_false_iff.2 hl⟩,hs,⟨hsz,hn⟩,hs,⟨hsz,hn⟩,fun h=>absurd h (by decide),fun _=>rest⟩
end Go.Proofs.YtcopfgbbjdefbaaGreatDoor

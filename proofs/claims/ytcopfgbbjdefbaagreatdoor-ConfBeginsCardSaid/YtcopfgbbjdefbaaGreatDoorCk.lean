/- Contracts: conf: Begin, Start. Conditions: sizes. Contracts: the document's layer 10: what a state begins with. Conditions: sizes. -/
import Derived.Test.YtcopfgbbjdefbaaGreatDoorCh
import Derived.Test.YtcopfgbbjdefbaaGreatDoorCc
import Derived.Test.YtcopfgbbjdefbaaGreatDoorSn
namespace Go.Proofs.YtcopfgbbjdefbaaGreatDoor
open Go Go.Ev
set_option maxRecDepth 100000
def kV:Cfg:=⟨bb,[lg,mF,qp]⟩
theorem ji:af Tryz.prog kV.tab:=(af.cons qj (af.cons sr (af.cons B8 af.nil)))
variable (c a:Chart) (i:Int) {l:List Ev.Stat}
theorem wW (h:Valid c∧0≤i∧i<(c.states.length:Int)∧aQ (ETy.get .stat c.states i.toNat).kind=false):ag Tryz.prog 20 [.e .chart c,.i i] [] (.x (.c (.own 0))) [.own 3 .int (cG c.states i.toNat)]:=by
 obtain ⟨v,h0,h1,h2⟩:=h
 have hl:=(gR c).1 v.few
 refine dg ji Tryz.func20 (let x1:=(c.states.length:Int); let x2:=(Stat.kind (ETy.get .stat c.states (Int.toNat i))); .need ((decide (i<(0:Int))||decide (i≥x1))=false→(0:Int)≤i∧i<x1) (.need ((decide (i<(0:Int))||decide (i≥x1)||aQ x2)=false→c.vars.length≤2199023255552∧c.states.length≤2199023255552) (.ite (decide (i<(0:Int))||decide (i≥x1)||aQ x2 || !bI c==(0:Int)) (.ret (.p (.v (Value.slice none 0 0))) []) (.need (Tre c.states∧(0:Int)≤i∧i<x1) (.ret (.x (.c (.own 0))) [.own 3 .int (cG c.states (Int.toNat i))]))))) fun Γ=>?_
 conv=>zeta
 have hc:bI c=0:=(dH c).2 v
 refine ⟨fun _=>⟨h0,h1⟩,fun _=>⟨by omega,by omega⟩,fun hb=>?_,fun _=>⟨⟨v.tre,h0,h1⟩,rfl,rfl⟩⟩
 exfalso
 have hb':(decide (i<0)||decide (i≥(c.states.length:Int))||aQ (ETy.get .stat c.states i.toNat).kind || !bI c==0)=true:=hb
 rw [hc,h2,decide_eq_false (show ¬i<0 by omega),decide_eq_false (show ¬i≥(c.states.length:Int) by omega)] at hb'
 cases hb'
theorem yc (hz:c.vars.length≤2199023255552∧c.states.length≤2199023255552) (h:¬(Valid c∧0≤i∧i<(c.states.length:Int)∧aQ (ETy.get .stat c.states i.toNat).kind=false)):ag Tryz.prog 20 [.e .chart c,.i i] [] (.x (.c (.pd (.v (.slice none 0 0))))) []:=by
 refine dg ji Tryz.func20 (let x1:=(c.states.length:Int); let x2:=(Stat.kind (ETy.get .stat c.states (Int.toNat i))); .need ((decide (i<(0:Int))||decide (i≥x1))=false→(0:Int)≤i∧i<x1) (.need ((decide (i<(0:Int))||decide (i≥x1)||aQ x2)=false→c.vars.length≤2199023255552∧c.states.length≤2199023255552) (.ite (decide (i<(0:Int))||decide (i≥x1)||aQ x2 || !bI c==(0:Int)) (.ret (.p (.v (Value.slice none 0 0))) []) (.need (Tre c.states∧(0:Int)≤i∧i<x1) (.ret (.x (.c (.own 0))) [.own 3 .int (cG c.states (Int.toNat i))]))))) fun Γ=>?_
 conv=>zeta
 refine ⟨fun hb=>?_,fun _=>hz,fun _=>⟨rfl,rfl⟩,fun hb=>?_⟩
 · rw [an] at hb
   have:=of_decide_eq_false hb.1
   have:=of_decide_eq_false hb.2
   omega
 · exfalso
   have hb':(decide (i<0)||decide (i≥(c.states.length:Int))||aQ (ETy.get .stat c.states i.toNat).kind || !bI c==0)=false:=hb
   rw [an,an,an] at hb'
   have h1:=of_decide_eq_false hb'.1.1.1
   have h2:=of_decide_eq_false hb'.1.1.2
   have h3:bI c=0:=by simpa using hb'.2
   exact h ⟨(dH c).1 h3,by omega,by omega,hb'.1.2⟩
def nO:Ent:=(20,fun
 | [.agg [.pd (.str a),.pd (.lst .str b),.pd (.lst .var c),.pd (.lst .stat d),.pd (.lst .tran e)],.c (.pd (.int .i64 i))],[]=>some (some (Valid ⟨a,b,c,d,e⟩∧0≤i∧i<(d.length:Int)∧aQ (ETy.get .stat d i.toNat).kind=false),.x (.c (.own 0)),[.own 3 .int (cG d i.toNat)])
 | _,_=>none)
theorem yn:EntOk Tryz.prog nO:=entOk fun vs ck=>by
 unfold nO; dsimp only; split
 · rename_i a b c d e i; exact entS fun hp=>wW ⟨a,b,c,d,e⟩ i hp
 · exact entN
def lU:Ent:=(20,fun
 | [.agg [.pd (.str a),.pd (.lst .str b),.pd (.lst .var c),.pd (.lst .stat d),.pd (.lst .tran e)],.c (.pd (.int .i64 i))],[]=>some (some ((c.length≤2199023255552∧d.length≤2199023255552)∧¬(Valid ⟨a,b,c,d,e⟩∧0≤i∧i<(d.length:Int)∧aQ (ETy.get .stat d i.toNat).kind=false)),.x (.c (.pd (.v (.slice none 0 0)))),[])
 | _,_=>none)
theorem wX:EntOk Tryz.prog lU:=entOk fun vs ck=>by
 unfold lU; dsimp only; split
 · rename_i a b c d e i; exact entS fun hp=>yc ⟨a,b,c,d,e⟩ i hp.1 hp.2
 · exact entN
theorem l5 {k:Nat}:((List.range (k+1)).flatMap fun i=>if ((ETy.get .stat l i).depth==0)=true then cG l i else [])=((List.range k).flatMap fun i=>if ((ETy.get .stat l i).depth==0)=true then cG l i else [])++(if ((ETy.get .stat l k).depth==0)=true then cG l k else []):=by
 rw [List.range_succ,dU]; simp
theorem nA {l:List Ev.Stat}:∀ {n k:Nat},k≤n→((List.range k).flatMap fun i=>if ((ETy.get .stat l i).depth==0)=true then cG l i else []).length≤((List.range n).flatMap fun i=>if ((ETy.get .stat l i).depth==0)=true then cG l i else []).length
 | 0,k,h=>by
   have:k=0:=by omega
   subst this; exact aq _
 | n + 1,k,h=>by
   by_cases e:k=n+1
   · subst e; exact aq _
   · have ih:=nA (l:=l) (n:=n) (k:=k) (by omega)
     rw [l5,ar]; omega
theorem mY (t:Tre l):(dq l).length≤40:=by
 have h2:=nK (dq l) 0 40 (mI t) (fun y hy=>by
  obtain ⟨j,rfl,hj,_⟩:=(sw t y).1 hy
  have:=t.shp.few
  omega)
 rw [if_pos (by omega)] at h2
 omega
abbrev zCj1:Chunk:=.cells [.pd (.str a.name),.pd (.lst .str a.events),.pd (.lst .var a.vars),.pd (.lst .stat a.states),.pd (.lst .tran a.trans)] 27
abbrev zCj2:List PI:=[.code [1,1,1,0,1,0,0],.inLoop [1,1,1,0,1,0,0],.inBlock 0,.code [1,1,1,1]]
theorem HN (v:Valid c) (Γ:Ctx):∀ (n k:Nat),c.states.length - k≤n→k≤c.states.length →
 J Tryz.prog 10 (aA Tryz.f10) Γ (Eq2 (.x (.c (.own 0))) [.own 3 .int (dq c.states)]) zCj2 ({ n:=27,fr:=[(1,.x (.c (.loc 0 0))),(2,.p (.v (Value.slice none 0 0))),(3,.x (.c (.own 1))),(10,.p (.lst .stat c.states)),(11,.i c.states.length),(12,.i ((k:Int)))],ck:=[zCj1 c,.own 3 .int ((List.range k).flatMap fun i=>if ((ETy.get .stat c.states i).depth==0)=true then cG c.states i else [])] }):=by
 have hf:=v.tre.shp.few
 have hm:c.states.length≤maxLen:=by unfold maxLen; omega
 have hsl:=mY v.tre
 intro n
 induction n with
 | zero=>?_
 | succ n ih=>?_
 all_goals
  intro k hn hk
  generalize hout:((List.range k).flatMap fun i=>if ((ETy.get .stat c.states i).depth==0)=true then cG c.states i else [])=out
  refine jg ji Tryz.func10 (let x1:List (Nat×SV):=[(1,.x (.c (.loc 0 0))),(2,.p (.v (Value.slice none 0 0))),(3,.x (.c (.own 1))),(10,.p (.lst .stat c.states)),(11,.i c.states.length),(12,.i (IntKind.wrap .i64 ((k:Int)+1)))]; let x2:List PI:=zCj2; .ite (decide ((k:Int)<(c.states.length:Int))) (.need (inRg k c.states.length) (.ite (Stat.depth (ETy.get .stat c.states k)==(0:Int)) (.need (Tre c.states∧(0:Int)≤(k:Int)∧(k:Int)<(c.states.length:Int)) (.need (room ((out++cG c.states k).length) 8) (.stop x2 { n:=27,fr:=x1,ck:=[zCj1 c,.own 3 .int (out++cG c.states k)] }))) (.stop x2 { n:=27,fr:=x1,ck:=[zCj1 c,.own 3 .int out] }))) (.ret (.x (.c (.own 0))) [.own 3 .int out])) ?_
  conv=>zeta
  have hs:=l5 (l:=c.states) (k:=k)
  rw [hout] at hs
  refine ⟨fun hlt=>?_,fun hge=>?_⟩
  · have hk':k<c.states.length:=by have:=of_decide_eq_true hlt; omega
    have hp:=nA (l:=c.states) (n:=c.states.length) (k:=k+1) (by omega)
    have hp':_≤(dq c.states).length:=hp
    refine ⟨⟨by omega,by omega⟩,fun h0=>?_,fun h0=>?_⟩
    · rw [if_pos h0] at hs
      rw [hs] at hp'
      refine ⟨⟨v.tre,by omega,by omega⟩,⟨by omega,by unfold maxLen; omega⟩,?_⟩
      rw [a6 (aE hk' hm),← hs]
      first
      | (exfalso; omega)
      | exact ih (k+1) (by omega) (by omega)
    · rw [if_neg (by rw [h0]; decide),aM] at hs
      rw [a6 (aE hk' hm),← hs]
      first
      | (exfalso; omega)
      | exact ih (k+1) (by omega) (by omega)
  · have hke:k=c.states.length:=by have:=of_decide_eq_false hge; omega
    subst hke
    rw [← hout]; exact ⟨rfl,rfl⟩
abbrev zCj3:ST:={ n:=27,fr:=[(1,.x (.c (.loc 0 0))),(2,.p (.v (Value.slice none 0 0))),(3,.p (.v (Value.slice none 0 0))),(10,.p (.lst .stat a.states)),(11,.i a.states.length),(12,.i 0)],ck:=[zCj1 a] }
theorem oG (v:Valid c):ag Tryz.prog 10 [.e .chart c] [] (.x (.c (.own 0))) [.own 3 .int (dq c.states)]:=by
 have hl:=(gR c).1 v.few
 refine dg ji Tryz.func10 (.need (c.vars.length≤2199023255552∧c.states.length≤2199023255552) (.ite (!bI c==(0:Int)) (.ret (.p (.v (Value.slice none 0 0))) []) (.stop zCj2 (zCj3 c)))) fun Γ=>?_
 have hc:bI c=0:=(dH c).2 v
 refine ⟨⟨by omega,by omega⟩,fun hb=>?_,fun _=>?_⟩
 · exfalso
   have hb':(!bI c==0)=true:=hb
   rw [hc] at hb'; cases hb'
 · refine J.nilOwn 3 3 .int rfl (by kernel_rfl) ?_
   exact HN c v Γ c.states.length 0 (by omega) (by omega)
theorem ym (hz:c.vars.length≤2199023255552∧c.states.length≤2199023255552) (h:¬Valid c):ag Tryz.prog 10 [.e .chart c] [] (.x (.c (.pd (.v (.slice none 0 0))))) []:=by
 refine dg ji Tryz.func10 (.need (c.vars.length≤2199023255552∧c.states.length≤2199023255552) (.ite (!bI c==(0:Int)) (.ret (.p (.v (Value.slice none 0 0))) []) (.stop zCj2 (zCj3 c)))) fun Γ=>?_
 refine ⟨hz,fun _=>⟨rfl,rfl⟩,fun hb=>?_⟩
 exfalso
 have hb':(!bI c==0)=false:=hb
 exact h ((dH c).1 (by simpa using hb'))
def nQ:Ent:=(10,fun
 | [.agg [.pd (.str a),.pd (.lst .str b),.pd (.lst .var c),.pd (.lst .stat d),.pd (.lst .tran e)]],[]=>some (some (Valid ⟨a,b,c,d,e⟩),.x (.c (.own 0)),[.own 3 .int (dq d)])
 | _,_=>none)
theorem AU:EntOk Tryz.prog nQ:=entOk fun vs ck=>by
 unfold nQ; dsimp only; split
 · rename_i a b c d e; exact entS fun hp=>oG ⟨a,b,c,d,e⟩ hp
 · exact entN
def l4:Ent:=(10,fun
 | [.agg [.pd (.str a),.pd (.lst .str b),.pd (.lst .var c),.pd (.lst .stat d),.pd (.lst .tran e)]],[]=>some (some ((c.length≤2199023255552∧d.length≤2199023255552)∧¬Valid ⟨a,b,c,d,e⟩),.x (.c (.pd (.v (.slice none 0 0)))),[])
 | _,_=>none)
theorem wF:EntOk Tryz.prog l4:=entOk fun vs ck=>by
 unfold l4; dsimp only; split
 · rename_i a b c d e; exact entS fun hp=>ym ⟨a,b,c,d,e⟩ hp.1 hp.2
 · exact entN
end Go.Proofs.YtcopfgbbjdefbaaGreatDoor
namespace Go.Proofs.YtcopfgbbjdefbaaGreatDoor
open Go Go.Ev
set_option maxRecDepth 100000
variable (c:Chart) (l:List Ev.Stat) (a:List Int) (i:Int) (b:List Int) (j:Int) (Γ:Ctx)
def rbM:Bool:=gu l i (l.length+1) j
def A1:Prop:=ag Tryz.prog 40 [.e .chart c,.i i,.i j] [] (.x (.b (rbM c.states i j))) []
def xY:Ent:=(40,fun
 | [.agg [.pd (.str a),.pd (.lst .str b),.pd (.lst .var c),.pd (.lst .stat d),.pd (.lst .tran e)],.c (.pd (.int .i64 i)),.c (.pd (.int .i64 j))],[]=>some (some (A1 ⟨a,b,c,d,e⟩ i j),.x (.c (.pd (.bool (rbM d i j)))),[])
 | _,_=>none)
theorem G2:EntOk Tryz.prog xY:=entOk fun vs ck=>by
 unfold xY; dsimp only; split
 · rename_i a b c d e i j; exact entS fun hp=>hp
 · exact entN
def CP:Cfg:=⟨bb,[jC,xY]⟩
theorem Bm:af Tryz.prog CP.tab:=(af.cons iP (af.cons G2 af.nil))
theorem uD (l:List Ev.Stat) (i:Int):∀ (n m j:Nat),j<n→j<m→gu l i n (j:Int)=gu l i m (j:Int)
 | 0,_,_,h,_=>by omega
 | _+1,0,_,_,h=>by omega
 | n + 1,m+1,j,hn,hm=>by
   rw [gu,gu,ai]
   have hp:=ga l j
   by_cases h0:aR l j<0
   · rw [decide_eq_true h0,bx,bx]
   · obtain ⟨p,e⟩:=ay (show 0≤aR l j by omega)
     rw [e,uD l i n m p (by omega) (by omega)]
theorem JR {j:Nat} (hj:j<l.length):rbM l i (j:Int)=if (i==(j:Int))=true then true else if (decide (aR l j<0) || !rbM l i (aR l j))=true then false
 else if ((ETy.get .stat l (aR l j).toNat).kind==3)=true then true else (ETy.get .stat l (aR l j).toNat).kind==2&&(ETy.get .stat l (aR l j).toNat).initial==(ETy.get .stat l j).name:=by
 unfold rbM
 rw [gu,ai]
 have hp:=ga l j
 by_cases h0:aR l j<0
 · rw [decide_eq_true h0,bx,bx]
 · obtain ⟨p,e⟩:=ay (show 0≤aR l j by omega)
   rw [e,uD l i l.length (l.length+1) p (by omega) (by omega)]
theorem IW (hl:c.states.length≤maxLen) (i:Int):∀ (n j:Nat),j<n→j<c.states.length→A1 c i (j:Int):=by
 intro n
 induction n with
 | zero=>intro j h; omega
 | succ n ih =>
   intro j hn hj
   have e:=JR c.states i hj
   have hp:=ga c.states j
   have no:∀ {b:Bool},b=false→¬b=true:=fun h e=>by rw [h] at e; cases e
   show ag Tryz.prog 40 [.e .chart c,.i i,.i (j:Int)] [] (.x (.b (rbM c.states i (j:Int)))) []
   refine dg Bm Tryz.func40 (let x1:=(ETy.get .stat c.states ((aR c.states j).toNat)); let x2:=(c.states.length:Int); let x3:=(((7,38,true,dN true (Stat.kind x1==(2:Int)) none).2).2); let x4:=((0:Int)≤aR c.states j∧aR c.states j<x2); .ite (i==(j:Int)) (.ret (.p (.bool true)) []) (.need ((0:Int)≤(j:Int)∧(j:Int)<x2∧c.states.length≤maxLen) (.need (decide (aR c.states j<(0:Int))=false→A1 c i (aR c.states j)) (.ite (decide (aR c.states j<(0:Int)) || !rbM c.states i (aR c.states j)) (.ret (.p (.bool false)) []) (.need x4 (.ite (Stat.kind x1==(3:Int)) (.ret (.p (.bool true)) []) (.need x4 (.need (x3.2→(0:Int)≤aR c.states j∧aR c.states j<x2) (.need (x3.2→(0:Int)≤(j:Int)∧(j:Int)<x2) (.ret (.p (.bool (Stat.kind x1==(2:Int)&&Stat.initial x1==Stat.name (ETy.get .stat c.states j)))) [])))))))))) fun Γ=>?_
   conv=>zeta
   rw [e]
   have hz:∀ {b:Bool},(decide (aR c.states j<0)||b)=false→0≤aR c.states j∧aR c.states j<(c.states.length:Int):=fun h=>by
    rw [an] at h
    have:=of_decide_eq_false h.1
    omega
   refine ⟨fun h1=>?_,fun h1=>⟨⟨by omega,by omega,hl⟩,fun h2=>?_,fun h2=>?_,fun h2=>⟨hz h2,fun h3=>?_,fun h3=>⟨hz h2,fun _=>hz h2,fun _=>⟨by omega,by omega⟩,?_,rfl⟩⟩⟩⟩
   · rw [if_pos h1]; exact ⟨rfl,rfl⟩
   · have h3:=hz (b:=false) (by rw [bC]; exact h2)
     obtain ⟨p,hpp⟩:=ay h3.1
     rw [hpp]
     exact ih p (by omega) (by omega)
   · rw [if_neg (no h1),if_pos h2]; exact ⟨rfl,rfl⟩
   · rw [if_neg (no h1),if_neg (no h2),if_pos h3]; exact ⟨rfl,rfl⟩
   · rw [if_neg (no h1),if_neg (no h2),if_neg (no h3)]
theorem HD (h:0≤j∧j<(c.states.length:Int)∧c.states.length≤maxLen):A1 c i j:=by
 obtain ⟨q,rfl⟩:=ay h.1
 exact IW c h.2.2 i (q+1) q (by omega) (by omega)
def eRb:Ent:=(40,fun
 | [.agg [.pd (.str a),.pd (.lst .str b),.pd (.lst .var c),.pd (.lst .stat d),.pd (.lst .tran e)],.c (.pd (.int .i64 i)),.c (.pd (.int .i64 j))],[]=>some (some (0≤j∧j<(d.length:Int)∧d.length≤maxLen),.x (.c (.pd (.bool (rbM d i j)))),[])
 | _,_=>none)
theorem IT:EntOk Tryz.prog eRb:=entOk fun vs ck=>by
 unfold eRb; dsimp only; split
 · rename_i a b c d e i j; exact entS fun hp=>HD ⟨a,b,c,d,e⟩ i j hp
 · exact entN
/-! ### Begin, of a place that is no history's -/
def pt:Cfg:=⟨bb,[ie,eRb]⟩
theorem my:af Tryz.prog pt.tab:=(af.cons gX (af.cons IT af.nil))
theorem wE (k:Nat):((List.range (k+1)).filter fun j:Nat=>gu l i (l.length+1) (j:Int)).map (fun j:Nat=>(j:Int))=((List.range k).filter fun j:Nat=>gu l i (l.length+1) (j:Int)).map (fun j:Nat=>(j:Int))++(if rbM l i (k:Int)=true then [(k:Int)] else []):=by
 unfold rbM
 rw [List.range_succ,cE,bT]
 cases h:gu l i (l.length+1) (k:Int) <;> simp [h]
abbrev zCk1 (a:Chart):Chunk:=.cells [.pd (.str a.name),.pd (.lst .str a.events),.pd (.lst .var a.vars),.pd (.lst .stat a.states),.pd (.lst .tran a.trans)] 27
abbrev zCk3:List PI:=[.code [1,1,1,0,1,0,0],.inLoop [1,1,1,0,1,0,0],.inBlock 0,.code [1,1,1,1]]
theorem FP (hl:c.states.length≤1000) (Γ:Ctx):∀ (n k:Nat),c.states.length - k≤n→k≤c.states.length →
 J Tryz.prog 21 (aA Tryz.f21) Γ (Eq2 (.x (.c (.own 0))) [.own 3 .int (gV c.states i)]) zCk3 ({ n:=42,fr:=[(1,.i i),(2,.x (.c (.loc 0 0))),(4,.p (.v (Value.slice none 0 0))),(5,.x (.c (.own 1))),(6,.i ((k:Int)))],ck:=[zCk1 c,.own 3 .int (((List.range k).filter fun j:Nat=>gu c.states i (c.states.length+1) (j:Int)).map (fun j:Nat=>(j:Int)))] }):=by
 have hm:c.states.length≤maxLen:=by unfold maxLen; omega
 intro n
 induction n with
 | zero=>?_
 | succ n ih=>?_
 all_goals
  intro k hn hk
  generalize hout:((List.range k).filter fun j:Nat=>gu c.states i (c.states.length+1) (j:Int)).map (fun j:Nat=>(j:Int))=out
  have hol:out.length≤k:=by
   rw [← hout,aL]
   exact aw (bK _ _) (by simp)
  refine jg my Tryz.func21 (let x1:List (Nat×SV):=[(1,.i i),(2,.x (.c (.loc 0 0))),(4,.p (.v (Value.slice none 0 0))),(5,.x (.c (.own 1))),(6,.i (IntKind.wrap .i64 ((k:Int)+1)))]; let x2:List PI:=zCk3; .ite (decide ((k:Int)<(c.states.length:Int))) (.need ((0:Int)≤(k:Int)∧(k:Int)<(c.states.length:Int)∧c.states.length≤maxLen) (.ite (rbM c.states i (k:Int)) (.need (room ((out++[(k:Int)]).length) 8) (.stop x2 { n:=42,fr:=x1,ck:=[zCk1 c,.own 3 .int (out++[(k:Int)])] })) (.stop x2 { n:=42,fr:=x1,ck:=[zCk1 c,.own 3 .int out] }))) (.ret (.x (.c (.own 0))) [.own 3 .int out])) ?_
  conv=>zeta
  have hs:=wE c.states i k
  rw [hout] at hs
  refine ⟨fun hlt=>?_,fun hge=>?_⟩
  · have hk':k<c.states.length:=by have:=of_decide_eq_true hlt; omega
    refine ⟨⟨by omega,by omega,hm⟩,fun h0=>?_,fun h0=>?_⟩
    · rw [if_pos h0] at hs
      refine ⟨⟨by rw [ar]; show (_+1) * 8≤_; omega,by rw [ar]; show _+1≤_; unfold maxLen; omega⟩,?_⟩
      rw [a6 (aE hk' hm),← hs]
      first
      | (exfalso; omega)
      | exact ih (k+1) (by omega) (by omega)
    · rw [if_neg (by rw [h0]; decide),aM] at hs
      rw [a6 (aE hk' hm),← hs]
      first
      | (exfalso; omega)
      | exact ih (k+1) (by omega) (by omega)
  · have hke:k=c.states.length:=by have:=of_decide_eq_false hge; omega
    subst hke
    rw [← hout]; exact ⟨rfl,rfl⟩
abbrev zCk5 (a:Int) (b:Chart):ST:={ n:=42,fr:=[(1,.i a),(2,.x (.c (.loc 0 0))),(4,.p (.v (Value.slice none 0 0))),(5,.p (.v (Value.slice none 0 0))),(6,.i 0)],ck:=[zCk1 b] }
theorem wy (h:c.states.length≤1000∧0≤i∧i<(c.states.length:Int)∧aQ (ETy.get .stat c.states i.toNat).kind=false):ag Tryz.prog 21 [.e .chart c,.i i] [] (.x (.c (.own 0))) [.own 3 .int (gV c.states i)]:=by
 obtain ⟨hl,h0,h1,h2⟩:=h
 refine dg my Tryz.func21 (.need ((decide (i<(0:Int))||decide (i≥(c.states.length:Int)))=false→(0:Int)≤i∧i<(c.states.length:Int)) (.ite (decide (i<(0:Int))||decide (i≥(c.states.length:Int))||aQ (Stat.kind (ETy.get .stat c.states (Int.toNat i)))) (.ret (.p (.v (Value.slice none 0 0))) []) (.stop zCk3 (zCk5 i c)))) fun Γ=>?_
 refine ⟨fun _=>⟨h0,h1⟩,fun hb=>?_,fun _=>?_⟩
 · exfalso
   rw [h2,decide_eq_false (show ¬i<0 by omega),decide_eq_false (show ¬i≥(c.states.length:Int) by omega)] at hb
   cases hb
 · refine J.nilOwn 5 3 .int rfl (by kernel_rfl) ?_
   exact FP c i hl Γ c.states.length 0 (by omega) (by omega)
theorem AT (h:¬(0≤i∧i<(c.states.length:Int)∧aQ (ETy.get .stat c.states i.toNat).kind=false)):ag Tryz.prog 21 [.e .chart c,.i i] [] (.x (.c (.pd (.v (.slice none 0 0))))) []:=by
 refine dg my Tryz.func21 (.need ((decide (i<(0:Int))||decide (i≥(c.states.length:Int)))=false→(0:Int)≤i∧i<(c.states.length:Int)) (.ite (decide (i<(0:Int))||decide (i≥(c.states.length:Int))||aQ (Stat.kind (ETy.get .stat c.states (Int.toNat i)))) (.ret (.p (.v (Value.slice none 0 0))) []) (.stop zCk3 (zCk5 i c)))) fun Γ=>?_
 refine ⟨fun hb=>?_,fun _=>⟨rfl,rfl⟩,fun hb=>?_⟩
 · rw [an] at hb
   have:=of_decide_eq_false hb.1
   have:=of_decide_eq_false hb.2
   omega
 · exfalso
   rw [an,an] at hb
   have h1:=of_decide_eq_false hb.1.1
   have h2:=of_decide_eq_false hb.1.2
   exact h ⟨by omega,by omega,hb.2⟩
def lz:Ent:=(21,fun
 | [.agg [.pd (.str a),.pd (.lst .str b),.pd (.lst .var c),.pd (.lst .stat d),.pd (.lst .tran e)],.c (.pd (.int .i64 i))],[]=>some (some (d.length≤1000∧0≤i∧i<(d.length:Int)∧aQ (ETy.get .stat d i.toNat).kind=false),.x (.c (.own 0)),[.own 3 .int (gV d i)])
 | _,_=>none)
theorem pI:EntOk Tryz.prog lz:=entOk fun vs ck=>by
 unfold lz; dsimp only; split
 · rename_i a b c d e i; exact entS fun hp=>wy ⟨a,b,c,d,e⟩ i hp
 · exact entN
def lI:Ent:=(21,fun
 | [.agg [.pd (.str a),.pd (.lst .str b),.pd (.lst .var c),.pd (.lst .stat d),.pd (.lst .tran e)],.c (.pd (.int .i64 i))],[]=>some (some (¬(0≤i∧i<(d.length:Int)∧aQ (ETy.get .stat d i.toNat).kind=false)),.x (.c (.pd (.v (.slice none 0 0)))),[])
 | _,_=>none)
theorem wH:EntOk Tryz.prog lI:=entOk fun vs ck=>by
 unfold lI; dsimp only; split
 · rename_i a b c d e i; exact entS fun hp=>AT ⟨a,b,c,d,e⟩ i hp
 · exact entN
/-! ### Right -/
def CN:Cfg:=⟨bb,[nZ]⟩
theorem Bo:af Tryz.prog CN.tab:=(af.cons yg af.nil)
theorem sQ (hb:∀ s∈c.states,s.entry.length≤4398046511104∧s.leave.length≤4398046511104):ag Tryz.prog 11 [.e .chart c] [] (.x (.b (bI c==0))) []:=by
 refine dg Bo Tryz.func11 (.need (∀ (s:ETy.den .stat),s∈c.states→s.entry.length≤4398046511104∧s.leave.length≤4398046511104) (.ret (.p (.bool (bI c==(0:Int)))) [])) fun Γ=>?_
 exact ⟨hb,rfl,rfl⟩
def fX:Ent:=(11,fun
 | [.agg [.pd (.str a),.pd (.lst .str b),.pd (.lst .var c),.pd (.lst .stat d),.pd (.lst .tran e)]],[]=>some (some (∀ s∈d,s.entry.length≤4398046511104∧s.leave.length≤4398046511104),.x (.c (.pd (.bool (bI ⟨a,b,c,d,e⟩==0)))),[])
 | _,_=>none)
theorem ix:EntOk Tryz.prog fX:=entOk fun vs ck=>by
 unfold fX; dsimp only; split
 · rename_i a b c d e; exact entS fun hp=>sQ ⟨a,b,c,d,e⟩ hp
 · exact entN
/-! ### lists of places -/
abbrev zCk2:List PI:=[.code [1,1,0,1,0,0],.inLoop [1,1,0,1,0,0],.inBlock 0,.code [1,1,1]]
theorem Ez (hl:a.length≤maxLen) (hab:a.length=b.length):∀ (n k:Nat),a.length - k≤n→k≤a.length →
 J Tryz.prog 12 (aA Tryz.f12) Γ (Eq2 (.x (.b (a.drop k==b.drop k))) []) zCk2 ({ n:=26,fr:=[(0,.p (.lst .int a)),(1,.p (.lst .int b)),(4,.p (.bool false)),(5,.i k)],ck:=[],kn:=[4] }):=by
 intro n
 induction n with
 | zero=>?_
 | succ n ih=>?_
 all_goals
  intro k hn hk
  refine jg aT Tryz.func12 (.ite (decide ((k:Int)<(a.length:Int))) (.need (inRg k a.length) (.need (inRg k b.length) (.ite (ETy.get .int a k != ETy.get .int b k) (.ret (.p (.bool false)) []) (.stop zCk2 { n:=26,fr:=[(0,.p (.lst .int a)),(1,.p (.lst .int b)),(4,.p (.bool false)),(5,.i (IntKind.wrap .i64 ((k:Int)+1)))],ck:=[] })))) (.ret (.p (.bool true)) [])) ?_
  refine ⟨fun hlt=>?_,fun hge=>?_⟩
  · have hk':k<a.length:=by have:=of_decide_eq_true hlt; omega
    rw [bO (t:=.int) (l:=a) hk']
    generalize ETy.get .int a k=v
    rw [bO (t:=.int) (l:=b) (by omega)]
    refine ⟨⟨by omega,by omega⟩,⟨by omega,by omega⟩,?_⟩
    generalize ETy.get .int b k=u
    refine ⟨fun hb=>⟨?_,rfl⟩,fun hb=>?_⟩
    · have hb':(v==u)=false:=nt hb
      rw [List.cons_beq_cons,hb',aK]
    · have hb':(v==u)=true:=nf hb
      rw [List.cons_beq_cons,hb',aP]; (rw [a6 (aE hk' hl)]; first | (exfalso; omega) | exact J.kn [4] (ih (k+1) (by omega) (by omega)))
  · rw [bX (l:=a) (by have:=of_decide_eq_false hge; omega)]
    rw [bX (l:=b) (by have:=of_decide_eq_false hge; omega)]; exact ⟨rfl,rfl⟩
theorem oI:ag Tryz.prog 12 [.l .int a,.l .int b] [] (.x (.b (a==b))) []:=by
 refine dg aT Tryz.func12 (.ite ((a.length:Int) != (b.length:Int)) (.ret (.p (.bool false)) []) (.stop zCk2 { n:=26,fr:=[(0,.p (.lst .int a)),(1,.p (.lst .int b)),(4,.p (.bool false)),(5,.i 0)],ck:=[],kn:=[4] })) fun Γ=>?_
 refine ⟨fun h=>?_,fun h=>?_⟩
 · have hne:a.length≠b.length:=by
    have:(a.length:Int)≠b.length:=by simpa using h
    omega
   rw [show (a==b)=false from by rw [beq_eq_false_iff_ne]; exact fun e=>hne (by rw [e])]; exact ⟨rfl,rfl⟩
 · have hab:a.length=b.length:=by
    have:(a.length:Int)=b.length:=by simpa using h
    omega
   exact J.len 0 rfl fun hl=>Ez a b Γ hl hab a.length 0 (by omega) (by omega)
def ld:Ent:=(12,fun
 | [.c (.pd (.lst .int a)),.c (.pd (.lst .int b))],[]=>some (none,.x (.c (.pd (.bool (a==b)))),[])
 | _,_=>none)
theorem nd:EntOk Tryz.prog ld:=entOk fun vs ck=>by
 unfold ld; dsimp only; split
 · rename_i a b; exact entS fun hp=>oI a b
 · exact entN
abbrev zCk4:List PI:=[.code [1,0,1,0,0],.inLoop [1,0,1,0,0],.inBlock 0,.code [1,1]]
theorem EL (l:List Int) (m:Int) (Γ:Ctx) (hl:l.length≤maxLen)  : ∀ (n k:Nat),l.length - k≤n→k≤l.length →
 J Tryz.prog 19 (aA Tryz.f19) Γ (Eq2 (.x (.b (inB (l.drop k) m))) []) zCk4 ({ n:=18,fr:=[(0,.p (.lst .int l)),(1,.i m),(4,.p (.bool false)),(5,.i k)],ck:=[],kn:=[4] }):=by
 intro n
 induction n with
 | zero=>?_
 | succ n ih=>?_
 all_goals
  intro k hn hk
  refine jg aT Tryz.func19 (.ite (decide ((k:Int)<(l.length:Int))) (.need (inRg k l.length) (.ite (ETy.get .int l k==m) (.ret (.p (.bool true)) []) (.stop zCk4 { n:=18,fr:=[(0,.p (.lst .int l)),(1,.i m),(4,.p (.bool false)),(5,.i (IntKind.wrap .i64 ((k:Int)+1)))],ck:=[],kn:=[4] }))) (.ret (.p (.bool false)) [])) ?_
  refine ⟨fun hlt=>?_,fun hge=>?_⟩
  · have hk':k<l.length:=by have:=of_decide_eq_true hlt; omega
    rw [bO (t:=.int) (l:=l) hk']
    refine ⟨by omega,?_⟩
    generalize ETy.get .int l k=v
    refine ⟨fun hb=>⟨?_,rfl⟩,fun hb=>?_⟩
    · have hb':(v==m)=true:=hb
      unfold inB; rw [cX,hb']; rfl
    · have hb':(v==m)=false:=hb
      unfold inB; rw [cX,hb',aW]; (rw [a6 (aE hk' hl)]; first | (exfalso; omega) | exact ih (k+1) (by omega) (by omega) | exact J.kn [4] (ih (k+1) (by omega) (by omega)))
  · rw [bX (l:=l) (by have:=of_decide_eq_false hge; omega)]
    exact ⟨rfl,rfl⟩
theorem E6 (l:List Int) (m:Int):ag Tryz.prog 19 [.l .int (l),.i (m)] [] (.x (.b (inB l m))) []:=by
 refine dg aT Tryz.func19 (.stop zCk4 { n:=18,fr:=[(0,.p (.lst .int l)),(1,.i m),(4,.p (.bool false)),(5,.i 0)],ck:=[],kn:=[4] }) fun Γ=>?_
 exact J.len 0 rfl fun hl=>EL l m Γ hl l.length 0 (by omega) (by omega)
def vu:Ent:=(19,fun
 | [.c (.pd (.lst .int l)),.c (.pd (.int .i64 m))],[]=>some (none,.x (.c (.pd (.bool (inB l m)))),[])
 | _,_=>none)
theorem xC:EntOk Tryz.prog vu:=entOk fun vs ck=>by
 unfold vu; dsimp only; split
 · rename_i l m; exact entS fun hp=>E6 l m
 · exact entN
def vF:Cfg:=⟨bb,[lz]⟩
theorem sH:af Tryz.prog vF.tab:=(af.cons pI af.nil)
theorem wC (t:Tre c.states) (Γ:Ctx):∀ (n k:Nat),c.states.length - k≤n→k≤c.states.length →
 J Tryz.prog 13 (aA Tryz.f13) Γ (Eq2 (.x (.c (.own 0))) [.own 3 .int (dq c.states)]) zCk2 ({ n:=25,fr:=[(1,.x (.c (.loc 0 0))),(2,.p (.v (Value.slice none 0 0))),(3,.x (.c (.own 1))),(4,.i ((k:Int)))],ck:=[zCk1 c,.own 3 .int ((List.range k).flatMap fun i=>if ((ETy.get .stat c.states i).depth==0)=true then cG c.states i else [])] }):=by
 have hf:=t.shp.few
 have hm:c.states.length≤maxLen:=by unfold maxLen; omega
 have hsl:=mY t
 intro n
 induction n with
 | zero=>?_
 | succ n ih=>?_
 all_goals
  intro k hn hk
  generalize hout:((List.range k).flatMap fun i=>if ((ETy.get .stat c.states i).depth==0)=true then cG c.states i else [])=out
  refine jg sH Tryz.func13 (let x1:List (Nat×SV):=[(1,.x (.c (.loc 0 0))),(2,.p (.v (Value.slice none 0 0))),(3,.x (.c (.own 1))),(4,.i (IntKind.wrap .i64 ((k:Int)+1)))]; let x2:List PI:=zCk2; let x3:=(out++gV c.states (k:Int)); .ite (decide ((k:Int)<(c.states.length:Int))) (.need (inRg k c.states.length) (.ite (Stat.depth (ETy.get .stat c.states k)==(0:Int)) (.need (c.states.length≤1000∧(0:Int)≤(k:Int)∧(k:Int)<(c.states.length:Int)∧aQ (Stat.kind (ETy.get .stat c.states k))=false) (.need (room (x3.length) 8) (.stop x2 { n:=25,fr:=x1,ck:=[zCk1 c,.own 3 .int x3] }))) (.stop x2 { n:=25,fr:=x1,ck:=[zCk1 c,.own 3 .int out] }))) (.ret (.x (.c (.own 0))) [.own 3 .int out])) ?_
  conv=>zeta
  have hs:=l5 (l:=c.states) (k:=k)
  rw [hout] at hs
  refine ⟨fun hlt=>?_,fun hge=>?_⟩
  · have hk':k<c.states.length:=by have:=of_decide_eq_true hlt; omega
    have hp:=nA (l:=c.states) (n:=c.states.length) (k:=k+1) (by omega)
    have hp':_≤(dq c.states).length:=hp
    rw [← uT t hk']
    refine ⟨⟨by omega,by omega⟩,fun h0=>?_,fun h0=>?_⟩
    · rw [if_pos h0] at hs
      rw [hs] at hp'
      have h2:knd c.states k=2:=t.reg hk' (eq_of_beq h0)
      refine ⟨⟨by omega,by omega,by omega,tP h2⟩,⟨by omega,by unfold maxLen; omega⟩,?_⟩
      rw [a6 (aE hk' hm),← hs]
      first
      | (exfalso; omega)
      | exact ih (k+1) (by omega) (by omega)
    · rw [if_neg (by rw [h0]; decide),aM] at hs
      rw [a6 (aE hk' hm),← hs]
      first
      | (exfalso; omega)
      | exact ih (k+1) (by omega) (by omega)
  · have hke:k=c.states.length:=by have:=of_decide_eq_false hge; omega
    subst hke
    rw [← hout]; exact ⟨rfl,rfl⟩
theorem wN (t:Tre c.states):ag Tryz.prog 13 [.e .chart c] [] (.x (.c (.own 0))) [.own 3 .int (dq c.states)]:=by
 refine dg sH Tryz.func13 (.stop zCk2 { n:=25,fr:=[(1,.x (.c (.loc 0 0))),(2,.p (.v (Value.slice none 0 0))),(3,.p (.v (Value.slice none 0 0))),(4,.i 0)],ck:=[zCk1 c] }) fun Γ=>?_
 refine J.nilOwn 3 3 .int rfl (by kernel_rfl) ?_
 exact wC c t Γ c.states.length 0 (by omega) (by omega)
def n5:Ent:=(13,fun
 | [.agg [.pd (.str a),.pd (.lst .str b),.pd (.lst .var c),.pd (.lst .stat d),.pd (.lst .tran e)]],[]=>some (some (Tre d),.x (.c (.own 0)),[.own 3 .int (dq d)])
 | _,_=>none)
theorem yG:EntOk Tryz.prog n5:=entOk fun vs ck=>by
 unfold n5; dsimp only; split
 · rename_i a b c d e; exact entS fun hp=>wN ⟨a,b,c,d,e⟩ hp
 · exact entN
end Go.Proofs.YtcopfgbbjdefbaaGreatDoor

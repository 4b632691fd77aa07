/- Contracts: conf: Begin, Start. Conditions: sizes. Contracts: the document's layer 10: what a state begins with. Conditions: sizes. A configuration by choices is legal; which states are over (plain). Conditions: a valid chart. -/
import Derived.Test.YtcopfgbbjdefbaaGreatDoorCh
import Derived.Test.YtcopfgbbjdefbaaGreatDoorCc
import Derived.Test.YtcopfgbbjdefbaaGreatDoorSn
namespace Go.Proofs.YtcopfgbbjdefbaaGreatDoor
open Go Go.Ev
set_option maxRecDepth 100000
def xV:Cfg:=⟨aX,[me,n7,rQ]⟩
theorem ti:ag Tryz.prog xV.tab:=(ag.cons qL (ag.cons tM (ag.cons Ee ag.nil)))
variable (c:Chart) {l:List Ev.Stat}
theorem sb {k:Nat}:((List.range (k+1)).flatMap fun i=>if ((ETy.get .stat l i).depth==0)=true then dV l i else [])=((List.range k).flatMap fun i=>if ((ETy.get .stat l i).depth==0)=true then dV l i else [])++(if ((ETy.get .stat l k).depth==0)=true then dV l k else []):=by
 rw [List.range_succ,ei]; simp
theorem tL {l:List Ev.Stat}:∀ {n k:Nat},k≤n→((List.range k).flatMap fun i=>if ((ETy.get .stat l i).depth==0)=true then dV l i else []).length≤((List.range n).flatMap fun i=>if ((ETy.get .stat l i).depth==0)=true then dV l i else []).length
 | 0,k,h=>by
   have:k=0:=by omega
   subst this; exact ar _
 | n + 1,k,h=>by
   by_cases e:k=n+1
   · subst e; exact ar _
   · have ih:=tL (l:=l) (n:=n) (k:=k) (by omega)
     rw [sb,aq]; omega
theorem DE (t:Tre l):(gA l).length≤40:=by
 have h2:=pa (gA l) 0 40 (xZ t) (fun y hy=>by
  obtain ⟨j,rfl,hj,_⟩:=(FW t y).1 hy
  have:=t.shp.few
  omega)
 rw [if_pos (by omega)] at h2
 omega
abbrev zCj1 (a:Chart):Chunk:=.cells [.pd (.str a.name),.pd (.lst .str a.events),.pd (.lst .var a.vars),.pd (.lst .stat a.states),.pd (.lst .tran a.trans)] 27
abbrev zCj2:List PI:=[.code [1,1,1,0,1,0,0],.inLoop [1,1,1,0,1,0,0],.inBlock 0,.code [1,1,1,1]]
theorem KE (v:Valid c) (Γ:Ctx):∀ (n k:Nat),c.states.length - k≤n→k≤c.states.length →
 J Tryz.prog 10 (aw Tryz.f10) Γ (Eq2 (.x (.c (.own 0))) [.own 3 .int (gA c.states)]) zCj2 ({ n:=27,fr:=[(1,.x (.c (.loc 0 0))),(2,.p (.v (Value.slice none 0 0))),(3,.x (.c (.own 1))),(10,.p (.lst .stat c.states)),(11,.i c.states.length),(12,.i ((k:Int)))],ck:=[zCj1 c,.own 3 .int ((List.range k).flatMap fun i=>if ((ETy.get .stat c.states i).depth==0)=true then dV c.states i else [])] }):=by
 have hf:=v.tre.shp.few
 have hm:c.states.length≤maxLen:=by unfold maxLen; omega
 have hsl:=DE v.tre
 intro n
 induction n with
 | zero=>?_
 | succ n ih=>?_
 all_goals
  intro k hn hk
  generalize hout:((List.range k).flatMap fun i=>if ((ETy.get .stat c.states i).depth==0)=true then dV c.states i else [])=out
  refine jg ti Tryz.func10 (let x1:List (Nat×SV):=[(1,.x (.c (.loc 0 0))),(2,.p (.v (Value.slice none 0 0))),(3,.x (.c (.own 1))),(10,.p (.lst .stat c.states)),(11,.i c.states.length),(12,.i (IntKind.wrap .i64 ((k:Int)+1)))]; let x2:List PI:=zCj2; .ite (decide ((k:Int)<(c.states.length:Int))) (.need (inRg k c.states.length) (.ite (Stat.depth (ETy.get .stat c.states k)==(0:Int)) (.need (Tre c.states∧(0:Int)≤(k:Int)∧(k:Int)<(c.states.length:Int)) (.need (room ((out++dV c.states k).length) 8) (.stop x2 { n:=27,fr:=x1,ck:=[zCj1 c,.own 3 .int (out++dV c.states k)] }))) (.stop x2 { n:=27,fr:=x1,ck:=[zCj1 c,.own 3 .int out] }))) (.ret (.x (.c (.own 0))) [.own 3 .int out])) ?_
  conv=>zeta
  have hs:=sb (l:=c.states) (k:=k)
  rw [hout] at hs
  refine ⟨fun hlt=>?_,fun hge=>?_⟩
  · have hk':k<c.states.length:=by have:=of_decide_eq_true hlt; omega
    have hp:=tL (l:=c.states) (n:=c.states.length) (k:=k+1) (by omega)
    have hp':_≤(gA c.states).length:=hp
    refine ⟨⟨by omega,by omega⟩,fun h0=>?_,fun h0=>?_⟩
    · rw [if_pos h0] at hs
      rw [hs] at hp'
      refine ⟨⟨v.tre,by omega,by omega⟩,⟨by omega,by unfold maxLen; omega⟩,?_⟩
      rw [aZ (aC hk' hm),← hs]
      first
      | (exfalso; omega)
      | exact ih (k+1) (by omega) (by omega)
    · rw [if_neg (by rw [h0]; decide),aO] at hs
      rw [aZ (aC hk' hm),← hs]
      first
      | (exfalso; omega)
      | exact ih (k+1) (by omega) (by omega)
  · have hke:k=c.states.length:=by have:=of_decide_eq_false hge; omega
    subst hke
    rw [← hout]; exact ⟨rfl,rfl⟩
theorem Ac (v:Valid c):ah Tryz.prog 10 [.e .chart c] [] (.x (.c (.own 0))) [.own 3 .int (gA c.states)]:=by
 have hl:=(jc c).1 v.few
 refine dg ti Tryz.func10 (.need (c.vars.length≤2199023255552∧c.states.length≤2199023255552) (.ite (!bj c==(0:Int)) (.ret (.p (.v (Value.slice none 0 0))) []) (.stop zCj2 { n:=27,fr:=[(1,.x (.c (.loc 0 0))),(2,.p (.v (Value.slice none 0 0))),(3,.p (.v (Value.slice none 0 0))),(10,.p (.lst .stat c.states)),(11,.i c.states.length),(12,.i 0)],ck:=[zCj1 c] }))) fun Γ=>?_
 have hc:bj c=0:=(c8 c).2 v
 refine ⟨⟨by omega,by omega⟩,fun hb=>?_,fun _=>?_⟩
 · exfalso
   have hb':(!bj c==0)=true:=hb
   rw [hc] at hb'; cases hb'
 · refine J.nilOwn 3 3 .int rfl (by kernel_rfl) ?_
   exact KE c v Γ c.states.length 0 (by omega) (by omega)
end Go.Proofs.YtcopfgbbjdefbaaGreatDoor
namespace Go.Proofs.YtcopfgbbjdefbaaGreatDoor
open Go Go.Ev
set_option maxRecDepth 100000
/-! ### Begin, of a place that is no history's -/
/-! ### Right -/
def EL:Cfg:=⟨aX,[oX]⟩
theorem EP:ag Tryz.prog EL.tab:=(ag.cons CJ ag.nil)
theorem uQ (c:Chart) (hb:∀ s∈c.states,s.entry.length≤4398046511104∧s.leave.length≤4398046511104):ah Tryz.prog 11 [.e .chart c] [] (.x (.b (bj c==0))) []:=by
 refine dg EP Tryz.func11 (.need (∀ (s:ETy.den .stat),s∈c.states→s.entry.length≤4398046511104∧s.leave.length≤4398046511104) (.ret (.p (.bool (bj c==(0:Int)))) [])) fun Γ=>?_
 exact ⟨hb,rfl,rfl⟩
def ir:Ent:=(11,fun
 | [.agg [.pd (.str a),.pd (.lst .str b),.pd (.lst .var c),.pd (.lst .stat d),.pd (.lst .tran e)]],[]=>some (some (∀ s∈d,s.entry.length≤4398046511104∧s.leave.length≤4398046511104),.x (.c (.pd (.bool (bj ⟨a,b,c,d,e⟩==0)))),[])
 | _,_=>none)
theorem kJ:EntOk Tryz.prog ir:=entOk fun vs ck=>by
 unfold ir; dsimp only; split
 · rename_i a b c d e; exact entS fun hp=>uQ ⟨a,b,c,d,e⟩ hp
 · exact entN
/-! ### lists of places -/
abbrev zCk1:List PI:=[.code [1,1,0,1,0,0],.inLoop [1,1,0,1,0,0],.inBlock 0,.code [1,1,1]]
variable (a l b:List Int) (m:Int) (Γ:Ctx)
theorem HF (hl:a.length≤maxLen) (hab:a.length=b.length):∀ (n k:Nat),a.length - k≤n→k≤a.length →
 J Tryz.prog 12 (aw Tryz.f12) Γ (Eq2 (.x (.b (a.drop k==b.drop k))) []) zCk1 ({ n:=26,fr:=[(0,.p (.lst .int a)),(1,.p (.lst .int b)),(4,.p (.bool false)),(5,.i k)],ck:=[],kn:=[4] }):=by
 intro n
 induction n with
 | zero=>?_
 | succ n ih=>?_
 all_goals
  intro k hn hk
  refine jg aV Tryz.func12 (.ite (decide ((k:Int)<(a.length:Int))) (.need (inRg k a.length) (.need (inRg k b.length) (.ite (ETy.get .int a k != ETy.get .int b k) (.ret (.p (.bool false)) []) (.stop zCk1 { n:=26,fr:=[(0,.p (.lst .int a)),(1,.p (.lst .int b)),(4,.p (.bool false)),(5,.i (IntKind.wrap .i64 ((k:Int)+1)))],ck:=[] })))) (.ret (.p (.bool true)) [])) ?_
  refine ⟨fun hlt=>?_,fun hge=>?_⟩
  · have hk':k<a.length:=by have:=of_decide_eq_true hlt; omega
    rw [bI (t:=.int) (l:=a) hk']
    generalize ETy.get .int a k=v
    rw [bI (t:=.int) (l:=b) (by omega)]
    refine ⟨⟨by omega,by omega⟩,⟨by omega,by omega⟩,?_⟩
    generalize ETy.get .int b k=u
    refine ⟨fun hb=>⟨?_,rfl⟩,fun hb=>?_⟩
    · have hb':(v==u)=false:=nt hb
      rw [List.cons_beq_cons,hb',aR]
    · have hb':(v==u)=true:=nf hb
      rw [List.cons_beq_cons,hb',aU]; (rw [aZ (aC hk' hl)]; first | (exfalso; omega) | exact J.kn [4] (ih (k+1) (by omega) (by omega)))
  · rw [bT (l:=a) (by have:=of_decide_eq_false hge; omega)]
    rw [bT (l:=b) (by have:=of_decide_eq_false hge; omega)]; exact ⟨rfl,rfl⟩
theorem Ag:ah Tryz.prog 12 [.l .int a,.l .int b] [] (.x (.b (a==b))) []:=by
 refine dg aV Tryz.func12 (.ite ((a.length:Int) != (b.length:Int)) (.ret (.p (.bool false)) []) (.stop zCk1 { n:=26,fr:=[(0,.p (.lst .int a)),(1,.p (.lst .int b)),(4,.p (.bool false)),(5,.i 0)],ck:=[],kn:=[4] })) fun Γ=>?_
 refine ⟨fun h=>?_,fun h=>?_⟩
 · have hne:a.length≠b.length:=by
    have:(a.length:Int)≠b.length:=by simpa using h
    omega
   rw [show (a==b)=false from by rw [beq_eq_false_iff_ne]; exact fun e=>hne (by rw [e])]; exact ⟨rfl,rfl⟩
 · have hab:a.length=b.length:=by
    have:(a.length:Int)=b.length:=by simpa using h
    omega
   exact J.len 0 rfl fun hl=>HF a b Γ hl hab a.length 0 (by omega) (by omega)
def kE:Ent:=(12,fun
 | [.c (.pd (.lst .int a)),.c (.pd (.lst .int b))],[]=>some (none,.x (.c (.pd (.bool (a==b)))),[])
 | _,_=>none)
theorem kZ:EntOk Tryz.prog kE:=entOk fun vs ck=>by
 unfold kE; dsimp only; split
 · rename_i a b; exact entS fun hp=>Ag a b
 · exact entN
abbrev zCk2:List PI:=[.code [1,0,1,0,0],.inLoop [1,0,1,0,0],.inBlock 0,.code [1,1]]
theorem Gg (hl:l.length≤maxLen)  : ∀ (n k:Nat),l.length - k≤n→k≤l.length →
 J Tryz.prog 19 (aw Tryz.f19) Γ (Eq2 (.x (.b (inB (l.drop k) m))) []) zCk2 ({ n:=18,fr:=[(0,.p (.lst .int l)),(1,.i m),(4,.p (.bool false)),(5,.i k)],ck:=[],kn:=[4] }):=by
 intro n
 induction n with
 | zero=>?_
 | succ n ih=>?_
 all_goals
  intro k hn hk
  refine jg aV Tryz.func19 (.ite (decide ((k:Int)<(l.length:Int))) (.need (inRg k l.length) (.ite (ETy.get .int l k==m) (.ret (.p (.bool true)) []) (.stop zCk2 { n:=18,fr:=[(0,.p (.lst .int l)),(1,.i m),(4,.p (.bool false)),(5,.i (IntKind.wrap .i64 ((k:Int)+1)))],ck:=[],kn:=[4] }))) (.ret (.p (.bool false)) [])) ?_
  refine ⟨fun hlt=>?_,fun hge=>?_⟩
  · have hk':k<l.length:=by have:=of_decide_eq_true hlt; omega
    rw [bI (t:=.int) (l:=l) hk']
    refine ⟨by omega,?_⟩
    generalize ETy.get .int l k=v
    refine ⟨fun hb=>⟨?_,rfl⟩,fun hb=>?_⟩
    · have hb':(v==m)=true:=hb
      unfold inB; rw [b7,hb']; rfl
    · have hb':(v==m)=false:=hb
      unfold inB; rw [b7,hb',a6]; (rw [aZ (aC hk' hl)]; first | (exfalso; omega) | exact ih (k+1) (by omega) (by omega) | exact J.kn [4] (ih (k+1) (by omega) (by omega)))
  · rw [bT (l:=l) (by have:=of_decide_eq_false hge; omega)]
    exact ⟨rfl,rfl⟩
theorem IV:ah Tryz.prog 19 [.l .int (l),.i (m)] [] (.x (.b (inB l m))) []:=by
 refine dg aV Tryz.func19 (.stop zCk2 { n:=18,fr:=[(0,.p (.lst .int l)),(1,.i m),(4,.p (.bool false)),(5,.i 0)],ck:=[],kn:=[4] }) fun Γ=>?_
 exact J.len 0 rfl fun hl=>Gg l m Γ hl l.length 0 (by omega) (by omega)
def si:Ent:=(19,fun
 | [.c (.pd (.lst .int l)),.c (.pd (.int .i64 m))],[]=>some (none,.x (.c (.pd (.bool (inB l m)))),[])
 | _,_=>none)
theorem sJ:EntOk Tryz.prog si:=entOk fun vs ck=>by
 unfold si; dsimp only; split
 · rename_i l m; exact entS fun hp=>IV l m
 · exact entN
end Go.Proofs.YtcopfgbbjdefbaaGreatDoor
namespace Go.Proofs.YtcopfgbbjdefbaaGreatDoor
open Go Go.Ev
set_option maxRecDepth 100000
variable (l:List Ev.Stat) (a:List Bool) (i j:Nat)
def gO:List Int:=(bF l (i:Int) l.length).filter fun y=>!a8 (ETy.get .stat l y.toNat).kind
def gp:List Bool→List Int→List Bool
 | a,[]=>a
 | a,y::r=>gp (a.set y.toNat true) r
def fR:List Bool:=if ((ETy.get .stat l i).depth==0)=true then a.set i true else a
def fU (l:List Ev.Stat) (ch:Nat→Int→Int):Nat→Nat→List Bool→Int→List Bool
 | 0,_,a,_=>a
 | f+1,i,a,n =>
   if (!(fR l a i).getD i false)=true then fU l ch f (i+1) (fR l a i) n
   else if ((ETy.get .stat l i).kind==3)=true then fU l ch f (i+1) (gp (fR l a i) (gO l i)) n
   else if ((ETy.get .stat l i).kind==2)=true then fU l ch f (i+1) ((fR l a i).set (ch i n).toNat true) (IntKind.wrap .i64 (n+1))
   else fU l ch f (i+1) (fR l a i) n
def wi (ch:Nat→Int→Int):List Bool:=fU l ch l.length 0 (List.replicate l.length false) 0
def dx (ch:Nat→Int→Int):List Int:=((List.range l.length).filter fun i=>(wi l ch).getD i false).map fun i:Nat=>(i:Int)
def sk (ch:Nat→Int→Int):Prop:=∀ (i:Nat) (n:Int),i<l.length→knd l i=2→∃ q:Nat,ch i n=(q:Int)∧q<l.length∧upM l q=(i:Int)∧a8 (knd l q)=false
theorem nh {l:List Ev.Stat} (S:Shp l) {i:Nat} (hi:i<l.length) (y:Int):y∈gO l i↔∃ m:Nat,y=(m:Int)∧m<l.length∧upM l m=(i:Int)∧a8 (knd l m)=false:=by
 unfold gO
 rw [aB,nN S hi]
 constructor
 · rintro ⟨⟨m,rfl,h1,h2⟩,h3⟩
   rw [ai] at h3
   exact ⟨m,rfl,h1,h2,by simpa using h3⟩
 · rintro ⟨m,rfl,h1,h2,h3⟩
   refine ⟨⟨m,rfl,h1,h2⟩,?_⟩
   rw [ai]
   have h3':a8 (ETy.get .stat l m).kind=false:=h3
   rw [h3']; rfl
theorem vM {l:List Ev.Stat} (t:Tre l) {i:Nat} (hi:i<l.length) (hk:knd l i=2∨knd l i=3):0<(gO l i).length:=by
 obtain ⟨m,h1,h2,h3⟩:=((jl t.shp hi).1 (sF t.right hi)).2 hk
 exact List.length_pos_of_mem ((nh t.shp hi _).2 ⟨m,rfl,h1,h2,h3⟩)
theorem nO:(a.set i true).getD j false=(a.getD j false||(decide (j=i)&&decide (j<a.length))):=by
 rw [List.getD_eq_getElem?_getD,List.getD_eq_getElem?_getD,List.getElem?_set]
 by_cases h:i=j
 · subst h
   rw [if_pos rfl]
   by_cases h2:i<a.length
   · rw [if_pos h2]; simp [h2]
   · rw [if_neg h2]; simp [h2]
 · rw [if_neg h,decide_eq_false (fun e=>h e.symm)]; simp
theorem jZ:∀ (r:List Int) (a:List Bool) (j:Nat),(gp a r).length=a.length∧(gp a r).getD j false=(a.getD j false||(r.any (fun y=>decide (j=y.toNat))&&decide (j<a.length)))
 | [],a,j=>by simp [gp]
 | y::r,a,j=>by
   have ih:=jZ r (a.set y.toNat true) j
   rw [bx] at ih
   refine ⟨ih.1,?_⟩
   rw [gp,ih.2,nO,b7]
   cases a.getD j false <;> cases decide (j=y.toNat) <;> cases decide (j<a.length) <;> simp
structure Mrk (l:List Ev.Stat) (c:Nat→Nat) (i:Nat) (a:List Bool):Prop where
 len:a.length=l.length
 real:∀ p,p<i→p<l.length→knd l p=2→a.getD p false=true→c p<l.length∧upM l (c p)=(p:Int)∧a8 (knd l (c p))=false
 on:∀ j,j<l.length→(a.getD j false=true↔(dep l j=0∧j<i)∨∃ p,p<i∧upM l j=(p:Int)∧a.getD p false=true∧(knd l p=3∨(knd l p=2∧c p=j)))
theorem Hd (hi:i<a.length):(fR l a i).length=a.length∧((fR l a i).getD j false=true↔a.getD j false=true∨(j=i∧dep l i=0)):=by
 unfold fR
 by_cases h:dep l i=0
 · rw [if_pos (by simpa using (show (ETy.get .stat l i).depth=0 from h)),bx,nO]
   refine ⟨rfl,?_⟩
   rw [aM,af,decide_eq_true_eq,decide_eq_true_eq]
   exact ⟨fun h2=>h2.imp id fun h3=>⟨h3.1,h⟩,fun h2=>h2.imp id fun h3=>⟨h3.1,by omega⟩⟩
 · rw [if_neg (by simpa using (show ¬(ETy.get .stat l i).depth=0 from h))]
   exact ⟨rfl,⟨.inl,fun h2=>h2.elim id fun h3=>absurd h3.2 h⟩⟩
theorem mE {l:List Ev.Stat} (t:Tre l) {c c':Nat→Nat} {i:Nat} (hi:i<l.length) {a b:List Bool} (h:Mrk l c i a) (hlen:b.length=l.length) (hc:∀ p,p<i→c' p=c p) (N:Nat→Prop)
 (hb:∀ j,j<l.length→(b.getD j false=true↔(a.getD j false=true∨(j=i∧dep l i=0))∨N j))
 (hN:∀ j,j<l.length→(N j↔((a.getD i false=true∨dep l i=0)∧upM l j=(i:Int)∧(knd l i=3∨(knd l i=2∧c' i=j)))))
 (hr:(a.getD i false=true∨dep l i=0)→knd l i=2→c' i<l.length∧upM l (c' i)=(i:Int)∧a8 (knd l (c' i))=false):Mrk l c' (i+1) b:=by
 have hlt:∀ {j:Nat},j<l.length→upM l j=(i:Int)→i<j:=fun {j} hj hu=>((fv t.shp hj).1 hu).1
 have nb:∀ p,p≤i→¬N p:=fun p hp hn=>by
  have:=hlt (by omega) ((hN p (by omega)).1 hn).2.1; omega
 have hbp:∀ p,p<i→(b.getD p false=true↔a.getD p false=true):=fun p hp=>by
  rw [hb p (by omega)]
  exact ⟨fun h2=>h2.elim (fun h3=>h3.elim id fun h4=>by omega) fun h3=>absurd h3 (nb p (by omega)),fun h2=>.inl (.inl h2)⟩
 have hbi:b.getD i false=true↔(a.getD i false=true∨dep l i=0):=by
  rw [hb i hi]
  exact ⟨fun h2=>h2.elim (fun h3=>h3.imp id fun h4=>h4.2) fun h3=>absurd h3 (nb i (ar _)),fun h2=>.inl (h2.imp id fun h3=>⟨rfl,h3⟩)⟩
 refine ⟨hlen,fun p hp hpl hk hp2=>?_,fun j hj=>?_⟩
 · by_cases he:p=i
   · subst he; exact hr (hbi.1 hp2) hk
   · rw [hc p (by omega)]
     exact h.real p (by omega) hpl hk ((hbp p (by omega)).1 hp2)
 · rw [hb j hj,h.on j hj,hN j hj]
   constructor
   · rintro (((⟨h1,h2⟩ | ⟨p,h1,h2,h3,h4⟩) | ⟨h1,h2⟩) | ⟨h1,h2,h3⟩)
     · exact .inl ⟨h1,by omega⟩
     · exact .inr ⟨p,by omega,h2,(hbp p h1).2 h3,by rw [hc p h1]; exact h4⟩
     · subst h1; exact .inl ⟨h2,by omega⟩
     · exact .inr ⟨i,by omega,h2,hbi.2 h1,h3⟩
   · rintro (⟨h1,h2⟩ | ⟨p,h1,h2,h3,h4⟩)
     · by_cases he:j=i
       · subst he; exact .inl (.inr ⟨rfl,h1⟩)
       · exact .inl (.inl (.inl ⟨h1,by omega⟩))
     · by_cases he:p=i
       · subst he; exact .inr ⟨hbi.1 h3,h2,h4⟩
       · refine .inl (.inl (.inr ⟨p,by omega,h2,(hbp p (by omega)).1 h3,?_⟩))
         rw [← hc p (by omega)]; exact h4
theorem l8 {l:List Ev.Stat} (t:Tre l) {ch:Nat→Int→Int} (hch:sk l ch):∀ (f i:Nat) (a:List Bool) (n:Int) (c:Nat→Nat),l.length - i=f→i≤l.length→Mrk l c i a→∃ c',Mrk l c' l.length (fU l ch f i a n)
 | 0,i,a,n,c,hf,hi,h=>by
   have:i=l.length:=by omega
   subst this
   exact ⟨c,h⟩
 | f + 1, i, a,n,c,hf,hi,h=>by
   have hil:i<l.length:=by omega
   have hr:=fun j=>Hd l a i j (by rw [h.len]; exact hil)
   rw [fU]
   by_cases hon:(fR l a i).getD i false=true
   · rw [hon,bO,if_neg (by decide)]
     have hact:a.getD i false=true∨dep l i=0:=((hr i).2.1 hon).imp id fun h=>h.2
     by_cases h3:knd l i=3
     · rw [if_pos (by simpa using h3)]
       refine l8 t hch f (i+1) _ n c (by omega) (by omega) (mE t hil h ?_ (fun _ _=>rfl) (fun j=>upM l j=(i:Int)) (fun j hj=>?_) (fun j hj=>?_) fun _ hk=>?_)
       · rw [(jZ _ _ 0).1,(hr 0).1,h.len]
       · rw [(jZ _ _ j).2,aM,af,(hr j).2,decide_eq_true_eq,(hr j).1,h.len,bw]
         constructor
         · rintro (h4 | ⟨⟨y,hy,e⟩,_⟩)
           · exact .inl h4
           · obtain ⟨m,rfl,_,h6,_⟩:=(nh t.shp hil y).1 hy
             have e':=of_decide_eq_true e
             rw [ai] at e'
             subst e'; exact .inr h6
         · rintro (h4 | h4)
           · exact .inl h4
           · refine .inr ⟨⟨(j:Int),(nh t.shp hil _).2 ⟨j,rfl,hj,h4,?_⟩,by rw [ai]; exact decide_eq_true rfl⟩,hj⟩
             rcases t.both hj h4 with h5 | ⟨_,h5⟩
             · rw [h3] at h5; exact absurd h5 (by decide)
             · cases hp:a8 (knd l j)
               · rfl
               · rcases (qn _).1 hp with h6 | h6 <;> omega
       · exact ⟨fun h4=>⟨hact,h4,.inl h3⟩,fun h4=>h4.2.1⟩
       · rw [h3] at hk; exact absurd hk (by decide)
     · rw [if_neg (by simpa using h3)]
       by_cases h2:knd l i=2
       · rw [if_pos (by simpa using h2)]
         obtain ⟨q,e,hq1,hq2,hq3⟩:=hch i n hil h2
         refine l8 t hch f (i+1) _ _ (fun p=>if p=i then q else c p) (by omega) (by omega) (mE t hil h ?_ (fun p hp=>if_neg (by omega)) (fun j=>j=q) (fun j hj=>?_) (fun j hj=>?_) fun _ _=>?_)
         · rw [bx,(hr 0).1,h.len]
         · rw [e,ai,nO,aM,af,(hr j).2,decide_eq_true_eq,decide_eq_true_eq,(hr j).1,h.len]
           exact ⟨fun h4=>h4.imp id fun h5=>h5.1,fun h4=>h4.imp id fun h5=>⟨h5,hj⟩⟩
         · rw [if_pos rfl]
           refine ⟨fun h4=>⟨hact,by rw [h4]; exact hq2,.inr ⟨h2,h4.symm⟩⟩,fun h4=>?_⟩
           rcases h4.2.2 with h5 | h5
           · exact absurd h5 h3
           · exact h5.2.symm
         · rw [if_pos rfl]; exact ⟨hq1,hq2,hq3⟩
       · rw [if_neg (by simpa using h2)]
         refine l8 t hch f (i+1) _ n c (by omega) (by omega) (mE t hil h ?_ (fun _ _=>rfl) (fun _=>False) (fun j hj=>?_) (fun j hj=>?_) fun _ hk=>absurd hk h2)
         · rw [(hr 0).1,h.len]
         · rw [(hr j).2,or_false]
         · exact ⟨fun h=>h.elim,fun h4=>h4.2.2.elim (fun h5=>h3 h5) fun h5=>h2 h5.1⟩
   · have hoff:(fR l a i).getD i false=false:=by simpa using hon
     rw [hoff,cA,if_pos rfl]
     have hno:¬(a.getD i false=true∨dep l i=0):=fun h2=>hon ((hr i).2.2 (h2.imp id fun h3=>⟨rfl,h3⟩))
     refine l8 t hch f (i+1) _ n c (by omega) (by omega) (mE t hil h ?_ (fun _ _=>rfl) (fun _=>False) (fun j hj=>?_) (fun j hj=>?_) fun h4 _=>absurd h4 hno)
     · rw [(hr 0).1,h.len]
     · rw [(hr j).2,or_false]
     · exact ⟨fun h=>h.elim,fun h4=>hno h4.1⟩
theorem jY {l:List Ev.Stat} (t:Tre l) {ch:Nat→Int→Int} (hch:sk l ch):Lgl l (dx l ch):=by
 obtain ⟨c,h⟩:=l8 t hch l.length 0 (List.replicate l.length false) 0 (fun _=>0) (by omega) (by omega) ⟨by simp,fun p hp=>by omega,fun j hj=>by
  rw [List.getD_eq_getElem?_getD,List.getElem?_replicate,if_pos hj]
  exact ⟨fun h=>(by cases h),fun h=>h.elim (fun h=>by omega) fun ⟨p,hp,_⟩=>by omega⟩⟩
 have h':Mrk l c l.length (wi l ch):=h
 refine LF t (kW _ _) (fun j=>(wi l ch).getD j false=true) (fun p q=>c p=q) (fun y=>?_) (fun p hp hk hon=>?_) (fun j hj=>?_)
 · unfold dx
   rw [aW]
   constructor
   · rintro ⟨j,hj,rfl⟩
     rw [aB,bq] at hj
     exact ⟨j,rfl,hj.1,hj.2⟩
   · rintro ⟨j,rfl,h1,h2⟩
     exact ⟨j,by rw [aB,bq]; exact ⟨h1,h2⟩,rfl⟩
 · obtain ⟨h1,h2,h3⟩:=h'.real p hp hp hk hon
   exact ⟨c p,h1,h2,h3,rfl,fun m _ _ e=>e.symm⟩
 · rw [h'.on j hj]
   constructor
   · rintro (⟨h1,_⟩ | ⟨p,h1,h2,h3,h4⟩)
     · exact .inl h1
     · exact .inr ⟨p,h2,h3,h4⟩
   · rintro (h1 | ⟨p,h2,h3,h4⟩)
     · exact .inl ⟨h1,hj⟩
     · have:=((fv t.shp hj).1 h2).1
       exact .inr ⟨p,by omega,h2,h3,h4⟩
/-! ### which states are over -/
def fN (l:List Ev.Stat) (s:List Int):Nat→Int→Bool
 | 0,_=>false
 | n+1,i=>if (!inB s i)=true then false
   else if ((ETy.get .stat l i.toNat).kind==2)=true then (bg l i.toNat).any fun k=>(ETy.get .stat l k.toNat).kind==4&&inB s k
   else if ((ETy.get .stat l i.toNat).kind==3)=true then !(bg l i.toNat).any fun k=>!fN l s n k
   else false
def e9 (l:List Ev.Stat) (s:List Int):Nat→Int→Bool
 | 0,_=>false
 | n+1,i=>if (decide (i<0)||decide (i≥(l.length:Int)) || !inB s i)=true then false
   else (ETy.get .stat l i.toNat).kind==3&&(bF l i l.length).all (fun k=>e9 l s n k)||(ETy.get .stat l i.toNat).kind==2&&(bF l i l.length).any fun k=>(ETy.get .stat l k.toNat).kind==4&&inB s k
theorem AU {l:List Ev.Stat} (t:Tre l) {s:List Int} (h:Lgl l s):∀ (n:Nat) (i:Int),fN l s n i=e9 l s n i
 | 0,_=>rfl
 | n + 1, i=>by
   rw [fN,e9]
   cases hb:inB s i
   · simp
   · obtain ⟨k,rfl,hk,_⟩:=h.rng i ((gi _ _).1 hb)
     rw [bO,if_neg (show ¬(false=true) by decide),decide_eq_false (by omega),decide_eq_false (by omega),bD,bD,if_neg (show ¬(false=true) by decide),ai,← mr t.shp hk]
     by_cases h2:(ETy.get .stat l k).kind=2
     · rw [h2,if_pos (by decide)]; simp
     · rw [if_neg (by simpa using h2)]
       by_cases h3:(ETy.get .stat l k).kind=3
       · rw [h3,if_pos (by decide)]
         have e:(bg l k).any (fun k=>!fN l s n k)=(bg l k).any fun k=>!e9 l s n k:=by
          congr 1; funext y; rw [AU t h n y]
         rw [e,cY]; simp
       · rw [if_neg (by simpa using h3)]
         simp [h2,h3]
end Go.Proofs.YtcopfgbbjdefbaaGreatDoor

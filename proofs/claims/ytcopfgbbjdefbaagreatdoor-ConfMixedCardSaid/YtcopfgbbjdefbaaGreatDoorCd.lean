/- Contracts: conf: Begin, Start. Conditions: sizes. Contracts: the document's layer 10: what a state begins with. Conditions: sizes. A configuration by choices is legal; which states are over (plain). Conditions: a valid chart. -/
import Derived.Test.YtcopfgbbjdefbaaGreatDoorCc
import Derived.Test.YtcopfgbbjdefbaaGreatDoorSn
namespace Go.Proofs.YtcopfgbbjdefbaaGreatDoor
open Go Go.Ev
set_option maxRecDepth 100000
def uv:Cfg:=⟨bk,[ln,mu,pY]⟩
theorem rL:ah Tryz.prog uv.tab:=(ah.cons qd (ah.cons rX (ah.cons CH ah.nil)))
variable (c:Chart) {l:List Ev.Stat}
theorem qv {k:Nat}:((List.range (k+1)).flatMap fun i=>if ((ETy.get .stat l i).depth==0)=true then dK l i else [])=((List.range k).flatMap fun i=>if ((ETy.get .stat l i).depth==0)=true then dK l i else [])++(if ((ETy.get .stat l k).depth==0)=true then dK l k else []):=by
 rw [dZ,dU]; simp
theorem rG {l:List Ev.Stat}:∀ {n k:Nat},k≤n→((List.range k).flatMap fun i=>if ((ETy.get .stat l i).depth==0)=true then dK l i else []).length≤((List.range n).flatMap fun i=>if ((ETy.get .stat l i).depth==0)=true then dK l i else []).length
 | 0,k,h=>by
   have:k=0:=by omega
   subst this; exact ar _
 | n + 1,k,h=>by
   by_cases e:k=n+1
   · subst e; exact ar _
   · have ih:=rG (l:=l) (n:=n) (k:=k) (by omega)
     rw [qv,an]; omega
theorem BH (t:Tre l):(gd l).length≤40:=by
 have h2:=oi (gd l) 0 40 (tJ t) (fun y hy=>by
  obtain ⟨j,rfl,hj,_⟩:=(CG t y).1 hy
  have:=t.shp.few
  omega)
 rw [if_pos (by omega)] at h2
 omega
abbrev zCj1 (a:Chart):Chunk:=.cells [.pd (.str a.name),.pd (.lst .str a.events),.pd (.lst .var a.vars),.pd (.lst .stat a.states),.pd (.lst .tran a.trans)] 27
abbrev zCj2:List PI:=[.code [1,1,1,0,1,0,0],.inLoop [1,1,1,0,1,0,0],.inBlock 0,.code [1,1,1,1]]
theorem Hg (v:Valid c) (Γ:Ctx):∀ (n k:Nat),c.states.length - k≤n→k≤c.states.length →
 J Tryz.prog 10 (aw Tryz.f10) Γ (Eq2 (.x (.c (.own 0))) [.own 3 .int (gd c.states)]) zCj2 ({ n:=27,fr:=[(1,.x (.c (.loc 0 0))),(2,.p (.v (Value.slice none 0 0))),(3,.x (.c (.own 1))),(10,.p (.lst .stat c.states)),(11,.i c.states.length),(12,.i ((k:Int)))],ck:=[zCj1 c,.own 3 .int ((List.range k).flatMap fun i=>if ((ETy.get .stat c.states i).depth==0)=true then dK c.states i else [])] }):=by
 have hf:=v.tre.shp.few
 have hm:c.states.length≤maxLen:=by unfold maxLen; omega
 have hsl:=BH v.tre
 intro n
 induction n with
 | zero=>?_
 | succ n ih=>?_
 all_goals
  intro k hn hk
  generalize hout:((List.range k).flatMap fun i=>if ((ETy.get .stat c.states i).depth==0)=true then dK c.states i else [])=out
  refine jg rL Tryz.func10 (let x1:List (Nat×SV):=[(1,.x (.c (.loc 0 0))),(2,.p (.v (Value.slice none 0 0))),(3,.x (.c (.own 1))),(10,.p (.lst .stat c.states)),(11,.i c.states.length),(12,.i (IntKind.wrap .i64 ((k:Int)+1)))]; let x2:List PI:=zCj2; .ite (decide ((k:Int)<(c.states.length:Int))) (.need (inRg k c.states.length) (.ite (Stat.depth (ETy.get .stat c.states k)==(0:Int)) (.need (Tre c.states∧(0:Int)≤(k:Int)∧(k:Int)<(c.states.length:Int)) (.need (room ((out++dK c.states k).length) 8) (.stop x2 { n:=27,fr:=x1,ck:=[zCj1 c,.own 3 .int (out++dK c.states k)] }))) (.stop x2 { n:=27,fr:=x1,ck:=[zCj1 c,.own 3 .int out] }))) (.ret (.x (.c (.own 0))) [.own 3 .int out])) ?_
  conv=>zeta
  have hs:=qv (l:=c.states) (k:=k)
  rw [hout] at hs
  refine ⟨fun hlt=>?_,fun hge=>?_⟩
  · have hk':k<c.states.length:=by have:=of_decide_eq_true hlt; omega
    have hp:=rG (l:=c.states) (n:=c.states.length) (k:=k+1) (by omega)
    have hp':_≤(gd c.states).length:=hp
    refine ⟨⟨by omega,by omega⟩,fun h0=>?_,fun h0=>?_⟩
    · rw [if_pos h0] at hs
      rw [hs] at hp'
      refine ⟨⟨v.tre,by omega,by omega⟩,⟨by omega,by unfold maxLen; omega⟩,?_⟩
      rw [aZ (aE hk' hm),← hs]
      first
      | (exfalso; omega)
      | exact ih (k+1) (by omega) (by omega)
    · rw [if_neg (by rw [h0]; decide),aN] at hs
      rw [aZ (aE hk' hm),← hs]
      first
      | (exfalso; omega)
      | exact ih (k+1) (by omega) (by omega)
  · have hke:k=c.states.length:=by have:=of_decide_eq_false hge; omega
    subst hke
    rw [← hout]; exact ⟨rfl,rfl⟩
theorem wP (v:Valid c):ag Tryz.prog 10 [.e .chart c] [] (.x (.c (.own 0))) [.own 3 .int (gd c.states)]:=by
 have hl:=(iK c).1 v.few
 refine dg rL Tryz.func10 (.need (c.vars.length≤2199023255552∧c.states.length≤2199023255552) (.ite (!cv c==(0:Int)) (.ret (.p (.v (Value.slice none 0 0))) []) (.stop zCj2 { n:=27,fr:=[(1,.x (.c (.loc 0 0))),(2,.p (.v (Value.slice none 0 0))),(3,.p (.v (Value.slice none 0 0))),(10,.p (.lst .stat c.states)),(11,.i c.states.length),(12,.i 0)],ck:=[zCj1 c] }))) fun Γ=>?_
 have hc:cv c=0:=(hX c).2 v
 refine ⟨⟨by omega,by omega⟩,fun hb=>?_,fun _=>?_⟩
 · exfalso
   have hb':(!cv c==0)=true:=hb
   rw [hc] at hb'; cases hb'
 · refine J.nilOwn 3 3 .int rfl (by kernel_rfl) ?_
   exact Hg c v Γ c.states.length 0 (by omega) (by omega)
end Go.Proofs.YtcopfgbbjdefbaaGreatDoor
namespace Go.Proofs.YtcopfgbbjdefbaaGreatDoor
open Go Go.Ev
set_option maxRecDepth 100000
/-! ### Begin, of a place that is no history's -/
/-! ### Right -/
def Cp:Cfg:=⟨bk,[oo]⟩
theorem CL:ah Tryz.prog Cp.tab:=(ah.cons yu ah.nil)
theorem sM (c:Chart) (hb:∀ s∈c.states,s.entry.length≤4398046511104∧s.leave.length≤4398046511104):ag Tryz.prog 11 [.e .chart c] [] (.x (.b (cv c==0))) []:=by
 refine dg CL Tryz.func11 (.need (∀ (s:ETy.den .stat),s∈c.states→s.entry.length≤4398046511104∧s.leave.length≤4398046511104) (.ret (.p (.bool (cv c==(0:Int)))) [])) fun Γ=>?_
 exact ⟨hb,rfl,rfl⟩
def ko:Ent:=(11,fun
 | [.agg [.pd (.str a),.pd (.lst .str b),.pd (.lst .var c),.pd (.lst .stat d),.pd (.lst .tran e)]],[]=>some (some (∀ s∈d,s.entry.length≤4398046511104∧s.leave.length≤4398046511104),.x (.c (.pd (.bool (cv ⟨a,b,c,d,e⟩==0)))),[])
 | _,_=>none)
theorem uC:EntOk Tryz.prog ko:=entOk fun vs ck=>by
 unfold ko; dsimp only; split
 · rename_i a b c d e; exact entS fun hp=>sM ⟨a,b,c,d,e⟩ hp
 · exact entN
/-! ### lists of places -/
abbrev zCk1:List PI:=[.code [1,1,0,1,0,0],.inLoop [1,1,0,1,0,0],.inBlock 0,.code [1,1,1]]
variable (a l b:List Int) (m:Int) (Γ:Ctx)
theorem FH (hl:a.length≤maxLen) (hab:a.length=b.length):∀ (n k:Nat),a.length - k≤n→k≤a.length →
 J Tryz.prog 12 (aw Tryz.f12) Γ (Eq2 (.x (.b (a.drop k==b.drop k))) []) zCk1 ({ n:=26,fr:=[(0,.p (.lst .int a)),(1,.p (.lst .int b)),(4,.p (.bool false)),(5,.i k)],ck:=[],kn:=[4] }):=by
 intro n
 induction n with
 | zero=>?_
 | succ n ih=>?_
 all_goals
  intro k hn hk
  refine jg aT Tryz.func12 (.ite (decide ((k:Int)<(a.length:Int))) (.need (inRg k a.length) (.need (inRg k b.length) (.ite (ETy.get .int a k != ETy.get .int b k) (.ret (.p (.bool false)) []) (.stop zCk1 { n:=26,fr:=[(0,.p (.lst .int a)),(1,.p (.lst .int b)),(4,.p (.bool false)),(5,.i (IntKind.wrap .i64 ((k:Int)+1)))],ck:=[] })))) (.ret (.p (.bool true)) [])) ?_
  refine ⟨fun hlt=>?_,fun hge=>?_⟩
  · have hk':k<a.length:=by have:=of_decide_eq_true hlt; omega
    rw [bL (t:=.int) (l:=a) hk']
    generalize ETy.get .int a k=v
    rw [bL (t:=.int) (l:=b) (by omega)]
    refine ⟨⟨by omega,by omega⟩,⟨by omega,by omega⟩,?_⟩
    generalize ETy.get .int b k=u
    refine ⟨fun hb=>⟨?_,rfl⟩,fun hb=>?_⟩
    · have hb':(v==u)=false:=nt hb
      rw [List.cons_beq_cons,hb',bj]
    · have hb':(v==u)=true:=nf hb
      rw [List.cons_beq_cons,hb',aV]; (rw [aZ (aE hk' hl)]; first | (exfalso; omega) | exact J.kn [4] (ih (k+1) (by omega) (by omega)))
  · rw [bY (l:=a) (by have:=of_decide_eq_false hge; omega)]
    rw [bY (l:=b) (by have:=of_decide_eq_false hge; omega)]; exact ⟨rfl,rfl⟩
theorem wF:ag Tryz.prog 12 [.l .int a,.l .int b] [] (.x (.b (a==b))) []:=by
 refine dg aT Tryz.func12 (.ite ((a.length:Int) != (b.length:Int)) (.ret (.p (.bool false)) []) (.stop zCk1 { n:=26,fr:=[(0,.p (.lst .int a)),(1,.p (.lst .int b)),(4,.p (.bool false)),(5,.i 0)],ck:=[],kn:=[4] })) fun Γ=>?_
 refine ⟨fun h=>?_,fun h=>?_⟩
 · have hne:a.length≠b.length:=by
    have:(a.length:Int)≠b.length:=by simpa using h
    omega
   rw [show (a==b)=false from by rw [beq_eq_false_iff_ne]; exact fun e=>hne (by rw [e])]; exact ⟨rfl,rfl⟩
 · have hab:a.length=b.length:=by
    have:(a.length:Int)=b.length:=by simpa using h
    omega
   exact J.len 0 rfl fun hl=>FH a b Γ hl hab a.length 0 (by omega) (by omega)
def qf:Ent:=(12,fun
 | [.c (.pd (.lst .int a)),.c (.pd (.lst .int b))],[]=>some (none,.x (.c (.pd (.bool (a==b)))),[])
 | _,_=>none)
theorem C4:EntOk Tryz.prog qf:=entOk fun vs ck=>by
 unfold qf; dsimp only; split
 · rename_i a b; exact entS fun hp=>wF a b
 · exact entN
abbrev zCk2:List PI:=[.code [1,0,1,0,0],.inLoop [1,0,1,0,0],.inBlock 0,.code [1,1]]
theorem EO (hl:l.length≤maxLen)  : ∀ (n k:Nat),l.length - k≤n→k≤l.length →
 J Tryz.prog 19 (aw Tryz.f19) Γ (Eq2 (.x (.b (inB (l.drop k) m))) []) zCk2 ({ n:=18,fr:=[(0,.p (.lst .int l)),(1,.i m),(4,.p (.bool false)),(5,.i k)],ck:=[],kn:=[4] }):=by
 intro n
 induction n with
 | zero=>?_
 | succ n ih=>?_
 all_goals
  intro k hn hk
  refine jg aT Tryz.func19 (.ite (decide ((k:Int)<(l.length:Int))) (.need (inRg k l.length) (.ite (ETy.get .int l k==m) (.ret (.p (.bool true)) []) (.stop zCk2 { n:=18,fr:=[(0,.p (.lst .int l)),(1,.i m),(4,.p (.bool false)),(5,.i (IntKind.wrap .i64 ((k:Int)+1)))],ck:=[],kn:=[4] }))) (.ret (.p (.bool false)) [])) ?_
  refine ⟨fun hlt=>?_,fun hge=>?_⟩
  · have hk':k<l.length:=by have:=of_decide_eq_true hlt; omega
    rw [bL (t:=.int) (l:=l) hk']
    refine ⟨by omega,?_⟩
    generalize ETy.get .int l k=v
    refine ⟨fun hb=>⟨?_,rfl⟩,fun hb=>?_⟩
    · have hb':(v==m)=true:=hb
      unfold inB; rw [cI,hb']; rfl
    · have hb':(v==m)=false:=hb
      unfold inB; rw [cI,hb',aX]; (rw [aZ (aE hk' hl)]; first | (exfalso; omega) | exact ih (k+1) (by omega) (by omega) | exact J.kn [4] (ih (k+1) (by omega) (by omega)))
  · rw [bY (l:=l) (by have:=of_decide_eq_false hge; omega)]
    exact ⟨rfl,rfl⟩
theorem Fe:ag Tryz.prog 19 [.l .int (l),.i (m)] [] (.x (.b (inB l m))) []:=by
 refine dg aT Tryz.func19 (.stop zCk2 { n:=18,fr:=[(0,.p (.lst .int l)),(1,.i m),(4,.p (.bool false)),(5,.i 0)],ck:=[],kn:=[4] }) fun Γ=>?_
 exact J.len 0 rfl fun hl=>EO l m Γ hl l.length 0 (by omega) (by omega)
def xY:Ent:=(19,fun
 | [.c (.pd (.lst .int l)),.c (.pd (.int .i64 m))],[]=>some (none,.x (.c (.pd (.bool (inB l m)))),[])
 | _,_=>none)
theorem HD:EntOk Tryz.prog xY:=entOk fun vs ck=>by
 unfold xY; dsimp only; split
 · rename_i l m; exact entS fun hp=>Fe l m
 · exact entN
end Go.Proofs.YtcopfgbbjdefbaaGreatDoor
namespace Go.Proofs.YtcopfgbbjdefbaaGreatDoor
open Go Go.Ev
set_option maxRecDepth 100000
variable (l:List Ev.Stat) (a:List Bool) (i j:Nat)
def gl:List Int:=(cE l (i:Int) l.length).filter fun y=>!aY (ETy.get .stat l y.toNat).kind
def gi:List Bool→List Int→List Bool
 | a,[]=>a
 | a,y::r=>gi (a.set y.toNat true) r
def fA:List Bool:=if ((ETy.get .stat l i).depth==0)=true then a.set i true else a
def fJ (l:List Ev.Stat) (ch:Nat→Int→Int):Nat→Nat→List Bool→Int→List Bool
 | 0,_,a,_=>a
 | f+1,i,a,n =>
   if (!(fA l a i).getD i false)=true then fJ l ch f (i+1) (fA l a i) n
   else if ((ETy.get .stat l i).kind==3)=true then fJ l ch f (i+1) (gi (fA l a i) (gl l i)) n
   else if ((ETy.get .stat l i).kind==2)=true then fJ l ch f (i+1) ((fA l a i).set (ch i n).toNat true) (IntKind.wrap .i64 (n+1))
   else fJ l ch f (i+1) (fA l a i) n
def tV (ch:Nat→Int→Int):List Bool:=fJ l ch l.length 0 (List.replicate l.length false) 0
def fB (ch:Nat→Int→Int):List Int:=((List.range l.length).filter fun i=>(tV l ch).getD i false).map fun i:Nat=>(i:Int)
def q8 (ch:Nat→Int→Int):Prop:=∀ (i:Nat) (n:Int),i<l.length→knd l i=2→∃ q:Nat,ch i n=(q:Int)∧q<l.length∧upM l q=(i:Int)∧aY (knd l q)=false
theorem l3 {l:List Ev.Stat} (S:Shp l) {i:Nat} (hi:i<l.length) (y:Int):y∈gl l i↔∃ m:Nat,y=(m:Int)∧m<l.length∧upM l m=(i:Int)∧aY (knd l m)=false:=by
 unfold gl
 rw [aA,rS S hi]
 constructor
 · rintro ⟨⟨m,rfl,h1,h2⟩,h3⟩
   rw [aj] at h3
   exact ⟨m,rfl,h1,h2,by simpa using h3⟩
 · rintro ⟨m,rfl,h1,h2,h3⟩
   refine ⟨⟨m,rfl,h1,h2⟩,?_⟩
   rw [aj]
   have h3':aY (ETy.get .stat l m).kind=false:=h3
   rw [h3']; rfl
theorem vN {l:List Ev.Stat} (t:Tre l) {i:Nat} (hi:i<l.length) (hk:knd l i=2∨knd l i=3):0<(gl l i).length:=by
 obtain ⟨m,h1,h2,h3⟩:=((ka t.shp hi).1 (xi t.right hi)).2 hk
 exact List.length_pos_of_mem ((l3 t.shp hi _).2 ⟨m,rfl,h1,h2,h3⟩)
theorem nu:(a.set i true).getD j false=(a.getD j false||(decide (j=i)&&decide (j<a.length))):=by
 rw [List.getD_eq_getElem?_getD,List.getD_eq_getElem?_getD,List.getElem?_set]
 by_cases h:i=j
 · subst h
   rw [if_pos rfl]
   by_cases h2:i<a.length
   · rw [if_pos h2]; simp [h2]
   · rw [if_neg h2]; simp [h2]
 · rw [if_neg h,decide_eq_false (fun e=>h e.symm)]; simp
theorem jG:∀ (r:List Int) (a:List Bool) (j:Nat),(gi a r).length=a.length∧(gi a r).getD j false=(a.getD j false||(r.any (fun y=>decide (j=y.toNat))&&decide (j<a.length)))
 | [],a,j=>by simp [gi]
 | y::r,a,j=>by
   have ih:=jG r (a.set y.toNat true) j
   rw [bo] at ih
   refine ⟨ih.1,?_⟩
   rw [gi,ih.2,nu,cI]
   cases a.getD j false <;> cases decide (j=y.toNat) <;> cases decide (j<a.length) <;> simp
structure Mrk (l:List Ev.Stat) (c:Nat→Nat) (i:Nat) (a:List Bool):Prop where
 len:a.length=l.length
 real:∀ p,p<i→p<l.length→knd l p=2→a.getD p false=true→c p<l.length∧upM l (c p)=(p:Int)∧aY (knd l (c p))=false
 on:∀ j,j<l.length→(a.getD j false=true↔(dep l j=0∧j<i)∨∃ p,p<i∧upM l j=(p:Int)∧a.getD p false=true∧(knd l p=3∨(knd l p=2∧c p=j)))
theorem DD (hi:i<a.length):(fA l a i).length=a.length∧((fA l a i).getD j false=true↔a.getD j false=true∨(j=i∧dep l i=0)):=by
 unfold fA
 by_cases h:dep l i=0
 · rw [if_pos (by simpa using (show (ETy.get .stat l i).depth=0 from h)),bo,nu]
   refine ⟨rfl,?_⟩
   rw [aO,af,decide_eq_true_eq,decide_eq_true_eq]
   exact ⟨fun h2=>h2.imp id fun h3=>⟨h3.1,h⟩,fun h2=>h2.imp id fun h3=>⟨h3.1,by omega⟩⟩
 · rw [if_neg (by simpa using (show ¬(ETy.get .stat l i).depth=0 from h))]
   exact ⟨rfl,⟨.inl,fun h2=>h2.elim id fun h3=>absurd h3.2 h⟩⟩
theorem lN {l:List Ev.Stat} (t:Tre l) {c c':Nat→Nat} {i:Nat} (hi:i<l.length) {a b:List Bool} (h:Mrk l c i a) (hlen:b.length=l.length) (hc:∀ p,p<i→c' p=c p) (N:Nat→Prop)
 (hb:∀ j,j<l.length→(b.getD j false=true↔(a.getD j false=true∨(j=i∧dep l i=0))∨N j))
 (hN:∀ j,j<l.length→(N j↔((a.getD i false=true∨dep l i=0)∧upM l j=(i:Int)∧(knd l i=3∨(knd l i=2∧c' i=j)))))
 (hr:(a.getD i false=true∨dep l i=0)→knd l i=2→c' i<l.length∧upM l (c' i)=(i:Int)∧aY (knd l (c' i))=false):Mrk l c' (i+1) b:=by
 have hlt:∀ {j:Nat},j<l.length→upM l j=(i:Int)→i<j:=fun {j} hj hu=>((eY t.shp hj).1 hu).1
 have nb:∀ p,p≤i→¬N p:=fun p hp hn=>by
  have:=hlt (by omega) ((hN p (by omega)).1 hn).2.1; omega
 have hbp:∀ p,p<i→(b.getD p false=true↔a.getD p false=true):=fun p hp=>by
  rw [hb p (by omega)]
  exact ⟨fun h2=>h2.elim (fun h3=>h3.elim id fun h4=>by omega) fun h3=>absurd h3 (nb p (by omega)),fun h2=>.inl (.inl h2)⟩
 have hbi:b.getD i false=true↔(a.getD i false=true∨dep l i=0):=by
  rw [hb i hi]
  exact ⟨fun h2=>h2.elim (fun h3=>h3.imp id fun h4=>h4.2) fun h3=>absurd h3 (nb i (ar _)),fun h2=>.inl (h2.imp id fun h3=>⟨rfl,h3⟩)⟩
 refine ⟨hlen,fun p hp hpl hk hp2=>?_,fun j hj=>?_⟩
 · by_cases he:p=i
   · subst he; exact hr (hbi.1 hp2) hk
   · rw [hc p (by omega)]
     exact h.real p (by omega) hpl hk ((hbp p (by omega)).1 hp2)
 · rw [hb j hj,h.on j hj,hN j hj]
   constructor
   · rintro (((⟨h1,h2⟩ | ⟨p,h1,h2,h3,h4⟩) | ⟨h1,h2⟩) | ⟨h1,h2,h3⟩)
     · exact .inl ⟨h1,by omega⟩
     · exact .inr ⟨p,by omega,h2,(hbp p h1).2 h3,by rw [hc p h1]; exact h4⟩
     · subst h1; exact .inl ⟨h2,by omega⟩
     · exact .inr ⟨i,by omega,h2,hbi.2 h1,h3⟩
   · rintro (⟨h1,h2⟩ | ⟨p,h1,h2,h3,h4⟩)
     · by_cases he:j=i
       · subst he; exact .inl (.inr ⟨rfl,h1⟩)
       · exact .inl (.inl (.inl ⟨h1,by omega⟩))
     · by_cases he:p=i
       · subst he; exact .inr ⟨hbi.1 h3,h2,h4⟩
       · refine .inl (.inl (.inr ⟨p,by omega,h2,(hbp p (by omega)).1 h3,?_⟩))
         rw [← hc p (by omega)]; exact h4
theorem lB {l:List Ev.Stat} (t:Tre l) {ch:Nat→Int→Int} (hch:q8 l ch):∀ (f i:Nat) (a:List Bool) (n:Int) (c:Nat→Nat),l.length - i=f→i≤l.length→Mrk l c i a→∃ c',Mrk l c' l.length (fJ l ch f i a n)
 | 0,i,a,n,c,hf,hi,h=>by
   have:i=l.length:=by omega
   subst this
   exact ⟨c,h⟩
 | f + 1, i, a,n,c,hf,hi,h=>by
   have hil:i<l.length:=by omega
   have hr:=fun j=>DD l a i j (by rw [h.len]; exact hil)
   rw [fJ]
   by_cases hon:(fA l a i).getD i false=true
   · rw [hon,bX,if_neg (by decide)]
     have hact:a.getD i false=true∨dep l i=0:=((hr i).2.1 hon).imp id fun h=>h.2
     by_cases h3:knd l i=3
     · rw [if_pos (by simpa using h3)]
       refine lB t hch f (i+1) _ n c (by omega) (by omega) (lN t hil h ?_ (fun _ _=>rfl) (fun j=>upM l j=(i:Int)) (fun j hj=>?_) (fun j hj=>?_) fun _ hk=>?_)
       · rw [(jG _ _ 0).1,(hr 0).1,h.len]
       · rw [(jG _ _ j).2,aO,af,(hr j).2,decide_eq_true_eq,(hr j).1,h.len,bB]
         constructor
         · rintro (h4 | ⟨⟨y,hy,e⟩,_⟩)
           · exact .inl h4
           · obtain ⟨m,rfl,_,h6,_⟩:=(l3 t.shp hil y).1 hy
             have e':=of_decide_eq_true e
             rw [aj] at e'
             subst e'; exact .inr h6
         · rintro (h4 | h4)
           · exact .inl h4
           · refine .inr ⟨⟨(j:Int),(l3 t.shp hil _).2 ⟨j,rfl,hj,h4,?_⟩,by rw [aj]; exact decide_eq_true rfl⟩,hj⟩
             rcases t.both hj h4 with h5 | ⟨_,h5⟩
             · rw [h3] at h5; exact absurd h5 (by decide)
             · cases hp:aY (knd l j)
               · rfl
               · rcases (uu _).1 hp with h6 | h6 <;> omega
       · exact ⟨fun h4=>⟨hact,h4,.inl h3⟩,fun h4=>h4.2.1⟩
       · rw [h3] at hk; exact absurd hk (by decide)
     · rw [if_neg (by simpa using h3)]
       by_cases h2:knd l i=2
       · rw [if_pos (by simpa using h2)]
         obtain ⟨q,e,hq1,hq2,hq3⟩:=hch i n hil h2
         refine lB t hch f (i+1) _ _ (fun p=>if p=i then q else c p) (by omega) (by omega) (lN t hil h ?_ (fun p hp=>if_neg (by omega)) (fun j=>j=q) (fun j hj=>?_) (fun j hj=>?_) fun _ _=>?_)
         · rw [bo,(hr 0).1,h.len]
         · rw [e,aj,nu,aO,af,(hr j).2,decide_eq_true_eq,decide_eq_true_eq,(hr j).1,h.len]
           exact ⟨fun h4=>h4.imp id fun h5=>h5.1,fun h4=>h4.imp id fun h5=>⟨h5,hj⟩⟩
         · rw [if_pos rfl]
           refine ⟨fun h4=>⟨hact,by rw [h4]; exact hq2,.inr ⟨h2,h4.symm⟩⟩,fun h4=>?_⟩
           rcases h4.2.2 with h5 | h5
           · exact absurd h5 h3
           · exact h5.2.symm
         · rw [if_pos rfl]; exact ⟨hq1,hq2,hq3⟩
       · rw [if_neg (by simpa using h2)]
         refine lB t hch f (i+1) _ n c (by omega) (by omega) (lN t hil h ?_ (fun _ _=>rfl) (fun _=>False) (fun j hj=>?_) (fun j hj=>?_) fun _ hk=>absurd hk h2)
         · rw [(hr 0).1,h.len]
         · rw [(hr j).2,or_false]
         · exact ⟨fun h=>h.elim,fun h4=>h4.2.2.elim (fun h5=>h3 h5) fun h5=>h2 h5.1⟩
   · have hoff:(fA l a i).getD i false=false:=by simpa using hon
     rw [hoff,cn,if_pos rfl]
     have hno:¬(a.getD i false=true∨dep l i=0):=fun h2=>hon ((hr i).2.2 (h2.imp id fun h3=>⟨rfl,h3⟩))
     refine lB t hch f (i+1) _ n c (by omega) (by omega) (lN t hil h ?_ (fun _ _=>rfl) (fun _=>False) (fun j hj=>?_) (fun j hj=>?_) fun h4 _=>absurd h4 hno)
     · rw [(hr 0).1,h.len]
     · rw [(hr j).2,or_false]
     · exact ⟨fun h=>h.elim,fun h4=>hno h4.1⟩
theorem pJ {l:List Ev.Stat} (t:Tre l) {ch:Nat→Int→Int} (hch:q8 l ch):Lgl l (fB l ch):=by
 obtain ⟨c,h⟩:=lB t hch l.length 0 (List.replicate l.length false) 0 (fun _=>0) (by omega) (by omega) ⟨by simp,fun p hp=>by omega,fun j hj=>by
  rw [List.getD_eq_getElem?_getD,List.getElem?_replicate,if_pos hj]
  exact ⟨fun h=>(by cases h),fun h=>h.elim (fun h=>by omega) fun ⟨p,hp,_⟩=>by omega⟩⟩
 have h':Mrk l c l.length (tV l ch):=h
 refine Iv t (nI _ _) (fun j=>(tV l ch).getD j false=true) (fun p q=>c p=q) (fun y=>?_) (fun p hp hk hon=>?_) (fun j hj=>?_)
 · unfold fB
   rw [aQ]
   constructor
   · rintro ⟨j,hj,rfl⟩
     rw [aA,ba] at hj
     exact ⟨j,rfl,hj.1,hj.2⟩
   · rintro ⟨j,rfl,h1,h2⟩
     exact ⟨j,by rw [aA,ba]; exact ⟨h1,h2⟩,rfl⟩
 · obtain ⟨h1,h2,h3⟩:=h'.real p hp hp hk hon
   exact ⟨c p,h1,h2,h3,rfl,fun m _ _ e=>e.symm⟩
 · rw [h'.on j hj]
   constructor
   · rintro (⟨h1,_⟩ | ⟨p,h1,h2,h3,h4⟩)
     · exact .inl h1
     · exact .inr ⟨p,h2,h3,h4⟩
   · rintro (h1 | ⟨p,h2,h3,h4⟩)
     · exact .inl ⟨h1,hj⟩
     · have:=((eY t.shp hj).1 h2).1
       exact .inr ⟨p,by omega,h2,h3,h4⟩
/-! ### which states are over -/
end Go.Proofs.YtcopfgbbjdefbaaGreatDoor

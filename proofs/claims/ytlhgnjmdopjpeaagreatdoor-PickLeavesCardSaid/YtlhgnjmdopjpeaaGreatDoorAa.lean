/- A configuration by choices is legal; which states are over (plain). Conditions: a valid chart. What is entered from a state down, by a choice of children: the program's walk down and the document's words are alike (plain). Conditions: a right tree. A configuration behind a transition is legal; what histories remember is right (plain). Conditions: a valid chart. Contracts: none; plain: what is taken (layer 11). Conditions: none. -/
import Derived.Test.YtlhgnjmdopjpeaaGreatDoorCc
namespace Go.Proofs.YtlhgnjmdopjpeaaGreatDoor
open Go Go.Ev
set_option maxRecDepth 100000
variable(l:List Ev.Stat)(a:List Bool)(i j:Nat)
def jx:List Int:=(dq l (i:Int) l.length).filter fun y=>!a7 (ETy.get .stat l y.toNat).kind
def jj:List Bool→List Int→List Bool
 |a,[]=>a
 |a,y::r=>jj (a.set y.toNat true) r
def iC:List Bool:=if((ETy.get .stat l i).depth==0)=true then a.set i true else a
def iG(l:List Ev.Stat)(ch:Nat→Int→Int):Nat→Nat→List Bool→Int→List Bool
 |0,_,a,_=>a
 | f+1,i,a,n =>
   if(!(iC l a i).getD i false)=true then iG l ch f (i+1) (iC l a i) n
   else if((ETy.get .stat l i).kind==3)=true then iG l ch f (i+1) (jj (iC l a i) (jx l i)) n
   else if((ETy.get .stat l i).kind==2)=true then iG l ch f (i+1) ((iC l a i).set (ch i n).toNat true) (IntKind.wrap .i64 (n+1))
   else iG l ch f (i+1) (iC l a i) n
def B7(ch:Nat→Int→Int):List Bool:=iG l ch l.length 0 (List.replicate l.length false) 0
def gA(ch:Nat→Int→Int):List Int:=((List.range l.length).filter fun i=>(B7 l ch).getD i false).map fun i:Nat=>(i:Int)
def vL(ch:Nat→Int→Int):Prop:=∀(i:Nat) (n:Int),i<l.length→knd l i=2→∃q:Nat,ch i n=(q:Int)∧q<l.length∧upM l q=(i:Int)∧a7 (knd l q)=false
theorem pC{l:List Ev.Stat}(S:Shp l){i:Nat}(hi:i<l.length)(y:Int):y∈jx l i↔∃m:Nat,y=(m:Int)∧m<l.length∧upM l m=(i:Int)∧a7 (knd l m)=false:=by
 unfold jx
 rw[az,xP S hi]
 constructor
 · rintro⟨⟨m,rfl,h1,h2⟩,h3⟩
   rw[ai]at h3
   exact⟨m,rfl,h1,h2,by simpa using h3⟩
 · rintro⟨m,rfl,h1,h2,h3⟩
   refine⟨⟨m,rfl,h1,h2⟩,?_⟩
   rw[ai]
   have h3':a7 (ETy.get .stat l m).kind=false:=h3
   rw[h3'];rfl
theorem BP{l:List Ev.Stat}(t:Tre l){i:Nat}(hi:i<l.length)(hk:knd l i=2∨knd l i=3):0<(jx l i).length:=by
 obtain⟨m,h1,h2,h3⟩:=((kT t.shp hi).1 (wM t.right hi)).2 hk
 exact eJ ((pC t.shp hi _).2 ⟨m,rfl,h1,h2,h3⟩)
theorem qC:(a.set i true).getD j false=(a.getD j false||(decide (j=i)&&decide (j<a.length))):=by
 rw[List.getD_eq_getElem?_getD,List.getD_eq_getElem?_getD,List.getElem?_set]
 by_cases h:i=j
 · subst h
   rw[if_pos rfl]
   by_cases h2:i<a.length
   ·rw[if_pos h2];simp[h2]
   ·rw[if_neg h2];simp[h2]
 ·rw[if_neg h,decide_eq_false (fun e=>h e.symm)];simp
theorem mn:∀(r:List Int) (a:List Bool) (j:Nat),(jj a r).length=a.length∧(jj a r).getD j false=(a.getD j false||(r.any (fun y=>decide (j=y.toNat))&&decide (j<a.length)))
 |[],a,j=>by simp[jj]
 | y::r,a,j=>by
   have ih:=mn r (a.set y.toNat true) j
   rw[bA]at ih
   refine⟨ih.1,?_⟩
   rw[jj,ih.2,qC,cM]
   cases a.getD j false <;> cases decide (j=y.toNat) <;> cases decide (j<a.length) <;> simp
structure Mrk (l:List Ev.Stat) (c:Nat→Nat) (i:Nat) (a:List Bool):Prop where
 len:a.length=l.length
 real:∀p,p<i→p<l.length→knd l p=2→a.getD p false=true→c p<l.length∧upM l (c p)=(p:Int)∧a7 (knd l (c p))=false
 on:∀j,j<l.length→(a.getD j false=true↔(dep l j=0∧j<i)∨∃p,p<i∧upM l j=(p:Int)∧a.getD p false=true∧(knd l p=3∨(knd l p=2∧c p=j)))
theorem MP(hi:i<a.length):(iC l a i).length=a.length∧((iC l a i).getD j false=true↔a.getD j false=true∨(j=i∧dep l i=0)):=by
 unfold iC
 by_cases h:dep l i=0
 · rw[if_pos (by simpa using(show(ETy.get .stat l i).depth=0 from h)),bA,qC]
   refine⟨rfl,?_⟩
   rw[aM,af,decide_eq_true_eq,decide_eq_true_eq]
   exact⟨fun h2=>h2.imp id fun h3=>⟨h3.1,h⟩,fun h2=>h2.imp id fun h3=>⟨h3.1,by omega⟩⟩
 · rw[if_neg (by simpa using(show ¬(ETy.get .stat l i).depth=0 from h))]
   exact⟨rfl,⟨.inl,fun h2=>h2.elim id fun h3=>absurd h3.2 h⟩⟩
theorem px{l:List Ev.Stat}(t:Tre l){c c':Nat→Nat}{i:Nat}(hi:i<l.length){a b:List Bool}(h:Mrk l c i a)(hlen:b.length=l.length)(hc:∀p,p<i→c' p=c p)(N:Nat→Prop)
 (hb:∀j,j<l.length→(b.getD j false=true↔(a.getD j false=true∨(j=i∧dep l i=0))∨N j))
 (hN:∀j,j<l.length→(N j↔((a.getD i false=true∨dep l i=0)∧upM l j=(i:Int)∧(knd l i=3∨(knd l i=2∧c' i=j)))))
 (hr:(a.getD i false=true∨dep l i=0)→knd l i=2→c' i<l.length∧upM l (c' i)=(i:Int)∧a7 (knd l (c' i))=false):Mrk l c' (i+1) b:=by
 have hlt:∀{j:Nat},j<l.length→upM l j=(i:Int)→i<j:=fun{j} hj hu=>((dR t.shp hj).1 hu).1
 have nb:∀p,p≤i→¬N p:=fun p hp hn=>by
  have:=hlt (by omega) ((hN p (by omega)).1 hn).2.1;omega
 have hbp:∀p,p<i→(b.getD p false=true↔a.getD p false=true):=fun p hp=>by
  rw[hb p (by omega)]
  exact⟨fun h2=>h2.elim (fun h3=>h3.elim id fun h4=>by omega) fun h3=>absurd h3 (nb p (by omega)),fun h2=>.inl (.inl h2)⟩
 have hbi:b.getD i false=true↔(a.getD i false=true∨dep l i=0):=by
  rw[hb i hi]
  exact⟨fun h2=>h2.elim (fun h3=>h3.imp id fun h4=>h4.2) fun h3=>absurd h3 (nb i (ar _)),fun h2=>.inl (h2.imp id fun h3=>⟨rfl,h3⟩)⟩
 refine⟨hlen,fun p hp hpl hk hp2=>?_,fun j hj=>?_⟩
 · by_cases he:p=i
   ·subst he;exact hr (hbi.1 hp2) hk
   · rw[hc p (by omega)]
     exact h.real p (by omega) hpl hk ((hbp p (by omega)).1 hp2)
 · rw [hb j hj,h.on j hj,hN j hj]
   constructor
   · rintro(((⟨h1,h2⟩ |⟨p,h1,h2,h3,h4⟩) |⟨h1,h2⟩) |⟨h1,h2,h3⟩)
     ·exact .inl ⟨h1,by omega⟩
     ·exact .inr ⟨p,by omega,h2,(hbp p h1).2 h3,by rw[hc p h1];exact h4⟩
     ·subst h1;exact .inl ⟨h2,by omega⟩
     ·exact .inr ⟨i,by omega,h2,hbi.2 h1,h3⟩
   · rintro(⟨h1,h2⟩ |⟨p,h1,h2,h3,h4⟩)
     · by_cases he:j=i
       ·subst he;exact .inl (.inr ⟨rfl,h1⟩)
       ·exact .inl (.inl (.inl ⟨h1,by omega⟩))
     · by_cases he:p=i
       ·subst he;exact .inr ⟨hbi.1 h3,h2,h4⟩
       · refine .inl (.inl (.inr ⟨p,by omega,h2,(hbp p (by omega)).1 h3,?_⟩))
         rw[←hc p (by omega)];exact h4
theorem oQ{l:List Ev.Stat}(t:Tre l){ch:Nat→Int→Int}(hch:vL l ch):∀(f i:Nat) (a:List Bool) (n:Int) (c:Nat→Nat),l.length - i=f→i≤l.length→Mrk l c i a→∃c',Mrk l c' l.length (iG l ch f i a n)
 | 0,i,a,n,c,hf,hi,h=>by
   have:i=l.length:=by omega
   subst this
   exact⟨c,h⟩
 | f + 1, i, a,n,c,hf,hi,h=>by
   have hil:i<l.length:=by omega
   have hr:=fun j=>MP l a i j (by rw[h.len];exact hil)
   rw[iG]
   by_cases hon:(iC l a i).getD i false=true
   · rw [hon,bX,if_neg (by decide)]
     have hact:a.getD i false=true∨dep l i=0:=((hr i).2.1 hon).imp id fun h=>h.2
     by_cases h3:knd l i=3
     · rw [if_pos (by simpa using h3)]
       refine oQ t hch f (i+1) _ n c (by omega) (by omega) (px t hil h ?_ (fun _ _=>rfl) (fun j=>upM l j=(i:Int)) (fun j hj=>?_) (fun j hj=>?_) fun _ hk=>?_)
       ·rw[(mn _ _ 0).1,(hr 0).1,h.len]
       · rw [(mn _ _ j).2,aM,af,(hr j).2,decide_eq_true_eq,(hr j).1,h.len,bp]
         constructor
         · rintro(h4 |⟨⟨y,hy,e⟩,_⟩)
           ·exact .inl h4
           · obtain⟨m,rfl,_,h6,_⟩:=(pC t.shp hil y).1 hy
             have e':=of_decide_eq_true e
             rw[ai]at e'
             subst e';exact .inr h6
         · rintro(h4 |h4)
           ·exact .inl h4
           · refine .inr ⟨⟨(j:Int),(pC t.shp hil _).2 ⟨j,rfl,hj,h4,?_⟩,by rw[ai];exact decide_eq_true rfl⟩,hj⟩
             rcases t.both hj h4 with h5 |⟨_,h5⟩
             ·rw[h3]at h5;exact absurd h5 (by decide)
             · cases hp:a7 (knd l j)
               ·rfl
               ·rcases(tw _).1 hp with h6 |h6 <;> omega
       ·exact⟨fun h4=>⟨hact,h4,.inl h3⟩,fun h4=>h4.2.1⟩
       ·rw[h3]at hk;exact absurd hk (by decide)
     · rw [if_neg (by simpa using h3)]
       by_cases h2:knd l i=2
       · rw[if_pos (by simpa using h2)]
         obtain⟨q,e,hq1,hq2,hq3⟩:=hch i n hil h2
         refine oQ t hch f (i+1) _ _ (fun p=>if p=i then q else c p) (by omega) (by omega) (px t hil h ?_ (fun p hp=>if_neg (by omega)) (fun j=>j=q) (fun j hj=>?_) (fun j hj=>?_) fun _ _=>?_)
         ·rw[bA,(hr 0).1,h.len]
         · rw[e,ai,qC,aM,af,(hr j).2,decide_eq_true_eq,decide_eq_true_eq,(hr j).1,h.len]
           exact⟨fun h4=>h4.imp id fun h5=>h5.1,fun h4=>h4.imp id fun h5=>⟨h5,hj⟩⟩
         · rw[if_pos rfl]
           refine⟨fun h4=>⟨hact,by rw[h4];exact hq2,.inr ⟨h2,h4.symm⟩⟩,fun h4=>?_⟩
           rcases h4.2.2 with h5 |h5
           ·exact absurd h5 h3
           ·exact h5.2.symm
         ·rw[if_pos rfl];exact⟨hq1,hq2,hq3⟩
       · rw[if_neg (by simpa using h2)]
         refine oQ t hch f (i+1) _ n c (by omega) (by omega) (px t hil h ?_ (fun _ _=>rfl) (fun _=>False) (fun j hj=>?_) (fun j hj=>?_) fun _ hk=>absurd hk h2)
         ·rw[(hr 0).1,h.len]
         ·rw[(hr j).2,or_false]
         ·exact⟨fun h=>h.elim,fun h4=>h4.2.2.elim (fun h5=>h3 h5) fun h5=>h2 h5.1⟩
   · have hoff:(iC l a i).getD i false=false:=by simpa using hon
     rw[hoff,cD,if_pos rfl]
     have hno:¬(a.getD i false=true∨dep l i=0):=fun h2=>hon ((hr i).2.2 (h2.imp id fun h3=>⟨rfl,h3⟩))
     refine oQ t hch f (i+1) _ n c (by omega) (by omega) (px t hil h ?_ (fun _ _=>rfl) (fun _=>False) (fun j hj=>?_) (fun j hj=>?_) fun h4 _=>absurd h4 hno)
     ·rw[(hr 0).1,h.len]
     ·rw[(hr j).2,or_false]
     ·exact⟨fun h=>h.elim,fun h4=>hno h4.1⟩
theorem vF{l:List Ev.Stat}(t:Tre l){ch:Nat→Int→Int}(hch:vL l ch):Lgl l (gA l ch):=by
 obtain⟨c,h⟩:=oQ t hch l.length 0 (List.replicate l.length false) 0 (fun _=>0) (by omega) (by omega) ⟨by simp,fun p hp=>by omega,fun j hj=>by
  rw[List.getD_eq_getElem?_getD,List.getElem?_replicate,if_pos hj]
  exact⟨fun h=>(by cases h),fun h=>h.elim (fun h=>by omega) fun⟨p,hp,_⟩=>by omega⟩⟩
 have h':Mrk l c l.length (B7 l ch):=h
 refine Rt t (mY _ _) (fun j=>(B7 l ch).getD j false=true) (fun p q=>c p=q) (fun y=>?_) (fun p hp hk hon=>?_) (fun j hj=>?_)
 · unfold gA
   rw[aL]
   constructor
   · rintro⟨j,hj,rfl⟩
     rw[az,bB]at hj
     exact⟨j,rfl,hj.1,hj.2⟩
   · rintro⟨j,rfl,h1,h2⟩
     exact⟨j,by rw[az,bB];exact⟨h1,h2⟩,rfl⟩
 · obtain⟨h1,h2,h3⟩:=h'.real p hp hp hk hon
   exact⟨c p,h1,h2,h3,rfl,fun m _ _ e=>e.symm⟩
 · rw [h'.on j hj]
   constructor
   · rintro(⟨h1,_⟩ |⟨p,h1,h2,h3,h4⟩)
     ·exact .inl h1
     ·exact .inr ⟨p,h2,h3,h4⟩
   · rintro(h1 |⟨p,h2,h3,h4⟩)
     ·exact .inl ⟨h1,hj⟩
     · have:=((dR t.shp hj).1 h2).1
       exact .inr ⟨p,by omega,h2,h3,h4⟩
/-! ### which states are over -/
def Kid(l:List Ev.Stat)(ch:Nat→Int):Prop:=∀k,k<l.length→knd l k=2→∃q:Nat,ch k=(q:Int)∧q<l.length∧upM l q=(k:Int)
def r9(l:List Ev.Stat)(ch:Nat→Int)(i:Nat):List Int:=if((ETy.get .stat l i).kind==3)=true then bC l i else if((ETy.get .stat l i).kind==2)=true then[ch i]else[]
def dnC(l:List Ev.Stat)(ch:Nat→Int):Nat→Nat→List Int
 |0,_=>[]
 |n+1,i=>(r9 l ch i).flatMap fun k=>k::dnC l ch n k.toNat
variable{l:List Ev.Stat}
theorem pz(t:Tre l){ch:Nat→Int}(hc:Kid l ch){i:Nat}(hi:i<l.length)(y:Int):y∈r9 l ch i↔∃m:Nat,y=(m:Int)∧m<l.length∧upM l m=(i:Int)∧(knd l i=3∨(knd l i=2∧ch i=(m:Int))):=by
 unfold r9
 by_cases h3:knd l i=3
 · rw[if_pos (by simpa using h3),gP t.shp hi]
   exact⟨fun⟨m,a,b,c⟩=>⟨m,a,b,c,.inl h3⟩,fun⟨m,a,b,c,_⟩=>⟨m,a,b,c⟩⟩
 · rw [if_neg (by simpa using h3)]
   by_cases h2:knd l i=2
   · rw[if_pos (by simpa using h2),aS]
     constructor
     · rintro rfl
       obtain⟨q,e,h4,h5⟩:=hc i hi h2
       exact⟨q,e,h4,h5,.inr ⟨h2,e⟩⟩
     · rintro⟨m,rfl,_,_,h |h⟩
       ·exact absurd h h3
       ·exact h.2.symm
   · rw[if_neg (by simpa using h2)]
     exact⟨fun h=>(by cases h),fun⟨m,_,_,_,h⟩=>h.elim (fun h=>absurd h h3) fun h=>absurd h.1 h2⟩
theorem CL{ch:Nat→Int}{i:Nat}(hi:i<l.length):(r9 l ch i).Pairwise (fun x y=>((endM l x.toNat:Nat):Int)≤y):=by
 unfold r9
 split
 ·exact(nU l (endM l i) l.length (i+1) (dU l hi).2).1
 · split
   ·exact fQ _ _
   ·exact .nil
theorem EG{l:List Ev.Stat}(t:Tre l){ch:Nat→Int}(hc:Kid l ch):∀(n i:Nat),i<l.length→(dnC l ch n i).Pairwise (· < ·)∧∀y∈dnC l ch n i,(i:Int)<y∧y<((endM l i:Nat):Int)
 |0,i,_=>by rw[dnC];exact⟨.nil,fun y h=>(by cases h)⟩
 | n + 1,i,hi=>by
   have he:=dU l hi
   rw[dnC]
   have kid:∀y∈r9 l ch i,∃m:Nat,y=(m:Int)∧m<l.length∧i<m∧m<endM l i:=fun y hy=>by
    obtain⟨m,e,h1,h2,_⟩:=(pz t hc hi y).1 hy
    have:=(dR t.shp h1).1 h2
    exact⟨m,e,h1,this.1,this.2.1⟩
   have bound:∀m,m<l.length→∀y∈(m:Int)::dnC l ch n m,(m:Int)≤y∧y<((endM l m:Nat):Int):=fun m hm y hy=>by
    have h1:=dU l hm
    rcases aJ.1 hy with rfl |hy
    ·omega
    ·have:=(EG t hc n m hm).2 y hy;omega
   constructor
   · rw[List.pairwise_flatMap]
     refine⟨fun a ha=>?_,?_⟩
     · obtain⟨m,rfl,hm,_⟩:=kid a ha
       rw[ai]
       have ih:=EG t hc n m hm
       exact cu.2 ⟨fun y hy=>(ih.2 y hy).1,ih.1⟩
     · refine List.Pairwise.imp_of_mem (fun{a b} ha hb hab x hx y hy=>?_) (CL hi)
       obtain⟨m,rfl,hm,_⟩:=kid a ha
       obtain⟨m2,rfl,hm2,_⟩:=kid b hb
       rw[ai]at hx hy hab
       have h5:=bound m hm x hx
       have h6:=bound m2 hm2 y hy
       omega
   · intro y hy
     obtain⟨a,ha,hy⟩:=aU.1 hy
     obtain⟨m,rfl,hm,h5,h6⟩:=kid a ha
     rw[ai]at hy
     have h7:=bound m hm y hy
     have h8:=jW l hi h5 h6
     omega
inductive Rchd (l:List Ev.Stat) (ch:Nat→Int) (i:Nat):Nat→Prop where
 |self:Rchd l ch i i
 |step {p j:Nat}:Rchd l ch i p→j<l.length→upM l j=(p:Int)→(knd l p=3∨(knd l p=2∧ch p=(j:Int)))→Rchd l ch i j
theorem Rchd.lt(t:Tre l){ch:Nat→Int}{i j:Nat}(hi:i<l.length)(h:Rchd l ch i j):j<l.length∧i≤j:=by
 induction h with
 |self=>exact⟨hi,ar _⟩
 |step h1 h2 h3 _ ih=>exact⟨h2,by have:=((dR t.shp h2).1 h3).1;omega⟩
theorem Rchd.head{ch:Nat→Int}{i q j:Nat}(hq:q<l.length)(hu:upM l q=(i:Int))(h:knd l i=3∨(knd l i=2∧ch i=(q:Int)))(hb:Rchd l ch q j):Rchd l ch i j:=by
 induction hb with
 |self=>exact .step .self hq hu h
 |step _ h2 h3 h4 ih=>exact .step ih h2 h3 h4
theorem A3{l:List Ev.Stat}(t:Tre l){ch:Nat→Int}(hc:Kid l ch):∀(n i:Nat) (y:Int),i<l.length→y∈dnC l ch n i→∃j:Nat,y=(j:Int)∧j≠i∧Rchd l ch i j
 |0,_,_,_,h=>by rw[dnC]at h;cases h
 | n + 1,i,y,hi,h=>by
   rw[dnC]at h
   obtain⟨a,ha,hy⟩:=aU.1 h
   obtain⟨m,rfl,hm,hu,hk⟩:=(pz t hc hi a).1 ha
   have him:=((dR t.shp hm).1 hu).1
   rw[ai]at hy
   rcases aJ.1 hy with rfl |hy
   ·exact⟨m,rfl,by omega,.step .self hm hu hk⟩
   · obtain⟨j,e,_,hb⟩:=A3 t hc n m y hm hy
     have:=hb.lt t hm
     exact⟨j,e,by omega,hb.head hm hu hk⟩
theorem A2{l:List Ev.Stat}(t:Tre l){ch:Nat→Int}(hc:Kid l ch):∀(n i:Nat),i<l.length→l.length - i<n→∀{p j:Nat},(p=i∨(p:Int)∈dnC l ch n i)→j<l.length→upM l j=(p:Int)→(knd l p=3∨(knd l p=2∧ch p=(j:Int)))→(j:Int)∈dnC l ch n i
 |0,i,hi,h,_,_,_,_,_,_=>by omega
 | n + 1,i,hi,hn,p,j,hp,hj,hu,hk=>by
   rw[dnC]at hp ⊢
   rcases hp with rfl |hp
   ·refine aU.2 ⟨(j:Int),(pz t hc hi _).2 ⟨j,rfl,hj,hu,hk⟩,aA⟩
   · obtain⟨a,ha,hy⟩:=aU.1 hp
     obtain⟨m,rfl,hm,hum,_⟩:=(pz t hc hi a).1 ha
     have him:=((dR t.shp hm).1 hum).1
     refine aU.2 ⟨(m:Int),ha,?_⟩
     rw[ai]at hy ⊢
     refine aH _ (A2 t hc n m hm (by omega) ?_ hj hu hk)
     rcases aJ.1 hy with h |h
     ·exact .inl (by omega)
     ·exact .inr h
theorem QO(t:Tre l){ch:Nat→Int}(hc:Kid l ch){i:Nat}(hi:i<l.length)(y:Int):y∈dnC l ch (l.length+1) i↔∃j:Nat,y=(j:Int)∧j≠i∧Rchd l ch i j:=by
 refine⟨A3 t hc _ i y hi,?_⟩
 rintro⟨j,rfl,hne,h⟩
 induction h with
 |self=>exact absurd rfl hne
 | @step p j h1 h2 h3 h4 ih =>
   refine A2 t hc _ i hi (by omega) ?_ h2 h3 h4
   by_cases hp:p=i
   ·exact .inl hp
   ·exact .inr (ih hp)
/-! ### the document's words -/
/-! ### targets -/
def Cm(l:List Ev.Stat)(ts:List Int)(k:Int):Bool:=ts.any fun t=>decide (t≥k)&&decide (t<((endM l k.toNat:Nat):Int))
def tL(l:List Ev.Stat)(ts:List Int)(i:Nat):Int:=match(bC l i).find? fun k=>Cm l ts k with
 |some k=>k
 |none=>aG l (ETy.get .stat l i).initial
def dnM(l:List Ev.Stat)(ts:List Int)(i:Nat):List Int:=dnC l (tL l ts) (l.length+1) i
theorem D4(t:Tre l)(ts:List Int):Kid l (tL l ts):=by
 intro k hk h2
 unfold tL
 cases hf:(bC l k).find? fun y=>Cm l ts y with
 | none =>
   obtain⟨q,e,hq,hu,_⟩:=t.init hk h2
   exact⟨q,e,hq,hu⟩
 | some y =>
   obtain⟨m,e,hm,hu⟩:=(gP t.shp hk y).1 (List.mem_of_find?_eq_some hf)
   exact⟨m,e,hm,hu⟩
def QG(l:List Ev.Stat)(ch:Nat→Int):Prop:=∀k,k<l.length→knd l k=2→∃q:Nat,ch k=(q:Int)∧q<l.length∧upM l q=(k:Int)∧a7 (knd l q)=false
variable{l:List Ev.Stat}
theorem QG.kid{ch:Nat→Int}(h:QG l ch):Kid l ch:=fun k hk h2=>by
 obtain⟨q,a,b,c,_⟩:=h k hk h2
 exact⟨q,a,b,c⟩
theorem wR(t:Tre l){s:List Int}(h:Lgl l s){u:Nat}(hu:u<l.length)(hus:(u:Int)∈s){ts:List Int}(hts:∀x:Int,x∈ts↔x∈s∧ju l x=true∧(u:Int)<x∧x<((endM l u:Nat):Int)){p:Nat}(hp:p<l.length)(hps:(p:Int)∈s)(hpu:u≤p∧p<endM l u)(hk:knd l p=2) :
 ∃q:Nat,tL l ts p=(q:Int)∧(q:Int)∈s∧upM l q=(p:Int)∧q<l.length:=by
 have hep:endM l p≤endM l u:=by
  by_cases he:p=u
  ·subst he;exact ar _
  ·exact jW l hu (by omega) hpu.2
 obtain⟨q,hq,hqu,hqs,hone⟩:=h.one p hp hps hk
 have hqb:=(dR t.shp hq).1 hqu
 have way:∀m:Nat,m<l.length→upM l m=(p:Int)→(Cm l ts (m:Int)=true↔m=q):=fun m hm hmu=>by
  have hmb:=(dR t.shp hm).1 hmu
  unfold Cm
  rw[bp]
  constructor
  · rintro⟨x,hx,hb⟩
    rw[af,decide_eq_true_eq,decide_eq_true_eq,ai]at hb
    obtain⟨hxs,_,_,_⟩:=(hts x).1 hx
    obtain⟨k,rfl,hkl,_⟩:=h.rng x hxs
    refine hone m hm hmu ?_
    by_cases hkm:k=m
    ·rw[←hkm];exact hxs
    ·exact GX t h m _ k hkl (ar _) hxs (by omega) (by omega)
  · rintro rfl
    obtain⟨k,h1,h2,h3,h4⟩:=pr t h _ m hm (ar _) hqs
    have h5:=dU l hm
    have h6:=jW l hp hmb.1 hmb.2.1
    refine⟨(k:Int),(hts _).2 ⟨h2,h3,by omega,by omega⟩,?_⟩
    rw[af,decide_eq_true_eq,decide_eq_true_eq,ai]
    omega
 refine⟨q,?_,hqs,hqu,hq⟩
 unfold tL
 cases hf:(bC l p).find? fun y=>Cm l ts y with
 | none =>
   have:=List.find?_eq_none.1 hf (q:Int) ((gP t.shp hp _).2 ⟨q,rfl,hq,hqu⟩)
   exact absurd ((way q hq hqu).2 rfl) this
 | some y =>
   obtain⟨m,rfl,hm,hmu⟩:=(gP t.shp hp y).1 (List.mem_of_find?_eq_some hf)
   rw[(way m hm hmu).1 (List.find?_some hf)]
theorem Ao (t:Tre l) {s:List Int} (h:Lgl l s) {u:Nat} (hu:u<l.length) (hus:(u:Int)∈s) {ts:List Int} (hts:∀x:Int,x∈ts↔x∈s∧ju l x=true∧(u:Int)<x∧x<((endM l u:Nat):Int)) (j:Nat):Rchd l (tL l ts) u j↔j<l.length∧(j:Int)∈s∧u≤j∧j<endM l u:=by
 have he:=dU l hu
 constructor
 · intro hE
   induction hE with
   |self=>exact⟨hu,hus,ar _,he.1⟩
   | @step p j h1 h2 h3 h4 ih =>
     have hb:=(dR t.shp h2).1 h3
     have hep:endM l p≤endM l u:=by
      by_cases hp:p=u
      ·subst hp;exact ar _
      ·exact jW l hu (by omega) ih.2.2.2
     refine⟨h2,?_,by omega,by omega⟩
     rcases h4 with h4 |⟨h4,h5⟩
     ·exact h.both p ih.1 ih.2.1 h4 j h2 h3
     · obtain⟨q,e,hqs,_⟩:=wR t h hu hus hts ih.1 ih.2.1 ⟨ih.2.2.1,ih.2.2.2⟩ h4
       rw[←h5,e];exact hqs
 · rintro ⟨hj,hjs,h1,h2⟩
   have key:∀(n j:Nat),j≤n→j<l.length→(j:Int)∈s→u≤j→j<endM l u→Rchd l (tL l ts) u j:=by
    intro n
    induction n with
    | zero =>
      intro j hn hj hjs h1 h2
      have:j=u:=by omega
      subst this;exact .self
    | succ n ih =>
      intro j hn hj hjs h1 h2
      by_cases hju:j=u
      ·subst hju;exact .self
      · obtain⟨h3,h4⟩:=(ng l hj hju).1 ⟨by omega,h2⟩
        obtain⟨p,hp⟩:=aF h3
        have hb:=(dR t.shp hj).1 hp
        have hps:=h.par j p hj hjs hp
        have hE:=ih p (by omega) (by omega) hps (by omega) (by omega)
        refine .step hE hj hp ?_
        rcases t.both hj hp with h5 |h5
        · obtain⟨q,e,hqs,hqu,hq⟩:=wR t h hu hus hts (by omega) hps ⟨by omega,by omega⟩ h5
          obtain⟨q',_,_,_,hone⟩:=h.one p (by omega) hps h5
          have e1:=hone q hq hqu hqs
          have e2:=hone j hj hp hjs
          exact .inr ⟨h5,by rw[e,e1,e2]⟩
        ·exact .inl h5.1
   exact key j j (ar _) hj hjs h1 h2
theorem EF(t:Tre l){s:List Int}(h:Lgl l s){u:Nat}(hu:u<l.length)(hus:(u:Int)∈s)(hk:knd l u=2∨knd l u=3){ts:List Int}(hs:ts.Pairwise (· < ·))(hts:∀x:Int,x∈ts↔x∈s∧ju l x=true∧(u:Int)<x∧x<((endM l u:Nat):Int)) :
 bo l (dnM l ts u)=ts∧0<ts.length:=by
 constructor
 · unfold bo
   refine nO ((EG t (D4 t ts) _ u hu).1.filter _) hs fun y=>?_
   rw[az]
   unfold dnM
   rw[QO t (D4 t ts) hu,hts]
   constructor
   · rintro⟨⟨j,rfl,hne,hE⟩,hl⟩
     have:=(Ao t h hu hus hts j).1 hE
     exact⟨this.2.1,hl,by omega,by omega⟩
   · rintro⟨h1,h2,h3,h4⟩
     obtain⟨j,rfl,hj,_⟩:=h.rng y h1
     exact⟨⟨j,rfl,by omega,(Ao t h hu hus hts j).2 ⟨hj,h1,by omega,by omega⟩⟩,h2⟩
 · obtain⟨k,h1,h2,h3,h4⟩:=pr t h _ u hu (ar _) hus
   refine eJ ((hts (k:Int)).2 ⟨h2,h3,?_⟩)
   rcases h4 with rfl |h4
   · unfold ju at h3
     rw[ai,aM,beq_iff_eq,beq_iff_eq]at h3
     have h3':knd l k=1∨knd l k=4:=h3
     omega
   ·omega
def jt(l:List Ev.Stat)(s:List Int)(tr:Tran):List Int:=if(tr.dst==[])=true then[]else s.filter fun k=>eI l (df l tr.src (aG l tr.dst)) k.toNat
def oZ(g:Tran→Bool)(ev:Str)(s:List Int)(tr:Tran):Bool:=tr.event==ev&&inB s tr.src&&g tr
def qN(g:Tran→Bool)(ev:Str)(s:List Int)(ts:List Tran):List Int:=((List.range ts.length).filter fun k:Nat=>oZ g ev s (ETy.get .tran ts k)).map fun k:Nat=>(k:Int)
def gD(ts:List Tran)(k:Int):Int:=(ETy.get .tran ts k.toNat).src
def gG(l:List Ev.Stat)(ts:List Tran)(may:List Int):Nat→Int→Int
 |0,_=>-1
 | n+1,i=>if i≥0 then(match may.find? (fun k=>gD ts k==i)with
   |some k=>k
   |none=>gG l ts may n (bw l i.toNat))else -1
def firstM(l:List Ev.Stat)(ts:List Tran)(may:List Int)(i:Int):Int:=gG l ts may (l.length+1) i
def gV(f:Int→Int)(out:List Int)(i:Int):List Int:=if(decide (f i≥0) && !inB out (f i))=true then out++[f i]else out
def gU(f:Int→Int)(leaves:List Int):List Int:=leaves.foldl (gV f) []
def er(a b:List Int):Bool:=a.any fun i=>inB b i
def kr(lv:Int→List Int)(wi:Int→Int→Bool)(kept:List Int)(t:Int):List Int:=if(kept.any fun k=>er (lv t) (lv k) && !wi k t)=true then kept else(kept.filter fun k=>!er (lv t) (lv k))++[t]
def N4(lv:Int→List Int)(wi:Int→Int→Bool)(ws:List Int):List Int:=ws.foldl (kr lv wi) []
def lvM(l:List Ev.Stat)(s:List Int)(ts:List Tran)(k:Int):List Int:=jt l s (ETy.get .tran ts k.toNat)
def wiM(l:List Ev.Stat)(ts:List Tran)(k t:Int):Bool:=eI l (gD ts k) (gD ts t).toNat
def nC(l:List Ev.Stat)(s:List Int)(ts:List Tran)(may:List Int):List Int:=N4 (lvM l s ts) (wiM l ts) (gU (firstM l ts may) (bo l s))
def lV(l:List Ev.Stat)(s:List Int)(ts:List Tran)(may:List Int):List Int:=((List.range ts.length).filter fun k:Nat=>inB (nC l s ts may) (k:Int)).map fun k:Nat=>(k:Int)
/-! ### lists -/
theorem Nz (f:Int→Int) (ls:List Int):∀(out:List Int) (y:Int),y∈ls.foldl (gV f) out↔y∈out∨(∃i∈ls,f i=y∧0≤y):=by
 induction ls with
 |nil=>intro out y;simp
 | cons a ls ih =>
   intro out y
   rw[cY,ih]
   have key:y∈gV f out a↔y∈out∨(f a=y∧0≤y):=by
    unfold gV
    split
    · rename_i h
      rw[af,decide_eq_true_eq]at h
      rw[bG,aS]
      constructor
      · rintro(h1 |h1)
        ·exact .inl h1
        ·exact .inr ⟨h1.symm,by rw[h1];exact h.1⟩
      · rintro(h1 |h1)
        ·exact .inl h1
        ·exact .inr h1.1.symm
    · rename_i h
      constructor
      ·exact .inl
      · rintro(h1 |⟨h1,h2⟩)
        ·exact h1
        · rw[af,decide_eq_true_eq,aE,not_and]at h
          have h3:=h (by omega)
          rw[Bool.not_eq_false]at h3
          rw[←h1];exact(cQ _ _).1 h3
   rw[key]
   constructor
   · rintro((h |⟨h1,h2⟩) |⟨i,h1,h2⟩)
     ·exact .inl h
     ·exact .inr ⟨a,aA,h1,h2⟩
     ·exact .inr ⟨i,aH _ h1,h2⟩
   · rintro(h |⟨i,h1,h2⟩)
     ·exact .inl (.inl h)
     · rcases aJ.1 h1 with rfl |h1
       ·exact .inl (.inr h2)
       ·exact .inr ⟨i,h1,h2⟩
theorem vH(f:Int→Int)(ls:List Int):∀out:List Int,out.Nodup→(ls.foldl (gV f) out).Nodup:=by
 induction ls with
 |nil=>intro out h;exact h
 | cons a ls ih =>
   intro out h
   rw[cY]
   refine ih _ ?_
   unfold gV
   split
   · rename_i hb
     rw[af,aE]at hb
     rw[eS]
     refine⟨h,by simp,fun x hx y hy e=>?_⟩
     rw[aS]at hy
     subst hy;subst e
     rw[(cQ _ _).2 hx]at hb
     exact absurd hb.2 (by decide)
   ·exact h
section
variable{lv:Int→List Int}{wi:Int→Int→Bool}
theorem Bx{kept:List Int}{t y:Int}(h:y∈kr lv wi kept t):y∈kept∨y=t:=by
 unfold kr at h
 split at h
 ·exact .inl h
 · rcases bG.1 h with h |h
   ·exact .inl (az.1 h).1
   ·exact .inr (aS.1 h)
theorem BA(ws:List Int):∀(K:List Int) (y:Int),y∈ws.foldl (kr lv wi) K→y∈K∨y∈ws:=by
 induction ws with
 |nil=>intro K y h;exact .inl h
 | cons a ws ih =>
   intro K y h
   rw[cY]at h
   rcases ih _ y h with h |h
   · rcases Bx h with h |h
     ·exact .inl h
     ·exact .inr (by rw[h];exact aA)
   ·exact .inr (aH _ h)
theorem FP(ws:List Int):∀K:List Int,K.Nodup→(∀y∈ws,y ∉ K)→ws.Nodup→(ws.foldl (kr lv wi) K).Nodup:=by
 induction ws with
 |nil=>intro K h _ _;exact h
 | cons a ws ih =>
   intro K h hd hn
   rw[cY]
   rw[dr]at hn
   have ha:=hd a aA
   refine ih _ ?_ (fun y hy hk=>?_) hn.2
   · unfold kr
     split
     ·exact h
     · rw[eS]
       refine⟨h.filter _,by simp,fun x hx y hy e=>?_⟩
       rw[aS]at hy
       subst hy;subst e
       exact ha (az.1 hx).1
   · rcases Bx hk with h1 |h1
     ·exact hd y (aH _ hy) h1
     ·subst h1;exact hn.1 hy
end
/-! ### places -/
theorem wg{g:Tran→Bool}{ev:Str}{s:List Int}{ts:List Tran}{k:Int}:k∈qN g ev s ts↔∃n:Nat,k=(n:Int)∧n<ts.length∧oZ g ev s (ETy.get .tran ts n)=true:=by
 unfold qN
 rw[aL]
 constructor
 · rintro⟨n,h1,rfl⟩
   have:=az.1 h1
   exact⟨n,rfl,bB.1 this.1,this.2⟩
 · rintro⟨n,rfl,h1,h2⟩
   exact⟨n,az.2 ⟨bB.2 h1,h2⟩,rfl⟩
theorem JX{l:List Ev.Stat}{s:List Int}{ts:List Tran}{may:List Int}{k:Int}:k∈lV l s ts may↔∃n:Nat,k=(n:Int)∧n<ts.length∧k∈nC l s ts may:=by
 unfold lV
 rw[aL]
 constructor
 · rintro⟨n,h1,rfl⟩
   have:=az.1 h1
   exact⟨n,rfl,bB.1 this.1,(cQ _ _).1 this.2⟩
 · rintro⟨n,rfl,h1,h2⟩
   exact⟨n,az.2 ⟨bB.2 h1,(cQ _ _).2 h2⟩,rfl⟩
def Und(l:List Ev.Stat)(a:Int)(i:Nat):Prop:=a=(i:Int)∨∃q:Nat,a=(q:Int)∧q<i∧i<endM l q
theorem RJ{l:List Ev.Stat}(S:Shp l){a:Int}{i p:Nat}(hi:i<l.length)(hp:upM l i=(p:Int))(h:Und l a p):Und l a i:=by
 have hk:=(dR S hi).1 hp
 have hpl:p<l.length:=by omega
 rcases h with h |⟨q,h1,h2,h3⟩
 ·exact .inr ⟨p,h,hk.1,hk.2.1⟩
 · have:=jW l (by omega) h2 h3
   exact .inr ⟨q,h1,by omega,by omega⟩
theorem Ci{l:List Ev.Stat}(S:Shp l){a:Int}{i:Nat}(hi:i<l.length)(h:Und l a i)(hne:a≠(i:Int)):∃p:Nat,upM l i=(p:Int)∧p<i∧Und l a p:=by
 rcases h with h |⟨q,h1,h2,h3⟩
 ·exact absurd h hne
 · obtain⟨h4,h5⟩:=(ng l hi (by omega:i≠q)).1 ⟨h2,h3⟩
   obtain⟨p,hp⟩:=aF h4
   have hk:=(dR S hi).1 hp
   refine⟨p,hp,hk.1,?_⟩
   rcases h5 with h5 |h5
   ·exact .inl (by rw[h1,←h5,hp])
   ·exact .inr ⟨q,h1,by omega,by omega⟩
theorem FC{l:List Ev.Stat}(S:Shp l)(ts:List Tran)(may:List Int):∀(n i:Nat),i<n→i<l.length→gG l ts may n (i:Int) = -1∧(∀k∈may,¬Und l (gD ts k) i)∨(gG l ts may n (i:Int)∈may∧Und l (gD ts (gG l ts may n (i:Int))) i):=by
 intro n
 induction n with
 |zero=>intro i h;omega
 | succ n ih =>
   intro i hn hi
   rw[gG,if_pos (by omega)]
   cases hf:may.find? (fun k=>gD ts k==(i:Int))with
   | some k =>
     exact .inr ⟨List.mem_of_find?_eq_some hf,.inl (eq_of_beq (List.find?_some (p:=fun k=>gD ts k==(i:Int)) hf))⟩
   | none =>
     have hno:∀k∈may,gD ts k≠(i:Int):=fun k hk e=>by
      have:=List.find?_eq_none.1 hf k hk
      exact this (by simp[e])
     simp only[ai]
     rw[fC S hi]
     rcases j5 l i with⟨h1,h2⟩ |⟨p,h1,h2,h3⟩
     · have hz:∀m:Nat,gG l ts may m (-1) = -1:=fun m=>by cases m <;> simp[gG]
       rw[h1]
       refine .inl ⟨hz n,fun k hk hu=>?_⟩
       obtain⟨p,hp,_⟩:=Ci S hi hu (hno k hk)
       rw[h1]at hp;omega
     · rw[h1]
       rcases ih p (by omega) (by omega)with⟨g1,g2⟩ |⟨g1,g2⟩
       · refine .inl ⟨g1,fun k hk hu=>?_⟩
         obtain⟨p',hp,_,hu'⟩:=Ci S hi hu (hno k hk)
         rw[h1]at hp
         have:p=p':=by omega
         subst this
         exact g2 k hk hu'
       ·exact .inr ⟨g1,RJ S hi h1 g2⟩
end Go.Proofs.YtlhgnjmdopjpeaaGreatDoor

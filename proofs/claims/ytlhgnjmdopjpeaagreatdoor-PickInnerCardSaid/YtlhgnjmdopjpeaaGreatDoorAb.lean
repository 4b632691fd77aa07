/- A configuration by choices is legal; which states are over (plain). Conditions: a valid chart. What is entered from a state down, by a choice of children: the program's walk down and the document's words are alike (plain). Conditions: a right tree. A configuration behind a transition is legal; what histories remember is right (plain). Conditions: a valid chart. Contracts: none; plain: what is taken (layer 11). Conditions: none. Contracts: none; plain: what is taken, the laws (layer 11). Conditions: none. -/
import Derived.Test.YtlhgnjmdopjpeaaGreatDoorCc
namespace Go.Proofs.YtlhgnjmdopjpeaaGreatDoor
open Go Go.Ev
set_option maxRecDepth 100000
variable(l:List Ev.Stat)(a:List Bool)(i j:Nat)
def jA:List Int:=(dt l (i:Int) l.length).filter fun y=>!bg (ETy.get .stat l y.toNat).kind
def jn:List Bool→List Int→List Bool
 |a,[]=>a
 |a,y::r=>jn (a.set y.toNat true) r
def iH:List Bool:=if((ETy.get .stat l i).depth==0)=true then a.set i true else a
def iM(l:List Ev.Stat)(ch:Nat→Int→Int):Nat→Nat→List Bool→Int→List Bool
 |0,_,a,_=>a
 | f+1,i,a,n =>
   if(!(iH l a i).getD i false)=true then iM l ch f (i+1) (iH l a i) n
   else if((ETy.get .stat l i).kind==3)=true then iM l ch f (i+1) (jn (iH l a i) (jA l i)) n
   else if((ETy.get .stat l i).kind==2)=true then iM l ch f (i+1) ((iH l a i).set (ch i n).toNat true) (IntKind.wrap .i64 (n+1))
   else iM l ch f (i+1) (iH l a i) n
def CO(ch:Nat→Int→Int):List Bool:=iM l ch l.length 0 (List.replicate l.length false) 0
def dK(ch:Nat→Int→Int):List Int:=((List.range l.length).filter fun i=>(CO l ch).getD i false).map fun i:Nat=>(i:Int)
def wa(ch:Nat→Int→Int):Prop:=∀(i:Nat) (n:Int),i<l.length→knd l i=2→∃q:Nat,ch i n=(q:Int)∧q<l.length∧upM l q=(i:Int)∧bg (knd l q)=false
theorem pJ{l:List Ev.Stat}(S:Shp l){i:Nat}(hi:i<l.length)(y:Int):y∈jA l i↔∃m:Nat,y=(m:Int)∧m<l.length∧upM l m=(i:Int)∧bg (knd l m)=false:=by
 unfold jA
 rw[aH,yq S hi]
 constructor
 · rintro⟨⟨m,rfl,h1,h2⟩,h3⟩
   rw[ai]at h3
   exact⟨m,rfl,h1,h2,by simpa using h3⟩
 · rintro⟨m,rfl,h1,h2,h3⟩
   refine⟨⟨m,rfl,h1,h2⟩,?_⟩
   rw[ai]
   have h3':bg (ETy.get .stat l m).kind=false:=h3
   rw[h3'];rfl
theorem Cx{l:List Ev.Stat}(t:Tre l){i:Nat}(hi:i<l.length)(hk:knd l i=2∨knd l i=3):0<(jA l i).length:=by
 obtain⟨m,h1,h2,h3⟩:=((j5 t.shp hi).1 (sC t.right hi)).2 hk
 exact List.length_pos_of_mem ((pJ t.shp hi _).2 ⟨m,rfl,h1,h2,h3⟩)
theorem qK:(a.set i true).getD j false=(a.getD j false||(decide (j=i)&&decide (j<a.length))):=by
 rw[List.getD_eq_getElem?_getD,List.getD_eq_getElem?_getD,List.getElem?_set]
 by_cases h:i=j
 · subst h
   rw[if_pos rfl]
   by_cases h2:i<a.length
   ·rw[if_pos h2];simp[h2]
   ·rw[if_neg h2];simp[h2]
 ·rw[if_neg h,decide_eq_false (fun e=>h e.symm)];simp
theorem mC:∀(r:List Int) (a:List Bool) (j:Nat),(jn a r).length=a.length∧(jn a r).getD j false=(a.getD j false||(r.any (fun y=>decide (j=y.toNat))&&decide (j<a.length)))
 |[],a,j=>by simp[jn]
 | y::r,a,j=>by
   have ih:=mC r (a.set y.toNat true) j
   rw[bA]at ih
   refine⟨ih.1,?_⟩
   rw[jn,ih.2,qK,cr]
   cases a.getD j false <;> cases decide (j=y.toNat) <;> cases decide (j<a.length) <;> simp
structure Mrk (l:List Ev.Stat) (c:Nat→Nat) (i:Nat) (a:List Bool):Prop where
 len:a.length=l.length
 real:∀p,p<i→p<l.length→knd l p=2→a.getD p false=true→c p<l.length∧upM l (c p)=(p:Int)∧bg (knd l (c p))=false
 on:∀j,j<l.length→(a.getD j false=true↔(dep l j=0∧j<i)∨∃p,p<i∧upM l j=(p:Int)∧a.getD p false=true∧(knd l p=3∨(knd l p=2∧c p=j)))
theorem NA(hi:i<a.length):(iH l a i).length=a.length∧((iH l a i).getD j false=true↔a.getD j false=true∨(j=i∧dep l i=0)):=by
 unfold iH
 by_cases h:dep l i=0
 · rw[if_pos (by simpa using(show(ETy.get .stat l i).depth=0 from h)),bA,qK]
   refine⟨rfl,?_⟩
   rw[aN,af,decide_eq_true_eq,decide_eq_true_eq]
   exact⟨fun h2=>h2.imp id fun h3=>⟨h3.1,h⟩,fun h2=>h2.imp id fun h3=>⟨h3.1,by omega⟩⟩
 · rw[if_neg (by simpa using(show ¬(ETy.get .stat l i).depth=0 from h))]
   exact⟨rfl,⟨.inl,fun h2=>h2.elim id fun h3=>absurd h3.2 h⟩⟩
theorem pD{l:List Ev.Stat}(t:Tre l){c c':Nat→Nat}{i:Nat}(hi:i<l.length){a b:List Bool}(h:Mrk l c i a)(hlen:b.length=l.length)(hc:∀p,p<i→c' p=c p)(N:Nat→Prop)
 (hb:∀j,j<l.length→(b.getD j false=true↔(a.getD j false=true∨(j=i∧dep l i=0))∨N j))
 (hN:∀j,j<l.length→(N j↔((a.getD i false=true∨dep l i=0)∧upM l j=(i:Int)∧(knd l i=3∨(knd l i=2∧c' i=j)))))
 (hr:(a.getD i false=true∨dep l i=0)→knd l i=2→c' i<l.length∧upM l (c' i)=(i:Int)∧bg (knd l (c' i))=false):Mrk l c' (i+1) b:=by
 have hlt:∀{j:Nat},j<l.length→upM l j=(i:Int)→i<j:=fun{j} hj hu=>((dY t.shp hj).1 hu).1
 have nb:∀p,p≤i→¬N p:=fun p hp hn=>by
  have:=hlt (by omega) ((hN p (by omega)).1 hn).2.1;omega
 have hbp:∀p,p<i→(b.getD p false=true↔a.getD p false=true):=fun p hp=>by
  rw[hb p (by omega)]
  exact⟨fun h2=>h2.elim (fun h3=>h3.elim id fun h4=>by omega) fun h3=>absurd h3 (nb p (by omega)),fun h2=>.inl (.inl h2)⟩
 have hbi:b.getD i false=true↔(a.getD i false=true∨dep l i=0):=by
  rw[hb i hi]
  exact⟨fun h2=>h2.elim (fun h3=>h3.imp id fun h4=>h4.2) fun h3=>absurd h3 (nb i (av _)),fun h2=>.inl (h2.imp id fun h3=>⟨rfl,h3⟩)⟩
 refine⟨hlen,fun p hp hpl hk hp2=>?_,fun j hj=>?_⟩
 · by_cases he:p=i
   ·subst he;exact hr (hbi.1 hp2) hk
   · rw[hc p (by omega)]
     exact h.real p (by omega) hpl hk ((hbp p (by omega)).1 hp2)
 · rw [hb j hj,h.on j hj,hN j hj]
   constructor
   · rintro(((⟨h1,h2⟩ |⟨p,h1,h2,h3,h4⟩) |⟨h1,h2⟩) |⟨h1,h2,h3⟩)
     ·exact .inl ⟨h1,by omega⟩
     ·exact .inr ⟨p,by omega,h2,(hbp p h1).2 h3,by rw[hc p h1];exact h4⟩
     ·subst h1;exact .inl ⟨h2,by omega⟩
     ·exact .inr ⟨i,by omega,h2,hbi.2 h1,h3⟩
   · rintro(⟨h1,h2⟩ |⟨p,h1,h2,h3,h4⟩)
     · by_cases he:j=i
       ·subst he;exact .inl (.inr ⟨rfl,h1⟩)
       ·exact .inl (.inl (.inl ⟨h1,by omega⟩))
     · by_cases he:p=i
       ·subst he;exact .inr ⟨hbi.1 h3,h2,h4⟩
       · refine .inl (.inl (.inr ⟨p,by omega,h2,(hbp p (by omega)).1 h3,?_⟩))
         rw[←hc p (by omega)];exact h4
theorem oZ{l:List Ev.Stat}(t:Tre l){ch:Nat→Int→Int}(hch:wa l ch):∀(f i:Nat) (a:List Bool) (n:Int) (c:Nat→Nat),l.length - i=f→i≤l.length→Mrk l c i a→∃c',Mrk l c' l.length (iM l ch f i a n)
 | 0,i,a,n,c,hf,hi,h=>by
   have:i=l.length:=by omega
   subst this
   exact⟨c,h⟩
 | f + 1, i, a,n,c,hf,hi,h=>by
   have hil:i<l.length:=by omega
   have hr:=fun j=>NA l a i j (by rw[h.len];exact hil)
   rw[iM]
   by_cases hon:(iH l a i).getD i false=true
   · rw [hon,cq,if_neg (by decide)]
     have hact:a.getD i false=true∨dep l i=0:=((hr i).2.1 hon).imp id fun h=>h.2
     by_cases h3:knd l i=3
     · rw [if_pos (by simpa using h3)]
       refine oZ t hch f (i+1) _ n c (by omega) (by omega) (pD t hil h ?_ (fun _ _=>rfl) (fun j=>upM l j=(i:Int)) (fun j hj=>?_) (fun j hj=>?_) fun _ hk=>?_)
       ·rw[(mC _ _ 0).1,(hr 0).1,h.len]
       · rw [(mC _ _ j).2,aN,af,(hr j).2,decide_eq_true_eq,(hr j).1,h.len,bf]
         constructor
         · rintro(h4 |⟨⟨y,hy,e⟩,_⟩)
           ·exact .inl h4
           · obtain⟨m,rfl,_,h6,_⟩:=(pJ t.shp hil y).1 hy
             have e':=of_decide_eq_true e
             rw[ai]at e'
             subst e';exact .inr h6
         · rintro(h4 |h4)
           ·exact .inl h4
           · refine .inr ⟨⟨(j:Int),(pJ t.shp hil _).2 ⟨j,rfl,hj,h4,?_⟩,by rw[ai];exact decide_eq_true rfl⟩,hj⟩
             rcases t.both hj h4 with h5 |⟨_,h5⟩
             ·rw[h3]at h5;exact absurd h5 (by decide)
             · cases hp:bg (knd l j)
               ·rfl
               ·rcases(tJ _).1 hp with h6 |h6 <;> omega
       ·exact⟨fun h4=>⟨hact,h4,.inl h3⟩,fun h4=>h4.2.1⟩
       ·rw[h3]at hk;exact absurd hk (by decide)
     · rw [if_neg (by simpa using h3)]
       by_cases h2:knd l i=2
       · rw[if_pos (by simpa using h2)]
         obtain⟨q,e,hq1,hq2,hq3⟩:=hch i n hil h2
         refine oZ t hch f (i+1) _ _ (fun p=>if p=i then q else c p) (by omega) (by omega) (pD t hil h ?_ (fun p hp=>if_neg (by omega)) (fun j=>j=q) (fun j hj=>?_) (fun j hj=>?_) fun _ _=>?_)
         ·rw[bA,(hr 0).1,h.len]
         · rw[e,ai,qK,aN,af,(hr j).2,decide_eq_true_eq,decide_eq_true_eq,(hr j).1,h.len]
           exact⟨fun h4=>h4.imp id fun h5=>h5.1,fun h4=>h4.imp id fun h5=>⟨h5,hj⟩⟩
         · rw[if_pos rfl]
           refine⟨fun h4=>⟨hact,by rw[h4];exact hq2,.inr ⟨h2,h4.symm⟩⟩,fun h4=>?_⟩
           rcases h4.2.2 with h5 |h5
           ·exact absurd h5 h3
           ·exact h5.2.symm
         ·rw[if_pos rfl];exact⟨hq1,hq2,hq3⟩
       · rw[if_neg (by simpa using h2)]
         refine oZ t hch f (i+1) _ n c (by omega) (by omega) (pD t hil h ?_ (fun _ _=>rfl) (fun _=>False) (fun j hj=>?_) (fun j hj=>?_) fun _ hk=>absurd hk h2)
         ·rw[(hr 0).1,h.len]
         ·rw[(hr j).2,or_false]
         ·exact⟨fun h=>h.elim,fun h4=>h4.2.2.elim (fun h5=>h3 h5) fun h5=>h2 h5.1⟩
   · have hoff:(iH l a i).getD i false=false:=by simpa using hon
     rw[hoff,cI,if_pos rfl]
     have hno:¬(a.getD i false=true∨dep l i=0):=fun h2=>hon ((hr i).2.2 (h2.imp id fun h3=>⟨rfl,h3⟩))
     refine oZ t hch f (i+1) _ n c (by omega) (by omega) (pD t hil h ?_ (fun _ _=>rfl) (fun _=>False) (fun j hj=>?_) (fun j hj=>?_) fun h4 _=>absurd h4 hno)
     ·rw[(hr 0).1,h.len]
     ·rw[(hr j).2,or_false]
     ·exact⟨fun h=>h.elim,fun h4=>hno h4.1⟩
theorem mD{l:List Ev.Stat}(t:Tre l){ch:Nat→Int→Int}(hch:wa l ch):Lgl l (dK l ch):=by
 obtain⟨c,h⟩:=oZ t hch l.length 0 (List.replicate l.length false) 0 (fun _=>0) (by omega) (by omega) ⟨by simp,fun p hp=>by omega,fun j hj=>by
  rw[List.getD_eq_getElem?_getD,List.getElem?_replicate,if_pos hj]
  exact⟨fun h=>(by cases h),fun h=>h.elim (fun h=>by omega) fun⟨p,hp,_⟩=>by omega⟩⟩
 have h':Mrk l c l.length (CO l ch):=h
 refine R3 t (kN _ _) (fun j=>(CO l ch).getD j false=true) (fun p q=>c p=q) (fun y=>?_) (fun p hp hk hon=>?_) (fun j hj=>?_)
 · unfold dK
   rw[aM]
   constructor
   · rintro⟨j,hj,rfl⟩
     rw[aH,bL]at hj
     exact⟨j,rfl,hj.1,hj.2⟩
   · rintro⟨j,rfl,h1,h2⟩
     exact⟨j,by rw[aH,bL];exact⟨h1,h2⟩,rfl⟩
 · obtain⟨h1,h2,h3⟩:=h'.real p hp hp hk hon
   exact⟨c p,h1,h2,h3,rfl,fun m _ _ e=>e.symm⟩
 · rw [h'.on j hj]
   constructor
   · rintro(⟨h1,_⟩ |⟨p,h1,h2,h3,h4⟩)
     ·exact .inl h1
     ·exact .inr ⟨p,h2,h3,h4⟩
   · rintro(h1 |⟨p,h2,h3,h4⟩)
     ·exact .inl ⟨h1,hj⟩
     · have:=((dY t.shp hj).1 h2).1
       exact .inr ⟨p,by omega,h2,h3,h4⟩
/-! ### which states are over -/
def Kid(l:List Ev.Stat)(ch:Nat→Int):Prop:=∀k,k<l.length→knd l k=2→∃q:Nat,ch k=(q:Int)∧q<l.length∧upM l q=(k:Int)
def sh(l:List Ev.Stat)(ch:Nat→Int)(i:Nat):List Int:=if((ETy.get .stat l i).kind==3)=true then bB l i else if((ETy.get .stat l i).kind==2)=true then[ch i]else[]
def dnC(l:List Ev.Stat)(ch:Nat→Int):Nat→Nat→List Int
 |0,_=>[]
 |n+1,i=>(sh l ch i).flatMap fun k=>k::dnC l ch n k.toNat
variable{l:List Ev.Stat}
theorem pF(t:Tre l){ch:Nat→Int}(hc:Kid l ch){i:Nat}(hi:i<l.length)(y:Int):y∈sh l ch i↔∃m:Nat,y=(m:Int)∧m<l.length∧upM l m=(i:Int)∧(knd l i=3∨(knd l i=2∧ch i=(m:Int))):=by
 unfold sh
 by_cases h3:knd l i=3
 · rw[if_pos (by simpa using h3),gY t.shp hi]
   exact⟨fun⟨m,a,b,c⟩=>⟨m,a,b,c,.inl h3⟩,fun⟨m,a,b,c,_⟩=>⟨m,a,b,c⟩⟩
 · rw [if_neg (by simpa using h3)]
   by_cases h2:knd l i=2
   · rw[if_pos (by simpa using h2),aQ]
     constructor
     · rintro rfl
       obtain⟨q,e,h4,h5⟩:=hc i hi h2
       exact⟨q,e,h4,h5,.inr ⟨h2,e⟩⟩
     · rintro⟨m,rfl,_,_,h |h⟩
       ·exact absurd h h3
       ·exact h.2.symm
   · rw[if_neg (by simpa using h2)]
     exact⟨fun h=>(by cases h),fun⟨m,_,_,_,h⟩=>h.elim (fun h=>absurd h h3) fun h=>absurd h.1 h2⟩
theorem Dr{ch:Nat→Int}{i:Nat}(hi:i<l.length):(sh l ch i).Pairwise (fun x y=>((endM l x.toNat:Nat):Int)≤y):=by
 unfold sh
 split
 ·exact(og l (endM l i) l.length (i+1) (dV l hi).2).1
 · split
   ·exact fX _ _
   ·exact .nil
theorem Fz{l:List Ev.Stat}(t:Tre l){ch:Nat→Int}(hc:Kid l ch):∀(n i:Nat),i<l.length→(dnC l ch n i).Pairwise (· < ·)∧∀y∈dnC l ch n i,(i:Int)<y∧y<((endM l i:Nat):Int)
 |0,i,_=>by rw[dnC];exact⟨.nil,fun y h=>(by cases h)⟩
 | n + 1,i,hi=>by
   have he:=dV l hi
   rw[dnC]
   have kid:∀y∈sh l ch i,∃m:Nat,y=(m:Int)∧m<l.length∧i<m∧m<endM l i:=fun y hy=>by
    obtain⟨m,e,h1,h2,_⟩:=(pF t hc hi y).1 hy
    have:=(dY t.shp h1).1 h2
    exact⟨m,e,h1,this.1,this.2.1⟩
   have bound:∀m,m<l.length→∀y∈(m:Int)::dnC l ch n m,(m:Int)≤y∧y<((endM l m:Nat):Int):=fun m hm y hy=>by
    have h1:=dV l hm
    rcases aI.1 hy with rfl |hy
    ·omega
    ·have:=(Fz t hc n m hm).2 y hy;omega
   constructor
   · rw[List.pairwise_flatMap]
     refine⟨fun a ha=>?_,?_⟩
     · obtain⟨m,rfl,hm,_⟩:=kid a ha
       rw[ai]
       have ih:=Fz t hc n m hm
       exact cf.2 ⟨fun y hy=>(ih.2 y hy).1,ih.1⟩
     · refine List.Pairwise.imp_of_mem (fun{a b} ha hb hab x hx y hy=>?_) (Dr hi)
       obtain⟨m,rfl,hm,_⟩:=kid a ha
       obtain⟨m2,rfl,hm2,_⟩:=kid b hb
       rw[ai]at hx hy hab
       have h5:=bound m hm x hx
       have h6:=bound m2 hm2 y hy
       omega
   · intro y hy
     obtain⟨a,ha,hy⟩:=a7.1 hy
     obtain⟨m,rfl,hm,h5,h6⟩:=kid a ha
     rw[ai]at hy
     have h7:=bound m hm y hy
     have h8:=jd l hi h5 h6
     omega
inductive Rchd (l:List Ev.Stat) (ch:Nat→Int) (i:Nat):Nat→Prop where
 |self:Rchd l ch i i
 |step {p j:Nat}:Rchd l ch i p→j<l.length→upM l j=(p:Int)→(knd l p=3∨(knd l p=2∧ch p=(j:Int)))→Rchd l ch i j
theorem Rchd.lt(t:Tre l){ch:Nat→Int}{i j:Nat}(hi:i<l.length)(h:Rchd l ch i j):j<l.length∧i≤j:=by
 induction h with
 |self=>exact⟨hi,av _⟩
 |step h1 h2 h3 _ ih=>exact⟨h2,by have:=((dY t.shp h2).1 h3).1;omega⟩
theorem Rchd.head{ch:Nat→Int}{i q j:Nat}(hq:q<l.length)(hu:upM l q=(i:Int))(h:knd l i=3∨(knd l i=2∧ch i=(q:Int)))(hb:Rchd l ch q j):Rchd l ch i j:=by
 induction hb with
 |self=>exact .step .self hq hu h
 |step _ h2 h3 h4 ih=>exact .step ih h2 h3 h4
theorem Bv{l:List Ev.Stat}(t:Tre l){ch:Nat→Int}(hc:Kid l ch):∀(n i:Nat) (y:Int),i<l.length→y∈dnC l ch n i→∃j:Nat,y=(j:Int)∧j≠i∧Rchd l ch i j
 |0,_,_,_,h=>by rw[dnC]at h;cases h
 | n + 1,i,y,hi,h=>by
   rw[dnC]at h
   obtain⟨a,ha,hy⟩:=a7.1 h
   obtain⟨m,rfl,hm,hu,hk⟩:=(pF t hc hi a).1 ha
   have him:=((dY t.shp hm).1 hu).1
   rw[ai]at hy
   rcases aI.1 hy with rfl |hy
   ·exact⟨m,rfl,by omega,.step .self hm hu hk⟩
   · obtain⟨j,e,_,hb⟩:=Bv t hc n m y hm hy
     have:=hb.lt t hm
     exact⟨j,e,by omega,hb.head hm hu hk⟩
theorem Bu{l:List Ev.Stat}(t:Tre l){ch:Nat→Int}(hc:Kid l ch):∀(n i:Nat),i<l.length→l.length - i<n→∀{p j:Nat},(p=i∨(p:Int)∈dnC l ch n i)→j<l.length→upM l j=(p:Int)→(knd l p=3∨(knd l p=2∧ch p=(j:Int)))→(j:Int)∈dnC l ch n i
 |0,i,hi,h,_,_,_,_,_,_=>by omega
 | n + 1,i,hi,hn,p,j,hp,hj,hu,hk=>by
   rw[dnC]at hp ⊢
   rcases hp with rfl |hp
   ·refine a7.2 ⟨(j:Int),(pF t hc hi _).2 ⟨j,rfl,hj,hu,hk⟩,az⟩
   · obtain⟨a,ha,hy⟩:=a7.1 hp
     obtain⟨m,rfl,hm,hum,_⟩:=(pF t hc hi a).1 ha
     have him:=((dY t.shp hm).1 hum).1
     refine a7.2 ⟨(m:Int),ha,?_⟩
     rw[ai]at hy ⊢
     refine aD _ (Bu t hc n m hm (by omega) ?_ hj hu hk)
     rcases aI.1 hy with h |h
     ·exact .inl (by omega)
     ·exact .inr h
theorem Rp(t:Tre l){ch:Nat→Int}(hc:Kid l ch){i:Nat}(hi:i<l.length)(y:Int):y∈dnC l ch (l.length+1) i↔∃j:Nat,y=(j:Int)∧j≠i∧Rchd l ch i j:=by
 refine⟨Bv t hc _ i y hi,?_⟩
 rintro⟨j,rfl,hne,h⟩
 induction h with
 |self=>exact absurd rfl hne
 | @step p j h1 h2 h3 h4 ih =>
   refine Bu t hc _ i hi (by omega) ?_ h2 h3 h4
   by_cases hp:p=i
   ·exact .inl hp
   ·exact .inr (ih hp)
/-! ### the document's words -/
/-! ### targets -/
def C3(l:List Ev.Stat)(ts:List Int)(k:Int):Bool:=ts.any fun t=>decide (t≥k)&&decide (t<((endM l k.toNat:Nat):Int))
def uc(l:List Ev.Stat)(ts:List Int)(i:Nat):Int:=match(bB l i).find? fun k=>C3 l ts k with
 |some k=>k
 |none=>aF l (ETy.get .stat l i).initial
def dnM(l:List Ev.Stat)(ts:List Int)(i:Nat):List Int:=dnC l (uc l ts) (l.length+1) i
theorem EV(t:Tre l)(ts:List Int):Kid l (uc l ts):=by
 intro k hk h2
 unfold uc
 cases hf:(bB l k).find? fun y=>C3 l ts y with
 | none =>
   obtain⟨q,e,hq,hu,_⟩:=t.init hk h2
   exact⟨q,e,hq,hu⟩
 | some y =>
   obtain⟨m,e,hm,hu⟩:=(gY t.shp hk y).1 (List.mem_of_find?_eq_some hf)
   exact⟨m,e,hm,hu⟩
def Rg(l:List Ev.Stat)(ch:Nat→Int):Prop:=∀k,k<l.length→knd l k=2→∃q:Nat,ch k=(q:Int)∧q<l.length∧upM l q=(k:Int)∧bg (knd l q)=false
variable{l:List Ev.Stat}
theorem Rg.kid{ch:Nat→Int}(h:Rg l ch):Kid l ch:=fun k hk h2=>by
 obtain⟨q,a,b,c,_⟩:=h k hk h2
 exact⟨q,a,b,c⟩
theorem xo(t:Tre l){s:List Int}(h:Lgl l s){u:Nat}(hu:u<l.length)(hus:(u:Int)∈s){ts:List Int}(hts:∀x:Int,x∈ts↔x∈s∧gJ l x=true∧(u:Int)<x∧x<((endM l u:Nat):Int)){p:Nat}(hp:p<l.length)(hps:(p:Int)∈s)(hpu:u≤p∧p<endM l u)(hk:knd l p=2) :
 ∃q:Nat,uc l ts p=(q:Int)∧(q:Int)∈s∧upM l q=(p:Int)∧q<l.length:=by
 have hep:endM l p≤endM l u:=by
  by_cases he:p=u
  ·subst he;exact av _
  ·exact jd l hu (by omega) hpu.2
 obtain⟨q,hq,hqu,hqs,hone⟩:=h.one p hp hps hk
 have hqb:=(dY t.shp hq).1 hqu
 have way:∀m:Nat,m<l.length→upM l m=(p:Int)→(C3 l ts (m:Int)=true↔m=q):=fun m hm hmu=>by
  have hmb:=(dY t.shp hm).1 hmu
  unfold C3
  rw[bf]
  constructor
  · rintro⟨x,hx,hb⟩
    rw[af,decide_eq_true_eq,decide_eq_true_eq,ai]at hb
    obtain⟨hxs,_,_,_⟩:=(hts x).1 hx
    obtain⟨k,rfl,hkl,_⟩:=h.rng x hxs
    refine hone m hm hmu ?_
    by_cases hkm:k=m
    ·rw[←hkm];exact hxs
    ·exact HL t h m _ k hkl (av _) hxs (by omega) (by omega)
  · rintro rfl
    obtain⟨k,h1,h2,h3,h4⟩:=mu t h _ m hm (av _) hqs
    have h5:=dV l hm
    have h6:=jd l hp hmb.1 hmb.2.1
    refine⟨(k:Int),(hts _).2 ⟨h2,h3,by omega,by omega⟩,?_⟩
    rw[af,decide_eq_true_eq,decide_eq_true_eq,ai]
    omega
 refine⟨q,?_,hqs,hqu,hq⟩
 unfold uc
 cases hf:(bB l p).find? fun y=>C3 l ts y with
 | none =>
   have:=List.find?_eq_none.1 hf (q:Int) ((gY t.shp hp _).2 ⟨q,rfl,hq,hqu⟩)
   exact absurd ((way q hq hqu).2 rfl) this
 | some y =>
   obtain⟨m,rfl,hm,hmu⟩:=(gY t.shp hp y).1 (List.mem_of_find?_eq_some hf)
   rw[(way m hm hmu).1 (List.find?_some hf)]
theorem AR (t:Tre l) {s:List Int} (h:Lgl l s) {u:Nat} (hu:u<l.length) (hus:(u:Int)∈s) {ts:List Int} (hts:∀x:Int,x∈ts↔x∈s∧gJ l x=true∧(u:Int)<x∧x<((endM l u:Nat):Int)) (j:Nat):Rchd l (uc l ts) u j↔j<l.length∧(j:Int)∈s∧u≤j∧j<endM l u:=by
 have he:=dV l hu
 constructor
 · intro hE
   induction hE with
   |self=>exact⟨hu,hus,av _,he.1⟩
   | @step p j h1 h2 h3 h4 ih =>
     have hb:=(dY t.shp h2).1 h3
     have hep:endM l p≤endM l u:=by
      by_cases hp:p=u
      ·subst hp;exact av _
      ·exact jd l hu (by omega) ih.2.2.2
     refine⟨h2,?_,by omega,by omega⟩
     rcases h4 with h4 |⟨h4,h5⟩
     ·exact h.both p ih.1 ih.2.1 h4 j h2 h3
     · obtain⟨q,e,hqs,_⟩:=xo t h hu hus hts ih.1 ih.2.1 ⟨ih.2.2.1,ih.2.2.2⟩ h4
       rw[←h5,e];exact hqs
 · rintro ⟨hj,hjs,h1,h2⟩
   have key:∀(n j:Nat),j≤n→j<l.length→(j:Int)∈s→u≤j→j<endM l u→Rchd l (uc l ts) u j:=by
    intro n
    induction n with
    | zero =>
      intro j hn hj hjs h1 h2
      have:j=u:=by omega
      subst this;exact .self
    | succ n ih =>
      intro j hn hj hjs h1 h2
      by_cases hju:j=u
      ·subst hju;exact .self
      · obtain⟨h3,h4⟩:=(nw l hj hju).1 ⟨by omega,h2⟩
        obtain⟨p,hp⟩:=aA h3
        have hb:=(dY t.shp hj).1 hp
        have hps:=h.par j p hj hjs hp
        have hE:=ih p (by omega) (by omega) hps (by omega) (by omega)
        refine .step hE hj hp ?_
        rcases t.both hj hp with h5 |h5
        · obtain⟨q,e,hqs,hqu,hq⟩:=xo t h hu hus hts (by omega) hps ⟨by omega,by omega⟩ h5
          obtain⟨q',_,_,_,hone⟩:=h.one p (by omega) hps h5
          have e1:=hone q hq hqu hqs
          have e2:=hone j hj hp hjs
          exact .inr ⟨h5,by rw[e,e1,e2]⟩
        ·exact .inl h5.1
   exact key j j (av _) hj hjs h1 h2
theorem Fy(t:Tre l){s:List Int}(h:Lgl l s){u:Nat}(hu:u<l.length)(hus:(u:Int)∈s)(hk:knd l u=2∨knd l u=3){ts:List Int}(hs:ts.Pairwise (· < ·))(hts:∀x:Int,x∈ts↔x∈s∧gJ l x=true∧(u:Int)<x∧x<((endM l u:Nat):Int)) :
 aR l (dnM l ts u)=ts∧0<ts.length:=by
 constructor
 · unfold aR
   refine nY ((Fz t (EV t ts) _ u hu).1.filter _) hs fun y=>?_
   rw[aH]
   unfold dnM
   rw[Rp t (EV t ts) hu,hts]
   constructor
   · rintro⟨⟨j,rfl,hne,hE⟩,hl⟩
     have:=(AR t h hu hus hts j).1 hE
     exact⟨this.2.1,hl,by omega,by omega⟩
   · rintro⟨h1,h2,h3,h4⟩
     obtain⟨j,rfl,hj,_⟩:=h.rng y h1
     exact⟨⟨j,rfl,by omega,(AR t h hu hus hts j).2 ⟨hj,h1,by omega,by omega⟩⟩,h2⟩
 · obtain⟨k,h1,h2,h3,h4⟩:=mu t h _ u hu (av _) hus
   refine List.length_pos_of_mem ((hts (k:Int)).2 ⟨h2,h3,?_⟩)
   rcases h4 with rfl |h4
   · unfold gJ at h3
     rw[ai,aN,beq_iff_eq,beq_iff_eq]at h3
     have h3':knd l k=1∨knd l k=4:=h3
     omega
   ·omega
def iU(l:List Ev.Stat)(s:List Int)(tr:Tran):List Int:=if(tr.dst==[])=true then[]else s.filter fun k=>eO l (dh l tr.src (aF l tr.dst)) k.toNat
def ma(g:Tran→Bool)(ev:Str)(s:List Int)(tr:Tran):Bool:=tr.event==ev&&inB s tr.src&&g tr
def eG(g:Tran→Bool)(ev:Str)(s:List Int)(ts:List Tran):List Int:=((List.range ts.length).filter fun k:Nat=>ma g ev s (ETy.get .tran ts k)).map fun k:Nat=>(k:Int)
def dr(ts:List Tran)(k:Int):Int:=(ETy.get .tran ts k.toNat).src
def eJ(l:List Ev.Stat)(ts:List Tran)(may:List Int):Nat→Int→Int
 |0,_=>-1
 | n+1,i=>if i≥0 then(match may.find? (fun k=>dr ts k==i)with
   |some k=>k
   |none=>eJ l ts may n (bq l i.toNat))else -1
def firstM(l:List Ev.Stat)(ts:List Tran)(may:List Int)(i:Int):Int:=eJ l ts may (l.length+1) i
def dU(f:Int→Int)(out:List Int)(i:Int):List Int:=if(decide (f i≥0) && !inB out (f i))=true then out++[f i]else out
def fk(f:Int→Int)(leaves:List Int):List Int:=leaves.foldl (dU f) []
def cJ(a b:List Int):Bool:=a.any fun i=>inB b i
def fC(lv:Int→List Int)(wi:Int→Int→Bool)(kept:List Int)(t:Int):List Int:=if(kept.any fun k=>cJ (lv t) (lv k) && !wi k t)=true then kept else(kept.filter fun k=>!cJ (lv t) (lv k))++[t]
def se(lv:Int→List Int)(wi:Int→Int→Bool)(ws:List Int):List Int:=ws.foldl (fC lv wi) []
def lvM(l:List Ev.Stat)(s:List Int)(ts:List Tran)(k:Int):List Int:=iU l s (ETy.get .tran ts k.toNat)
def wiM(l:List Ev.Stat)(ts:List Tran)(k t:Int):Bool:=eO l (dr ts k) (dr ts t).toNat
def mr(l:List Ev.Stat)(s:List Int)(ts:List Tran)(may:List Int):List Int:=se (lvM l s ts) (wiM l ts) (fk (firstM l ts may) (aR l s))
def cC(l:List Ev.Stat)(s:List Int)(ts:List Tran)(may:List Int):List Int:=((List.range ts.length).filter fun k:Nat=>inB (mr l s ts may) (k:Int)).map fun k:Nat=>(k:Int)
/-! ### lists -/
theorem tF(a b:List Int):cJ a b=true↔∃i,i∈a∧i∈b:=by
 unfold cJ
 rw[bf]
 constructor
 ·rintro⟨i,h1,h2⟩;exact⟨i,h1,(cu _ _).1 h2⟩
 ·rintro⟨i,h1,h2⟩;exact⟨i,h1,(cu _ _).2 h2⟩
theorem meet_comm(a b:List Int):cJ a b=cJ b a:=by
 rw[aT,tF,tF]
 exact⟨fun⟨i,h1,h2⟩=>⟨i,h2,h1⟩,fun⟨i,h1,h2⟩=>⟨i,h2,h1⟩⟩
theorem pP (f:Int→Int) (ls:List Int):∀(out:List Int) (y:Int),y∈ls.foldl (dU f) out↔y∈out∨(∃i∈ls,f i=y∧0≤y):=by
 induction ls with
 |nil=>intro out y;simp
 | cons a ls ih =>
   intro out y
   rw[bT,ih]
   have key:y∈dU f out a↔y∈out∨(f a=y∧0≤y):=by
    unfold dU
    split
    · rename_i h
      rw[af,decide_eq_true_eq]at h
      rw[bK,aQ]
      constructor
      · rintro(h1 |h1)
        ·exact .inl h1
        ·exact .inr ⟨h1.symm,by rw[h1];exact h.1⟩
      · rintro(h1 |h1)
        ·exact .inl h1
        ·exact .inr h1.1.symm
    · rename_i h
      constructor
      ·exact .inl
      · rintro(h1 |⟨h1,h2⟩)
        ·exact h1
        · rw[af,decide_eq_true_eq,aK,not_and]at h
          have h3:=h (by omega)
          rw[Bool.not_eq_false]at h3
          rw[←h1];exact(cu _ _).1 h3
   rw[key]
   constructor
   · rintro((h |⟨h1,h2⟩) |⟨i,h1,h2⟩)
     ·exact .inl h
     ·exact .inr ⟨a,az,h1,h2⟩
     ·exact .inr ⟨i,aD _ h1,h2⟩
   · rintro(h |⟨i,h1,h2⟩)
     ·exact .inl (.inl h)
     · rcases aI.1 h1 with rfl |h1
       ·exact .inl (.inr h2)
       ·exact .inr ⟨i,h1,h2⟩
theorem vY(f:Int→Int)(ls:List Int):∀out:List Int,out.Nodup→(ls.foldl (dU f) out).Nodup:=by
 induction ls with
 |nil=>intro out h;exact h
 | cons a ls ih =>
   intro out h
   rw[bT]
   refine ih _ ?_
   unfold dU
   split
   · rename_i hb
     rw[af,aK]at hb
     rw[eV]
     refine⟨h,by simp,fun x hx y hy e=>?_⟩
     rw[aQ]at hy
     subst hy;subst e
     rw[(cu _ _).2 hx]at hb
     exact absurd hb.2 (by decide)
   ·exact h
theorem KO(f:Int→Int)(ls:List Int):∀out:List Int,∃r,ls.foldl (dU f) out=out++r∧∀y∈r,∃i∈ls,f i=y:=by
 induction ls with
 |nil=>intro out;exact⟨[],by simp,fun y hy=>by cases hy⟩
 | cons a ls ih =>
   intro out
   obtain⟨r,h1,h2⟩:=ih (dU f out a)
   rw[bT,h1]
   unfold dU
   split
   · refine⟨f a::r,by simp,fun y hy=>?_⟩
     rcases aI.1 hy with rfl |hy
     ·exact⟨a,az,rfl⟩
     ·obtain⟨i,g1,g2⟩:=h2 y hy;exact⟨i,aD _ g1,g2⟩
   ·exact⟨r,rfl,fun y hy=>by obtain⟨i,g1,g2⟩:=h2 y hy;exact⟨i,aD _ g1,g2⟩⟩
section
variable{lv:Int→List Int}{wi:Int→Int→Bool}
theorem B5{kept:List Int}{t y:Int}(h:y∈fC lv wi kept t):y∈kept∨y=t:=by
 unfold fC at h
 split at h
 ·exact .inl h
 · rcases bK.1 h with h |h
   ·exact .inl (aH.1 h).1
   ·exact .inr (aQ.1 h)
theorem tC(ws:List Int):∀(K:List Int) (y:Int),y∈ws.foldl (fC lv wi) K→y∈K∨y∈ws:=by
 induction ws with
 |nil=>intro K y h;exact .inl h
 | cons a ws ih =>
   intro K y h
   rw[bT]at h
   rcases ih _ y h with h |h
   · rcases B5 h with h |h
     ·exact .inl h
     ·exact .inr (by rw[h];exact az)
   ·exact .inr (aD _ h)
theorem JJ(ws:List Int):∀(K:List Int),(K≠[]∨ws≠[])→ws.foldl (fC lv wi) K≠[]:=by
 induction ws with
 |nil=>intro K h;exact h.resolve_right fun h=>h rfl
 | cons a ws ih =>
   intro K _
   rw[bT]
   refine ih _ (.inl ?_)
   unfold fC
   split
   · rename_i h
     intro e
     rw[e]at h;cases h
   ·simp
def ud(lv:Int→List Int)(K:List Int):Prop:=K.Pairwise fun a b=>cJ (lv a) (lv b)=false
theorem GD(ws:List Int):∀K:List Int,ud lv K→ud lv (ws.foldl (fC lv wi) K):=by
 induction ws with
 |nil=>intro K h;exact h
 | cons a ws ih =>
   intro K h
   rw[bT]
   refine ih _ ?_
   unfold fC
   split
   ·exact h
   · refine fp.2 ⟨h.filter _,by simp,fun x hx y hy=>?_⟩
     rw[aQ]at hy
     subst hy
     have:=(aH.1 hx).2
     rw[meet_comm]
     simpa using this
theorem GE(ws:List Int):∀K:List Int,K.Nodup→(∀y∈ws,y ∉ K)→ws.Nodup→(ws.foldl (fC lv wi) K).Nodup:=by
 induction ws with
 |nil=>intro K h _ _;exact h
 | cons a ws ih =>
   intro K h hd hn
   rw[bT]
   rw[dv]at hn
   have ha:=hd a az
   refine ih _ ?_ (fun y hy hk=>?_) hn.2
   · unfold fC
     split
     ·exact h
     · rw[eV]
       refine⟨h.filter _,by simp,fun x hx y hy e=>?_⟩
       rw[aQ]at hy
       subst hy;subst e
       exact ha (aH.1 hx).1
   · rcases B5 hk with h1 |h1
     ·exact hd y (aD _ hy) h1
     ·subst h1;exact hn.1 hy
theorem ya(ws:List Int):∀(K:List Int) (k:Int),k∈K→(∀t∈ws,wi k t=false)→k∈ws.foldl (fC lv wi) K:=by
 induction ws with
 |nil=>intro K k h _;exact h
 | cons a ws ih =>
   intro K k h hw
   rw[bT]
   refine ih _ k ?_ fun t ht=>hw t (aD _ ht)
   unfold fC
   split
   ·exact h
   · rename_i hn
     refine cH _ (aH.2 ⟨h,?_⟩)
     cases hb:cJ (lv a) (lv k)
     ·rfl
     · exfalso
       exact hn (bf.2 ⟨k,h,by rw[hb,hw a az];rfl⟩)
theorem P8{pre post:List Int}{t:Int}(h1:∀k∈pre,∀t2∈post,wi k t2=true→wi k t=true)(h2:∀t2∈post,wi t t2=false):t∈se lv wi (pre++t::post)∨∃k∈se lv wi (pre++t::post),cJ (lv t) (lv k)=true:=by
 unfold se
 rw[gu,bT]
 have hp:∀k∈pre.foldl (fC lv wi) [],k∈pre:=fun k hk=>(tC pre [] k hk).resolve_left (by simp)
 generalize pre.foldl (fC lv wi) []=K at hp
 by_cases hb:(K.any fun k=>cJ (lv t) (lv k) && !wi k t)=true
 · obtain⟨k,hk,hm⟩:=bf.1 hb
   rw[af,aK]at hm
   refine .inr ⟨k,ya post _ k ?_ fun t2 ht2=>?_,hm.1⟩
   ·unfold fC;rw[if_pos hb];exact hk
   · cases hw:wi k t2
     ·rfl
     · have:=h1 k (hp k hk) t2 ht2 hw
       rw[hm.2]at this;cases this
 · refine .inl (ya post _ t ?_ h2)
   unfold fC;rw[if_neg hb];exact ct _ (aQ.2 rfl)
end
/-! ### places -/
theorem ko{g:Tran→Bool}{ev:Str}{s:List Int}{ts:List Tran}{k:Int}:k∈eG g ev s ts↔∃n:Nat,k=(n:Int)∧n<ts.length∧ma g ev s (ETy.get .tran ts n)=true:=by
 unfold eG
 rw[aM]
 constructor
 · rintro⟨n,h1,rfl⟩
   have:=aH.1 h1
   exact⟨n,rfl,bL.1 this.1,this.2⟩
 · rintro⟨n,rfl,h1,h2⟩
   exact⟨n,aH.2 ⟨bL.2 h1,h2⟩,rfl⟩
theorem KD{l:List Ev.Stat}{s:List Int}{ts:List Tran}{may:List Int}{k:Int}:k∈cC l s ts may↔∃n:Nat,k=(n:Int)∧n<ts.length∧k∈mr l s ts may:=by
 unfold cC
 rw[aM]
 constructor
 · rintro⟨n,h1,rfl⟩
   have:=aH.1 h1
   exact⟨n,rfl,bL.1 this.1,(cu _ _).1 this.2⟩
 · rintro⟨n,rfl,h1,h2⟩
   exact⟨n,aH.2 ⟨bL.2 h1,(cu _ _).2 h2⟩,rfl⟩
def Und(l:List Ev.Stat)(a:Int)(i:Nat):Prop:=a=(i:Int)∨∃q:Nat,a=(q:Int)∧q<i∧i<endM l q
theorem Si{l:List Ev.Stat}(S:Shp l){a:Int}{i p:Nat}(hi:i<l.length)(hp:upM l i=(p:Int))(h:Und l a p):Und l a i:=by
 have hk:=(dY S hi).1 hp
 have hpl:p<l.length:=by omega
 rcases h with h |⟨q,h1,h2,h3⟩
 ·exact .inr ⟨p,h,hk.1,hk.2.1⟩
 · have:=jd l (by omega) h2 h3
   exact .inr ⟨q,h1,by omega,by omega⟩
theorem CY{l:List Ev.Stat}(S:Shp l){a:Int}{i:Nat}(hi:i<l.length)(h:Und l a i)(hne:a≠(i:Int)):∃p:Nat,upM l i=(p:Int)∧p<i∧Und l a p:=by
 rcases h with h |⟨q,h1,h2,h3⟩
 ·exact absurd h hne
 · obtain⟨h4,h5⟩:=(nw l hi (by omega:i≠q)).1 ⟨h2,h3⟩
   obtain⟨p,hp⟩:=aA h4
   have hk:=(dY S hi).1 hp
   refine⟨p,hp,hk.1,?_⟩
   rcases h5 with h5 |h5
   ·exact .inl (by rw[h1,←h5,hp])
   ·exact .inr ⟨q,h1,by omega,by omega⟩
theorem vo{l:List Ev.Stat}(S:Shp l)(ts:List Tran)(may:List Int):∀(n i:Nat),i<n→i<l.length→eJ l ts may n (i:Int) = -1∧(∀k∈may,¬Und l (dr ts k) i)∨(eJ l ts may n (i:Int)∈may∧Und l (dr ts (eJ l ts may n (i:Int))) i):=by
 intro n
 induction n with
 |zero=>intro i h;omega
 | succ n ih =>
   intro i hn hi
   rw[eJ,if_pos (by omega)]
   cases hf:may.find? (fun k=>dr ts k==(i:Int))with
   | some k =>
     exact .inr ⟨List.mem_of_find?_eq_some hf,.inl (eq_of_beq (List.find?_some (p:=fun k=>dr ts k==(i:Int)) hf))⟩
   | none =>
     have hno:∀k∈may,dr ts k≠(i:Int):=fun k hk e=>by
      have:=List.find?_eq_none.1 hf k hk
      exact this (by simp[e])
     simp only[ai]
     rw[ft S hi]
     rcases jo l i with⟨h1,h2⟩ |⟨p,h1,h2,h3⟩
     · have hz:∀m:Nat,eJ l ts may m (-1) = -1:=fun m=>by cases m <;> simp[eJ]
       rw[h1]
       refine .inl ⟨hz n,fun k hk hu=>?_⟩
       obtain⟨p,hp,_⟩:=CY S hi hu (hno k hk)
       rw[h1]at hp;omega
     · rw[h1]
       rcases ih p (by omega) (by omega)with⟨g1,g2⟩ |⟨g1,g2⟩
       · refine .inl ⟨g1,fun k hk hu=>?_⟩
         obtain⟨p',hp,_,hu'⟩:=CY S hi hu (hno k hk)
         rw[h1]at hp
         have:p=p':=by omega
         subst this
         exact g2 k hk hu'
       ·exact .inr ⟨g1,Si S hi h1 g2⟩
section
variable{l:List Ev.Stat}{s:List Int}{ts:List Tran}{may:List Int}
theorem nh(h:Lgl l s){y:Int}(hy:y∈aR l s):∃i:Nat,y=(i:Int)∧i<l.length∧(i:Int)∈s∧gJ l (i:Int)=true:=by
 obtain⟨h1,h2⟩:=aH.1 hy
 obtain⟨i,rfl,h3,_⟩:=h.rng y h1
 exact⟨i,rfl,h3,h1,h2⟩
theorem MD(t:Tre l){i:Nat}(hi:i<l.length)(h:gJ l (i:Int)=true):endM l i≤i+1:=by
 by_cases he:endM l i≤i+1
 ·exact he
 · exfalso
   have hm:i+1<l.length:=by have:=dV l hi;omega
   have hd:=iK l i (i+1) (by omega) (by omega)
   have hu:upM l (i+1)=(i:Int):=(CZ l (i+1) i).2 ⟨by omega,hd,fun j h1 h2=>by omega⟩
   have hk:=((j5 t.shp hi).1 (sC t.right hi)).1 (i+1) hm hu
   unfold gJ at h
   rw[ai,aN,beq_iff_eq,beq_iff_eq]at h
   omega
theorem qG(S:Shp l){i:Nat}(hi:i<l.length)(h:0≤firstM l ts may (i:Int)):firstM l ts may (i:Int)∈may∧Und l (dr ts (firstM l ts may (i:Int))) i:=by
 rcases vo S ts may (l.length+1) i (by omega) hi with⟨h1,_⟩ |h1
 ·unfold firstM at h;omega
 ·exact h1
theorem C2(S:Shp l)(h:Lgl l s){k:Int}(hk:k∈fk (firstM l ts may) (aR l s)):k∈may∧∃i:Nat,(i:Int)∈aR l s∧firstM l ts may (i:Int)=k∧Und l (dr ts k) i:=by
 rcases(pP _ _ [] k).1 hk with h1 |⟨y,h1,h2,h3⟩
 ·cases h1
 · obtain⟨i,rfl,h4,_⟩:=nh h h1
   have:=qG (ts:=ts) (may:=may) S h4 (by omega)
   rw[h2]at this
   exact⟨this.1,i,h1,h2,this.2⟩
theorem Jw{k:Int}(hk:k∈mr l s ts may):k∈fk (firstM l ts may) (aR l s):=(tC _ [] k hk).resolve_left (by simp)
theorem B0(S:Shp l)(h:Lgl l s){k:Int}(hk:k∈mr l s ts may):k∈may:=(C2 S h (Jw hk)).1
theorem Gx:(mr l s ts may).Nodup:=GE _ [] gg (fun _ _ h=>by cases h) (vY _ _ [] gg)
theorem Gw:ud (lvM l s ts) (mr l s ts may):=GD _ [] List.Pairwise.nil
variable{g:Tran→Bool}{ev:Str}
theorem kr(S:Shp l)(h:Lgl l s){k:Int}:k∈cC l s ts (eG g ev s ts)↔k∈mr l s ts (eG g ev s ts):=by
 rw[KD]
 constructor
 ·rintro⟨_,_,_,h1⟩;exact h1
 · intro h1
   obtain⟨n,h2,h3,_⟩:=ko.1 (B0 S h h1)
   exact⟨n,h2,h3,h1⟩
theorem l6(S:Shp l)(h:Lgl l s){k:Int}(hk:k∈cC l s ts (eG g ev s ts)):k∈eG g ev s ts:=B0 S h ((kr S h).1 hk)
theorem Ht(t:Tre l)(h:Lgl l s)(hm:eG g ev s ts≠[]):cC l s ts (eG g ev s ts)≠[]:=by
 obtain⟨k,hk⟩:=List.exists_mem_of_ne_nil _ hm
 obtain⟨n,rfl,hn,hc⟩:=ko.1 hk
 unfold ma at hc
 simp only[af]at hc
 have hs:=(cu _ _).1 hc.1.2
 obtain⟨j,hj,hjl,_⟩:=h.rng _ hs
 rw[hj]at hs
 obtain⟨y,h1,h2,h3,h4⟩:=mu t h l.length j hjl (by omega) hs
 have hu:Und l (dr ts (n:Int)) y:=by
  have e:dr ts (n:Int)=(j:Int):=by unfold dr;rw[ai];exact hj
  rcases h4 with h4 |h4
  ·exact .inl (by rw[e,h4])
  ·exact .inr ⟨j,e,h4.1,h4.2⟩
 have hy:(y:Int)∈aR l s:=aH.2 ⟨h2,h3⟩
 have hf:firstM l ts (eG g ev s ts) (y:Int)∈eG g ev s ts:=by
  rcases vo t.shp ts (eG g ev s ts) (l.length+1) y (by omega) h1 with⟨_,g2⟩ |g1
  ·exact absurd hu (g2 _ hk)
  ·exact g1.1
 obtain⟨q,hq,_,_⟩:=ko.1 hf
 have hw:firstM l ts (eG g ev s ts) (y:Int)∈fk (firstM l ts (eG g ev s ts)) (aR l s):=(pP _ _ [] _).2 (.inr ⟨y,hy,rfl,by omega⟩)
 have hne:=JJ (lv:=lvM l s ts) (wi:=wiM l ts) (fk (firstM l ts (eG g ev s ts)) (aR l s)) [] (.inr fun e=>by rw[e]at hw;cases hw)
 obtain⟨z,hz⟩:=List.exists_mem_of_ne_nil _ hne
 intro e
 have:=(kr t.shp h).2 hz
 rw[e]at this;cases this
theorem DZ(S:Shp l)(h:Lgl l s){a b:Int}(ha:a∈cC l s ts (eG g ev s ts))(hb:b∈cC l s ts (eG g ev s ts))(hne:a≠b)(i:Int):i∈lvM l s ts a→i ∉ lvM l s ts b:=by
 intro h1 h2
 have key:∀{K:List Int},ud (lvM l s ts) K→a∈K→b∈K→cJ (lvM l s ts a) (lvM l s ts b)=false:=by
  intro K
  induction K with
  |nil=>intro _ h;cases h
  | cons x K ih =>
    intro hK ga gb
    obtain⟨k1,k2⟩:=cf.1 hK
    rcases aI.1 ga with ea |ga' <;> rcases aI.1 gb with eb |gb'
    ·exact absurd (ea.trans eb.symm) hne
    ·rw[ea];exact k1 _ gb'
    ·rw[eb,meet_comm];exact k1 _ ga'
    ·exact ih k2 ga' gb'
 have:=key Gw ((kr S h).1 ha) ((kr S h).1 hb)
 rw[(tF _ _).2 ⟨i,h1,h2⟩]at this;cases this
theorem KT(S:Shp l){k t2:Int}{j:Nat}(hj:dr ts t2=(j:Int))(hjl:j<l.length)(h:wiM l ts k t2=true)(h0:0≤dr ts k):∃q:Nat,dr ts k=(q:Int)∧q<j∧j<endM l q:=by
 obtain⟨q,hq⟩:=aA h0
 unfold wiM at h
 rw[hq,hj,ai,nv S hjl,af,decide_eq_true_eq,decide_eq_true_eq]at h
 exact⟨q,hq,h.1,h.2⟩
theorem D0(t:Tre l)(h:Lgl l s){y:Int}(hy:y∈aR l s)(h0:0≤firstM l ts (eG g ev s ts) y)(hsrc:dr ts (firstM l ts (eG g ev s ts) y)=y) :
 firstM l ts (eG g ev s ts) y∈cC l s ts (eG g ev s ts)∨∃k∈cC l s ts (eG g ev s ts),cJ (lvM l s ts (firstM l ts (eG g ev s ts) y)) (lvM l s ts k)=true:=by
 have S:=t.shp
 obtain⟨i,rfl,hi,his,hlf⟩:=nh h hy
 have hle:=MD t hi hlf
 have hinc:(aR l s).Pairwise (· < ·):=h.inc.filter _
 have hleaves:∀z∈aR l s,∃q:Nat,z=(q:Int)∧q<l.length:=fun z hz=>by
  obtain⟨q,e,hq,_⟩:=nh h hz;exact⟨q,e,hq⟩
 have hmay:∀z∈aR l s,0≤firstM l ts (eG g ev s ts) z→∃q:Nat,z=(q:Int)∧q<l.length∧Und l (dr ts (firstM l ts (eG g ev s ts) z)) q:=fun z hz h1=>by
  obtain⟨q,rfl,hq⟩:=hleaves z hz
  exact⟨q,rfl,hq,(qG S hq h1).2⟩
 have hin:∀k,(k∈cC l s ts (eG g ev s ts)↔k∈se (lvM l s ts) (wiM l ts) (fk (firstM l ts (eG g ev s ts)) (aR l s))):=fun k=>kr S h
 generalize hf:firstM l ts (eG g ev s ts)=f at h0 hsrc hmay hin
 generalize hK:aR l s=ls at hy hinc hleaves hmay hin
 obtain⟨A,B,rfl⟩:=List.append_of_mem hy
 have hAB:∀a∈A,a<(i:Int):=fun a ha=>(fp.1 hinc).2.2 a ha _ az
 have hBi:∀b∈B,(i:Int)<b:=fun b hb=>(cf.1 (fp.1 hinc).2.1).1 b hb
 have hpre:∀w∈A.foldl (dU f) [],∃a:Nat,(a:Int)<i∧Und l (dr ts w) a∧0≤dr ts w:=fun w hw=>by
  rcases(pP f A [] w).1 hw with h1 |⟨a,h1,h2,h3⟩
  ·cases h1
  · obtain⟨q,rfl,_,hu⟩:=hmay a (cH _ h1) (by omega)
    rw[h2]at hu
    refine⟨q,hAB _ h1,hu,?_⟩
    rcases hu with e |⟨r,e,_⟩ <;> omega
 have hnt:f (i:Int) ∉ A.foldl (dU f) []:=fun hin2=>by
  obtain⟨a,h1,h2,_⟩:=hpre _ hin2
  rw[hsrc]at h2
  rcases h2 with e |⟨q,e,h3,h4⟩ <;> omega
 have hstep:dU f (A.foldl (dU f) []) (i:Int)=A.foldl (dU f) []++[f (i:Int)]:=by
  unfold dU
  rw[if_pos]
  rw[af,decide_eq_true_eq,aK]
  refine⟨h0,?_⟩
  cases hb:inB (A.foldl (dU f) []) (f (i:Int))
  ·exact hb
  ·exact absurd ((cu _ _).1 hb) hnt
 obtain⟨r,hr1,hr2⟩:=KO f B (A.foldl (dU f) []++[f (i:Int)])
 have hw:fk f (A++(i:Int)::B)=A.foldl (dU f) []++f (i:Int)::r:=by
  unfold fk
  rw[gu,bT,hstep,hr1,bD];rfl
 have hall:∀t2∈r,0≤t2:=fun t2 ht2=>by
  have:t2∈fk f (A++(i:Int)::B):=by rw[hw];exact ct _ (aD _ ht2)
  rcases(pP f _ [] t2).1 this with h1 |⟨_,_,_,h3⟩
  ·cases h1
  ·exact h3
 have hpost:∀t2∈r,∃b j:Nat,(i:Int)<b∧dr ts t2=(j:Int)∧j<l.length∧b<l.length∧(j=b∨(j<b∧b<endM l j)):=fun t2 ht2=>by
  obtain⟨b,h1,h2⟩:=hr2 t2 ht2
  obtain⟨q,rfl,hq,hu⟩:=hmay b (ct _ (aD _ h1)) (by rw[h2];exact hall t2 ht2)
  rw[h2]at hu
  rcases hu with e |⟨j,e,h3,h4⟩
  ·exact⟨q,q,hBi _ h1,e,hq,hq,.inl rfl⟩
  ·exact⟨q,j,hBi _ h1,e,by omega,hq,.inr ⟨h3,h4⟩⟩
 have hor:=P8 (lv:=lvM l s ts) (wi:=wiM l ts) (pre:=A.foldl (dU f) []) (post:=r) (t:=f (i:Int)) (fun k hk t2 ht2 hwi=>by
  obtain⟨a,h1,h2,h3⟩:=hpre k hk
  obtain⟨b,j,h4,h5,h6,h7,h8⟩:=hpost t2 ht2
  obtain⟨q,h9,h10,h11⟩:=KT S h5 h6 hwi h3
  have hqb:q<b∧b<endM l q:=by
   rcases h8 with e |⟨h8,h8'⟩
   ·omega
   · have:=jd l (by omega) h10 h11
     omega
  have hqa:q≤a:=by
   rcases h2 with e |⟨q',e,_⟩ <;> omega
  unfold wiM
  rw[h9,hsrc,ai,nv S hi,af,decide_eq_true_eq,decide_eq_true_eq]
  omega) (fun t2 ht2=>by
  obtain⟨b,j,h4,h5,h6,h7,h8⟩:=hpost t2 ht2
  cases hwi:wiM l ts (f (i:Int)) t2
  ·rfl
  · exfalso
    obtain⟨q,h9,h10,h11⟩:=KT S h5 h6 hwi (by rw[hsrc];omega)
    rw[hsrc]at h9
    have:q=i:=by omega
    subst this
    omega)
 rw[←hw]at hor
 rcases hor with h1 |⟨k,h1,h2⟩
 ·exact .inl ((hin _).2 h1)
 ·exact .inr ⟨k,(hin _).2 h1,h2⟩
end
end Go.Proofs.YtlhgnjmdopjpeaaGreatDoor

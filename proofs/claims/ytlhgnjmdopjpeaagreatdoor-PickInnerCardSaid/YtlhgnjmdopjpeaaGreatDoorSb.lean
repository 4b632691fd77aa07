/- Trees of states: the document's words and the program's are alike (plain). Conditions: none. -/
import Derived.Test.YtlhgnjmdopjpeaaGreatDoorSa
import Derived.Test.YtlhgnjmdopjpeaaGreatDoorTf
namespace Go.Proofs.YtlhgnjmdopjpeaaGreatDoor
open Go Go.Ev
set_option maxRecDepth 100000
variable(l:List Ev.Stat)(k m i j:Nat)
abbrev dep:Int:=(ETy.get .stat l k).depth
structure Shp (l:List Ev.Stat):Prop where
 pos:0<l.length
 few:l.length≤40
 d0:dep l 0=0
 lo:∀k,k<l.length→0≤dep l k
 hi:∀k,k<l.length→dep l k≤5
 st:∀k,k+1<l.length→dep l (k+1)≤dep l k+1
 k1:∀k,k<l.length→1≤(ETy.get .stat l k).kind∧(ETy.get .stat l k).kind≤6
theorem rH(l:List Ev.Stat)(d:Int):∀n:Nat,(j9 l d n = -1∧∀k,k<n→d≤dep l k)∨(∃k:Nat,k<n∧j9 l d n=(k:Int)∧dep l k<d∧∀j,k<j→j<n→d≤dep l j)
 |0=>.inl ⟨rfl,fun k h=>by omega⟩
 | n + 1=>by
   by_cases h:dep l n<d
   · refine .inr ⟨n,by omega,?_,h,fun j h1 h2=>by omega⟩
     rw[j9,if_pos h]
   · rw[j9,if_neg h]
     rcases rH l d n with⟨e,h1⟩ |⟨k,h1,h2,h3,h4⟩
     · refine .inl ⟨e,fun k hk=>?_⟩
       rcases Nat.lt_succ_iff_lt_or_eq.1 hk with h5 |h5
       ·exact h1 k h5
       ·subst h5;omega
     · refine .inr ⟨k,by omega,h2,h3,fun j h5 h6=>?_⟩
       rcases Nat.lt_succ_iff_lt_or_eq.1 h6 with h7 |h7
       ·exact h4 j h5 h7
       ·subst h7;omega
theorem CZ:upM l m=(i:Int)↔i<m∧dep l i<dep l m∧∀j,i<j→j<m→dep l m≤dep l j:=by
 unfold upM
 rcases rH l (dep l m) m with⟨e,h1⟩ |⟨k,h1,h2,h3,h4⟩
 · rw[e]
   refine⟨fun h=>by omega,fun⟨h2,h3,_⟩=>?_⟩
   have:=h1 i h2;omega
 · rw [h2]
   refine⟨fun h=>?_,fun⟨h5,h6,h7⟩=>?_⟩
   · have:k=i:=by omega
     subst this;exact⟨h1,h3,h4⟩
   · by_cases h8:k<i
     ·have:=h4 i h8 h5;omega
     · by_cases h9:i<k
       ·have:=h7 k h9 h1;omega
       · have:k=i:=by omega
         rw[this]
theorem jo:(upM l m = -1∧∀k,k<m→dep l m≤dep l k)∨(∃i:Nat,upM l m=(i:Int)∧i<m∧dep l i<dep l m∧∀j,i<j→j<m→dep l m≤dep l j):=by
 rcases rH l (dep l m) m with⟨e,h1⟩ |⟨k,h1,h2,h3,h4⟩
 ·exact .inl ⟨e,h1⟩
 ·exact .inr ⟨k,h2,h1,h3,h4⟩
theorem J5{l:List Ev.Stat}(S:Shp l)(d:Int)(hd:0≤d):∀n:Nat,n<l.length→d≤dep l n→gT l (d - 1) n=j9 l d n
 |0,_,_=>rfl
 | n + 1,hn,h=>by
   have h1:=S.st n hn
   rw[gT,j9]
   by_cases h2:dep l n<d
   · rw[if_pos h2,if_pos (by
      have:dep l n=d - 1:=by omega
      simpa using this)]
   · rw[if_neg h2,if_neg (by
      have:¬dep l n=d - 1:=by omega
      simpa using this)]
     exact J5 S d hd n (by omega) (by omega)
theorem ft{l:List Ev.Stat}(S:Shp l){i:Nat}(hi:i<l.length):bq l i=upM l i:=by
 have h1:=S.lo i hi
 have h2:=S.hi i hi
 unfold bq upM
 rw[cg (by show _≤dep l i - 1;omega) (by show dep l i - 1≤_;omega)]
 exact J5 S _ h1 i hi (fA _)
theorem pj(d:Int):∀l:List Ev.Stat,(∀j,j<gI d l→d<dep l j)∧(gI d l<l.length→dep l (gI d l)≤d)
 |[]=>⟨fun j h=>by simp[gI]at h,fun h=>by simp[gI]at h⟩
 | s :: r=>by
   have ih:=pj d r
   rw[gI]
   by_cases h:s.depth>d
   · rw[decide_eq_true h,cond_true]
     refine⟨fun j hj=>?_,fun hj=>?_⟩
     · cases j with
       |zero=>exact h
       |succ j=>exact ih.1 j (by omega)
     ·exact ih.2 (by rw[ax]at hj;omega)
   · rw[decide_eq_false h,cond_false]
     exact⟨fun j hj=>by omega,fun _=>by show s.depth≤d;omega⟩
theorem Bt:dep (l.drop k) j=dep l (k+j):=by
 unfold dep ETy.get
 rw[List.getD_eq_getElem?_getD,List.getD_eq_getElem?_getD,List.getElem?_drop]
theorem iK(h1:i<j)(h2:j<endM l i):dep l i<dep l j:=by
 have h:=(pj (dep l i) (l.drop (i+1))).1 (j - (i+1)) (by unfold endM at h2;show _<gI (ETy.get .stat l i).depth _;omega)
 rw[Bt,show i+1+(j - (i+1))=j by omega]at h
 exact h
theorem BS(h:endM l i<l.length):dep l (endM l i)≤dep l i:=by
 have h2:=(pj (dep l i) (l.drop (i+1))).2 (by rw[List.length_drop];unfold endM at h;show gI (ETy.get .stat l i).depth _<_;omega)
 rw[Bt]at h2
 exact h2
theorem wA{i j:Nat}(hj:j<l.length)(h:i<j):j<endM l i↔∀k,i<k→k≤j→dep l i<dep l k:=by
 refine⟨fun h2 k h3 h4=>iK l i k h3 (by omega),fun h2=>?_⟩
 have h5:=dV l (i:=i) (by omega)
 by_cases h6:j<endM l i
 ·exact h6
 · have h7:=BS l i (by omega)
   have h8:=h2 (endM l i) h5.1 (by omega)
   omega
theorem nw{i k:Nat}(hk:k<l.length)(hne:k≠i):(i<k∧k<endM l i)↔(0≤upM l k∧(upM l k=(i:Int)∨((i:Int)<upM l k∧upM l k<(endM l i:Int)))):=by
 rcases jo l k with⟨e,h1⟩ |⟨u,e,h1,h2,h3⟩
 · rw[e]
   refine⟨fun⟨a,b⟩=>?_,fun h=>by omega⟩
   have:=iK l i k a b
   have:=h1 i a
   omega
 · rw [e]
   refine⟨fun⟨a,b⟩=>⟨by omega,?_⟩,fun⟨_,h⟩=>?_⟩
   · have h5:=iK l i k a b
     by_cases h6:u<i
     ·have:=h3 i h6 a;omega
     · by_cases h7:u=i
       ·exact .inl (by omega)
       ·exact .inr ⟨by omega,by omega⟩
   · rcases h with h |⟨ha,hb⟩
     · have:u=i:=by omega
       subst this
       refine⟨h1,(wA l hk h1).2 fun j h5 h6=>?_⟩
       by_cases h7:j=k
       ·subst h7;exact h2
       ·have:=h3 j h5 (by omega);omega
     · have hik:i<k:=by omega
       refine⟨hik,(wA l hk hik).2 fun j h5 h6=>?_⟩
       have hu:=iK l i u (by omega) (by omega)
       by_cases h8:j≤u
       ·exact iK l i j h5 (by omega)
       · by_cases h7:j=k
         ·subst h7;omega
         ·have:=h3 j (by omega) (by omega);omega
theorem KU{l:List Ev.Stat}(S:Shp l)(i:Nat):∀(n:Nat) (k:Int), -1≤k→k<(l.length:Int)→k<(n:Int)→(jm l (i:Int) n k=true↔(0≤k∧(k=(i:Int)∨((i:Int)<k∧k<(endM l i:Int)))))
 | 0,k,h1,h2,h3=>by
   rw[jm]
   exact⟨fun h=>Bool.noConfusion h,fun h=>by omega⟩
 | n + 1,k,h1,h2,h3=>by
   rw[jm]
   by_cases hk:k<0
   · rw[if_pos hk]
     exact⟨fun h=>Bool.noConfusion h,fun h=>by omega⟩
   · rw[if_neg hk]
     obtain⟨m,rfl⟩:=aA (show 0≤k by omega)
     by_cases hi:(m:Int)=(i:Int)
     · rw[if_pos (by simpa using hi)]
       exact⟨fun _=>⟨by omega,.inl hi⟩,fun _=>rfl⟩
     · rw[if_neg (by simpa using hi),ai,ft S (by omega)]
       have hb:=mM l (dep l m) m
       have hb' : -1≤upM l m∧upM l m<(m:Int):=hb
       rw[KU S i n (upM l m) (by omega) (by omega) (by omega),←nw l (by omega) (show m≠i by omega)]
       exact⟨fun h=>⟨by omega,.inr ⟨by omega,by omega⟩⟩,fun h=>by omega⟩
theorem nv{l:List Ev.Stat}(S:Shp l){i j:Nat}(hj:j<l.length):eO l (i:Int) j=(decide (i<j)&&decide (j<endM l i)):=by
 have hb:=mM l (dep l j) j
 have hb' : -1≤upM l j∧upM l j<(j:Int):=hb
 have h:=KU S i (l.length+1) (upM l j) (by omega) (by omega) (by omega)
 unfold eO
 rw[ft S hj,aT,h]
 simp only[af,decide_eq_true_eq]
 by_cases hne:j=i
 · subst hne
   exact⟨fun h2=>by omega,fun h2=>by omega⟩
 ·rw[←nw l hj hne]
theorem dY{l:List Ev.Stat}(S:Shp l){m i:Nat}(hm:m<l.length):upM l m=(i:Int)↔(i<m∧m<endM l i∧dep l m=dep l i+1):=by
 rw[CZ]
 refine⟨fun⟨h1,h2,h3⟩=>⟨h1,?_,?_⟩,fun⟨h1,h2,h3⟩=>⟨h1,by omega,fun j h4 h5=>?_⟩⟩
 · refine(wA l hm h1).2 fun j h5 h6=>?_
   by_cases h7:j=m
   ·subst h7;exact h2
   ·have:=h3 j h5 (by omega);omega
 · have h4:=S.st i (by omega)
   by_cases h5:i+1=m
   ·subst h5;omega
   ·have:=h3 (i+1) (by omega) (by omega);omega
 ·have:=iK l i j h4 (by omega);omega
theorem EB{l:List Ev.Stat}(S:Shp l)(i:Nat)(hi:i<l.length)(y:Int):∀(n k:Nat),l.length - k≤n→i<k→(k<endM l i→dep l k=dep l i+1) →
 (y∈eL l (endM l i) n k↔∃m:Nat,y=(m:Int)∧k≤m∧m<endM l i∧dep l m=dep l i+1)
 | 0,k,hn,hik,hd=>by
   have:=(dV l hi).2
   rw[eL]
   exact⟨fun h=>(by cases h),fun⟨m,h1,h2,h3,h4⟩=>by omega⟩
 | n + 1,k,hn,hik,hd=>by
   rw[eL]
   have he:=(dV l hi).2
   by_cases hk:k<endM l i
   · rw [if_pos hk,aI]
     have h1:=dV l (i:=k) (by omega)
     have hdk:=hd hk
     have ih:=EB S i hi y n (endM l k) (by omega) (by omega) (fun h=>by
      have h2:=BS l k (by omega)
      have h3:=iK l i (endM l k) (by omega) h
      omega)
     rw[ih]
     constructor
     · rintro(rfl |⟨m,h2,h3,h4,h5⟩)
       ·exact⟨k,rfl,av _,hk,hdk⟩
       ·exact⟨m,h2,by omega,h4,h5⟩
     · rintro⟨m,h2,h3,h4,h5⟩
       by_cases h6:m=k
       ·subst h6;exact .inl h2
       · refine .inr ⟨m,h2,?_,h4,h5⟩
         by_cases h7:endM l k≤m
         ·exact h7
         ·have:=iK l k m (by omega) (by omega);omega
   · rw[if_neg hk]
     exact⟨fun h=>(by cases h),fun⟨m,h1,h2,h3,h4⟩=>by omega⟩
theorem gY{l:List Ev.Stat}(S:Shp l){i:Nat}(hi:i<l.length)(y:Int):y∈bB l i↔∃m:Nat,y=(m:Int)∧m<l.length∧upM l m=(i:Int):=by
 have he:=(dV l hi).2
 unfold bB
 rw[EB S i hi y l.length (i+1) (by omega) (by omega) (fun h=>by
  have h2:=S.st i (by omega)
  have h3:=iK l i (i+1) (by omega) h
  omega)]
 constructor
 · rintro⟨m,h1,h2,h3,h4⟩
   exact⟨m,h1,by omega,(dY S (by omega)).2 ⟨by omega,h3,h4⟩⟩
 · rintro⟨m,h1,h2,h3⟩
   have:=(dY S h2).1 h3
   exact⟨m,h1,by omega,this.2.1,this.2.2⟩
theorem yq{l:List Ev.Stat}(S:Shp l){i:Nat}(hi:i<l.length)(y:Int):y∈dt l (i:Int) l.length↔∃m:Nat,y=(m:Int)∧m<l.length∧upM l m=(i:Int):=by
 unfold dt
 rw[aM]
 constructor
 · rintro⟨m,h1,h2⟩
   have hm:=bL.1 (aH.1 h1).1
   rw[aH,bL,af,ft S hm]at h1
   exact⟨m,h2.symm,h1.1,by simpa using h1.2.1⟩
 · rintro⟨m,h1,h2,h3⟩
   refine⟨m,?_,h1.symm⟩
   rw[aH,bL,af,ft S h2]
   have h4:=(dY S h2).1 h3
   have h5:=S.lo i hi
   exact⟨h2,by simpa using h3,decide_eq_true (by show dep l m>0;omega)⟩
/-! ### the shape -/
theorem tV(l:List Ev.Stat):∀(n k:Nat) (r:Int),l.length - k=n→(k=0→0<l.length→dep l 0=0)→fQ (jG l k) r (l.drop k)=fP l n k r
 | 0,k,r,hn,_=>by
   rw[bS (l:=l) (by omega),fQ,fP]
 | n + 1,k,r,hn,h0=>by
   have hk:k<l.length:=by omega
   rw[bx (t:=.stat) (l:=l) hk,fQ,fP]
   have hb:te (jG l k) (ETy.get .stat l k)=jz l k:=by
    unfold te jz
    cases k with
    | zero =>
      have h1:=h0 rfl hk
      have h2:(ETy.get .stat l 0).depth=0:=h1
      rw[aT]
      simp only[jG,h2,aN,af,decide_eq_true_eq,cg (show(-9223372036854775808:Int)≤-1+1 by omega) (show(-1+1:Int)≤9223372036854775807 by omega)]
      omega
    | succ k =>
      rw[show jG l (k+1)=(ETy.get .stat l k).depth from rfl,Nat.add_sub_cancel]
      generalize IntKind.wrap .i64 ((ETy.get .stat l k).depth+1)=w
      generalize (ETy.get .stat l (k+1)).depth=d
      generalize (ETy.get .stat l (k+1)).kind=x
      rw[aT]
      simp only[aN,af,decide_eq_true_eq]
      omega
   rw[hb]
   cases jz l k
   · rw [cond_false,if_neg (by decide)]
     by_cases hz:(ETy.get .stat l k).depth=0
     · rw[show((ETy.get .stat l k).depth==0)=true by simpa using hz,cond_true,if_pos rfl]
       cases hq:(ETy.get .stat l k).kind != 2
       · rw[cond_false,if_neg (by decide)]
         have ih:=tV l n (k+1) (IntKind.wrap .i64 (r+1)) (by omega) (by omega)
         rw[←ih];rfl
       ·rfl
     · rw[show((ETy.get .stat l k).depth==0)=false by simpa using hz,cond_false,if_neg (by decide)]
       have ih:=tV l n (k+1) r (by omega) (by omega)
       rw[←ih];rfl
   ·rfl
theorem NS:l1 l=jC l:=by
 unfold l1 jC
 by_cases hp:0<l.length
 · by_cases h0:dep l 0=0
   · have h:=tV l l.length 0 0 (by omega) (fun _ _=>h0)
     rw[show jG l 0 = -1 from rfl,cA]at h
     rw[h]
     have e:(dep l 0 != 0)=false:=by simpa using h0
     rw[show(ETy.get .stat l 0).depth=dep l 0 from rfl,e,bN]
     cases fP l l.length 0 0 with
     |none=>simp[rB,He]
     | some r =>
       unfold rB He
       rw[aT]
       simp only[af,aK,al,decide_eq_true_eq,decide_eq_false_iff_not]
       omega
   · have e:(dep l 0 != 0)=true:=by simpa using h0
     rw[show(ETy.get .stat l 0).depth=dep l 0 from rfl,e,Bool.or_true,cq,br]
     have h1:=bx (t:=.stat) (l:=l) hp
     rw[cA]at h1
     rw[h1,fQ]
     have hb:te (-1) (ETy.get .stat l 0)=true:=by
      unfold te
      have h2:¬(ETy.get .stat l 0).depth=0:=h0
      simp only[aN,decide_eq_true_eq,cg (show(-9223372036854775808:Int)≤-1+1 by omega) (show(-1+1:Int)≤9223372036854775807 by omega)]
      omega
     rw[hb];rfl
 · have:l=[]:=by cases l with
    |nil=>rfl
    |cons=>simp at hp
   subst this;rfl
theorem CM(l:List Ev.Stat):∀(n k:Nat) (r q:Int),l.length - k=n→fP l n k r=some q→∀j,k≤j→j<l.length→jz l j=false
 |0,k,r,q,hn,_,j,h1,h2=>by omega
 | n + 1,k,r,q,hn,h,j,h1,h2=>by
   rw[fP]at h
   cases hb:jz l k
   · by_cases hj:j=k
     ·subst hj;exact hb
     · rw[hb,if_neg (by decide)]at h
       split at h
       · split at h
         ·cases h
         ·exact CM l n (k+1) _ q (by omega) h j (by omega) h2
       ·exact CM l n (k+1) _ q (by omega) h j (by omega) h2
   ·rw[hb,if_pos rfl]at h;cases h
theorem Kv{l:List Ev.Stat}(h:jC l=true):Shp l:=by
 unfold jC at h
 rw[af]at h
 obtain⟨h1,h2⟩:=h
 simp only[aK,al,decide_eq_false_iff_not]at h1
 obtain⟨⟨h3,h4⟩,h5⟩:=h1
 have h5':dep l 0=0:=by simpa using h5
 cases hq:fP l l.length 0 0 with
 |none=>rw[hq]at h2;cases h2
 | some q =>
   have hb:=fun j hj=>CM l l.length 0 0 q (by omega) hq j (aS _) hj
   have hb2:∀j,j<l.length→¬(ETy.get .stat l j).kind<1∧¬(ETy.get .stat l j).kind>6∧¬(ETy.get .stat l j).depth<0∧¬(ETy.get .stat l j).depth>5∧(0<j→¬(ETy.get .stat l j).depth>IntKind.wrap .i64 ((ETy.get .stat l (j - 1)).depth+1)):=fun j hj=>by
    have:=hb j hj
    unfold jz at this
    simp only[al,bZ,decide_eq_false_iff_not]at this
    obtain⟨⟨⟨⟨a,b⟩,c⟩,d⟩,e⟩:=this
    exact⟨a,b,c,d,fun hp=>by
     rcases e with e |e;· omega
     ·exact e⟩
   refine⟨by omega,by omega,h5',fun k hk=>by have:=hb2 k hk;show 0≤(ETy.get .stat l k).depth;omega,fun k hk=>by have:=hb2 k hk;show(ETy.get .stat l k).depth≤5;omega,fun k hk=>?_,fun k hk=>by have:=hb2 k hk;omega⟩
   have a:=hb2 (k+1) hk
   have b:=hb2 k (by omega)
   have c:=a.2.2.2.2 (by omega)
   rw[Nat.add_sub_cancel,cg (by omega) (by omega)]at c
   show(ETy.get .stat l (k+1)).depth≤(ETy.get .stat l k).depth+1
   omega
/-! ### the whole tree -/
theorem tY(l:List Ev.Stat):∀(n k:Nat),l.length - k=n→(eu l n k=true↔∀j,k≤j→j<l.length→tH l j=true)
 |0,k,hn=>by rw[eu];exact⟨fun _ j h1 h2=>by omega,fun _=>rfl⟩
 | n+1,k,hn=>by
   rw[eu,af,tY l n (k+1) (by omega)]
   refine⟨fun⟨a,b⟩ j h1 h2=>?_,fun h=>⟨h k (av _) (by omega),fun j h1 h2=>h j (by omega) h2⟩⟩
   by_cases hj:j=k
   ·subst hj;exact a
   ·exact b j (by omega) h2
theorem yu(l:List Ev.Stat):∀(n k:Nat),l.length - k=n→(ix l n k=true↔∀j,k≤j→j<l.length→lI l j=true)
 |0,k,hn=>by rw[ix];exact⟨fun _ j h1 h2=>by omega,fun _=>rfl⟩
 | n+1,k,hn=>by
   rw[ix,af,yu l n (k+1) (by omega)]
   refine⟨fun⟨a,b⟩ j h1 h2=>?_,fun h=>⟨h k (av _) (by omega),fun j h1 h2=>h j (by omega) h2⟩⟩
   by_cases hj:j=k
   ·subst hj;exact a
   ·exact b j (by omega) h2
theorem tJ(k:Int):bg k=true↔k=5∨k=6:=by
 unfold bg;simp
theorem G6(xs:List Int):eC l xs≠0↔∃y∈xs,bg (ETy.get .stat l y.toNat).kind=false:=by
 unfold eC
 rw[←Nat.pos_iff_ne_zero,List.length_pos_iff_exists_mem]
 constructor
 · rintro⟨y,hy⟩
   rw[aH]at hy
   exact⟨y,hy.1,by simpa using hy.2⟩
 · rintro⟨y,h1,h2⟩
   exact⟨y,aH.2 ⟨h1,by simpa using h2⟩⟩
theorem j5{l:List Ev.Stat}(S:Shp l){i:Nat}(hi:i<l.length):tH l i=true ↔
 ((∀m,m<l.length→upM l m=(i:Int)→(ETy.get .stat l i).kind=2∨((ETy.get .stat l i).kind=3∧(ETy.get .stat l m).kind≤3)) ∧
 ((ETy.get .stat l i).kind=2∨(ETy.get .stat l i).kind=3→∃m,m<l.length∧upM l m=(i:Int)∧bg (ETy.get .stat l m).kind=false)):=by
 have hmem:=gY S hi
 have hreal:eC l (bB l i)≠0↔∃m,m<l.length∧upM l m=(i:Int)∧bg (ETy.get .stat l m).kind=false:=by
  rw[G6]
  constructor
  · rintro⟨y,h1,h2⟩
    obtain⟨m,rfl,h3,h4⟩:=(hmem y).1 h1
    exact⟨m,h3,h4,by rw[ai]at h2;exact h2⟩
  · rintro⟨m,h1,h2,h3⟩
    exact⟨(m:Int),(hmem _).2 ⟨m,rfl,h1,h2⟩,by rw[ai];exact h3⟩
 have hkids:fY l (ETy.get .stat l i) (bB l i)=true↔∀m,m<l.length→upM l m=(i:Int)→oU (ETy.get .stat l i) (ETy.get .stat l m)=false:=by
  unfold fY
  rw[an]
  constructor
  · intro h m h1 h2
    have:=h (m:Int) ((hmem _).2 ⟨m,rfl,h1,h2⟩)
    rw[ai]at this
    simpa using this
  · intro h y hy
    obtain⟨m,rfl,h3,h4⟩:=(hmem y).1 hy
    rw[ai]
    simpa using h m h3 h4
 have hzero:(bB l i).length=0↔∀m,m<l.length→¬upM l m=(i:Int):=by
  rw[fV,List.eq_nil_iff_forall_not_mem]
  constructor
  · intro h m h1 h2
    exact h (m:Int) ((hmem _).2 ⟨m,rfl,h1,h2⟩)
  · intro h y hy
    obtain⟨m,rfl,h3,h4⟩:=(hmem y).1 hy
    exact h m h3 h4
 have hbad:∀m,m<l.length→(oU (ETy.get .stat l i) (ETy.get .stat l m)=false↔((ETy.get .stat l i).kind=3→(ETy.get .stat l m).kind≤3)):=by
  intro m hm
  have:=S.k1 m hm
  unfold oU bg
  generalize (ETy.get .stat l i).kind=a at *
  generalize (ETy.get .stat l m).kind=b at *
  rw[←cG]
  simp only[af,aN,beq_iff_eq]
  omega
 unfold tH
 rw[af,hkids]
 by_cases h2:(ETy.get .stat l i).kind=2
 · rw[show((ETy.get .stat l i).kind==2||(ETy.get .stat l i).kind==3)=true by rw[h2];rfl,cond_true]
   have e:(!(eC l (bB l i)==0))=true↔eC l (bB l i)≠0:=by simp
   rw[e,hreal]
   refine⟨fun⟨_,b⟩=>⟨fun _ _ _=>.inl h2,fun _=>b⟩,fun⟨_,b⟩=>⟨fun m hm _=>(hbad m hm).2 fun h3=>by omega,b (.inl h2)⟩⟩
 · by_cases h3:(ETy.get .stat l i).kind=3
   · rw[show((ETy.get .stat l i).kind==2||(ETy.get .stat l i).kind==3)=true by rw[h3];rfl,cond_true]
     have e:(!(eC l (bB l i)==0))=true↔eC l (bB l i)≠0:=by simp
     rw[e,hreal]
     refine⟨fun⟨a,b⟩=>⟨fun m hm hu=>.inr ⟨h3,(hbad m hm).1 (a m hm hu) h3⟩,fun _=>b⟩,fun⟨a,b⟩=>⟨fun m hm hu=>(hbad m hm).2 fun _=>?_,b (.inr h3)⟩⟩
     rcases a m hm hu with h |h
     ·omega
     ·exact h.2
   · rw[show((ETy.get .stat l i).kind==2||(ETy.get .stat l i).kind==3)=false by simp[h2,h3],cond_false]
     have e:((bB l i).length==0)=true↔(bB l i).length=0:=by simp
     rw[e,hzero]
     refine⟨fun⟨_,b⟩=>⟨fun m hm hu=>absurd hu (b m hm),fun h=>(h.elim h2 h3).elim⟩,fun⟨a,_⟩=>⟨fun m hm hu=>?_,fun m hm hu=>?_⟩⟩
     ·exact((a m hm hu).elim h2 fun h=>h3 h.1).elim
     ·exact(a m hm hu).elim h2 fun h=>h3 h.1
theorem rz {l:List Ev.Stat} (S:Shp l) {i:Nat} (hi:i<l.length):lI l i=true ↔
 ((∀p:Nat,upM l i=(p:Int)→(ETy.get .stat l p).kind=2∨((ETy.get .stat l p).kind=3∧(ETy.get .stat l i).kind≤3)) ∧
 ((ETy.get .stat l i).kind=2∨(ETy.get .stat l i).kind=3→∃m,m<l.length∧upM l m=(i:Int)∧bg (ETy.get .stat l m).kind=false)):=by
 have hmem:=yq S hi
 have hreal:((dt l (i:Int) l.length).any fun y=>!bg (ETy.get .stat l y.toNat).kind)=true↔∃m,m<l.length∧upM l m=(i:Int)∧bg (ETy.get .stat l m).kind=false:=by
  rw[bf]
  constructor
  · rintro⟨y,h1,h2⟩
    obtain⟨m,rfl,h3,h4⟩:=(hmem y).1 h1
    exact⟨m,h3,h4,by rw[ai]at h2;simpa using h2⟩
  · rintro⟨m,h1,h2,h3⟩
    exact⟨(m:Int),(hmem _).2 ⟨m,rfl,h1,h2⟩,by rw[ai];simpa using h3⟩
 unfold lI
 rw[ft S hi,af]
 have h1:(!(decide (upM l i≥0)&&(ETy.get .stat l (upM l i).toNat).kind != 2&&((ETy.get .stat l (upM l i).toNat).kind != 3||decide ((ETy.get .stat l i).kind>3))))=true ↔
  ∀p:Nat,upM l i=(p:Int)→(ETy.get .stat l p).kind=2∨((ETy.get .stat l p).kind=3∧(ETy.get .stat l i).kind≤3):=by
  rcases jo l i with⟨e,_⟩ |⟨p,e,_⟩
  · rw[e]
    exact⟨fun _ p h=>by omega,fun _=>rfl⟩
  · rw [e,ai]
    have e0:decide ((p:Int)≥0)=true:=decide_eq_true (by omega)
    rw[e0,bb]
    constructor
    · intro h q hq
      have:p=q:=by omega
      subst this
      by_cases h2:(ETy.get .stat l p).kind=2
      ·exact .inl h2
      · refine .inr ?_
        by_cases h3:(ETy.get .stat l p).kind=3
        · refine⟨h3,?_⟩
          by_cases h4:(ETy.get .stat l i).kind>3
          ·simp[h2,h3,h4]at h
          ·omega
        ·simp[h2,h3]at h
    · intro h
      rcases h p rfl with h2 |⟨h2,h3⟩
      ·simp[h2]
      · have:¬(ETy.get .stat l i).kind>3:=by omega
        simp[h2,this]
 rw[h1]
 have h2:((bif (ETy.get .stat l i).kind != 2&&(ETy.get .stat l i).kind != 3 then true else(dt l (i:Int) l.length).any fun y=>!bg (ETy.get .stat l y.toNat).kind))=true ↔
  ((ETy.get .stat l i).kind=2∨(ETy.get .stat l i).kind=3→∃m,m<l.length∧upM l m=(i:Int)∧bg (ETy.get .stat l m).kind=false):=by
  by_cases ha:(ETy.get .stat l i).kind=2
  · rw[show((ETy.get .stat l i).kind != 2&&(ETy.get .stat l i).kind != 3)=false by rw[ha];rfl,cond_false,hreal]
    exact⟨fun h _=>h,fun h=>h (.inl ha)⟩
  · by_cases hb:(ETy.get .stat l i).kind=3
    · rw[show((ETy.get .stat l i).kind != 2&&(ETy.get .stat l i).kind != 3)=false by rw[hb];rfl,cond_false,hreal]
      exact⟨fun h _=>h,fun h=>h (.inr hb)⟩
    · rw[show((ETy.get .stat l i).kind != 2&&(ETy.get .stat l i).kind != 3)=true by simp[ha,hb],cond_true]
      exact⟨fun _ h=>by omega,fun _=>rfl⟩
 rw[h2]
theorem pL:cn l=iw l:=by
 unfold cn iw
 rw[NS]
 cases hs:jC l
 ·rfl
 · have S:=Kv hs
   rw[bb,bb,aT,tY l l.length 0 (by omega),yu l l.length 0 (by omega)]
   constructor
   · intro h j _ hj
     have h1:=(j5 S hj).1 (h j (aS _) hj)
     refine(rz S hj).2 ⟨fun p hp=>?_,h1.2⟩
     have hpj:p<j:=by
      have:=mM l (dep l j) j
      have h3:upM l j<(j:Int):=this.2
      omega
     exact((j5 S (by omega)).1 (h p (aS _) (by omega))).1 j hj hp
   · intro h j _ hj
     have h1:=(rz S hj).1 (h j (aS _) hj)
     refine(j5 S hj).2 ⟨fun m hm hu=>?_,h1.2⟩
     exact((rz S hm).1 (h m (aS _) hm)).1 j hu
end Go.Proofs.YtlhgnjmdopjpeaaGreatDoor

/- Trees of states: the document's words and the program's are alike (plain). Conditions: none. -/
import Derived.Test.YtlhgnjmdopjpeaaGreatDoorSa
import Derived.Test.YtlhgnjmdopjpeaaGreatDoorTf
namespace Go.Proofs.YtlhgnjmdopjpeaaGreatDoor
open Go Go.Ev
set_option maxRecDepth 100000
variable(l:List Ev.Stat)(k m i j:Nat)
abbrev dep:Int:=(ETy.get .stat l k).depth
structure Shp (l:List Ev.Stat):Prop where
 pos:0<l.length
 few:l.length≤40
 d0:dep l 0=0
 lo:∀k,k<l.length→0≤dep l k
 hi:∀k,k<l.length→dep l k≤5
 st:∀k,k+1<l.length→dep l (k+1)≤dep l k+1
 k1:∀k,k<l.length→1≤(ETy.get .stat l k).kind∧(ETy.get .stat l k).kind≤6
theorem rA(l:List Ev.Stat)(d:Int):∀n:Nat,(j4 l d n = -1∧∀k,k<n→d≤dep l k)∨(∃k:Nat,k<n∧j4 l d n=(k:Int)∧dep l k<d∧∀j,k<j→j<n→d≤dep l j)
 |0=>.inl ⟨rfl,fun k h=>by omega⟩
 | n + 1=>by
   by_cases h:dep l n<d
   · refine .inr ⟨n,by omega,?_,h,fun j h1 h2=>by omega⟩
     rw[j4,if_pos h]
   · rw[j4,if_neg h]
     rcases rA l d n with⟨e,h1⟩ |⟨k,h1,h2,h3,h4⟩
     · refine .inl ⟨e,fun k hk=>?_⟩
       rcases Nat.lt_succ_iff_lt_or_eq.1 hk with h5 |h5
       ·exact h1 k h5
       ·subst h5;omega
     · refine .inr ⟨k,by omega,h2,h3,fun j h5 h6=>?_⟩
       rcases Nat.lt_succ_iff_lt_or_eq.1 h6 with h7 |h7
       ·exact h4 j h5 h7
       ·subst h7;omega
theorem J5:upM l m=(i:Int)↔i<m∧dep l i<dep l m∧∀j,i<j→j<m→dep l m≤dep l j:=by
 unfold upM
 rcases rA l (dep l m) m with⟨e,h1⟩ |⟨k,h1,h2,h3,h4⟩
 · rw[e]
   refine⟨fun h=>by omega,fun⟨h2,h3,_⟩=>?_⟩
   have:=h1 i h2;omega
 · rw [h2]
   refine⟨fun h=>?_,fun⟨h5,h6,h7⟩=>?_⟩
   · have:k=i:=by omega
     subst this;exact⟨h1,h3,h4⟩
   · by_cases h8:k<i
     ·have:=h4 i h8 h5;omega
     · by_cases h9:i<k
       ·have:=h7 k h9 h1;omega
       · have:k=i:=by omega
         rw[this]
theorem j5:(upM l m = -1∧∀k,k<m→dep l m≤dep l k)∨(∃i:Nat,upM l m=(i:Int)∧i<m∧dep l i<dep l m∧∀j,i<j→j<m→dep l m≤dep l j):=by
 rcases rA l (dep l m) m with⟨e,h1⟩ |⟨k,h1,h2,h3,h4⟩
 ·exact .inl ⟨e,h1⟩
 ·exact .inr ⟨k,h2,h1,h3,h4⟩
theorem Jo{l:List Ev.Stat}(S:Shp l)(d:Int)(hd:0≤d):∀n:Nat,n<l.length→d≤dep l n→gL l (d - 1) n=j4 l d n
 |0,_,_=>rfl
 | n + 1,hn,h=>by
   have h1:=S.st n hn
   rw[gL,j4]
   by_cases h2:dep l n<d
   · rw[if_pos h2,if_pos (by
      have:dep l n=d - 1:=by omega
      simpa using this)]
   · rw[if_neg h2,if_neg (by
      have:¬dep l n=d - 1:=by omega
      simpa using this)]
     exact Jo S d hd n (by omega) (by omega)
theorem fC{l:List Ev.Stat}(S:Shp l){i:Nat}(hi:i<l.length):bw l i=upM l i:=by
 have h1:=S.lo i hi
 have h2:=S.hi i hi
 unfold bw upM
 rw[cj (by show _≤dep l i - 1;omega) (by show dep l i - 1≤_;omega)]
 exact Jo S _ h1 i hi (fq _)
theorem o9(d:Int):∀l:List Ev.Stat,(∀j,j<gz d l→d<dep l j)∧(gz d l<l.length→dep l (gz d l)≤d)
 |[]=>⟨fun j h=>by simp[gz]at h,fun h=>by simp[gz]at h⟩
 | s :: r=>by
   have ih:=o9 d r
   rw[gz]
   by_cases h:s.depth>d
   · rw[decide_eq_true h,cond_true]
     refine⟨fun j hj=>?_,fun hj=>?_⟩
     · cases j with
       |zero=>exact h
       |succ j=>exact ih.1 j (by omega)
     ·exact ih.2 (by rw[av]at hj;omega)
   · rw[decide_eq_false h,cond_false]
     exact⟨fun j hj=>by omega,fun _=>by show s.depth≤d;omega⟩
theorem A1:dep (l.drop k) j=dep l (k+j):=by
 unfold dep ETy.get
 rw[List.getD_eq_getElem?_getD,List.getD_eq_getElem?_getD,List.getElem?_drop]
theorem iZ(h1:i<j)(h2:j<endM l i):dep l i<dep l j:=by
 have h:=(o9 (dep l i) (l.drop (i+1))).1 (j - (i+1)) (by unfold endM at h2;show _<gz (ETy.get .stat l i).depth _;omega)
 rw[A1,show i+1+(j - (i+1))=j by omega]at h
 exact h
theorem Bn(h:endM l i<l.length):dep l (endM l i)≤dep l i:=by
 have h2:=(o9 (dep l i) (l.drop (i+1))).2 (by rw[List.length_drop];unfold endM at h;show gz (ETy.get .stat l i).depth _<_;omega)
 rw[A1]at h2
 exact h2
theorem vW{i j:Nat}(hj:j<l.length)(h:i<j):j<endM l i↔∀k,i<k→k≤j→dep l i<dep l k:=by
 refine⟨fun h2 k h3 h4=>iZ l i k h3 (by omega),fun h2=>?_⟩
 have h5:=dU l (i:=i) (by omega)
 by_cases h6:j<endM l i
 ·exact h6
 · have h7:=Bn l i (by omega)
   have h8:=h2 (endM l i) h5.1 (by omega)
   omega
theorem ng{i k:Nat}(hk:k<l.length)(hne:k≠i):(i<k∧k<endM l i)↔(0≤upM l k∧(upM l k=(i:Int)∨((i:Int)<upM l k∧upM l k<(endM l i:Int)))):=by
 rcases j5 l k with⟨e,h1⟩ |⟨u,e,h1,h2,h3⟩
 · rw[e]
   refine⟨fun⟨a,b⟩=>?_,fun h=>by omega⟩
   have:=iZ l i k a b
   have:=h1 i a
   omega
 · rw [e]
   refine⟨fun⟨a,b⟩=>⟨by omega,?_⟩,fun⟨_,h⟩=>?_⟩
   · have h5:=iZ l i k a b
     by_cases h6:u<i
     ·have:=h3 i h6 a;omega
     · by_cases h7:u=i
       ·exact .inl (by omega)
       ·exact .inr ⟨by omega,by omega⟩
   · rcases h with h |⟨ha,hb⟩
     · have:u=i:=by omega
       subst this
       refine⟨h1,(vW l hk h1).2 fun j h5 h6=>?_⟩
       by_cases h7:j=k
       ·subst h7;exact h2
       ·have:=h3 j h5 (by omega);omega
     · have hik:i<k:=by omega
       refine⟨hik,(vW l hk hik).2 fun j h5 h6=>?_⟩
       have hu:=iZ l i u (by omega) (by omega)
       by_cases h8:j≤u
       ·exact iZ l i j h5 (by omega)
       · by_cases h7:j=k
         ·subst h7;omega
         ·have:=h3 j (by omega) (by omega);omega
theorem Kd{l:List Ev.Stat}(S:Shp l)(i:Nat):∀(n:Nat) (k:Int), -1≤k→k<(l.length:Int)→k<(n:Int)→(ji l (i:Int) n k=true↔(0≤k∧(k=(i:Int)∨((i:Int)<k∧k<(endM l i:Int)))))
 | 0,k,h1,h2,h3=>by
   rw[ji]
   exact⟨fun h=>Bool.noConfusion h,fun h=>by omega⟩
 | n + 1,k,h1,h2,h3=>by
   rw[ji]
   by_cases hk:k<0
   · rw[if_pos hk]
     exact⟨fun h=>Bool.noConfusion h,fun h=>by omega⟩
   · rw[if_neg hk]
     obtain⟨m,rfl⟩:=aF (show 0≤k by omega)
     by_cases hi:(m:Int)=(i:Int)
     · rw[if_pos (by simpa using hi)]
       exact⟨fun _=>⟨by omega,.inl hi⟩,fun _=>rfl⟩
     · rw[if_neg (by simpa using hi),ai,fC S (by omega)]
       have hb:=mC l (dep l m) m
       have hb' : -1≤upM l m∧upM l m<(m:Int):=hb
       rw[Kd S i n (upM l m) (by omega) (by omega) (by omega),←ng l (by omega) (show m≠i by omega)]
       exact⟨fun h=>⟨by omega,.inr ⟨by omega,by omega⟩⟩,fun h=>by omega⟩
theorem rB{l:List Ev.Stat}(S:Shp l){i j:Nat}(hj:j<l.length):eI l (i:Int) j=(decide (i<j)&&decide (j<endM l i)):=by
 have hb:=mC l (dep l j) j
 have hb' : -1≤upM l j∧upM l j<(j:Int):=hb
 have h:=Kd S i (l.length+1) (upM l j) (by omega) (by omega) (by omega)
 unfold eI
 rw[fC S hj,aW,h]
 simp only[af,decide_eq_true_eq]
 by_cases hne:j=i
 · subst hne
   exact⟨fun h2=>by omega,fun h2=>by omega⟩
 ·rw[←ng l hj hne]
theorem dR{l:List Ev.Stat}(S:Shp l){m i:Nat}(hm:m<l.length):upM l m=(i:Int)↔(i<m∧m<endM l i∧dep l m=dep l i+1):=by
 rw[J5]
 refine⟨fun⟨h1,h2,h3⟩=>⟨h1,?_,?_⟩,fun⟨h1,h2,h3⟩=>⟨h1,by omega,fun j h4 h5=>?_⟩⟩
 · refine(vW l hm h1).2 fun j h5 h6=>?_
   by_cases h7:j=m
   ·subst h7;exact h2
   ·have:=h3 j h5 (by omega);omega
 · have h4:=S.st i (by omega)
   by_cases h5:i+1=m
   ·subst h5;omega
   ·have:=h3 (i+1) (by omega) (by omega);omega
 ·have:=iZ l i j h4 (by omega);omega
theorem DN{l:List Ev.Stat}(S:Shp l)(i:Nat)(hi:i<l.length)(y:Int):∀(n k:Nat),l.length - k≤n→i<k→(k<endM l i→dep l k=dep l i+1) →
 (y∈eF l (endM l i) n k↔∃m:Nat,y=(m:Int)∧k≤m∧m<endM l i∧dep l m=dep l i+1)
 | 0,k,hn,hik,hd=>by
   have:=(dU l hi).2
   rw[eF]
   exact⟨fun h=>(by cases h),fun⟨m,h1,h2,h3,h4⟩=>by omega⟩
 | n + 1,k,hn,hik,hd=>by
   rw[eF]
   have he:=(dU l hi).2
   by_cases hk:k<endM l i
   · rw [if_pos hk,aJ]
     have h1:=dU l (i:=k) (by omega)
     have hdk:=hd hk
     have ih:=DN S i hi y n (endM l k) (by omega) (by omega) (fun h=>by
      have h2:=Bn l k (by omega)
      have h3:=iZ l i (endM l k) (by omega) h
      omega)
     rw[ih]
     constructor
     · rintro(rfl |⟨m,h2,h3,h4,h5⟩)
       ·exact⟨k,rfl,ar _,hk,hdk⟩
       ·exact⟨m,h2,by omega,h4,h5⟩
     · rintro⟨m,h2,h3,h4,h5⟩
       by_cases h6:m=k
       ·subst h6;exact .inl h2
       · refine .inr ⟨m,h2,?_,h4,h5⟩
         by_cases h7:endM l k≤m
         ·exact h7
         ·have:=iZ l k m (by omega) (by omega);omega
   · rw[if_neg hk]
     exact⟨fun h=>(by cases h),fun⟨m,h1,h2,h3,h4⟩=>by omega⟩
theorem gP{l:List Ev.Stat}(S:Shp l){i:Nat}(hi:i<l.length)(y:Int):y∈bC l i↔∃m:Nat,y=(m:Int)∧m<l.length∧upM l m=(i:Int):=by
 have he:=(dU l hi).2
 unfold bC
 rw[DN S i hi y l.length (i+1) (by omega) (by omega) (fun h=>by
  have h2:=S.st i (by omega)
  have h3:=iZ l i (i+1) (by omega) h
  omega)]
 constructor
 · rintro⟨m,h1,h2,h3,h4⟩
   exact⟨m,h1,by omega,(dR S (by omega)).2 ⟨by omega,h3,h4⟩⟩
 · rintro⟨m,h1,h2,h3⟩
   have:=(dR S h2).1 h3
   exact⟨m,h1,by omega,this.2.1,this.2.2⟩
theorem xP{l:List Ev.Stat}(S:Shp l){i:Nat}(hi:i<l.length)(y:Int):y∈dq l (i:Int) l.length↔∃m:Nat,y=(m:Int)∧m<l.length∧upM l m=(i:Int):=by
 unfold dq
 rw[aL]
 constructor
 · rintro⟨m,h1,h2⟩
   have hm:=bB.1 (az.1 h1).1
   rw[az,bB,af,fC S hm]at h1
   exact⟨m,h2.symm,h1.1,by simpa using h1.2.1⟩
 · rintro⟨m,h1,h2,h3⟩
   refine⟨m,?_,h1.symm⟩
   rw[az,bB,af,fC S h2]
   have h4:=(dR S h2).1 h3
   have h5:=S.lo i hi
   exact⟨h2,by simpa using h3,decide_eq_true (by show dep l m>0;omega)⟩
/-! ### the shape -/
theorem tG(l:List Ev.Stat):∀(n k:Nat) (r:Int),l.length - k=n→(k=0→0<l.length→dep l 0=0)→fI (jD l k) r (l.drop k)=fH l n k r
 | 0,k,r,hn,_=>by
   rw[bZ (l:=l) (by omega),fI,fH]
 | n + 1,k,r,hn,h0=>by
   have hk:k<l.length:=by omega
   rw[bK (t:=.stat) (l:=l) hk,fI,fH]
   have hb:sZ (jD l k) (ETy.get .stat l k)=jw l k:=by
    unfold sZ jw
    cases k with
    | zero =>
      have h1:=h0 rfl hk
      have h2:(ETy.get .stat l 0).depth=0:=h1
      rw[aW]
      simp only[jD,h2,aM,af,decide_eq_true_eq,cj (show(-9223372036854775808:Int)≤-1+1 by omega) (show(-1+1:Int)≤9223372036854775807 by omega)]
      omega
    | succ k =>
      rw[show jD l (k+1)=(ETy.get .stat l k).depth from rfl,Nat.add_sub_cancel]
      generalize IntKind.wrap .i64 ((ETy.get .stat l k).depth+1)=w
      generalize (ETy.get .stat l (k+1)).depth=d
      generalize (ETy.get .stat l (k+1)).kind=x
      rw[aW]
      simp only[aM,af,decide_eq_true_eq]
      omega
   rw[hb]
   cases jw l k
   · rw [cond_false,if_neg (by decide)]
     by_cases hz:(ETy.get .stat l k).depth=0
     · rw[show((ETy.get .stat l k).depth==0)=true by simpa using hz,cond_true,if_pos rfl]
       cases hq:(ETy.get .stat l k).kind != 2
       · rw[cond_false,if_neg (by decide)]
         have ih:=tG l n (k+1) (IntKind.wrap .i64 (r+1)) (by omega) (by omega)
         rw[←ih];rfl
       ·rfl
     · rw[show((ETy.get .stat l k).depth==0)=false by simpa using hz,cond_false,if_neg (by decide)]
       have ih:=tG l n (k+1) r (by omega) (by omega)
       rw[←ih];rfl
   ·rfl
theorem M7:lS l=jz l:=by
 unfold lS jz
 by_cases hp:0<l.length
 · by_cases h0:dep l 0=0
   · have h:=tG l l.length 0 0 (by omega) (fun _ _=>h0)
     rw[show jD l 0 = -1 from rfl,eg]at h
     rw[h]
     have e:(dep l 0 != 0)=false:=by simpa using h0
     rw[show(ETy.get .stat l 0).depth=dep l 0 from rfl,e,bS]
     cases fH l l.length 0 0 with
     |none=>simp[rm,Gs]
     | some r =>
       unfold rm Gs
       rw[aW]
       simp only[af,aE,an,decide_eq_true_eq,decide_eq_false_iff_not]
       omega
   · have e:(dep l 0 != 0)=true:=by simpa using h0
     rw[show(ETy.get .stat l 0).depth=dep l 0 from rfl,e,Bool.or_true,bX,bq]
     have h1:=bK (t:=.stat) (l:=l) hp
     rw[eg]at h1
     rw[h1,fI]
     have hb:sZ (-1) (ETy.get .stat l 0)=true:=by
      unfold sZ
      have h2:¬(ETy.get .stat l 0).depth=0:=h0
      simp only[aM,decide_eq_true_eq,cj (show(-9223372036854775808:Int)≤-1+1 by omega) (show(-1+1:Int)≤9223372036854775807 by omega)]
      omega
     rw[hb];rfl
 · have:l=[]:=by cases l with
    |nil=>rfl
    |cons=>simp at hp
   subst this;rfl
theorem B3(l:List Ev.Stat):∀(n k:Nat) (r q:Int),l.length - k=n→fH l n k r=some q→∀j,k≤j→j<l.length→jw l j=false
 |0,k,r,q,hn,_,j,h1,h2=>by omega
 | n + 1,k,r,q,hn,h,j,h1,h2=>by
   rw[fH]at h
   cases hb:jw l k
   · by_cases hj:j=k
     ·subst hj;exact hb
     · rw[hb,if_neg (by decide)]at h
       split at h
       · split at h
         ·cases h
         ·exact B3 l n (k+1) _ q (by omega) h j (by omega) h2
       ·exact B3 l n (k+1) _ q (by omega) h j (by omega) h2
   ·rw[hb,if_pos rfl]at h;cases h
theorem JO{l:List Ev.Stat}(h:jz l=true):Shp l:=by
 unfold jz at h
 rw[af]at h
 obtain⟨h1,h2⟩:=h
 simp only[aE,an,decide_eq_false_iff_not]at h1
 obtain⟨⟨h3,h4⟩,h5⟩:=h1
 have h5':dep l 0=0:=by simpa using h5
 cases hq:fH l l.length 0 0 with
 |none=>rw[hq]at h2;cases h2
 | some q =>
   have hb:=fun j hj=>B3 l l.length 0 0 q (by omega) hq j (aP _) hj
   have hb2:∀j,j<l.length→¬(ETy.get .stat l j).kind<1∧¬(ETy.get .stat l j).kind>6∧¬(ETy.get .stat l j).depth<0∧¬(ETy.get .stat l j).depth>5∧(0<j→¬(ETy.get .stat l j).depth>IntKind.wrap .i64 ((ETy.get .stat l (j - 1)).depth+1)):=fun j hj=>by
    have:=hb j hj
    unfold jw at this
    simp only[an,b6,decide_eq_false_iff_not]at this
    obtain⟨⟨⟨⟨a,b⟩,c⟩,d⟩,e⟩:=this
    exact⟨a,b,c,d,fun hp=>by
     rcases e with e |e;· omega
     ·exact e⟩
   refine⟨by omega,by omega,h5',fun k hk=>by have:=hb2 k hk;show 0≤(ETy.get .stat l k).depth;omega,fun k hk=>by have:=hb2 k hk;show(ETy.get .stat l k).depth≤5;omega,fun k hk=>?_,fun k hk=>by have:=hb2 k hk;omega⟩
   have a:=hb2 (k+1) hk
   have b:=hb2 k (by omega)
   have c:=a.2.2.2.2 (by omega)
   rw[Nat.add_sub_cancel,cj (by omega) (by omega)]at c
   show(ETy.get .stat l (k+1)).depth≤(ETy.get .stat l k).depth+1
   omega
/-! ### the whole tree -/
theorem tJ(l:List Ev.Stat):∀(n k:Nat),l.length - k=n→(dZ l n k=true↔∀j,k≤j→j<l.length→tu l j=true)
 |0,k,hn=>by rw[dZ];exact⟨fun _ j h1 h2=>by omega,fun _=>rfl⟩
 | n+1,k,hn=>by
   rw[dZ,af,tJ l n (k+1) (by omega)]
   refine⟨fun⟨a,b⟩ j h1 h2=>?_,fun h=>⟨h k (ar _) (by omega),fun j h1 h2=>h j (by omega) h2⟩⟩
   by_cases hj:j=k
   ·subst hj;exact a
   ·exact b j (by omega) h2
theorem xR(l:List Ev.Stat):∀(n k:Nat),l.length - k=n→(ij l n k=true↔∀j,k≤j→j<l.length→lA l j=true)
 |0,k,hn=>by rw[ij];exact⟨fun _ j h1 h2=>by omega,fun _=>rfl⟩
 | n+1,k,hn=>by
   rw[ij,af,xR l n (k+1) (by omega)]
   refine⟨fun⟨a,b⟩ j h1 h2=>?_,fun h=>⟨h k (ar _) (by omega),fun j h1 h2=>h j (by omega) h2⟩⟩
   by_cases hj:j=k
   ·subst hj;exact a
   ·exact b j (by omega) h2
theorem tw(k:Int):a7 k=true↔k=5∨k=6:=by
 unfold a7;simp
theorem Gj(xs:List Int):eu l xs≠0↔∃y∈xs,a7 (ETy.get .stat l y.toNat).kind=false:=by
 unfold eu
 rw[←Nat.pos_iff_ne_zero,List.length_pos_iff_exists_mem]
 constructor
 · rintro⟨y,hy⟩
   rw[az]at hy
   exact⟨y,hy.1,by simpa using hy.2⟩
 · rintro⟨y,h1,h2⟩
   exact⟨y,az.2 ⟨h1,by simpa using h2⟩⟩
theorem kT{l:List Ev.Stat}(S:Shp l){i:Nat}(hi:i<l.length):tu l i=true ↔
 ((∀m,m<l.length→upM l m=(i:Int)→(ETy.get .stat l i).kind=2∨((ETy.get .stat l i).kind=3∧(ETy.get .stat l m).kind≤3)) ∧
 ((ETy.get .stat l i).kind=2∨(ETy.get .stat l i).kind=3→∃m,m<l.length∧upM l m=(i:Int)∧a7 (ETy.get .stat l m).kind=false)):=by
 have hmem:=gP S hi
 have hreal:eu l (bC l i)≠0↔∃m,m<l.length∧upM l m=(i:Int)∧a7 (ETy.get .stat l m).kind=false:=by
  rw[Gj]
  constructor
  · rintro⟨y,h1,h2⟩
    obtain⟨m,rfl,h3,h4⟩:=(hmem y).1 h1
    exact⟨m,h3,h4,by rw[ai]at h2;exact h2⟩
  · rintro⟨m,h1,h2,h3⟩
    exact⟨(m:Int),(hmem _).2 ⟨m,rfl,h1,h2⟩,by rw[ai];exact h3⟩
 have hkids:fR l (ETy.get .stat l i) (bC l i)=true↔∀m,m<l.length→upM l m=(i:Int)→oL (ETy.get .stat l i) (ETy.get .stat l m)=false:=by
  unfold fR
  rw[al]
  constructor
  · intro h m h1 h2
    have:=h (m:Int) ((hmem _).2 ⟨m,rfl,h1,h2⟩)
    rw[ai]at this
    simpa using this
  · intro h y hy
    obtain⟨m,rfl,h3,h4⟩:=(hmem y).1 hy
    rw[ai]
    simpa using h m h3 h4
 have hzero:(bC l i).length=0↔∀m,m<l.length→¬upM l m=(i:Int):=by
  rw[fO,List.eq_nil_iff_forall_not_mem]
  constructor
  · intro h m h1 h2
    exact h (m:Int) ((hmem _).2 ⟨m,rfl,h1,h2⟩)
  · intro h y hy
    obtain⟨m,rfl,h3,h4⟩:=(hmem y).1 hy
    exact h m h3 h4
 have hbad:∀m,m<l.length→(oL (ETy.get .stat l i) (ETy.get .stat l m)=false↔((ETy.get .stat l i).kind=3→(ETy.get .stat l m).kind≤3)):=by
  intro m hm
  have:=S.k1 m hm
  unfold oL a7
  generalize (ETy.get .stat l i).kind=a at *
  generalize (ETy.get .stat l m).kind=b at *
  rw[←bY]
  simp only[af,aM,beq_iff_eq]
  omega
 unfold tu
 rw[af,hkids]
 by_cases h2:(ETy.get .stat l i).kind=2
 · rw[show((ETy.get .stat l i).kind==2||(ETy.get .stat l i).kind==3)=true by rw[h2];rfl,cond_true]
   have e:(!(eu l (bC l i)==0))=true↔eu l (bC l i)≠0:=by simp
   rw[e,hreal]
   refine⟨fun⟨_,b⟩=>⟨fun _ _ _=>.inl h2,fun _=>b⟩,fun⟨_,b⟩=>⟨fun m hm _=>(hbad m hm).2 fun h3=>by omega,b (.inl h2)⟩⟩
 · by_cases h3:(ETy.get .stat l i).kind=3
   · rw[show((ETy.get .stat l i).kind==2||(ETy.get .stat l i).kind==3)=true by rw[h3];rfl,cond_true]
     have e:(!(eu l (bC l i)==0))=true↔eu l (bC l i)≠0:=by simp
     rw[e,hreal]
     refine⟨fun⟨a,b⟩=>⟨fun m hm hu=>.inr ⟨h3,(hbad m hm).1 (a m hm hu) h3⟩,fun _=>b⟩,fun⟨a,b⟩=>⟨fun m hm hu=>(hbad m hm).2 fun _=>?_,b (.inr h3)⟩⟩
     rcases a m hm hu with h |h
     ·omega
     ·exact h.2
   · rw[show((ETy.get .stat l i).kind==2||(ETy.get .stat l i).kind==3)=false by simp[h2,h3],cond_false]
     have e:((bC l i).length==0)=true↔(bC l i).length=0:=by simp
     rw[e,hzero]
     refine⟨fun⟨_,b⟩=>⟨fun m hm hu=>absurd hu (b m hm),fun h=>(h.elim h2 h3).elim⟩,fun⟨a,_⟩=>⟨fun m hm hu=>?_,fun m hm hu=>?_⟩⟩
     ·exact((a m hm hu).elim h2 fun h=>h3 h.1).elim
     ·exact(a m hm hu).elim h2 fun h=>h3 h.1
theorem ri {l:List Ev.Stat} (S:Shp l) {i:Nat} (hi:i<l.length):lA l i=true ↔
 ((∀p:Nat,upM l i=(p:Int)→(ETy.get .stat l p).kind=2∨((ETy.get .stat l p).kind=3∧(ETy.get .stat l i).kind≤3)) ∧
 ((ETy.get .stat l i).kind=2∨(ETy.get .stat l i).kind=3→∃m,m<l.length∧upM l m=(i:Int)∧a7 (ETy.get .stat l m).kind=false)):=by
 have hmem:=xP S hi
 have hreal:((dq l (i:Int) l.length).any fun y=>!a7 (ETy.get .stat l y.toNat).kind)=true↔∃m,m<l.length∧upM l m=(i:Int)∧a7 (ETy.get .stat l m).kind=false:=by
  rw[bp]
  constructor
  · rintro⟨y,h1,h2⟩
    obtain⟨m,rfl,h3,h4⟩:=(hmem y).1 h1
    exact⟨m,h3,h4,by rw[ai]at h2;simpa using h2⟩
  · rintro⟨m,h1,h2,h3⟩
    exact⟨(m:Int),(hmem _).2 ⟨m,rfl,h1,h2⟩,by rw[ai];simpa using h3⟩
 unfold lA
 rw[fC S hi,af]
 have h1:(!(decide (upM l i≥0)&&(ETy.get .stat l (upM l i).toNat).kind != 2&&((ETy.get .stat l (upM l i).toNat).kind != 3||decide ((ETy.get .stat l i).kind>3))))=true ↔
  ∀p:Nat,upM l i=(p:Int)→(ETy.get .stat l p).kind=2∨((ETy.get .stat l p).kind=3∧(ETy.get .stat l i).kind≤3):=by
  rcases j5 l i with⟨e,_⟩ |⟨p,e,_⟩
  · rw[e]
    exact⟨fun _ p h=>by omega,fun _=>rfl⟩
  · rw [e,ai]
    have e0:decide ((p:Int)≥0)=true:=decide_eq_true (by omega)
    rw[e0,a6]
    constructor
    · intro h q hq
      have:p=q:=by omega
      subst this
      by_cases h2:(ETy.get .stat l p).kind=2
      ·exact .inl h2
      · refine .inr ?_
        by_cases h3:(ETy.get .stat l p).kind=3
        · refine⟨h3,?_⟩
          by_cases h4:(ETy.get .stat l i).kind>3
          ·simp[h2,h3,h4]at h
          ·omega
        ·simp[h2,h3]at h
    · intro h
      rcases h p rfl with h2 |⟨h2,h3⟩
      ·simp[h2]
      · have:¬(ETy.get .stat l i).kind>3:=by omega
        simp[h2,this]
 rw[h1]
 have h2:((bif (ETy.get .stat l i).kind != 2&&(ETy.get .stat l i).kind != 3 then true else(dq l (i:Int) l.length).any fun y=>!a7 (ETy.get .stat l y.toNat).kind))=true ↔
  ((ETy.get .stat l i).kind=2∨(ETy.get .stat l i).kind=3→∃m,m<l.length∧upM l m=(i:Int)∧a7 (ETy.get .stat l m).kind=false):=by
  by_cases ha:(ETy.get .stat l i).kind=2
  · rw[show((ETy.get .stat l i).kind != 2&&(ETy.get .stat l i).kind != 3)=false by rw[ha];rfl,cond_false,hreal]
    exact⟨fun h _=>h,fun h=>h (.inl ha)⟩
  · by_cases hb:(ETy.get .stat l i).kind=3
    · rw[show((ETy.get .stat l i).kind != 2&&(ETy.get .stat l i).kind != 3)=false by rw[hb];rfl,cond_false,hreal]
      exact⟨fun h _=>h,fun h=>h (.inr hb)⟩
    · rw[show((ETy.get .stat l i).kind != 2&&(ETy.get .stat l i).kind != 3)=true by simp[ha,hb],cond_true]
      exact⟨fun _ h=>by omega,fun _=>rfl⟩
 rw[h2]
theorem pE:cm l=ig l:=by
 unfold cm ig
 rw[M7]
 cases hs:jz l
 ·rfl
 · have S:=JO hs
   rw[a6,a6,aW,tJ l l.length 0 (by omega),xR l l.length 0 (by omega)]
   constructor
   · intro h j _ hj
     have h1:=(kT S hj).1 (h j (aP _) hj)
     refine(ri S hj).2 ⟨fun p hp=>?_,h1.2⟩
     have hpj:p<j:=by
      have:=mC l (dep l j) j
      have h3:upM l j<(j:Int):=this.2
      omega
     exact((kT S (by omega)).1 (h p (aP _) (by omega))).1 j hj hp
   · intro h j _ hj
     have h1:=(ri S hj).1 (h j (aP _) hj)
     refine(kT S hj).2 ⟨fun m hm hu=>?_,h1.2⟩
     exact((ri S hm).1 (h m (aP _) hm)).1 j hu
end Go.Proofs.YtlhgnjmdopjpeaaGreatDoor

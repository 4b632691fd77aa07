/- Legal configurations: the program's word and the document's are alike; what is chosen state by state is legal (plain). Conditions: a valid chart. Configurations that are legal: the first one, one by choices, two mixed; leaves (plain). Conditions: a valid chart. Contracts: the document's places of states, names, variables. Conditions: sizes. -/
import Derived.Test.YtgfifkhbfdacjaaGreatDoorNh
import Derived.Test.YtgfifkhbfdacjaaGreatDoorSa
import Derived.Test.YtgfifkhbfdacjaaGreatDoorTh
import Derived.Test.YtgfifkhbfdacjaaGreatDoorFe
import Derived.Test.YtgfifkhbfdacjaaGreatDoorTm
import Derived.Test.YtgfifkhbfdacjaaGreatDoorTq
import Derived.Test.YtgfifkhbfdacjaaGreatDoorXb
import Derived.Test.YtgfifkhbfdacjaaGreatDoorUr
import Derived.Test.YtgfifkhbfdacjaaGreatDoorVk
namespace Go.Proofs.YtgfifkhbfdacjaaGreatDoor
open Go Go.Ev
set_option maxRecDepth 100000
variable (s:List Int) (i:Int) {l:List Ev.Stat}
def inB:Bool:=s.any fun x=>x==i
def nW (l:List Ev.Stat):Int→List Int→Bool
 | _,[]=>true
 | a,x::r=>if (decide (x≤a)||decide (x≥(l.length:Int))||aO (ETy.get .stat l x.toNat).kind)=true then false else nW l x r
def fj (ks:List Int):Nat:=(ks.filter fun k=>inB s k).length
def kj (l:List Ev.Stat) (s:List Int) (i:Nat):Bool :=
 if ((ETy.get .stat l i).depth==0 && !inB s i||decide ((ETy.get .stat l i).depth>0)&&inB s i && !inB s (upM l i))=true then false
 else if (!inB s i||(ETy.get .stat l i).kind != 2&&(ETy.get .stat l i).kind != 3)=true then true
 else !((ETy.get .stat l i).kind==2&&(fj s (bb l i):Int) != 1||(ETy.get .stat l i).kind==3&&(fj s (bb l i):Int) != ((bb l i).length:Int))
def oj (l:List Ev.Stat) (s:List Int):Nat→Nat→Bool
 | 0,_=>true
 | n+1,i=>kj l s i&&oj l s n (i+1)
def dF (l:List Ev.Stat) (s:List Int):Bool:=nW l (-1) s&&oj l s l.length 0
structure Lgl (l:List Ev.Stat) (s:List Int):Prop where
 inc:s.Pairwise (· < ·)
 rng:∀ x∈s,∃ i:Nat,x=(i:Int)∧i<l.length∧aO (knd l i)=false
 root:∀ i,i<l.length→dep l i=0→(i:Int)∈s
 par:∀ i p:Nat,i<l.length→(i:Int)∈s→upM l i=(p:Int)→(p:Int)∈s
 one:∀ i,i<l.length→(i:Int)∈s→knd l i=2→∃ q:Nat,q<l.length∧upM l q=(i:Int)∧(q:Int)∈s∧∀ m:Nat,m<l.length→upM l m=(i:Int)→(m:Int)∈s→m=q
 both:∀ i,i<l.length→(i:Int)∈s→knd l i=3→∀ m:Nat,m<l.length→upM l m=(i:Int)→(m:Int)∈s
theorem cO:inB s i=true↔i∈s:=by
 unfold inB
 rw [bn]
 constructor
 · rintro ⟨x,hx,e⟩; rw [← eq_of_beq e]; exact hx
 · intro h; exact ⟨i,h,beq_self_eq_true _⟩
theorem He {i:Nat} (hi:i<l.length):(bb l i).Pairwise (· < ·):=by
 have he:=(c7 l hi).2
 have h:=(lS l (endM l i) l.length (i+1) he).1
 have hb:∀ n k,∀ y∈dz l (endM l i) n k,∃ m:Nat,y=(m:Int)∧m<l.length:=by
  intro n
  induction n with
  | zero=>intro k y hy; rw [dz] at hy; cases hy
  | succ n ih =>
    intro k y hy
    rw [dz] at hy
    split at hy
    · rcases aJ.1 hy with rfl | hy
      · exact ⟨k,rfl,by omega⟩
      · exact ih _ y hy
    · cases hy
 refine List.Pairwise.imp_of_mem (fun {a b} ha _ hab=>?_) h
 obtain ⟨m,rfl,hm⟩:=hb _ _ a ha
 rw [ai] at hab
 have:=c7 l hm
 omega
theorem JD {l:List Int} (hn:l.Pairwise (· < ·)):l.length=1↔∃ q,q∈l∧∀ m∈l,m=q:=by
 match l with
 | []=>simp
 | [a]=>simp
 | a::b::r =>
   rw [cy] at hn
   refine ⟨fun h=>by simp at h,fun ⟨q,_,h⟩=>?_⟩
   have h1:=h a (by simp)
   have h2:=h b (by simp)
   have:=hn.1 b (by simp)
   omega
theorem KB (S:Shp l) {i:Nat} (hi:i<l.length) (s:List Int):fj s (bb l i)=1↔∃ q:Nat,q<l.length∧upM l q=(i:Int)∧(q:Int)∈s∧∀ m:Nat,m<l.length→upM l m=(i:Int)→(m:Int)∈s→m=q:=by
 unfold fj
 rw [JD ((He hi).filter _)]
 have hm:∀ y,y∈(bb l i).filter (fun k=>inB s k)↔∃ m:Nat,y=(m:Int)∧m<l.length∧upM l m=(i:Int)∧(m:Int)∈s:=fun y=>by
  rw [aA,dW S hi,cO]
  constructor
  · rintro ⟨⟨m,rfl,h1,h2⟩,h3⟩; exact ⟨m,rfl,h1,h2,h3⟩
  · rintro ⟨m,rfl,h1,h2,h3⟩; exact ⟨⟨m,rfl,h1,h2⟩,h3⟩
 constructor
 · rintro ⟨q,hq,h⟩
   obtain ⟨m,rfl,h1,h2,h3⟩:=(hm q).1 hq
   exact ⟨m,h1,h2,h3,fun m' a b c=>by have:=h (m':Int) ((hm _).2 ⟨m',rfl,a,b,c⟩); omega⟩
 · rintro ⟨q,h1,h2,h3,h⟩
   refine ⟨(q:Int),(hm _).2 ⟨q,rfl,h1,h2,h3⟩,fun y hy=>?_⟩
   obtain ⟨m,rfl,a,b,c⟩:=(hm y).1 hy
   rw [h m a b c]
theorem KI (S:Shp l) {i:Nat} (hi:i<l.length) (s:List Int):fj s (bb l i)=(bb l i).length↔∀ m:Nat,m<l.length→upM l m=(i:Int)→(m:Int)∈s:=by
 unfold fj
 rw [List.length_filter_eq_length_iff]
 constructor
 · intro h m h1 h2
   exact (cO _ _).1 (h (m:Int) ((dW S hi _).2 ⟨m,rfl,h1,h2⟩))
 · intro h y hy
   obtain ⟨m,rfl,h1,h2⟩:=(dW S hi y).1 hy
   exact (cO _ _).2 (h m h1 h2)
theorem Dx (S:Shp l) {i:Nat} (hd:dep l i>0):∃ p:Nat,upM l i=(p:Int)∧p<i:=by
 rcases kY l i with ⟨_,h⟩ | ⟨p,e,h,_⟩
 · by_cases h0:i=0
   · subst h0; have:=S.d0; omega
   · have:=h 0 (by omega); have:=S.d0; omega
 · exact ⟨p,e,h⟩
theorem uY (S:Shp l) {i p:Nat} (hi:i<l.length) (h:upM l i=(p:Int)):dep l i>0:=by
 have h1:=(EO l i p).1 h
 have:=S.lo p (by omega)
 omega
structure Lg1 (l:List Ev.Stat) (s:List Int) (i:Nat):Prop where
 root:dep l i=0→(i:Int)∈s
 par:∀ p:Nat,(i:Int)∈s→upM l i=(p:Int)→(p:Int)∈s
 one:(i:Int)∈s→knd l i=2→∃ q:Nat,q<l.length∧upM l q=(i:Int)∧(q:Int)∈s∧∀ m:Nat,m<l.length→upM l m=(i:Int)→(m:Int)∈s→m=q
 both:(i:Int)∈s→knd l i=3→∀ m:Nat,m<l.length→upM l m=(i:Int)→(m:Int)∈s
theorem vX (S:Shp l) {i:Nat} (hi:i<l.length) (s:List Int):(!((ETy.get .stat l i).kind==2&&(fj s (bb l i):Int) != 1||(ETy.get .stat l i).kind==3&&(fj s (bb l i):Int) != ((bb l i).length:Int)))=true ↔
 (knd l i=2→∃ q:Nat,q<l.length∧upM l q=(i:Int)∧(q:Int)∈s∧∀ m:Nat,m<l.length→upM l m=(i:Int)→(m:Int)∈s→m=q)∧(knd l i=3→∀ m:Nat,m<l.length→upM l m=(i:Int)→(m:Int)∈s):=by
 rw [← KB S hi,← KI S hi]
 show _↔((ETy.get .stat l i).kind=2→_)∧((ETy.get .stat l i).kind=3→_)
 generalize (ETy.get .stat l i).kind=a
 generalize fj s (bb l i)=b
 generalize (bb l i).length=d
 rw [aH,← bX]
 simp only [aM,af,bne_iff_ne,beq_iff_eq,ne_eq]
 omega
theorem Ln (S:Shp l) {i:Nat} (hi:i<l.length) (s:List Int):kj l s i=true↔Lg1 l s i:=by
 unfold kj
 have hlo:=S.lo i hi
 by_cases hin:(i:Int)∈s
 · rw [(cO s i).2 hin]
   simp only [b8,cH,bf,cR]
   by_cases hd:dep l i=0
   · have e:decide ((ETy.get .stat l i).depth>0)=false:=decide_eq_false (by show ¬dep l i>0; omega)
     rw [e,a6,if_neg (by decide)]
     by_cases hk:(ETy.get .stat l i).kind=2∨(ETy.get .stat l i).kind=3
     · rw [if_neg (by simp; omega),vX S hi]
       exact ⟨fun h=>⟨fun _=>hin,fun p _ hu=>by have:=uY S hi hu; omega,fun _=>h.1,fun _=>h.2⟩,fun h=>⟨h.one hin,h.both hin⟩⟩
     · rw [if_pos (by simp; omega)]
       exact ⟨fun _=>⟨fun _=>hin,fun p _ hu=>by have:=uY S hi hu; omega,fun _ h=>absurd (.inl h) hk,fun _ h=>absurd (.inr h) hk⟩,fun _=>rfl⟩
   · have e:decide ((ETy.get .stat l i).depth>0)=true:=decide_eq_true (by show dep l i>0; omega)
     obtain ⟨p,hp,_⟩:=Dx S (i:=i) (by omega)
     rw [e,aS,hp]
     by_cases hps:(p:Int)∈s
     · rw [(cO s p).2 hps,b8,if_neg (by decide)]
       have hpar:∀ p':Nat,(i:Int)∈s→upM l i=(p':Int)→(p':Int)∈s:=fun p' _ h=>by
        rw [hp] at h; rw [← h]; exact hps
       by_cases hk:(ETy.get .stat l i).kind=2∨(ETy.get .stat l i).kind=3
       · rw [if_neg (by simp; omega),vX S hi]
         exact ⟨fun h=>⟨fun _=>hin,hpar,fun _=>h.1,fun _=>h.2⟩,fun h=>⟨h.one hin,h.both hin⟩⟩
       · rw [if_pos (by simp; omega)]
         exact ⟨fun _=>⟨fun _=>hin,hpar,fun _ h=>absurd (.inl h) hk,fun _ h=>absurd (.inr h) hk⟩,fun _=>rfl⟩
     · have e2:inB s (p:Int)=false:=by
        cases h:inB s (p:Int)
        · rfl
        · exact absurd ((cO _ _).1 h) hps
       rw [e2,cA,if_pos rfl]
       exact ⟨fun h=>(by cases h),fun h=>absurd (h.par p hin hp) hps⟩
 · have e:inB s (i:Int)=false:=by
    cases h:inB s (i:Int)
    · rfl
    · exact absurd ((cO _ _).1 h) hin
   rw [e]
   simp only [cA,cR,cH,a6,bU,b6,if_true]
   by_cases hd:dep l i=0
   · rw [if_pos (by simpa using hd)]
     exact ⟨fun h=>(by cases h),fun h=>absurd (h.root hd) hin⟩
   · rw [if_neg (by simpa using hd)]
     exact ⟨fun _=>⟨fun h=>absurd h hd,fun _ h=>absurd h hin,fun h=>absurd h hin,fun h=>absurd h hin⟩,fun _=>rfl⟩
theorem IP {l:List Ev.Stat} (S:Shp l) (s:List Int):∀ (n i:Nat),l.length - i=n→(oj l s n i=true↔∀ j,i≤j→j<l.length→Lg1 l s j)
 | 0,i,hn=>by rw [oj]; exact ⟨fun _ j h1 h2=>by omega,fun _=>rfl⟩
 | n+1,i,hn=>by
   rw [oj,af,Ln S (by omega),IP S s n (i+1) (by omega)]
   refine ⟨fun ⟨a,b⟩ j h1 h2=>?_,fun h=>⟨h i (aq _) (by omega),fun j h1 h2=>h j (by omega) h2⟩⟩
   by_cases hj:j=i
   · subst hj; exact a
   · exact b j (by omega) h2
theorem sj (l:List Ev.Stat):∀ (s:List Int) (a:Int), -1≤a→(nW l a s=true↔s.Pairwise (· < ·)∧∀ x∈s,a<x∧∃ i:Nat,x=(i:Int)∧i<l.length∧aO (knd l i)=false)
 | [],a,_=>by rw [nW]; exact ⟨fun _=>⟨.nil,fun x h=>(by cases h)⟩,fun _=>rfl⟩
 | x :: r, a,ha=>by
   rw [nW]
   by_cases h1:x≤a
   · rw [decide_eq_true h1,b6,b6,if_pos rfl]
     exact ⟨fun h=>(by cases h),fun h=>by have:=(h.2 x ax).1; omega⟩
   · by_cases h2:x≥(l.length:Int)
     · rw [decide_eq_true h2,Bool.or_true,b6,if_pos rfl]
       refine ⟨fun h=>(by cases h),fun h=>?_⟩
       obtain ⟨i,rfl,hi,_⟩:=(h.2 x ax).2
       omega
     · rw [decide_eq_false h1,decide_eq_false h2,bf,bf]
       obtain ⟨i,rfl⟩:=aD (show 0≤x by omega)
       rw [ai]
       cases hp:aO (ETy.get .stat l i).kind
       · rw [if_neg (by decide),sj l r (i:Int) (by omega),cy]
         constructor
         · rintro ⟨h3,h4⟩
           refine ⟨⟨fun y hy=>(h4 y hy).1,h3⟩,fun y hy=>?_⟩
           rcases aJ.1 hy with rfl | hy
           · exact ⟨by omega,i,rfl,by omega,hp⟩
           · have:=h4 y hy; exact ⟨by omega,this.2⟩
         · rintro ⟨⟨h3,h4⟩,h5⟩
           exact ⟨h4,fun y hy=>⟨h3 y hy,(h5 y (aI _ hy)).2⟩⟩
       · rw [if_pos rfl]
         refine ⟨fun h=>(by cases h),fun h=>?_⟩
         obtain ⟨j,e,_,hj⟩:=(h.2 (i:Int) ax).2
         have:i=j:=by omega
         subst this
         have hp':aO (knd l i)=true:=hp
         rw [hp'] at hj; cases hj
theorem tD (S:Shp l) (s:List Int):dF l s=true↔Lgl l s:=by
 unfold dF
 rw [af,sj l s (-1) (by omega),IP S s l.length 0 (by omega)]
 constructor
 · rintro ⟨⟨h1,h2⟩,h3⟩
   exact ⟨h1,fun x hx=>(h2 x hx).2,fun i hi=>(h3 i (aQ _) hi).root,fun i p hi=>(h3 i (aQ _) hi).par p,fun i hi=>(h3 i (aQ _) hi).one,fun i hi=>(h3 i (aQ _) hi).both⟩
 · intro h
   refine ⟨⟨h.inc,fun x hx=>?_⟩,fun j _ hj=>⟨h.root j hj,fun p=>h.par j p hj,h.one j hj,h.both j hj⟩⟩
   have:=h.rng x hx
   obtain ⟨i,rfl,_⟩:=this
   exact ⟨by omega,h.rng _ hx⟩
end Go.Proofs.YtgfifkhbfdacjaaGreatDoor
namespace Go.Proofs.YtgfifkhbfdacjaaGreatDoor
open Go Go.Ev
set_option maxRecDepth 100000
theorem vu (l:List Ev.Stat):∀ (n k:Nat) (r q:Int),l.length - k=n→eJ l n k r=some q→∀ j,k≤j→j<l.length→dep l j=0→knd l j=2
 | 0,k,r,q,hn,_,j,h1,h2,_=>by omega
 | n + 1,k,r,q,hn,h,j,h1,h2,h3=>by
   rw [eJ] at h
   split at h
   · cases h
   · by_cases hj:j=k
     · subst hj
       rw [if_pos (by simpa using (show (ETy.get .stat l j).depth=0 from h3))] at h
       split at h
       · cases h
       · rename_i h4
         show (ETy.get .stat l j).kind=2
         simpa using h4
     · split at h
       · split at h
         · cases h
         · exact vu l n (k+1) _ q (by omega) h j (by omega) h2 h3
       · exact vu l n (k+1) _ q (by omega) h j (by omega) h2 h3
theorem Tre.reg {l:List Ev.Stat} (t:Tre l) {i:Nat} (hi:i<l.length) (h:dep l i=0):knd l i=2:=by
 have h1:=t.right
 rw [mU] at h1
 unfold fH gR at h1
 rw [af,af] at h1
 cases hq:eJ l l.length 0 0 with
 | none=>rw [hq] at h1; exact absurd h1.1.2 (by decide)
 | some q=>exact vu l l.length 0 0 q (by omega) hq i (aQ _) hi h
theorem Ih {k:Int} (h:k=2):aO k=false:=by rw [h]; rfl
theorem Mp {l:List Ev.Stat} (t:Tre l) {s:List Int} (hs:s.Pairwise (· < ·)) (I:Nat→Prop) (ch:Nat→Nat→Prop) (hm:∀ y,y∈s↔∃ j:Nat,y=(j:Int)∧j<l.length∧I j)
 (hch:∀ p,p<l.length→knd l p=2→I p→∃ q,q<l.length∧upM l q=(p:Int)∧aO (knd l q)=false∧ch p q∧∀ m,m<l.length→upM l m=(p:Int)→ch p m→m=q)
 (hI:∀ j,j<l.length→(I j↔dep l j=0∨∃ p:Nat,upM l j=(p:Int)∧I p∧(knd l p=3∨(knd l p=2∧ch p j)))):Lgl l s:=by
 have mem:∀ j:Nat,(j:Int)∈s→j<l.length∧I j:=fun j h=>by
  obtain ⟨k,e,h1,h2⟩:=(hm _).1 h
  have:j=k:=by omega
  subst this; exact ⟨h1,h2⟩
 have put:∀ j:Nat,j<l.length→I j→(j:Int)∈s:=fun j h1 h2=>(hm _).2 ⟨j,rfl,h1,h2⟩
 have plt:∀ {j p:Nat},j<l.length→upM l j=(p:Int)→p<l.length:=fun {j p} hj h=>by
  have:=((cB t.shp hj).1 h).1; omega
 refine ⟨hs,fun x hx=>?_,fun i hi hd=>put i hi ((hI i hi).2 (.inl hd)),fun i p hi his hu=>?_,fun i hi his hk=>?_,fun i hi his hk m hml hu=>put m hml ((hI m hml).2 (.inr ⟨i,hu,(mem i his).2,.inl hk⟩))⟩
 · obtain ⟨j,rfl,hj,hIj⟩:=(hm x).1 hx
   refine ⟨j,rfl,hj,?_⟩
   rcases (hI j hj).1 hIj with h | ⟨p,hu,hp,h | ⟨h,hc⟩⟩
   · exact Ih (t.reg hj h)
   · rcases t.both hj hu with h2 | ⟨_,h3⟩
     · rw [h] at h2; exact absurd h2 (by decide)
     · have h3':knd l j≤3:=h3
       cases hp:aO (knd l j)
       · rfl
       · rcases (pO _).1 hp with h4 | h4 <;> omega
   · obtain ⟨q,_,_,hq3,_,hq5⟩:=hch p (plt hj hu) h hp
     rw [hq5 j hj hu hc]; exact hq3
 · rcases (hI i hi).1 (mem i his).2 with h | ⟨p',hu',hp,_⟩
   · have:=uY t.shp hi hu; omega
   · have:p=p':=by rw [hu] at hu'; omega
     subst this
     exact put p (plt hi hu) hp
 · obtain ⟨q,h1,h2,h3,h4,h5⟩:=hch i hi hk (mem i his).2
   refine ⟨q,h1,h2,put q h1 ((hI q h1).2 (.inr ⟨i,h2,(mem i his).2,.inr ⟨hk,h4⟩⟩)),fun m hml hu hms=>?_⟩
   rcases (hI m hml).1 (mem m hms).2 with h | ⟨p',hu',hp,h | ⟨h,hc⟩⟩
   · have:=uY t.shp hml hu; omega
   · have:i=p':=by rw [hu] at hu'; omega
     subst this
     rw [hk] at h; exact absurd h (by decide)
   · have:i=p':=by rw [hu] at hu'; omega
     subst this
     exact h5 m hml hu hc
/-! ### the first configuration -/
/-! ### regions -/
/-! ### leaves -/
def er (l:List Ev.Stat) (i:Int):Bool:=(ETy.get .stat l i.toNat).kind==1||(ETy.get .stat l i.toNat).kind==4
def dc (l:List Ev.Stat) (s:List Int):List Int:=s.filter fun i=>er l i
theorem mF {l:List Ev.Stat} (t:Tre l) {s:List Int} (h:Lgl l s):∀ (n i:Nat),i<l.length→l.length - i≤n→(i:Int)∈s→∃ k:Nat,k<l.length∧(k:Int)∈s∧er l (k:Int)=true∧(k=i∨(i<k∧k<endM l i))
 | 0,i,hi,hn,_=>by omega
 | n + 1,i,hi,hn,his=>by
   have down:∀ q,q<l.length→upM l q=(i:Int)→(q:Int)∈s→∃ k:Nat,k<l.length∧(k:Int)∈s∧er l (k:Int)=true∧(k=i∨(i<k∧k<endM l i)):=fun q hq hu hqs=>by
    have hb:=(cB t.shp hq).1 hu
    obtain ⟨k,h1,h2,h3,h4⟩:=mF t h n q hq (by omega) hqs
    refine ⟨k,h1,h2,h3,.inr ?_⟩
    have hm:=gB l hi hb.1 hb.2.1
    omega
   obtain ⟨i',e,_,hp⟩:=h.rng _ his
   have:i=i':=by omega
   subst this
   have hk:=t.shp.k1 i hi
   have hk':1≤knd l i∧knd l i≤6:=hk
   have hnp:¬(knd l i=5∨knd l i=6):=fun h=>by rw [(pO _).2 h] at hp; cases hp
   by_cases h2:knd l i=2
   · obtain ⟨q,h3,h4,h5,_⟩:=h.one i hi his h2
     exact down q h3 h4 h5
   · by_cases h3:knd l i=3
     · obtain ⟨m,h4,h5,_⟩:=((jb t.shp hi).1 (rX t.right hi)).2 (.inr h3)
       exact down m h4 h5 (h.both i hi his h3 m h4 h5)
     · refine ⟨i,hi,his,?_,.inl rfl⟩
       unfold er
       rw [ai,aM,beq_iff_eq,beq_iff_eq]
       show knd l i=1∨knd l i=4
       omega
theorem Df {l:List Ev.Stat} (t:Tre l) {s:List Int} (h:Lgl l s) (i:Nat):∀ (n k:Nat),k<l.length→k≤n→(k:Int)∈s→i<k→k<endM l i→(i:Int)∈s
 | 0,k,_,hn,_,h1,_=>by omega
 | n+1,k,hk,hn,hks,h1,h2=>by
   obtain ⟨h3,h4⟩:=(jj l hk (by omega)).1 ⟨h1,h2⟩
   obtain ⟨p,hp⟩:=aD h3
   have hpk:=((cB t.shp hk).1 hp).1
   have hps:=h.par k p hk hks hp
   rcases h4 with h4 | h4
   · rw [← h4,hp]; exact hps
   · exact Df t h i n p (by omega) (by omega) hps (by omega) (by omega)
end Go.Proofs.YtgfifkhbfdacjaaGreatDoor
namespace Go.Proofs.YtgfifkhbfdacjaaGreatDoor
open Go Go.Ev
set_option maxRecDepth 100000
/-! ### a state's place -/
abbrev zSk1 (a:Chart):Chunk:=.cells [.pd (.str a.name),.pd (.lst .str a.events),.pd (.lst .var a.vars),.pd (.lst .stat a.states),.pd (.lst .tran a.trans)] 27
abbrev zSk2:List PI:=[.code [1,0,1,0,0],.inLoop [1,0,1,0,0],.inBlock 0,.code [1,1]]
variable (c:Chart) (l:List Str) (s:Str) (b:Bool) (v:Var) (Γ:Ctx)
theorem G0 (hl:c.states.length≤maxLen)  : ∀ (n k:Nat),c.states.length - k≤n→k≤c.states.length →
 J Tryz.prog 42 (au Tryz.f42) Γ (Eq2 (.x (.i (aC (fun v:Ev.Stat=>v.name==s) (c.states.drop k) k))) []) zSk2 ({ n:=22,fr:=[(1,.p (.str s)),(2,.x (.c (.loc 0 0))),(4,.i 0),(5,.i k)],ck:=[zSk1 c] }):=by
 intro n
 induction n with
 | zero=>?_
 | succ n ih=>?_
 all_goals
  intro k hn hk
  refine jg aR Tryz.func42 (.ite (decide ((k:Int)<(c.states.length:Int))) (.need (inRg k c.states.length) (.ite (Stat.name (ETy.get .stat c.states k)==s) (.ret (.i k) []) (.stop zSk2 { n:=22,fr:=[(1,.p (.str s)),(2,.x (.c (.loc 0 0))),(4,.i 0),(5,.i (IntKind.wrap .i64 ((k:Int)+1)))],ck:=[zSk1 c] }))) (.ret (.i (-1:Int)) [])) ?_
  refine ⟨fun hlt=>?_,fun hge=>?_⟩
  · have hk':k<c.states.length:=by have:=of_decide_eq_true hlt; omega
    rw [bD (t:=.stat) (l:=c.states) hk']
    refine ⟨by omega,?_⟩
    generalize ETy.get .stat c.states k=v
    refine ⟨fun hb=>⟨?_,rfl⟩,fun hb=>?_⟩
    · have hb':(v.name==s)=true:=hb
      simp only [aC,hb',cond_true]
    · have hb':(v.name==s)=false:=hb
      simp only [aC,hb',cond_false]; (rw [aX (aE hk' hl)]; first | (exfalso; omega) | exact ih (k+1) (by omega) (by omega))
  · rw [bO (l:=c.states) (by have:=of_decide_eq_false hge; omega)]
    exact ⟨rfl,rfl⟩
theorem yd (h:c.states.length≤maxLen):ah Tryz.prog 42 [.e .chart c,.s s] [] (.x (.i (az c.states s))) []:=by
 refine dg aR Tryz.func42 (.stop zSk2 { n:=22,fr:=[(1,.p (.str s)),(2,.x (.c (.loc 0 0))),(4,.i 0),(5,.i 0)],ck:=[zSk1 c] }) fun Γ=>?_
 exact G0 c s Γ h c.states.length 0 (by omega) (by omega)
def l7:Ent:=(42,fun
 | [.agg [.pd (.str a),.pd (.lst .str b),.pd (.lst .var c),.pd (.lst .stat d),.pd (.lst .tran e)],.c (.pd (.str n))],[]=>some (some (d.length≤maxLen),.x (.c (.pd (.int .i64 (az d n)))),[])
 | _,_=>none)
theorem rU:EntOk Tryz.prog l7:=entOk fun vs ck=>by
 unfold l7; dsimp only; split
 · rename_i a b c d e n; exact entS fun hp=>yd ⟨a,b,c,d,e⟩ n hp
 · exact entN
/-! ### names -/
def cX (l:List Ev.Stat):List Str:=(l.filter fun s:Ev.Stat=>b || !aO s.kind).map fun s:Ev.Stat=>s.name
theorem hZ (l:List Ev.Stat):cX true l=l.map fun s:Ev.Stat=>s.name:=by
 have h:(l.filter fun s:Ev.Stat=>true || !aO s.kind)=l:=ei.2 fun _ _=>rfl
 unfold cX
 rw [h]
theorem wk (l:List Ev.Stat):cX false l=c6 l:=rfl
theorem xU {b:Bool} {l:List Ev.Stat} {k:Nat} (hk:k<l.length):cX b (l.take (k+1))=if (b || !aO (ETy.get .stat l k).kind)=true then cX b (l.take k)++[(ETy.get .stat l k).name] else cX b (l.take k):=by
 rw [show ETy.get .stat l k=l[k] from ETy.get_eq (t:=.stat) (List.getElem?_eq_getElem hk)]
 unfold cX
 rw [aU hk,b5,bP]
 cases hp:(b || !aO l[k].kind) <;> simp [hp]
theorem Fm (l:List Ev.Stat) (k:Nat):(cX b (l.take k)).length≤l.length:=by
 unfold cX
 rw [aN]
 exact av (br _ _) (by rw [bj]; omega)
def xy:Cfg:=⟨aY,[jE]⟩
theorem tX:ag Tryz.prog xy.tab:=(ag.cons jT ag.nil)
abbrev zSk4:List PI:=[.code [1,1,0,1,0,0],.inLoop [1,1,0,1,0,0],.inBlock 0,.code [1,1,1]]
theorem HV (hl:c.states.length≤1466015503701) (Γ:Ctx):∀ (n k:Nat),c.states.length - k≤n→k≤c.states.length →
 J Tryz.prog 66 (au Tryz.f66) Γ (Eq2 (.x (.c (.own 0))) [.own 9 .str (cX b c.states)]) zSk4 ({ n:=35,fr:=[(1,.p (.bool b)),(2,.x (.c (.loc 0 0))),(4,.p (.v (Value.slice none 0 0))),(5,.x (.c (.own 1))),(6,.i ((k:Int)))],ck:=[zSk1 c,.own 9 .str (cX b (c.states.take k))] }):=by
 have hm:c.states.length≤maxLen:=av hl (by decide)
 intro n
 induction n with
 | zero=>?_
 | succ n ih=>?_
 all_goals
  intro k hn hk
  generalize hout:cX b (c.states.take k)=out
  refine jg tX Tryz.func66 (let x1:List (Nat×SV):=[(1,.p (.bool b)),(2,.x (.c (.loc 0 0))),(4,.p (.v (Value.slice none 0 0))),(5,.x (.c (.own 1))),(6,.i (IntKind.wrap .i64 ((k:Int)+1)))]; let x2:List PI:=zSk4; let x3:=(ETy.get .stat c.states k); .ite (decide ((k:Int)<(c.states.length:Int))) (.need (b=false→(0:Int)≤(k:Int)∧(k:Int)<(c.states.length:Int)) (.ite (b || !aO (Stat.kind x3)) (.need (inRg k c.states.length) (.need (room ((out++[Stat.name x3]).length) 16) (.stop x2 { n:=35,fr:=x1,ck:=[zSk1 c,.own 9 .str (out++[Stat.name x3])] }))) (.stop x2 { n:=35,fr:=x1,ck:=[zSk1 c,.own 9 .str out] }))) (.ret (.x (.c (.own 0))) [.own 9 .str out])) ?_
  conv=>zeta
  refine ⟨fun hlt=>?_,fun hge=>?_⟩
  · have hk':k<c.states.length:=by have:=of_decide_eq_true hlt; omega
    have hs:=xU (b:=b) hk'
    have hle:=Fm b c.states (k+1)
    rw [hout] at hs
    refine ⟨fun _=>⟨by omega,by omega⟩,fun h=>?_,fun h=>?_⟩
    · rw [if_pos h] at hs
      rw [hs] at hle
      refine ⟨⟨by omega,by omega⟩,⟨by omega,by unfold maxLen; omega⟩,?_⟩
      rw [aX (aE hk' hm),← hs]
      first
      | (exfalso; omega)
      | exact ih (k+1) (by omega) (by omega)
    · rw [if_neg (by rw [h]; decide)] at hs
      rw [aX (aE hk' hm),← hs]
      first
      | (exfalso; omega)
      | exact ih (k+1) (by omega) (by omega)
  · have hke:k=c.states.length:=by have:=of_decide_eq_false hge; omega
    subst hke
    rw [← hout,aW (aq _)]; exact ⟨rfl,rfl⟩
theorem xP (hl:c.states.length≤1466015503701):ah Tryz.prog 66 [.e .chart c,.b b] [] (.x (.c (.own 0))) [.own 9 .str (cX b c.states)]:=by
 refine dg tX Tryz.func66 (.stop zSk4 { n:=35,fr:=[(1,.p (.bool b)),(2,.x (.c (.loc 0 0))),(4,.p (.v (Value.slice none 0 0))),(5,.p (.v (Value.slice none 0 0))),(6,.i 0)],ck:=[zSk1 c] }) fun Γ=>?_
 refine J.nilOwn 5 9 .str rfl (by kernel_rfl) ?_
 exact HV c b hl Γ c.states.length 0 (by omega) (by omega)
def l3:Ent:=(66,fun
 | [.agg [.pd (.str a),.pd (.lst .str b),.pd (.lst .var c),.pd (.lst .stat d),.pd (.lst .tran e)],.c (.pd (.bool q))],[]=>some (some (d.length≤1466015503701),.x (.c (.own 0)),[.own 9 .str (cX q d)])
 | _,_=>none)
theorem rF:EntOk Tryz.prog l3:=entOk fun vs ck=>by
 unfold l3; dsimp only; split
 · rename_i a b c d e q; exact entS fun hp=>xP ⟨a,b,c,d,e⟩ q hp
 · exact entN
/-! ### twice -/
theorem Ir {l:List Str} {p:Str→Bool} {k:Nat} (hk:k<l.length):(l.take (k+1)).any p=((l.take k).any p||p (ETy.get .str l k)):=by
 rw [show ETy.get .str l k=l[k] from ETy.get_eq (t:=.str) (List.getElem?_eq_getElem hk),aU hk,ez]; simp
abbrev zSk3:List PI:=[.code [1,0,1,0,0,1,0,0,1,0,0],.inLoop [1,0,1,0,0,1,0,0,1,0,0],.inBlock 2,.inBlock 1,.code [1,0,1,0,0,1,1],.inLoop [1,0,1,0,0],.inBlock 0,.code [1,1]]
theorem Dk (i:Nat) (hi:i<l.length) (hl:l.length≤maxLen) (Γ:Ctx) (res:Bool) (h1:tw1 l i=true→res=true)
 (h0:tw1 l i=false→J Tryz.prog 67 (au Tryz.f67) Γ (Eq2 (.x (.b res)) []) zSk2 ({ n:=25,fr:=[(0,.p (.lst .str l)),(2,.p (.bool false)),(3,.i ((IntKind.wrap .i64 ((i:Int)+1))))],ck:=[],kn:=[2] })):∀ (n k:Nat),i - k≤n→k≤i→((l.take k).any fun y=>ETy.get .str l i==y)=false →
 J Tryz.prog 67 (au Tryz.f67) Γ (Eq2 (.x (.b res)) []) zSk3 ({ n:=25,fr:=[(0,.p (.lst .str l)),(2,.p (.bool false)),(3,.i i),(4,.i ((k:Int)))],ck:=[],kn:=[2] }):=by
 intro n
 induction n with
 | zero=>?_
 | succ n ih=>?_
 all_goals
  intro k hn hk hz
  refine jg aR Tryz.func67 (.ite (decide ((k:Int)<(i:Int))) (.need (inRg i l.length) (.need (inRg k l.length) (.ite (ETy.get .str l i==ETy.get .str l k) (.ret (.p (.bool true)) []) (.stop zSk3 { n:=25,fr:=[(0,.p (.lst .str l)),(2,.p (.bool false)),(3,.i i),(4,.i (IntKind.wrap .i64 ((k:Int)+1)))],ck:=[] })))) (.stop zSk2 { n:=25,fr:=[(0,.p (.lst .str l)),(2,.p (.bool false)),(3,.i (IntKind.wrap .i64 ((i:Int)+1)))],ck:=[],kn:=[2] })) ?_
  refine ⟨fun hlt=>?_,fun hge=>?_⟩
  · have hk':k<i:=by have:=of_decide_eq_true hlt; omega
    have ht:=Ir (l:=l) (p:=fun y=>ETy.get .str l i==y) (k:=k) (by omega)
    rw [hz,bf] at ht
    refine ⟨⟨by omega,by omega⟩,⟨by omega,by omega⟩,fun hb=>?_,fun hb=>?_⟩
    · have hb':(ETy.get .str l i==ETy.get .str l k)=true:=hb
      rw [h1 ?_]; exact ⟨rfl,rfl⟩
      unfold tw1
      rw [bn]
      refine ⟨ETy.get .str l k,?_,hb'⟩
      rw [show ETy.get .str l k=l[k] from ETy.get_eq (t:=.str) (List.getElem?_eq_getElem (by omega)),dV]
      exact ⟨k,by omega,rfl⟩
    · have hb':(ETy.get .str l i==ETy.get .str l k)=false:=hb
      rw [aX (aE (show k<l.length by omega) hl)]
      first
      | (exfalso; omega)
      | exact J.kn [2] (ih (k+1) (by omega) (by omega) (by rw [ht]; exact hb'))
  · have hke:k=i:=by have:=of_decide_eq_false hge; omega
    subst hke
    exact h0 hz
theorem Hw (hl:l.length≤maxLen) (Γ:Ctx):∀ (n k:Nat),l.length - k=n→k≤l.length →
 J Tryz.prog 67 (au Tryz.f67) Γ (Eq2 (.x (.b (nw l n k))) []) zSk2 ({ n:=25,fr:=[(0,.p (.lst .str l)),(2,.p (.bool false)),(3,.i ((k:Int)))],ck:=[],kn:=[2] }):=by
 intro n
 induction n with
 | zero=>?_
 | succ n ih=>?_
 all_goals
  intro k hn hk
  refine jg aR Tryz.func67 (.ite (decide ((k:Int)<(l.length:Int))) (.stop zSk3 { n:=25,fr:=[(0,.p (.lst .str l)),(2,.p (.bool false)),(3,.i k),(4,.i 0)],ck:=[],kn:=[2] }) (.ret (.p (.bool false)) [])) ?_
  refine ⟨fun hlt=>?_,fun hge=>?_⟩
  · have hk':k<l.length:=by have:=of_decide_eq_true hlt; omega
    first
    | (exfalso; omega)
    | refine Dk l k hk' hl Γ _ (fun h=>?_) (fun h=>?_) k 0 (by omega) (by omega) rfl
      · rw [nw,h,b6]
      · rw [nw,h,bf,aX (aE hk' hl)]
        exact ih (k+1) (by omega) (by omega)
  · first
    | exact ⟨rfl,rfl⟩
    | (have:=of_decide_eq_false hge; exfalso; omega)
theorem yz:ah Tryz.prog 67 [.l .str l] [] (.x (.b (dx l))) []:=by
 refine dg aR Tryz.func67 (.stop zSk2 { n:=25,fr:=[(0,.p (.lst .str l)),(2,.p (.bool false)),(3,.i 0)],ck:=[],kn:=[2] }) fun Γ=>?_
 exact J.len 0 rfl fun hl=>Hw l hl Γ l.length 0 (by omega) (by omega)
def oQ:Ent:=(67,fun
 | [.c (.pd (.lst .str l))],[]=>some (none,.x (.c (.pd (.bool (dx l)))),[])
 | _,_=>none)
theorem AE:EntOk Tryz.prog oQ:=entOk fun vs ck=>by
 unfold oQ; dsimp only; split
 · rename_i l; exact entS fun hp=>yz l
 · exact entN
/-! ### spelled -/
def wu:Cfg:=⟨aY,[nL]⟩
theorem tL:ag Tryz.prog wu.tab:=(ag.cons ml ag.nil)
theorem HQ (hl:l.length≤maxLen)  : ∀ (n k:Nat),l.length - k≤n→k≤l.length →
 J Tryz.prog 65 (au Tryz.f65) Γ (Eq2 (.x (.b ((l.drop k).all aZ))) []) zSk2 ({ n:=16,fr:=[(0,.p (.lst .str l)),(2,.p (.bool false)),(3,.i k)],ck:=[],kn:=[2] }):=by
 intro n
 induction n with
 | zero=>?_
 | succ n ih=>?_
 all_goals
  intro k hn hk
  refine jg tL Tryz.func65 (.ite (decide ((k:Int)<(l.length:Int))) (.need (inRg k l.length) (.ite (!aZ (ETy.get .str l k)) (.ret (.p (.bool false)) []) (.stop zSk2 { n:=16,fr:=[(0,.p (.lst .str l)),(2,.p (.bool false)),(3,.i (IntKind.wrap .i64 ((k:Int)+1)))],ck:=[],kn:=[2] }))) (.ret (.p (.bool true)) [])) ?_
  refine ⟨fun hlt=>?_,fun hge=>?_⟩
  · have hk':k<l.length:=by have:=of_decide_eq_true hlt; omega
    rw [bD (t:=.str) (l:=l) hk']
    refine ⟨by omega,?_⟩
    generalize ETy.get .str l k=v
    rw [da]
    refine ⟨fun hb=>⟨?_,rfl⟩,fun hb=>?_⟩
    · have hb':aZ v=false:=nt hb
      rw [hb']; rfl
    · have hb':aZ v=true:=nf hb
      rw [hb',aS]; (rw [aX (aE hk' hl)]; first | (exfalso; omega) | exact ih (k+1) (by omega) (by omega) | exact J.kn [2] (ih (k+1) (by omega) (by omega)))
  · rw [bO (l:=l) (by have:=of_decide_eq_false hge; omega)]
    exact ⟨rfl,rfl⟩
theorem FT:ah Tryz.prog 65 [.l .str (l)] [] (.x (.b (l.all aZ))) []:=by
 refine dg tL Tryz.func65 (.stop zSk2 { n:=16,fr:=[(0,.p (.lst .str l)),(2,.p (.bool false)),(3,.i 0)],ck:=[],kn:=[2] }) fun Γ=>?_
 exact J.len 0 rfl fun hl=>HQ l Γ hl l.length 0 (by omega) (by omega)
def lC:Ent:=(65,fun
 | [.c (.pd (.lst .str l))],[]=>some (none,.x (.c (.pd (.bool (l.all aZ)))),[])
 | _,_=>none)
theorem vB:EntOk Tryz.prog lC:=entOk fun vs ck=>by
 unfold lC; dsimp only; split
 · rename_i l; exact entS fun hp=>FT l
 · exact entN
/-! ### a variable -/
theorem AB (x:Val):ah Tryz.prog 127 [.e .var v,.e .val x] [] (.x (.b (ie v x))) []:=by
 refine dg aR Tryz.func127 (.ite (v.kind != x.kind||decide (x.a<v.lo)||decide (x.a>v.hi)) (.ret (.p (.bool false)) []) (.ret (.p (.bool (x.kind != (3:Int)||decide (x.b≥v.lo)&&decide (x.b≤v.hi)))) [])) fun Γ=>?_
 have e:∀ b:Bool,b=ie v x→Eq2 (.x (.b (ie v x))) [] (SV.x (SX.c (SC.pd (PD.bool b)))) []:=fun b h=>by rw [h]; exact ⟨rfl,rfl⟩
 refine ⟨fun h=>e _ ?_,fun h=>e _ ?_⟩
 · unfold ie
   simp only [aM,bne_iff_ne,decide_eq_true_eq] at h
   symm
   cases hb:(v.kind==x.kind&&(decide (x.a≥v.lo)&&decide (x.a≤v.hi)&&(x.kind != 3||(decide (x.b≥v.lo)&&decide (x.b≤v.hi)))))
   · rfl
   · simp only [af,beq_iff_eq,decide_eq_true_eq] at hb
     omega
 · unfold ie
   simp only [ay,bne_eq_false_iff_eq,decide_eq_false_iff_not] at h
   rw [show (v.kind==x.kind)=true by simpa using h.1.1,show decide (x.a≥v.lo)=true by simpa using h.1.2,show decide (x.a≤v.hi)=true by simpa using h.2]
   rfl
def qg:Ent:=(127,fun
 | [.agg [.pd (.str n),.pd (.int .i64 k),.pd (.int .i64 lo),.pd (.int .i64 hi),.pd (.int .i64 ik),.pd (.int .i64 ia),.pd (.int .i64 ib)],.agg [.pd (.int .i64 xk),.pd (.int .i64 xa),.pd (.int .i64 xb)]],[]=>some (none,.x (.c (.pd (.bool (ie ⟨n,k,lo,hi,⟨ik,ia,ib⟩⟩ ⟨xk,xa,xb⟩)))),[])
 | _,_=>none)
theorem Ek:EntOk Tryz.prog qg:=entOk fun vs ck=>by
 unfold qg; dsimp only; split
 · rename_i n k lo hi ik ia ib xk xa xb; exact entS fun hp=>AB ⟨n,k,lo,hi,⟨ik,ia,ib⟩⟩ ⟨xk,xa,xb⟩
 · exact entN
theorem MK (k:Int):(decide (k<1)||decide (k>3))=(k != 1&&k != 2&&k != 3):=by
 rw [bp]
 simp only [aM,af,decide_eq_true_eq,bne_iff_ne]
 omega
theorem Lq (h:v.init.kind=v.kind):(vR v.init&&decide (r5 v≥v.lo)&&decide (oT v≤v.hi))=(vR v.init&&ie v v.init):=by
 rw [eT]
 congr 1
 unfold ie r5 oT
 rw [h,beq_self_eq_true,aS]
 generalize v.init.a=a
 generalize v.init.b=b
 by_cases h3:v.kind=3
 · have e3:(v.kind==3)=true:=by rw [h3]; rfl
   have e4:(v.kind != 3)=false:=by rw [h3]; rfl
   rw [if_pos e3,if_pos e3,e4,bf,bp]
   simp only [af,decide_eq_true_eq]
   split <;> split <;> omega
 · have e3:¬(v.kind==3)=true:=by simpa using h3
   have e4:(v.kind != 3)=true:=by simpa using h3
   rw [if_neg e3,if_neg e3,e4,b6,cR]
def Dp:Cfg:=⟨aY,[ld,qg]⟩
theorem Ep:ag Tryz.prog Dp.tab:=(ag.cons wX (ag.cons Ek ag.nil))
theorem DQ:ah Tryz.prog 70 [.e .var v] [] (.x (.i (dY v))) []:=by
 refine dg Ep Tryz.func70 (let x1:Tree:=(.ite (v.kind==(2:Int)&&(v.lo != (0:Int)||v.hi != (1:Int))) (.ret (.i 5) []) (.ite (!vR v.init || !ie v v.init) (.ret (.i 5) []) (.ret (.i 0) []))); .ite (v.kind != (1:Int)&&v.kind != (2:Int)&&v.kind != (3:Int)||v.init.kind != v.kind) (.ret (.i 8) []) (.ite (v.kind==(3:Int)) (.ite (decide (v.lo>v.hi)||decide (v.lo<IntKind.wrap .i64 ((0:Int) - 1048576))||decide (v.hi>(1048576:Int))) (.ret (.i 5) []) x1) (.ite (decide (v.lo>v.hi)||decide (v.lo<IntKind.wrap .i64 ((0:Int) - 1099511627776))||decide (v.hi>(1099511627776:Int))) (.ret (.i 5) []) x1))) fun Γ=>?_
 conv=>zeta
 have w1:IntKind.wrap .i64 (0 - 1048576) = -1048576:=by decide
 have w2:IntKind.wrap .i64 (0 - 1099511627776) = -1099511627776:=by decide
 rw [w1,w2,← MK]
 have no:∀ {b:Bool},b=false→¬b=true:=fun h e=>by rw [h] at e; cases e
 refine ⟨fun h=>?_,fun h=>?_⟩
 · unfold dY; rw [if_pos h]; exact ⟨rfl,rfl⟩
 have hk:v.init.kind=v.kind:=by
  rw [ay] at h
  simpa using h.2
 have hf:=Lq v hk
 have hd:∀ b:Bool,(!vR v.init || !ie v v.init)=b→bT (vR v.init&&decide (r5 v≥v.lo)&&decide (oT v≤v.hi)) 5=if b=true then 5 else 0:=by
  intro b hb
  rw [hf,← hb]
  unfold bT
  cases vR v.init <;> cases ie v v.init <;> rfl
 refine ⟨fun h3=>⟨fun hb=>?_,fun hb=>⟨fun hc=>?_,fun hc=>⟨fun he=>?_,fun he=>?_⟩⟩⟩,fun h3=>⟨fun hb=>?_,fun hb=>⟨fun hc=>?_,fun hc=>⟨fun he=>?_,fun he=>?_⟩⟩⟩⟩
 all_goals
  have hm:mD v=if (v.kind==3)=true then 1048576 else 1099511627776:=rfl
  first | rw [if_pos h3] at hm | rw [if_neg (no h3)] at hm
  unfold dY
  rw [if_neg (no h),hm]
 · rw [if_pos (by rw [hb]; rfl)]; exact ⟨rfl,rfl⟩
 · rw [if_pos (by rw [hb]; exact hc)]; exact ⟨rfl,rfl⟩
 · rw [if_neg (by rw [hb]; exact no hc),hd _ he]; exact ⟨rfl,rfl⟩
 · rw [if_neg (by rw [hb]; exact no hc),hd _ he]; exact ⟨rfl,rfl⟩
 · rw [if_pos (by rw [hb]; rfl)]; exact ⟨rfl,rfl⟩
 · rw [if_pos (by rw [hb]; exact hc)]; exact ⟨rfl,rfl⟩
 · rw [if_neg (by rw [hb]; exact no hc),hd _ he]; exact ⟨rfl,rfl⟩
 · rw [if_neg (by rw [hb]; exact no hc),hd _ he]; exact ⟨rfl,rfl⟩
def vh:Ent:=(70,fun
 | [.agg [.pd (.str a),.pd (.int .i64 b),.pd (.int .i64 e),.pd (.int .i64 f),.pd (.int .i64 g),.pd (.int .i64 h),.pd (.int .i64 i)]],[]=>some (none,.x (.c (.pd (.int .i64 (dY ⟨a,b,e,f,⟨g,h,i⟩⟩)))),[])
 | _,_=>none)
theorem Hd:EntOk Tryz.prog vh:=entOk fun vs ck=>by
 unfold vh; dsimp only; split
 · rename_i a b e f g h i; exact entS fun hp=>DQ ⟨a,b,e,f,⟨g,h,i⟩⟩
 · exact entN
end Go.Proofs.YtgfifkhbfdacjaaGreatDoor

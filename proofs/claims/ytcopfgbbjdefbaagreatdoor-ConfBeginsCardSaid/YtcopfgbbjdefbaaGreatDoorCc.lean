/- Legal configurations: the program's word and the document's are alike; what is chosen state by state is legal (plain). Conditions: a valid chart. Configurations that are legal: the first one, one by choices, two mixed; leaves (plain). Conditions: a valid chart. -/
import Derived.Test.YtcopfgbbjdefbaaGreatDoorCi
namespace Go.Proofs.YtcopfgbbjdefbaaGreatDoor
open Go Go.Ev
set_option maxRecDepth 100000
variable (s:List Int) (i:Int) {l:List Ev.Stat}
def inB:Bool:=s.any fun x=>x==i
def lB (l:List Ev.Stat):Int→List Int→Bool
 | _,[]=>true
 | a,x::r=>if (decide (x≤a)||decide (x≥(l.length:Int))||aQ (ETy.get .stat l x.toNat).kind)=true then false else lB l x r
def cQ (ks:List Int):Nat:=(ks.filter fun k=>inB s k).length
def ic (l:List Ev.Stat) (s:List Int) (i:Nat):Bool :=
 if ((ETy.get .stat l i).depth==0 && !inB s i||decide ((ETy.get .stat l i).depth>0)&&inB s i && !inB s (upM l i))=true then false
 else if (!inB s i||(ETy.get .stat l i).kind != 2&&(ETy.get .stat l i).kind != 3)=true then true
 else !((ETy.get .stat l i).kind==2&&(cQ s (bk l i):Int) != 1||(ETy.get .stat l i).kind==3&&(cQ s (bk l i):Int) != ((bk l i).length:Int))
def kJ (l:List Ev.Stat) (s:List Int):Nat→Nat→Bool
 | 0,_=>true
 | n+1,i=>ic l s i&&kJ l s n (i+1)
def cy (l:List Ev.Stat) (s:List Int):Bool:=lB l (-1) s&&kJ l s l.length 0
def jc (l:List Ev.Stat) (s:List Int) (k:Nat):Bool:=!(decide (ETy.get .int s k<0)||decide (ETy.get .int s k≥(l.length:Int))||decide (0<k)&&decide (ETy.get .int s k≤ETy.get .int s (k - 1))) && !aQ (ETy.get .stat l (ETy.get .int s k).toNat).kind
def iA (l:List Ev.Stat) (s:List Int):Nat→Nat→Bool
 | 0,_=>true
 | n+1,k=>jc l s k&&iA l s n (k+1)
def ft (l:List Ev.Stat) (s:List Int) (i:Nat):Bool :=
 if ((ETy.get .stat l i).depth==0 && !inB s i)=true then false
 else if (!inB s i)=true then true
 else if (decide ((ETy.get .stat l i).depth>0) && !inB s (aR l i))=true then false
 else !((ETy.get .stat l i).kind==2&&(cQ s (bW l i l.length):Int) != 1||(ETy.get .stat l i).kind==3&&(cQ s (bW l i l.length):Int) != ((bW l i l.length).length:Int))
def lR (l:List Ev.Stat) (s:List Int):Nat→Nat→Bool
 | 0,_=>true
 | n+1,i=>ft l s i&&lR l s n (i+1)
def xT (l:List Ev.Stat) (s:List Int):Bool:=iA l s s.length 0&&lR l s l.length 0
structure Lgl (l:List Ev.Stat) (s:List Int):Prop where
 inc:s.Pairwise (· < ·)
 rng:∀ x∈s,∃ i:Nat,x=(i:Int)∧i<l.length∧aQ (knd l i)=false
 root:∀ i,i<l.length→dep l i=0→(i:Int)∈s
 par:∀ i p:Nat,i<l.length→(i:Int)∈s→upM l i=(p:Int)→(p:Int)∈s
 one:∀ i,i<l.length→(i:Int)∈s→knd l i=2→∃ q:Nat,q<l.length∧upM l q=(i:Int)∧(q:Int)∈s∧∀ m:Nat,m<l.length→upM l m=(i:Int)→(m:Int)∈s→m=q
 both:∀ i,i<l.length→(i:Int)∈s→knd l i=3→∀ m:Nat,m<l.length→upM l m=(i:Int)→(m:Int)∈s
theorem gU:inB s i=true↔i∈s:=by
 unfold inB
 rw [bA]
 constructor
 · rintro ⟨x,hx,e⟩; rw [← eq_of_beq e]; exact hx
 · intro h; exact ⟨i,h,beq_self_eq_true _⟩
theorem vJ {i:Nat} (hi:i<l.length):(bk l i).Pairwise (· < ·):=by
 have he:=(dP l hi).2
 have h:=(kP l (endM l i) l.length (i+1) he).1
 have hb:∀ n k,∀ y∈dv l (endM l i) n k,∃ m:Nat,y=(m:Int)∧m<l.length:=by
  intro n
  induction n with
  | zero=>intro k y hy; rw [dv] at hy; cases hy
  | succ n ih =>
    intro k y hy
    rw [dv] at hy
    split at hy
    · rcases aF.1 hy with rfl | hy
      · exact ⟨k,rfl,by omega⟩
      · exact ih _ y hy
    · cases hy
 refine List.Pairwise.imp_of_mem (fun {a b} ha _ hab=>?_) h
 obtain ⟨m,rfl,hm⟩:=hb _ _ a ha
 rw [ai] at hab
 have:=dP l hm
 omega
theorem HB (S:Shp l) {i:Nat} (hi:i<l.length):bk l i=bW l (i:Int) l.length:=by
 refine ni (vJ hi) ?_ fun y=>?_
 · unfold bW; exact mr _ _
 · rw [gK S hi,r8 S hi]
theorem Ib {l:List Int} (hn:l.Pairwise (· < ·)):l.length=1↔∃ q,q∈l∧∀ m∈l,m=q:=by
 match l with
 | []=>simp
 | [a]=>simp
 | a::b::r =>
   rw [cW] at hn
   refine ⟨fun h=>by simp at h,fun ⟨q,_,h⟩=>?_⟩
   have h1:=h a (by simp)
   have h2:=h b (by simp)
   have:=hn.1 b (by simp)
   omega
theorem G8 (S:Shp l) {i:Nat} (hi:i<l.length) (s:List Int):cQ s (bk l i)=1↔∃ q:Nat,q<l.length∧upM l q=(i:Int)∧(q:Int)∈s∧∀ m:Nat,m<l.length→upM l m=(i:Int)→(m:Int)∈s→m=q:=by
 unfold cQ
 rw [Ib ((vJ hi).filter _)]
 have hm:∀ y,y∈(bk l i).filter (fun k=>inB s k)↔∃ m:Nat,y=(m:Int)∧m<l.length∧upM l m=(i:Int)∧(m:Int)∈s:=fun y=>by
  rw [aD,gK S hi,gU]
  constructor
  · rintro ⟨⟨m,rfl,h1,h2⟩,h3⟩; exact ⟨m,rfl,h1,h2,h3⟩
  · rintro ⟨m,rfl,h1,h2,h3⟩; exact ⟨⟨m,rfl,h1,h2⟩,h3⟩
 constructor
 · rintro ⟨q,hq,h⟩
   obtain ⟨m,rfl,h1,h2,h3⟩:=(hm q).1 hq
   exact ⟨m,h1,h2,h3,fun m' a b c=>by have:=h (m':Int) ((hm _).2 ⟨m',rfl,a,b,c⟩); omega⟩
 · rintro ⟨q,h1,h2,h3,h⟩
   refine ⟨(q:Int),(hm _).2 ⟨q,rfl,h1,h2,h3⟩,fun y hy=>?_⟩
   obtain ⟨m,rfl,a,b,c⟩:=(hm y).1 hy
   rw [h m a b c]
theorem Hu (S:Shp l) {i:Nat} (hi:i<l.length) (s:List Int):cQ s (bk l i)=(bk l i).length↔∀ m:Nat,m<l.length→upM l m=(i:Int)→(m:Int)∈s:=by
 unfold cQ
 rw [List.length_filter_eq_length_iff]
 constructor
 · intro h m h1 h2
   exact (gU _ _).1 (h (m:Int) ((gK S hi _).2 ⟨m,rfl,h1,h2⟩))
 · intro h y hy
   obtain ⟨m,rfl,h1,h2⟩:=(gK S hi y).1 hy
   exact (gU _ _).2 (h m h1 h2)
theorem Ca (S:Shp l) {i:Nat} (hd:dep l i>0):∃ p:Nat,upM l i=(p:Int)∧p<i:=by
 rcases lC l i with ⟨_,h⟩ | ⟨p,e,h,_⟩
 · by_cases h0:i=0
   · subst h0; have:=S.d0; omega
   · have:=h 0 (by omega); have:=S.d0; omega
 · exact ⟨p,e,h⟩
theorem tJ (S:Shp l) {i p:Nat} (hi:i<l.length) (h:upM l i=(p:Int)):dep l i>0:=by
 have h1:=(Ds l i p).1 h
 have:=S.lo p (by omega)
 omega
structure Lg1 (l:List Ev.Stat) (s:List Int) (i:Nat):Prop where
 root:dep l i=0→(i:Int)∈s
 par:∀ p:Nat,(i:Int)∈s→upM l i=(p:Int)→(p:Int)∈s
 one:(i:Int)∈s→knd l i=2→∃ q:Nat,q<l.length∧upM l q=(i:Int)∧(q:Int)∈s∧∀ m:Nat,m<l.length→upM l m=(i:Int)→(m:Int)∈s→m=q
 both:(i:Int)∈s→knd l i=3→∀ m:Nat,m<l.length→upM l m=(i:Int)→(m:Int)∈s
theorem vm (S:Shp l) {i:Nat} (hi:i<l.length) (s:List Int):(!((ETy.get .stat l i).kind==2&&(cQ s (bk l i):Int) != 1||(ETy.get .stat l i).kind==3&&(cQ s (bk l i):Int) != ((bk l i).length:Int)))=true ↔
 (knd l i=2→∃ q:Nat,q<l.length∧upM l q=(i:Int)∧(q:Int)∈s∧∀ m:Nat,m<l.length→upM l m=(i:Int)→(m:Int)∈s→m=q)∧(knd l i=3→∀ m:Nat,m<l.length→upM l m=(i:Int)→(m:Int)∈s):=by
 rw [← G8 S hi,← Hu S hi]
 show _↔((ETy.get .stat l i).kind=2→_)∧((ETy.get .stat l i).kind=3→_)
 generalize (ETy.get .stat l i).kind=a
 generalize cQ s (bk l i)=b
 generalize (bk l i).length=d
 rw [aB,← bU]
 simp only [aS,ae,bne_iff_ne,beq_iff_eq,ne_eq]
 omega
theorem IP (S:Shp l) {i:Nat} (hi:i<l.length) (s:List Int):ic l s i=true↔Lg1 l s i:=by
 unfold ic
 have hlo:=S.lo i hi
 by_cases hin:(i:Int)∈s
 · rw [(gU s i).2 hin]
   simp only [bP,cr,aW,cZ]
   by_cases hd:dep l i=0
   · have e:decide ((ETy.get .stat l i).depth>0)=false:=decide_eq_false (by show ¬dep l i>0; omega)
     rw [e,aK,if_neg (by decide)]
     by_cases hk:(ETy.get .stat l i).kind=2∨(ETy.get .stat l i).kind=3
     · rw [if_neg (by simp; omega),vm S hi]
       exact ⟨fun h=>⟨fun _=>hin,fun p _ hu=>by have:=tJ S hi hu; omega,fun _=>h.1,fun _=>h.2⟩,fun h=>⟨h.one hin,h.both hin⟩⟩
     · rw [if_pos (by simp; omega)]
       exact ⟨fun _=>⟨fun _=>hin,fun p _ hu=>by have:=tJ S hi hu; omega,fun _ h=>absurd (.inl h) hk,fun _ h=>absurd (.inr h) hk⟩,fun _=>rfl⟩
   · have e:decide ((ETy.get .stat l i).depth>0)=true:=decide_eq_true (by show dep l i>0; omega)
     obtain ⟨p,hp,_⟩:=Ca S (i:=i) (by omega)
     rw [e,aP,hp]
     by_cases hps:(p:Int)∈s
     · rw [(gU s p).2 hps,bP,if_neg (by decide)]
       have hpar:∀ p':Nat,(i:Int)∈s→upM l i=(p':Int)→(p':Int)∈s:=fun p' _ h=>by
        rw [hp] at h; rw [← h]; exact hps
       by_cases hk:(ETy.get .stat l i).kind=2∨(ETy.get .stat l i).kind=3
       · rw [if_neg (by simp; omega),vm S hi]
         exact ⟨fun h=>⟨fun _=>hin,hpar,fun _=>h.1,fun _=>h.2⟩,fun h=>⟨h.one hin,h.both hin⟩⟩
       · rw [if_pos (by simp; omega)]
         exact ⟨fun _=>⟨fun _=>hin,hpar,fun _ h=>absurd (.inl h) hk,fun _ h=>absurd (.inr h) hk⟩,fun _=>rfl⟩
     · have e2:inB s (p:Int)=false:=by
        cases h:inB s (p:Int)
        · rfl
        · exact absurd ((gU _ _).1 h) hps
       rw [e2,cq,if_pos rfl]
       exact ⟨fun h=>(by cases h),fun h=>absurd (h.par p hin hp) hps⟩
 · have e:inB s (i:Int)=false:=by
    cases h:inB s (i:Int)
    · rfl
    · exact absurd ((gU _ _).1 h) hin
   rw [e]
   simp only [cq,cZ,cr,aK,bC,bx,if_true]
   by_cases hd:dep l i=0
   · rw [if_pos (by simpa using hd)]
     exact ⟨fun h=>(by cases h),fun h=>absurd (h.root hd) hin⟩
   · rw [if_neg (by simpa using hd)]
     exact ⟨fun _=>⟨fun h=>absurd h hd,fun _ h=>absurd h hin,fun h=>absurd h hin,fun h=>absurd h hin⟩,fun _=>rfl⟩
theorem GJ {l:List Ev.Stat} (S:Shp l) (s:List Int):∀ (n i:Nat),l.length - i=n→(kJ l s n i=true↔∀ j,i≤j→j<l.length→Lg1 l s j)
 | 0,i,hn=>by rw [kJ]; exact ⟨fun _ j h1 h2=>by omega,fun _=>rfl⟩
 | n+1,i,hn=>by
   rw [kJ,ae,IP S (by omega),GJ S s n (i+1) (by omega)]
   refine ⟨fun ⟨a,b⟩ j h1 h2=>?_,fun h=>⟨h i (aq _) (by omega),fun j h1 h2=>h j (by omega) h2⟩⟩
   by_cases hj:j=i
   · subst hj; exact a
   · exact b j (by omega) h2
theorem nN (l:List Ev.Stat):∀ (s:List Int) (a:Int), -1≤a→(lB l a s=true↔s.Pairwise (· < ·)∧∀ x∈s,a<x∧∃ i:Nat,x=(i:Int)∧i<l.length∧aQ (knd l i)=false)
 | [],a,_=>by rw [lB]; exact ⟨fun _=>⟨.nil,fun x h=>(by cases h)⟩,fun _=>rfl⟩
 | x :: r, a,ha=>by
   rw [lB]
   by_cases h1:x≤a
   · rw [decide_eq_true h1,bx,bx,if_pos rfl]
     exact ⟨fun h=>(by cases h),fun h=>by have:=(h.2 x ax).1; omega⟩
   · by_cases h2:x≥(l.length:Int)
     · rw [decide_eq_true h2,Bool.or_true,bx,if_pos rfl]
       refine ⟨fun h=>(by cases h),fun h=>?_⟩
       obtain ⟨i,rfl,hi,_⟩:=(h.2 x ax).2
       omega
     · rw [decide_eq_false h1,decide_eq_false h2,aW,aW]
       obtain ⟨i,rfl⟩:=ay (show 0≤x by omega)
       rw [ai]
       cases hp:aQ (ETy.get .stat l i).kind
       · rw [if_neg (by decide),nN l r (i:Int) (by omega),cW]
         constructor
         · rintro ⟨h3,h4⟩
           refine ⟨⟨fun y hy=>(h4 y hy).1,h3⟩,fun y hy=>?_⟩
           rcases aF.1 hy with rfl | hy
           · exact ⟨by omega,i,rfl,by omega,hp⟩
           · have:=h4 y hy; exact ⟨by omega,this.2⟩
         · rintro ⟨⟨h3,h4⟩,h5⟩
           exact ⟨h4,fun y hy=>⟨h3 y hy,(h5 y (aH _ hy)).2⟩⟩
       · rw [if_pos rfl]
         refine ⟨fun h=>(by cases h),fun h=>?_⟩
         obtain ⟨j,e,_,hj⟩:=(h.2 (i:Int) ax).2
         have:i=j:=by omega
         subst this
         have hp':aQ (knd l i)=true:=hp
         rw [hp'] at hj; cases hj
theorem CM (S:Shp l) (s:List Int):cy l s=true↔Lgl l s:=by
 unfold cy
 rw [ae,nN l s (-1) (by omega),GJ S s l.length 0 (by omega)]
 constructor
 · rintro ⟨⟨h1,h2⟩,h3⟩
   exact ⟨h1,fun x hx=>(h2 x hx).2,fun i hi=>(h3 i (aO _) hi).root,fun i p hi=>(h3 i (aO _) hi).par p,fun i hi=>(h3 i (aO _) hi).one,fun i hi=>(h3 i (aO _) hi).both⟩
 · intro h
   refine ⟨⟨h.inc,fun x hx=>?_⟩,fun j _ hj=>⟨h.root j hj,fun p=>h.par j p hj,h.one j hj,h.both j hj⟩⟩
   have:=h.rng x hx
   obtain ⟨i,rfl,_⟩:=this
   exact ⟨by omega,h.rng _ hx⟩
theorem G6 (S:Shp l) {i:Nat} (hi:i<l.length) (s:List Int):ft l s i=ic l s i:=by
 unfold ft ic
 rw [fQ S hi,← HB S hi]
 have hlo:0≤(ETy.get .stat l i).depth:=S.lo i hi
 have hlast:((ETy.get .stat l i).kind != 2&&(ETy.get .stat l i).kind != 3)=true→(!((ETy.get .stat l i).kind==2&&(cQ s (bk l i):Int) != 1||(ETy.get .stat l i).kind==3&&(cQ s (bk l i):Int) != ((bk l i).length:Int)))=true:=fun h=>by
  simp only [ae,bne_iff_ne,ne_eq] at h
  simp [h.1,h.2]
 cases hin:inB s (i:Int)
 · simp
 · simp only [bP,cr,aW,cZ,ei,if_false]
   split
   · rfl
   · split
     · rename_i h; exact hlast h
     · rfl
theorem ue {l:List Ev.Stat} (s:List Int):∀ (n k:Nat),s.length - k=n→(iA l s n k=true↔∀ j,k≤j→j<s.length→jc l s j=true)
 | 0,k,hn=>by rw [iA]; exact ⟨fun _ j h1 h2=>by omega,fun _=>rfl⟩
 | n+1,k,hn=>by
   rw [iA,ae,ue s n (k+1) (by omega)]
   refine ⟨fun ⟨a,b⟩ j h1 h2=>?_,fun h=>⟨h k (aq _) (by omega),fun j h1 h2=>h j (by omega) h2⟩⟩
   by_cases hj:j=k
   · subst hj; exact a
   · exact b j (by omega) h2
theorem xM {l:List Ev.Stat} (S:Shp l) (s:List Int):∀ (n i:Nat),l.length - i=n→lR l s n i=kJ l s n i
 | 0,_,_=>rfl
 | n+1,i,hn=>by rw [lR,kJ,G6 S (by omega),xM S s n (i+1) (by omega)]
theorem rR (l:List Ev.Stat) (s:List Int) (k:Nat) (hk:k<s.length):jc l s k=true↔((∃ i:Nat,s[k]=(i:Int)∧i<l.length∧aQ (knd l i)=false)∧(∀ h:0<k,s[k - 1]'(by omega)<s[k])):=by
 have e:ETy.get .int s k=s[k]:=ETy.get_eq (t:=.int) (List.getElem?_eq_getElem hk)
 have e1:ETy.get .int s (k - 1)=s[k - 1]'(by omega):=ETy.get_eq (t:=.int) (List.getElem?_eq_getElem (by omega))
 have key:∀ x y:Int,(!(decide (x<0)||decide (x≥(l.length:Int))||decide (0<k)&&decide (x≤y)) && !aQ (ETy.get .stat l x.toNat).kind)=true↔((∃ i:Nat,x=(i:Int)∧i<l.length∧aQ (knd l i)=false)∧(0<k→y<x)):=by
  intro x y
  rw [ae,aB,aB,← bU]
  simp only [aS,ae,decide_eq_true_eq]
  constructor
  · rintro ⟨h1,h2⟩
    obtain ⟨i,rfl⟩:=ay (show 0≤x by omega)
    rw [ai] at h2
    exact ⟨⟨i,rfl,by omega,h2⟩,fun h=>by omega⟩
  · rintro ⟨⟨i,rfl,h1,h2⟩,h3⟩
    rw [ai]
    refine ⟨fun h=>?_,h2⟩
    rcases h with (h | h) | ⟨h4,h5⟩
    · omega
    · omega
    · have:=h3 h4; omega
 unfold jc
 rw [e,e1]
 exact key _ _
theorem Ho (l:List Ev.Stat) (s:List Int):iA l s s.length 0=lB l (-1) s:=by
 rw [bm,ue s s.length 0 (by omega),nN l s (-1) (by omega)]
 constructor
 · intro h
   have hk:=fun k (hk:k<s.length)=>(rR l s k hk).1 (h k (aO _) hk)
   constructor
   · rw [cf]
     intro i j hi hj hij
     obtain ⟨d,rfl⟩:∃ d,j=i+1+d:=⟨j - (i+1),by omega⟩
     clear hij
     induction d with
     | zero =>
       have:=(hk (i+1) hj).2 (by omega)
       simpa using this
     | succ d ih =>
       have h1:=ih (by omega)
       have h2:=(hk (i+1+(d+1)) hj).2 (by omega)
       have e:i+1+(d+1) - 1=i+1+d:=by omega
       simp only [e] at h2
       omega
   · intro x hx
     obtain ⟨k,hk',rfl⟩:=dK.1 hx
     obtain ⟨i,e,h1,h2⟩:=(hk k hk').1
     exact ⟨by omega,i,e,h1,h2⟩
 · rintro ⟨h1,h2⟩ j _ hj
   rw [cf] at h1
   exact (rR l s j hj).2 ⟨(h2 _ (b6 hj)).2,fun h=>h1 (j - 1) j (by omega) hj (by omega)⟩
theorem FS (S:Shp l) (s:List Int):xT l s=cy l s:=by
 unfold xT cy
 rw [Ho,xM S s l.length 0 (by omega)]
end Go.Proofs.YtcopfgbbjdefbaaGreatDoor
namespace Go.Proofs.YtcopfgbbjdefbaaGreatDoor
open Go Go.Ev
set_option maxRecDepth 100000
theorem vQ (l:List Ev.Stat):∀ (n k:Nat) (r q:Int),l.length - k=n→ee l n k r=some q→∀ j,k≤j→j<l.length→dep l j=0→knd l j=2
 | 0,k,r,q,hn,_,j,h1,h2,_=>by omega
 | n + 1,k,r,q,hn,h,j,h1,h2,h3=>by
   rw [ee] at h
   split at h
   · cases h
   · by_cases hj:j=k
     · subst hj
       rw [if_pos (by simpa using (show (ETy.get .stat l j).depth=0 from h3))] at h
       split at h
       · cases h
       · rename_i h4
         show (ETy.get .stat l j).kind=2
         simpa using h4
     · split at h
       · split at h
         · cases h
         · exact vQ l n (k+1) _ q (by omega) h j (by omega) h2 h3
       · exact vQ l n (k+1) _ q (by omega) h j (by omega) h2 h3
variable {l:List Ev.Stat}
theorem Tre.reg (t:Tre l) {i:Nat} (hi:i<l.length) (h:dep l i=0):knd l i=2:=by
 have h1:=t.right
 rw [l6] at h1
 unfold fq gk at h1
 rw [ae,ae] at h1
 cases hq:ee l l.length 0 0 with
 | none=>rw [hq] at h1; exact absurd h1.1.2 (by decide)
 | some q=>exact vQ l l.length 0 0 q (by omega) hq i (aO _) hi h
theorem tP {k:Int} (h:k=2):aQ k=false:=by rw [h]; rfl
theorem Jn (t:Tre l) {s:List Int} (hs:s.Pairwise (· < ·)) (I:Nat→Prop) (ch:Nat→Nat→Prop) (hm:∀ y,y∈s↔∃ j:Nat,y=(j:Int)∧j<l.length∧I j)
 (hch:∀ p,p<l.length→knd l p=2→I p→∃ q,q<l.length∧upM l q=(p:Int)∧aQ (knd l q)=false∧ch p q∧∀ m,m<l.length→upM l m=(p:Int)→ch p m→m=q)
 (hI:∀ j,j<l.length→(I j↔dep l j=0∨∃ p:Nat,upM l j=(p:Int)∧I p∧(knd l p=3∨(knd l p=2∧ch p j)))):Lgl l s:=by
 have mem:∀ j:Nat,(j:Int)∈s→j<l.length∧I j:=fun j h=>by
  obtain ⟨k,e,h1,h2⟩:=(hm _).1 h
  have:j=k:=by omega
  subst this; exact ⟨h1,h2⟩
 have put:∀ j:Nat,j<l.length→I j→(j:Int)∈s:=fun j h1 h2=>(hm _).2 ⟨j,rfl,h1,h2⟩
 have plt:∀ {j p:Nat},j<l.length→upM l j=(p:Int)→p<l.length:=fun {j p} hj h=>by
  have:=((gx t.shp hj).1 h).1; omega
 refine ⟨hs,fun x hx=>?_,fun i hi hd=>put i hi ((hI i hi).2 (.inl hd)),fun i p hi his hu=>?_,fun i hi his hk=>?_,fun i hi his hk m hml hu=>put m hml ((hI m hml).2 (.inr ⟨i,hu,(mem i his).2,.inl hk⟩))⟩
 · obtain ⟨j,rfl,hj,hIj⟩:=(hm x).1 hx
   refine ⟨j,rfl,hj,?_⟩
   rcases (hI j hj).1 hIj with h | ⟨p,hu,hp,h | ⟨h,hc⟩⟩
   · exact tP (t.reg hj h)
   · rcases t.both hj hu with h2 | ⟨_,h3⟩
     · rw [h] at h2; exact absurd h2 (by decide)
     · have h3':knd l j≤3:=h3
       cases hp:aQ (knd l j)
       · rfl
       · rcases (EE _).1 hp with h4 | h4 <;> omega
   · obtain ⟨q,_,_,hq3,_,hq5⟩:=hch p (plt hj hu) h hp
     rw [hq5 j hj hu hc]; exact hq3
 · rcases (hI i hi).1 (mem i his).2 with h | ⟨p',hu',hp,_⟩
   · have:=tJ t.shp hi hu; omega
   · have:p=p':=by rw [hu] at hu'; omega
     subst this
     exact put p (plt hi hu) hp
 · obtain ⟨q,h1,h2,h3,h4,h5⟩:=hch i hi hk (mem i his).2
   refine ⟨q,h1,h2,put q h1 ((hI q h1).2 (.inr ⟨i,h2,(mem i his).2,.inr ⟨hk,h4⟩⟩)),fun m hml hu hms=>?_⟩
   rcases (hI m hml).1 (mem m hms).2 with h | ⟨p',hu',hp,h | ⟨h,hc⟩⟩
   · have:=tJ t.shp hml hu; omega
   · have:i=p':=by rw [hu] at hu'; omega
     subst this
     rw [hk] at h; exact absurd h (by decide)
   · have:i=p':=by rw [hu] at hu'; omega
     subst this
     exact h5 m hml hu hc
/-! ### the first configuration -/
def dq (l:List Ev.Stat):List Int:=(List.range l.length).flatMap fun i=>if ((ETy.get .stat l i).depth==0)=true then cG l i else []
theorem sw (t:Tre l) (y:Int):y∈dq l↔∃ j:Nat,y=(j:Int)∧j<l.length∧∃ r,r<l.length∧dep l r=0∧Begun l r j:=by
 unfold dq
 rw [aG]
 constructor
 · rintro ⟨r,hr,hy⟩
   have hr':=bq.1 hr
   split at hy
   · rename_i h
     obtain ⟨j,e,hb⟩:=(ph t hr' y).1 hy
     exact ⟨j,e,(hb.lt t hr').1,r,hr',by simpa using h,hb⟩
   · cases hy
 · rintro ⟨j,e,hj,r,hr,hd,hb⟩
   refine ⟨r,bq.2 hr,?_⟩
   rw [if_pos (by simpa using (show (ETy.get .stat l r).depth=0 from hd))]
   exact (ph t hr y).2 ⟨j,e,hb⟩
theorem Iq (t:Tre l) {a b:Nat} (ha:a<l.length) (_hb:b<l.length) (hab:a<b) (h:dep l b=0):endM l a≤b:=by
 by_cases h1:endM l a≤b
 · exact h1
 · have h2:=fE l a b hab (by omega)
   have h3:=t.shp.lo a ha
   omega
theorem mI (t:Tre l):(dq l).Pairwise (· < ·):=by
 unfold dq
 rw [List.pairwise_flatMap]
 refine ⟨fun a ha=>?_,?_⟩
 · split
   · exact (fv t _ a (bq.1 ha)).1
   · exact .nil
 · refine List.Pairwise.imp_of_mem (fun {a b} ha hb hab x hx y hy=>?_) List.pairwise_lt_range
   have ha':=bq.1 ha
   have hb':=bq.1 hb
   split at hx
   · split at hy
     · rename_i _ h2
       have h3:=(fv t _ a ha').2 x hx
       have h4:=(fv t _ b hb').2 y hy
       have h5:=Iq t ha' hb' hab (by simpa using h2)
       omega
     · cases hy
   · cases hx
theorem xg (t:Tre l):Lgl l (dq l):=by
 refine Jn t (mI t) (fun j=>∃ r,r<l.length∧dep l r=0∧Begun l r j) (fun p q=>(ETy.get .stat l p).initial=(ETy.get .stat l q).name) (sw t) (fun p hp hk _=>?_) (fun j hj=>?_)
 · obtain ⟨q,_,h1,h2,h3,h4⟩:=t.init hp hk
   exact ⟨q,h1,h2,h4,h3.symm,fun m hm _ he=>pg t.names hm h1 (by rw [h3]; exact he.symm)⟩
 · constructor
   · rintro ⟨r,hr,hd,hb⟩
     cases hb with
     | self=>exact .inl hd
     | @step p _ h1 h2 h3=>exact .inr ⟨p,h3.1,⟨r,hr,hd,h1⟩,h3.2⟩
   · rintro (h | ⟨p,hu,⟨r,hr,hd,hb⟩,h⟩)
     · exact ⟨j,hj,h,.self⟩
     · exact ⟨r,hr,hd,.step hb hj ⟨hu,h⟩⟩
/-! ### regions -/
/-! ### leaves -/
def tn (l:List Ev.Stat) (i:Int):Bool:=(ETy.get .stat l i.toNat).kind==1||(ETy.get .stat l i.toNat).kind==4
def fJ (l:List Ev.Stat) (s:List Int):List Int:=s.filter fun i=>tn l i
end Go.Proofs.YtcopfgbbjdefbaaGreatDoor

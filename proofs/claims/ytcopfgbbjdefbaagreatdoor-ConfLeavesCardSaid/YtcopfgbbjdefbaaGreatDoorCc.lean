/- Legal configurations: the program's word and the document's are alike; what is chosen state by state is legal (plain). Conditions: a valid chart. Configurations that are legal: the first one, one by choices, two mixed; leaves (plain). Conditions: a valid chart. -/
import Derived.Test.YtcopfgbbjdefbaaGreatDoorCh
namespace Go.Proofs.YtcopfgbbjdefbaaGreatDoor
open Go Go.Ev
set_option maxRecDepth 100000
variable (s:List Int) (i:Int) {l:List Ev.Stat}
def inB:Bool:=s.any fun x=>x==i
def mQ (l:List Ev.Stat):Int→List Int→Bool
 | _,[]=>true
 | a,x::r=>if (decide (x≤a)||decide (x≥(l.length:Int))||a8 (ETy.get .stat l x.toNat).kind)=true then false else mQ l x r
def db (ks:List Int):Nat:=(ks.filter fun k=>inB s k).length
def iG (l:List Ev.Stat) (s:List Int) (i:Nat):Bool :=
 if ((ETy.get .stat l i).depth==0 && !inB s i||decide ((ETy.get .stat l i).depth>0)&&inB s i && !inB s (upM l i))=true then false
 else if (!inB s i||(ETy.get .stat l i).kind != 2&&(ETy.get .stat l i).kind != 3)=true then true
 else !((ETy.get .stat l i).kind==2&&(db s (bg l i):Int) != 1||(ETy.get .stat l i).kind==3&&(db s (bg l i):Int) != ((bg l i).length:Int))
def lQ (l:List Ev.Stat) (s:List Int):Nat→Nat→Bool
 | 0,_=>true
 | n+1,i=>iG l s i&&lQ l s n (i+1)
def bb (l:List Ev.Stat) (s:List Int):Bool:=mQ l (-1) s&&lQ l s l.length 0
def jz (l:List Ev.Stat) (s:List Int) (k:Nat):Bool:=!(decide (ETy.get .int s k<0)||decide (ETy.get .int s k≥(l.length:Int))||decide (0<k)&&decide (ETy.get .int s k≤ETy.get .int s (k - 1))) && !a8 (ETy.get .stat l (ETy.get .int s k).toNat).kind
def iT (l:List Ev.Stat) (s:List Int):Nat→Nat→Bool
 | 0,_=>true
 | n+1,k=>jz l s k&&iT l s n (k+1)
def fE (l:List Ev.Stat) (s:List Int) (i:Nat):Bool :=
 if ((ETy.get .stat l i).depth==0 && !inB s i)=true then false
 else if (!inB s i)=true then true
 else if (decide ((ETy.get .stat l i).depth>0) && !inB s (bB l i))=true then false
 else !((ETy.get .stat l i).kind==2&&(db s (bF l i l.length):Int) != 1||(ETy.get .stat l i).kind==3&&(db s (bF l i l.length):Int) != ((bF l i l.length).length:Int))
def mz (l:List Ev.Stat) (s:List Int):Nat→Nat→Bool
 | 0,_=>true
 | n+1,i=>fE l s i&&mz l s n (i+1)
def As (l:List Ev.Stat) (s:List Int):Bool:=iT l s s.length 0&&mz l s l.length 0
structure Lgl (l:List Ev.Stat) (s:List Int):Prop where
 inc:s.Pairwise (· < ·)
 rng:∀ x∈s,∃ i:Nat,x=(i:Int)∧i<l.length∧a8 (knd l i)=false
 root:∀ i,i<l.length→dep l i=0→(i:Int)∈s
 par:∀ i p:Nat,i<l.length→(i:Int)∈s→upM l i=(p:Int)→(p:Int)∈s
 one:∀ i,i<l.length→(i:Int)∈s→knd l i=2→∃ q:Nat,q<l.length∧upM l q=(i:Int)∧(q:Int)∈s∧∀ m:Nat,m<l.length→upM l m=(i:Int)→(m:Int)∈s→m=q
 both:∀ i,i<l.length→(i:Int)∈s→knd l i=3→∀ m:Nat,m<l.length→upM l m=(i:Int)→(m:Int)∈s
theorem gi:inB s i=true↔i∈s:=by
 unfold inB
 rw [bw]
 constructor
 · rintro ⟨x,hx,e⟩; rw [← eq_of_beq e]; exact hx
 · intro h; exact ⟨i,h,beq_self_eq_true _⟩
theorem xw {i:Nat} (hi:i<l.length):(bg l i).Pairwise (· < ·):=by
 have he:=(dY l hi).2
 have h:=(lV l (endM l i) l.length (i+1) he).1
 have hb:∀ n k,∀ y∈dD l (endM l i) n k,∃ m:Nat,y=(m:Int)∧m<l.length:=by
  intro n
  induction n with
  | zero=>intro k y hy; rw [dD] at hy; cases hy
  | succ n ih =>
    intro k y hy
    rw [dD] at hy
    split at hy
    · rcases aH.1 hy with rfl | hy
      · exact ⟨k,rfl,by omega⟩
      · exact ih _ y hy
    · cases hy
 refine List.Pairwise.imp_of_mem (fun {a b} ha _ hab=>?_) h
 obtain ⟨m,rfl,hm⟩:=hb _ _ a ha
 rw [ai] at hab
 have:=dY l hm
 omega
theorem mr (S:Shp l) {i:Nat} (hi:i<l.length):bg l i=bF l (i:Int) l.length:=by
 refine nC (xw hi) ?_ fun y=>?_
 · unfold bF; exact kW _ _
 · rw [ic S hi,nN S hi]
theorem JL {l:List Int} (hn:l.Pairwise (· < ·)):l.length=1↔∃ q,q∈l∧∀ m∈l,m=q:=by
 match l with
 | []=>simp
 | [a]=>simp
 | a::b::r =>
   rw [cO] at hn
   refine ⟨fun h=>by simp at h,fun ⟨q,_,h⟩=>?_⟩
   have h1:=h a (by simp)
   have h2:=h b (by simp)
   have:=hn.1 b (by simp)
   omega
theorem JV (S:Shp l) {i:Nat} (hi:i<l.length) (s:List Int):db s (bg l i)=1↔∃ q:Nat,q<l.length∧upM l q=(i:Int)∧(q:Int)∈s∧∀ m:Nat,m<l.length→upM l m=(i:Int)→(m:Int)∈s→m=q:=by
 unfold db
 rw [JL ((xw hi).filter _)]
 have hm:∀ y,y∈(bg l i).filter (fun k=>inB s k)↔∃ m:Nat,y=(m:Int)∧m<l.length∧upM l m=(i:Int)∧(m:Int)∈s:=fun y=>by
  rw [aB,ic S hi,gi]
  constructor
  · rintro ⟨⟨m,rfl,h1,h2⟩,h3⟩; exact ⟨m,rfl,h1,h2,h3⟩
  · rintro ⟨m,rfl,h1,h2,h3⟩; exact ⟨⟨m,rfl,h1,h2⟩,h3⟩
 constructor
 · rintro ⟨q,hq,h⟩
   obtain ⟨m,rfl,h1,h2,h3⟩:=(hm q).1 hq
   exact ⟨m,h1,h2,h3,fun m' a b c=>by have:=h (m':Int) ((hm _).2 ⟨m',rfl,a,b,c⟩); omega⟩
 · rintro ⟨q,h1,h2,h3,h⟩
   refine ⟨(q:Int),(hm _).2 ⟨q,rfl,h1,h2,h3⟩,fun y hy=>?_⟩
   obtain ⟨m,rfl,a,b,c⟩:=(hm y).1 hy
   rw [h m a b c]
theorem KV (S:Shp l) {i:Nat} (hi:i<l.length) (s:List Int):db s (bg l i)=(bg l i).length↔∀ m:Nat,m<l.length→upM l m=(i:Int)→(m:Int)∈s:=by
 unfold db
 rw [List.length_filter_eq_length_iff]
 constructor
 · intro h m h1 h2
   exact (gi _ _).1 (h (m:Int) ((ic S hi _).2 ⟨m,rfl,h1,h2⟩))
 · intro h y hy
   obtain ⟨m,rfl,h1,h2⟩:=(ic S hi y).1 hy
   exact (gi _ _).2 (h m h1 h2)
theorem E7 (S:Shp l) {i:Nat} (hd:dep l i>0):∃ p:Nat,upM l i=(p:Int)∧p<i:=by
 rcases qm l i with ⟨_,h⟩ | ⟨p,e,h,_⟩
 · by_cases h0:i=0
   · subst h0; have:=S.d0; omega
   · have:=h 0 (by omega); have:=S.d0; omega
 · exact ⟨p,e,h⟩
theorem vC (S:Shp l) {i p:Nat} (hi:i<l.length) (h:upM l i=(p:Int)):dep l i>0:=by
 have h1:=(De l i p).1 h
 have:=S.lo p (by omega)
 omega
structure Lg1 (l:List Ev.Stat) (s:List Int) (i:Nat):Prop where
 root:dep l i=0→(i:Int)∈s
 par:∀ p:Nat,(i:Int)∈s→upM l i=(p:Int)→(p:Int)∈s
 one:(i:Int)∈s→knd l i=2→∃ q:Nat,q<l.length∧upM l q=(i:Int)∧(q:Int)∈s∧∀ m:Nat,m<l.length→upM l m=(i:Int)→(m:Int)∈s→m=q
 both:(i:Int)∈s→knd l i=3→∀ m:Nat,m<l.length→upM l m=(i:Int)→(m:Int)∈s
theorem wK (S:Shp l) {i:Nat} (hi:i<l.length) (s:List Int):(!((ETy.get .stat l i).kind==2&&(db s (bg l i):Int) != 1||(ETy.get .stat l i).kind==3&&(db s (bg l i):Int) != ((bg l i).length:Int)))=true ↔
 (knd l i=2→∃ q:Nat,q<l.length∧upM l q=(i:Int)∧(q:Int)∈s∧∀ m:Nat,m<l.length→upM l m=(i:Int)→(m:Int)∈s→m=q)∧(knd l i=3→∀ m:Nat,m<l.length→upM l m=(i:Int)→(m:Int)∈s):=by
 rw [← JV S hi,← KV S hi]
 show _↔((ETy.get .stat l i).kind=2→_)∧((ETy.get .stat l i).kind=3→_)
 generalize (ETy.get .stat l i).kind=a
 generalize db s (bg l i)=b
 generalize (bg l i).length=d
 rw [aF,← b4]
 simp only [aM,af,bne_iff_ne,beq_iff_eq,ne_eq]
 omega
theorem Mk (S:Shp l) {i:Nat} (hi:i<l.length) (s:List Int):iG l s i=true↔Lg1 l s i:=by
 unfold iG
 have hlo:=S.lo i hi
 by_cases hin:(i:Int)∈s
 · rw [(gi s i).2 hin]
   simp only [bO,cz,a6,cW]
   by_cases hd:dep l i=0
   · have e:decide ((ETy.get .stat l i).depth>0)=false:=decide_eq_false (by show ¬dep l i>0; omega)
     rw [e,aR,if_neg (by decide)]
     by_cases hk:(ETy.get .stat l i).kind=2∨(ETy.get .stat l i).kind=3
     · rw [if_neg (by simp; omega),wK S hi]
       exact ⟨fun h=>⟨fun _=>hin,fun p _ hu=>by have:=vC S hi hu; omega,fun _=>h.1,fun _=>h.2⟩,fun h=>⟨h.one hin,h.both hin⟩⟩
     · rw [if_pos (by simp; omega)]
       exact ⟨fun _=>⟨fun _=>hin,fun p _ hu=>by have:=vC S hi hu; omega,fun _ h=>absurd (.inl h) hk,fun _ h=>absurd (.inr h) hk⟩,fun _=>rfl⟩
   · have e:decide ((ETy.get .stat l i).depth>0)=true:=decide_eq_true (by show dep l i>0; omega)
     obtain ⟨p,hp,_⟩:=E7 S (i:=i) (by omega)
     rw [e,aU,hp]
     by_cases hps:(p:Int)∈s
     · rw [(gi s p).2 hps,bO,if_neg (by decide)]
       have hpar:∀ p':Nat,(i:Int)∈s→upM l i=(p':Int)→(p':Int)∈s:=fun p' _ h=>by
        rw [hp] at h; rw [← h]; exact hps
       by_cases hk:(ETy.get .stat l i).kind=2∨(ETy.get .stat l i).kind=3
       · rw [if_neg (by simp; omega),wK S hi]
         exact ⟨fun h=>⟨fun _=>hin,hpar,fun _=>h.1,fun _=>h.2⟩,fun h=>⟨h.one hin,h.both hin⟩⟩
       · rw [if_pos (by simp; omega)]
         exact ⟨fun _=>⟨fun _=>hin,hpar,fun _ h=>absurd (.inl h) hk,fun _ h=>absurd (.inr h) hk⟩,fun _=>rfl⟩
     · have e2:inB s (p:Int)=false:=by
        cases h:inB s (p:Int)
        · rfl
        · exact absurd ((gi _ _).1 h) hps
       rw [e2,cA,if_pos rfl]
       exact ⟨fun h=>(by cases h),fun h=>absurd (h.par p hin hp) hps⟩
 · have e:inB s (i:Int)=false:=by
    cases h:inB s (i:Int)
    · rfl
    · exact absurd ((gi _ _).1 h) hin
   rw [e]
   simp only [cA,cW,cz,aR,bD,b6,if_true]
   by_cases hd:dep l i=0
   · rw [if_pos (by simpa using hd)]
     exact ⟨fun h=>(by cases h),fun h=>absurd (h.root hd) hin⟩
   · rw [if_neg (by simpa using hd)]
     exact ⟨fun _=>⟨fun h=>absurd h hd,fun _ h=>absurd h hin,fun h=>absurd h hin,fun h=>absurd h hin⟩,fun _=>rfl⟩
theorem Jc {l:List Ev.Stat} (S:Shp l) (s:List Int):∀ (n i:Nat),l.length - i=n→(lQ l s n i=true↔∀ j,i≤j→j<l.length→Lg1 l s j)
 | 0,i,hn=>by rw [lQ]; exact ⟨fun _ j h1 h2=>by omega,fun _=>rfl⟩
 | n+1,i,hn=>by
   rw [lQ,af,Mk S (by omega),Jc S s n (i+1) (by omega)]
   refine ⟨fun ⟨a,b⟩ j h1 h2=>?_,fun h=>⟨h i (ar _) (by omega),fun j h1 h2=>h j (by omega) h2⟩⟩
   by_cases hj:j=i
   · subst hj; exact a
   · exact b j (by omega) h2
theorem o5 (l:List Ev.Stat):∀ (s:List Int) (a:Int), -1≤a→(mQ l a s=true↔s.Pairwise (· < ·)∧∀ x∈s,a<x∧∃ i:Nat,x=(i:Int)∧i<l.length∧a8 (knd l i)=false)
 | [],a,_=>by rw [mQ]; exact ⟨fun _=>⟨.nil,fun x h=>(by cases h)⟩,fun _=>rfl⟩
 | x :: r, a,ha=>by
   rw [mQ]
   by_cases h1:x≤a
   · rw [decide_eq_true h1,b6,b6,if_pos rfl]
     exact ⟨fun h=>(by cases h),fun h=>by have:=(h.2 x az).1; omega⟩
   · by_cases h2:x≥(l.length:Int)
     · rw [decide_eq_true h2,Bool.or_true,b6,if_pos rfl]
       refine ⟨fun h=>(by cases h),fun h=>?_⟩
       obtain ⟨i,rfl,hi,_⟩:=(h.2 x az).2
       omega
     · rw [decide_eq_false h1,decide_eq_false h2,a6,a6]
       obtain ⟨i,rfl⟩:=aD (show 0≤x by omega)
       rw [ai]
       cases hp:a8 (ETy.get .stat l i).kind
       · rw [if_neg (by decide),o5 l r (i:Int) (by omega),cO]
         constructor
         · rintro ⟨h3,h4⟩
           refine ⟨⟨fun y hy=>(h4 y hy).1,h3⟩,fun y hy=>?_⟩
           rcases aH.1 hy with rfl | hy
           · exact ⟨by omega,i,rfl,by omega,hp⟩
           · have:=h4 y hy; exact ⟨by omega,this.2⟩
         · rintro ⟨⟨h3,h4⟩,h5⟩
           exact ⟨h4,fun y hy=>⟨h3 y hy,(h5 y (aJ _ hy)).2⟩⟩
       · rw [if_pos rfl]
         refine ⟨fun h=>(by cases h),fun h=>?_⟩
         obtain ⟨j,e,_,hj⟩:=(h.2 (i:Int) az).2
         have:i=j:=by omega
         subst this
         have hp':a8 (knd l i)=true:=hp
         rw [hp'] at hj; cases hj
theorem jF (S:Shp l) (s:List Int):bb l s=true↔Lgl l s:=by
 unfold bb
 rw [af,o5 l s (-1) (by omega),Jc S s l.length 0 (by omega)]
 constructor
 · rintro ⟨⟨h1,h2⟩,h3⟩
   exact ⟨h1,fun x hx=>(h2 x hx).2,fun i hi=>(h3 i (aT _) hi).root,fun i p hi=>(h3 i (aT _) hi).par p,fun i hi=>(h3 i (aT _) hi).one,fun i hi=>(h3 i (aT _) hi).both⟩
 · intro h
   refine ⟨⟨h.inc,fun x hx=>?_⟩,fun j _ hj=>⟨h.root j hj,fun p=>h.par j p hj,h.one j hj,h.both j hj⟩⟩
   have:=h.rng x hx
   obtain ⟨i,rfl,_⟩:=this
   exact ⟨by omega,h.rng _ hx⟩
theorem Kl (S:Shp l) {i:Nat} (hi:i<l.length) (s:List Int):fE l s i=iG l s i:=by
 unfold fE iG
 rw [gQ S hi,← mr S hi]
 have hlo:0≤(ETy.get .stat l i).depth:=S.lo i hi
 have hlast:((ETy.get .stat l i).kind != 2&&(ETy.get .stat l i).kind != 3)=true→(!((ETy.get .stat l i).kind==2&&(db s (bg l i):Int) != 1||(ETy.get .stat l i).kind==3&&(db s (bg l i):Int) != ((bg l i).length:Int)))=true:=fun h=>by
  simp only [af,bne_iff_ne,ne_eq] at h
  simp [h.1,h.2]
 cases hin:inB s (i:Int)
 · simp
 · simp only [bO,cz,a6,cW,eE,if_false]
   split
   · rfl
   · split
     · rename_i h; exact hlast h
     · rfl
theorem w7 {l:List Ev.Stat} (s:List Int):∀ (n k:Nat),s.length - k=n→(iT l s n k=true↔∀ j,k≤j→j<s.length→jz l s j=true)
 | 0,k,hn=>by rw [iT]; exact ⟨fun _ j h1 h2=>by omega,fun _=>rfl⟩
 | n+1,k,hn=>by
   rw [iT,af,w7 s n (k+1) (by omega)]
   refine ⟨fun ⟨a,b⟩ j h1 h2=>?_,fun h=>⟨h k (ar _) (by omega),fun j h1 h2=>h j (by omega) h2⟩⟩
   by_cases hj:j=k
   · subst hj; exact a
   · exact b j (by omega) h2
theorem AC {l:List Ev.Stat} (S:Shp l) (s:List Int):∀ (n i:Nat),l.length - i=n→mz l s n i=lQ l s n i
 | 0,_,_=>rfl
 | n+1,i,hn=>by rw [mz,lQ,Kl S (by omega),AC S s n (i+1) (by omega)]
theorem tS (l:List Ev.Stat) (s:List Int) (k:Nat) (hk:k<s.length):jz l s k=true↔((∃ i:Nat,s[k]=(i:Int)∧i<l.length∧a8 (knd l i)=false)∧(∀ h:0<k,s[k - 1]'(by omega)<s[k])):=by
 have e:ETy.get .int s k=s[k]:=ETy.get_eq (t:=.int) (List.getElem?_eq_getElem hk)
 have e1:ETy.get .int s (k - 1)=s[k - 1]'(by omega):=ETy.get_eq (t:=.int) (List.getElem?_eq_getElem (by omega))
 have key:∀ x y:Int,(!(decide (x<0)||decide (x≥(l.length:Int))||decide (0<k)&&decide (x≤y)) && !a8 (ETy.get .stat l x.toNat).kind)=true↔((∃ i:Nat,x=(i:Int)∧i<l.length∧a8 (knd l i)=false)∧(0<k→y<x)):=by
  intro x y
  rw [af,aF,aF,← b4]
  simp only [aM,af,decide_eq_true_eq]
  constructor
  · rintro ⟨h1,h2⟩
    obtain ⟨i,rfl⟩:=aD (show 0≤x by omega)
    rw [ai] at h2
    exact ⟨⟨i,rfl,by omega,h2⟩,fun h=>by omega⟩
  · rintro ⟨⟨i,rfl,h1,h2⟩,h3⟩
    rw [ai]
    refine ⟨fun h=>?_,h2⟩
    rcases h with (h | h) | ⟨h4,h5⟩
    · omega
    · omega
    · have:=h3 h4; omega
 unfold jz
 rw [e,e1]
 exact key _ _
theorem Lj (l:List Ev.Stat) (s:List Int):iT l s s.length 0=mQ l (-1) s:=by
 rw [bu,w7 s s.length 0 (by omega),o5 l s (-1) (by omega)]
 constructor
 · intro h
   have hk:=fun k (hk:k<s.length)=>(tS l s k hk).1 (h k (aT _) hk)
   constructor
   · rw [cq]
     intro i j hi hj hij
     obtain ⟨d,rfl⟩:∃ d,j=i+1+d:=⟨j - (i+1),by omega⟩
     clear hij
     induction d with
     | zero =>
       have:=(hk (i+1) hj).2 (by omega)
       simpa using this
     | succ d ih =>
       have h1:=ih (by omega)
       have h2:=(hk (i+1+(d+1)) hj).2 (by omega)
       have e:i+1+(d+1) - 1=i+1+d:=by omega
       simp only [e] at h2
       omega
   · intro x hx
     obtain ⟨k,hk',rfl⟩:=dU.1 hx
     obtain ⟨i,e,h1,h2⟩:=(hk k hk').1
     exact ⟨by omega,i,e,h1,h2⟩
 · rintro ⟨h1,h2⟩ j _ hj
   rw [cq] at h1
   exact (tS l s j hj).2 ⟨(h2 _ (bf hj)).2,fun h=>h1 (j - 1) j (by omega) hj (by omega)⟩
theorem Gu (S:Shp l) (s:List Int):As l s=bb l s:=by
 unfold As bb
 rw [Lj,AC S s l.length 0 (by omega)]
end Go.Proofs.YtcopfgbbjdefbaaGreatDoor
namespace Go.Proofs.YtcopfgbbjdefbaaGreatDoor
open Go Go.Ev
set_option maxRecDepth 100000
theorem vQ (l:List Ev.Stat):∀ (n k:Nat) (r q:Int),l.length - k=n→eG l n k r=some q→∀ j,k≤j→j<l.length→dep l j=0→knd l j=2
 | 0,k,r,q,hn,_,j,h1,h2,_=>by omega
 | n + 1,k,r,q,hn,h,j,h1,h2,h3=>by
   rw [eG] at h
   split at h
   · cases h
   · by_cases hj:j=k
     · subst hj
       rw [if_pos (by simpa using (show (ETy.get .stat l j).depth=0 from h3))] at h
       split at h
       · cases h
       · rename_i h4
         show (ETy.get .stat l j).kind=2
         simpa using h4
     · split at h
       · split at h
         · cases h
         · exact vQ l n (k+1) _ q (by omega) h j (by omega) h2 h3
       · exact vQ l n (k+1) _ q (by omega) h j (by omega) h2 h3
variable {l:List Ev.Stat}
theorem Tre.reg (t:Tre l) {i:Nat} (hi:i<l.length) (h:dep l i=0):knd l i=2:=by
 have h1:=t.right
 rw [mI] at h1
 unfold fD gJ at h1
 rw [af,af] at h1
 cases hq:eG l l.length 0 0 with
 | none=>rw [hq] at h1; exact absurd h1.1.2 (by decide)
 | some q=>exact vQ l l.length 0 0 q (by omega) hq i (aT _) hi h
theorem HR {k:Int} (h:k=2):a8 k=false:=by rw [h]; rfl
theorem LF (t:Tre l) {s:List Int} (hs:s.Pairwise (· < ·)) (I:Nat→Prop) (ch:Nat→Nat→Prop) (hm:∀ y,y∈s↔∃ j:Nat,y=(j:Int)∧j<l.length∧I j)
 (hch:∀ p,p<l.length→knd l p=2→I p→∃ q,q<l.length∧upM l q=(p:Int)∧a8 (knd l q)=false∧ch p q∧∀ m,m<l.length→upM l m=(p:Int)→ch p m→m=q)
 (hI:∀ j,j<l.length→(I j↔dep l j=0∨∃ p:Nat,upM l j=(p:Int)∧I p∧(knd l p=3∨(knd l p=2∧ch p j)))):Lgl l s:=by
 have mem:∀ j:Nat,(j:Int)∈s→j<l.length∧I j:=fun j h=>by
  obtain ⟨k,e,h1,h2⟩:=(hm _).1 h
  have:j=k:=by omega
  subst this; exact ⟨h1,h2⟩
 have put:∀ j:Nat,j<l.length→I j→(j:Int)∈s:=fun j h1 h2=>(hm _).2 ⟨j,rfl,h1,h2⟩
 have plt:∀ {j p:Nat},j<l.length→upM l j=(p:Int)→p<l.length:=fun {j p} hj h=>by
  have:=((fv t.shp hj).1 h).1; omega
 refine ⟨hs,fun x hx=>?_,fun i hi hd=>put i hi ((hI i hi).2 (.inl hd)),fun i p hi his hu=>?_,fun i hi his hk=>?_,fun i hi his hk m hml hu=>put m hml ((hI m hml).2 (.inr ⟨i,hu,(mem i his).2,.inl hk⟩))⟩
 · obtain ⟨j,rfl,hj,hIj⟩:=(hm x).1 hx
   refine ⟨j,rfl,hj,?_⟩
   rcases (hI j hj).1 hIj with h | ⟨p,hu,hp,h | ⟨h,hc⟩⟩
   · exact HR (t.reg hj h)
   · rcases t.both hj hu with h2 | ⟨_,h3⟩
     · rw [h] at h2; exact absurd h2 (by decide)
     · have h3':knd l j≤3:=h3
       cases hp:a8 (knd l j)
       · rfl
       · rcases (qn _).1 hp with h4 | h4 <;> omega
   · obtain ⟨q,_,_,hq3,_,hq5⟩:=hch p (plt hj hu) h hp
     rw [hq5 j hj hu hc]; exact hq3
 · rcases (hI i hi).1 (mem i his).2 with h | ⟨p',hu',hp,_⟩
   · have:=vC t.shp hi hu; omega
   · have:p=p':=by rw [hu] at hu'; omega
     subst this
     exact put p (plt hi hu) hp
 · obtain ⟨q,h1,h2,h3,h4,h5⟩:=hch i hi hk (mem i his).2
   refine ⟨q,h1,h2,put q h1 ((hI q h1).2 (.inr ⟨i,h2,(mem i his).2,.inr ⟨hk,h4⟩⟩)),fun m hml hu hms=>?_⟩
   rcases (hI m hml).1 (mem m hms).2 with h | ⟨p',hu',hp,h | ⟨h,hc⟩⟩
   · have:=vC t.shp hml hu; omega
   · have:i=p':=by rw [hu] at hu'; omega
     subst this
     rw [hk] at h; exact absurd h (by decide)
   · have:i=p':=by rw [hu] at hu'; omega
     subst this
     exact h5 m hml hu hc
/-! ### the first configuration -/
def gA (l:List Ev.Stat):List Int:=(List.range l.length).flatMap fun i=>if ((ETy.get .stat l i).depth==0)=true then dV l i else []
theorem FW (t:Tre l) (y:Int):y∈gA l↔∃ j:Nat,y=(j:Int)∧j<l.length∧∃ r,r<l.length∧dep l r=0∧Begun l r j:=by
 unfold gA
 rw [aK]
 constructor
 · rintro ⟨r,hr,hy⟩
   have hr':=bq.1 hr
   split at hy
   · rename_i h
     obtain ⟨j,e,hb⟩:=(w9 t hr' y).1 hy
     exact ⟨j,e,(hb.lt t hr').1,r,hr',by simpa using h,hb⟩
   · cases hy
 · rintro ⟨j,e,hj,r,hr,hd,hb⟩
   refine ⟨r,bq.2 hr,?_⟩
   rw [if_pos (by simpa using (show (ETy.get .stat l r).depth=0 from hd))]
   exact (w9 t hr y).2 ⟨j,e,hb⟩
theorem K4 (t:Tre l) {a b:Nat} (ha:a<l.length) (_hb:b<l.length) (hab:a<b) (h:dep l b=0):endM l a≤b:=by
 by_cases h1:endM l a≤b
 · exact h1
 · have h2:=fV l a b hab (by omega)
   have h3:=t.shp.lo a ha
   omega
theorem xZ (t:Tre l):(gA l).Pairwise (· < ·):=by
 unfold gA
 rw [List.pairwise_flatMap]
 refine ⟨fun a ha=>?_,?_⟩
 · split
   · exact (gd t _ a (bq.1 ha)).1
   · exact .nil
 · refine List.Pairwise.imp_of_mem (fun {a b} ha hb hab x hx y hy=>?_) List.pairwise_lt_range
   have ha':=bq.1 ha
   have hb':=bq.1 hb
   split at hx
   · split at hy
     · rename_i _ h2
       have h3:=(gd t _ a ha').2 x hx
       have h4:=(gd t _ b hb').2 y hy
       have h5:=K4 t ha' hb' hab (by simpa using h2)
       omega
     · cases hy
   · cases hx
/-! ### regions -/
/-! ### leaves -/
def ju (l:List Ev.Stat) (i:Int):Bool:=(ETy.get .stat l i.toNat).kind==1||(ETy.get .stat l i.toNat).kind==4
def cf (l:List Ev.Stat) (s:List Int):List Int:=s.filter fun i=>ju l i
theorem rR {l:List Ev.Stat} (t:Tre l) {s:List Int} (h:Lgl l s):∀ (n i:Nat),i<l.length→l.length - i≤n→(i:Int)∈s→∃ k:Nat,k<l.length∧(k:Int)∈s∧ju l (k:Int)=true∧(k=i∨(i<k∧k<endM l i))
 | 0,i,hi,hn,_=>by omega
 | n + 1,i,hi,hn,his=>by
   have down:∀ q,q<l.length→upM l q=(i:Int)→(q:Int)∈s→∃ k:Nat,k<l.length∧(k:Int)∈s∧ju l (k:Int)=true∧(k=i∨(i<k∧k<endM l i)):=fun q hq hu hqs=>by
    have hb:=(fv t.shp hq).1 hu
    obtain ⟨k,h1,h2,h3,h4⟩:=rR t h n q hq (by omega) hqs
    refine ⟨k,h1,h2,h3,.inr ?_⟩
    have hm:=qc l hi hb.1 hb.2.1
    omega
   obtain ⟨i',e,_,hp⟩:=h.rng _ his
   have:i=i':=by omega
   subst this
   have hk:=t.shp.k1 i hi
   have hk':1≤knd l i∧knd l i≤6:=hk
   have hnp:¬(knd l i=5∨knd l i=6):=fun h=>by rw [(qn _).2 h] at hp; cases hp
   by_cases h2:knd l i=2
   · obtain ⟨q,h3,h4,h5,_⟩:=h.one i hi his h2
     exact down q h3 h4 h5
   · by_cases h3:knd l i=3
     · obtain ⟨m,h4,h5,_⟩:=((jl t.shp hi).1 (sF t.right hi)).2 (.inr h3)
       exact down m h4 h5 (h.both i hi his h3 m h4 h5)
     · refine ⟨i,hi,his,?_,.inl rfl⟩
       unfold ju
       rw [ai,aM,beq_iff_eq,beq_iff_eq]
       show knd l i=1∨knd l i=4
       omega
theorem E4 {l:List Ev.Stat} (t:Tre l) {s:List Int} (h:Lgl l s) (i:Nat):∀ (n k:Nat),k<l.length→k≤n→(k:Int)∈s→i<k→k<endM l i→(i:Int)∈s
 | 0,k,_,hn,_,h1,_=>by omega
 | n+1,k,hk,hn,hks,h1,h2=>by
   obtain ⟨h3,h4⟩:=(qy l hk (by omega)).1 ⟨h1,h2⟩
   obtain ⟨p,hp⟩:=aD h3
   have hpk:=((fv t.shp hk).1 hp).1
   have hps:=h.par k p hk hks hp
   rcases h4 with h4 | h4
   · rw [← h4,hp]; exact hps
   · exact E4 t h i n p (by omega) (by omega) hps (by omega) (by omega)
theorem CL (t:Tre l) {s:List Int} (h:Lgl l s):((List.range l.length).filter fun i:Nat=>(cf l s).any fun k=>k==(i:Int)||dN l (i:Int) k.toNat).map (fun i:Nat=>(i:Int))=s:=by
 refine nC (kW _ _) h.inc fun y=>?_
 rw [aW]
 constructor
 · rintro ⟨i,hi,rfl⟩
   rw [aB,bq,bw] at hi
   obtain ⟨hi,k,hk,hb⟩:=hi
   unfold cf at hk
   have hks:=(aB.1 hk).1
   obtain ⟨k',rfl,hk',_⟩:=h.rng k hks
   rw [aM,ai,rX t.shp hk'] at hb
   rcases hb with hb | hb
   · rw [← eq_of_beq hb]; exact hks
   · simp only [af,decide_eq_true_eq] at hb
     exact E4 t h i _ k' hk' (ar _) hks hb.1 hb.2
 · intro hy
   obtain ⟨i,rfl,hi,_⟩:=h.rng y hy
   refine ⟨i,?_,rfl⟩
   rw [aB,bq,bw]
   obtain ⟨k,h1,h2,h3,h4⟩:=rR t h _ i hi (ar _) hy
   refine ⟨hi,(k:Int),aB.2 ⟨h2,h3⟩,?_⟩
   rw [aM,ai,rX t.shp h1]
   rcases h4 with rfl | ⟨h4,h5⟩
   · exact .inl (beq_self_eq_true _)
   · refine .inr ?_
     rw [decide_eq_true h4,decide_eq_true h5]; rfl
end Go.Proofs.YtcopfgbbjdefbaaGreatDoor

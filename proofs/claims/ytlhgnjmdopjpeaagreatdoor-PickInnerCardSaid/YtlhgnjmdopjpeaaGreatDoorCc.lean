/- Trees of states: domains, questions about Initial: the document's words and the program's are alike (plain). Conditions: none. What a state begins with: the program's walk down and the document's words are alike (plain). Conditions: a valid chart. Legal configurations: the program's word and the document's are alike; what is chosen state by state is legal (plain). Conditions: a valid chart. Configurations that are legal: the first one, one by choices, two mixed; leaves (plain). Conditions: a valid chart. -/
import Derived.Test.YtlhgnjmdopjpeaaGreatDoorSb
import Derived.Test.YtlhgnjmdopjpeaaGreatDoorSg
namespace Go.Proofs.YtlhgnjmdopjpeaaGreatDoor
open Go Go.Ev
set_option maxRecDepth 100000
variable{l:List Ev.Stat}
theorem kp(h:cn l=true):Shp l:=by
 rw[pL]at h
 unfold iw at h
 exact Kv (af _ _ ▸ h).1
theorem j8(h:cn l=true){i:Nat}(hi:i<l.length):cw l (i:Int)=true:=by
 unfold cw
 rw[h,decide_eq_true (show(0:Int)≤(i:Int)by omega),decide_eq_true (show(i:Int)<(l.length:Int)by omega)];rfl
theorem kI(h:cn l=true){i:Nat}(hi:i<l.length):c7 l (i:Int)=bq l i:=by
 unfold c7
 rw[j8 h hi,if_pos rfl,ai,ft (kp h) hi]
theorem EW(l:List Ev.Stat):∀(n:Nat) (k:Int),jm l (-1) n k=false
 |0,_=>rfl
 | n + 1,k=>by
   rw[jm]
   by_cases hk:k<0
   ·rw[if_pos hk]
   · rw[if_neg hk,if_neg (by
      have:¬k = -1:=by omega
      simpa using this)]
     exact EW l n _
theorem v7(h:cn l=true){i j:Nat}(hi:i<l.length)(hj:j<l.length):iR l (i:Int) (j:Int)=eO l (i:Int) j:=by
 rw[nv (kp h) hj]
 unfold iR
 rw[j8 h hi,j8 h hj,ai,aT]
 simp only[af,decide_eq_true_eq,true_and]
 omega
theorem HH(h:cn l=true){i j:Nat}(hj:j<l.length)(hi:i<l.length):iR l (bq l i) (j:Int)=eO l (bq l i) j:=by
 have hb:=mL l i
 by_cases h0:bq l i = -1
 · rw[h0]
   unfold eO
   rw[EW]
   unfold iR cw
   rw[decide_eq_false (show ¬(0:Int)≤-1 by omega)];simp
 · obtain⟨p,hp⟩:=aA (show 0≤bq l i by omega)
   rw[hp]
   exact v7 h (by omega) hj
theorem IW{l:List Ev.Stat}(S:Shp l){j:Nat}(hj:j<l.length):∀(n:Nat) (k:Int), -1≤k→k<(l.length:Int)→lY l j n k=iT l (j:Int) n k
 |0,_,_,_=>rfl
 | n + 1,k,h1,h2=>by
   rw[lY,iT]
   by_cases hk:k<0
   ·rw[if_pos hk,if_pos hk];omega
   · rw[if_neg hk,if_neg hk]
     obtain⟨m,rfl⟩:=aA (show 0≤k by omega)
     have hb:=mL l m
     rw[ai,nv S hj]
     have e:((ETy.get .stat l m).kind==2&&(decide (m<j)&&decide (j<endM l m)))=((ETy.get .stat l m).kind==2&&decide ((j:Int)>(m:Int))&&decide ((j:Int)<((endM l m:Nat):Int))):=by
      rw[Bool.and_assoc]
      congr 1
      rw[aT]
      simp only[af,decide_eq_true_eq]
      omega
     rw[e,←ft S (by omega),IW S hj n (bq l m) hb.1 (by omega)]
theorem Ek(h:cn l=true){i j:Nat}(hi:i<l.length)(hj:j<l.length):dh l (i:Int) (j:Int)=fO l i j:=by
 unfold dh fO
 rw[j8 h hi,j8 h hj,IW (kp h) hj _ _ (by omega) (by omega)];rfl
abbrev knd(l:List Ev.Stat)(k:Nat):Int:=(ETy.get .stat l k).kind
def Oo(l:List Ev.Stat)(p j:Nat):Prop:=upM l j=(p:Int)∧(knd l p=3∨(knd l p=2∧(ETy.get .stat l p).initial=(ETy.get .stat l j).name))
structure Tre (l:List Ev.Stat):Prop where
 right:cn l=true
 names:(l.map fun s:Ev.Stat=>s.name).Nodup
 inits:∀k,k<l.length→eg l k=0
theorem Valid.tre{c:Chart}(v:Valid c):Tre c.states:=⟨v.tree,v.states,v.inits⟩
variable{l:List Ev.Stat}
theorem Tre.shp(t:Tre l):Shp l:=kp t.right
theorem Tre.init(t:Tre l){k:Nat}(hk:k<l.length)(h2:knd l k=2):∃q:Nat,aF l (ETy.get .stat l k).initial=(q:Int)∧q<l.length∧upM l q=(k:Int)∧(ETy.get .stat l q).name=(ETy.get .stat l k).initial∧bg (knd l q)=false:=by
 have h0:=t.inits k hk
 unfold eg at h0
 have h2':(ETy.get .stat l k).kind=2:=h2
 rw[h2',if_neg (by decide)]at h0
 rcases mA l (ETy.get .stat l k).initial with⟨e,_⟩ |⟨q,e,hq,hn⟩
 · rw[e]at h0
   rw[show decide ((-1:Int)<0)=true by decide,b9,if_pos rfl]at h0
   exact absurd h0 (by decide)
 · rw[e,ai]at h0
   rw[decide_eq_false (by omega),bj]at h0
   cases hp:bg (ETy.get .stat l q).kind
   · rw[hp,if_neg (by decide),if_pos (by decide),lX (by decide),kI t.right hq,ft t.shp hq]at h0
     exact⟨q,e,hq,eq_of_beq h0,hn,hp⟩
   · rw[hp,if_pos rfl]at h0
     exact absurd h0 (by decide)
theorem sC(h:cn l=true){k:Nat}(hk:k<l.length):tH l k=true:=by
 unfold cn at h
 rw[af]at h
 exact(tY l l.length 0 (by omega)).1 h.2 k (aS _) hk
theorem Tre.both(t:Tre l){k m:Nat}(hm:m<l.length)(hu:upM l m=(k:Int)):knd l k=2∨(knd l k=3∧knd l m≤3):=by
 have hk:k<m:=((dY t.shp hm).1 hu).1
 exact((j5 t.shp (by omega)).1 (sC t.right (by omega))).1 m hm hu
theorem jd(l:List Ev.Stat){k q:Nat}(hk:k<l.length)(h1:k<q)(h2:q<endM l k):endM l q≤endM l k:=by
 have h3:=dV l hk
 have h4:=dV l (i:=q) (by omega)
 by_cases h:endM l q≤endM l k
 ·exact h
 · have h5:=iK l q (endM l k) h2 (by omega)
   have h6:=iK l k q h1 h2
   have h7:=BS l k (by omega)
   omega
theorem GH(t:Tre l){k:Nat}(hk:k<l.length){y:Int}(hy:y∈bB l k):∃m:Nat,y=(m:Int)∧m<l.length∧k<m∧m<endM l k∧upM l m=(k:Int):=by
 obtain⟨m,e,hm,hu⟩:=(gY t.shp hk y).1 hy
 have:=(dY t.shp hm).1 hu
 exact⟨m,e,hm,this.1,this.2.1,hu⟩
theorem og(l:List Ev.Stat)(e:Nat):∀n k,e≤l.length→(eL l e n k).Pairwise (fun x y=>((endM l x.toNat:Nat):Int)≤y)∧∀y∈eL l e n k,(k:Int)≤y
 |0,_,_=>by rw[eL];exact⟨.nil,fun y h=>(by cases h)⟩
 | n + 1,k,he=>by
   rw[eL]
   by_cases hk:k<e
   · rw[if_pos hk]
     have ih:=og l e n (endM l k) he
     have h1:=dV l (i:=k) (by omega)
     refine⟨cf.2 ⟨fun y hy=>by rw[ai];exact ih.2 y hy,ih.1⟩,fun y hy=>?_⟩
     rcases aI.1 hy with rfl |hy
     ·omega
     ·have:=ih.2 y hy;omega
   ·rw[if_neg hk];exact⟨.nil,fun y h=>(by cases h)⟩
inductive Begun (l:List Ev.Stat) (i:Nat):Nat→Prop where
 |self:Begun l i i
 |step {p j:Nat}:Begun l i p→j<l.length→Oo l p j→Begun l i j
theorem Begun.lt(t:Tre l){i j:Nat}(hi:i<l.length)(h:Begun l i j):j<l.length∧i≤j:=by
 induction h with
 |self=>exact⟨hi,av _⟩
 |step h1 h2 h3 ih=>exact⟨h2,by have:=((dY t.shp h2).1 h3.1).1;omega⟩
theorem Begun.head{i q j:Nat}(hq:q<l.length)(h:Oo l i q)(hb:Begun l q j):Begun l i j:=by
 induction hb with
 |self=>exact .step .self hq h
 |step _ h2 h3 ih=>exact .step ih h2 h3
theorem nY:∀{a b:List Int},a.Pairwise (· < ·)→b.Pairwise (· < ·)→(∀y,y∈a↔y∈b)→a=b
 |[],[],_,_,_=>rfl
 |[],y::b,_,_,h=>by have:=(h y).2 az;cases this
 |x::a,[],_,_,h=>by have:=(h x).1 az;cases this
 | x :: a,y::b,ha,hb,h=>by
   rw[cf]at ha hb
   have e:x=y:=by
    rcases aI.1 ((h x).1 az)with h1 |h1
    ·exact h1
    · rcases aI.1 ((h y).2 az)with h2 |h2
      ·exact h2.symm
      ·have:=hb.1 x h1;have:=ha.1 y h2;omega
   subst e
   rw[nY ha.2 hb.2 fun z=>⟨fun hz=>?_,fun hz=>?_⟩]
   · rcases aI.1 ((h z).1 (aD _ hz))with rfl |h2
     ·have:=ha.1 z hz;omega
     ·exact h2
   · rcases aI.1 ((h z).2 (aD _ hz))with rfl |h2
     ·have:=hb.1 z hz;omega
     ·exact h2
theorem kN(n:Nat)(p:Nat→Bool):(((List.range n).filter p).map fun j:Nat=>(j:Int)).Pairwise (· < ·):=by
 rw[List.pairwise_map]
 exact(List.pairwise_lt_range.filter p).imp fun h=>by omega
variable(s:List Int)(i:Int){l:List Ev.Stat}
def inB:Bool:=s.any fun x=>x==i
def qO(l:List Ev.Stat):Int→List Int→Bool
 |_,[]=>true
 |a,x::r=>if(decide (x≤a)||decide (x≥(l.length:Int))||bg (ETy.get .stat l x.toNat).kind)=true then false else qO l x r
def gB(ks:List Int):Nat:=(ks.filter fun k=>inB s k).length
def mv(l:List Ev.Stat)(s:List Int)(i:Nat):Bool :=
 if((ETy.get .stat l i).depth==0 && !inB s i||decide ((ETy.get .stat l i).depth>0)&&inB s i && !inB s (upM l i))=true then false
 else if(!inB s i||(ETy.get .stat l i).kind != 2&&(ETy.get .stat l i).kind != 3)=true then true
 else !((ETy.get .stat l i).kind==2&&(gB s (bB l i):Int) != 1||(ETy.get .stat l i).kind==3&&(gB s (bB l i):Int) != ((bB l i).length:Int))
def qW(l:List Ev.Stat)(s:List Int):Nat→Nat→Bool
 |0,_=>true
 |n+1,i=>mv l s i&&qW l s n (i+1)
def bw(l:List Ev.Stat)(s:List Int):Bool:=qO l (-1) s&&qW l s l.length 0
structure Lgl (l:List Ev.Stat) (s:List Int):Prop where
 inc:s.Pairwise (· < ·)
 rng:∀x∈s,∃i:Nat,x=(i:Int)∧i<l.length∧bg (knd l i)=false
 root:∀i,i<l.length→dep l i=0→(i:Int)∈s
 par:∀i p:Nat,i<l.length→(i:Int)∈s→upM l i=(p:Int)→(p:Int)∈s
 one:∀i,i<l.length→(i:Int)∈s→knd l i=2→∃q:Nat,q<l.length∧upM l q=(i:Int)∧(q:Int)∈s∧∀m:Nat,m<l.length→upM l m=(i:Int)→(m:Int)∈s→m=q
 both:∀i,i<l.length→(i:Int)∈s→knd l i=3→∀m:Nat,m<l.length→upM l m=(i:Int)→(m:Int)∈s
theorem cu:inB s i=true↔i∈s:=by
 unfold inB
 rw[bf]
 constructor
 ·rintro⟨x,hx,e⟩;rw[←eq_of_beq e];exact hx
 ·intro h;exact⟨i,h,beq_self_eq_true _⟩
theorem MA{i:Nat}(hi:i<l.length):(bB l i).Pairwise (· < ·):=by
 have he:=(dV l hi).2
 have h:=(og l (endM l i) l.length (i+1) he).1
 have hb:∀n k,∀y∈eL l (endM l i) n k,∃m:Nat,y=(m:Int)∧m<l.length:=by
  intro n
  induction n with
  |zero=>intro k y hy;rw[eL]at hy;cases hy
  | succ n ih =>
    intro k y hy
    rw[eL]at hy
    split at hy
    · rcases aI.1 hy with rfl |hy
      ·exact⟨k,rfl,by omega⟩
      ·exact ih _ y hy
    ·cases hy
 refine List.Pairwise.imp_of_mem (fun{a b} ha _ hab=>?_) h
 obtain⟨m,rfl,hm⟩:=hb _ _ a ha
 rw[ai]at hab
 have:=dV l hm
 omega
theorem Qo{l:List Int}(hn:l.Pairwise (· < ·)):l.length=1↔∃q,q∈l∧∀m∈l,m=q:=by
 match l with
 |[]=>simp
 |[a]=>simp
 | a::b::r =>
   rw[cf]at hn
   refine⟨fun h=>by simp at h,fun⟨q,_,h⟩=>?_⟩
   have h1:=h a (by simp)
   have h2:=h b (by simp)
   have:=hn.1 b (by simp)
   omega
theorem OY(S:Shp l){i:Nat}(hi:i<l.length)(s:List Int):gB s (bB l i)=1↔∃q:Nat,q<l.length∧upM l q=(i:Int)∧(q:Int)∈s∧∀m:Nat,m<l.length→upM l m=(i:Int)→(m:Int)∈s→m=q:=by
 unfold gB
 rw[Qo ((MA hi).filter _)]
 have hm:∀y,y∈(bB l i).filter (fun k=>inB s k)↔∃m:Nat,y=(m:Int)∧m<l.length∧upM l m=(i:Int)∧(m:Int)∈s:=fun y=>by
  rw[aH,gY S hi,cu]
  constructor
  ·rintro⟨⟨m,rfl,h1,h2⟩,h3⟩;exact⟨m,rfl,h1,h2,h3⟩
  ·rintro⟨m,rfl,h1,h2,h3⟩;exact⟨⟨m,rfl,h1,h2⟩,h3⟩
 constructor
 · rintro⟨q,hq,h⟩
   obtain⟨m,rfl,h1,h2,h3⟩:=(hm q).1 hq
   exact⟨m,h1,h2,h3,fun m' a b c=>by have:=h (m':Int) ((hm _).2 ⟨m',rfl,a,b,c⟩);omega⟩
 · rintro⟨q,h1,h2,h3,h⟩
   refine⟨(q:Int),(hm _).2 ⟨q,rfl,h1,h2,h3⟩,fun y hy=>?_⟩
   obtain⟨m,rfl,a,b,c⟩:=(hm y).1 hy
   rw[h m a b c]
theorem OX(S:Shp l){i:Nat}(hi:i<l.length)(s:List Int):gB s (bB l i)=(bB l i).length↔∀m:Nat,m<l.length→upM l m=(i:Int)→(m:Int)∈s:=by
 unfold gB
 rw[List.length_filter_eq_length_iff]
 constructor
 · intro h m h1 h2
   exact(cu _ _).1 (h (m:Int) ((gY S hi _).2 ⟨m,rfl,h1,h2⟩))
 · intro h y hy
   obtain⟨m,rfl,h1,h2⟩:=(gY S hi y).1 hy
   exact(cu _ _).2 (h m h1 h2)
theorem JD(S:Shp l){i:Nat}(hd:dep l i>0):∃p:Nat,upM l i=(p:Int)∧p<i:=by
 rcases jo l i with⟨_,h⟩ |⟨p,e,h,_⟩
 · by_cases h0:i=0
   ·subst h0;have:=S.d0;omega
   ·have:=h 0 (by omega);have:=S.d0;omega
 ·exact⟨p,e,h⟩
theorem AG(S:Shp l){i p:Nat}(hi:i<l.length)(h:upM l i=(p:Int)):dep l i>0:=by
 have h1:=(CZ l i p).1 h
 have:=S.lo p (by omega)
 omega
structure Lg1 (l:List Ev.Stat) (s:List Int) (i:Nat):Prop where
 root:dep l i=0→(i:Int)∈s
 par:∀p:Nat,(i:Int)∈s→upM l i=(p:Int)→(p:Int)∈s
 one:(i:Int)∈s→knd l i=2→∃q:Nat,q<l.length∧upM l q=(i:Int)∧(q:Int)∈s∧∀m:Nat,m<l.length→upM l m=(i:Int)→(m:Int)∈s→m=q
 both:(i:Int)∈s→knd l i=3→∀m:Nat,m<l.length→upM l m=(i:Int)→(m:Int)∈s
theorem Ca(S:Shp l){i:Nat}(hi:i<l.length)(s:List Int):(!((ETy.get .stat l i).kind==2&&(gB s (bB l i):Int) != 1||(ETy.get .stat l i).kind==3&&(gB s (bB l i):Int) != ((bB l i).length:Int)))=true ↔
 (knd l i=2→∃q:Nat,q<l.length∧upM l q=(i:Int)∧(q:Int)∈s∧∀m:Nat,m<l.length→upM l m=(i:Int)→(m:Int)∈s→m=q)∧(knd l i=3→∀m:Nat,m<l.length→upM l m=(i:Int)→(m:Int)∈s):=by
 rw[←OY S hi,←OX S hi]
 show _↔((ETy.get .stat l i).kind=2→_)∧((ETy.get .stat l i).kind=3→_)
 generalize (ETy.get .stat l i).kind=a
 generalize gB s (bB l i)=b
 generalize (bB l i).length=d
 rw[aK,←cG]
 simp only[aN,af,bne_iff_ne,beq_iff_eq,ne_eq]
 omega
theorem R2 (S:Shp l) {i:Nat} (hi:i<l.length) (s:List Int):mv l s i=true↔Lg1 l s i:=by
 unfold mv
 have hlo:=S.lo i hi
 by_cases hin:(i:Int)∈s
 · rw [(cu s i).2 hin]
   simp only[cq,df,bj,dF]
   by_cases hd:dep l i=0
   · have e:decide ((ETy.get .stat l i).depth>0)=false:=decide_eq_false (by show ¬dep l i>0;omega)
     rw[e,br,if_neg (by decide)]
     by_cases hk:(ETy.get .stat l i).kind=2∨(ETy.get .stat l i).kind=3
     · rw[if_neg (by simp;omega),Ca S hi]
       exact⟨fun h=>⟨fun _=>hin,fun p _ hu=>by have:=AG S hi hu;omega,fun _=>h.1,fun _=>h.2⟩,fun h=>⟨h.one hin,h.both hin⟩⟩
     · rw[if_pos (by simp;omega)]
       exact⟨fun _=>⟨fun _=>hin,fun p _ hu=>by have:=AG S hi hu;omega,fun _ h=>absurd (.inl h) hk,fun _ h=>absurd (.inr h) hk⟩,fun _=>rfl⟩
   · have e:decide ((ETy.get .stat l i).depth>0)=true:=decide_eq_true (by show dep l i>0;omega)
     obtain⟨p,hp,_⟩:=JD S (i:=i) (by omega)
     rw[e,bb,hp]
     by_cases hps:(p:Int)∈s
     · rw[(cu s p).2 hps,cq,if_neg (by decide)]
       have hpar:∀p':Nat,(i:Int)∈s→upM l i=(p':Int)→(p':Int)∈s:=fun p' _ h=>by
        rw[hp]at h;rw[←h];exact hps
       by_cases hk:(ETy.get .stat l i).kind=2∨(ETy.get .stat l i).kind=3
       · rw[if_neg (by simp;omega),Ca S hi]
         exact⟨fun h=>⟨fun _=>hin,hpar,fun _=>h.1,fun _=>h.2⟩,fun h=>⟨h.one hin,h.both hin⟩⟩
       · rw[if_pos (by simp;omega)]
         exact⟨fun _=>⟨fun _=>hin,hpar,fun _ h=>absurd (.inl h) hk,fun _ h=>absurd (.inr h) hk⟩,fun _=>rfl⟩
     · have e2:inB s (p:Int)=false:=by
        cases h:inB s (p:Int)
        ·rfl
        ·exact absurd ((cu _ _).1 h) hps
       rw[e2,cI,if_pos rfl]
       exact⟨fun h=>(by cases h),fun h=>absurd (h.par p hin hp) hps⟩
 · have e:inB s (i:Int)=false:=by
    cases h:inB s (i:Int)
    ·rfl
    ·exact absurd ((cu _ _).1 h) hin
   rw[e]
   simp only[cI,dF,df,br,bN,b9,if_true]
   by_cases hd:dep l i=0
   · rw[if_pos (by simpa using hd)]
     exact⟨fun h=>(by cases h),fun h=>absurd (h.root hd) hin⟩
   · rw[if_neg (by simpa using hd)]
     exact⟨fun _=>⟨fun h=>absurd h hd,fun _ h=>absurd h hin,fun h=>absurd h hin,fun h=>absurd h hin⟩,fun _=>rfl⟩
theorem OS{l:List Ev.Stat}(S:Shp l)(s:List Int):∀(n i:Nat),l.length - i=n→(qW l s n i=true↔∀j,i≤j→j<l.length→Lg1 l s j)
 |0,i,hn=>by rw[qW];exact⟨fun _ j h1 h2=>by omega,fun _=>rfl⟩
 | n+1,i,hn=>by
   rw[qW,af,R2 S (by omega),OS S s n (i+1) (by omega)]
   refine⟨fun⟨a,b⟩ j h1 h2=>?_,fun h=>⟨h i (av _) (by omega),fun j h1 h2=>h j (by omega) h2⟩⟩
   by_cases hj:j=i
   ·subst hj;exact a
   ·exact b j (by omega) h2
theorem wE(l:List Ev.Stat):∀(s:List Int) (a:Int), -1≤a→(qO l a s=true↔s.Pairwise (· < ·)∧∀x∈s,a<x∧∃i:Nat,x=(i:Int)∧i<l.length∧bg (knd l i)=false)
 |[],a,_=>by rw[qO];exact⟨fun _=>⟨.nil,fun x h=>(by cases h)⟩,fun _=>rfl⟩
 | x :: r, a,ha=>by
   rw[qO]
   by_cases h1:x≤a
   · rw[decide_eq_true h1,b9,b9,if_pos rfl]
     exact⟨fun h=>(by cases h),fun h=>by have:=(h.2 x az).1;omega⟩
   · by_cases h2:x≥(l.length:Int)
     · rw[decide_eq_true h2,Bool.or_true,b9,if_pos rfl]
       refine⟨fun h=>(by cases h),fun h=>?_⟩
       obtain⟨i,rfl,hi,_⟩:=(h.2 x az).2
       omega
     · rw [decide_eq_false h1,decide_eq_false h2,bj,bj]
       obtain⟨i,rfl⟩:=aA (show 0≤x by omega)
       rw[ai]
       cases hp:bg (ETy.get .stat l i).kind
       · rw[if_neg (by decide),wE l r (i:Int) (by omega),cf]
         constructor
         · rintro⟨h3,h4⟩
           refine⟨⟨fun y hy=>(h4 y hy).1,h3⟩,fun y hy=>?_⟩
           rcases aI.1 hy with rfl |hy
           ·exact⟨by omega,i,rfl,by omega,hp⟩
           ·have:=h4 y hy;exact⟨by omega,this.2⟩
         · rintro⟨⟨h3,h4⟩,h5⟩
           exact⟨h4,fun y hy=>⟨h3 y hy,(h5 y (aD _ hy)).2⟩⟩
       · rw[if_pos rfl]
         refine⟨fun h=>(by cases h),fun h=>?_⟩
         obtain⟨j,e,_,hj⟩:=(h.2 (i:Int) az).2
         have:i=j:=by omega
         subst this
         have hp':bg (knd l i)=true:=hp
         rw[hp']at hj;cases hj
theorem kj(S:Shp l)(s:List Int):bw l s=true↔Lgl l s:=by
 unfold bw
 rw[af,wE l s (-1) (by omega),OS S s l.length 0 (by omega)]
 constructor
 · rintro⟨⟨h1,h2⟩,h3⟩
   exact⟨h1,fun x hx=>(h2 x hx).2,fun i hi=>(h3 i (aS _) hi).root,fun i p hi=>(h3 i (aS _) hi).par p,fun i hi=>(h3 i (aS _) hi).one,fun i hi=>(h3 i (aS _) hi).both⟩
 · intro h
   refine⟨⟨h.inc,fun x hx=>?_⟩,fun j _ hj=>⟨h.root j hj,fun p=>h.par j p hj,h.one j hj,h.both j hj⟩⟩
   have:=h.rng x hx
   obtain⟨i,rfl,_⟩:=this
   exact⟨by omega,h.rng _ hx⟩
theorem CN(l:List Ev.Stat):∀(n k:Nat) (r q:Int),l.length - k=n→fP l n k r=some q→∀j,k≤j→j<l.length→dep l j=0→knd l j=2
 |0,k,r,q,hn,_,j,h1,h2,_=>by omega
 | n + 1,k,r,q,hn,h,j,h1,h2,h3=>by
   rw[fP]at h
   split at h
   ·cases h
   · by_cases hj:j=k
     · subst hj
       rw[if_pos (by simpa using(show(ETy.get .stat l j).depth=0 from h3))]at h
       split at h
       ·cases h
       · rename_i h4
         show(ETy.get .stat l j).kind=2
         simpa using h4
     · split at h
       · split at h
         ·cases h
         ·exact CN l n (k+1) _ q (by omega) h j (by omega) h2 h3
       ·exact CN l n (k+1) _ q (by omega) h j (by omega) h2 h3
theorem Tre.reg{l:List Ev.Stat}(t:Tre l){i:Nat}(hi:i<l.length)(h:dep l i=0):knd l i=2:=by
 have h1:=t.right
 rw[pL]at h1
 unfold iw jC at h1
 rw[af,af]at h1
 cases hq:fP l l.length 0 0 with
 |none=>rw[hq]at h1;exact absurd h1.1.2 (by decide)
 |some q=>exact CN l l.length 0 0 q (by omega) hq i (aS _) hi h
theorem Of{k:Int}(h:k=2):bg k=false:=by rw[h];rfl
theorem R3{l:List Ev.Stat}(t:Tre l){s:List Int}(hs:s.Pairwise (· < ·))(I:Nat→Prop)(ch:Nat→Nat→Prop)(hm:∀y,y∈s↔∃j:Nat,y=(j:Int)∧j<l.length∧I j)
 (hch:∀p,p<l.length→knd l p=2→I p→∃q,q<l.length∧upM l q=(p:Int)∧bg (knd l q)=false∧ch p q∧∀m,m<l.length→upM l m=(p:Int)→ch p m→m=q)
 (hI:∀j,j<l.length→(I j↔dep l j=0∨∃p:Nat,upM l j=(p:Int)∧I p∧(knd l p=3∨(knd l p=2∧ch p j)))):Lgl l s:=by
 have mem:∀j:Nat,(j:Int)∈s→j<l.length∧I j:=fun j h=>by
  obtain⟨k,e,h1,h2⟩:=(hm _).1 h
  have:j=k:=by omega
  subst this;exact⟨h1,h2⟩
 have put:∀j:Nat,j<l.length→I j→(j:Int)∈s:=fun j h1 h2=>(hm _).2 ⟨j,rfl,h1,h2⟩
 have plt:∀{j p:Nat},j<l.length→upM l j=(p:Int)→p<l.length:=fun{j p} hj h=>by
  have:=((dY t.shp hj).1 h).1;omega
 refine⟨hs,fun x hx=>?_,fun i hi hd=>put i hi ((hI i hi).2 (.inl hd)),fun i p hi his hu=>?_,fun i hi his hk=>?_,fun i hi his hk m hml hu=>put m hml ((hI m hml).2 (.inr ⟨i,hu,(mem i his).2,.inl hk⟩))⟩
 · obtain⟨j,rfl,hj,hIj⟩:=(hm x).1 hx
   refine⟨j,rfl,hj,?_⟩
   rcases(hI j hj).1 hIj with h |⟨p,hu,hp,h |⟨h,hc⟩⟩
   ·exact Of (t.reg hj h)
   · rcases t.both hj hu with h2 |⟨_,h3⟩
     ·rw[h]at h2;exact absurd h2 (by decide)
     · have h3':knd l j≤3:=h3
       cases hp:bg (knd l j)
       ·rfl
       ·rcases(tJ _).1 hp with h4 |h4 <;> omega
   · obtain⟨q,_,_,hq3,_,hq5⟩:=hch p (plt hj hu) h hp
     rw[hq5 j hj hu hc];exact hq3
 · rcases(hI i hi).1 (mem i his).2 with h |⟨p',hu',hp,_⟩
   ·have:=AG t.shp hi hu;omega
   · have:p=p':=by rw[hu]at hu';omega
     subst this
     exact put p (plt hi hu) hp
 · obtain⟨q,h1,h2,h3,h4,h5⟩:=hch i hi hk (mem i his).2
   refine⟨q,h1,h2,put q h1 ((hI q h1).2 (.inr ⟨i,h2,(mem i his).2,.inr ⟨hk,h4⟩⟩)),fun m hml hu hms=>?_⟩
   rcases(hI m hml).1 (mem m hms).2 with h |⟨p',hu',hp,h |⟨h,hc⟩⟩
   ·have:=AG t.shp hml hu;omega
   · have:i=p':=by rw[hu]at hu';omega
     subst this
     rw[hk]at h;exact absurd h (by decide)
   · have:i=p':=by rw[hu]at hu';omega
     subst this
     exact h5 m hml hu hc
/-! ### the first configuration -/
/-! ### regions -/
/-! ### leaves -/
def gJ(l:List Ev.Stat)(i:Int):Bool:=(ETy.get .stat l i.toNat).kind==1||(ETy.get .stat l i.toNat).kind==4
def aR(l:List Ev.Stat)(s:List Int):List Int:=s.filter fun i=>gJ l i
theorem mu{l:List Ev.Stat}(t:Tre l){s:List Int}(h:Lgl l s):∀(n i:Nat),i<l.length→l.length - i≤n→(i:Int)∈s→∃k:Nat,k<l.length∧(k:Int)∈s∧gJ l (k:Int)=true∧(k=i∨(i<k∧k<endM l i))
 |0,i,hi,hn,_=>by omega
 | n + 1,i,hi,hn,his=>by
   have down:∀q,q<l.length→upM l q=(i:Int)→(q:Int)∈s→∃k:Nat,k<l.length∧(k:Int)∈s∧gJ l (k:Int)=true∧(k=i∨(i<k∧k<endM l i)):=fun q hq hu hqs=>by
    have hb:=(dY t.shp hq).1 hu
    obtain⟨k,h1,h2,h3,h4⟩:=mu t h n q hq (by omega) hqs
    refine⟨k,h1,h2,h3,.inr ?_⟩
    have hm:=jd l hi hb.1 hb.2.1
    omega
   obtain⟨i',e,_,hp⟩:=h.rng _ his
   have:i=i':=by omega
   subst this
   have hk:=t.shp.k1 i hi
   have hk':1≤knd l i∧knd l i≤6:=hk
   have hnp:¬(knd l i=5∨knd l i=6):=fun h=>by rw[(tJ _).2 h]at hp;cases hp
   by_cases h2:knd l i=2
   · obtain⟨q,h3,h4,h5,_⟩:=h.one i hi his h2
     exact down q h3 h4 h5
   · by_cases h3:knd l i=3
     · obtain⟨m,h4,h5,_⟩:=((j5 t.shp hi).1 (sC t.right hi)).2 (.inr h3)
       exact down m h4 h5 (h.both i hi his h3 m h4 h5)
     · refine⟨i,hi,his,?_,.inl rfl⟩
       unfold gJ
       rw[ai,aN,beq_iff_eq,beq_iff_eq]
       show knd l i=1∨knd l i=4
       omega
theorem HL{l:List Ev.Stat}(t:Tre l){s:List Int}(h:Lgl l s)(i:Nat):∀(n k:Nat),k<l.length→k≤n→(k:Int)∈s→i<k→k<endM l i→(i:Int)∈s
 |0,k,_,hn,_,h1,_=>by omega
 | n+1,k,hk,hn,hks,h1,h2=>by
   obtain⟨h3,h4⟩:=(nw l hk (by omega)).1 ⟨h1,h2⟩
   obtain⟨p,hp⟩:=aA h3
   have hpk:=((dY t.shp hk).1 hp).1
   have hps:=h.par k p hk hks hp
   rcases h4 with h4 |h4
   ·rw[←h4,hp];exact hps
   ·exact HL t h i n p (by omega) (by omega) hps (by omega) (by omega)
end Go.Proofs.YtlhgnjmdopjpeaaGreatDoor

/- Contracts: the document's layer 10: what a state begins with. Conditions: sizes. A configuration by choices is legal; which states are over (plain). Conditions: a valid chart. What is entered from a state down, by a choice of children: the program's walk down and the document's words are alike (plain). Conditions: a right tree. -/
import Derived.Test.YtgfifkhbfdacjaaGreatDoorNh
import Derived.Test.YtgfifkhbfdacjaaGreatDoorSk
import Derived.Test.YtgfifkhbfdacjaaGreatDoorSn
namespace Go.Proofs.YtgfifkhbfdacjaaGreatDoor
open Go Go.Ev
set_option maxRecDepth 100000
/-! ### Begin, of a place that is no history's -/
/-! ### Right -/
def ET:Cfg:=⟨aW,[pR]⟩
theorem Fv:ag Tryz.prog ET.tab:=(ag.cons B0 ag.nil)
theorem vu (c:Chart) (hb:∀ s∈c.states,s.entry.length≤4398046511104∧s.leave.length≤4398046511104):ah Tryz.prog 10 [.e .chart c] [] (.x (.b (bF c==0))) []:=by
 refine dg Fv Tryz.func10 (.need (∀ (s:ETy.den .stat),s∈c.states→s.entry.length≤4398046511104∧s.leave.length≤4398046511104) (.ret (.p (.bool (bF c==(0:Int)))) [])) fun Γ=>?_
 exact ⟨hb,rfl,rfl⟩
def lC:Ent:=(10,fun
 | [.agg [.pd (.str a),.pd (.lst .str b),.pd (.lst .var c),.pd (.lst .stat d),.pd (.lst .tran e)]],[]=>some (some (∀ s∈d,s.entry.length≤4398046511104∧s.leave.length≤4398046511104),.x (.c (.pd (.bool (bF ⟨a,b,c,d,e⟩==0)))),[])
 | _,_=>none)
theorem xu:EntOk Tryz.prog lC:=entOk fun vs ck=>by
 unfold lC; dsimp only; split
 · rename_i a b c d e; exact entS fun hp=>vu ⟨a,b,c,d,e⟩ hp
 · exact entN
/-! ### lists of places -/
abbrev zNk1:List PI:=[.code [1,1,0,1,0,0],.inLoop [1,1,0,1,0,0],.inBlock 0,.code [1,1,1]]
variable (a l b:List Int) (m:Int) (Γ:Ctx)
theorem J5 (hl:a.length≤maxLen) (hab:a.length=b.length):∀ (n k:Nat),a.length - k≤n→k≤a.length →
 J Tryz.prog 16 (av Tryz.f16) Γ (Eq2 (.x (.b (a.drop k==b.drop k))) []) zNk1 ({ n:=26,fr:=[(0,.p (.lst .int a)),(1,.p (.lst .int b)),(4,.p (.bool false)),(5,.i k)],ck:=[],kn:=[4] }):=by
 intro n
 induction n with
 | zero=>?_
 | succ n ih=>?_
 all_goals
  intro k hn hk
  refine jg aY Tryz.func16 (.ite (decide ((k:Int)<(a.length:Int))) (.need (inRg k a.length) (.need (inRg k b.length) (.ite (ETy.get .int a k != ETy.get .int b k) (.ret (.p (.bool false)) []) (.stop zNk1 { n:=26,fr:=[(0,.p (.lst .int a)),(1,.p (.lst .int b)),(4,.p (.bool false)),(5,.i (IntKind.wrap .i64 ((k:Int)+1)))],ck:=[] })))) (.ret (.p (.bool true)) [])) ?_
  refine ⟨fun hlt=>?_,fun hge=>?_⟩
  · have hk':k<a.length:=by have:=of_decide_eq_true hlt; omega
    rw [br (t:=.int) (l:=a) hk']
    generalize ETy.get .int a k=v
    rw [br (t:=.int) (l:=b) (by omega)]
    refine ⟨⟨by omega,by omega⟩,⟨by omega,by omega⟩,?_⟩
    generalize ETy.get .int b k=u
    refine ⟨fun hb=>⟨?_,rfl⟩,fun hb=>?_⟩
    · have hb':(v==u)=false:=nt hb
      rw [eS,hb',ba]
    · have hb':(v==u)=true:=nf hb
      rw [eS,hb',aX]; (rw [aU (aB hk' hl)]; first | (exfalso; omega) | exact J.kn [4] (ih (k+1) (by omega) (by omega)))
  · rw [bE (l:=a) (by have:=of_decide_eq_false hge; omega)]
    rw [bE (l:=b) (by have:=of_decide_eq_false hge; omega)]; exact ⟨rfl,rfl⟩
theorem Ai:ah Tryz.prog 16 [.l .int a,.l .int b] [] (.x (.b (a==b))) []:=by
 refine dg aY Tryz.func16 (.ite ((a.length:Int) != (b.length:Int)) (.ret (.p (.bool false)) []) (.stop zNk1 { n:=26,fr:=[(0,.p (.lst .int a)),(1,.p (.lst .int b)),(4,.p (.bool false)),(5,.i 0)],ck:=[],kn:=[4] })) fun Γ=>?_
 refine ⟨fun h=>?_,fun h=>?_⟩
 · have hne:a.length≠b.length:=by
    have:(a.length:Int)≠b.length:=by simpa using h
    omega
   rw [show (a==b)=false from by rw [beq_eq_false_iff_ne]; exact fun e=>hne (by rw [e])]; exact ⟨rfl,rfl⟩
 · have hab:a.length=b.length:=by
    have:(a.length:Int)=b.length:=by simpa using h
    omega
   exact J.len 0 rfl fun hl=>J5 a b Γ hl hab a.length 0 (by omega) (by omega)
def n5:Ent:=(16,fun
 | [.c (.pd (.lst .int a)),.c (.pd (.lst .int b))],[]=>some (none,.x (.c (.pd (.bool (a==b)))),[])
 | _,_=>none)
theorem uM:EntOk Tryz.prog n5:=entOk fun vs ck=>by
 unfold n5; dsimp only; split
 · rename_i a b; exact entS fun hp=>Ai a b
 · exact entN
abbrev zNk2:List PI:=[.code [1,0,1,0,0],.inLoop [1,0,1,0,0],.inBlock 0,.code [1,1]]
theorem JB (hl:l.length≤maxLen)  : ∀ (n k:Nat),l.length - k≤n→k≤l.length →
 J Tryz.prog 22 (av Tryz.f22) Γ (Eq2 (.x (.b (inB (l.drop k) m))) []) zNk2 ({ n:=18,fr:=[(0,.p (.lst .int l)),(1,.i m),(4,.p (.bool false)),(5,.i k)],ck:=[],kn:=[4] }):=by
 intro n
 induction n with
 | zero=>?_
 | succ n ih=>?_
 all_goals
  intro k hn hk
  refine jg aY Tryz.func22 (.ite (decide ((k:Int)<(l.length:Int))) (.need (inRg k l.length) (.ite (ETy.get .int l k==m) (.ret (.p (.bool true)) []) (.stop zNk2 { n:=18,fr:=[(0,.p (.lst .int l)),(1,.i m),(4,.p (.bool false)),(5,.i (IntKind.wrap .i64 ((k:Int)+1)))],ck:=[],kn:=[4] }))) (.ret (.p (.bool false)) [])) ?_
  refine ⟨fun hlt=>?_,fun hge=>?_⟩
  · have hk':k<l.length:=by have:=of_decide_eq_true hlt; omega
    rw [br (t:=.int) (l:=l) hk']
    refine ⟨by omega,?_⟩
    generalize ETy.get .int l k=v
    refine ⟨fun hb=>⟨?_,rfl⟩,fun hb=>?_⟩
    · have hb':(v==m)=true:=hb
      unfold inB; rw [cE,hb']; rfl
    · have hb':(v==m)=false:=hb
      unfold inB; rw [cE,hb',a7]; (rw [aU (aB hk' hl)]; first | (exfalso; omega) | exact ih (k+1) (by omega) (by omega) | exact J.kn [4] (ih (k+1) (by omega) (by omega)))
  · rw [bE (l:=l) (by have:=of_decide_eq_false hge; omega)]
    exact ⟨rfl,rfl⟩
theorem Kn:ah Tryz.prog 22 [.l .int (l),.i (m)] [] (.x (.b (inB l m))) []:=by
 refine dg aY Tryz.func22 (.stop zNk2 { n:=18,fr:=[(0,.p (.lst .int l)),(1,.i m),(4,.p (.bool false)),(5,.i 0)],ck:=[],kn:=[4] }) fun Γ=>?_
 exact J.len 0 rfl fun hl=>JB l m Γ hl l.length 0 (by omega) (by omega)
def tu:Ent:=(22,fun
 | [.c (.pd (.lst .int l)),.c (.pd (.int .i64 m))],[]=>some (none,.x (.c (.pd (.bool (inB l m)))),[])
 | _,_=>none)
theorem tw:EntOk Tryz.prog tu:=entOk fun vs ck=>by
 unfold tu; dsimp only; split
 · rename_i l m; exact entS fun hp=>Kn l m
 · exact entN
end Go.Proofs.YtgfifkhbfdacjaaGreatDoor
namespace Go.Proofs.YtgfifkhbfdacjaaGreatDoor
open Go Go.Ev
set_option maxRecDepth 100000
variable (l:List Ev.Stat) (a:List Bool) (i j:Nat)
def ic:List Int:=(cw l (i:Int) l.length).filter fun y=>!aM (ETy.get .stat l y.toNat).kind
def gE:List Bool→List Int→List Bool
 | a,[]=>a
 | a,y::r=>gE (a.set y.toNat true) r
def gb:List Bool:=if ((ETy.get .stat l i).depth==0)=true then a.set i true else a
def gl (l:List Ev.Stat) (ch:Nat→Int→Int):Nat→Nat→List Bool→Int→List Bool
 | 0,_,a,_=>a
 | f+1,i,a,n =>
   if (!(gb l a i).getD i false)=true then gl l ch f (i+1) (gb l a i) n
   else if ((ETy.get .stat l i).kind==3)=true then gl l ch f (i+1) (gE (gb l a i) (ic l i)) n
   else if ((ETy.get .stat l i).kind==2)=true then gl l ch f (i+1) ((gb l a i).set (ch i n).toNat true) (IntKind.wrap .i64 (n+1))
   else gl l ch f (i+1) (gb l a i) n
def yv (ch:Nat→Int→Int):List Bool:=gl l ch l.length 0 (List.replicate l.length false) 0
def gB (ch:Nat→Int→Int):List Int:=((List.range l.length).filter fun i=>(yv l ch).getD i false).map fun i:Nat=>(i:Int)
def tf (ch:Nat→Int→Int):Prop:=∀ (i:Nat) (n:Int),i<l.length→knd l i=2→∃ q:Nat,ch i n=(q:Int)∧q<l.length∧upM l q=(i:Int)∧aM (knd l q)=false
theorem m9 {l:List Ev.Stat} (S:Shp l) {i:Nat} (hi:i<l.length) (y:Int):y∈ic l i↔∃ m:Nat,y=(m:Int)∧m<l.length∧upM l m=(i:Int)∧aM (knd l m)=false:=by
 unfold ic
 rw [aA,n2 S hi]
 constructor
 · rintro ⟨⟨m,rfl,h1,h2⟩,h3⟩
   rw [ai] at h3
   exact ⟨m,rfl,h1,h2,by simpa using h3⟩
 · rintro ⟨m,rfl,h1,h2,h3⟩
   refine ⟨⟨m,rfl,h1,h2⟩,?_⟩
   rw [ai]
   have h3':aM (ETy.get .stat l m).kind=false:=h3
   rw [h3']; rfl
theorem wN {l:List Ev.Stat} (t:Tre l) {i:Nat} (hi:i<l.length) (hk:knd l i=2∨knd l i=3):0<(ic l i).length:=by
 obtain ⟨m,h1,h2,h3⟩:=((jF t.shp hi).1 (tF t.right hi)).2 hk
 exact List.length_pos_of_mem ((m9 t.shp hi _).2 ⟨m,rfl,h1,h2,h3⟩)
theorem nK:(a.set i true).getD j false=(a.getD j false||(decide (j=i)&&decide (j<a.length))):=by
 rw [List.getD_eq_getElem?_getD,List.getD_eq_getElem?_getD,List.getElem?_set]
 by_cases h:i=j
 · subst h
   rw [if_pos rfl]
   by_cases h2:i<a.length
   · rw [if_pos h2]; simp [h2]
   · rw [if_neg h2]; simp [h2]
 · rw [if_neg h,decide_eq_false (fun e=>h e.symm)]; simp
theorem kK:∀ (r:List Int) (a:List Bool) (j:Nat),(gE a r).length=a.length∧(gE a r).getD j false=(a.getD j false||(r.any (fun y=>decide (j=y.toNat))&&decide (j<a.length)))
 | [],a,j=>by simp [gE]
 | y::r,a,j=>by
   have ih:=kK r (a.set y.toNat true) j
   rw [bu] at ih
   refine ⟨ih.1,?_⟩
   rw [gE,ih.2,nK,cE]
   cases a.getD j false <;> cases decide (j=y.toNat) <;> cases decide (j<a.length) <;> simp
structure Mrk (l:List Ev.Stat) (c:Nat→Nat) (i:Nat) (a:List Bool):Prop where
 len:a.length=l.length
 real:∀ p,p<i→p<l.length→knd l p=2→a.getD p false=true→c p<l.length∧upM l (c p)=(p:Int)∧aM (knd l (c p))=false
 on:∀ j,j<l.length→(a.getD j false=true↔(dep l j=0∧j<i)∨∃ p,p<i∧upM l j=(p:Int)∧a.getD p false=true∧(knd l p=3∨(knd l p=2∧c p=j)))
theorem Kh (hi:i<a.length):(gb l a i).length=a.length∧((gb l a i).getD j false=true↔a.getD j false=true∨(j=i∧dep l i=0)):=by
 unfold gb
 by_cases h:dep l i=0
 · rw [if_pos (by simpa using (show (ETy.get .stat l i).depth=0 from h)),bu,nK]
   refine ⟨rfl,?_⟩
   rw [aL,af,decide_eq_true_eq,decide_eq_true_eq]
   exact ⟨fun h2=>h2.imp id fun h3=>⟨h3.1,h⟩,fun h2=>h2.imp id fun h3=>⟨h3.1,by omega⟩⟩
 · rw [if_neg (by simpa using (show ¬(ETy.get .stat l i).depth=0 from h))]
   exact ⟨rfl,⟨.inl,fun h2=>h2.elim id fun h3=>absurd h3.2 h⟩⟩
theorem ni {l:List Ev.Stat} (t:Tre l) {c c':Nat→Nat} {i:Nat} (hi:i<l.length) {a b:List Bool} (h:Mrk l c i a) (hlen:b.length=l.length) (hc:∀ p,p<i→c' p=c p) (N:Nat→Prop)
 (hb:∀ j,j<l.length→(b.getD j false=true↔(a.getD j false=true∨(j=i∧dep l i=0))∨N j))
 (hN:∀ j,j<l.length→(N j↔((a.getD i false=true∨dep l i=0)∧upM l j=(i:Int)∧(knd l i=3∨(knd l i=2∧c' i=j)))))
 (hr:(a.getD i false=true∨dep l i=0)→knd l i=2→c' i<l.length∧upM l (c' i)=(i:Int)∧aM (knd l (c' i))=false):Mrk l c' (i+1) b:=by
 have hlt:∀ {j:Nat},j<l.length→upM l j=(i:Int)→i<j:=fun {j} hj hu=>((cV t.shp hj).1 hu).1
 have nb:∀ p,p≤i→¬N p:=fun p hp hn=>by
  have:=hlt (by omega) ((hN p (by omega)).1 hn).2.1; omega
 have hbp:∀ p,p<i→(b.getD p false=true↔a.getD p false=true):=fun p hp=>by
  rw [hb p (by omega)]
  exact ⟨fun h2=>h2.elim (fun h3=>h3.elim id fun h4=>by omega) fun h3=>absurd h3 (nb p (by omega)),fun h2=>.inl (.inl h2)⟩
 have hbi:b.getD i false=true↔(a.getD i false=true∨dep l i=0):=by
  rw [hb i hi]
  exact ⟨fun h2=>h2.elim (fun h3=>h3.imp id fun h4=>h4.2) fun h3=>absurd h3 (nb i (au _)),fun h2=>.inl (h2.imp id fun h3=>⟨rfl,h3⟩)⟩
 refine ⟨hlen,fun p hp hpl hk hp2=>?_,fun j hj=>?_⟩
 · by_cases he:p=i
   · subst he; exact hr (hbi.1 hp2) hk
   · rw [hc p (by omega)]
     exact h.real p (by omega) hpl hk ((hbp p (by omega)).1 hp2)
 · rw [hb j hj,h.on j hj,hN j hj]
   constructor
   · rintro (((⟨h1,h2⟩ | ⟨p,h1,h2,h3,h4⟩) | ⟨h1,h2⟩) | ⟨h1,h2,h3⟩)
     · exact .inl ⟨h1,by omega⟩
     · exact .inr ⟨p,by omega,h2,(hbp p h1).2 h3,by rw [hc p h1]; exact h4⟩
     · subst h1; exact .inl ⟨h2,by omega⟩
     · exact .inr ⟨i,by omega,h2,hbi.2 h1,h3⟩
   · rintro (⟨h1,h2⟩ | ⟨p,h1,h2,h3,h4⟩)
     · by_cases he:j=i
       · subst he; exact .inl (.inr ⟨rfl,h1⟩)
       · exact .inl (.inl (.inl ⟨h1,by omega⟩))
     · by_cases he:p=i
       · subst he; exact .inr ⟨hbi.1 h3,h2,h4⟩
       · refine .inl (.inl (.inr ⟨p,by omega,h2,(hbp p (by omega)).1 h3,?_⟩))
         rw [← hc p (by omega)]; exact h4
theorem mD {l:List Ev.Stat} (t:Tre l) {ch:Nat→Int→Int} (hch:tf l ch):∀ (f i:Nat) (a:List Bool) (n:Int) (c:Nat→Nat),l.length - i=f→i≤l.length→Mrk l c i a→∃ c',Mrk l c' l.length (gl l ch f i a n)
 | 0,i,a,n,c,hf,hi,h=>by
   have:i=l.length:=by omega
   subst this
   exact ⟨c,h⟩
 | f + 1, i, a,n,c,hf,hi,h=>by
   have hil:i<l.length:=by omega
   have hr:=fun j=>Kh l a i j (by rw [h.len]; exact hil)
   rw [gl]
   by_cases hon:(gb l a i).getD i false=true
   · rw [hon,b8,if_neg (by decide)]
     have hact:a.getD i false=true∨dep l i=0:=((hr i).2.1 hon).imp id fun h=>h.2
     by_cases h3:knd l i=3
     · rw [if_pos (by simpa using h3)]
       refine mD t hch f (i+1) _ n c (by omega) (by omega) (ni t hil h ?_ (fun _ _=>rfl) (fun j=>upM l j=(i:Int)) (fun j hj=>?_) (fun j hj=>?_) fun _ hk=>?_)
       · rw [(kK _ _ 0).1,(hr 0).1,h.len]
       · rw [(kK _ _ j).2,aL,af,(hr j).2,decide_eq_true_eq,(hr j).1,h.len,bt]
         constructor
         · rintro (h4 | ⟨⟨y,hy,e⟩,_⟩)
           · exact .inl h4
           · obtain ⟨m,rfl,_,h6,_⟩:=(m9 t.shp hil y).1 hy
             have e':=of_decide_eq_true e
             rw [ai] at e'
             subst e'; exact .inr h6
         · rintro (h4 | h4)
           · exact .inl h4
           · refine .inr ⟨⟨(j:Int),(m9 t.shp hil _).2 ⟨j,rfl,hj,h4,?_⟩,by rw [ai]; exact decide_eq_true rfl⟩,hj⟩
             rcases t.both hj h4 with h5 | ⟨_,h5⟩
             · rw [h3] at h5; exact absurd h5 (by decide)
             · cases hp:aM (knd l j)
               · rfl
               · rcases (qF _).1 hp with h6 | h6 <;> omega
       · exact ⟨fun h4=>⟨hact,h4,.inl h3⟩,fun h4=>h4.2.1⟩
       · rw [h3] at hk; exact absurd hk (by decide)
     · rw [if_neg (by simpa using h3)]
       by_cases h2:knd l i=2
       · rw [if_pos (by simpa using h2)]
         obtain ⟨q,e,hq1,hq2,hq3⟩:=hch i n hil h2
         refine mD t hch f (i+1) _ _ (fun p=>if p=i then q else c p) (by omega) (by omega) (ni t hil h ?_ (fun p hp=>if_neg (by omega)) (fun j=>j=q) (fun j hj=>?_) (fun j hj=>?_) fun _ _=>?_)
         · rw [bu,(hr 0).1,h.len]
         · rw [e,ai,nK,aL,af,(hr j).2,decide_eq_true_eq,decide_eq_true_eq,(hr j).1,h.len]
           exact ⟨fun h4=>h4.imp id fun h5=>h5.1,fun h4=>h4.imp id fun h5=>⟨h5,hj⟩⟩
         · rw [if_pos rfl]
           refine ⟨fun h4=>⟨hact,by rw [h4]; exact hq2,.inr ⟨h2,h4.symm⟩⟩,fun h4=>?_⟩
           rcases h4.2.2 with h5 | h5
           · exact absurd h5 h3
           · exact h5.2.symm
         · rw [if_pos rfl]; exact ⟨hq1,hq2,hq3⟩
       · rw [if_neg (by simpa using h2)]
         refine mD t hch f (i+1) _ n c (by omega) (by omega) (ni t hil h ?_ (fun _ _=>rfl) (fun _=>False) (fun j hj=>?_) (fun j hj=>?_) fun _ hk=>absurd hk h2)
         · rw [(hr 0).1,h.len]
         · rw [(hr j).2,or_false]
         · exact ⟨fun h=>h.elim,fun h4=>h4.2.2.elim (fun h5=>h3 h5) fun h5=>h2 h5.1⟩
   · have hoff:(gb l a i).getD i false=false:=by simpa using hon
     rw [hoff,cj,if_pos rfl]
     have hno:¬(a.getD i false=true∨dep l i=0):=fun h2=>hon ((hr i).2.2 (h2.imp id fun h3=>⟨rfl,h3⟩))
     refine mD t hch f (i+1) _ n c (by omega) (by omega) (ni t hil h ?_ (fun _ _=>rfl) (fun _=>False) (fun j hj=>?_) (fun j hj=>?_) fun h4 _=>absurd h4 hno)
     · rw [(hr 0).1,h.len]
     · rw [(hr j).2,or_false]
     · exact ⟨fun h=>h.elim,fun h4=>hno h4.1⟩
theorem nu {l:List Ev.Stat} (t:Tre l) {ch:Nat→Int→Int} (hch:tf l ch):Lgl l (gB l ch):=by
 obtain ⟨c,h⟩:=mD t hch l.length 0 (List.replicate l.length false) 0 (fun _=>0) (by omega) (by omega) ⟨by simp,fun p hp=>by omega,fun j hj=>by
  rw [List.getD_eq_getElem?_getD,List.getElem?_replicate,if_pos hj]
  exact ⟨fun h=>(by cases h),fun h=>h.elim (fun h=>by omega) fun ⟨p,hp,_⟩=>by omega⟩⟩
 have h':Mrk l c l.length (yv l ch):=h
 refine Ow t (jj _ _) (fun j=>(yv l ch).getD j false=true) (fun p q=>c p=q) (fun y=>?_) (fun p hp hk hon=>?_) (fun j hj=>?_)
 · unfold gB
   rw [aT]
   constructor
   · rintro ⟨j,hj,rfl⟩
     rw [aA,bw] at hj
     exact ⟨j,rfl,hj.1,hj.2⟩
   · rintro ⟨j,rfl,h1,h2⟩
     exact ⟨j,by rw [aA,bw]; exact ⟨h1,h2⟩,rfl⟩
 · obtain ⟨h1,h2,h3⟩:=h'.real p hp hp hk hon
   exact ⟨c p,h1,h2,h3,rfl,fun m _ _ e=>e.symm⟩
 · rw [h'.on j hj]
   constructor
   · rintro (⟨h1,_⟩ | ⟨p,h1,h2,h3,h4⟩)
     · exact .inl h1
     · exact .inr ⟨p,h2,h3,h4⟩
   · rintro (h1 | ⟨p,h2,h3,h4⟩)
     · exact .inl ⟨h1,hj⟩
     · have:=((cV t.shp hj).1 h2).1
       exact .inr ⟨p,by omega,h2,h3,h4⟩
/-! ### which states are over -/
end Go.Proofs.YtgfifkhbfdacjaaGreatDoor
namespace Go.Proofs.YtgfifkhbfdacjaaGreatDoor
open Go Go.Ev
set_option maxRecDepth 100000
def Kid (l:List Ev.Stat) (ch:Nat→Int):Prop:=∀ k,k<l.length→knd l k=2→∃ q:Nat,ch k=(q:Int)∧q<l.length∧upM l q=(k:Int)
def hX (l:List Ev.Stat) (ch:Nat→Int) (i:Nat):List Int:=if ((ETy.get .stat l i).kind==3)=true then bg l i else if ((ETy.get .stat l i).kind==2)=true then [ch i] else []
def dnC (l:List Ev.Stat) (ch:Nat→Int):Nat→Nat→List Int
 | 0,_=>[]
 | n+1,i=>(hX l ch i).flatMap fun k=>k::dnC l ch n k.toNat
variable {l:List Ev.Stat}
theorem iM (t:Tre l) {ch:Nat→Int} (hc:Kid l ch) {i:Nat} (hi:i<l.length) (y:Int):y∈hX l ch i↔∃ m:Nat,y=(m:Int)∧m<l.length∧upM l m=(i:Int)∧(knd l i=3∨(knd l i=2∧ch i=(m:Int))):=by
 unfold hX
 by_cases h3:knd l i=3
 · rw [if_pos (by simpa using h3),ei t.shp hi]
   exact ⟨fun ⟨m,a,b,c⟩=>⟨m,a,b,c,.inl h3⟩,fun ⟨m,a,b,c,_⟩=>⟨m,a,b,c⟩⟩
 · rw [if_neg (by simpa using h3)]
   by_cases h2:knd l i=2
   · rw [if_pos (by simpa using h2),aZ]
     constructor
     · rintro rfl
       obtain ⟨q,e,h4,h5⟩:=hc i hi h2
       exact ⟨q,e,h4,h5,.inr ⟨h2,e⟩⟩
     · rintro ⟨m,rfl,_,_,h | h⟩
       · exact absurd h h3
       · exact h.2.symm
   · rw [if_neg (by simpa using h2)]
     exact ⟨fun h=>(by cases h),fun ⟨m,_,_,_,h⟩=>h.elim (fun h=>absurd h h3) fun h=>absurd h.1 h2⟩
theorem AM {ch:Nat→Int} {i:Nat} (hi:i<l.length):(hX l ch i).Pairwise (fun x y=>((endM l x.toNat:Nat):Int)≤y):=by
 unfold hX
 split
 · exact (l6 l (endM l i) l.length (i+1) (cN l hi).2).1
 · split
   · exact eY _ _
   · exact .nil
theorem ny {l:List Ev.Stat} (t:Tre l) {ch:Nat→Int} (hc:Kid l ch):∀ (n i:Nat),i<l.length→(dnC l ch n i).Pairwise (· < ·)∧∀ y∈dnC l ch n i,(i:Int)<y∧y<((endM l i:Nat):Int)
 | 0,i,_=>by rw [dnC]; exact ⟨.nil,fun y h=>(by cases h)⟩
 | n + 1,i,hi=>by
   have he:=cN l hi
   rw [dnC]
   have kid:∀ y∈hX l ch i,∃ m:Nat,y=(m:Int)∧m<l.length∧i<m∧m<endM l i:=fun y hy=>by
    obtain ⟨m,e,h1,h2,_⟩:=(iM t hc hi y).1 hy
    have:=(cV t.shp h1).1 h2
    exact ⟨m,e,h1,this.1,this.2.1⟩
   have bound:∀ m,m<l.length→∀ y∈(m:Int)::dnC l ch n m,(m:Int)≤y∧y<((endM l m:Nat):Int):=fun m hm y hy=>by
    have h1:=cN l hm
    rcases aK.1 hy with rfl | hy
    · omega
    · have:=(ny t hc n m hm).2 y hy; omega
   constructor
   · rw [List.pairwise_flatMap]
     refine ⟨fun a ha=>?_,?_⟩
     · obtain ⟨m,rfl,hm,_⟩:=kid a ha
       rw [ai]
       have ih:=ny t hc n m hm
       exact cB.2 ⟨fun y hy=>(ih.2 y hy).1,ih.1⟩
     · refine List.Pairwise.imp_of_mem (fun {a b} ha hb hab x hx y hy=>?_) (AM hi)
       obtain ⟨m,rfl,hm,_⟩:=kid a ha
       obtain ⟨m2,rfl,hm2,_⟩:=kid b hb
       rw [ai] at hx hy hab
       have h5:=bound m hm x hx
       have h6:=bound m2 hm2 y hy
       omega
   · intro y hy
     obtain ⟨a,ha,hy⟩:=aN.1 hy
     obtain ⟨m,rfl,hm,h5,h6⟩:=kid a ha
     rw [ai] at hy
     have h7:=bound m hm y hy
     have h8:=jx l hi h5 h6
     omega
inductive Rchd (l:List Ev.Stat) (ch:Nat→Int) (i:Nat):Nat→Prop where
 | self:Rchd l ch i i
 | step {p j:Nat}:Rchd l ch i p→j<l.length→upM l j=(p:Int)→(knd l p=3∨(knd l p=2∧ch p=(j:Int)))→Rchd l ch i j
theorem Rchd.lt (t:Tre l) {ch:Nat→Int} {i j:Nat} (hi:i<l.length) (h:Rchd l ch i j):j<l.length∧i≤j:=by
 induction h with
 | self=>exact ⟨hi,au _⟩
 | step h1 h2 h3 _ ih=>exact ⟨h2,by have:=((cV t.shp h2).1 h3).1; omega⟩
theorem Rchd.head {ch:Nat→Int} {i q j:Nat} (hq:q<l.length) (hu:upM l q=(i:Int)) (h:knd l i=3∨(knd l i=2∧ch i=(q:Int))) (hb:Rchd l ch q j):Rchd l ch i j:=by
 induction hb with
 | self=>exact .step .self hq hu h
 | step _ h2 h3 h4 ih=>exact .step ih h2 h3 h4
theorem yd {l:List Ev.Stat} (t:Tre l) {ch:Nat→Int} (hc:Kid l ch):∀ (n i:Nat) (y:Int),i<l.length→y∈dnC l ch n i→∃ j:Nat,y=(j:Int)∧j≠i∧Rchd l ch i j
 | 0,_,_,_,h=>by rw [dnC] at h; cases h
 | n + 1,i,y,hi,h=>by
   rw [dnC] at h
   obtain ⟨a,ha,hy⟩:=aN.1 h
   obtain ⟨m,rfl,hm,hu,hk⟩:=(iM t hc hi a).1 ha
   have him:=((cV t.shp hm).1 hu).1
   rw [ai] at hy
   rcases aK.1 hy with rfl | hy
   · exact ⟨m,rfl,by omega,.step .self hm hu hk⟩
   · obtain ⟨j,e,_,hb⟩:=yd t hc n m y hm hy
     have:=hb.lt t hm
     exact ⟨j,e,by omega,hb.head hm hu hk⟩
theorem xw {l:List Ev.Stat} (t:Tre l) {ch:Nat→Int} (hc:Kid l ch):∀ (n i:Nat),i<l.length→l.length - i<n→∀ {p j:Nat},(p=i∨(p:Int)∈dnC l ch n i)→j<l.length→upM l j=(p:Int)→(knd l p=3∨(knd l p=2∧ch p=(j:Int)))→(j:Int)∈dnC l ch n i
 | 0,i,hi,h,_,_,_,_,_,_=>by omega
 | n + 1,i,hi,hn,p,j,hp,hj,hu,hk=>by
   rw [dnC] at hp ⊢
   rcases hp with rfl | hp
   · refine aN.2 ⟨(j:Int),(iM t hc hi _).2 ⟨j,rfl,hj,hu,hk⟩,aC⟩
   · obtain ⟨a,ha,hy⟩:=aN.1 hp
     obtain ⟨m,rfl,hm,hum,_⟩:=(iM t hc hi a).1 ha
     have him:=((cV t.shp hm).1 hum).1
     refine aN.2 ⟨(m:Int),ha,?_⟩
     rw [ai] at hy ⊢
     refine aH _ (xw t hc n m hm (by omega) ?_ hj hu hk)
     rcases aK.1 hy with h | h
     · exact .inl (by omega)
     · exact .inr h
theorem Ez (t:Tre l) {ch:Nat→Int} (hc:Kid l ch) {i:Nat} (hi:i<l.length) (y:Int):y∈dnC l ch (l.length+1) i↔∃ j:Nat,y=(j:Int)∧j≠i∧Rchd l ch i j:=by
 refine ⟨yd t hc _ i y hi,?_⟩
 rintro ⟨j,rfl,hne,h⟩
 induction h with
 | self=>exact absurd rfl hne
 | @step p j h1 h2 h3 h4 ih =>
   refine xw t hc _ i hi (by omega) ?_ h2 h3 h4
   by_cases hp:p=i
   · exact .inl hp
   · exact .inr (ih hp)
/-! ### the document's words -/
def iq (l:List Ev.Stat) (f:Nat→Int→Bool) (i:Int):Nat→Int→Bool
 | 0,_=>false
 | n+1,j=>if (i==j)=true then true else if (decide (aO l j.toNat<0) || !iq l f i n (aO l j.toNat))=true then false
   else if ((ETy.get .stat l (aO l j.toNat).toNat).kind != 2)=true then (ETy.get .stat l (aO l j.toNat).toNat).kind==3 else f (aO l j.toNat).toNat j
theorem sV {l:List Ev.Stat} (t:Tre l) {ch:Nat→Int} {f:Nat→Int→Bool} (hf:∀ p j:Nat,p<l.length→j<l.length→knd l p=2→upM l j=(p:Int)→(f p (j:Int)=true↔ch p=(j:Int))) {i:Nat}:∀ (n j:Nat),j<l.length→j<n→(iq l f (i:Int) n (j:Int)=true↔Rchd l ch i j)
 | 0,j,_,h=>by omega
 | n + 1,j,hj,hn=>by
   rw [iq]
   by_cases hij:i=j
   · subst hij
     rw [if_pos (beq_self_eq_true _)]
     exact ⟨fun _=>.self,fun _=>rfl⟩
   · rw [if_neg (by simpa using (show ¬(i:Int)=(j:Int) by omega)),ai,eH t.shp hj]
     have up:∀ {p':Nat},Rchd l ch i j→upM l j=(p':Int)→Rchd l ch i p'∧(knd l p'=3∨(knd l p'=2∧ch p'=(j:Int))):=fun {p'} h hu=>by
      cases h with
      | self=>exact absurd rfl hij
      | @step p _ h1 h2 h3 h4 =>
        have:p=p':=by rw [hu] at h3; omega
        subst this; exact ⟨h1,h4⟩
     rcases jG l j with ⟨e,h1⟩ | ⟨p,e,h1,h2,h3⟩
     · rw [e,show decide ((-1:Int)<0)=true by decide,bD,if_pos rfl]
       refine ⟨fun h=>(by cases h),fun h=>?_⟩
       cases h with
       | self=>exact absurd rfl hij
       | step _ _ h4=>rw [h4] at e; omega
     · have ih:=sV t hf (i:=i) n p (by omega) (by omega)
       rw [e,ai,decide_eq_false (by omega),a7]
       cases hb:iq l f (i:Int) n (p:Int)
       · rw [cj,if_pos rfl]
         refine ⟨fun h=>(by cases h),fun h=>?_⟩
         rw [ih.2 (up h e).1] at hb; cases hb
       · have hp:=ih.1 hb
         rw [b8,if_neg (by decide)]
         by_cases h2:knd l p=2
         · rw [if_neg (by simpa using h2),hf p j (by omega) hj h2 e]
           refine ⟨fun h=>.step hp hj e (.inr ⟨h2,h⟩),fun h=>?_⟩
           rcases (up h e).2 with h3 | h3
           · rw [h2] at h3; exact absurd h3 (by decide)
           · exact h3.2
         · rw [if_pos (by simpa using h2)]
           have e3:((ETy.get .stat l p).kind==3)=true↔knd l p=3:=by rw [beq_iff_eq]
           rw [e3]
           refine ⟨fun h=>.step hp hj e (.inl h),fun h=>?_⟩
           rcases (up h e).2 with h3 | h3
           · exact h3
           · exact absurd h3.1 h2
def na (l:List Ev.Stat) (f:Nat→Int→Bool) (i:Nat):List Int:=((List.range l.length).filter fun j:Nat=>decide (i<j)&&iq l f (i:Int) (l.length+1) (j:Int)).map fun j:Nat=>(j:Int)
theorem Oy (t:Tre l) {ch:Nat→Int} (hc:Kid l ch) {f:Nat→Int→Bool} (hf:∀ p j:Nat,p<l.length→j<l.length→knd l p=2→upM l j=(p:Int)→(f p (j:Int)=true↔ch p=(j:Int))) {i:Nat} (hi:i<l.length):dnC l ch (l.length+1) i=na l f i:=by
 refine iS (ny t hc _ i hi).1 (jj _ _) fun y=>?_
 rw [Ez t hc hi]
 unfold na
 rw [aT]
 constructor
 · rintro ⟨j,rfl,hne,h⟩
   have hj:=h.lt t hi
   refine ⟨j,aA.2 ⟨bw.2 hj.1,?_⟩,rfl⟩
   rw [decide_eq_true (by omega),aX]
   exact (sV t hf _ j hj.1 (by omega)).2 h
 · rintro ⟨j,hj,rfl⟩
   rw [aA,bw,af,decide_eq_true_eq] at hj
   exact ⟨j,rfl,by omega,(sV t hf _ j hj.1 (by omega)).1 hj.2.2⟩
/-! ### targets -/
def dI (l:List Ev.Stat) (ts:List Int) (k:Int):Bool:=ts.any fun t=>decide (t≥k)&&decide (t<((endM l k.toNat:Nat):Int))
def gP (l:List Ev.Stat) (ts:List Int) (i:Nat):Int:=match (bg l i).find? fun k=>dI l ts k with
 | some k=>k
 | none=>ar l (ETy.get .stat l i).initial
def gH (l:List Ev.Stat) (ts:List Int) (k:Int):Bool:=ts.any fun t=>t==k||decide (t≥0)&&decide (t<(l.length:Int))&&dE l k t.toNat
def fh (l:List Ev.Stat) (ts:List Int) (p:Nat) (j:Int):Bool:=match (cw l (p:Int) l.length).find? fun k=>gH l ts k with
 | some k=>k==j
 | none=>(ETy.get .stat l p).initial==(ETy.get .stat l j.toNat).name
def dnM (l:List Ev.Stat) (ts:List Int) (i:Nat):List Int:=dnC l (gP l ts) (l.length+1) i
theorem L0 (S:Shp l) (ts:List Int) {k:Nat} (hk:k<l.length):gH l ts (k:Int)=dI l ts (k:Int):=by
 unfold gH dI
 have he:=cN l hk
 congr 1
 funext x
 rw [ai,bn,aL,af,af,af,beq_iff_eq,decide_eq_true_eq,decide_eq_true_eq,decide_eq_true_eq,decide_eq_true_eq]
 constructor
 · rintro (h | ⟨⟨h1,h2⟩,h3⟩)
   · omega
   · rw [mB S (by omega),af,decide_eq_true_eq,decide_eq_true_eq] at h3
     omega
 · rintro ⟨h1,h2⟩
   by_cases h:x=(k:Int)
   · exact .inl h
   · refine .inr ⟨⟨by omega,by omega⟩,?_⟩
     rw [mB S (by omega),af,decide_eq_true_eq,decide_eq_true_eq]
     omega
theorem find_congr {α:Type} {p q:α→Bool}:∀ {l:List α},(∀ x∈l,p x=q x)→l.find? p=l.find? q
 | [],_=>rfl
 | x::r,h=>by
   rw [List.find?_cons,List.find?_cons,h x aC,find_congr fun y hy=>h y (aH _ hy)]
theorem il (t:Tre l) (ts:List Int):Kid l (gP l ts):=by
 intro k hk h2
 unfold gP
 cases hf:(bg l k).find? fun y=>dI l ts y with
 | none =>
   obtain ⟨q,e,hq,hu,_⟩:=t.init hk h2
   exact ⟨q,e,hq,hu⟩
 | some y =>
   obtain ⟨m,e,hm,hu⟩:=(ei t.shp hk y).1 (List.mem_of_find?_eq_some hf)
   exact ⟨m,e,hm,hu⟩
theorem NL (t:Tre l) (ts:List Int) (p j:Nat) (hp:p<l.length) (hj:j<l.length) (h2:knd l p=2) (_hu:upM l j=(p:Int)):fh l ts p (j:Int)=true↔gP l ts p=(j:Int):=by
 unfold fh gP
 rw [← LY t.shp hp,find_congr (q:=fun k=>dI l ts k) (fun x hx=>by
  obtain ⟨m,rfl,hm,_⟩:=(ei t.shp hp x).1 hx
  exact L0 t.shp ts hm)]
 cases (bg l p).find? fun y=>dI l ts y with
 | none =>
   obtain ⟨q,e,hq,_,hn,_⟩:=t.init hp h2
   simp only
   rw [e,beq_iff_eq,ai,← hn]
   exact ⟨fun h=>by rw [xl t.names hq hj h],fun h=>by
    have:q=j:=by omega
    rw [this]⟩
 | some y=>simp only; rw [beq_iff_eq]
theorem M1 (t:Tre l) (ts:List Int) {i:Nat} (hi:i<l.length):dnM l ts i=na l (fh l ts) i :=
 Oy t (il t ts) (NL t ts) hi
end Go.Proofs.YtgfifkhbfdacjaaGreatDoor

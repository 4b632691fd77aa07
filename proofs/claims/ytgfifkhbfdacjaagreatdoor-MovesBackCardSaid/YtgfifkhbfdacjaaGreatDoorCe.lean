/- Contracts: the document's layer 10: what a state begins with. Conditions: sizes. A configuration by choices is legal; which states are over (plain). Conditions: a valid chart. What is entered from a state down, by a choice of children: the program's walk down and the document's words are alike (plain). Conditions: a right tree. -/
import Derived.Test.YtgfifkhbfdacjaaGreatDoorNh
import Derived.Test.YtgfifkhbfdacjaaGreatDoorSk
import Derived.Test.YtgfifkhbfdacjaaGreatDoorSn
namespace Go.Proofs.YtgfifkhbfdacjaaGreatDoor
open Go Go.Ev
set_option maxRecDepth 100000
/-! ### Begin, of a place that is no history's -/
/-! ### Right -/
def DO:Cfg:=⟨aY,[oE]⟩
theorem Em:ag Tryz.prog DO.tab:=(ag.cons B4 ag.nil)
theorem uj (c:Chart) (hb:∀ s∈c.states,s.entry.length≤4398046511104∧s.leave.length≤4398046511104):ah Tryz.prog 10 [.e .chart c] [] (.x (.b (bC c==0))) []:=by
 refine dg Em Tryz.func10 (.need (∀ (s:ETy.den .stat),s∈c.states→s.entry.length≤4398046511104∧s.leave.length≤4398046511104) (.ret (.p (.bool (bC c==(0:Int)))) [])) fun Γ=>?_
 exact ⟨hb,rfl,rfl⟩
def ln:Ent:=(10,fun
 | [.agg [.pd (.str a),.pd (.lst .str b),.pd (.lst .var c),.pd (.lst .stat d),.pd (.lst .tran e)]],[]=>some (some (∀ s∈d,s.entry.length≤4398046511104∧s.leave.length≤4398046511104),.x (.c (.pd (.bool (bC ⟨a,b,c,d,e⟩==0)))),[])
 | _,_=>none)
theorem wY:EntOk Tryz.prog ln:=entOk fun vs ck=>by
 unfold ln; dsimp only; split
 · rename_i a b c d e; exact entS fun hp=>uj ⟨a,b,c,d,e⟩ hp
 · exact entN
/-! ### lists of places -/
abbrev zNk1:List PI:=[.code [1,1,0,1,0,0],.inLoop [1,1,0,1,0,0],.inBlock 0,.code [1,1,1]]
variable (a l b:List Int) (m:Int) (Γ:Ctx)
theorem Iy (hl:a.length≤maxLen) (hab:a.length=b.length):∀ (n k:Nat),a.length - k≤n→k≤a.length →
 J Tryz.prog 16 (au Tryz.f16) Γ (Eq2 (.x (.b (a.drop k==b.drop k))) []) zNk1 ({ n:=26,fr:=[(0,.p (.lst .int a)),(1,.p (.lst .int b)),(4,.p (.bool false)),(5,.i k)],ck:=[],kn:=[4] }):=by
 intro n
 induction n with
 | zero=>?_
 | succ n ih=>?_
 all_goals
  intro k hn hk
  refine jg aR Tryz.func16 (.ite (decide ((k:Int)<(a.length:Int))) (.need (inRg k a.length) (.need (inRg k b.length) (.ite (ETy.get .int a k != ETy.get .int b k) (.ret (.p (.bool false)) []) (.stop zNk1 { n:=26,fr:=[(0,.p (.lst .int a)),(1,.p (.lst .int b)),(4,.p (.bool false)),(5,.i (IntKind.wrap .i64 ((k:Int)+1)))],ck:=[] })))) (.ret (.p (.bool true)) [])) ?_
  refine ⟨fun hlt=>?_,fun hge=>?_⟩
  · have hk':k<a.length:=by have:=of_decide_eq_true hlt; omega
    rw [bD (t:=.int) (l:=a) hk']
    generalize ETy.get .int a k=v
    rw [bD (t:=.int) (l:=b) (by omega)]
    refine ⟨⟨by omega,by omega⟩,⟨by omega,by omega⟩,?_⟩
    generalize ETy.get .int b k=u
    refine ⟨fun hb=>⟨?_,rfl⟩,fun hb=>?_⟩
    · have hb':(v==u)=false:=nt hb
      rw [eM,hb',a6]
    · have hb':(v==u)=true:=nf hb
      rw [eM,hb',aS]; (rw [aX (aE hk' hl)]; first | (exfalso; omega) | exact J.kn [4] (ih (k+1) (by omega) (by omega)))
  · rw [bO (l:=a) (by have:=of_decide_eq_false hge; omega)]
    rw [bO (l:=b) (by have:=of_decide_eq_false hge; omega)]; exact ⟨rfl,rfl⟩
theorem yE:ah Tryz.prog 16 [.l .int a,.l .int b] [] (.x (.b (a==b))) []:=by
 refine dg aR Tryz.func16 (.ite ((a.length:Int) != (b.length:Int)) (.ret (.p (.bool false)) []) (.stop zNk1 { n:=26,fr:=[(0,.p (.lst .int a)),(1,.p (.lst .int b)),(4,.p (.bool false)),(5,.i 0)],ck:=[],kn:=[4] })) fun Γ=>?_
 refine ⟨fun h=>?_,fun h=>?_⟩
 · have hne:a.length≠b.length:=by
    have:(a.length:Int)≠b.length:=by simpa using h
    omega
   rw [show (a==b)=false from by rw [beq_eq_false_iff_ne]; exact fun e=>hne (by rw [e])]; exact ⟨rfl,rfl⟩
 · have hab:a.length=b.length:=by
    have:(a.length:Int)=b.length:=by simpa using h
    omega
   exact J.len 0 rfl fun hl=>Iy a b Γ hl hab a.length 0 (by omega) (by omega)
def qO:Ent:=(16,fun
 | [.c (.pd (.lst .int a)),.c (.pd (.lst .int b))],[]=>some (none,.x (.c (.pd (.bool (a==b)))),[])
 | _,_=>none)
theorem D0:EntOk Tryz.prog qO:=entOk fun vs ck=>by
 unfold qO; dsimp only; split
 · rename_i a b; exact entS fun hp=>yE a b
 · exact entN
abbrev zNk2:List PI:=[.code [1,0,1,0,0],.inLoop [1,0,1,0,0],.inBlock 0,.code [1,1]]
theorem Is (hl:l.length≤maxLen)  : ∀ (n k:Nat),l.length - k≤n→k≤l.length →
 J Tryz.prog 22 (au Tryz.f22) Γ (Eq2 (.x (.b (inB (l.drop k) m))) []) zNk2 ({ n:=18,fr:=[(0,.p (.lst .int l)),(1,.i m),(4,.p (.bool false)),(5,.i k)],ck:=[],kn:=[4] }):=by
 intro n
 induction n with
 | zero=>?_
 | succ n ih=>?_
 all_goals
  intro k hn hk
  refine jg aR Tryz.func22 (.ite (decide ((k:Int)<(l.length:Int))) (.need (inRg k l.length) (.ite (ETy.get .int l k==m) (.ret (.p (.bool true)) []) (.stop zNk2 { n:=18,fr:=[(0,.p (.lst .int l)),(1,.i m),(4,.p (.bool false)),(5,.i (IntKind.wrap .i64 ((k:Int)+1)))],ck:=[],kn:=[4] }))) (.ret (.p (.bool false)) [])) ?_
  refine ⟨fun hlt=>?_,fun hge=>?_⟩
  · have hk':k<l.length:=by have:=of_decide_eq_true hlt; omega
    rw [bD (t:=.int) (l:=l) hk']
    refine ⟨by omega,?_⟩
    generalize ETy.get .int l k=v
    refine ⟨fun hb=>⟨?_,rfl⟩,fun hb=>?_⟩
    · have hb':(v==m)=true:=hb
      unfold inB; rw [cS,hb']; rfl
    · have hb':(v==m)=false:=hb
      unfold inB; rw [cS,hb',bf]; (rw [aX (aE hk' hl)]; first | (exfalso; omega) | exact ih (k+1) (by omega) (by omega) | exact J.kn [4] (ih (k+1) (by omega) (by omega)))
  · rw [bO (l:=l) (by have:=of_decide_eq_false hge; omega)]
    exact ⟨rfl,rfl⟩
theorem Gw:ah Tryz.prog 22 [.l .int (l),.i (m)] [] (.x (.b (inB l m))) []:=by
 refine dg aR Tryz.func22 (.stop zNk2 { n:=18,fr:=[(0,.p (.lst .int l)),(1,.i m),(4,.p (.bool false)),(5,.i 0)],ck:=[],kn:=[4] }) fun Γ=>?_
 exact J.len 0 rfl fun hl=>Is l m Γ hl l.length 0 (by omega) (by omega)
def AC:Ent:=(22,fun
 | [.c (.pd (.lst .int l)),.c (.pd (.int .i64 m))],[]=>some (none,.x (.c (.pd (.bool (inB l m)))),[])
 | _,_=>none)
theorem JY:EntOk Tryz.prog AC:=entOk fun vs ck=>by
 unfold AC; dsimp only; split
 · rename_i l m; exact entS fun hp=>Gw l m
 · exact entN
end Go.Proofs.YtgfifkhbfdacjaaGreatDoor
namespace Go.Proofs.YtgfifkhbfdacjaaGreatDoor
open Go Go.Ev
set_option maxRecDepth 100000
variable (l:List Ev.Stat) (a:List Bool) (i j:Nat)
def gQ:List Int:=(cN l (i:Int) l.length).filter fun y=>!aO (ETy.get .stat l y.toNat).kind
def gC:List Bool→List Int→List Bool
 | a,[]=>a
 | a,y::r=>gC (a.set y.toNat true) r
def fR:List Bool:=if ((ETy.get .stat l i).depth==0)=true then a.set i true else a
def ga (l:List Ev.Stat) (ch:Nat→Int→Int):Nat→Nat→List Bool→Int→List Bool
 | 0,_,a,_=>a
 | f+1,i,a,n =>
   if (!(fR l a i).getD i false)=true then ga l ch f (i+1) (fR l a i) n
   else if ((ETy.get .stat l i).kind==3)=true then ga l ch f (i+1) (gC (fR l a i) (gQ l i)) n
   else if ((ETy.get .stat l i).kind==2)=true then ga l ch f (i+1) ((fR l a i).set (ch i n).toNat true) (IntKind.wrap .i64 (n+1))
   else ga l ch f (i+1) (fR l a i) n
def wc (ch:Nat→Int→Int):List Bool:=ga l ch l.length 0 (List.replicate l.length false) 0
def cW (ch:Nat→Int→Int):List Int:=((List.range l.length).filter fun i=>(wc l ch).getD i false).map fun i:Nat=>(i:Int)
def se (ch:Nat→Int→Int):Prop:=∀ (i:Nat) (n:Int),i<l.length→knd l i=2→∃ q:Nat,ch i n=(q:Int)∧q<l.length∧upM l q=(i:Int)∧aO (knd l q)=false
theorem mM {l:List Ev.Stat} (S:Shp l) {i:Nat} (hi:i<l.length) (y:Int):y∈gQ l i↔∃ m:Nat,y=(m:Int)∧m<l.length∧upM l m=(i:Int)∧aO (knd l m)=false:=by
 unfold gQ
 rw [aA,sV S hi]
 constructor
 · rintro ⟨⟨m,rfl,h1,h2⟩,h3⟩
   rw [ai] at h3
   exact ⟨m,rfl,h1,h2,by simpa using h3⟩
 · rintro ⟨m,rfl,h1,h2,h3⟩
   refine ⟨⟨m,rfl,h1,h2⟩,?_⟩
   rw [ai]
   have h3':aO (ETy.get .stat l m).kind=false:=h3
   rw [h3']; rfl
theorem vp {l:List Ev.Stat} (t:Tre l) {i:Nat} (hi:i<l.length) (hk:knd l i=2∨knd l i=3):0<(gQ l i).length:=by
 obtain ⟨m,h1,h2,h3⟩:=((jb t.shp hi).1 (rX t.right hi)).2 hk
 exact List.length_pos_of_mem ((mM t.shp hi _).2 ⟨m,rfl,h1,h2,h3⟩)
theorem nA:(a.set i true).getD j false=(a.getD j false||(decide (j=i)&&decide (j<a.length))):=by
 rw [List.getD_eq_getElem?_getD,List.getD_eq_getElem?_getD,List.getElem?_set]
 by_cases h:i=j
 · subst h
   rw [if_pos rfl]
   by_cases h2:i<a.length
   · rw [if_pos h2]; simp [h2]
   · rw [if_neg h2]; simp [h2]
 · rw [if_neg h,decide_eq_false (fun e=>h e.symm)]; simp
theorem kr:∀ (r:List Int) (a:List Bool) (j:Nat),(gC a r).length=a.length∧(gC a r).getD j false=(a.getD j false||(r.any (fun y=>decide (j=y.toNat))&&decide (j<a.length)))
 | [],a,j=>by simp [gC]
 | y::r,a,j=>by
   have ih:=kr r (a.set y.toNat true) j
   rw [bt] at ih
   refine ⟨ih.1,?_⟩
   rw [gC,ih.2,nA,cS]
   cases a.getD j false <;> cases decide (j=y.toNat) <;> cases decide (j<a.length) <;> simp
structure Mrk (l:List Ev.Stat) (c:Nat→Nat) (i:Nat) (a:List Bool):Prop where
 len:a.length=l.length
 real:∀ p,p<i→p<l.length→knd l p=2→a.getD p false=true→c p<l.length∧upM l (c p)=(p:Int)∧aO (knd l (c p))=false
 on:∀ j,j<l.length→(a.getD j false=true↔(dep l j=0∧j<i)∨∃ p,p<i∧upM l j=(p:Int)∧a.getD p false=true∧(knd l p=3∨(knd l p=2∧c p=j)))
theorem Gs (hi:i<a.length):(fR l a i).length=a.length∧((fR l a i).getD j false=true↔a.getD j false=true∨(j=i∧dep l i=0)):=by
 unfold fR
 by_cases h:dep l i=0
 · rw [if_pos (by simpa using (show (ETy.get .stat l i).depth=0 from h)),bt,nA]
   refine ⟨rfl,?_⟩
   rw [aM,af,decide_eq_true_eq,decide_eq_true_eq]
   exact ⟨fun h2=>h2.imp id fun h3=>⟨h3.1,h⟩,fun h2=>h2.imp id fun h3=>⟨h3.1,by omega⟩⟩
 · rw [if_neg (by simpa using (show ¬(ETy.get .stat l i).depth=0 from h))]
   exact ⟨rfl,⟨.inl,fun h2=>h2.elim id fun h3=>absurd h3.2 h⟩⟩
theorem mw {l:List Ev.Stat} (t:Tre l) {c c':Nat→Nat} {i:Nat} (hi:i<l.length) {a b:List Bool} (h:Mrk l c i a) (hlen:b.length=l.length) (hc:∀ p,p<i→c' p=c p) (N:Nat→Prop)
 (hb:∀ j,j<l.length→(b.getD j false=true↔(a.getD j false=true∨(j=i∧dep l i=0))∨N j))
 (hN:∀ j,j<l.length→(N j↔((a.getD i false=true∨dep l i=0)∧upM l j=(i:Int)∧(knd l i=3∨(knd l i=2∧c' i=j)))))
 (hr:(a.getD i false=true∨dep l i=0)→knd l i=2→c' i<l.length∧upM l (c' i)=(i:Int)∧aO (knd l (c' i))=false):Mrk l c' (i+1) b:=by
 have hlt:∀ {j:Nat},j<l.length→upM l j=(i:Int)→i<j:=fun {j} hj hu=>((cB t.shp hj).1 hu).1
 have nb:∀ p,p≤i→¬N p:=fun p hp hn=>by
  have:=hlt (by omega) ((hN p (by omega)).1 hn).2.1; omega
 have hbp:∀ p,p<i→(b.getD p false=true↔a.getD p false=true):=fun p hp=>by
  rw [hb p (by omega)]
  exact ⟨fun h2=>h2.elim (fun h3=>h3.elim id fun h4=>by omega) fun h3=>absurd h3 (nb p (by omega)),fun h2=>.inl (.inl h2)⟩
 have hbi:b.getD i false=true↔(a.getD i false=true∨dep l i=0):=by
  rw [hb i hi]
  exact ⟨fun h2=>h2.elim (fun h3=>h3.imp id fun h4=>h4.2) fun h3=>absurd h3 (nb i (aq _)),fun h2=>.inl (h2.imp id fun h3=>⟨rfl,h3⟩)⟩
 refine ⟨hlen,fun p hp hpl hk hp2=>?_,fun j hj=>?_⟩
 · by_cases he:p=i
   · subst he; exact hr (hbi.1 hp2) hk
   · rw [hc p (by omega)]
     exact h.real p (by omega) hpl hk ((hbp p (by omega)).1 hp2)
 · rw [hb j hj,h.on j hj,hN j hj]
   constructor
   · rintro (((⟨h1,h2⟩ | ⟨p,h1,h2,h3,h4⟩) | ⟨h1,h2⟩) | ⟨h1,h2,h3⟩)
     · exact .inl ⟨h1,by omega⟩
     · exact .inr ⟨p,by omega,h2,(hbp p h1).2 h3,by rw [hc p h1]; exact h4⟩
     · subst h1; exact .inl ⟨h2,by omega⟩
     · exact .inr ⟨i,by omega,h2,hbi.2 h1,h3⟩
   · rintro (⟨h1,h2⟩ | ⟨p,h1,h2,h3,h4⟩)
     · by_cases he:j=i
       · subst he; exact .inl (.inr ⟨rfl,h1⟩)
       · exact .inl (.inl (.inl ⟨h1,by omega⟩))
     · by_cases he:p=i
       · subst he; exact .inr ⟨hbi.1 h3,h2,h4⟩
       · refine .inl (.inl (.inr ⟨p,by omega,h2,(hbp p (by omega)).1 h3,?_⟩))
         rw [← hc p (by omega)]; exact h4
theorem l9 {l:List Ev.Stat} (t:Tre l) {ch:Nat→Int→Int} (hch:se l ch):∀ (f i:Nat) (a:List Bool) (n:Int) (c:Nat→Nat),l.length - i=f→i≤l.length→Mrk l c i a→∃ c',Mrk l c' l.length (ga l ch f i a n)
 | 0,i,a,n,c,hf,hi,h=>by
   have:i=l.length:=by omega
   subst this
   exact ⟨c,h⟩
 | f + 1, i, a,n,c,hf,hi,h=>by
   have hil:i<l.length:=by omega
   have hr:=fun j=>Gs l a i j (by rw [h.len]; exact hil)
   rw [ga]
   by_cases hon:(fR l a i).getD i false=true
   · rw [hon,b8,if_neg (by decide)]
     have hact:a.getD i false=true∨dep l i=0:=((hr i).2.1 hon).imp id fun h=>h.2
     by_cases h3:knd l i=3
     · rw [if_pos (by simpa using h3)]
       refine l9 t hch f (i+1) _ n c (by omega) (by omega) (mw t hil h ?_ (fun _ _=>rfl) (fun j=>upM l j=(i:Int)) (fun j hj=>?_) (fun j hj=>?_) fun _ hk=>?_)
       · rw [(kr _ _ 0).1,(hr 0).1,h.len]
       · rw [(kr _ _ j).2,aM,af,(hr j).2,decide_eq_true_eq,(hr j).1,h.len,bn]
         constructor
         · rintro (h4 | ⟨⟨y,hy,e⟩,_⟩)
           · exact .inl h4
           · obtain ⟨m,rfl,_,h6,_⟩:=(mM t.shp hil y).1 hy
             have e':=of_decide_eq_true e
             rw [ai] at e'
             subst e'; exact .inr h6
         · rintro (h4 | h4)
           · exact .inl h4
           · refine .inr ⟨⟨(j:Int),(mM t.shp hil _).2 ⟨j,rfl,hj,h4,?_⟩,by rw [ai]; exact decide_eq_true rfl⟩,hj⟩
             rcases t.both hj h4 with h5 | ⟨_,h5⟩
             · rw [h3] at h5; exact absurd h5 (by decide)
             · cases hp:aO (knd l j)
               · rfl
               · rcases (pO _).1 hp with h6 | h6 <;> omega
       · exact ⟨fun h4=>⟨hact,h4,.inl h3⟩,fun h4=>h4.2.1⟩
       · rw [h3] at hk; exact absurd hk (by decide)
     · rw [if_neg (by simpa using h3)]
       by_cases h2:knd l i=2
       · rw [if_pos (by simpa using h2)]
         obtain ⟨q,e,hq1,hq2,hq3⟩:=hch i n hil h2
         refine l9 t hch f (i+1) _ _ (fun p=>if p=i then q else c p) (by omega) (by omega) (mw t hil h ?_ (fun p hp=>if_neg (by omega)) (fun j=>j=q) (fun j hj=>?_) (fun j hj=>?_) fun _ _=>?_)
         · rw [bt,(hr 0).1,h.len]
         · rw [e,ai,nA,aM,af,(hr j).2,decide_eq_true_eq,decide_eq_true_eq,(hr j).1,h.len]
           exact ⟨fun h4=>h4.imp id fun h5=>h5.1,fun h4=>h4.imp id fun h5=>⟨h5,hj⟩⟩
         · rw [if_pos rfl]
           refine ⟨fun h4=>⟨hact,by rw [h4]; exact hq2,.inr ⟨h2,h4.symm⟩⟩,fun h4=>?_⟩
           rcases h4.2.2 with h5 | h5
           · exact absurd h5 h3
           · exact h5.2.symm
         · rw [if_pos rfl]; exact ⟨hq1,hq2,hq3⟩
       · rw [if_neg (by simpa using h2)]
         refine l9 t hch f (i+1) _ n c (by omega) (by omega) (mw t hil h ?_ (fun _ _=>rfl) (fun _=>False) (fun j hj=>?_) (fun j hj=>?_) fun _ hk=>absurd hk h2)
         · rw [(hr 0).1,h.len]
         · rw [(hr j).2,or_false]
         · exact ⟨fun h=>h.elim,fun h4=>h4.2.2.elim (fun h5=>h3 h5) fun h5=>h2 h5.1⟩
   · have hoff:(fR l a i).getD i false=false:=by simpa using hon
     rw [hoff,cA,if_pos rfl]
     have hno:¬(a.getD i false=true∨dep l i=0):=fun h2=>hon ((hr i).2.2 (h2.imp id fun h3=>⟨rfl,h3⟩))
     refine l9 t hch f (i+1) _ n c (by omega) (by omega) (mw t hil h ?_ (fun _ _=>rfl) (fun _=>False) (fun j hj=>?_) (fun j hj=>?_) fun h4 _=>absurd h4 hno)
     · rw [(hr 0).1,h.len]
     · rw [(hr j).2,or_false]
     · exact ⟨fun h=>h.elim,fun h4=>hno h4.1⟩
theorem qZ {l:List Ev.Stat} (t:Tre l) {ch:Nat→Int→Int} (hch:se l ch):Lgl l (cW l ch):=by
 obtain ⟨c,h⟩:=l9 t hch l.length 0 (List.replicate l.length false) 0 (fun _=>0) (by omega) (by omega) ⟨by simp,fun p hp=>by omega,fun j hj=>by
  rw [List.getD_eq_getElem?_getD,List.getElem?_replicate,if_pos hj]
  exact ⟨fun h=>(by cases h),fun h=>h.elim (fun h=>by omega) fun ⟨p,hp,_⟩=>by omega⟩⟩
 have h':Mrk l c l.length (wc l ch):=h
 refine Mp t (oh _ _) (fun j=>(wc l ch).getD j false=true) (fun p q=>c p=q) (fun y=>?_) (fun p hp hk hon=>?_) (fun j hj=>?_)
 · unfold cW
   rw [aT]
   constructor
   · rintro ⟨j,hj,rfl⟩
     rw [aA,bz] at hj
     exact ⟨j,rfl,hj.1,hj.2⟩
   · rintro ⟨j,rfl,h1,h2⟩
     exact ⟨j,by rw [aA,bz]; exact ⟨h1,h2⟩,rfl⟩
 · obtain ⟨h1,h2,h3⟩:=h'.real p hp hp hk hon
   exact ⟨c p,h1,h2,h3,rfl,fun m _ _ e=>e.symm⟩
 · rw [h'.on j hj]
   constructor
   · rintro (⟨h1,_⟩ | ⟨p,h1,h2,h3,h4⟩)
     · exact .inl h1
     · exact .inr ⟨p,h2,h3,h4⟩
   · rintro (h1 | ⟨p,h2,h3,h4⟩)
     · exact .inl ⟨h1,hj⟩
     · have:=((cB t.shp hj).1 h2).1
       exact .inr ⟨p,by omega,h2,h3,h4⟩
/-! ### which states are over -/
end Go.Proofs.YtgfifkhbfdacjaaGreatDoor
namespace Go.Proofs.YtgfifkhbfdacjaaGreatDoor
open Go Go.Ev
set_option maxRecDepth 100000
def Kid (l:List Ev.Stat) (ch:Nat→Int):Prop:=∀ k,k<l.length→knd l k=2→∃ q:Nat,ch k=(q:Int)∧q<l.length∧upM l q=(k:Int)
def gU (l:List Ev.Stat) (ch:Nat→Int) (i:Nat):List Int:=if ((ETy.get .stat l i).kind==3)=true then bb l i else if ((ETy.get .stat l i).kind==2)=true then [ch i] else []
def dnC (l:List Ev.Stat) (ch:Nat→Int):Nat→Nat→List Int
 | 0,_=>[]
 | n+1,i=>(gU l ch i).flatMap fun k=>k::dnC l ch n k.toNat
variable {l:List Ev.Stat}
theorem ix (t:Tre l) {ch:Nat→Int} (hc:Kid l ch) {i:Nat} (hi:i<l.length) (y:Int):y∈gU l ch i↔∃ m:Nat,y=(m:Int)∧m<l.length∧upM l m=(i:Int)∧(knd l i=3∨(knd l i=2∧ch i=(m:Int))):=by
 unfold gU
 by_cases h3:knd l i=3
 · rw [if_pos (by simpa using h3),dW t.shp hi]
   exact ⟨fun ⟨m,a,b,c⟩=>⟨m,a,b,c,.inl h3⟩,fun ⟨m,a,b,c,_⟩=>⟨m,a,b,c⟩⟩
 · rw [if_neg (by simpa using h3)]
   by_cases h2:knd l i=2
   · rw [if_pos (by simpa using h2),aV]
     constructor
     · rintro rfl
       obtain ⟨q,e,h4,h5⟩:=hc i hi h2
       exact ⟨q,e,h4,h5,.inr ⟨h2,e⟩⟩
     · rintro ⟨m,rfl,_,_,h | h⟩
       · exact absurd h h3
       · exact h.2.symm
   · rw [if_neg (by simpa using h2)]
     exact ⟨fun h=>(by cases h),fun ⟨m,_,_,_,h⟩=>h.elim (fun h=>absurd h h3) fun h=>absurd h.1 h2⟩
theorem yD {ch:Nat→Int} {i:Nat} (hi:i<l.length):(gU l ch i).Pairwise (fun x y=>((endM l x.toNat:Nat):Int)≤y):=by
 unfold gU
 split
 · exact (lS l (endM l i) l.length (i+1) (c7 l hi).2).1
 · split
   · exact eR _ _
   · exact .nil
theorem rN {l:List Ev.Stat} (t:Tre l) {ch:Nat→Int} (hc:Kid l ch):∀ (n i:Nat),i<l.length→(dnC l ch n i).Pairwise (· < ·)∧∀ y∈dnC l ch n i,(i:Int)<y∧y<((endM l i:Nat):Int)
 | 0,i,_=>by rw [dnC]; exact ⟨.nil,fun y h=>(by cases h)⟩
 | n + 1,i,hi=>by
   have he:=c7 l hi
   rw [dnC]
   have kid:∀ y∈gU l ch i,∃ m:Nat,y=(m:Int)∧m<l.length∧i<m∧m<endM l i:=fun y hy=>by
    obtain ⟨m,e,h1,h2,_⟩:=(ix t hc hi y).1 hy
    have:=(cB t.shp h1).1 h2
    exact ⟨m,e,h1,this.1,this.2.1⟩
   have bound:∀ m,m<l.length→∀ y∈(m:Int)::dnC l ch n m,(m:Int)≤y∧y<((endM l m:Nat):Int):=fun m hm y hy=>by
    have h1:=c7 l hm
    rcases aJ.1 hy with rfl | hy
    · omega
    · have:=(rN t hc n m hm).2 y hy; omega
   constructor
   · rw [List.pairwise_flatMap]
     refine ⟨fun a ha=>?_,?_⟩
     · obtain ⟨m,rfl,hm,_⟩:=kid a ha
       rw [ai]
       have ih:=rN t hc n m hm
       exact cy.2 ⟨fun y hy=>(ih.2 y hy).1,ih.1⟩
     · refine List.Pairwise.imp_of_mem (fun {a b} ha hb hab x hx y hy=>?_) (yD hi)
       obtain ⟨m,rfl,hm,_⟩:=kid a ha
       obtain ⟨m2,rfl,hm2,_⟩:=kid b hb
       rw [ai] at hx hy hab
       have h5:=bound m hm x hx
       have h6:=bound m2 hm2 y hy
       omega
   · intro y hy
     obtain ⟨a,ha,hy⟩:=aK.1 hy
     obtain ⟨m,rfl,hm,h5,h6⟩:=kid a ha
     rw [ai] at hy
     have h7:=bound m hm y hy
     have h8:=gB l hi h5 h6
     omega
inductive Rchd (l:List Ev.Stat) (ch:Nat→Int) (i:Nat):Nat→Prop where
 | self:Rchd l ch i i
 | step {p j:Nat}:Rchd l ch i p→j<l.length→upM l j=(p:Int)→(knd l p=3∨(knd l p=2∧ch p=(j:Int)))→Rchd l ch i j
theorem Rchd.lt (t:Tre l) {ch:Nat→Int} {i j:Nat} (hi:i<l.length) (h:Rchd l ch i j):j<l.length∧i≤j:=by
 induction h with
 | self=>exact ⟨hi,aq _⟩
 | step h1 h2 h3 _ ih=>exact ⟨h2,by have:=((cB t.shp h2).1 h3).1; omega⟩
theorem Rchd.head {ch:Nat→Int} {i q j:Nat} (hq:q<l.length) (hu:upM l q=(i:Int)) (h:knd l i=3∨(knd l i=2∧ch i=(q:Int))) (hb:Rchd l ch q j):Rchd l ch i j:=by
 induction hb with
 | self=>exact .step .self hq hu h
 | step _ h2 h3 h4 ih=>exact .step ih h2 h3 h4
theorem w7 {l:List Ev.Stat} (t:Tre l) {ch:Nat→Int} (hc:Kid l ch):∀ (n i:Nat) (y:Int),i<l.length→y∈dnC l ch n i→∃ j:Nat,y=(j:Int)∧j≠i∧Rchd l ch i j
 | 0,_,_,_,h=>by rw [dnC] at h; cases h
 | n + 1,i,y,hi,h=>by
   rw [dnC] at h
   obtain ⟨a,ha,hy⟩:=aK.1 h
   obtain ⟨m,rfl,hm,hu,hk⟩:=(ix t hc hi a).1 ha
   have him:=((cB t.shp hm).1 hu).1
   rw [ai] at hy
   rcases aJ.1 hy with rfl | hy
   · exact ⟨m,rfl,by omega,.step .self hm hu hk⟩
   · obtain ⟨j,e,_,hb⟩:=w7 t hc n m y hm hy
     have:=hb.lt t hm
     exact ⟨j,e,by omega,hb.head hm hu hk⟩
theorem wh {l:List Ev.Stat} (t:Tre l) {ch:Nat→Int} (hc:Kid l ch):∀ (n i:Nat),i<l.length→l.length - i<n→∀ {p j:Nat},(p=i∨(p:Int)∈dnC l ch n i)→j<l.length→upM l j=(p:Int)→(knd l p=3∨(knd l p=2∧ch p=(j:Int)))→(j:Int)∈dnC l ch n i
 | 0,i,hi,h,_,_,_,_,_,_=>by omega
 | n + 1,i,hi,hn,p,j,hp,hj,hu,hk=>by
   rw [dnC] at hp ⊢
   rcases hp with rfl | hp
   · refine aK.2 ⟨(j:Int),(ix t hc hi _).2 ⟨j,rfl,hj,hu,hk⟩,ax⟩
   · obtain ⟨a,ha,hy⟩:=aK.1 hp
     obtain ⟨m,rfl,hm,hum,_⟩:=(ix t hc hi a).1 ha
     have him:=((cB t.shp hm).1 hum).1
     refine aK.2 ⟨(m:Int),ha,?_⟩
     rw [ai] at hy ⊢
     refine aI _ (wh t hc n m hm (by omega) ?_ hj hu hk)
     rcases aJ.1 hy with h | h
     · exact .inl (by omega)
     · exact .inr h
theorem C3 (t:Tre l) {ch:Nat→Int} (hc:Kid l ch) {i:Nat} (hi:i<l.length) (y:Int):y∈dnC l ch (l.length+1) i↔∃ j:Nat,y=(j:Int)∧j≠i∧Rchd l ch i j:=by
 refine ⟨w7 t hc _ i y hi,?_⟩
 rintro ⟨j,rfl,hne,h⟩
 induction h with
 | self=>exact absurd rfl hne
 | @step p j h1 h2 h3 h4 ih =>
   refine wh t hc _ i hi (by omega) ?_ h2 h3 h4
   by_cases hp:p=i
   · exact .inl hp
   · exact .inr (ih hp)
/-! ### the document's words -/
/-! ### targets -/
def dw (l:List Ev.Stat) (ts:List Int) (k:Int):Bool:=ts.any fun t=>decide (t≥k)&&decide (t<((endM l k.toNat:Nat):Int))
def gn (l:List Ev.Stat) (ts:List Int) (i:Nat):Int:=match (bb l i).find? fun k=>dw l ts k with
 | some k=>k
 | none=>az l (ETy.get .stat l i).initial
def dnM (l:List Ev.Stat) (ts:List Int) (i:Nat):List Int:=dnC l (gn l ts) (l.length+1) i
theorem iz (t:Tre l) (ts:List Int):Kid l (gn l ts):=by
 intro k hk h2
 unfold gn
 cases hf:(bb l k).find? fun y=>dw l ts y with
 | none =>
   obtain ⟨q,e,hq,hu,_⟩:=t.init hk h2
   exact ⟨q,e,hq,hu⟩
 | some y =>
   obtain ⟨m,e,hm,hu⟩:=(dW t.shp hk y).1 (List.mem_of_find?_eq_some hf)
   exact ⟨m,e,hm,hu⟩
end Go.Proofs.YtgfifkhbfdacjaaGreatDoor

/- What a transition leaves and enters; what is made by choices (plain). Conditions: a valid chart. Contracts: moves.Enter. Conditions: sizes. Contracts: the layer's example holds. Conditions: none. -/
import Derived.Test.YtgfifkhbfdacjaaGreatDoorEa
import Derived.Test.YtgfifkhbfdacjaaGreatDoorCr
import Derived.Test.YtgfifkhbfdacjaaGreatDoorNh
import Derived.Test.YtgfifkhbfdacjaaGreatDoorEg
import Derived.Test.YtgfifkhbfdacjaaGreatDoorEq
import Derived.Test.YtgfifkhbfdacjaaGreatDoorEo
namespace Go.Proofs.YtgfifkhbfdacjaaGreatDoor
open Go Go.Ev
set_option maxRecDepth 100000
variable (l:List Ev.Stat) (tr:Tran) {c:Chart} (ps:List Past) (s:List Int)
def KC (d:Int):List Int:=s.filter fun k=>decide ((ETy.get .stat l k.toNat).depth≥d)
def tA (l:List Ev.Stat):Nat→List (List Int)→List Past→List Past
 | _,[],out=>out
 | i,p::r,out=>if 5<i then out else tA l (i+1) r (oX l (cZ l (chM l p)) (KC l (cZ l (chM l p)) ((i % 3:Nat):Int)) out)
def mdM (ps:List (List Int)):List Past:=tA l 0 ps []
def sk (tg:Int):List Int:=if aM (ETy.get .stat l tg.toNat).kind=true then (match dI ps tg with
 | some p=>p.set
 | none=>[av l (ETy.get .stat l tg.toNat).initial]) else [tg]
def gP:List Int:=if (tr.dst==[])=true then [] else dnM l (sk l ps (av l tr.dst)) (di l tr.src (av l tr.dst)).toNat
def gv:List Int:=if (tr.dst==[])=true then [] else s.filter fun k=>dB l (di l tr.src (av l tr.dst)) k.toNat
def fQ (left enter:List Int):List Int:=((List.range l.length).filter fun i:Nat=>inB enter (i:Int)||inB s (i:Int) && !inB left (i:Int)).map fun i:Nat=>(i:Int)
theorem Bh {l:List Ev.Stat} (t:Tre l):∀ (ps:List (List Int)) (i:Nat) (out:List Past),(∀ p∈ps,∀ b∈p,0≤b∧b≤255)→b5 (cf l) none out=true→b5 (cf l) none (tA l i ps out)=true
 | [],_,_,_,h=>h
 | p :: r,i,out,hp,h=>by
   rw [tA]
   by_cases hi:5<i
   · rw [if_pos hi]; exact h
   · rw [if_neg hi]
     exact Bh t r _ _ (fun q hq=>hp q (aJ _ hq)) (Ek t (kP t (kR t (hp p aD))) h)
theorem rB {l:List Ev.Stat} (t:Tre l) {ps:List (List Int)} (hp:∀ p∈ps,∀ b∈p,0≤b∧b≤255):b5 (cf l) none (mdM l ps)=true:=Bh t ps 0 [] hp rfl
/-! ### transitions -/
theorem Fb {l:List Ev.Stat} (t:Tre l) (j:Int):∀ (n:Nat) (k:Int),k<(l.length:Int)→0≤gH l j n k→∃ d:Nat,gH l j n k=(d:Int)∧d<l.length∧knd l d=2∧(d:Int)<j∧j<((endM l d:Nat):Int)∧(k=(d:Int)∨((d:Int)<k∧k<((endM l d:Nat):Int)))
 | 0,k,_,h=>by rw [gH] at h; omega
 | n + 1,k,hk,h=>by
   rw [gH] at h ⊢
   by_cases h0:k<0
   · rw [if_pos h0] at h; omega
   · rw [if_neg h0] at h ⊢
     obtain ⟨q,rfl⟩:=aB (show 0≤k by omega)
     have hq:q<l.length:=by omega
     by_cases hb:((ETy.get .stat l (q:Int).toNat).kind==2&&decide (j>(q:Int))&&decide (j<((endM l (q:Int).toNat:Nat):Int)))=true
     · rw [if_pos hb]
       rw [af,af,decide_eq_true_eq,decide_eq_true_eq,ai] at hb
       exact ⟨q,rfl,hq,eq_of_beq hb.1.1,by omega,hb.2,.inl rfl⟩
     · rw [if_neg hb] at h ⊢
       rw [ai] at h ⊢
       have hup:=kS l (ETy.get .stat l q).depth q
       rcases lC l q with ⟨e,_⟩ | ⟨p,e,hpq,_⟩
       · rw [e] at h
         cases n with
         | zero=>rw [gH] at h; omega
         | succ n=>rw [gH,if_pos (by omega)] at h; omega
       · rw [e] at h ⊢
         obtain ⟨d,h1,h2,h3,h4,h5,h6⟩:=Fb t j n (p:Int) (by omega) h
         refine ⟨d,h1,h2,h3,h4,h5,.inr ?_⟩
         have hk2:=(cI t.shp hq).1 e
         rcases h6 with h6 | h6
         · have:p=d:=by omega
           subst this; omega
         · have:=jL l h2 (q:=p) (by omega) (by omega)
           omega
theorem tu (v:Valid c) {i:Nat} (hi:i<c.trans.length) (hd:(ETy.get .tran c.trans i).dst≠[]):∃ tg d:Nat,av c.states (ETy.get .tran c.trans i).dst=(tg:Int)∧tg<c.states.length∧di c.states (ETy.get .tran c.trans i).src (av c.states (ETy.get .tran c.trans i).dst)=(d:Int)∧d<c.states.length∧knd c.states d=2∧d<tg∧tg<endM c.states d ∧
 ((ETy.get .tran c.trans i).src=(d:Int)∨((d:Int)<(ETy.get .tran c.trans i).src∧(ETy.get .tran c.trans i).src<((endM c.states d:Nat):Int))):=by
 have t:=v.tre
 have hz:=(rj c i _ _).1 (v.trans i hi)
 have h0:=hz.2.2.2
 have hto:=Jo v hi hd
 unfold eL at h0
 rw [if_pos (by simpa using hd),if_neg (by rw [decide_eq_false (by omega)]; decide)] at h0
 have hdm:0≤di c.states (ETy.get .tran c.trans i).src (av c.states (ETy.get .tran c.trans i).dst):=by
  by_cases h:decide (di c.states (ETy.get .tran c.trans i).src (av c.states (ETy.get .tran c.trans i).dst)<0)=true
  · rw [if_pos h] at h0; exact absurd h0 (by decide)
  · have:=of_decide_eq_false (bR _ ▸ h); omega
 rcases iZ c.states (ETy.get .tran c.trans i).dst with ⟨e,_⟩ | ⟨tg,e,hl,_⟩
 · omega
 · rw [e] at hdm ⊢
   unfold di at hdm ⊢
   by_cases hh:(bV c.states (ETy.get .tran c.trans i).src&&bV c.states (tg:Int))=true
   · rw [if_pos hh] at hdm ⊢
     have hs:(ETy.get .tran c.trans i).src<(c.states.length:Int):=by
      have hb:=hz.1
      unfold gd at hb
      simp only [ay,decide_eq_false_iff_not] at hb
      omega
     obtain ⟨d,h1,h2,h3,h4,h5,h6⟩:=Fb t _ _ _ hs hdm
     exact ⟨tg,d,rfl,hl,h1,h2,h3,by omega,by omega,h6⟩
   · rw [if_neg hh] at hdm; omega
theorem EY {l:List Ev.Stat} (t:Tre l) {ps:List Past} (hps:b5 (cf l) none ps=true) {tg:Nat} (ht:tg<l.length):∀ x∈sk l ps (tg:Int),∃ k:Nat,x=(k:Int)∧k<l.length∧aM (knd l k)=false:=by
 intro x hx
 unfold sk at hx
 rw [ai] at hx
 by_cases hp:aM (ETy.get .stat l tg).kind=true
 · rw [if_pos hp] at hx
   cases hf:dI ps (tg:Int) with
   | none =>
     rw [hf] at hx
     rw [aR] at hx
     have h0:=t.inits tg ht
     unfold dk at h0
     have hk2:((ETy.get .stat l tg).kind != 2 && !aM (ETy.get .stat l tg).kind)=false:=by rw [hp]; simp
     rw [hk2,if_neg (by decide)] at h0
     rcases iZ l (ETy.get .stat l tg).initial with ⟨e,_⟩ | ⟨q,e,hq,_⟩
     · rw [e] at h0
       rw [show decide ((-1:Int)<0)=true by decide,b6,if_pos rfl] at h0
       exact absurd h0 (by decide)
     · rw [e] at h0 hx
       rw [decide_eq_false (by omega),ba,ai] at h0
       refine ⟨q,hx,hq,?_⟩
       cases hpq:aM (ETy.get .stat l q).kind
       · rfl
       · rw [hpq,if_pos rfl] at h0; exact absurd h0 (by decide)
   | some p =>
     rw [hf] at hx
     obtain ⟨h1,h2⟩:=nx hf
     have h3:=(o8 hps).2.2 p h1
     unfold cf at h3
     rw [h2,ai,hp,decide_eq_false (by omega),decide_eq_false (by omega),if_neg (by decide)] at h3
     obtain ⟨u,hu,_,hul,_⟩:=pQ t ht hp
     rw [hu,ai] at h3
     by_cases h5:((ETy.get .stat l tg).kind==5)=true
     · rw [if_pos h5,af,af] at h3
       have hl1:p.set.length=1:=eq_of_beq h3.1.1
       match hs:p.set,hl1 with
       | [y],_ =>
         have hx':x∈[y]:=by rw [← hs]; exact hx
         rw [aR] at hx'
         subst hx'
         rw [hs] at h3
         have e2:ETy.get .int [x] 0=x:=rfl
         rw [e2] at h3
         obtain ⟨m,rfl,hm,_⟩:=(dU t.shp hul _).1 ((cu _ _).1 h3.1.2)
         rw [ai] at h3
         exact ⟨m,rfl,hm,by simpa using h3.2⟩
     · rw [if_neg h5,af] at h3
       have he:=eq_of_beq h3.2
       have hx':x∈b9 l (dnM l p.set u):=by rw [he]; exact hx
       obtain ⟨h6,h7⟩:=aw.1 hx'
       have hd:=(lZ t (iv t p.set) (l.length+1) u hul).2 x h6
       have hee:=cH l hul
       obtain ⟨k,rfl⟩:=aB (show 0≤x by omega)
       refine ⟨k,rfl,by omega,?_⟩
       have h7':((ETy.get .stat l k).kind==1||(ETy.get .stat l k).kind==4)=true:=h7
       show ((ETy.get .stat l k).kind==5||(ETy.get .stat l k).kind==6)=false
       rw [aL] at h7'
       rcases h7' with h8 | h8
       · rw [eq_of_beq h8]; decide
       · rw [eq_of_beq h8]; decide
 · rw [if_neg hp] at hx
   rw [aR] at hx
   exact ⟨tg,hx,ht,fk.2 hp⟩
theorem El {l:List Ev.Stat} (t:Tre l) {s:List Int} (h:Lgl l s) {d:Nat} (hd:d<l.length):∀ (n i:Nat),i<n→i<l.length→(i:Int)∈s→(i=d∨(d<i∧i<endM l d))→(d:Int)∈s
 | 0,i,h0,_,_,_=>by omega
 | n + 1,i,hn,hi,his,hw=>by
   rcases hw with rfl | hw
   · exact his
   · obtain ⟨h1,h2⟩:=(jI l hi (by omega)).1 hw
     obtain ⟨p,hp⟩:=aB h1
     have hk:=(cI t.shp hi).1 hp
     refine El t h hd n p (by omega) (by omega) (h.par i p hi his hp) ?_
     rw [hp] at h2; omega
theorem yw {l:List Ev.Stat} {s:List Int} (h:Lgl l s):fQ l s [] []=s:=by
 unfold fQ
 refine iR (gN _ _) h.inc fun y=>?_
 rw [aV]
 constructor
 · rintro ⟨i,hi,rfl⟩
   rw [aw] at hi
   have h2:(false||inB s (i:Int) && !false)=true:=hi.2
   have h3:inB s (i:Int)=true:=by simpa using h2
   exact (cu _ _).1 h3
 · intro hy
   obtain ⟨i,rfl,hi,_⟩:=h.rng y hy
   refine ⟨i,?_,rfl⟩
   rw [aw,bu]
   refine ⟨hi,?_⟩
   have h3:inB s (i:Int)=true:=(cu _ _).2 hy
   show (false||inB s (i:Int) && !false)=true
   rw [h3]; rfl
theorem Jt (v:Valid c) {i:Nat} (hi:i<c.trans.length) {s:List Int} (h:Lgl c.states s) (hsrc:(ETy.get .tran c.trans i).src∈s) {ps:List Past} (hps:b5 (cf c.states) none ps=true) :
 Lgl c.states (fQ c.states s (gv c.states (ETy.get .tran c.trans i) s) (gP c.states (ETy.get .tran c.trans i) ps))∧(∀ y∈gP c.states (ETy.get .tran c.trans i) ps,y∈s→y∈gv c.states (ETy.get .tran c.trans i) s) ∧
 ∀ y∈gP c.states (ETy.get .tran c.trans i) ps,0≤y∧y<(c.states.length:Int):=by
 have t:=v.tre
 unfold gv gP
 by_cases hd0:((ETy.get .tran c.trans i).dst==[])=true
 · rw [if_pos hd0,if_pos hd0,yw h]
   exact ⟨h,fun y hy=>(by cases hy),fun y hy=>(by cases hy)⟩
 · rw [if_neg hd0,if_neg hd0]
   obtain ⟨tg,d,e1,hto,e2,hd,hk,h1,h2,h3⟩:=tu v hi (fun e=>hd0 (by rw [e]; rfl))
   rw [e2,e1,ai]
   have hts:=EY t hps hto
   generalize sk c.states ps (tg:Int)=ts at hts
   have hdn:=lZ t (iv t ts) (c.states.length+1) d hd
   have hee:=cH c.states hd
   obtain ⟨q,eq,hq,_⟩:=h.rng _ hsrc
   have hds:(d:Int)∈s:=El t h hd (q+1) q (by omega) hq (by rw [← eq]; exact hsrc) (by rw [eq] at h3; omega)
   have hwit:∀ j:Nat,j<c.states.length→(dB c.states (d:Int) j=true↔d<j∧j<endM c.states d):=fun j hj=>by
    rw [oM t.shp hj,af,decide_eq_true_eq,decide_eq_true_eq]
   refine ⟨?_,fun y hy hys=>?_,fun y hy=>?_⟩
   · unfold fQ
     refine Cy t h (JI t hts) hd hds (gN _ _) (fun j hj=>?_) fun y hy=>?_
     · rw [aV]
       constructor
       · rintro ⟨m,hm,e⟩
         have:m=j:=by omega
         subst this
         rw [aw,aL,af,cu,cu] at hm
         rcases hm.2 with h5 | ⟨h5,h6⟩
         · exact .inl h5
         · refine .inr ⟨h5,fun hin=>?_⟩
           have h7:inB (s.filter fun k=>dB c.states (d:Int) k.toNat) (m:Int)=true:=(cu _ _).2 (aw.2 ⟨h5,by rw [ai]; exact (hwit m hj).2 hin⟩)
           rw [h7] at h6; cases h6
       · intro h5
         refine ⟨j,?_,rfl⟩
         rw [aw,bu,aL,af,cu,cu]
         refine ⟨hj,?_⟩
         rcases h5 with h5 | ⟨h5,h6⟩
         · exact .inl h5
         · refine .inr ⟨h5,?_⟩
           rw [aF,fk]
           intro h7
           have h8:=(aw.1 ((cu _ _).1 h7)).2
           rw [ai] at h8
           exact h6 ((hwit j hj).1 h8)
     · obtain ⟨m,hm,rfl⟩:=aV.1 hy
       exact ⟨m,rfl,bu.1 (aw.1 hm).1⟩
   · have h5:=hdn.2 y hy
     refine aw.2 ⟨hys,?_⟩
     obtain ⟨m,rfl,hm,_⟩:=h.rng y hys
     rw [ai]
     exact (hwit m hm).2 (by omega)
   · have h5:=hdn.2 y hy
     omega
end Go.Proofs.YtgfifkhbfdacjaaGreatDoor
namespace Go.Proofs.YtgfifkhbfdacjaaGreatDoor
open Go Go.Ev
set_option maxRecDepth 100000
def Gn:Cfg:=⟨aZ,[]⟩
theorem F4:ag Tryz.prog Gn.tab:=ag.nil
theorem Lu (p:Past) (t:Int):ah Tryz.prog 40 [.e .past p,.p (.ref .int t 0)] [] (.x (.b (p.state==t))) []:=by
 refine dg F4 Tryz.func40 (.ret (.p (.bool (Past.state p==t))) []) fun Γ=>⟨rfl,rfl⟩
def eE1:Ent:=(40,fun
 | [.agg [.pd (.int .i64 a),.pd (.lst .int b)],.c (.pd (.ref .int t 0))],[]=>some (none,.x (.c (.pd (.bool (a==t)))),[])
 | _,_=>none)
theorem NP:EntOk Tryz.prog eE1:=entOk fun vs ck=>by
 unfold eE1; dsimp only; split
 · rename_i a b t; exact entS fun hp=>Lu ⟨a,b⟩ t
 · exact entN
def xL:Cfg:=⟨aZ,[eE1]⟩
theorem vp:ag Tryz.prog xL.tab:=(ag.cons NP ag.nil)
abbrev zEl1:List PI:=[.code [1,0,1,0,0],.inLoop [1,0,1,0,0],.inBlock 0,.code [1,1]]
variable (c:Chart) (t:Int) (l ps:List Past)
theorem IQ (t:Int) (Γ:Ctx) (hl:l.length≤maxLen)  : ∀ (n k:Nat),l.length - k≤n→k≤l.length →
 J Tryz.prog 39 (au Tryz.f39) Γ (Eq2 (.x (.i (aE (fun p:Past=>p.state==t) (l.drop k) k))) []) zEl1 ({ n:=19,fr:=[(0,.p (.lst .past l)),(1,.x (.c (.fn (.func 40) [] [.pd (.ref .int t 0)]))),(4,.i 0),(7,.i l.length),(8,.i k)],ck:=[] }):=by
 intro n
 induction n with
 | zero=>?_
 | succ n ih=>?_
 all_goals
  intro k hn hk
  refine jg vp Tryz.func39 (.ite (decide ((k:Int)<(l.length:Int))) (.need (inRg k l.length) (.ite (Past.state (ETy.get .past l k)==t) (.ret (.i k) []) (.stop zEl1 { n:=19,fr:=[(0,.p (.lst .past l)),(1,.x (.c (.fn (.func 40) [] [.pd (.ref .int t 0)]))),(4,.i 0),(7,.i l.length),(8,.i (IntKind.wrap .i64 ((k:Int)+1)))],ck:=[] }))) (.ret (.i (-1:Int)) [])) ?_
  refine ⟨fun hlt=>?_,fun hge=>?_⟩
  · have hk':k<l.length:=by have:=of_decide_eq_true hlt; omega
    rw [bz (t:=.past) (l:=l) hk']
    refine ⟨by omega,?_⟩
    generalize ETy.get .past l k=v
    refine ⟨fun hb=>⟨?_,rfl⟩,fun hb=>?_⟩
    · have hb':((v:Past).state==t)=true:=hb
      simp only [aE,hb',cond_true]
    · have hb':((v:Past).state==t)=false:=hb
      simp only [aE,hb',cond_false]; (rw [aW (aA hk' hl)]; first | (exfalso; omega) | exact ih (k+1) (by omega) (by omega))
  · rw [bN (l:=l) (by have:=of_decide_eq_false hge; omega)]
    exact ⟨rfl,rfl⟩
theorem Ik (t:Int):ah Tryz.prog 39 [.l .past (l),SX.c (SC.fn (Fn.func 40) [] [RC.pd (PD.ref ETy.int t 0)])] [] (.x (.i (aE (fun p:Past=>p.state==t) l 0))) []:=by
 refine dg vp Tryz.func39 (.stop zEl1 { n:=19,fr:=[(0,.p (.lst .past l)),(1,.x (.c (.fn (.func 40) [] [.pd (.ref .int t 0)]))),(4,.i 0),(7,.i l.length),(8,.i 0)],ck:=[] }) fun Γ=>?_
 exact J.len 0 rfl fun hl=>IQ l t Γ hl l.length 0 (by omega) (by omega)
def DJ:Ent:=(39,fun
 | [.c (.pd (.lst .past l)),.c (.fn (.func 40) [] [.pd (.ref .int t 0)])],[]=>some (none,.x (.c (.pd (.int .i64 (aE (fun p:Past=>p.state==t) l 0)))),[])
 | _,_=>none)
theorem Ml:EntOk Tryz.prog DJ:=entOk fun vs ck=>by
 unfold DJ; dsimp only; split
 · rename_i l t; exact entS fun hp=>Ik l t
 · exact entN
def wQ:Cfg:=⟨aZ,[mr,ki,mQ,jb,DJ,rm]⟩
theorem uN:ag Tryz.prog wQ.tab:=(ag.cons r3 (ag.cons j3 (ag.cons ra (ag.cons iT (ag.cons Ml (ag.cons xQ ag.nil))))))
def iD:Bool:=decide (t<0)||decide (t≥(c.trans.length:Int))||(ETy.get .tran c.trans t.toNat).dst==[] || !(bH c==0&&b5 (cf c.states) none ps)
def dC:List Int:=if iD c t ps=true then [] else gP c.states (ETy.get .tran c.trans t.toNat) ps
theorem nE (t:Int):∀ (ps:List Past) (k:Int),(aE (fun p:Past=>p.state==t) ps k = -1∧dI ps t=none)∨∃ j:Nat,j<ps.length∧aE (fun p:Past=>p.state==t) ps k=k+(j:Int)∧dI ps t=some (ETy.get .past ps j)
 | [],k=>.inl ⟨rfl,rfl⟩
 | p :: r,k=>by
   cases hb:p.state==t
   · have e1:dI (p::r) t=dI r t:=by unfold dI; rw [List.find?_cons,hb]
     have e2:aE (fun p:Past=>p.state==t) (p::r) k=aE (fun p:Past=>p.state==t) r (k+1):=by simp only [aE,hb,cond_false]
     rcases nE t r (k+1) with ⟨h1,h2⟩ | ⟨j,h1,h2,h3⟩
     · exact .inl ⟨by rw [e2,h1],by rw [e1,h2]⟩
     · exact .inr ⟨j+1,by simp; omega,by rw [e2,h2]; omega,by rw [e1,h3]; rfl⟩
   · have e1:dI (p::r) t=some p:=by unfold dI; rw [List.find?_cons,hb]
     exact .inr ⟨0,by simp,by simp only [aE,hb,cond_true]; omega,by rw [e1]; rfl⟩
theorem Dn {a b:Bool} (h:(a||b)=false):a=false∧b=false:=by rwa [ay] at h
theorem KE {t:Int} {n:Nat} (h:(decide (t<0)||decide (t≥(n:Int)))=false):0≤t∧t<(n:Int):=by
 have h1:=Dn h
 have:=of_decide_eq_false h1.1
 have:=of_decide_eq_false h1.2
 omega
theorem MD (hz:c.vars.length≤2199023255552∧c.states.length≤2199023255552) (h:iD c t ps=true):ah Tryz.prog 15 [.e .chart c,.i t,.l .past ps] [] (.x (.c (.pd (.v (.slice none 0 0))))) []:=by
 refine dg uN Tryz.func15 (let x1:=(ETy.get .tran c.trans (Int.toNat t)); let x3:=(av c.states (Tran.dst x1)); let x2:=(Tre c.states∧(0:Int)≤di c.states (Tran.src x1) x3∧di c.states (Tran.src x1) x3<(c.states.length:Int)); let x4:=((0:Int)≤av c.states (Tran.dst x1)∧av c.states (Tran.dst x1)<(c.states.length:Int)); let x5:=(c.trans.length:Int); let x6:=((di c.states (Tran.src x1) x3).toNat); let x7:=[av c.states (Tran.dst x1)]; let x8:=(ETy.get .stat c.states (x3.toNat)); .need ((decide (t<(0:Int))||decide (t≥x5))=false→(0:Int)≤t∧t<x5) (.need ((decide (t<(0:Int))||decide (t≥x5)||Tran.dst x1==[])=false→c.vars.length≤2199023255552∧c.states.length≤2199023255552) (.ite (decide (t<(0:Int))||decide (t≥x5)||Tran.dst x1==[] || !(bH c==(0:Int)&&b5 (cf c.states) none ps)) (.ret (.p (.v (Value.slice none 0 0))) []) (.need ((0:Int)≤t∧t<x5) (.need ((0:Int)≤t∧t<x5) (.need (c.states.length≤maxLen) (.need x4 (.ite (aM (Stat.kind x8)) (.need x4 (.need ((0:Int)≤0∧(0:Int)<(↑(List.length x7):Int)) (.need (0<List.length x7) (.ite (decide (aE (fun p=>Past.state p==av c.states (Tran.dst x1)) ps (0:Int)≥0)) (.need ((0:Int)≤aE (fun p=>Past.state p==av c.states (Tran.dst x1)) ps (0:Int)∧aE (fun p=>Past.state p==av c.states (Tran.dst x1)) ps (0:Int)<(ps.length:Int)) (.need x2 (.ret (.p (.lst .int (dnM c.states (Past.set (ETy.get .past ps ((aE (fun p=>Past.state p==av c.states (Tran.dst x1)) ps (0:Int)).toNat))) x6))) []))) (.need x2 (.ret (.p (.lst .int (dnM c.states [av c.states (Stat.initial x8)] x6))) [])))))) (.need x2 (.ret (.p (.lst .int (dnM c.states x7 x6))) [])))))))))) fun Γ=>?_
 conv=>zeta
 refine ⟨fun h1=>KE h1,fun _=>hz,fun _=>⟨rfl,rfl⟩,fun h1=>?_⟩
 have h1':iD c t ps=false:=h1
 rw [h] at h1'; cases h1'
theorem NT (hz:c.vars.length≤2199023255552∧c.states.length≤2199023255552) (h:iD c t ps=false):ah Tryz.prog 15 [.e .chart c,.i t,.l .past ps] [] (.x (.c (.pd (.lst .int (gP c.states (ETy.get .tran c.trans t.toNat) ps))))) []:=by
 have h0:=h
 unfold iD at h0
 have h1:=Dn h0
 have h2:=Dn h1.1
 have hin:=KE h2.1
 have h3:(bH c==0&&b5 (cf c.states) none ps)=true:=by simpa using h1.2
 rw [af] at h3
 have v:=(iV c).1 (eq_of_beq h3.1)
 have hst:=(lI c).1 v.few
 have hmc:c.states.length≤maxLen:=by unfold maxLen; omega
 have hi:t.toNat<c.trans.length:=by omega
 obtain ⟨tg,d,e1,e2,e3,e4,_⟩:=tu v hi (by intro e; rw [e] at h2; exact absurd h2.2 (by decide))
 refine dg uN Tryz.func15 (let x1:=(ETy.get .tran c.trans (Int.toNat t)); let x3:=(av c.states (Tran.dst x1)); let x2:=(Tre c.states∧(0:Int)≤di c.states (Tran.src x1) x3∧di c.states (Tran.src x1) x3<(c.states.length:Int)); let x4:=((0:Int)≤av c.states (Tran.dst x1)∧av c.states (Tran.dst x1)<(c.states.length:Int)); let x5:=(c.trans.length:Int); let x6:=((di c.states (Tran.src x1) x3).toNat); let x7:=[av c.states (Tran.dst x1)]; let x8:=(ETy.get .stat c.states (x3.toNat)); .need ((decide (t<(0:Int))||decide (t≥x5))=false→(0:Int)≤t∧t<x5) (.need ((decide (t<(0:Int))||decide (t≥x5)||Tran.dst x1==[])=false→c.vars.length≤2199023255552∧c.states.length≤2199023255552) (.ite (decide (t<(0:Int))||decide (t≥x5)||Tran.dst x1==[] || !(bH c==(0:Int)&&b5 (cf c.states) none ps)) (.ret (.p (.v (Value.slice none 0 0))) []) (.need ((0:Int)≤t∧t<x5) (.need ((0:Int)≤t∧t<x5) (.need (c.states.length≤maxLen) (.need x4 (.ite (aM (Stat.kind x8)) (.need x4 (.need ((0:Int)≤0∧(0:Int)<(↑(List.length x7):Int)) (.need (0<List.length x7) (.ite (decide (aE (fun p=>Past.state p==av c.states (Tran.dst x1)) ps (0:Int)≥0)) (.need ((0:Int)≤aE (fun p=>Past.state p==av c.states (Tran.dst x1)) ps (0:Int)∧aE (fun p=>Past.state p==av c.states (Tran.dst x1)) ps (0:Int)<(ps.length:Int)) (.need x2 (.ret (.p (.lst .int (dnM c.states (Past.set (ETy.get .past ps ((aE (fun p=>Past.state p==av c.states (Tran.dst x1)) ps (0:Int)).toNat))) x6))) []))) (.need x2 (.ret (.p (.lst .int (dnM c.states [av c.states (Stat.initial x8)] x6))) [])))))) (.need x2 (.ret (.p (.lst .int (dnM c.states x7 x6))) [])))))))))) fun Γ=>?_
 conv=>zeta
 unfold gP sk
 rw [e3,e1,h2.2,if_neg (by decide),ai,ai]
 refine ⟨fun _=>hin,fun _=>hz,fun h5=>?_,fun _=>⟨hin,hin,hmc,⟨by omega,by omega⟩,fun hp=>?_,fun hp=>?_⟩⟩
 · exfalso
   have h5':(decide (t<0)||decide (t≥(c.trans.length:Int))||false || !(bH c==0&&b5 (cf c.states) none ps))=true:=h5
   rw [← h2.2,h0] at h5'; cases h5'
 · rw [if_pos (by exact hp)]
   refine ⟨⟨by omega,by omega⟩,⟨by omega,Int.one_pos⟩,Nat.one_pos,fun hf=>?_,fun hf=>?_⟩
   · rcases nE (tg:Int) ps 0 with ⟨f1,f2⟩ | ⟨j,f1,f2,f3⟩
     · rw [f1] at hf; exact absurd hf (by decide)
     · rw [f2,f3,Int.zero_add,ai]
       exact ⟨⟨by omega,by omega⟩,⟨v.tre,by omega,by omega⟩,rfl,rfl⟩
   · rcases nE (tg:Int) ps 0 with ⟨f1,f2⟩ | ⟨j,f1,f2,f3⟩
     · rw [f2]
       exact ⟨⟨v.tre,by omega,by omega⟩,rfl,rfl⟩
     · rw [f2] at hf
       exact absurd (of_decide_eq_false hf) (by omega)
 · rw [if_neg (by rw [show aM (ETy.get .stat c.states tg).kind=false from hp]; decide)]
   exact ⟨⟨v.tre,by omega,by omega⟩,rfl,rfl⟩
theorem xx (hz:c.vars.length≤2199023255552∧c.states.length≤2199023255552):ah Tryz.prog 15 [.e .chart c,.i t,.l .past ps] [] (.x (.c (.pd (.lst .int (dC c t ps))))) []:=by
 unfold dC
 by_cases h:iD c t ps=true
 · rw [if_pos h]
   exact ah.ret (MD c t ps hz h) fun V v hv=>lN hv
 · rw [if_neg h]
   exact NT c t ps hz (fk.2 h)
def pL:Ent:=(15,fun
 | [.agg [.pd (.str a),.pd (.lst .str b),.pd (.lst .var c),.pd (.lst .stat d),.pd (.lst .tran e)],.c (.pd (.int .i64 t)),.c (.pd (.lst .past ps))],[]=>some (some (c.length≤2199023255552∧d.length≤2199023255552),.x (.c (.pd (.lst .int (dC ⟨a,b,c,d,e⟩ t ps)))),[])
 | _,_=>none)
theorem DD:EntOk Tryz.prog pL:=entOk fun vs ck=>by
 unfold pL; dsimp only; split
 · rename_i a b c d e t ps; exact entS fun hp=>xx ⟨a,b,c,d,e⟩ t ps hp
 · exact entN
end Go.Proofs.YtgfifkhbfdacjaaGreatDoor
namespace Go.Proofs.YtgfifkhbfdacjaaGreatDoor
open Go Go.Ev
set_option maxRecDepth 100000
theorem y6 {V:Vn} {a:Str} {b:List Str} {d:List Ev.Stat} {e:List Tran} {u:Value} (h:SX.R V (.agg [.pd (.str a),.pd (.lst .str b),.pd (.v (.slice none 0 0)),.pd (.lst .stat d),.pd (.lst .tran e)]) u):SX.R V (.e .chart ⟨a,b,[],d,e⟩) u:=by
 obtain ⟨us,e,hu⟩:=h
 refine ⟨us,e,?_⟩
 cases hu with | cons h0 hu=>cases hu with | cons h1 hu=>cases hu with | cons h2 hu=>cases hu with | cons h3 hu=>cases hu with | cons h4 hu =>
  cases hu
  exact .cons h0 (.cons h1 (.cons (lN h2) (.cons h3 (.cons h4 .nil))))
variable (a:Str) (b:List Str) (d:List Ev.Stat) (e:List Tran) (ps:List Past)
theorem BT (l left:List Int) (h:d.length≤2199023255552):ah Tryz.prog 18 [.agg [.pd (.str a),.pd (.lst .str b),.pd (.v (.slice none 0 0)),.pd (.lst .stat d),.pd (.lst .tran e)],.l .int l,.l .int left,.l .past []] [] (.x (.c (.pd (.lst .past (qV ⟨a,b,[],d,e⟩ l left))))) [] :=
 ah.sub (fun V vs hv=>by
  cases hv with | cons h1 hv=>exact .cons (y6 h1) hv) (Gr ⟨a,b,[],d,e⟩ l left ⟨by simp,h⟩)
def rL:Ent:=(18,fun
 | [.agg [.pd (.str a),.pd (.lst .str b),.pd (.v (.slice none 0 0)),.pd (.lst .stat d),.pd (.lst .tran e)],.c (.pd (.lst .int l)),.c (.pd (.lst .int left)),.c (.pd (.lst .past []))],[]=>some (some (d.length≤2199023255552∧qV ⟨a,b,[],d,e⟩ l left=[⟨5,[4]⟩]),.x (.c (.pd (.lst .past [⟨5,[4]⟩]))),[])
 | _,_=>none)
theorem E5:EntOk Tryz.prog rL:=entOk fun vs ck=>by
 unfold rL; dsimp only; split
 · rename_i a b d e l left; exact entS fun hp=>by rw [← hp.2]; exact BT a b d e l left hp.1
 · exact entN
theorem tZ (t:Int) (ps:List Past) (h:d.length≤2199023255552):ah Tryz.prog 15 [.agg [.pd (.str a),.pd (.lst .str b),.pd (.v (.slice none 0 0)),.pd (.lst .stat d),.pd (.lst .tran e)],.i t,.l .past ps] [] (.x (.c (.pd (.lst .int (dC ⟨a,b,[],d,e⟩ t ps))))) [] :=
 ah.sub (fun V vs hv=>by
  cases hv with | cons h1 hv=>exact .cons (y6 h1) hv) (xx ⟨a,b,[],d,e⟩ t ps ⟨by simp,h⟩)
def qZ:Ent:=(15,fun
 | [.agg [.pd (.str a),.pd (.lst .str b),.pd (.v (.slice none 0 0)),.pd (.lst .stat d),.pd (.lst .tran e)],.c (.pd (.int .i64 t)),.c (.pd (.lst .past (p::q)))],[]=>some (some (d.length≤2199023255552∧dC ⟨a,b,[],d,e⟩ t (p::q)=[2,4]),.x (.c (.pd (.lst .int [2,4]))),[])
 | _,_=>none)
theorem Gc:EntOk Tryz.prog qZ:=entOk fun vs ck=>by
 unfold qZ; dsimp only; split
 · rename_i a b d e t p q; exact entS fun hp=>by rw [← hp.2]; exact tZ a b d e t (p::q) hp.1
 · exact entN
def r7:Ent:=(15,fun
 | [.agg [.pd (.str a),.pd (.lst .str b),.pd (.v (.slice none 0 0)),.pd (.lst .stat d),.pd (.lst .tran e)],.c (.pd (.int .i64 t)),.c (.pd (.lst .past []))],[]=>some (some (d.length≤2199023255552∧dC ⟨a,b,[],d,e⟩ t []=[1]),.x (.c (.pd (.lst .int [1]))),[])
 | _,_=>none)
theorem GO:EntOk Tryz.prog r7:=entOk fun vs ck=>by
 unfold r7; dsimp only; split
 · rename_i a b d e t; exact entS fun hp=>by rw [← hp.2]; exact tZ a b d e t [] hp.1
 · exact entN
def NV:Cfg:=⟨aZ,[we,rL,qZ,r7,sZ]⟩
theorem FH:ag Tryz.prog NV.tab:=(ag.cons Jz (ag.cons E5 (ag.cons Gc (ag.cons GO (ag.cons Fi ag.nil)))))
def exC:Chart:=⟨[99],[[103,111]],[],[⟨[114],2,0,[97],[],[]⟩,⟨[97],1,1,[],[],[]⟩,⟨[98],2,1,[99],[],[]⟩,⟨[99],1,2,[],[],[]⟩,⟨[100],1,2,[],[],[]⟩,⟨[104],6,1,[97],[],[]⟩],[⟨1,[103,111],[],[104],[]⟩]⟩
theorem wL:bH exC=0:=by
 refine (iV _).2 ⟨by decide,by decide,by decide,by decide,by decide,by decide,fun k hk=>?_,fun k hk=>absurd hk (Nat.not_lt_zero _),fun k hk=>?_,fun k hk=>?_⟩
 · have hk':k<6:=hk
   rcases (show k=0∨k=1∨k=2∨k=3∨k=4∨k=5 by omega) with rfl | rfl | rfl | rfl | rfl | rfl <;> decide
 · have hk':k<6:=hk
   rcases (show k=0∨k=1∨k=2∨k=3∨k=4∨k=5 by omega) with rfl | rfl | rfl | rfl | rfl | rfl <;> decide
 · have hk':k<1:=hk
   have:k=0:=by omega
   subst this; decide
theorem N4:qV exC [0,2,4] [0,2,4]=[⟨5,[4]⟩]:=by
 have e:(bH exC==0&&c6 exC.states [0,2,4])=true:=by rw [wL]; kernel_rfl
 have e2:B6 exC.states [0,2,4] [0,2,4]=[⟨5,[4]⟩]:=by kernel_rfl
 unfold qV
 rw [e,if_pos rfl]
 exact e2
theorem KR (r:List Int) (h1:b5 (cf exC.states) none ps=true) (h2:gP exC.states (ETy.get .tran exC.trans 0) ps=r):dC exC 0 ps=r:=by
 have e:iD exC 0 ps=false:=by
  unfold iD
  rw [wL,h1]; kernel_rfl
 unfold dC
 rw [e,if_neg (by decide)]
 exact h2
theorem Da:ah Tryz.prog 9 [] [] (.x (.b true)) []:=by
 refine ah.of Tryz.func9 (by kernel_rfl) (by kernel_rfl) fun Γ=>?_
 refine (ln (a:=[]) (fn:=Tryz.f9) (fz:=999) FH Tryz.func9 20 (ps:=[6≤2199023255552∧dC exC 0 []=[1],6≤2199023255552∧dC exC 0 [⟨5,[4]⟩]=[2,4],true=true→(0:Int)≤0∧(0:Int)<(1:Nat),6≤2199023255552∧qV exC [0,2,4] [0,2,4]=[⟨5,[4]⟩],exW=exW]) (by kernel_rfl) ?_ ⟨rfl,rfl⟩).1
 exact ⟨⟨by decide,KR _ _ (by kernel_rfl) (by kernel_rfl)⟩,⟨by decide,KR _ _ (by kernel_rfl) (by kernel_rfl)⟩,fun _=>⟨by decide,by decide⟩,⟨by decide,N4⟩,rfl,trivial⟩
def sE:Ent:=(9,fun
 | [],[]=>some (none,.x (.c (.pd (.bool true))),[])
 | _,_=>none)
theorem Ff:EntOk Tryz.prog sE:=entOk fun vs ck=>by
 unfold sE; dsimp only; split
 · exact entS fun hp=>Da
 · exact entN
end Go.Proofs.YtgfifkhbfdacjaaGreatDoor

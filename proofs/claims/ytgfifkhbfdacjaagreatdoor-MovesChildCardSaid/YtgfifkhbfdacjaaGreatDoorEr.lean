/- What a transition leaves and enters; what is made by choices (plain). Conditions: a valid chart. Contracts: moves.Enter. Conditions: sizes. Contracts: the layer's example holds. Conditions: none. -/
import Derived.Test.YtgfifkhbfdacjaaGreatDoorEa
import Derived.Test.YtgfifkhbfdacjaaGreatDoorCr
import Derived.Test.YtgfifkhbfdacjaaGreatDoorCa
import Derived.Test.YtgfifkhbfdacjaaGreatDoorEg
import Derived.Test.YtgfifkhbfdacjaaGreatDoorEq
import Derived.Test.YtgfifkhbfdacjaaGreatDoorEo
namespace Go.Proofs.YtgfifkhbfdacjaaGreatDoor
open Go Go.Ev
set_option maxRecDepth 100000
variable (l:List Ev.Stat) (ps:List Past)
def KD (s:List Int) (d:Int):List Int:=s.filter fun k=>decide ((ETy.get .stat l k.toNat).depth≥d)
def s5 (l:List Ev.Stat):Nat→List (List Int)→List Past→List Past
 | _,[],out=>out
 | i,p::r,out=>if 5<i then out else s5 l (i+1) r (nZ l (gE l (chM l p)) (KD l (gE l (chM l p)) ((i % 3:Nat):Int)) out)
def mdM (ps:List (List Int)):List Past:=s5 l 0 ps []
def By (tg:Int):List Int:=if aM (ETy.get .stat l tg.toNat).kind=true then (match dN ps tg with
 | some p=>p.set
 | none=>[ay l (ETy.get .stat l tg.toNat).initial]) else [tg]
def kU (tr:Tran) (ps:List Past):List Int:=if (tr.dst==[])=true then [] else dnM l (By l ps (ay l tr.dst)) (dv l tr.src (ay l tr.dst)).toNat
theorem A5 {l:List Ev.Stat} (t:Tre l):∀ (ps:List (List Int)) (i:Nat) (out:List Past),(∀ p∈ps,∀ b∈p,0≤b∧b≤255)→b8 (cj l) none out=true→b8 (cj l) none (s5 l i ps out)=true
 | [],_,_,_,h=>h
 | p :: r,i,out,hp,h=>by
   rw [s5]
   by_cases hi:5<i
   · rw [if_pos hi]; exact h
   · rw [if_neg hi]
     exact A5 t r _ _ (fun q hq=>hp q (aL _ hq)) (Fw t (mK t (ni t (hp p az))) h)
theorem r9 {l:List Ev.Stat} (t:Tre l) {ps:List (List Int)} (hp:∀ p∈ps,∀ b∈p,0≤b∧b≤255):b8 (cj l) none (mdM l ps)=true:=A5 t ps 0 [] hp rfl
/-! ### transitions -/
theorem Gt {l:List Ev.Stat} (t:Tre l) (j:Int):∀ (n:Nat) (k:Int),k<(l.length:Int)→0≤gD l j n k→∃ d:Nat,gD l j n k=(d:Int)∧d<l.length∧knd l d=2∧(d:Int)<j∧j<((endM l d:Nat):Int)∧(k=(d:Int)∨((d:Int)<k∧k<((endM l d:Nat):Int)))
 | 0,k,_,h=>by rw [gD] at h; omega
 | n + 1,k,hk,h=>by
   rw [gD] at h ⊢
   by_cases h0:k<0
   · rw [if_pos h0] at h; omega
   · rw [if_neg h0] at h ⊢
     obtain ⟨q,rfl⟩:=aA (show 0≤k by omega)
     have hq:q<l.length:=by omega
     by_cases hb:((ETy.get .stat l (q:Int).toNat).kind==2&&decide (j>(q:Int))&&decide (j<((endM l (q:Int).toNat:Nat):Int)))=true
     · rw [if_pos hb]
       rw [af,af,decide_eq_true_eq,decide_eq_true_eq,ai] at hb
       exact ⟨q,rfl,hq,eq_of_beq hb.1.1,by omega,hb.2,.inl rfl⟩
     · rw [if_neg hb] at h ⊢
       rw [ai] at h ⊢
       have hup:=kR l (ETy.get .stat l q).depth q
       rcases jv l q with ⟨e,_⟩ | ⟨p,e,hpq,_⟩
       · rw [e] at h
         cases n with
         | zero=>rw [gD] at h; omega
         | succ n=>rw [gD,if_pos (by omega)] at h; omega
       · rw [e] at h ⊢
         obtain ⟨d,h1,h2,h3,h4,h5,h6⟩:=Gt t j n (p:Int) (by omega) h
         refine ⟨d,h1,h2,h3,h4,h5,.inr ?_⟩
         have hk2:=(cv t.shp hq).1 e
         rcases h6 with h6 | h6
         · have:p=d:=by omega
           subst this; omega
         · have:=gK l h2 (q:=p) (by omega) (by omega)
           omega
theorem Bo {c:Chart} (v:Valid c) {i:Nat} (hi:i<c.trans.length) (hd:(ETy.get .tran c.trans i).dst≠[]):∃ tg d:Nat,ay c.states (ETy.get .tran c.trans i).dst=(tg:Int)∧tg<c.states.length∧dv c.states (ETy.get .tran c.trans i).src (ay c.states (ETy.get .tran c.trans i).dst)=(d:Int)∧d<c.states.length∧knd c.states d=2∧d<tg∧tg<endM c.states d ∧
 ((ETy.get .tran c.trans i).src=(d:Int)∨((d:Int)<(ETy.get .tran c.trans i).src∧(ETy.get .tran c.trans i).src<((endM c.states d:Nat):Int))):=by
 have t:=v.tre
 have hz:=(rQ c i _ _).1 (v.trans i hi)
 have h0:=hz.2.2.2
 have hto:=Jy v hi hd
 unfold eH at h0
 rw [if_pos (by simpa using hd),if_neg (by rw [decide_eq_false (by omega)]; decide)] at h0
 have hdm:0≤dv c.states (ETy.get .tran c.trans i).src (ay c.states (ETy.get .tran c.trans i).dst):=by
  by_cases h:decide (dv c.states (ETy.get .tran c.trans i).src (ay c.states (ETy.get .tran c.trans i).dst)<0)=true
  · rw [if_pos h] at h0; exact absurd h0 (by decide)
  · have:=of_decide_eq_false (b3 _ ▸ h); omega
 rcases gb c.states (ETy.get .tran c.trans i).dst with ⟨e,_⟩ | ⟨tg,e,hl,_⟩
 · omega
 · rw [e] at hdm ⊢
   unfold dv at hdm ⊢
   by_cases hh:(bU c.states (ETy.get .tran c.trans i).src&&bU c.states (tg:Int))=true
   · rw [if_pos hh] at hdm ⊢
     have hs:(ETy.get .tran c.trans i).src<(c.states.length:Int):=by
      have hb:=hz.1
      unfold fR at hb
      simp only [av,decide_eq_false_iff_not] at hb
      omega
     obtain ⟨d,h1,h2,h3,h4,h5,h6⟩:=Gt t _ _ _ hs hdm
     exact ⟨tg,d,rfl,hl,h1,h2,h3,by omega,by omega,h6⟩
   · rw [if_neg hh] at hdm; omega
theorem Aq {l:List Ev.Stat} (t:Tre l) {d tg:Nat} (hd:d<l.length) (hto:tg<l.length) (hk:knd l d=2) (hu:upM l tg=(d:Int)):dnM l [(tg:Int)] d=ic l (tg:Int):=by
 rw [← H7 t hto]
 have hkid:=iW t [(tg:Int)]
 have hw:=(cv t.shp hto).1 hu
 have hway:∀ k:Nat,dz l [(tg:Int)] (k:Int)=true↔k≤tg∧tg<endM l k:=fun k=>by
  unfold dz
  simp only [cE,List.any_nil,bO,af,decide_eq_true_eq,ai]
  omega
 have h1:fP l [(tg:Int)] d=(tg:Int):=by
  unfold fP
  cases hf:(ba l d).find? fun y=>dz l [(tg:Int)] y with
  | none =>
    exfalso
    have:=List.find?_eq_none.1 hf (tg:Int) ((dA t.shp hd _).2 ⟨tg,rfl,hto,hu⟩)
    exact this ((hway tg).2 ⟨ar _,(cN l hto).1⟩)
  | some y =>
    obtain ⟨m,rfl,hm,hmu⟩:=(dA t.shp hd y).1 (List.mem_of_find?_eq_some hf)
    obtain ⟨h5,h6⟩:=(hway m).1 (List.find?_some (p:=fun y=>dz l [(tg:Int)] y) hf)
    have h7:=(cv t.shp hm).1 hmu
    show (m:Int)=(tg:Int)
    by_cases he:m=tg
    · rw [he]
    · have:=gn l m tg (by omega) h6
      omega
 have h2:∀ p:Nat,p<l.length→tg≤p→fP l [(tg:Int)] p=ay l (ETy.get .stat l p).initial:=fun p hp hle=>by
  unfold fP
  cases hf:(ba l p).find? fun y=>dz l [(tg:Int)] y with
  | none=>rfl
  | some y =>
    exfalso
    obtain ⟨m,rfl,hm,hmu⟩:=(dA t.shp hp y).1 (List.mem_of_find?_eq_some hf)
    obtain ⟨h5,h6⟩:=(hway m).1 (List.find?_some (p:=fun y=>dz l [(tg:Int)] y) hf)
    have h7:=(cv t.shp hm).1 hmu
    omega
 refine iV (pt t hkid _ d hd).1 (jx t _ tg hto).1 fun y=>?_
 unfold dnM
 rw [FZ t hkid hd]
 have hbe:y∈rL l tg↔∃ j:Nat,y=(j:Int)∧Begun l tg j:=xn t hto y
 rw [hbe]
 constructor
 · rintro ⟨j,rfl,hne,hE⟩
   refine ⟨j,rfl,?_⟩
   have key : ∀ {j},Rchd l (fP l [(tg:Int)]) d j→j=d∨Begun l tg j:=fun hE=>by
    induction hE with
    | self=>exact .inl rfl
    | @step p j hp hj hpu hl ih =>
      right
      rcases ih with rfl | hb
      · rcases hl with h5 | ⟨_,h5⟩
        · omega
        · rw [h1] at h5
          have:tg=j:=by omega
          subst this; exact .self
      · have hlt:=Begun.lt t hto hb
        refine .step hb hj ⟨hpu,?_⟩
        rcases hl with h5 | ⟨h5,h6⟩
        · exact .inl h5
        · rw [h2 p hlt.1 hlt.2] at h6
          refine .inr ⟨h5,?_⟩
          rcases gb l (ETy.get .stat l p).initial with ⟨e,_⟩ | ⟨q,e,hq,hn⟩
          · omega
          · have:q=j:=by omega
            subst this; exact hn.symm
   rcases key hE with h | h
   · exact absurd h hne
   · exact h
 · rintro ⟨j,rfl,hb⟩
   have hlt:=Begun.lt t hto hb
   refine ⟨j,rfl,by omega,?_⟩
   clear hlt hbe
   induction hb with
   | self=>exact .step .self hto hu (.inr ⟨hk,h1⟩)
   | @step p j hp hj hl ih =>
     have hlt:=Begun.lt t hto hp
     refine .step ih hj hl.1 ?_
     rcases hl.2 with h5 | ⟨h5,h6⟩
     · exact .inl h5
     · refine .inr ⟨h5,?_⟩
       rw [h2 p hlt.1 hlt.2]
       rcases gb l (ETy.get .stat l p).initial with ⟨_,hno⟩ | ⟨q,e,hq,hn⟩
       · exfalso
         refine hno (ETy.get .stat l j) (by rw [ETy.get_eq (t:=.stat) (List.getElem?_eq_getElem hj)]; exact a8 hj) h6.symm
       · rw [e,mT t.names hq hj (by rw [hn,h6])]
end Go.Proofs.YtgfifkhbfdacjaaGreatDoor
namespace Go.Proofs.YtgfifkhbfdacjaaGreatDoor
open Go Go.Ev
set_option maxRecDepth 100000
def FI:Cfg:=⟨aX,[]⟩
theorem GS:ag Tryz.prog FI.tab:=ag.nil
theorem MI (p:Past) (t:Int):ah Tryz.prog 40 [.e .past p,.p (.ref .int t 0)] [] (.x (.b (p.state==t))) []:=by
 refine dg GS Tryz.func40 (.ret (.p (.bool (Past.state p==t))) []) fun Γ=>⟨rfl,rfl⟩
def eE1:Ent:=(40,fun
 | [.agg [.pd (.int .i64 a),.pd (.lst .int b)],.c (.pd (.ref .int t 0))],[]=>some (none,.x (.c (.pd (.bool (a==t)))),[])
 | _,_=>none)
theorem Ng:EntOk Tryz.prog eE1:=entOk fun vs ck=>by
 unfold eE1; dsimp only; split
 · rename_i a b t; exact entS fun hp=>MI ⟨a,b⟩ t
 · exact entN
def yz:Cfg:=⟨aX,[eE1]⟩
theorem uA:ag Tryz.prog yz.tab:=(ag.cons Ng ag.nil)
abbrev zEl1:List PI:=[.code [1,0,1,0,0],.inLoop [1,0,1,0,0],.inBlock 0,.code [1,1]]
variable (c:Chart) (t:Int) (l ps:List Past)
theorem IN (t:Int) (Γ:Ctx) (hl:l.length≤maxLen)  : ∀ (n k:Nat),l.length - k≤n→k≤l.length →
 J Tryz.prog 39 (au Tryz.f39) Γ (Eq2 (.x (.i (aE (fun p:Past=>p.state==t) (l.drop k) k))) []) zEl1 ({ n:=19,fr:=[(0,.p (.lst .past l)),(1,.x (.c (.fn (.func 40) [] [.pd (.ref .int t 0)]))),(4,.i 0),(7,.i l.length),(8,.i k)],ck:=[] }):=by
 intro n
 induction n with
 | zero=>?_
 | succ n ih=>?_
 all_goals
  intro k hn hk
  refine jg uA Tryz.func39 (.ite (decide ((k:Int)<(l.length:Int))) (.need (inRg k l.length) (.ite (Past.state (ETy.get .past l k)==t) (.ret (.i k) []) (.stop zEl1 { n:=19,fr:=[(0,.p (.lst .past l)),(1,.x (.c (.fn (.func 40) [] [.pd (.ref .int t 0)]))),(4,.i 0),(7,.i l.length),(8,.i (IntKind.wrap .i64 ((k:Int)+1)))],ck:=[] }))) (.ret (.i (-1:Int)) [])) ?_
  refine ⟨fun hlt=>?_,fun hge=>?_⟩
  · have hk':k<l.length:=by have:=of_decide_eq_true hlt; omega
    rw [bx (t:=.past) (l:=l) hk']
    refine ⟨by omega,?_⟩
    generalize ETy.get .past l k=v
    refine ⟨fun hb=>⟨?_,rfl⟩,fun hb=>?_⟩
    · have hb':((v:Past).state==t)=true:=hb
      simp only [aE,hb',cond_true]
    · have hb':((v:Past).state==t)=false:=hb
      simp only [aE,hb',cond_false]; (rw [aV (aC hk' hl)]; first | (exfalso; omega) | exact ih (k+1) (by omega) (by omega))
  · rw [bL (l:=l) (by have:=of_decide_eq_false hge; omega)]
    exact ⟨rfl,rfl⟩
theorem J5 (t:Int):ah Tryz.prog 39 [.l .past (l),SX.c (SC.fn (Fn.func 40) [] [RC.pd (PD.ref ETy.int t 0)])] [] (.x (.i (aE (fun p:Past=>p.state==t) l 0))) []:=by
 refine dg uA Tryz.func39 (.stop zEl1 { n:=19,fr:=[(0,.p (.lst .past l)),(1,.x (.c (.fn (.func 40) [] [.pd (.ref .int t 0)]))),(4,.i 0),(7,.i l.length),(8,.i 0)],ck:=[] }) fun Γ=>?_
 exact J.len 0 rfl fun hl=>IN l t Γ hl l.length 0 (by omega) (by omega)
def C2:Ent:=(39,fun
 | [.c (.pd (.lst .past l)),.c (.fn (.func 40) [] [.pd (.ref .int t 0)])],[]=>some (none,.x (.c (.pd (.int .i64 (aE (fun p:Past=>p.state==t) l 0)))),[])
 | _,_=>none)
theorem Lk:EntOk Tryz.prog C2:=entOk fun vs ck=>by
 unfold C2; dsimp only; split
 · rename_i l t; exact entS fun hp=>J5 l t
 · exact entN
def xt:Cfg:=⟨aX,[mi,j5,mm,ji,C2,rR]⟩
theorem uX:ag Tryz.prog xt.tab:=(ag.cons qR (ag.cons j1 (ag.cons rY (ag.cons iS (ag.cons Lk (ag.cons yp ag.nil))))))
def iB:Bool:=decide (t<0)||decide (t≥(c.trans.length:Int))||(ETy.get .tran c.trans t.toNat).dst==[] || !(bD c==0&&b8 (cj c.states) none ps)
def fv:List Int:=if iB c t ps=true then [] else kU c.states (ETy.get .tran c.trans t.toNat) ps
theorem mS (t:Int):∀ (ps:List Past) (k:Int),(aE (fun p:Past=>p.state==t) ps k = -1∧dN ps t=none)∨∃ j:Nat,j<ps.length∧aE (fun p:Past=>p.state==t) ps k=k+(j:Int)∧dN ps t=some (ETy.get .past ps j)
 | [],k=>.inl ⟨rfl,rfl⟩
 | p :: r,k=>by
   cases hb:p.state==t
   · have e1:dN (p::r) t=dN r t:=by unfold dN; rw [List.find?_cons,hb]
     have e2:aE (fun p:Past=>p.state==t) (p::r) k=aE (fun p:Past=>p.state==t) r (k+1):=by simp only [aE,hb,cond_false]
     rcases mS t r (k+1) with ⟨h1,h2⟩ | ⟨j,h1,h2,h3⟩
     · exact .inl ⟨by rw [e2,h1],by rw [e1,h2]⟩
     · exact .inr ⟨j+1,by simp; omega,by rw [e2,h2]; omega,by rw [e1,h3]; rfl⟩
   · have e1:dN (p::r) t=some p:=by unfold dN; rw [List.find?_cons,hb]
     exact .inr ⟨0,by simp,by simp only [aE,hb,cond_true]; omega,by rw [e1]; rfl⟩
theorem DN {a b:Bool} (h:(a||b)=false):a=false∧b=false:=by rwa [av] at h
theorem Kw {t:Int} {n:Nat} (h:(decide (t<0)||decide (t≥(n:Int)))=false):0≤t∧t<(n:Int):=by
 have h1:=DN h
 have:=of_decide_eq_false h1.1
 have:=of_decide_eq_false h1.2
 omega
theorem KL (hz:c.vars.length≤2199023255552∧c.states.length≤2199023255552) (h:iB c t ps=true):ah Tryz.prog 15 [.e .chart c,.i t,.l .past ps] [] (.x (.c (.pd (.v (.slice none 0 0))))) []:=by
 refine dg uX Tryz.func15 (let x1:=(ETy.get .tran c.trans (Int.toNat t)); let x3:=(ay c.states (Tran.dst x1)); let x2:=(Tre c.states∧(0:Int)≤dv c.states (Tran.src x1) x3∧dv c.states (Tran.src x1) x3<(c.states.length:Int)); let x4:=((0:Int)≤ay c.states (Tran.dst x1)∧ay c.states (Tran.dst x1)<(c.states.length:Int)); let x5:=(c.trans.length:Int); let x6:=((dv c.states (Tran.src x1) x3).toNat); let x7:=[ay c.states (Tran.dst x1)]; let x8:=(ETy.get .stat c.states (x3.toNat)); .need ((decide (t<(0:Int))||decide (t≥x5))=false→(0:Int)≤t∧t<x5) (.need ((decide (t<(0:Int))||decide (t≥x5)||Tran.dst x1==[])=false→c.vars.length≤2199023255552∧c.states.length≤2199023255552) (.ite (decide (t<(0:Int))||decide (t≥x5)||Tran.dst x1==[] || !(bD c==(0:Int)&&b8 (cj c.states) none ps)) (.ret (.p (.v (Value.slice none 0 0))) []) (.need ((0:Int)≤t∧t<x5) (.need ((0:Int)≤t∧t<x5) (.need (c.states.length≤maxLen) (.need x4 (.ite (aM (Stat.kind x8)) (.need x4 (.need ((0:Int)≤0∧(0:Int)<(↑(List.length x7):Int)) (.need (0<List.length x7) (.ite (decide (aE (fun p=>Past.state p==ay c.states (Tran.dst x1)) ps (0:Int)≥0)) (.need ((0:Int)≤aE (fun p=>Past.state p==ay c.states (Tran.dst x1)) ps (0:Int)∧aE (fun p=>Past.state p==ay c.states (Tran.dst x1)) ps (0:Int)<(ps.length:Int)) (.need x2 (.ret (.p (.lst .int (dnM c.states (Past.set (ETy.get .past ps ((aE (fun p=>Past.state p==ay c.states (Tran.dst x1)) ps (0:Int)).toNat))) x6))) []))) (.need x2 (.ret (.p (.lst .int (dnM c.states [ay c.states (Stat.initial x8)] x6))) [])))))) (.need x2 (.ret (.p (.lst .int (dnM c.states x7 x6))) [])))))))))) fun Γ=>?_
 conv=>zeta
 refine ⟨fun h1=>Kw h1,fun _=>hz,fun _=>⟨rfl,rfl⟩,fun h1=>?_⟩
 have h1':iB c t ps=false:=h1
 rw [h] at h1'; cases h1'
theorem NI (hz:c.vars.length≤2199023255552∧c.states.length≤2199023255552) (h:iB c t ps=false):ah Tryz.prog 15 [.e .chart c,.i t,.l .past ps] [] (.x (.c (.pd (.lst .int (kU c.states (ETy.get .tran c.trans t.toNat) ps))))) []:=by
 have h0:=h
 unfold iB at h0
 have h1:=DN h0
 have h2:=DN h1.1
 have hin:=Kw h2.1
 have h3:(bD c==0&&b8 (cj c.states) none ps)=true:=by simpa using h1.2
 rw [af] at h3
 have v:=(iX c).1 (eq_of_beq h3.1)
 have hst:=(nd c).1 v.few
 have hmc:c.states.length≤maxLen:=by unfold maxLen; omega
 have hi:t.toNat<c.trans.length:=by omega
 obtain ⟨tg,d,e1,e2,e3,e4,_⟩:=Bo v hi (by intro e; rw [e] at h2; exact absurd h2.2 (by decide))
 refine dg uX Tryz.func15 (let x1:=(ETy.get .tran c.trans (Int.toNat t)); let x3:=(ay c.states (Tran.dst x1)); let x2:=(Tre c.states∧(0:Int)≤dv c.states (Tran.src x1) x3∧dv c.states (Tran.src x1) x3<(c.states.length:Int)); let x4:=((0:Int)≤ay c.states (Tran.dst x1)∧ay c.states (Tran.dst x1)<(c.states.length:Int)); let x5:=(c.trans.length:Int); let x6:=((dv c.states (Tran.src x1) x3).toNat); let x7:=[ay c.states (Tran.dst x1)]; let x8:=(ETy.get .stat c.states (x3.toNat)); .need ((decide (t<(0:Int))||decide (t≥x5))=false→(0:Int)≤t∧t<x5) (.need ((decide (t<(0:Int))||decide (t≥x5)||Tran.dst x1==[])=false→c.vars.length≤2199023255552∧c.states.length≤2199023255552) (.ite (decide (t<(0:Int))||decide (t≥x5)||Tran.dst x1==[] || !(bD c==(0:Int)&&b8 (cj c.states) none ps)) (.ret (.p (.v (Value.slice none 0 0))) []) (.need ((0:Int)≤t∧t<x5) (.need ((0:Int)≤t∧t<x5) (.need (c.states.length≤maxLen) (.need x4 (.ite (aM (Stat.kind x8)) (.need x4 (.need ((0:Int)≤0∧(0:Int)<(↑(List.length x7):Int)) (.need (0<List.length x7) (.ite (decide (aE (fun p=>Past.state p==ay c.states (Tran.dst x1)) ps (0:Int)≥0)) (.need ((0:Int)≤aE (fun p=>Past.state p==ay c.states (Tran.dst x1)) ps (0:Int)∧aE (fun p=>Past.state p==ay c.states (Tran.dst x1)) ps (0:Int)<(ps.length:Int)) (.need x2 (.ret (.p (.lst .int (dnM c.states (Past.set (ETy.get .past ps ((aE (fun p=>Past.state p==ay c.states (Tran.dst x1)) ps (0:Int)).toNat))) x6))) []))) (.need x2 (.ret (.p (.lst .int (dnM c.states [ay c.states (Stat.initial x8)] x6))) [])))))) (.need x2 (.ret (.p (.lst .int (dnM c.states x7 x6))) [])))))))))) fun Γ=>?_
 conv=>zeta
 unfold kU By
 rw [e3,e1,h2.2,if_neg (by decide),ai,ai]
 refine ⟨fun _=>hin,fun _=>hz,fun h5=>?_,fun _=>⟨hin,hin,hmc,⟨by omega,by omega⟩,fun hp=>?_,fun hp=>?_⟩⟩
 · exfalso
   have h5':(decide (t<0)||decide (t≥(c.trans.length:Int))||false || !(bD c==0&&b8 (cj c.states) none ps))=true:=h5
   rw [← h2.2,h0] at h5'; cases h5'
 · rw [if_pos (by exact hp)]
   refine ⟨⟨by omega,by omega⟩,⟨by omega,Int.one_pos⟩,Nat.one_pos,fun hf=>?_,fun hf=>?_⟩
   · rcases mS (tg:Int) ps 0 with ⟨f1,f2⟩ | ⟨j,f1,f2,f3⟩
     · rw [f1] at hf; exact absurd hf (by decide)
     · rw [f2,f3,Int.zero_add,ai]
       exact ⟨⟨by omega,by omega⟩,⟨v.tre,by omega,by omega⟩,rfl,rfl⟩
   · rcases mS (tg:Int) ps 0 with ⟨f1,f2⟩ | ⟨j,f1,f2,f3⟩
     · rw [f2]
       exact ⟨⟨v.tre,by omega,by omega⟩,rfl,rfl⟩
     · rw [f2] at hf
       exact absurd (of_decide_eq_false hf) (by omega)
 · rw [if_neg (by rw [show aM (ETy.get .stat c.states tg).kind=false from hp]; decide)]
   exact ⟨⟨v.tre,by omega,by omega⟩,rfl,rfl⟩
theorem yb (hz:c.vars.length≤2199023255552∧c.states.length≤2199023255552):ah Tryz.prog 15 [.e .chart c,.i t,.l .past ps] [] (.x (.c (.pd (.lst .int (fv c t ps))))) []:=by
 unfold fv
 by_cases h:iB c t ps=true
 · rw [if_pos h]
   exact ah.ret (KL c t ps hz h) fun V v hv=>oc hv
 · rw [if_neg h]
   exact NI c t ps hz (Bool.eq_false_iff.2 h)
def pr:Ent:=(15,fun
 | [.agg [.pd (.str a),.pd (.lst .str b),.pd (.lst .var c),.pd (.lst .stat d),.pd (.lst .tran e)],.c (.pd (.int .i64 t)),.c (.pd (.lst .past ps))],[]=>some (some (c.length≤2199023255552∧d.length≤2199023255552),.x (.c (.pd (.lst .int (fv ⟨a,b,c,d,e⟩ t ps)))),[])
 | _,_=>none)
theorem Db:EntOk Tryz.prog pr:=entOk fun vs ck=>by
 unfold pr; dsimp only; split
 · rename_i a b c d e t ps; exact entS fun hp=>yb ⟨a,b,c,d,e⟩ t ps hp
 · exact entN
end Go.Proofs.YtgfifkhbfdacjaaGreatDoor
namespace Go.Proofs.YtgfifkhbfdacjaaGreatDoor
open Go Go.Ev
set_option maxRecDepth 100000
theorem yx {V:Vn} {a:Str} {b:List Str} {d:List Ev.Stat} {e:List Tran} {u:Value} (h:SX.R V (.agg [.pd (.str a),.pd (.lst .str b),.pd (.v (.slice none 0 0)),.pd (.lst .stat d),.pd (.lst .tran e)]) u):SX.R V (.e .chart ⟨a,b,[],d,e⟩) u:=by
 obtain ⟨us,e,hu⟩:=h
 refine ⟨us,e,?_⟩
 cases hu with | cons h0 hu=>cases hu with | cons h1 hu=>cases hu with | cons h2 hu=>cases hu with | cons h3 hu=>cases hu with | cons h4 hu =>
  cases hu
  exact .cons h0 (.cons h1 (.cons (oc h2) (.cons h3 (.cons h4 .nil))))
variable (a:Str) (b:List Str) (d:List Ev.Stat) (e:List Tran) (ps:List Past)
theorem CL (l left:List Int) (h:d.length≤2199023255552):ah Tryz.prog 18 [.agg [.pd (.str a),.pd (.lst .str b),.pd (.v (.slice none 0 0)),.pd (.lst .stat d),.pd (.lst .tran e)],.l .int l,.l .int left,.l .past []] [] (.x (.c (.pd (.lst .past (qI ⟨a,b,[],d,e⟩ l left))))) [] :=
 ah.sub (fun V vs hv=>by
  cases hv with | cons h1 hv=>exact .cons (yx h1) hv) (Fb ⟨a,b,[],d,e⟩ l left ⟨by simp,h⟩)
def rp:Ent:=(18,fun
 | [.agg [.pd (.str a),.pd (.lst .str b),.pd (.v (.slice none 0 0)),.pd (.lst .stat d),.pd (.lst .tran e)],.c (.pd (.lst .int l)),.c (.pd (.lst .int left)),.c (.pd (.lst .past []))],[]=>some (some (d.length≤2199023255552∧qI ⟨a,b,[],d,e⟩ l left=[⟨5,[4]⟩]),.x (.c (.pd (.lst .past [⟨5,[4]⟩]))),[])
 | _,_=>none)
theorem GT:EntOk Tryz.prog rp:=entOk fun vs ck=>by
 unfold rp; dsimp only; split
 · rename_i a b d e l left; exact entS fun hp=>by rw [← hp.2]; exact CL a b d e l left hp.1
 · exact entN
theorem tZ (t:Int) (ps:List Past) (h:d.length≤2199023255552):ah Tryz.prog 15 [.agg [.pd (.str a),.pd (.lst .str b),.pd (.v (.slice none 0 0)),.pd (.lst .stat d),.pd (.lst .tran e)],.i t,.l .past ps] [] (.x (.c (.pd (.lst .int (fv ⟨a,b,[],d,e⟩ t ps))))) [] :=
 ah.sub (fun V vs hv=>by
  cases hv with | cons h1 hv=>exact .cons (yx h1) hv) (yb ⟨a,b,[],d,e⟩ t ps ⟨by simp,h⟩)
def rM:Ent:=(15,fun
 | [.agg [.pd (.str a),.pd (.lst .str b),.pd (.v (.slice none 0 0)),.pd (.lst .stat d),.pd (.lst .tran e)],.c (.pd (.int .i64 t)),.c (.pd (.lst .past (p::q)))],[]=>some (some (d.length≤2199023255552∧fv ⟨a,b,[],d,e⟩ t (p::q)=[2,4]),.x (.c (.pd (.lst .int [2,4]))),[])
 | _,_=>none)
theorem FM:EntOk Tryz.prog rM:=entOk fun vs ck=>by
 unfold rM; dsimp only; split
 · rename_i a b d e t p q; exact entS fun hp=>by rw [← hp.2]; exact tZ a b d e t (p::q) hp.1
 · exact entN
def rF:Ent:=(15,fun
 | [.agg [.pd (.str a),.pd (.lst .str b),.pd (.v (.slice none 0 0)),.pd (.lst .stat d),.pd (.lst .tran e)],.c (.pd (.int .i64 t)),.c (.pd (.lst .past []))],[]=>some (some (d.length≤2199023255552∧fv ⟨a,b,[],d,e⟩ t []=[1]),.x (.c (.pd (.lst .int [1]))),[])
 | _,_=>none)
theorem EP:EntOk Tryz.prog rF:=entOk fun vs ck=>by
 unfold rF; dsimp only; split
 · rename_i a b d e t; exact entS fun hp=>by rw [← hp.2]; exact tZ a b d e t [] hp.1
 · exact entN
def Nw:Cfg:=⟨aX,[wm,rp,rM,rF,nT]⟩
theorem Fo:ag Tryz.prog Nw.tab:=(ag.cons IW (ag.cons GT (ag.cons FM (ag.cons EP (ag.cons uP ag.nil)))))
def exC:Chart:=⟨[99],[[103,111]],[],[⟨[114],2,0,[97],[],[]⟩,⟨[97],1,1,[],[],[]⟩,⟨[98],2,1,[99],[],[]⟩,⟨[99],1,2,[],[],[]⟩,⟨[100],1,2,[],[],[]⟩,⟨[104],6,1,[97],[],[]⟩],[⟨1,[103,111],[],[104],[]⟩]⟩
theorem wH:bD exC=0:=by
 refine (iX _).2 ⟨by decide,by decide,by decide,by decide,by decide,by decide,fun k hk=>?_,fun k hk=>absurd hk (Nat.not_lt_zero _),fun k hk=>?_,fun k hk=>?_⟩
 · have hk':k<6:=hk
   rcases (show k=0∨k=1∨k=2∨k=3∨k=4∨k=5 by omega) with rfl | rfl | rfl | rfl | rfl | rfl <;> decide
 · have hk':k<6:=hk
   rcases (show k=0∨k=1∨k=2∨k=3∨k=4∨k=5 by omega) with rfl | rfl | rfl | rfl | rfl | rfl <;> decide
 · have hk':k<1:=hk
   have:k=0:=by omega
   subst this; decide
theorem MZ:qI exC [0,2,4] [0,2,4]=[⟨5,[4]⟩]:=by
 have e:(bD exC==0&&dK exC.states [0,2,4])=true:=by rw [wH]; kernel_rfl
 have e2:BO exC.states [0,2,4] [0,2,4]=[⟨5,[4]⟩]:=by kernel_rfl
 unfold qI
 rw [e,if_pos rfl]
 exact e2
theorem Kt (r:List Int) (h1:b8 (cj exC.states) none ps=true) (h2:kU exC.states (ETy.get .tran exC.trans 0) ps=r):fv exC 0 ps=r:=by
 have e:iB exC 0 ps=false:=by
  unfold iB
  rw [wH,h1]; kernel_rfl
 unfold fv
 rw [e,if_neg (by decide)]
 exact h2
theorem Dv:ah Tryz.prog 9 [] [] (.x (.b true)) []:=by
 refine ah.of Tryz.func9 (by kernel_rfl) (by kernel_rfl) fun Γ=>?_
 refine (lA (a:=[]) (fn:=Tryz.f9) (fz:=999) Fo Tryz.func9 20 (ps:=[6≤2199023255552∧fv exC 0 []=[1],6≤2199023255552∧fv exC 0 [⟨5,[4]⟩]=[2,4],true=true→(0:Int)≤0∧(0:Int)<(1:Nat),6≤2199023255552∧qI exC [0,2,4] [0,2,4]=[⟨5,[4]⟩],exW=exW]) (by kernel_rfl) ?_ ⟨rfl,rfl⟩).1
 exact ⟨⟨by decide,Kt _ _ (by kernel_rfl) (by kernel_rfl)⟩,⟨by decide,Kt _ _ (by kernel_rfl) (by kernel_rfl)⟩,fun _=>⟨by decide,by decide⟩,⟨by decide,MZ⟩,rfl,trivial⟩
def ri:Ent:=(9,fun
 | [],[]=>some (none,.x (.c (.pd (.bool true))),[])
 | _,_=>none)
theorem Fs:EntOk Tryz.prog ri:=entOk fun vs ck=>by
 unfold ri; dsimp only; split
 · exact entS fun hp=>Dv
 · exact entN
end Go.Proofs.YtgfifkhbfdacjaaGreatDoor

/- Contracts: the law MovesBack. Conditions: sizes. Numbers among the law's arguments. Conditions: none. -/
import Derived.Test.YtgfifkhbfdacjaaGreatDoorEc
import Derived.Test.YtgfifkhbfdacjaaGreatDoorEo
import Derived.Test.YtgfifkhbfdacjaaGreatDoorNv
import Derived.Test.YtgfifkhbfdacjaaGreatDoorCe
import Derived.Test.YtgfifkhbfdacjaaGreatDoorEg
import Derived.Test.YtgfifkhbfdacjaaGreatDoorCq
import Derived.Test.YtgfifkhbfdacjaaGreatDoorSk
import Derived.Test.YtgfifkhbfdacjaaGreatDoorLx
namespace Go.Proofs.YtgfifkhbfdacjaaGreatDoor
open Go Go.Ev
set_option maxRecDepth 100000
abbrev zJ7Ey:=J Tryz.prog 7 (au Tryz.f7)
def mm:Cfg:=⟨aY,[nQ,nT,ry,ln,oS,uT,ra,AC,oU,lF]⟩
theorem jF:ag Tryz.prog mm.tab:=(ag.cons ky (ag.cons ku (ag.cons Ef (ag.cons wY (ag.cons Cw (ag.cons H8 (ag.cons DN (ag.cons JY (ag.cons pN (ag.cons kX ag.nil))))))))))
theorem rE {α β:Type} {f g:α→Option β}:∀ {l:List α},(∀ x∈l,f x=g x)→l.filterMap f=l.filterMap g
 | [],_=>rfl
 | a::l,h=>by
   rw [List.filterMap_cons,List.filterMap_cons,h a ax,rE fun x hx=>h x (aI _ hx)]
theorem HI {l:List Ev.Stat} (t:Tre l) {s:List Int} (h:Lgl l s) (left:List Int):sw l s left=j4 l s left []:=by
 unfold sw j4
 refine rE fun i hi=>?_
 have hi':i<l.length:=bz.1 hi
 unfold j8 jl
 rw [fY t.right hi']
 cases hp:aO (ETy.get .stat l i).kind
 · rw [if_neg (by rw [a6]; decide),if_neg (by decide)]
 · rw [aS,if_pos rfl]
   by_cases hb:(inB left (a7 l i)&&inB s (a7 l i))=true
   · rw [if_pos hb,if_pos hb]
     obtain ⟨u,e1,_,e3,_⟩:=kv t hi' hp
     have hpar:a7 l i=(u:Int):=by rw [dK t.shp hi']; exact e1
     have:s.filter (lN l (a7 l i) i)=j1 l s i:=by
      unfold j1
      refine List.filter_congr fun k hk=>?_
      obtain ⟨q,rfl,hq,_⟩:=h.rng k hk
      unfold lN
      rw [fY t.right hq,ai,hpar,rD t.right e3 hq]
      have hl:inB (dc l s) (q:Int)=er l (q:Int):=by
       unfold dc
       cases hb:er l (q:Int)
       · cases h2:inB (s.filter fun i=>er l i) (q:Int)
         · rfl
         · have:=aA.1 ((cO _ _).1 h2)
           rw [hb] at this; exact absurd this.2 (by decide)
       · exact (cO _ _).2 (aA.2 ⟨hk,hb⟩)
      rw [hl,eT]
     rw [this]
   · rw [if_neg hb,if_neg hb]; rfl
abbrev zEy1 (a:Chart):List Chunk:=[.cells [.pd (.str a.name),.pd (.lst .str a.events),.pd (.lst .var a.vars),.pd (.lst .stat a.states),.pd (.lst .tran a.trans)] 27]
abbrev zEy3:List PI:=[.code [1,1,1,1,1,1,1,1,1,1,1,1,0,1,0,0],.inLoop [1,1,1,1,1,1,1,1,1,1,1,1,0,1,0,0],.inBlock 4,.code [1,1,1,1,1,1,1,1,1,1,1,1,1]]
variable (c:Chart) (t:Int) (pk:List Int)
theorem HE (t up:Int) (s en:List Int) (pk:List Int) (to2:Int) (hall:∀ y∈en,c9 c.states up y.toNat=true→y∈s) (hin:∀ y∈en,0≤y∧y<(c.states.length:Int)) (hm:c.states.length≤maxLen) (Γ:Ctx) (he:en.length≤maxLen):∀ (n i:Nat),en.length - i≤n→i≤en.length →
 zJ7Ey Γ (Eq2 (.x (.b true)) []) zEy3 ({ n:=128,fr:=[(3,.x (.c (.loc 0 0))),(6,.p (.bool false)),(9,.i up),(10,.p (.lst .int s)),(110,.p (.lst .int en)),(111,.i ((en.length:Int))),(112,.i ((i:Int)))],ck:=(zEy1 c) }):=by
 intro n
 induction n with
 | zero=>?_
 | succ n ih=>?_
 all_goals
  intro i hn hi
  refine jg jF Tryz.func7 (.ite (decide ((i:Int)<(en.length:Int))) (.need (inRg i en.length) (.need ((0:Int)≤ETy.get .int en i∧ETy.get .int en i<(c.states.length:Int)∧c.states.length≤maxLen) (.ite (c9 c.states up ((ETy.get .int en i).toNat) && !inB s (ETy.get .int en i)) (.ret (.p (.bool false)) []) (.stop zEy3 { n:=128,fr:=[(3,.x (.c (.loc 0 0))),(6,.p (.bool false)),(9,.i up),(10,.p (.lst .int s)),(110,.p (.lst .int en)),(111,.i en.length),(112,.i (IntKind.wrap .i64 ((i:Int)+1)))],ck:=(zEy1 c) })))) (.ret (.p (.bool true)) [])) ?_
  refine ⟨fun hlt=>?_,fun _=>⟨rfl,rfl⟩⟩
  have hi':i<en.length:=by have:=of_decide_eq_true hlt; omega
  have hmem:ETy.get .int en i∈en:=by rw [ETy.get_eq (t:=.int) (List.getElem?_eq_getElem hi')]; exact bo hi'
  have hy:=hin _ hmem
  refine ⟨⟨by omega,by omega⟩,⟨hy.1,hy.2,hm⟩,fun hb=>?_,fun hb=>?_⟩
  · exfalso
    have hb':(c9 c.states up (ETy.get .int en i).toNat && !inB s (ETy.get .int en i))=true:=hb
    rw [af] at hb'
    rw [(cO _ _).2 (hall _ hmem hb'.1)] at hb'
    exact absurd hb'.2 (by decide)
  · rw [aX (aE hi' he)]
    first
    | (exfalso; omega)
    | exact ih (i+1) (by omega) (by omega)
abbrev zEy4:List PI:=[.code [1,1,1,1,1,1,1,1,1,1,1,0,1,0,0],.inLoop [1,1,1,1,1,1,1,1,1,1,1,0,1,0,0],.inBlock 2,.code [1,1,1,1,1,1,1,1,1,1,1,1]]
theorem H7 (t up:Int) (s en:List Int) (pk:List Int) (to2:Int) (hall:∀ y∈s,c9 c.states up y.toNat=true→y∈en) (hin:∀ y∈s,0≤y∧y<(c.states.length:Int)) (hm:c.states.length≤maxLen) (hs:s.length≤maxLen) (Γ:Ctx)
 (hall3:∀ y∈en,c9 c.states up y.toNat=true→y∈s) (hin3:∀ y∈en,0≤y∧y<(c.states.length:Int)) (he:en.length≤maxLen):∀ (n i:Nat),s.length - i≤n→i≤s.length →
 zJ7Ey Γ (Eq2 (.x (.b true)) []) zEy4 ({ n:=128,fr:=[(3,.x (.c (.loc 0 0))),(6,.p (.bool false)),(9,.i up),(10,.p (.lst .int s)),(12,.p (.lst .int en)),(92,.p (.lst .int s)),(93,.i ((s.length:Int))),(94,.i ((i:Int)))],ck:=(zEy1 c) }):=by
 intro n
 induction n with
 | zero=>?_
 | succ n ih=>?_
 all_goals
  intro i hn hi
  refine jg jF Tryz.func7 (let x1:List Chunk:=(zEy1 c); let x2:List Nat:=[1,1,1,1,1,1,1,1,1,1,1,1,0,1,0,0]; let x3:List Nat:=[1,1,1,1,1,1,1,1,1,1,1,0,1,0,0]; .ite (decide ((i:Int)<(s.length:Int))) (.need (inRg i s.length) (.need ((0:Int)≤ETy.get .int s i∧ETy.get .int s i<(c.states.length:Int)∧c.states.length≤maxLen) (.ite (c9 c.states up ((ETy.get .int s i).toNat) && !inB en (ETy.get .int s i)) (.ret (.p (.bool false)) []) (.stop [.code x3,.inLoop x3,.inBlock 2,.code [1,1,1,1,1,1,1,1,1,1,1,1]] { n:=128,fr:=[(3,.x (.c (.loc 0 0))),(6,.p (.bool false)),(9,.i up),(10,.p (.lst .int s)),(12,.p (.lst .int en)),(92,.p (.lst .int s)),(93,.i s.length),(94,.i (IntKind.wrap .i64 ((i:Int)+1)))],ck:=x1 })))) (.stop [.code x2,.inLoop x2,.inBlock 4,.code [1,1,1,1,1,1,1,1,1,1,1,1,1]] { n:=128,fr:=[(3,.x (.c (.loc 0 0))),(6,.p (.bool false)),(9,.i up),(10,.p (.lst .int s)),(110,.p (.lst .int en)),(111,.i en.length),(112,.i 0)],ck:=x1 })) ?_
  conv=>zeta
  refine ⟨fun hlt=>?_,fun _=>HE c t up s en pk to2 hall3 hin3 hm Γ he en.length 0 (by omega) (by omega)⟩
  have hi':i<s.length:=by have:=of_decide_eq_true hlt; omega
  have hmem:ETy.get .int s i∈s:=by rw [ETy.get_eq (t:=.int) (List.getElem?_eq_getElem hi')]; exact bo hi'
  have hy:=hin _ hmem
  refine ⟨⟨by omega,by omega⟩,⟨hy.1,hy.2,hm⟩,fun hb=>?_,fun hb=>?_⟩
  · exfalso
    have hb':(c9 c.states up (ETy.get .int s i).toNat && !inB en (ETy.get .int s i))=true:=hb
    rw [af] at hb'
    rw [(cO _ _).2 (hall _ hmem hb'.1)] at hb'
    exact absurd hb'.2 (by decide)
  · rw [aX (aE hi' hs)]
    first
    | (exfalso; omega)
    | exact ih (i+1) (by omega) (by omega)
abbrev zEy2:List PI:=[.code [1,1,1,1,0,1,0,0],.inLoop [1,1,1,1,0,1,0,0],.inBlock 0,.code [1,1,1,1,1]]
theorem Lm (ht:0≤t∧t<(c.trans.length:Int)) (hm:c.states.length≤maxLen) (Γ:Ctx) (Q:Out)
 (hend:zJ7Ey Γ Q zEy2 ({ n:=128,fr:=[(1,.i t),(2,.p (.lst .byte pk)),(3,.x (.c (.loc 0 0))),(6,.p (.bool false)),(7,.i ((kq c.states (ETy.get .tran c.trans t.toNat).dst c.states.length))),(44,.i c.states.length),(45,.i ((c.states.length:Int)))],ck:=(zEy1 c) })):∀ (n i:Nat),c.states.length - i≤n→i≤c.states.length →
 zJ7Ey Γ Q zEy2 ({ n:=128,fr:=[(1,.i t),(2,.p (.lst .byte pk)),(3,.x (.c (.loc 0 0))),(6,.p (.bool false)),(7,.i ((kq c.states (ETy.get .tran c.trans t.toNat).dst i))),(44,.i c.states.length),(45,.i ((i:Int)))],ck:=(zEy1 c) }):=by
 intro n
 induction n with
 | zero=>?_
 | succ n ih=>?_
 all_goals
  intro i hn hi
  by_cases hi':i<c.states.length
  · have hs:kq c.states (ETy.get .tran c.trans t.toNat).dst (i+1)=if ((ETy.get .stat c.states i).name==(ETy.get .tran c.trans t.toNat).dst)=true then (i:Int) else kq c.states (ETy.get .tran c.trans t.toNat).dst i:=rfl
    generalize hto:kq c.states (ETy.get .tran c.trans t.toNat).dst i=to2 at hs
    refine jg jF Tryz.func7 (let x1:List Chunk:=(zEy1 c); let x2:=(cW c.states (chM c.states pk)); let x3:List PI:=zEy2; let x4:=(c.vars.length≤2199023255552∧c.states.length≤2199023255552); let x5:=(c.states.length:Int); let x6:=(IntKind.wrap .i64 ((i:Int)+1)); let x7:List Nat:=[1,1,1,1,1,1,1,1,1,1,1,0,1,0,0]; let x8:Nat×SV:=(3,.x (.c (.loc 0 0))); let x9:=(a7 c.states (Int.toNat to2)); .ite (decide ((i:Int)<x5)) (.need (inRg i c.states.length) (.need ((0:Int)≤t∧t<(c.trans.length:Int)) (.ite (Stat.name (ETy.get .stat c.states i)==Tran.dst (ETy.get .tran c.trans (Int.toNat t))) (.stop x3 { n:=128,fr:=[(1,.i t),(2,.p (.lst .byte pk)),x8,(6,.p (.bool false)),(7,.i i),(44,.i c.states.length),(45,.i x6)],ck:=x1 }) (.stop x3 { n:=128,fr:=[(1,.i t),(2,.p (.lst .byte pk)),x8,(6,.p (.bool false)),(7,.i to2),(44,.i c.states.length),(45,.i x6)],ck:=x1 })))) (.need ((0:Int)≤to2∧to2<x5) (.ite (Stat.kind (ETy.get .stat c.states (Int.toNat to2)) != (6:Int)) (.ret (.p (.bool true)) []) (.need ((0:Int)≤to2∧to2<x5∧c.states.length≤maxLen) (.need (Tre c.states∧∀ (b:ETy.den .byte),b∈pk→(0:ETy.den .byte)≤b∧b≤(255:ETy.den .byte)) (.ite (!inB x2 x9) (.ret (.p (.bool true)) []) (.need (room (([]++cW c.states (chM c.states pk)).length) 8) (.need x4 (.need x4 (.stop [.code x7,.inLoop x7,.inBlock 2,.code [1,1,1,1,1,1,1,1,1,1,1,1]] { n:=128,fr:=[x8,(6,.p (.bool false)),(9,.i x9),(10,.p (.lst .int x2)),(12,.p (.lst .int (eS c t (jn c ([]++cW c.states (chM c.states pk)) [a7 c.states (Int.toNat to2)])))),(92,.p (.lst .int x2)),(93,.i (↑(x2.length):Int)),(94,.i 0)],ck:=x1 })))))))))) ?_
    conv=>zeta
    refine ⟨fun _=>⟨⟨by omega,by omega⟩,ht,fun hb=>?_,fun hb=>?_⟩,fun hge=>?_⟩
    · rw [if_pos (by exact hb)] at hs
      rw [aX (aE hi' hm),← hs]
      first
      | (exfalso; omega)
      | exact ih (i+1) (by omega) (by omega)
    · have hb':((ETy.get .stat c.states i).name==(ETy.get .tran c.trans t.toNat).dst)=false:=hb
      rw [if_neg (by rw [hb']; decide)] at hs
      rw [aX (aE hi' hm),← hs]
      first
      | (exfalso; omega)
      | exact ih (i+1) (by omega) (by omega)
    · have:=of_decide_eq_false hge; omega
  · have hie:i=c.states.length:=by omega
    subst hie
    exact hend
theorem Dy (h:ot c) (hpk:∀ b∈pk,0≤b∧b≤255):ah Tryz.prog 7 [.e .chart c,.i t,.l .byte pk] [] (.x (.b true)) []:=by
 have hz:=Lk h
 have hb:=Lz h
 have hsz:c.vars.length≤2199023255552∧c.states.length≤2199023255552:=⟨hz.1,by omega⟩
 refine dg jF Tryz.func7 (.ite false (.ret (.p (.bool false)) []) (.need (∀ (s:ETy.den .stat),s∈c.states→s.entry.length≤4398046511104∧s.leave.length≤4398046511104) (.need ((!bC c==(0:Int)||decide (t<(0:Int))||decide (t≥(c.trans.length:Int)))=false→(0:Int)≤t∧t<(c.trans.length:Int)) (.ite (!bC c==(0:Int)||decide (t<(0:Int))||decide (t≥(c.trans.length:Int))||Tran.dst (ETy.get .tran c.trans (Int.toNat t))==[]) (.ret (.p (.bool true)) []) (.stop zEy2 { n:=128,fr:=[(1,.i t),(2,.p (.lst .byte pk)),(3,.x (.c (.loc 0 0))),(6,.p (.bool false)),(7,.i (-1:Int)),(44,.i c.states.length),(45,.i 0)],ck:=(zEy1 c),kn:=[6] }))))) fun Γ=>?_
 refine ⟨fun h0=>absurd h0 (by decide),fun _=>⟨hb,fun h1=>(IN h1).2,fun _=>⟨rfl,rfl⟩,fun h1=>?_⟩⟩
 have h1':(!bC c==0||decide (t<0)||decide (t≥(c.trans.length:Int))||(ETy.get .tran c.trans t.toNat).dst==[])=false:=h1
 rw [ay] at h1'
 have ht:=IN h1'.1
 have hv:=(iB c).1 ht.1
 have tt:=hv.tre
 have hst:=(mV c).1 hv.few
 have hmc:c.states.length≤maxLen:=by unfold maxLen; omega
 have hti:t.toNat<c.trans.length:=by omega
 have hd0:(ETy.get .tran c.trans t.toNat).dst≠[]:=by
  intro e
  rw [e] at h1'; exact absurd h1'.2 (by decide)
 obtain ⟨tg,d,e1,e2,e3,e4,e5,e6,e7,e8⟩:=sf hv hti hd0
 refine J.kn [] (Lm c t pk ht.2 hmc Γ _ ?_ c.states.length 0 (by omega) (by omega))
 rw [A1 tt e1 e2]
 have hgo:∀ (n:Nat) (to2:Int),n=c.states.length→to2=(tg:Int)→zJ7Ey Γ (Eq2 (.x (.b true)) []) zEy2 ({ n:=128,fr:=[(1,.i t),(2,.p (.lst .byte pk)),(3,.x (.c (.loc 0 0))),(6,.p (.bool false)),(7,.i to2),(44,.i c.states.length),(45,.i ((n:Int)))],ck:=(zEy1 c) }):=fun i to2 hn hto=>by
  refine jg jF Tryz.func7 (let x1:List Chunk:=(zEy1 c); let x2:=(cW c.states (chM c.states pk)); let x3:List PI:=zEy2; let x4:=(c.vars.length≤2199023255552∧c.states.length≤2199023255552); let x5:=(c.states.length:Int); let x6:=(IntKind.wrap .i64 ((i:Int)+1)); let x7:List Nat:=[1,1,1,1,1,1,1,1,1,1,1,0,1,0,0]; let x8:Nat×SV:=(3,.x (.c (.loc 0 0))); let x9:=(a7 c.states (Int.toNat to2)); .ite (decide ((i:Int)<x5)) (.need (inRg i c.states.length) (.need ((0:Int)≤t∧t<(c.trans.length:Int)) (.ite (Stat.name (ETy.get .stat c.states i)==Tran.dst (ETy.get .tran c.trans (Int.toNat t))) (.stop x3 { n:=128,fr:=[(1,.i t),(2,.p (.lst .byte pk)),x8,(6,.p (.bool false)),(7,.i i),(44,.i c.states.length),(45,.i x6)],ck:=x1 }) (.stop x3 { n:=128,fr:=[(1,.i t),(2,.p (.lst .byte pk)),x8,(6,.p (.bool false)),(7,.i to2),(44,.i c.states.length),(45,.i x6)],ck:=x1 })))) (.need ((0:Int)≤to2∧to2<x5) (.ite (Stat.kind (ETy.get .stat c.states (Int.toNat to2)) != (6:Int)) (.ret (.p (.bool true)) []) (.need ((0:Int)≤to2∧to2<x5∧c.states.length≤maxLen) (.need (Tre c.states∧∀ (b:ETy.den .byte),b∈pk→(0:ETy.den .byte)≤b∧b≤(255:ETy.den .byte)) (.ite (!inB x2 x9) (.ret (.p (.bool true)) []) (.need (room (([]++cW c.states (chM c.states pk)).length) 8) (.need x4 (.need x4 (.stop [.code x7,.inLoop x7,.inBlock 2,.code [1,1,1,1,1,1,1,1,1,1,1,1]] { n:=128,fr:=[x8,(6,.p (.bool false)),(9,.i x9),(10,.p (.lst .int x2)),(12,.p (.lst .int (eS c t (jn c ([]++cW c.states (chM c.states pk)) [a7 c.states (Int.toNat to2)])))),(92,.p (.lst .int x2)),(93,.i (↑(x2.length):Int)),(94,.i 0)],ck:=x1 })))))))))) ?_
  conv=>zeta
  subst hto
  have hL:=qZ tt (qX tt hpk)
  have hg:=(tD tt.shp _).2 hL
  have hlen:=Hf tt hpk
  have hrg:=(xl hg).1
  refine ⟨fun hlt=>by have:=of_decide_eq_true hlt; omega,fun _=>⟨⟨by omega,by omega⟩,fun _=>⟨rfl,rfl⟩,fun hk=>⟨⟨by omega,by omega,hmc⟩,⟨tt,hpk⟩,fun _=>⟨rfl,rfl⟩,fun hup=>⟨?_,hsz,hsz,?_⟩⟩⟩⟩
  · exact room_le (by show (cW c.states (chM c.states pk)).length≤_; omega) (by omega)
  · have hk6:knd c.states tg=6:=by
     have hk':((ETy.get .stat c.states tg).kind != 6)=false:=hk
     simpa using hk'
    have hup':(a7 c.states tg)∈cW c.states (chM c.states pk):=by
     have:(!inB (cW c.states (chM c.states pk)) (a7 c.states tg))=false:=hup
     rw [cY] at this; exact (cO _ _).1 this
    obtain ⟨u,u1,u2,u3,_⟩:=kv tt e2 (by rw [hk6]; rfl)
    have hpar:a7 c.states tg=(u:Int):=by rw [dK tt.shp e2]; exact u1
    rw [hpar] at hup'
    obtain ⟨g1,g2,g3⟩:=Ia hv hti hd0 e1 hk6 u1 hL hup'
    have een:eS c t (jn c (cW c.states (chM c.states pk)) [a7 c.states tg])=fI c.states (ETy.get .tran c.trans t.toNat) (j4 c.states (cW c.states (chM c.states pk)) [(u:Int)] []):=by
     unfold jn
     rw [ht.1,hg,if_pos (by rfl),hpar,HI tt hL]
     exact EK ht (C8 tt hL rfl)
    have hst2:zJ7Ey Γ (Eq2 (.x (.b true)) []) zEy4 ({ n:=128,fr:=[(3,.x (.c (.loc 0 0))),(6,.p (.bool false)),(9,.i ((a7 c.states tg))),(10,.p (.lst .int ((cW c.states (chM c.states pk))))),(12,.p (.lst .int ((eS c t (jn c (cW c.states (chM c.states pk)) [a7 c.states tg]))))),(92,.p (.lst .int ((cW c.states (chM c.states pk))))),(93,.i (((cW c.states (chM c.states pk)).length:Int))),(94,.i (0))],ck:=(zEy1 c) }):=by
     rw [een,hpar]
     generalize fI c.states (ETy.get .tran c.trans t.toNat) (j4 c.states (cW c.states (chM c.states pk)) [(u:Int)] [])=en at g1 g2 g3
     generalize cW c.states (chM c.states pk)=s at g1 g2 hrg hlen
     refine J.len 12 rfl fun he=>?_
     exact H7 c t (u:Int) s en pk (tg:Int) g1 hrg hmc (by unfold maxLen; omega) Γ g2 g3 he s.length 0 (by omega) (by omega)
    exact hst2
 exact hgo _ _ rfl rfl
end Go.Proofs.YtgfifkhbfdacjaaGreatDoor
namespace Go.Proofs.YtgfifkhbfdacjaaGreatDoor
open Go Go.Ev Go.RowKit Go.ChangeShapes Go.WideShapes Go.ChangeAt
set_option maxRecDepth 100000
theorem KZ {Hh:Type} {enc:TypeId×Value→Hh} {W:World} {base:Nat} {spare:Nat→Bool} {held:Bool} {v:Value} {d:DataW Hh} {ps:List MemPlace} {b0:Nat} (h:DataW.Trod enc Tryz.prog W base spare held 3 v d ps) (hv:Value.okWide Tryz.prog W .any b0 3 v) :
 ∃ n:Int,SX.R (VW W) (.c (.pd (.int .i64 n))) v∧-9223372036854775808≤n∧n≤9223372036854775807:=by
 have hv':Cell.okWide Tryz.prog W .any b0 3 v:=by simpa only [Value.okWide,Tryz.underlying3] using hv
 obtain ⟨fuel,hf⟩:=h
 have hc:v.cells.toList=[v]:=by
  have hv2:=hv'
  simp only [Cell.okWide,Tryz.underlying3,Cell.ok] at hv2
  cases v <;> first | rfl | exact hv2.elim
 rw [hc] at hf
 obtain ⟨n,h1,_,h2⟩:=DataW.trod_int Tryz.underlying3 hf
 simp only [dy,and_true] at h1
 subst h1
 simp only [Lit.wf,af,decide_eq_true_eq] at h2
 have e1:IntKind.i64.min = -9223372036854775808:=by decide
 have e2:IntKind.i64.max=9223372036854775807:=by decide
 rw [e1,e2] at h2
 exact ⟨n,.int _ n,h2.1,h2.2⟩
end Go.Proofs.YtgfifkhbfdacjaaGreatDoor

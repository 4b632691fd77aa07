/- Expressions read by the document's two lists, as a plain relation; both readers agree. Conditions: none. Numbers read by the document. Conditions: texts of at most 2^48 bytes. -/
import Derived.Test.YtpfidgnkokidoaaGreatDoorMb
import Derived.Test.YtpfidgnkokidoaaGreatDoorKi
namespace Go.Proofs.YtpfidgnkokidoaaGreatDoor
open Go Go.Ev
set_option maxRecDepth 100000
structure Mc where
 pos:Int
 out:List Cell
 wt:List Wait
def cellsOf (l:List Wait):List Cell:=l.map fun w=>⟨w.op,0,[]⟩
def cw (least:Int):List Wait→List Wait
 | []=>[]
 | w::l=>if w.power≥least then w::cw least l else []
def bP (least:Int):List Wait→List Wait
 | []=>[]
 | w::l=>if w.power≥least then bP least l else w::l
def Mc.flush (m:Mc) (least:Int):Mc:=⟨m.pos,m.out++cellsOf (cw least m.wt),bP least m.wt⟩
def cP:List Wait→Bool
 | []=>false
 | w::l=>if w.power>0 then (w.power==3||cP l) else false
def gb (s:Str) (k:Int):Int:=if isD (s.getD k.toNat 0)=true then k else if (ay s k=inS∧eh s k=true)∧aC (ay s (k+3))=true then k+3+ab (ay s (k+3)) else k
def aR (s:Str) (m:Mc):Mc×Int×Bool :=
 match b8 s m.pos with
 | .fin=>(m,m.pos,false)
 | .pre op=>(⟨m.pos+1,m.out,⟨op,6⟩::m.wt⟩, -1,false)
 | .par=>(⟨m.pos+1,m.out,⟨0,0⟩::m.wt⟩, -1,false)
 | .call op=>(⟨m.pos+3,m.out,⟨op,0⟩::m.wt⟩, -1,false)
 | .leaf=>let o:=c6 s ⟨m.pos,m.out, -1⟩
   if o.bad<0 then (⟨o.pos,o.out,m.wt⟩, -1,true) else (⟨gb s m.pos,m.out,m.wt⟩,o.bad,false)
def bk (s:Str) (m:Mc):Mc×Int×Int :=
 if m.pos=ab s then
  (if (m.flush 1).wt=[] then (m.flush 1, -1,2) else (m.flush 1,m.pos,0))
 else if bD s m.pos=41 then
  (match (m.flush 1).wt with
  | []=>(m.flush 1,m.pos,0)
  | w::l=>(⟨m.pos+1,if w.op=0 then (m.flush 1).out else (m.flush 1).out++[⟨w.op,0,[]⟩],l⟩, -1,1))
 else
  let o:=aT (s.drop m.pos.toNat)
  let p:=(aG o.1).2
  if o.1=0 then (m,m.pos,0)
  else if p=3∧cP m.wt=true then (m,m.pos,0)
  else (⟨m.pos+o.2,(m.flush p).out,⟨o.1,p⟩::(m.flush p).wt⟩, -1,0)
inductive Res where
 | ok (out:List Cell)
 | bad (k:Int)
inductive Goes (s:Str):Bool→Mc→Res→Prop where
 | opBad {m m':Mc} {k:Int} {e:Bool}:aR s m=(m',k,e)→0≤k→Goes s false m (.bad k)
 | opOn {m m':Mc} {e:Bool} {x:Res}:aR s m=(m', -1,e)→Goes s e m' x→Goes s false m x
 | beBad {m m':Mc} {k n:Int}:bk s m=(m',k,n)→0≤k→Goes s true m (.bad k)
 | beEnd {m m':Mc}:bk s m=(m', -1,2)→Goes s true m (.ok m'.out)
 | beOn {m m':Mc} {b:Bool} {x:Res}:bk s m=(m', -1,bif b then 1 else 0)→Goes s b m' x→Goes s true m x
variable {s:Str}
def Below (p:Int):List Wait→Prop
 | []=>True
 | w::l=>w.power<p∧(w.power>0→Below p l)
theorem Below.mono {p q:Int} (h:p≤q):∀ {l:List Wait},Below p l→Below q l
 | [],_=>trivial
 | _::_,⟨h1,h2⟩=>⟨by omega,fun g=>Below.mono h (h2 g)⟩
theorem l5 {p:Int} {W:List Wait} (hW:Below p W):∀ {pend:List Wait},(∀ w∈pend,p≤w.power)→cw p (pend++W)=pend∧bP p (pend++W)=W
 | [],_=>by
   cases W with
   | nil=>exact ⟨rfl,rfl⟩
   | cons w l =>
     have h1:=hW.1
     have:¬w.power≥p:=by omega
     exact ⟨by simp [cw,this],by simp [bP,this]⟩
 | w::pend,h=>by
   have h1:=h w aU
   obtain ⟨g1,g2⟩:=l5 hW (pend:=pend) fun x hx=>h x (aX _ hx)
   have:w.power≥p:=by omega
   exact ⟨by simp [cw,this,g1],by simp [bP,this,g2]⟩
theorem jw {W:List Wait}:∀ {pend:List Wait},(∀ w∈pend,0<w.power)→(cP (pend++W)=(pend.any (fun w=>w.power==3)||cP W))
 | [],_=>by simp
 | w::pend,h=>by
   have h1:=h w aU
   have ih:=jw (W:=W) (pend:=pend) fun x hx=>h x (aX _ hx)
   have:w.power>0:=by omega
   simp [cP,this,ih,Bool.or_assoc]
theorem ni:∀ {W:List Wait},Below 3 W→cP W=false
 | [],_=>rfl
 | w :: l,⟨h1,h2⟩=>by
   by_cases h:w.power>0
   · have hne:(w.power==3)=false:=by simp; omega
     simp [cP,h,hne,ni (h2 h)]
   · simp [cP,h]
theorem mz (a b:List Wait):cellsOf (a++b)=cellsOf a++cellsOf b:=fe
def np (s:Str) (p k:Int) (pend:List Wait):Prop :=
 (aT (s.drop k.toNat)).1=0∨(aG (aT (s.drop k.toNat)).1).2<p∨((aG (aT (s.drop k.toNat)).1).2=3∧pend.any (fun w=>w.power==3)=true)
def Sim (s:Str) (p:Int) (r o:Rd):Prop:=∀ W:List Wait,Below p W →
 (o.bad<0→∃ (pend:List Wait) (out:List Cell),(∀ w∈pend,p≤w.power)∧out++cellsOf pend=o.out∧np s p o.pos pend∧∀ x,Goes s true ⟨o.pos,out,pend++W⟩ x→Goes s false ⟨r.pos,r.out,W⟩ x) ∧
 (0≤o.bad→Goes s false ⟨r.pos,r.out,W⟩ (.bad o.bad))
def O1 (s:Str) (r o:Rd):Prop:=∀ W:List Wait,
 (o.bad<0→∃ (pend:List Wait) (out:List Cell),(∀ w∈pend,w.power=6)∧out++cellsOf pend=o.out∧∀ x,Goes s true ⟨o.pos,out,pend++W⟩ x→Goes s false ⟨r.pos,r.out,W⟩ x) ∧
 (0≤o.bad→Goes s false ⟨r.pos,r.out,W⟩ (.bad o.bad))
def Pg (s:Str) (p:Int) (r o:Rd):Prop:=∀ (W pend:List Wait) (out:List Cell),Below p W→(∀ w∈pend,p≤w.power)→(p=3→∀ w∈pend,4≤w.power)→out++cellsOf pend=r.out→np s (p+1) r.pos pend →
 (o.bad<0→∃ (pend':List Wait) (out':List Cell),(∀ w∈pend',p≤w.power)∧out'++cellsOf pend'=o.out∧np s p o.pos pend'∧∀ x,Goes s true ⟨o.pos,out',pend'++W⟩ x→Goes s true ⟨r.pos,out,pend++W⟩ x) ∧
 (0≤o.bad→Goes s true ⟨r.pos,out,pend++W⟩ (.bad o.bad))
theorem HQ {k:Int} (h0:0≤k) (h1:k<ab s) (h:(aT (s.drop k.toNat)).1≠0):bD s k≠41:=by
 intro e
 have e1:s.getD k.toNat 0=41:=cy.1 (by simp only [bD] at e; show _=(41:Nat); omega)
 rw [drop_at h0 h1,e1] at h
 cases hd:s.drop (k.toNat+1) with
 | nil=>rw [hd] at h; exact h (by decide)
 | cons b l =>
   rw [hd] at h
   apply h
   have e2:dN 41 b=0:=by unfold dN; split <;> rfl
   simp only [aT,e2,if_true]; decide
theorem wy {p k:Int} {pend W:List Wait} {out:List Cell} (hW:Below p W) (hp:∀ w∈pend,p≤w.power) (h0:0≤k) (h1:k<ab s) (hop:(aT (s.drop k.toNat)).1≠0) (hs:(aG (aT (s.drop k.toNat)).1).2=p) (h3:p=3→∀ w∈pend,4≤w.power) :
 bk s ⟨k,out,pend++W⟩=(⟨k+(aT (s.drop k.toNat)).2,out++cellsOf pend,⟨(aT (s.drop k.toNat)).1,p⟩::W⟩, -1,0):=by
 have hc:=HQ h0 h1 hop
 have hf:=l5 hW hp
 have hcmp:¬(p=3∧cP (pend++W)=true):=by
  rintro ⟨rfl,h⟩
  rw [jw (fun w hw=>by have:=hp w hw; omega),ni hW] at h
  simp only [eu,di,beq_iff_eq] at h
  obtain ⟨w,hw,e⟩:=h
  have:=h3 rfl w hw; omega
 unfold bk
 rw [if_neg (by show ¬k=ab s; omega),if_neg hc]
 simp only [hs]
 rw [if_neg hop,if_neg hcmp]
 simp only [Mc.flush,hf.1,hf.2]
theorem vB {op:Int} {W:List Wait} {r0 q:Rd} {B:Res→Prop} (hok:Ok s r0) (hr:Run s (.bin 1) r0 q)
 (g1:q.bad<0→∃ (pend:List Wait) (out:List Cell),(∀ w∈pend,1≤w.power)∧out++cellsOf pend=q.out∧np s 1 q.pos pend∧∀ x,Goes s true ⟨q.pos,out,pend++⟨op,0⟩::W⟩ x→B x) (g2:0≤q.bad→B (.bad q.bad)) :
 ((bx s q).bad<0→∀ x,Goes s true ⟨(bx s q).pos,if op=0 then (bx s q).out else (bx s q).out++[⟨op,0,[]⟩],W⟩ x→B x)∧(0≤(bx s q).bad→B (.bad (bx s q).bad)):=by
 rcases hr.inv hok with ⟨k1,_,_⟩ | ⟨_,k2,_⟩
 · obtain ⟨pend,out,m1,m2,m3,m4⟩:=g1 (by have:=k1.bad; omega)
   have hW:Below 1 (⟨op,0⟩::W):=⟨by show (0:Int)<1; omega,fun h=>by have:(0:Int)>0:=h; omega⟩
   have hf:=l5 hW m1
   have hlow:=k1.low
   have hhigh:=k1.high
   have hb:=k1.bad
   by_cases hc:q.pos=ab s∨bD s q.pos≠41
   · have e : bx s q=(q.wrong q.pos).to (q.pos+1):=by unfold bx; rw [if_pos ⟨by omega,hc⟩]
     have eb:(bx s q).bad=q.pos:=by rw [e]; simp [Rd.to,Rd.wrong,hb]
     rw [eb]
     refine ⟨fun h=>by omega,fun _=>m4 _ ?_⟩
     by_cases he:q.pos=ab s
     · refine .beBad (m':=(⟨q.pos,out,pend++⟨op,0⟩::W⟩:Mc).flush 1) (n:=0) ?_ hlow
       unfold bk
       rw [if_pos he,if_neg (by show ¬bP 1 _=[]; rw [hf.2]; simp)]
     · have hc':bD s q.pos≠41:=by rcases hc with h | h; exact absurd h he; exact h
       refine .beBad (m':=⟨q.pos,out,pend++⟨op,0⟩::W⟩) (n:=0) ?_ hlow
       unfold bk
       rw [if_neg he,if_neg hc']
       simp only
       by_cases hz:(aT (s.drop q.pos.toNat)).1=0
       · rw [if_pos hz]
       · rw [if_neg hz]
         have h3:(aG (aT (s.drop q.pos.toNat)).1).2=3∧pend.any (fun w=>w.power==3)=true:=by
          rcases m3 with m3 | m3 | m3
          · exact absurd m3 hz
          · exfalso
            rcases ie (s.drop q.pos.toNat) with e | ⟨_,_,_,_,_,g6,_⟩
            · rw [e] at hz; exact hz rfl
            · omega
          · exact m3
         rw [if_pos ⟨h3.1,by rw [jw (fun w hw=>by have:=m1 w hw; omega),h3.2]; rfl⟩]
   · have hc1:¬q.pos=ab s:=fun e=>hc (.inl e)
     have hc2:bD s q.pos=41:=Classical.byContradiction fun e=>hc (.inr e)
     have e:bx s q=q.to (q.pos+1):=by unfold bx; rw [if_neg (fun h=>hc h.2)]
     rw [e]
     refine ⟨fun _ x hx=>m4 x ?_,fun h=>by have:(0:Int)≤q.bad:=h; omega⟩
     refine .beOn (b:=true) (m':=⟨q.pos+1,if op=0 then q.out else q.out++([⟨op,0,[]⟩]:List Cell),W⟩) ?_ hx
     unfold bk
     rw [if_neg hc1,if_pos hc2]
     simp only [Mc.flush,hf.1,hf.2,m2]
     rfl
 · rw [jB k2]
   exact ⟨fun h=>by have:q.bad<0:=h; omega,fun _=>g2 k2⟩
theorem shut {W:List Wait} {r0 r q:Rd} (hok:Ok s r0) (hr:Run s (.bin 1) r0 q)
 (g1:q.bad<0→∃ (pend:List Wait) (out:List Cell),(∀ w∈pend,1≤w.power)∧out++cellsOf pend=q.out∧np s 1 q.pos pend∧∀ x,Goes s true ⟨q.pos,out,pend++⟨0,0⟩::W⟩ x→Goes s false ⟨r0.pos,r0.out,⟨0,0⟩::W⟩ x) (g2:0≤q.bad→Goes s false ⟨r0.pos,r0.out,⟨0,0⟩::W⟩ (.bad q.bad))
 (hgo:∀ x,Goes s false ⟨r0.pos,r0.out,⟨0,0⟩::W⟩ x→Goes s false ⟨r.pos,r.out,W⟩ x) :
 ((bx s q).bad<0→∃ (pend:List Wait) (out:List Cell),(∀ w∈pend,w.power=6)∧out++cellsOf pend=(bx s q).out∧∀ x,Goes s true ⟨(bx s q).pos,out,pend++W⟩ x→Goes s false ⟨r.pos,r.out,W⟩ x) ∧
 (0≤(bx s q).bad→Goes s false ⟨r.pos,r.out,W⟩ (.bad (bx s q).bad)):=by
 obtain ⟨k1,k2⟩:=vB hok hr g1 g2
 exact ⟨fun hb=>⟨[],(bx s q).out,by simp,by simp [cellsOf],fun x hx=>hgo x (k1 hb x hx)⟩,fun hb=>hgo _ (k2 hb)⟩
theorem OR {op:Int} {W:List Wait} {r0 r q:Rd} (hop:op≠0) (hok:Ok s r0) (hr:Run s (.bin 1) r0 q)
 (g1:q.bad<0→∃ (pend:List Wait) (out:List Cell),(∀ w∈pend,1≤w.power)∧out++cellsOf pend=q.out∧np s 1 q.pos pend∧∀ x,Goes s true ⟨q.pos,out,pend++⟨op,0⟩::W⟩ x→Goes s false ⟨r0.pos,r0.out,⟨op,0⟩::W⟩ x) (g2:0≤q.bad→Goes s false ⟨r0.pos,r0.out,⟨op,0⟩::W⟩ (.bad q.bad))
 (hgo:∀ x,Goes s false ⟨r0.pos,r0.out,⟨op,0⟩::W⟩ x→Goes s false ⟨r.pos,r.out,W⟩ x) :
 (((bx s q).emit ⟨op,0,[]⟩).bad<0→∃ (pend:List Wait) (out:List Cell),(∀ w∈pend,w.power=6)∧out++cellsOf pend=((bx s q).emit ⟨op,0,[]⟩).out∧∀ x,Goes s true ⟨((bx s q).emit ⟨op,0,[]⟩).pos,out,pend++W⟩ x→Goes s false ⟨r.pos,r.out,W⟩ x) ∧
 (0≤((bx s q).emit ⟨op,0,[]⟩).bad→Goes s false ⟨r.pos,r.out,W⟩ (.bad ((bx s q).emit ⟨op,0,[]⟩).bad)):=by
 obtain ⟨k1,k2⟩:=vB hok hr g1 g2
 rw [if_neg hop] at k1
 exact ⟨fun hb=>⟨[],(bx s q).out++([⟨op,0,[]⟩]:List Cell),by simp,by simp [cellsOf,Rd.emit],fun x hx=>hgo x (k1 hb x hx)⟩,fun hb=>hgo _ (k2 hb)⟩
def Ov (s:Str):Task→Rd→Rd→Prop
 | .bin p,r,o=>Ok s r→1≤p→p≤6→Sim s p r o
 | .loop p,r,o=>Ok s r→Pg s p r o
 | .una,r,o=>Ok s r→O1 s r o
theorem Run.both {t:Task} {r o:Rd} (h:Run s t r o):Ov s t r o:=by
 induction h with
 | @six r q hr ih =>
   intro hok _ _ W hW
   obtain ⟨g1,g2⟩:=ih hok W
   refine ⟨fun hb=>?_,g2⟩
   obtain ⟨pend,out,k1,k2,k3⟩:=g1 hb
   refine ⟨pend,out,fun w hw=>by rw [k1 w hw]; exact cc _,k2,?_,k3⟩
   rcases ie (s.drop q.pos.toNat) with e | ⟨_,_,_,_,_,_,e⟩
   · left; rw [e]
   · right; left; omega
 | @bin p r q o h1 h5 hr hl ih1 ih2 =>
   intro hok _ _ W hW
   obtain ⟨g1,g2⟩:=ih1 hok (by omega) (by omega) W (hW.mono (by omega))
   rcases hr.inv hok with ⟨k1,k2,_⟩ | ⟨_,k2,_⟩
   · obtain ⟨pend,out,m1,m2,m3,m4⟩:=g1 (by have:=k1.bad; omega)
     obtain ⟨n1,n2⟩:=ih2 k1 W pend out hW (fun w hw=>by have:=m1 w hw; omega) (fun e w hw=>by have:=m1 w hw; omega) m2 m3
     refine ⟨fun hb=>?_,fun hb=>m4 _ (n2 hb)⟩
     obtain ⟨pend',out',j1,j2,j3,j4⟩:=n1 hb
     exact ⟨pend',out',j1,j2,j3,fun x hx=>m4 x (j4 x hx)⟩
   · have:=hl.stop k2
     subst this
     exact ⟨fun hb=>by omega,fun _=>g2 k2⟩
 | @done p r he =>
   intro hok W pend out hW hp h3 ho hn
   refine ⟨fun hb=>⟨pend,out,hp,ho,?_,fun x hx=>hx⟩,fun hb=>by have:=hok.bad; omega⟩
   have he':¬(bw (s.drop r.pos.toNat) p).1≠0:=fun hh=>he ⟨hb,hh⟩
   rcases hn with hn | hn | hn
   · exact .inl hn
   · by_cases hz:(aT (s.drop r.pos.toNat)).1=0
     · exact .inl hz
     · right; left
       by_cases hq:(aG (aT (s.drop r.pos.toNat)).1).2=p
       · exfalso
         apply he'
         have hf:=ie (s.drop r.pos.toNat)
         rcases hf with e | ⟨_,_,_,_,_,g6,g7⟩
         · rw [e] at hz; exact absurd rfl hz
         · rw [tW _ p (by omega) (by omega),if_pos hq]; exact hz
       · omega
   · exact .inr (.inr hn)
 | @more p r q o h1 h5 h3 hn hr hl ih1 ih2 =>
   intro hok W pend out hW hp hp3 ho hnx
   obtain ⟨f1,f2,f3,f4,f5,f6,f7⟩:=fv h1 h5 hok.low hok.high hn
   have hlow:=hok.low
   have hlt:r.pos<ab s:=by omega
   rw [← f2] at f3 f4 f5 f6 f7 hr hl ih1 ih2
   have hop:(aT (s.drop r.pos.toNat)).1≠0:=by omega
   have hstep:=wy (out:=out) hW hp hlow hlt hop f3 (fun e=>absurd e h3)
   rw [ho] at hstep
   have hok1:Ok s (r.to (r.pos+(aT (s.drop r.pos.toNat)).2)):=⟨hok.bad,by simp only [Rd.to]; omega,by simp only [Rd.to]; omega⟩
   have hW1:Below (p+1) (⟨(aT (s.drop r.pos.toNat)).1,p⟩::W):=⟨by show p<p+1; omega,fun _=>hW.mono (by omega)⟩
   obtain ⟨g1,g2⟩:=ih1 hok1 (by omega) (by omega) _ hW1
   have hgo:∀ x,Goes s false ⟨r.pos+(aT (s.drop r.pos.toNat)).2,r.out,⟨(aT (s.drop r.pos.toNat)).1,p⟩::W⟩ x→Goes s true ⟨r.pos,out,pend++W⟩ x:=fun x hx=>.beOn (b:=false) hstep hx
   rcases hr.inv hok1 with ⟨k1,_,_⟩ | ⟨_,k2,_⟩
   · obtain ⟨pend1,out1,m1,m2,m3,m4⟩:=g1 (by have:=k1.bad; omega)
     have m4':∀ x,Goes s true ⟨q.pos,out1,(pend1++[⟨(aT (s.drop r.pos.toNat)).1,p⟩])++W⟩ x→Goes s true ⟨r.pos,out,pend++W⟩ x:=fun x hx=>hgo x (m4 x (by rw [b7] at hx; exact hx))
     obtain ⟨n1,n2⟩:=ih2 k1.emit W (pend1++[⟨(aT (s.drop r.pos.toNat)).1,p⟩]) out1 hW (fun w hw=>by
      rcases bz.1 hw with hw | hw
      · have:=m1 w hw; omega
      · have:=aY.1 hw; subst this; exact cc _) (fun e=>absurd e h3) (by
      rw [mz,← b7,m2]; rfl) (by
      rcases m3 with m3 | m3 | ⟨m3,m5⟩
      · exact .inl m3
      · exact .inr (.inl m3)
      · exact .inr (.inr ⟨m3,by rw [List.any_append,m5]; rfl⟩))
     refine ⟨fun hb=>?_,fun hb=>m4' _ (n2 hb)⟩
     obtain ⟨pend',out',j1,j2,j3,j4⟩:=n1 hb
     exact ⟨pend',out',j1,j2,j3,fun x hx=>m4' x (j4 x hx)⟩
   · have:=hl.stop (r:=_) k2
     subst this
     exact ⟨fun hb=>by have:q.bad<0:=hb; omega,fun _=>hgo _ (g2 k2)⟩
 | @once r q hn hr ih1 =>
   intro hok W pend out hW hp hp3 ho hnx
   obtain ⟨f1,f2,f3,f4,f5,f6,f7⟩:=fv (by omega) (by omega) hok.low hok.high hn
   have hlow:=hok.low
   have hlt:r.pos<ab s:=by omega
   rw [← f2] at f3 f4 f5 f6 f7 hr ih1 ⊢
   have hop:(aT (s.drop r.pos.toNat)).1≠0:=by omega
   have hstep:=wy (out:=out) hW hp hlow hlt hop f3 hp3
   rw [ho] at hstep
   have hok1:Ok s (r.to (r.pos+(aT (s.drop r.pos.toNat)).2)):=⟨hok.bad,by simp only [Rd.to]; omega,by simp only [Rd.to]; omega⟩
   have hW1:Below 4 (⟨(aT (s.drop r.pos.toNat)).1,3⟩::W):=⟨by show (3:Int)<4; omega,fun _=>hW.mono (by omega)⟩
   obtain ⟨g1,g2⟩:=ih1 hok1 (by omega) (by omega) _ hW1
   have hgo:∀ x,Goes s false ⟨r.pos+(aT (s.drop r.pos.toNat)).2,r.out,⟨(aT (s.drop r.pos.toNat)).1,3⟩::W⟩ x→Goes s true ⟨r.pos,out,pend++W⟩ x:=fun x hx=>.beOn (b:=false) hstep hx
   refine ⟨fun hb=>?_,fun hb=>hgo _ (g2 hb)⟩
   obtain ⟨pend1,out1,m1,m2,m3,m4⟩:=g1 hb
   refine ⟨pend1++[⟨(aT (s.drop r.pos.toNat)).1,3⟩],out1,fun w hw=>?_,?_,?_,fun x hx=>hgo x (m4 x (by rw [b7] at hx; exact hx))⟩
   · rcases bz.1 hw with hw | hw
     · have:=m1 w hw; omega
     · have:=aY.1 hw; subst this; exact cc _
   · rw [mz,← b7,m2]; rfl
   · have hany:(pend1++[(⟨(aT (s.drop r.pos.toNat)).1,3⟩:Wait)]).any (fun w=>w.power==3)=true:=by rw [List.any_append]; simp
     rcases m3 with m3 | m3 | ⟨m3,m5⟩
     · exact .inl m3
     · by_cases e:(aG (aT (s.drop q.pos.toNat)).1).2=3
       · exact .inr (.inr ⟨e,hany⟩)
       · right; left; show (aG (aT (s.drop q.pos.toNat)).1).2<3; omega
     · exact .inr (.inr ⟨m3,hany⟩)
 | @lost r hl =>
   intro hok W
   have hb:=hok.bad
   have hf:b8 s r.pos = .fin:=by rcases hl with h | h; omega; exact h
   have e:(r.wrong r.pos).bad=r.pos:=by simp [Rd.wrong,hb]
   rw [e]
   have:=hok.low
   refine ⟨fun h=>by omega,fun _=>.opBad (m':=⟨r.pos,r.out,W⟩) (e:=false) ?_ hok.low⟩
   simp only [aR,hf]
 | @sign r q op hb hh hr ih =>
   intro hok W
   have hlt:=hok.lt (fun x e=>by rw [hh] at e; subst e; simp)
   have hlow:=hok.low
   have hok1:Ok s (r.to (r.pos+1)):=⟨hok.bad,by simp only [Rd.to]; omega,by simp only [Rd.to]; omega⟩
   obtain ⟨g1,g2⟩:=ih hok1 (⟨op,6⟩::W)
   have hgo:∀ x,Goes s false ⟨r.pos+1,r.out,⟨op,6⟩::W⟩ x→Goes s false ⟨r.pos,r.out,W⟩ x:=fun x hx=>.opOn (e:=false) (by simp only [aR,hh]) hx
   refine ⟨fun h=>?_,fun h=>hgo _ (g2 h)⟩
   obtain ⟨pend,out,k1,k2,k3⟩:=g1 h
   refine ⟨pend++[⟨op,6⟩],out,fun w hw=>?_,?_,fun x hx=>hgo x (k3 x (by rw [b7] at hx; exact hx))⟩
   · rcases bz.1 hw with hw | hw
     · exact k1 w hw
     · have:=aY.1 hw; subst this; rfl
   · rw [mz,← b7,k2]; rfl
 | @leaf r hb hh =>
   intro hok W
   have e:(⟨r.pos,r.out, -1⟩:Rd)=r:=by rw [← hok.bad]
   refine ⟨fun h=>⟨[],(c6 s r).out,by simp,by simp [cellsOf],fun x hx=>.opOn (e:=true) ?_ hx⟩,fun h=>.opBad (m':=⟨gb s r.pos,r.out,W⟩) (e:=false) ?_ h⟩
   · simp only [aR,hh,e,if_pos h]; rfl
   · have h':¬(c6 s r).bad<0:=by omega
     simp only [aR,hh,e,if_neg h']
 | @par r q hb hh hr ih =>
   intro hok W
   have hlt:=hok.lt (fun x e=>by rw [hh] at e; subst e; simp)
   have hlow:=hok.low
   have hok1:Ok s (r.to (r.pos+1)):=⟨hok.bad,by simp only [Rd.to]; omega,by simp only [Rd.to]; omega⟩
   obtain ⟨g1,g2⟩:=ih hok1 (by omega) (by omega) (⟨0,0⟩::W) ⟨by show (0:Int)<1; omega,fun h=>by have:(0:Int)>0:=h; omega⟩
   have hgo:∀ x,Goes s false ⟨r.pos+1,r.out,⟨0,0⟩::W⟩ x→Goes s false ⟨r.pos,r.out,W⟩ x:=fun x hx=>.opOn (e:=false) (by simp only [aR,hh]) hx
   exact shut hok1 hr g1 g2 hgo
 | @call r q op hb hh hr ih =>
   intro hok W
   have hlow:=hok.low
   obtain ⟨hop,_,_,_,_,_,hlt⟩:=nr hh
   have hok1:Ok s (r.to (r.pos+3)):=⟨hok.bad,by simp only [Rd.to]; omega,by simp only [Rd.to]; omega⟩
   obtain ⟨g1,g2⟩:=ih hok1 (by omega) (by omega) (⟨op,0⟩::W) ⟨by show (0:Int)<1; omega,fun h=>by have:(0:Int)>0:=h; omega⟩
   have hgo:∀ x,Goes s false ⟨r.pos+3,r.out,⟨op,0⟩::W⟩ x→Goes s false ⟨r.pos,r.out,W⟩ x:=fun x hx=>.opOn (e:=false) (by simp only [aR,hh]) hx
   exact OR (by omega) hok1 hr g1 g2 hgo
theorem DR (s:Str):Goes s false ⟨0,[],[]⟩ (if (cu s).bad≥0 then .bad (cu s).bad else if (cu s).pos<ab s then .bad (cu s).pos else .ok (cu s).out):=by
 have hr:=oc s
 generalize cu s=o at *
 have hok:Ok s ⟨0,[], -1⟩:=⟨rfl,cc _,by simp [ab]⟩
 obtain ⟨g1,g2⟩:=hr.both hok (by omega) (by omega) [] trivial
 rcases hr.inv hok with ⟨k1,_,_⟩ | ⟨_,k2,_⟩
 · have hb:=k1.bad
   have hlow:=k1.low
   have hhigh:=k1.high
   rw [if_neg (by omega)]
   obtain ⟨pend,out,m1,m2,m3,m4⟩:=g1 (by omega)
   have hf:=l5 (p:=1) (W:=[]) trivial m1
   refine m4 _ ?_
   by_cases he:o.pos=ab s
   · rw [if_neg (by omega)]
     have e:o.out=((⟨o.pos,out,pend++[]⟩:Mc).flush 1).out:=by simp only [Mc.flush,hf.1,m2]
     rw [e]
     refine .beEnd ?_
     unfold bk
     rw [if_pos he,if_pos (by show bP 1 _=[]; rw [hf.2])]
   · rw [if_pos (by omega)]
     by_cases hc:bD s o.pos=41
     · refine .beBad (m':=(⟨o.pos,out,pend++[]⟩:Mc).flush 1) (n:=0) ?_ hlow
       unfold bk
       rw [if_neg he,if_pos hc]
       have:((⟨o.pos,out,pend++[]⟩:Mc).flush 1).wt=[]:=hf.2
       simp only [this]
     · refine .beBad (m':=⟨o.pos,out,pend++[]⟩) (n:=0) ?_ hlow
       unfold bk
       rw [if_neg he,if_neg hc]
       simp only
       by_cases hz:(aT (s.drop o.pos.toNat)).1=0
       · rw [if_pos hz]
       · rw [if_neg hz]
         have h3:(aG (aT (s.drop o.pos.toNat)).1).2=3∧pend.any (fun w=>w.power==3)=true:=by
          rcases m3 with m3 | m3 | m3
          · exact absurd m3 hz
          · exfalso
            rcases ie (s.drop o.pos.toNat) with e | ⟨_,_,_,_,_,g6,_⟩
            · rw [e] at hz; exact hz rfl
            · omega
          · exact m3
         rw [if_pos ⟨h3.1,by rw [jw (fun w hw=>by have:=m1 w hw; omega),h3.2]; rfl⟩]
 · rw [if_pos (by omega)]; exact g2 k2
end Go.Proofs.YtpfidgnkokidoaaGreatDoor
namespace Go.Proofs.YtpfidgnkokidoaaGreatDoor
open Go Go.Ev
set_option maxRecDepth 100000
/-! ### plain -/
def lr:Nat→List UInt8→Nat
 | a,[]=>a
 | a,c::r=>lr (if a≤1099511627776 then 10 * a+(c.toNat - 48) else a) r
theorem Aj:∀ (l:List UInt8) (a:Nat),(cI a l≤1099511627776→lr a l=cI a l)∧(1099511627776<cI a l→1099511627776<lr a l)
 | [],a=>⟨fun _=>rfl,fun h=>h⟩
 | c :: r,a=>by
   have ih:=Aj r (10 * a+(c.toNat - 48))
   have e1:lr a (c::r)=lr (if a≤1099511627776 then 10 * a+(c.toNat - 48) else a) r:=rfl
   have e2:cI a (c::r)=cI (10 * a+(c.toNat - 48)) r:=rfl
   rw [e1,e2]
   by_cases h:a≤1099511627776
   · rw [if_pos h]; exact ih
   · rw [if_neg h]
     have hge:=mP r (10 * a+(c.toNat - 48))
     refine ⟨fun h2=>by omega,fun _=>?_⟩
     have:∀ (l:List UInt8) (b:Nat),1099511627776<b→lr b l=b:=by
      intro l
      induction l with
      | nil=>intro b _; rfl
      | cons d l ih =>
        intro b hb
        have:lr b (d::l)=lr (if b≤1099511627776 then 10 * b+(d.toNat - 48) else b) l:=rfl
        rw [this,if_neg (by omega)]; exact ih b hb
     rw [this r a (by omega)]; omega
variable (a m:Nat) (c:UInt8) (l:List UInt8) {s:Str}
def nD:Int×Int:=if l.all isD=true then (if 1099511627776<lr m l then (0,5) else (if a=1 then -(lr m l:Int) else (lr m l:Int),0)) else (0,1)
theorem Im (h:isD c=true):nD a m (c::l)=nD a (if m≤1099511627776 then 10 * m+(c.toNat - 48) else m) l:=by
 have e:(c::l).all isD=l.all isD:=by rw [bA,h,cf]
 unfold nD; rw [e]; rfl
theorem Lu (h:isD c=false):nD a m (c::l)=(0,1):=by
 simp only [nD,bA,h,cJ]; rfl
theorem O3:(decide ((c.toNat:Int)<48)||decide ((c.toNat:Int)>57)) = !isD c:=by
 simp only [isD,Bool.not_and,← decide_not,Int.not_le]
theorem BT (h:(bf s [45]==[]||(((bf s [45]).getD 0 0).toNat:Int)==48&&(decide (ab (bf s [45])>1)||aS s [45]))=false):nD (if aS s [45]=true then 1 else 0) 0 (bf s [45])=aQ s:=by
 have hc:=Aj (bf s [45]) 0
 have e:fh s = !(bf s [45]).all isD:=by
  simp only [aq] at h
  rw [fh,h.1,h.2,cl,eu]
 rw [aQ,e,nD]
 generalize bf s [45]=t at *
 cases ha:t.all isD
 · rfl
 · rw [if_pos rfl]
   show _=if 1099511627776<cI 0 t then _ else _
   by_cases hv:1099511627776<cI 0 t
   · rw [if_pos hv,if_pos (hc.2 hv)]
   · rw [if_neg hv,hc.1 (by omega),if_neg hv]
     cases aS s [45]
     · rfl
     · rfl
theorem uy (h:(bf s [45]==[]||(((bf s [45]).getD 0 0).toNat:Int)==48&&(decide (ab (bf s [45])>1)||aS s [45]))=true):aQ s=(0,1):=by
 have e:fh s=true:=by
  simp only [aA] at h
  rw [fh]
  rcases h with h | h
  · rw [h]; rfl
  · rw [h,Bool.or_true]
 rw [aQ,if_pos e]
/-! ### the walk -/
abbrev zNc1:List PI:=[.code [1,1,1,1,1,0,1,0,0],.inLoop [1,1,1,1,1,0,1,0,0],.inBlock 0,.code [1,1,1,1,1,1]]
theorem Bt (s:Str) (Γ:Ctx) (a:Nat) (h9:s.length≤281474976710656):∀ (n k m:Nat),s.length - k≤n→k≤s.length→m≤1000000000000000 →
 J Tryz.prog 92 (az Tryz.f92) Γ (Eq2 (je (nD a m (s.drop k))) []) zNc1 ({ n:=64,fr:=[(0,.p (.str s)),(2,.i 0),(3,.i 0),(4,.i ((a:Int))),(5,.i ((m:Int))),(6,.i ((k:Int)))],ck:=[] }):=by
 intro n
 induction n with
 | zero=>?_
 | succ n ih=>?_
 all_goals
  intro k m hn hk hm
  refine jg aV Tryz.func92 (let x1:=(↑((List.getD s k (0:UInt8)).toNat):Int); let x2:List PI:=zNc1; let x3:=((0:Int)≤(k:Int)∧(k:Int)<ab s); let x4:=(IntKind.wrap .i64 ((k:Int)+1)); .ite (decide ((k:Int)<ab s)) (.need x3 (.need (decide (x1<48)=false→(0:Int)≤(k:Int)∧(k:Int)<ab s) (.ite (decide (x1<48)||decide (x1>57)) (.ret (.tup [.i 0,.i 1]) []) (.ite (decide ((m:Int)≤1099511627776)) (.need x3 (.stop x2 { n:=64,fr:=[(0,.p (.str s)),(2,.i 0),(3,.i 0),(4,.i a),(5,.i (IntKind.wrap .i64 (IntKind.wrap .i64 ((10:Int) * (m:Int))+IntKind.wrap .i64 (IntKind.wrap .u8 (x1 - 48))))),(6,.i x4)],ck:=[] })) (.stop x2 { n:=64,fr:=[(0,.p (.str s)),(2,.i 0),(3,.i 0),(4,.i a),(5,.i m),(6,.i x4)],ck:=[] }))))) (.ite (decide ((m:Int)>1099511627776)) (.ret (.tup [.i 0,.i 5]) []) (.ite ((a:Int)==1) (.ret (.tup [.i (IntKind.wrap .i64 ((0:Int) - (m:Int))),.i 0]) []) (.ret (.tup [.i m,.i 0]) [])))) ?_
  conv=>zeta
  have hL:ab s=(s.length:Int):=rfl
  refine ⟨fun hlt=>?_,fun hge=>?_⟩
  · have hk':k<s.length:=by have:=of_decide_eq_true hlt; omega
    have hg:s.getD k 0=s[k]:=by rw [List.getD_eq_getElem?_getD,List.getElem?_eq_getElem hk']; rfl
    rw [hg,O3,ch hk']
    refine ⟨by omega,fun _=>by omega,fun hb=>?_,fun hb=>?_⟩
    · have hb':isD s[k]=false:=by simpa using hb
      rw [Lu a m _ _ hb']; exact ⟨rfl,rfl⟩
    · have hb':isD s[k]=true:=by simpa using hb
      have hd:48≤s[k].toNat∧s[k].toNat≤57:=by
       have:=hb'
       simp only [isD,af,decide_eq_true_eq] at this
       omega
      rw [Im a m _ _ hb',cU (by omega)]
      refine ⟨fun h=>⟨by omega,?_⟩,fun h=>?_⟩
      · have h':m≤1099511627776:=by have:=of_decide_eq_true h; omega
        rw [if_pos h']
        have ew:IntKind.i64.wrap (IntKind.i64.wrap (10 * (m:Int))+IntKind.i64.wrap (IntKind.u8.wrap ((s[k].toNat:Int) - 48)))=((10 * m+(s[k].toNat - 48):Nat):Int):=by
         have e1:IntKind.u8.wrap ((s[k].toNat:Int) - 48)=((s[k].toNat - 48:Nat):Int):=by
          have:((s[k].toNat:Int) - 48)=((s[k].toNat - 48:Nat):Int):=by omega
          rw [this]; show (((s[k].toNat - 48:Nat):Int)) % 256=_; omega
         rw [e1,bG (n:=10 * (m:Int)) (by omega) (by omega),bG (n:=((s[k].toNat - 48:Nat):Int)) (by omega) (by omega),bG (by omega) (by omega)]
         omega
        rw [ew]
        first
        | (exfalso; omega)
        | exact ih (k+1) _ (by omega) (by omega) (by omega)
      · have h':¬m≤1099511627776:=by have:=of_decide_eq_false h; omega
        rw [if_neg h']
        first
        | (exfalso; omega)
        | exact ih (k+1) _ (by omega) (by omega) hm
  · have hke:k=s.length:=by have:=of_decide_eq_false hge; omega
    subst hke
    rw [fJ]
    have ec:nD a m []=if 1099511627776<m then (0,5) else (if a=1 then -(m:Int) else (m:Int),0):=rfl
    rw [ec]
    refine ⟨fun h=>?_,fun h=>⟨fun h2=>?_,fun h2=>?_⟩⟩
    · rw [if_pos (by have:=of_decide_eq_true h; omega)]; exact ⟨rfl,rfl⟩
    · have e1:a=1:=by have:=eq_of_beq h2; omega
      rw [if_neg (by have:=of_decide_eq_false h; omega),if_pos e1,bG (by omega) (by omega)]
      exact ⟨by rw [Int.zero_sub]; rfl,rfl⟩
    · have e1:¬a=1:=by have:=ne_of_beq_false h2; omega
      rw [if_neg (by have:=of_decide_eq_false h; omega),if_neg e1]
      exact ⟨rfl,rfl⟩
theorem tD (s:Str) (hs:s.length≤281474976710656):ak Tryz.prog 92 [.s s] [] (je (aQ s)) []:=by
 refine dg aV Tryz.func92 (let x1:List PI:=zNc1; let x2:=(↑((List.getD s 0 (0:UInt8)).toNat):Int); .need (decide (ab s>(0:Int))=true→(0:Int)≤0∧(0:Int)<ab s) (.ite (decide (ab s>(0:Int))&&x2==45) (.need (((1:Int)==ab s)=false→(0:Int)≤1∧(1:Int)<ab s) (.ite ((1:Int)==ab s||(↑((List.getD s 1 (0:UInt8)).toNat):Int)==48&&decide (ab s>(1:Int))) (.ret (.tup [.i 0,.i 1]) []) (.stop x1 { n:=64,fr:=[(0,.p (.str s)),(2,.i 0),(3,.i 0),(4,.i 1),(5,.i 0),(6,.i 1)],ck:=[] }))) (.need (((0:Int)==ab s)=false→(0:Int)≤0∧(0:Int)<ab s) (.ite ((0:Int)==ab s||x2==48&&decide (ab s>(1:Int))) (.ret (.tup [.i 0,.i 1]) []) (.stop x1 { n:=64,fr:=[(0,.p (.str s)),(2,.i 0),(3,.i 0),(4,.i 0),(5,.i 0),(6,.i 0)],ck:=[] }))))) fun Γ=>?_
 conv=>zeta
 have hL:ab s=(s.length:Int):=rfl
 cases s with
 | nil =>
   refine ⟨fun h=>by simp [ab] at h,fun h=>by simp [ab] at h,fun _=>⟨fun h=>by simp [ab] at h,fun _=>⟨congrArg je (a₁:=(0,1)) ?_,rfl⟩,fun h=>by simp [ab] at h⟩⟩
   exact (uy (by rw [BW.1]; rfl)).symm
 | cons c r =>
   have hl:(c::r).length=r.length+1:=rfl
   have hd0:decide (ab (c::r)>0)=true:=decide_eq_true (by omega)
   have g0:(c::r).getD 0 0=c:=rfl
   have g1:(c::r).getD 1 0=r.getD 0 0:=rfl
   have hLr:ab r=(r.length:Int):=rfl
   rw [hd0,cf,g0,g1]
   refine ⟨fun _=>by omega,fun hb=>⟨fun h=>by have:=ne_of_beq_false h; omega,fun h=>⟨congrArg je (a₁:=(0,1)) ?_,rfl⟩,fun h=>?_⟩,fun hb=>⟨fun h=>by omega,fun h=>⟨congrArg je (a₁:=(0,1)) ?_,rfl⟩,fun h=>?_⟩⟩
   · have hc:c=45:=cy.1 (by have:=eq_of_beq hb; show c.toNat=45; omega)
     subst hc
     refine (uy ?_).symm
     rw [(fE r).1,(fE r).2,Bool.or_true,cT]
     simp only [aA,af] at h ⊢
     rcases h with h | h
     · have:=eq_of_beq h
       have:r=[]:=bj.1 (by omega)
       exact .inl (by rw [this]; rfl)
     · exact .inr h.1
   · have hc:c=45:=cy.1 (by have:=eq_of_beq hb; show c.toNat=45; omega)
     subst hc
     have e:=BT (s:=45::r) (by
      rw [(fE r).1,(fE r).2,Bool.or_true,cT]
      simp only [aq] at h ⊢
      have h1:=ne_of_beq_false h.1
      have hr:0<r.length:=by omega
      refine ⟨by cases r <;> simp at hr ⊢,?_⟩
      have h2:=h.2
      rw [decide_eq_true (by omega),cT] at h2
      exact h2)
     rw [(fE r).1,(fE r).2,if_pos rfl] at e
     rw [← e]
     exact Bt (45::r) Γ 1 hs (45::r).length 1 0 (by omega) (by omega) (by omega)
   · have hc:c≠45:=fun e=>by subst e; simp at hb
     refine (uy ?_).symm
     rw [(fg r hc).1,(fg r hc).2,eu]
     simp only [aA] at h ⊢
     rcases h with h | h
     · have:=eq_of_beq h; omega
     · exact .inr h
   · have hc:c≠45:=fun e=>by subst e; simp at hb
     have e:=BT (s:=c::r) (by
      rw [(fg r hc).1,(fg r hc).2,eu]
      simp only [aq] at h ⊢
      exact ⟨by simp,h.2⟩)
     rw [(fg r hc).1,(fg r hc).2,if_neg (by simp)] at e
     rw [← e]
     exact Bt (c::r) Γ 0 hs (c::r).length 0 0 (by omega) (by omega) (by omega)
def eNb:Ent:=(78,fun
 | [.c (.pd (.str s))],[]=>some (some (s.length≤281474976710656),.tup [.c (.pd (.int .i64 (aQ s).1)),.c (.pd (.int .i64 (aQ s).2))],[])
 | _,_=>none)
theorem Ae:EntOk Tryz.prog eNb:=entOk fun vs ck=>by
 unfold eNb; dsimp only; split
 · rename_i s; exact entS fun hp=>AK s hp
 · exact entN
def uk:Ent:=(92,fun
 | [.c (.pd (.str s))],[]=>some (some (s.length≤281474976710656),.tup [.c (.pd (.int .i64 (aQ s).1)),.c (.pd (.int .i64 (aQ s).2))],[])
 | _,_=>none)
theorem u6:EntOk Tryz.prog uk:=entOk fun vs ck=>by
 unfold uk; dsimp only; split
 · rename_i s; exact entS fun hp=>tD s hp
 · exact entN
end Go.Proofs.YtpfidgnkokidoaaGreatDoor

/- What is read is a tree, whose text is no longer. Conditions: none. Contracts: blocks told. Conditions: none. Contracts of the document's reader of expressions: numbers, operands. Conditions: places within the text. -/
import Derived.Test.YtpfidgnkokidoaaGreatDoorOb
import Derived.Test.YtpfidgnkokidoaaGreatDoorKi
namespace Go.Proofs.YtpfidgnkokidoaaGreatDoor
open Go Go.Ev
set_option maxRecDepth 100000
variable {s:Str}
theorem LL (w:List UInt8):∀ a:Nat,w.all isD=true→cI a w<(a+1) * 10 ^ w.length:=by
 induction w with
 | nil =>
   intro a _
   rw [al,Nat.pow_zero,Nat.mul_one]
   exact Nat.lt_succ_self a
 | cons c r ih =>
   intro a h
   rw [bA,af] at h
   have h1:=h.1
   simp only [isD,af,decide_eq_true_eq] at h1
   have h2:=ih (10 * a+(c.toNat - 48)) h.2
   have e:cI a (c::r)=cI (10 * a+(c.toNat - 48)) r:=rfl
   rw [e]
   refine dI h2 ?_
   rw [ai,Nat.pow_succ,Nat.mul_comm (10 ^ r.length) 10,← fP]
   exact b9 _ (by omega)
theorem sG:∀ (k u:Nat),u<10 ^ (k+1)→(Lib.decDigits u).length≤k+1
 | 0,u,h=>by
   have:u<10:=by simpa using h
   rw [Lib.decDigits_one this]; simp
 | k + 1,u,h=>by
   by_cases h':u<10
   · rw [Lib.decDigits_one h']; simp
   · rw [Lib.decDigits,dif_neg h',aj]
     have:=sG k (u / 10) (by rw [Nat.pow_succ] at h; omega)
     simp only [ai,al]; omega
theorem Gh {w:Str} (h1:w.all isD=true) (h2:(aQ w).2=0):0≤(aQ w).1∧ab (Lib.itoa (aQ w).1)≤ab w:=by
 cases w with
 | nil=>exact absurd h2 (by decide)
 | cons c r =>
   have hc:c≠45:=by
    intro e; subst e
    simp only [bA,af] at h1
    exact absurd h1.1 (by decide)
   obtain ⟨e1,e2⟩:=fg r hc
   have hn:aQ (c::r)=if fh (c::r)=true then (0,1) else if 1099511627776<cI 0 (c::r) then (0,5) else ((cI 0 (c::r):Int),0):=by
    unfold aQ; rw [e1,e2]; rfl
   rw [hn] at h2 ⊢
   split at h2
   · exact absurd h2 (by decide)
   · rename_i hf
     split at h2
     · exact absurd h2 (by decide)
     · rename_i hm
       rw [if_neg hf,if_neg hm]
       have hl:=LL (c::r) 0 h1
       rw [bE,Nat.one_mul,ai] at hl
       show 0≤((cI 0 (c::r):Nat):Int)∧ab (Lib.itoa ((cI 0 (c::r):Nat):Int))≤ab (c::r)
       rw [Ji (fX _),aI]
       refine ⟨fX _,?_⟩
       have h3:=sG r.length _ hl
       simp only [ab,ai]; omega
theorem oC {p:UInt8→Bool}:∀ l:List UInt8,(l.takeWhile p).all p=true
 | []=>rfl
 | c::r=>by
   rw [dv]
   split
   · rename_i h; rw [bA,h,oC r]; rfl
   · rfl
theorem wI {k:Int} (h0:0≤k) (h1:k<ab s) (hd:isD (s.getD k.toNat 0)=true):(cL s k).all isD=true∧ab (cL s k)=cb s k - k:=by
 have hb:=ib h0 h1 hd
 have hL:ab s=(s.length:Int):=rfl
 have hlen:ab (cL s k)=cb s k - k:=by
  unfold cL
  simp only [ab,aL,bo]; omega
 refine ⟨?_,hlen⟩
 by_cases h48:bD s k=48
 · have e:cb s k=k+1:=by unfold cb; rw [if_pos h48]
   have:cL s k=[s.getD k.toNat 0]:=by
    unfold cL
    rw [e,fx,drop_at h0 h1,show (k+1).toNat - k.toNat=1 by omega]; rfl
   rw [this]; simp only [bA,hd,List.all_nil]; rfl
 · have e:cb s k=k+ab ((s.drop k.toNat).takeWhile isD):=by unfold cb; rw [if_neg h48]
   have:cL s k=(s.drop k.toNat).takeWhile isD:=by
    unfold cL
    have e2:(cb s k).toNat - k.toNat=((s.drop k.toNat).takeWhile isD).length:=by rw [e]; simp only [ab]; omega
    rw [fx,e2]
    exact (List.prefix_iff_eq_take.1 (List.takeWhile_prefix isD)).symm
   rw [this]; exact oC _
/-! ### texts of trees, by strengths -/
theorem EE (t:Tm) {p q:Int} (h:p≤q):ab (t.tin p)≤ab (t.tin q):=by
 by_cases hq:t.pow<q
 · by_cases hp:t.pow<p
   · rw [Tm.tin_paren hp,Tm.tin_paren hq]; exact cc _
   · rw [Tm.tin_body (by omega),Tm.tin_paren hq]; simp [ab]; omega
 · rw [Tm.tin_body (by omega),Tm.tin_body (by omega)]; exact cc _
theorem MI (t:Tm) (p:Int):ab (t.tin p)≤ab t.body+2:=by
 have:=GX t.pow t.body p
 unfold Tm.tin
 simp only [ab]; omega
theorem FM {op:Int} (h1:11≤op) (h2:op≤23):bQ ⟨op,0,[]⟩=2:=by
 have h:op=11∨op=12∨op=13∨op=14∨op=15∨op=16∨op=17∨op=18∨op=19∨op=20∨op=21∨op=22∨op=23:=by omega
 rcases h with rfl | rfl | rfl | rfl | rfl | rfl | rfl | rfl | rfl | rfl | rfl | rfl | rfl <;> decide
theorem sq (x:Str) (h:(aT x).1≠0):(aT x).2=ab (aG (aT x).1).1:=by
 have key:∀ a:UInt8,(ft a).1≠0→(ft a).2=ab (aG (ft a).1).1:=by
  intro a h
  by_cases e0:a=43
  · subst e0; rfl
  by_cases e1:a=45
  · subst e1; rfl
  by_cases e2:a=42
  · subst e2; rfl
  by_cases e3:a=47
  · subst e3; rfl
  by_cases e4:a=37
  · subst e4; rfl
  by_cases e5:a=61
  · subst e5; rfl
  by_cases e6:a=60
  · subst e6; rfl
  by_cases e7:a=62
  · subst e7; rfl
  by_cases e8:a=38
  · subst e8; rfl
  by_cases e9:a=124
  · subst e9; rfl
  have e:ft a=(0,0):=by simp only [ft,gA,e0,e1,e2,e3,e4,e5,e6,e7,e8,e9,if_false,if_true]
  rw [e] at h; exact absurd rfl h
 match x,h with
 | [],h=>exact absurd rfl h
 | [a],h=>exact key a h
 | a :: b::r,h =>
   by_cases h2:dN a b=0
   · have e:aT (a::b::r)=ft a:=by simp only [aT,h2,if_true]
     rw [e] at h ⊢; exact key a h
   · have e:aT (a::b::r)=(dN a b,2):=by simp only [aT,h2,if_false]
     rw [e]
     have ht:dN a b=17∨dN a b=19∨dN a b=21:=by
      unfold dN at h2 ⊢
      repeat' (split at h2)
      all_goals first | (exact absurd rfl h2) | skip
      · rename_i g1 g2; rw [if_pos g1,if_pos g2]; exact .inl rfl
      · rename_i g1 g2 g3; rw [if_pos g1,if_neg g2,if_pos g3]; exact .inr (.inl rfl)
      · rename_i g1 g2 g3 g4; rw [if_pos g1,if_neg g2,if_neg g3,if_pos g4]; exact .inr (.inr rfl)
     rcases ht with e | e | e <;> rw [e] <;> rfl
/-! ### leaves -/
theorem IZ {c:Cell} (h:bQ c=0) {p:Int} (hp:p≤7):(Tm.leaf c).tin p=xa c:=by
 have hpw:(Tm.leaf c).pow=7:=by
  rcases vh h with ⟨a,rfl,_⟩ | ⟨a,rfl,_⟩ | rfl | rfl | ⟨n,rfl,_⟩ | ⟨n,rfl,_⟩ <;> rfl
 rw [Tm.tin_body (by omega)]; rfl
theorem tB {op:Int} {n:Str} (h:op=5∨op=6) (hn:aC n=true):bQ ⟨op,0,n⟩=0:=by
 rcases h with rfl | rfl <;> simp [bQ,dU,hn]
theorem Js {r:Rd} (hok:Ok s r) (hl:r.pos<ab s) (hb:(c6 s r).bad<0):∃ c,bQ c=0∧(c6 s r).out=r.out++[c]∧ab (xa c)≤(c6 s r).pos - r.pos:=by
 have h0:=hok.low
 have hbad:=hok.bad
 have hwr:∀ k,0≤k→0≤(r.wrong k).bad:=by intro k hk; simp only [Rd.wrong,hbad]; rw [if_pos (by omega)]; exact hk
 unfold c6 at hb ⊢
 split at hb
 · rename_i hd
   rw [if_pos hd]
   obtain ⟨f1,f2⟩:=wI h0 hl hd
   have hnb:=ib h0 hl hd
   unfold bU at hb ⊢
   split at hb
   · have:=hwr r.pos h0; omega
   · rename_i hx
     rw [if_neg hx]
     simp only [not_or,ne_eq,Classical.not_not,Int.not_lt] at hx
     obtain ⟨g1,g2⟩:=Gh f1 hx.1
     have hw0:bQ (eZ s r.pos)=0:=by
      rcases Jq (eZ s r.pos) hx.2 with ⟨h,_⟩ | ⟨_,h,_⟩ | ⟨_,h⟩
      · exact h
      · exfalso; unfold eZ at h; simp only at h; split at h <;> omega
      · exfalso; unfold eZ at h; simp only at h; split at h <;> omega
     refine ⟨eZ s r.pos,hw0,rfl,?_⟩
     unfold eZ
     cases himg:dm s r.pos
     · show ab (Lib.itoa (aQ (cL s r.pos)).1)≤cb s r.pos - r.pos
       omega
     · show ab (Lib.itoa (aQ (cL s r.pos)).1++[105])≤cb s r.pos+1 - r.pos
       rw [eA]; show _+1≤_; omega
 · rename_i hd
   rw [if_neg hd]
   split at hb
   · rename_i hw
     rw [if_pos hw]
     refine ⟨⟨3,0,[]⟩,by decide,rfl,?_⟩
     show (4:Int)≤r.pos+4 - r.pos; omega
   · rename_i hw1
     rw [if_neg hw1]
     split at hb
     · rename_i hw
       rw [if_pos hw]
       refine ⟨⟨4,0,[]⟩,by decide,rfl,?_⟩
       show (5:Int)≤r.pos+5 - r.pos; omega
     · rename_i hw2
       rw [if_neg hw2]
       split at hb
       · rename_i hi
         rw [if_pos hi]
         unfold inR at hb ⊢
         split at hb
         · exfalso
           have e:((r.to (r.pos+3)).wrong (r.pos+3)).bad=r.pos+3:=by simp [Rd.wrong,Rd.to,hbad]
           omega
         · rename_i hn
           have hn':aC (ay s (r.pos+3))=true:=by simpa using hn
           rw [if_neg hn]
           refine ⟨⟨6,0,ay s (r.pos+3)⟩,tB (.inr rfl) hn',?_,?_⟩
           · unfold bx; split <;> rfl
           · have e:(bx s (r.to (r.pos+3+ab (ay s (r.pos+3))))).pos=r.pos+3+ab (ay s (r.pos+3))+1:=by unfold bx; split <;> rfl
             show ab ([105,110,40]++ay s (r.pos+3)++[41])≤(bx s _).pos - r.pos
             rw [e,eA,eA]
             show 3+_+1≤_; omega
       · rename_i hi
         rw [if_neg hi]
         split at hb
         · rename_i hn
           rw [if_pos hn]
           refine ⟨⟨5,0,ay s r.pos⟩,tB (.inl rfl) hn,rfl,?_⟩
           show ab (ay s r.pos)≤r.pos+ab (ay s r.pos) - r.pos; omega
         · have:=hwr r.pos h0; omega
theorem A7 {k op:Int} (h:b8 s k = .pre op):op=7∨op=8:=by
 unfold b8 at h
 repeat' (split at h)
 all_goals (cases h)
 · exact .inl rfl
 · exact .inr rfl
/-! ### trees -/
def OZ (s:Str):Task→Rd→Rd→Prop
 | .bin p,r,o=>Ok s r→o.bad<0→1≤p→p≤6→∃ t:Tm,t.ok∧o.out=r.out++t.flat∧ab (t.tin p)≤o.pos - r.pos
 | .una,r,o=>Ok s r→o.bad<0→∃ t:Tm,t.ok∧o.out=r.out++t.flat∧ab (t.tin 6)≤o.pos - r.pos
 | .loop p,r,o=>Ok s r→o.bad<0→1≤p→p≤5→∀ (t:Tm) (out:List Cell) (k:Int),t.ok→r.out=out++t.flat→ab (t.tin (me p))≤r.pos - k→∃ t':Tm,t'.ok∧o.out=out++t'.flat∧ab (t'.tin p)≤o.pos - k
theorem yl (p:Int):p≤me p∧me p≤p+1:=by
 unfold me
 cases h:p==3
 · show p≤p∧p≤p+1; omega
 · have:=eq_of_beq h; show p≤4∧4≤p+1; omega
theorem yT {op p:Int} (h1:11≤op) (h2:op≤23) (hp:(aG op).2=p) {t u:Tm} (ht:t.ok) (hu:u.ok):(Tm.bin ⟨op,0,[]⟩ t u).ok∧(Tm.bin ⟨op,0,[]⟩ t u).tin p=t.tin (me p)++(aG op).1++u.tin (p+1):=by
 refine ⟨⟨FM h1 h2,ht,hu⟩,?_⟩
 rw [Tm.tin_body (by show p≤(aG op).2; omega),← hp]; rfl
theorem Run.got {t:Task} {r o:Rd} (h:Run s t r o):OZ s t r o:=by
 induction h with
 | six _ ih=>intro hok hb _ _; exact ih hok hb
 | @bin p r q o h1 h5 hr hl ih1 ih2 =>
   intro hok hb _ _
   rcases hr.inv hok with ⟨g1,g2,_⟩ | ⟨_,g2,_⟩
   · obtain ⟨t,ht,e1,e2⟩:=ih1 hok (by have:=g1.bad; omega) (by omega) (by omega)
     exact ih2 g1 hb h1 h5 t r.out r.pos ht e1 (by have:=EE t (yl p).2; omega)
   · have:=hl.stop g2
     subst this; omega
 | @done p r he =>
   intro hok hb h1 h5 t out k ht e1 e2
   exact ⟨t,ht,e1,by have:=EE t (yl p).1; omega⟩
 | @more p r q o h1 h5 h3 hn hr hl ih1 ih2 =>
   intro hok hb _ _ t out k ht e1 e2
   obtain ⟨f1,f2,f3,f4,f5,f6,f7⟩:=fv h1 h5 hok.low hok.high hn
   have hlow:=hok.low
   have hok1:Ok s (r.to (r.pos+(bw (s.drop r.pos.toNat) p).2)):=⟨hok.bad,by simp only [Rd.to]; omega,by simp only [Rd.to]; omega⟩
   rcases hr.inv hok1 with ⟨g1,g2,_⟩ | ⟨_,g2,_⟩
   · obtain ⟨u,hu,m1,m2⟩:=ih1 hok1 (by have:=g1.bad; omega) (by omega) (by omega)
     obtain ⟨n1,n2⟩:=yT f4 f5 f3 ht hu
     have hlp:me p=p:=by unfold me; rw [beq_eq_false_iff_ne.2 h3]; rfl
     have hsn:=sq (s.drop r.pos.toNat) (by rw [f2]; omega)
     rw [f2] at hsn
     refine ih2 g1.emit hb h1 h5 (.bin ⟨(bw (s.drop r.pos.toNat) p).1,0,[]⟩ t u) out k n1 ?_ ?_
     · show q.out++[_]=out++(t.flat++u.flat++[_])
       rw [m1]; show r.out++u.flat++[_]=_
       rw [e1]; simp
     · rw [hlp,n2,eA,eA,← hsn]
       simp only [Rd.emit,Rd.to] at m2 g2 ⊢
       rw [hlp] at e2 ⊢
       omega
   · have:=hl.stop (r:=_) g2
     subst this
     exfalso; have:q.bad<0:=hb; omega
 | @once r q hn hr ih1 =>
   intro hok hb _ _ t out k ht e1 e2
   obtain ⟨f1,f2,f3,f4,f5,f6,f7⟩:=fv (by omega) (by omega) hok.low hok.high hn
   have hlow:=hok.low
   have hok1:Ok s (r.to (r.pos+(bw (s.drop r.pos.toNat) 3).2)):=⟨hok.bad,by simp only [Rd.to]; omega,by simp only [Rd.to]; omega⟩
   obtain ⟨u,hu,m1,m2⟩:=ih1 hok1 hb (by omega) (by omega)
   obtain ⟨n1,n2⟩:=yT f4 f5 f3 ht hu
   have hsn:=sq (s.drop r.pos.toNat) (by rw [f2]; omega)
   rw [f2] at hsn
   refine ⟨.bin ⟨(bw (s.drop r.pos.toNat) 3).1,0,[]⟩ t u,n1,?_,?_⟩
   · show q.out++[_]=out++(t.flat++u.flat++[_])
     rw [m1]; show r.out++u.flat++[_]=_
     rw [e1]; simp
   · rw [n2,eA,eA,← hsn]
     simp only [Rd.emit,Rd.to] at m2 ⊢
     rw [show (3:Int)+1=4 from rfl]
     omega
 | @lost r hl =>
   intro hok hb
   exfalso
   have:=hok.bad; have:=hok.low
   have e:(r.wrong r.pos).bad=r.pos:=by simp only [Rd.wrong]; rw [if_pos (by omega)]
   omega
 | @sign r q op hb0 hh hr ih =>
   intro hok hb
   have hlt:=hok.lt (fun x e=>by rw [hh] at e; subst e; simp)
   have hlow:=hok.low
   have hok1:Ok s (r.to (r.pos+1)):=⟨hok.bad,by simp only [Rd.to]; omega,by simp only [Rd.to]; omega⟩
   obtain ⟨t,ht,e1,e2⟩:=ih hok1 hb
   simp only [Rd.to,Rd.emit] at e1 e2 ⊢
   have hop:=A7 hh
   refine ⟨.un ⟨op,0,[]⟩ t,⟨?_,ht⟩,?_,?_⟩
   · rcases hop with rfl | rfl <;> decide
   · rw [e1]; simp [Tm.flat]
   · have e3:(Tm.un ⟨op,0,[]⟩ t).tin 6=(aG op).1++t.tin 6:=by
      rcases hop with rfl | rfl
      · rw [Tm.tin_body (show (6:Int)≤6 from cc _)]; rfl
      · rw [Tm.tin_body (show (6:Int)≤6 from cc _)]; rfl
     have e4:ab (aG op).1=1:=by rcases hop with rfl | rfl <;> rfl
     rw [e3,eA,e4]; omega
 | @leaf r hb0 hh =>
   intro hok hb
   have hlt:=hok.lt (fun x e=>by rw [hh] at e; subst e; simp)
   obtain ⟨c,g1,g2,g3⟩:=Js hok hlt hb
   exact ⟨.leaf c,g1,g2,by rw [IZ g1 (by omega)]; exact g3⟩
 | @par r q hb0 hh hr ih =>
   intro hok hb
   have hlt:=hok.lt (fun x e=>by rw [hh] at e; subst e; simp)
   have hlow:=hok.low
   have hok1:Ok s (r.to (r.pos+1)):=⟨hok.bad,by simp only [Rd.to]; omega,by simp only [Rd.to]; omega⟩
   rcases hr.inv hok1 with ⟨g1,_,_⟩ | ⟨_,g2,_⟩
   · obtain ⟨t,ht,e1,e2⟩:=ih hok1 (by have:=g1.bad; omega) (by omega) (by omega)
     rw [Tm.tin_body (t.pow_bounds ht).1] at e2
     have h2:=MI t 6
     rcases ki g1 with ⟨_,k2,k3,_⟩ | ⟨k1,_⟩
     · refine ⟨t,ht,by rw [k3,e1]; rfl,?_⟩
       rw [k2]; simp only [Rd.to] at e2; omega
     · have:=g1.low; omega
   · rw [jB g2] at hb
     have:q.bad<0:=hb; omega
 | @call r q op hb0 hh hr ih =>
   intro hok hb
   have hlow:=hok.low
   obtain ⟨hop,_,_,_,_,_,hlt⟩:=nr hh
   have hok1:Ok s (r.to (r.pos+3)):=⟨hok.bad,by simp only [Rd.to]; omega,by simp only [Rd.to]; omega⟩
   rcases hr.inv hok1 with ⟨g1,_,_⟩ | ⟨_,g2,_⟩
   · obtain ⟨t,ht,e1,e2⟩:=ih hok1 (by have:=g1.bad; omega) (by omega) (by omega)
     rw [Tm.tin_body (t.pow_bounds ht).1] at e2
     rcases ki g1 with ⟨_,k2,k3,_⟩ | ⟨k1,_⟩
     · have hop':op=9∨op=10:=by rcases hop with ⟨_,h⟩ | ⟨_,h⟩; exact .inl h; exact .inr h
       refine ⟨.un ⟨op,0,[]⟩ t,⟨by rcases hop' with rfl | rfl <;> decide,ht⟩,?_,?_⟩
       · show (bx s q).out++[_]=r.out++(t.flat++[_])
         rw [k3,e1]; simp [Rd.to]
       · have e3:ab ((Tm.un ⟨op,0,[]⟩ t).tin 6)=ab t.body+4:=by
          rcases hop' with rfl | rfl
          · rw [Tm.tin_body (show (6:Int)≤7 by decide)]
            show ab ([114,101,40]++t.body++[41])=_
            rw [eA,eA]; show 3+_+1=_; omega
          · rw [Tm.tin_body (show (6:Int)≤7 by decide)]
            show ab ([105,109,40]++t.body++[41])=_
            rw [eA,eA]; show 3+_+1=_; omega
         rw [e3]
         show _≤(bx s q).pos - r.pos
         rw [k2]; simp only [Rd.to] at e2; omega
     · exfalso
       have:(bx s q).bad<0:=hb
       have:=g1.low; omega
   · exfalso
     rw [jB g2] at hb
     have:q.bad<0:=hb; omega
end Go.Proofs.YtpfidgnkokidoaaGreatDoor
namespace Go.Proofs.YtpfidgnkokidoaaGreatDoor
open Go Go.Ev
set_option maxRecDepth 100000
def OG (d:Deed):Str:=bif d.kind==1 then d.name++[61]++KO d.expr else bif d.kind==2 then bB++d.name else cv++d.name
def On (l:List Deed):Str:=Lib.join (l.map OG) [59]
/-! ### the document's -/
end Go.Proofs.YtpfidgnkokidoaaGreatDoor
namespace Go.Proofs.YtpfidgnkokidoaaGreatDoor
open Go Go.Ev
set_option maxRecDepth 100000
variable (s:Str) (pos:Int) (out:List Cell) (wt:List Wait)
abbrev mkC:List Chunk:=[Chunk.cells [SC.pd (PD.str s),SC.i pos,SC.own 3,SC.own 2] 209,Chunk.dead,Chunk.own 238 ETy.wait wt,Chunk.own 92 ETy.cell out]
abbrev mkD:List Chunk:=[Chunk.cells [SC.pd (PD.str s),SC.i pos,SC.own 1,SC.own 3] 209,Chunk.own 92 ETy.cell out,Chunk.dead,Chunk.own 238 ETy.wait wt]
def upC:Nat→Nat
 | 2=>4
 | n=>n
def dnC:Nat→Nat
 | 4=>2
 | n=>n
def upD:Nat→Nat
 | 1=>3
 | 3=>4
 | n=>n
def dnD:Nat→Nat
 | 3=>1
 | 4=>3
 | n=>n
theorem rnC:RnW upC dnC 3 (mkC s pos out wt) (mkB s pos out wt):=by
 refine ⟨fun j x' h=>?_,fun j hj=>?_⟩
 · match j,h with
   | 0,h=>right; exact ⟨_,rfl,(av h).symm,rfl,by simp [Chunk.refs,SC.refs,upC,dnC]⟩
   | 1,h=>left; simpa using h.symm
   | 2,h=>left; simpa using h.symm
   | 3,h=>right; exact ⟨_,rfl,(av h).symm,rfl,by simp [Chunk.refs]⟩
   | 4,h=>right; exact ⟨_,rfl,(av h).symm,rfl,by simp [Chunk.refs]⟩
   | j+5,h=>simp at h
 · match j,hj with
   | 0,_=>rfl
   | 1,_=>rfl
   | 2,_=>rfl
theorem rnD:RnW upD dnD 3 (mkD s pos out wt) (mkB s pos out wt):=by
 refine ⟨fun j x' h=>?_,fun j hj=>?_⟩
 · match j,h with
   | 0,h=>right; exact ⟨_,rfl,(av h).symm,rfl,by simp [Chunk.refs,SC.refs,upD,dnD]⟩
   | 1,h=>left; simpa using h.symm
   | 2,h=>left; simpa using h.symm
   | 3,h=>right; exact ⟨_,rfl,(av h).symm,rfl,by simp [Chunk.refs]⟩
   | 4,h=>right; exact ⟨_,rfl,(av h).symm,rfl,by simp [Chunk.refs]⟩
   | j+5,h=>simp at h
 · match j,hj with
   | 0,_=>rfl
   | 1,_=>rfl
   | 2,_=>rfl
theorem McQ.c {s:Str} {ret:SV} {pos:Int} {out:List Cell} {wt:List Wait} {c:List Chunk} (h:c=mkC s pos out wt):McQ s ret pos out wt ret c:=⟨rfl,by rw [h]; exact ⟨_,_,rnC s pos out wt⟩⟩
theorem McQ.d {s:Str} {ret:SV} {pos:Int} {out:List Cell} {wt:List Wait} {c:List Chunk} (h:c=mkD s pos out wt):McQ s ret pos out wt ret c:=⟨rfl,by rw [h]; exact ⟨_,_,rnD s pos out wt⟩⟩
/-! ### numbers -/
def KG:Cfg:=⟨a6,[uk,Ap]⟩
theorem I2:ah Tryz.prog KG.tab:=(ah.cons u6 (ah.cons BO ah.nil))
abbrev XnQ (k:Int) (out:List Cell) (wt:List Wait):Out:=McQ s (.x (.b (decide ((bU s ⟨k,out, -1⟩).bad<0)))) (bU s ⟨k,out, -1⟩).pos (bU s ⟨k,out, -1⟩).out wt
theorem XnQ.no {s:Str} {k:Int} {out:List Cell} {wt:List Wait} (hk:0≤k) (h:((aQ (cL s k)).2 != 0||decide (bQ (eZ s k)<0))=true):XnQ s k out wt (.x (.b false)) (mkA s k out wt):=by
 have e:bU s ⟨k,out, -1⟩=⟨k,out,k⟩:=jt (r:=⟨k,out, -1⟩) h
 unfold XnQ
 rw [e,decide_eq_false (show ¬k<0 by omega)]
 exact McQ.a rfl
theorem XnQ.yes {s:Str} {k p:Int} {out:List Cell} {wt:List Wait} (h:((aQ (cL s k)).2 != 0||decide (bQ (eZ s k)<0))=false) (hp:p=if dm s k=true then cb s k+1 else cb s k):XnQ s k out wt (.x (.b true)) (mkC s p (out++[eZ s k]) wt):=by
 have e:bU s ⟨k,out, -1⟩=⟨p,out++[eZ s k], -1⟩:=by rw [hp]; exact jv (r:=⟨k,out, -1⟩) h
 unfold XnQ
 rw [e,decide_eq_true (show (-1:Int)<0 by omega)]
 exact McQ.c rfl
abbrev zMp1:List PI:=[.code [1,1,0,0,0],.inLoop [1,1,0,0,0],.inBlock 0,.code [1,1,1]]
theorem GV (k:Nat) (out:List Cell) (wt:List Wait) (Γ:Ctx) (hs:s.length≤1048576) (ho:room (out.length+1) 32) (hk:k<s.length) (hd:isD (s.getD k 0)=true):∀ (n m:Nat),s.length - m≤n→m≤s.length→k+1≤m→(s.drop k).takeWhile isD=seg s k m++(s.drop m).takeWhile isD→(bD s (k:Int)=48→m=k+1) →
 J Tryz.prog 194 (az Tryz.f194) Γ (XnQ s k out wt) zMp1 ({ n:=107,fr:=[(0,.x (.c (.loc 0 0))),(2,.p (.bool false)),(3,.i ((m:Int)))],ck:=[.cells [.pd (.str s),.i k,.own 1,.own 2] 209,.own 92 .cell out,.own 238 .wait wt],kn:=[2],m:=3 }):=by
 intro n
 induction n with
 | zero=>?_
 | succ n ih=>?_
 all_goals
  intro m hn hm hkm hseg h48
  refine jg I2 Tryz.func194 (let x8:=((aw s (some (k:Int)) (some (m:Int))).2); let x1:=(aQ x8); let x2:List Chunk:=[.cells [.pd (.str s),.i k,.own 1,.own 2] 209,.own 92 .cell out,.own 238 .wait wt]; let x3:=(↑((List.getD s m (0:UInt8)).toNat):Int); let x4:=(↑((List.getD s k (0:UInt8)).toNat):Int); let x5:=((m:Int)<ab s); let x6:=(out++[{ op:=(2:Int),a:=x1.1,name:=[] }]); let x7:=(out++[{ op:=(1:Int),a:=x1.1,name:=[] }]); let x9:=(IntKind.wrap .i64 ((m:Int)+1)); .need ((0:Int)≤(k:Int)∧(k:Int)<ab s) (.need ((((19,31,true,eU true (x4 != 48&&decide x5) none).2).2).2→(0:Int)≤(m:Int)∧(m:Int)<ab s) (.need ((((28,40,true,eU true (x4 != 48&&decide x5&&decide (x3≥48)) none).2).2).2→(0:Int)≤(m:Int)∧(m:Int)<ab s) (.ite (x4 != 48&&decide x5&&decide (x3≥48)&&decide (x3≤57)) (.stop zMp1 { n:=107,fr:=[(0,.x (.c (.loc 0 0))),(2,.p (.bool false)),(3,.i x9)],ck:=x2,m:=3 }) (.need ((0:Int)≤(k:Int)∧(k:Int)≤(m:Int)∧(m:Int)≤(s.length:Int)) (.need (x8.length≤281474976710656) (.need (decide x5=true→(0:Int)≤(m:Int)∧(m:Int)<ab s) (.ite (decide x5&&x3==105) (.ite (x1.2 != (0:Int)||decide (dU (2:Int) (x1.1) []<(0:Int))) (.ret (.p (.bool false)) x2) (.need (room (List.length x6) 32) (.ret (.p (.bool true)) [.cells [.pd (.str s),.i x9,.own 3,.own 2] 209,.dead,.own 238 .wait wt,.own 92 .cell x6]))) (.ite (x1.2 != (0:Int)||decide (dU (1:Int) (x1.1) []<(0:Int))) (.ret (.p (.bool false)) x2) (.need (room (List.length x7) 32) (.ret (.p (.bool true)) [.cells [.pd (.str s),.i m,.own 3,.own 2] 209,.dead,.own 238 .wait wt,.own 92 .cell x7]))))))))))) ?_
  conv=>zeta
  have hL:ab s=(s.length:Int):=rfl
  have hcm:=Bq (s:=s) (k:=k) (m:=m) (by omega) hm
  have hnb:=ib (s:=s) (k:=(k:Int)) (by omega) (by omega) hd
  have inb:decide ((m:Int)<ab s)=true→0≤(m:Int)∧(m:Int)<ab s:=fun h=>⟨by omega,of_decide_eq_true h⟩
  refine ⟨⟨by omega,by omega⟩,fun h=>?_,fun h=>?_,fun h=>?_,fun h=>?_⟩
  · simp only [eU,af] at h; exact inb h.2
  · simp only [eU,af] at h; exact inb h.1.2
  · have h':(((s.getD k 0).toNat:Int) != 48)=true∧decide ((m:Int)<ab s)=true∧isD (s.getD m 0)=true:=by
     simp only [af,decide_eq_true_eq] at h
     simp only [isD,af,decide_eq_true_eq]
     exact ⟨h.1.1.1,h.1.1.2,by omega,h.2⟩
    have hlt:m<s.length:=by have:=of_decide_eq_true h'.2.1; omega
    have hn48:bD s (k:Int)≠48:=by
     have:=h'.1
     simpa [bD] using this
    first
    | (exfalso; omega)
    | (rw [cU (by omega)]
       exact J.kn [2] (ih (m+1) (by omega) (by omega) (by omega) (by rw [hseg,qC (by omega) hlt h'.2.2]) (fun e=>absurd e hn48)))
  · have e1:(m:Int)=cb s (k:Int):=by
     by_cases h8:bD s (k:Int)=48
     · rw [cb,if_pos h8,h48 h8]; omega
     · have e:(s.drop m).takeWhile isD=[]:=nZ fun hlt=>by
        cases hx:isD (s.getD m 0) with
        | false=>rfl
        | true =>
          exfalso
          simp only [isD,af,decide_eq_true_eq] at hx
          have c1:(((s.getD k 0).toNat:Int) != 48)=true:=by simpa [bD] using h8
          rw [c1,decide_eq_true (show (m:Int)<ab s by omega),decide_eq_true (show ((s.getD m 0).toNat:Int)≥48 by omega),decide_eq_true hx.2] at h
          cases h
       rw [cb,if_neg h8]
       show (m:Int)=(k:Int)+ab ((s.drop k).takeWhile isD)
       rw [hseg,e,bZ]
       show (m:Int)=(k:Int)+((seg s k m).length:Int)
       omega
    have hnb0:(k:Int)≤cb s (k:Int):=by omega
    rw [e1]
    have hcl:(cL s (k:Int)).length≤281474976710656:=by
     unfold cL; rw [aL,bo]; omega
    refine ⟨⟨by omega,hnb0,hnb.2⟩,hcl,fun h=>⟨by omega,of_decide_eq_true h⟩,fun hi=>?_,fun hi=>?_⟩
    · have hi':dm s (k:Int)=true:=by first | exact hi | (rw [dm,bD,show (cb s (k:Int)).toNat=m by omega]; exact hi)
      have hc:eZ s (k:Int)=⟨2,(aQ (cL s (k:Int))).1,[]⟩:=by rw [eZ,if_pos hi']
      refine ⟨fun hb=>?_,fun hb=>⟨by rw [aj]; exact ho,?_⟩⟩
      · exact XnQ.no (by omega) (by rw [hc]; exact hb)
      · have:=XnQ.yes (s:=s) (k:=(k:Int)) (p:=cb s (k:Int)+1) (out:=out) (wt:=wt) (by rw [hc]; exact hb) (by rw [if_pos hi'])
        rw [hc] at this
        rw [bG (by omega) (by omega)]; exact this
    · have hi':¬dm s (k:Int)=true:=by
       have:dm s (k:Int)=false:=by first | exact hi | (rw [dm,bD,show (cb s (k:Int)).toNat=m by omega]; exact hi)
       rw [this]; simp
      have hc:eZ s (k:Int)=⟨1,(aQ (cL s (k:Int))).1,[]⟩:=by rw [eZ,if_neg hi']
      refine ⟨fun hb=>?_,fun hb=>⟨by rw [aj]; exact ho,?_⟩⟩
      · exact XnQ.no (by omega) (by rw [hc]; exact hb)
      · have:=XnQ.yes (s:=s) (k:=(k:Int)) (p:=cb s (k:Int)) (out:=out) (wt:=wt) (by rw [hc]; exact hb) (by rw [if_neg hi'])
        rw [hc] at this
        exact this
theorem Gs (hs:s.length≤1048576) (ho:room (out.length+1) 32) (h0:0≤pos) (h1:pos<ab s) (hd:isD (s.getD pos.toNat 0)=true) :
 ak Tryz.prog 194 [.c (.loc 0 0)] (mkA s pos out wt) (.x (.b (decide ((bU s ⟨pos,out, -1⟩).bad<0)))) (mkB s (bU s ⟨pos,out, -1⟩).pos (bU s ⟨pos,out, -1⟩).out wt):=by
 obtain ⟨k,rfl⟩:=cS h0
 have hL:ab s=(s.length:Int):=rfl
 refine ak.mc Tryz.func194 (by kernel_rfl) (by kernel_rfl) rfl rfl fun Γ=>?_
 refine jg aV Tryz.func194 (.stop zMp1 { n:=107,fr:=[(0,.x (.c (.loc 0 0))),(2,.p (.bool false)),(3,.i (IntKind.wrap .i64 ((k:Int)+1)))],ck:=[.cells [.pd (.str s),.i k,.own 1,.own 2] 209,.own 92 .cell out,.own 238 .wait wt],kn:=[2],m:=3 }) ?_
 rw [bG (n:=(k:Int)+1) (by omega) (by omega)]
 have hlt:k<s.length:=by omega
 have hd':isD (s.getD k 0)=true:=hd
 exact GV s k out wt Γ hs ho hlt hd' s.length (k+1) (by omega) (by omega) (by omega) (by
  rw [gK hlt (aD k),eV,cH hlt,dv,if_pos hd']; rfl) (fun _=>rfl)
def xt:Ent:=(194,fun
 | [.c (.loc 0 0)],[.cells [.pd (.str s),.pd (.int .i64 pos),.own 1,.own 2] 209,.own 92 .cell out,.own 238 .wait wt]=>some (some (s.length≤1048576∧room (out.length+1) 32∧0≤pos∧pos<ab s∧isD (s.getD pos.toNat 0)=true),.x (.c (.pd (.bool (decide ((bU s ⟨pos,out, -1⟩).bad<0))))),[.cells [.pd (.str s),.pd (.int .i64 (bU s ⟨pos,out, -1⟩).pos),.own 3,.own 4] 209,.dead,.dead,.own 92 .cell (bU s ⟨pos,out, -1⟩).out,.own 238 .wait wt])
 | _,_=>none)
theorem JF:EntOk Tryz.prog xt:=entOk fun vs ck=>by
 unfold xt; dsimp only; split
 · rename_i s pos out wt; exact entS fun hp=>Gs s pos out wt hp.1 hp.2.1 hp.2.2.1 hp.2.2.2.1 hp.2.2.2.2
 · exact entN
end Go.Proofs.YtpfidgnkokidoaaGreatDoor

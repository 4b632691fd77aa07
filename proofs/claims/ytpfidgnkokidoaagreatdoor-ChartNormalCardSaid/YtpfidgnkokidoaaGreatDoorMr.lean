/- What is read is a tree, whose text is no longer. Conditions: none. Contracts: blocks told. Conditions: none. Contracts of the document's reader of expressions: numbers, operands. Conditions: places within the text. Contracts of the document's reader of expressions: what stands behind an operand. Conditions: places within the text. -/
import Derived.Test.YtpfidgnkokidoaaGreatDoorOa
import Derived.Test.YtpfidgnkokidoaaGreatDoorShelfb
import Derived.Test.YtpfidgnkokidoaaGreatDoorNd
import Derived.Test.YtpfidgnkokidoaaGreatDoorOb
namespace Go.Proofs.YtpfidgnkokidoaaGreatDoor
open Go Go.Ev
set_option maxRecDepth 100000
variable {s:Str}
theorem Ny (w:List UInt8):∀ a:Nat,w.all isD=true→cT a w<(a+1) * 10 ^ w.length:=by
 induction w with
 | nil =>
   intro a _
   rw [aj,Nat.pow_zero,Nat.mul_one]
   exact Nat.lt_succ_self a
 | cons c r ih =>
   intro a h
   rw [aE,ab] at h
   have h1:=h.1
   simp only [isD,ab,decide_eq_true_eq] at h1
   have h2:=ih (10 * a+(c.toNat - 48)) h.2
   have e:cT a (c::r)=cT (10 * a+(c.toNat - 48)) r:=rfl
   rw [e]
   refine dI h2 ?_
   rw [ah,Nat.pow_succ,Nat.mul_comm (10 ^ r.length) 10,← fY]
   exact bV _ (by omega)
theorem uP:∀ (k u:Nat),u<10 ^ (k+1)→(Lib.decDigits u).length≤k+1
 | 0,u,h=>by
   have:u<10:=by simpa using h
   rw [Lib.decDigits_one this]; simp
 | k + 1,u,h=>by
   by_cases h':u<10
   · rw [Lib.decDigits_one h']; simp
   · rw [Lib.decDigits,dif_neg h',ag]
     have:=uP k (u / 10) (by rw [Nat.pow_succ] at h; omega)
     simp only [ah,aj]; omega
theorem Ig {w:Str} (h1:w.all isD=true) (h2:(bb w).2=0):0≤(bb w).1∧af (Lib.itoa (bb w).1)≤af w:=by
 cases w with
 | nil=>exact absurd h2 (by decide)
 | cons c r =>
   have hc:c≠45:=by
    intro e; subst e
    simp only [aE,ab] at h1
    exact absurd h1.1 (by decide)
   obtain ⟨e1,e2⟩:=jk r hc
   have hn:bb (c::r)=if fQ (c::r)=true then (0,1) else if 1099511627776<cT 0 (c::r) then (0,5) else ((cT 0 (c::r):Int),0):=by
    unfold bb; rw [e1,e2]; rfl
   rw [hn] at h2 ⊢
   split at h2
   · exact absurd h2 (by decide)
   · rename_i hf
     split at h2
     · exact absurd h2 (by decide)
     · rename_i hm
       rw [if_neg hf,if_neg hm]
       have hl:=Ny (c::r) 0 h1
       rw [bG,Nat.one_mul,ah] at hl
       show 0≤((cT 0 (c::r):Nat):Int)∧af (Lib.itoa ((cT 0 (c::r):Nat):Int))≤af (c::r)
       rw [jm (eE _),bf]
       refine ⟨eE _,?_⟩
       have h3:=uP r.length _ hl
       simp only [af,ah]; omega
theorem pJ {p:UInt8→Bool}:∀ l:List UInt8,(l.takeWhile p).all p=true
 | []=>rfl
 | c::r=>by
   rw [eg]
   split
   · rename_i h; rw [aE,h,pJ r]; rfl
   · rfl
theorem yf {k:Int} (h0:0≤k) (h1:k<af s) (hd:isD (s.getD k.toNat 0)=true):(cX s k).all isD=true∧af (cX s k)=cg s k - k:=by
 have hb:=jJ h0 h1 hd
 have hL:af s=(s.length:Int):=rfl
 have hlen:af (cX s k)=cg s k - k:=by
  unfold cX
  simp only [af,bF,bw]; omega
 refine ⟨?_,hlen⟩
 by_cases h48:bU s k=48
 · have e:cg s k=k+1:=by unfold cg; rw [if_pos h48]
   have:cX s k=[s.getD k.toNat 0]:=by
    unfold cX
    rw [e,fM,drop_at h0 h1,show (k+1).toNat - k.toNat=1 by omega]; rfl
   rw [this]; simp only [aE,hd,List.all_nil]; rfl
 · have e:cg s k=k+af ((s.drop k.toNat).takeWhile isD):=by unfold cg; rw [if_neg h48]
   have:cX s k=(s.drop k.toNat).takeWhile isD:=by
    unfold cX
    have e2:(cg s k).toNat - k.toNat=((s.drop k.toNat).takeWhile isD).length:=by rw [e]; simp only [af]; omega
    rw [fM,e2]
    exact (List.prefix_iff_eq_take.1 (List.takeWhile_prefix isD)).symm
   rw [this]; exact pJ _
/-! ### texts of trees, by strengths -/
theorem Gp (t:Tm) {p q:Int} (h:p≤q):af (t.tin p)≤af (t.tin q):=by
 by_cases hq:t.pow<q
 · by_cases hp:t.pow<p
   · rw [Tm.tin_paren hp,Tm.tin_paren hq]; exact cd _
   · rw [Tm.tin_body (by omega),Tm.tin_paren hq]; simp [af]; omega
 · rw [Tm.tin_body (by omega),Tm.tin_body (by omega)]; exact cd _
theorem L4 (t:Tm) (p:Int):af (t.tin p)≤af t.body+2:=by
 have:=ej t.pow t.body p
 unfold Tm.tin
 simp only [af]; omega
theorem Hf {op:Int} (h1:11≤op) (h2:op≤23):bx ⟨op,0,[]⟩=2:=by
 have h:op=11∨op=12∨op=13∨op=14∨op=15∨op=16∨op=17∨op=18∨op=19∨op=20∨op=21∨op=22∨op=23:=by omega
 rcases h with rfl | rfl | rfl | rfl | rfl | rfl | rfl | rfl | rfl | rfl | rfl | rfl | rfl <;> decide
theorem vP (x:Str) (h:(bZ x).1≠0):(bZ x).2=af (ax (bZ x).1).1:=by
 have key:∀ a:UInt8,(gT a).1≠0→(gT a).2=af (ax (gT a).1).1:=by
  intro a h
  by_cases e0:a=43
  · subst e0; rfl
  by_cases e1:a=45
  · subst e1; rfl
  by_cases e2:a=42
  · subst e2; rfl
  by_cases e3:a=47
  · subst e3; rfl
  by_cases e4:a=37
  · subst e4; rfl
  by_cases e5:a=61
  · subst e5; rfl
  by_cases e6:a=60
  · subst e6; rfl
  by_cases e7:a=62
  · subst e7; rfl
  by_cases e8:a=38
  · subst e8; rfl
  by_cases e9:a=124
  · subst e9; rfl
  have e:gT a=(0,0):=by simp only [gT,py,e0,e1,e2,e3,e4,e5,e6,e7,e8,e9,if_false,if_true]
  rw [e] at h; exact absurd rfl h
 match x,h with
 | [],h=>exact absurd rfl h
 | [a],h=>exact key a h
 | a :: b::r,h =>
   by_cases h2:gf a b=0
   · have e:bZ (a::b::r)=gT a:=by simp only [bZ,h2,if_true]
     rw [e] at h ⊢; exact key a h
   · have e:bZ (a::b::r)=(gf a b,2):=by simp only [bZ,h2,if_false]
     rw [e]
     have ht:gf a b=17∨gf a b=19∨gf a b=21:=by
      unfold gf at h2 ⊢
      repeat' (split at h2)
      all_goals first | (exact absurd rfl h2) | skip
      · rename_i g1 g2; rw [if_pos g1,if_pos g2]; exact .inl rfl
      · rename_i g1 g2 g3; rw [if_pos g1,if_neg g2,if_pos g3]; exact .inr (.inl rfl)
      · rename_i g1 g2 g3 g4; rw [if_pos g1,if_neg g2,if_neg g3,if_pos g4]; exact .inr (.inr rfl)
     rcases ht with e | e | e <;> rw [e] <;> rfl
/-! ### leaves -/
theorem Jb {c:Cell} (h:bx c=0) {p:Int} (hp:p≤7):(Tm.leaf c).tin p=fj c:=by
 have hpw:(Tm.leaf c).pow=7:=by
  rcases gk h with ⟨a,rfl,_⟩ | ⟨a,rfl,_⟩ | rfl | rfl | ⟨n,rfl,_⟩ | ⟨n,rfl,_⟩ <;> rfl
 rw [Tm.tin_body (by omega)]; rfl
theorem vM {op:Int} {n:Str} (h:op=5∨op=6) (hn:aO n=true):bx ⟨op,0,n⟩=0:=by
 rcases h with rfl | rfl <;> simp [bx,fC,hn]
theorem JY {r:Rd} (hok:Ok s r) (hl:r.pos<af s) (hb:(eQ s r).bad<0):∃ c,bx c=0∧(eQ s r).out=r.out++[c]∧af (fj c)≤(eQ s r).pos - r.pos:=by
 have h0:=hok.low
 have hbad:=hok.bad
 have hwr:∀ k,0≤k→0≤(r.wrong k).bad:=by intro k hk; simp only [Rd.wrong,hbad]; rw [if_pos (by omega)]; exact hk
 unfold eQ at hb ⊢
 split at hb
 · rename_i hd
   rw [if_pos hd]
   obtain ⟨f1,f2⟩:=yf h0 hl hd
   have hnb:=jJ h0 hl hd
   unfold cC at hb ⊢
   split at hb
   · have:=hwr r.pos h0; omega
   · rename_i hx
     rw [if_neg hx]
     simp only [not_or,ne_eq,Classical.not_not,Int.not_lt] at hx
     obtain ⟨g1,g2⟩:=Ig f1 hx.1
     have hw0:bx (fB s r.pos)=0:=by
      rcases Bu (fB s r.pos) hx.2 with ⟨h,_⟩ | ⟨_,h,_⟩ | ⟨_,h⟩
      · exact h
      · exfalso; unfold fB at h; simp only at h; split at h <;> omega
      · exfalso; unfold fB at h; simp only at h; split at h <;> omega
     refine ⟨fB s r.pos,hw0,rfl,?_⟩
     unfold fB
     cases himg:dn s r.pos
     · show af (Lib.itoa (bb (cX s r.pos)).1)≤cg s r.pos - r.pos
       omega
     · show af (Lib.itoa (bb (cX s r.pos)).1++[105])≤cg s r.pos+1 - r.pos
       rw [cc]; show _+1≤_; omega
 · rename_i hd
   rw [if_neg hd]
   split at hb
   · rename_i hw
     rw [if_pos hw]
     refine ⟨⟨3,0,[]⟩,by decide,rfl,?_⟩
     show (4:Int)≤r.pos+4 - r.pos; omega
   · rename_i hw1
     rw [if_neg hw1]
     split at hb
     · rename_i hw
       rw [if_pos hw]
       refine ⟨⟨4,0,[]⟩,by decide,rfl,?_⟩
       show (5:Int)≤r.pos+5 - r.pos; omega
     · rename_i hw2
       rw [if_neg hw2]
       split at hb
       · rename_i hi
         rw [if_pos hi]
         unfold inR at hb ⊢
         split at hb
         · exfalso
           have e:((r.to (r.pos+3)).wrong (r.pos+3)).bad=r.pos+3:=by simp [Rd.wrong,Rd.to,hbad]
           omega
         · rename_i hn
           have hn':aO (aG s (r.pos+3))=true:=by simpa using hn
           rw [if_neg hn]
           refine ⟨⟨6,0,aG s (r.pos+3)⟩,vM (.inr rfl) hn',?_,?_⟩
           · unfold bQ; split <;> rfl
           · have e:(bQ s (r.to (r.pos+3+af (aG s (r.pos+3))))).pos=r.pos+3+af (aG s (r.pos+3))+1:=by unfold bQ; split <;> rfl
             show af ([105,110,40]++aG s (r.pos+3)++[41])≤(bQ s _).pos - r.pos
             rw [e,cc,cc]
             show 3+_+1≤_; omega
       · rename_i hi
         rw [if_neg hi]
         split at hb
         · rename_i hn
           rw [if_pos hn]
           refine ⟨⟨5,0,aG s r.pos⟩,vM (.inl rfl) hn,rfl,?_⟩
           show af (aG s r.pos)≤r.pos+af (aG s r.pos) - r.pos; omega
         · have:=hwr r.pos h0; omega
theorem BW {k op:Int} (h:cw s k = .pre op):op=7∨op=8:=by
 unfold cw at h
 repeat' (split at h)
 all_goals (cases h)
 · exact .inl rfl
 · exact .inr rfl
/-! ### trees -/
def Pp (s:Str):Task→Rd→Rd→Prop
 | .bin p,r,o=>Ok s r→o.bad<0→1≤p→p≤6→∃ t:Tm,t.ok∧o.out=r.out++t.flat∧af (t.tin p)≤o.pos - r.pos
 | .una,r,o=>Ok s r→o.bad<0→∃ t:Tm,t.ok∧o.out=r.out++t.flat∧af (t.tin 6)≤o.pos - r.pos
 | .loop p,r,o=>Ok s r→o.bad<0→1≤p→p≤5→∀ (t:Tm) (out:List Cell) (k:Int),t.ok→r.out=out++t.flat→af (t.tin (gx p))≤r.pos - k→∃ t':Tm,t'.ok∧o.out=out++t'.flat∧af (t'.tin p)≤o.pos - k
theorem AL (p:Int):p≤gx p∧gx p≤p+1:=by
 unfold gx
 cases h:p==3
 · show p≤p∧p≤p+1; omega
 · have:=eq_of_beq h; show p≤4∧4≤p+1; omega
theorem AV {op p:Int} (h1:11≤op) (h2:op≤23) (hp:(ax op).2=p) {t u:Tm} (ht:t.ok) (hu:u.ok):(Tm.bin ⟨op,0,[]⟩ t u).ok∧(Tm.bin ⟨op,0,[]⟩ t u).tin p=t.tin (gx p)++(ax op).1++u.tin (p+1):=by
 refine ⟨⟨Hf h1 h2,ht,hu⟩,?_⟩
 rw [Tm.tin_body (by show p≤(ax op).2; omega),← hp]; rfl
theorem Run.got {t:Task} {r o:Rd} (h:Run s t r o):Pp s t r o:=by
 induction h with
 | six _ ih=>intro hok hb _ _; exact ih hok hb
 | @bin p r q o h1 h5 hr hl ih1 ih2 =>
   intro hok hb _ _
   rcases hr.inv hok with ⟨g1,g2,_⟩ | ⟨_,g2,_⟩
   · obtain ⟨t,ht,e1,e2⟩:=ih1 hok (by have:=g1.bad; omega) (by omega) (by omega)
     exact ih2 g1 hb h1 h5 t r.out r.pos ht e1 (by have:=Gp t (AL p).2; omega)
   · have:=hl.stop g2
     subst this; omega
 | @done p r he =>
   intro hok hb h1 h5 t out k ht e1 e2
   exact ⟨t,ht,e1,by have:=Gp t (AL p).1; omega⟩
 | @more p r q o h1 h5 h3 hn hr hl ih1 ih2 =>
   intro hok hb _ _ t out k ht e1 e2
   obtain ⟨f1,f2,f3,f4,f5,f6,f7⟩:=gD h1 h5 hok.low hok.high hn
   have hlow:=hok.low
   have hok1:Ok s (r.to (r.pos+(bp (s.drop r.pos.toNat) p).2)):=⟨hok.bad,by simp only [Rd.to]; omega,by simp only [Rd.to]; omega⟩
   rcases hr.inv hok1 with ⟨g1,g2,_⟩ | ⟨_,g2,_⟩
   · obtain ⟨u,hu,m1,m2⟩:=ih1 hok1 (by have:=g1.bad; omega) (by omega) (by omega)
     obtain ⟨n1,n2⟩:=AV f4 f5 f3 ht hu
     have hlp:gx p=p:=by unfold gx; rw [beq_eq_false_iff_ne.2 h3]; rfl
     have hsn:=vP (s.drop r.pos.toNat) (by rw [f2]; omega)
     rw [f2] at hsn
     refine ih2 g1.emit hb h1 h5 (.bin ⟨(bp (s.drop r.pos.toNat) p).1,0,[]⟩ t u) out k n1 ?_ ?_
     · show q.out++[_]=out++(t.flat++u.flat++[_])
       rw [m1]; show r.out++u.flat++[_]=_
       rw [e1]; simp
     · rw [hlp,n2,cc,cc,← hsn]
       simp only [Rd.emit,Rd.to] at m2 g2 ⊢
       rw [hlp] at e2 ⊢
       omega
   · have:=hl.stop (r:=_) g2
     subst this
     exfalso; have:q.bad<0:=hb; omega
 | @once r q hn hr ih1 =>
   intro hok hb _ _ t out k ht e1 e2
   obtain ⟨f1,f2,f3,f4,f5,f6,f7⟩:=gD (by omega) (by omega) hok.low hok.high hn
   have hlow:=hok.low
   have hok1:Ok s (r.to (r.pos+(bp (s.drop r.pos.toNat) 3).2)):=⟨hok.bad,by simp only [Rd.to]; omega,by simp only [Rd.to]; omega⟩
   obtain ⟨u,hu,m1,m2⟩:=ih1 hok1 hb (by omega) (by omega)
   obtain ⟨n1,n2⟩:=AV f4 f5 f3 ht hu
   have hsn:=vP (s.drop r.pos.toNat) (by rw [f2]; omega)
   rw [f2] at hsn
   refine ⟨.bin ⟨(bp (s.drop r.pos.toNat) 3).1,0,[]⟩ t u,n1,?_,?_⟩
   · show q.out++[_]=out++(t.flat++u.flat++[_])
     rw [m1]; show r.out++u.flat++[_]=_
     rw [e1]; simp
   · rw [n2,cc,cc,← hsn]
     simp only [Rd.emit,Rd.to] at m2 ⊢
     rw [show (3:Int)+1=4 from rfl]
     omega
 | @lost r hl =>
   intro hok hb
   exfalso
   have:=hok.bad; have:=hok.low
   have e:(r.wrong r.pos).bad=r.pos:=by simp only [Rd.wrong]; rw [if_pos (by omega)]
   omega
 | @sign r q op hb0 hh hr ih =>
   intro hok hb
   have hlt:=hok.lt (fun x e=>by rw [hh] at e; subst e; simp)
   have hlow:=hok.low
   have hok1:Ok s (r.to (r.pos+1)):=⟨hok.bad,by simp only [Rd.to]; omega,by simp only [Rd.to]; omega⟩
   obtain ⟨t,ht,e1,e2⟩:=ih hok1 hb
   simp only [Rd.to,Rd.emit] at e1 e2 ⊢
   have hop:=BW hh
   refine ⟨.un ⟨op,0,[]⟩ t,⟨?_,ht⟩,?_,?_⟩
   · rcases hop with rfl | rfl <;> decide
   · rw [e1]; simp [Tm.flat]
   · have e3:(Tm.un ⟨op,0,[]⟩ t).tin 6=(ax op).1++t.tin 6:=by
      rcases hop with rfl | rfl
      · rw [Tm.tin_body (show (6:Int)≤6 from cd _)]; rfl
      · rw [Tm.tin_body (show (6:Int)≤6 from cd _)]; rfl
     have e4:af (ax op).1=1:=by rcases hop with rfl | rfl <;> rfl
     rw [e3,cc,e4]; omega
 | @leaf r hb0 hh =>
   intro hok hb
   have hlt:=hok.lt (fun x e=>by rw [hh] at e; subst e; simp)
   obtain ⟨c,g1,g2,g3⟩:=JY hok hlt hb
   exact ⟨.leaf c,g1,g2,by rw [Jb g1 (by omega)]; exact g3⟩
 | @par r q hb0 hh hr ih =>
   intro hok hb
   have hlt:=hok.lt (fun x e=>by rw [hh] at e; subst e; simp)
   have hlow:=hok.low
   have hok1:Ok s (r.to (r.pos+1)):=⟨hok.bad,by simp only [Rd.to]; omega,by simp only [Rd.to]; omega⟩
   rcases hr.inv hok1 with ⟨g1,_,_⟩ | ⟨_,g2,_⟩
   · obtain ⟨t,ht,e1,e2⟩:=ih hok1 (by have:=g1.bad; omega) (by omega) (by omega)
     rw [Tm.tin_body (t.pow_bounds ht).1] at e2
     have h2:=L4 t 6
     rcases lj g1 with ⟨_,k2,k3,_⟩ | ⟨k1,_⟩
     · refine ⟨t,ht,by rw [k3,e1]; rfl,?_⟩
       rw [k2]; simp only [Rd.to] at e2; omega
     · have:=g1.low; omega
   · rw [lM g2] at hb
     have:q.bad<0:=hb; omega
 | @call r q op hb0 hh hr ih =>
   intro hok hb
   have hlow:=hok.low
   obtain ⟨hop,_,_,_,_,_,hlt⟩:=uT hh
   have hok1:Ok s (r.to (r.pos+3)):=⟨hok.bad,by simp only [Rd.to]; omega,by simp only [Rd.to]; omega⟩
   rcases hr.inv hok1 with ⟨g1,_,_⟩ | ⟨_,g2,_⟩
   · obtain ⟨t,ht,e1,e2⟩:=ih hok1 (by have:=g1.bad; omega) (by omega) (by omega)
     rw [Tm.tin_body (t.pow_bounds ht).1] at e2
     rcases lj g1 with ⟨_,k2,k3,_⟩ | ⟨k1,_⟩
     · have hop':op=9∨op=10:=by rcases hop with ⟨_,h⟩ | ⟨_,h⟩; exact .inl h; exact .inr h
       refine ⟨.un ⟨op,0,[]⟩ t,⟨by rcases hop' with rfl | rfl <;> decide,ht⟩,?_,?_⟩
       · show (bQ s q).out++[_]=r.out++(t.flat++[_])
         rw [k3,e1]; simp [Rd.to]
       · have e3:af ((Tm.un ⟨op,0,[]⟩ t).tin 6)=af t.body+4:=by
          rcases hop' with rfl | rfl
          · rw [Tm.tin_body (show (6:Int)≤7 by decide)]
            show af ([114,101,40]++t.body++[41])=_
            rw [cc,cc]; show 3+_+1=_; omega
          · rw [Tm.tin_body (show (6:Int)≤7 by decide)]
            show af ([105,109,40]++t.body++[41])=_
            rw [cc,cc]; show 3+_+1=_; omega
         rw [e3]
         show _≤(bQ s q).pos - r.pos
         rw [k2]; simp only [Rd.to] at e2; omega
     · exfalso
       have:(bQ s q).bad<0:=hb
       have:=g1.low; omega
   · exfalso
     rw [lM g2] at hb
     have:q.bad<0:=hb; omega
theorem vG (h:(aR s).2.2=0):∃ t:Tm,t.ok∧aR s=(t.flat,0,0)∧t.flat.length≤32∧af t.body≤af s:=by
 unfold aR at h ⊢
 split at h
 · exact absurd (show (4:Int)=0 from h) (by decide)
 · rename_i h1
   split at h
   · exact absurd (show (1:Int)=0 from h) (by decide)
   · rename_i h2
     split at h
     · exact absurd (show (1:Int)=0 from h) (by decide)
     · rename_i h3
       split at h
       · exact absurd (show (4:Int)=0 from h) (by decide)
       · rename_i h4
         rw [if_neg h1,if_neg h2,if_neg h3,if_neg h4]
         have hok:Ok s ⟨0,[], -1⟩:=⟨rfl,cd _,by simp [af]⟩
         obtain ⟨t,ht,e1,e2⟩:=(kq s).got hok (by omega) (by omega) (by omega)
         have e1':(cK s).out=t.flat:=e1
         have hleft:=(kq s).inv hok
         rw [Tm.tin_body (t.pow_bounds ht).1] at e2
         refine ⟨t,ht,by rw [e1'],by rw [e1'] at h4; omega,?_⟩
         rcases hleft with ⟨g1,_⟩ | ⟨_,g2,_⟩
         · have:=g1.high
           have:af t.body≤(cK s).pos - 0:=e2
           omega
         · omega
end Go.Proofs.YtpfidgnkokidoaaGreatDoor
namespace Go.Proofs.YtpfidgnkokidoaaGreatDoor
open Go Go.Ev
set_option maxRecDepth 100000
def eH (d:Deed):Str:=bif d.kind==1 then d.name++[61]++fA d.expr else bif d.kind==2 then b6++d.name else c6++d.name
variable {d:Deed} (l:List Deed) {w:Str}
def gz:Str:=Lib.join (l.map eH) [59]
theorem ky (h:cA d=true) (h1:(d.kind==1)=true):aO d.name=true∧cS d.expr=true∧tT d.expr=false:=by
 rw [cA,h1,cond_true,ab] at h
 have h2:=h.2
 rw [jq,ab] at h2
 exact ⟨h.1,h2.1,nt h2.2⟩
theorem lU (h:cA d=true) (h1:(d.kind==1)=false):(d.kind=2∨d.kind=3)∧cz d.name=true∧d.expr=[]:=by
 rw [cA,h1,cond_false] at h
 cases h2:(d.kind==2||d.kind==3)
 · rw [h2] at h; cases h
 · rw [h2,cond_true,ab] at h
   refine ⟨by simpa using h2,h.1,?_⟩
   have h3:=h.2
   have:(d.expr.length:Int)=0:=by simpa using h3
   exact b4.1 (by omega)
theorem gW (h:aO w=true):w.length≤12:=by
 have h1:=(fD h).2.2.2.2.2.2.2
 have h2:af w=(w.length:Int):=rfl
 omega
theorem oJ (h:cz w=true):w.length≤17:=by
 have h1:=gW h
 unfold bz at h1
 cases hp:bm w [100,111,110,101,46]
 · rw [hp,cond_false] at h1; omega
 · rw [hp,cond_true,bF] at h1
   have:(af [100,111,110,101,46]).toNat=5:=rfl
   omega
theorem qe {l:List Cell} (h:cS l=true):(fA l).length≤512:=by
 obtain ⟨hl,t,ht,hf⟩:=mM h
 rw [← hf,ji ht]
 have:=(A3 t ht).1
 rw [hf] at this; omega
theorem qj (h:cA d=true):d.name.length≤17∧(eH d).length≤600∧(cS d.expr=true→(fA d.expr).length≤512):=by
 refine ⟨?_,?_,qe⟩
 · cases h1:d.kind==1
   · exact oJ (lU h h1).2.1
   · have:=gW (ky h h1).1; omega
 · unfold eH
   cases h1:d.kind==1
   · have:=oJ (lU h h1).2.1
     cases d.kind==2
     · simp only [cond_false,ag,c6,ah,aj]; omega
     · simp only [cond_true,cond_false,ag,b6,ah,aj]; omega
   · have g:=ky h h1
     have:=gW g.1
     have:=qe g.2.1
     simp only [cond_true,ag,ah,aj]; omega
theorem BR:∀ r:List Str,(∀ x∈r,x.length≤600)→(Lib.joinTail [59] r).length≤601 * r.length
 | [],_=>by simp [Lib.joinTail]
 | x::r,h=>by
   have h1:=BR r fun y hy=>h y (aD _ hy)
   have h2:=h x az
   have e:Lib.joinTail [59] (x::r)=[59]++x++Lib.joinTail [59] r:=by simp [Lib.joinTail]
   rw [e]; simp only [ag,ah,aj]; omega
theorem BF (r:List Str) (h:∀ x∈r,x.length≤600):(Lib.join r [59]).length≤601 * r.length:=by
 cases r with
 | nil=>simp [Lib.join_nil]
 | cons x r =>
   rw [Lib.join_cons,ag]
   have h1:=BR r fun y hy=>h y (aD _ hy)
   have h2:=h x az
   simp only [ah]; omega
theorem jI {l:List Deed} (h:dy l=true):(∀ d∈l,cA d=true)∧0<l.length∧l.length≤8:=by
 simp only [dy,ab,al,decide_eq_true_eq] at h
 exact ⟨h.1,by omega,by omega⟩
def vw:Ent:=(61,fun
 | [.c (.pd (.lst .cell l))],[]=>some (some (cS l=true),.tup [.c (.pd (.str (fA l))),.c (.pd (.int .i64 0))],[])
 | _,_=>none)
theorem GJ:EntOk Tryz.prog vw:=entOk fun vs ck=>by
 unfold vw; dsimp only; split
 · rename_i l; exact entS fun hp=>Dk l hp
 · exact entN
def yA:Cfg:=⟨bu,[rl,vw,yD]⟩
theorem sV:ai Tryz.prog yA.tab:=(ai.cons xi (ai.cons GJ (ai.cons IU ai.nil)))
abbrev zUf1:List PI:=[.code [1,1,1,0,1,0,0],.inLoop [1,1,1,0,1,0,0],.inBlock 0,.code [1,1,1,1]]
theorem MM (Γ:Ctx) (h:dy l=true):∀ (n k:Nat) (out:List Str),l.length - k≤n→k≤l.length→out.length=k→out++(l.drop k).map eH=l.map eH →
 J Tryz.prog 60 (aH Tryz.f60) Γ (Eq2 (.tup [.s (gz l),.i 0]) []) zUf1 ({ n:=53,fr:=[(2,.p (.str [])),(3,.i 0),(4,.x (.c (.own 0))),(12,.p (.lst .deed l)),(13,.i l.length),(14,.i k)],ck:=[.own 9 .str out] }):=by
 obtain ⟨hd,hp,hl⟩:=jI h
 intro n
 induction n with
 | zero=>?_
 | succ n ih=>?_
 all_goals
  intro k out hn hk ho hall
  refine jg sV Tryz.func60 (let x1:List (Nat×SV):=[(2,.p (.str [])),(3,.i 0),(4,.x (.c (.own 0))),(12,.p (.lst .deed l)),(13,.i l.length),(14,.i (IntKind.wrap .i64 ((k:Int)+1)))]; let x2:List PI:=zUf1; let x6:=(Deed.expr (ETy.get .deed l k)); let x3:=(out++[Deed.name (ETy.get .deed l k)++[(61:UInt8)]++fA x6]); let x4:=(out++[[(114:UInt8),97,105,115,101,58]++Deed.name (ETy.get .deed l k)]); let x5:=(out++[[(115:UInt8),101,110,100,58]++Deed.name (ETy.get .deed l k)]); let x7:=(Deed.name (ETy.get .deed l k)); .ite (decide ((k:Int)<(l.length:Int))) (.need (inRg k l.length) (.ite (Deed.kind (ETy.get .deed l k)==(1:Int)) (.need (cS x6=true) (.need (x7.length+1≤9223372036854775807) (.need ((Deed.name (ETy.get .deed l k)++[(61:UInt8)]).length+(fA x6).length≤9223372036854775807) (.need (room (x3.length) 16) (.stop x2 { n:=53,fr:=x1,ck:=[.own 9 .str x3] }))))) (.ite (Deed.kind (ETy.get .deed l k)==(2:Int)) (.need (6+x7.length≤9223372036854775807) (.need (room (x4.length) 16) (.stop x2 { n:=53,fr:=x1,ck:=[.own 9 .str x4] }))) (.need (5+x7.length≤9223372036854775807) (.need (room (x5.length) 16) (.stop x2 { n:=53,fr:=x1,ck:=[.own 9 .str x5] })))))) (.need (out.length≤140737488355328∧(Lib.join out [(59:UInt8)]).length≤140737488355328) (.ret (.tup [.p (.str (Lib.join out [(59:UInt8)])),.i 0]) []))) ?_
  conv=>zeta
  refine ⟨fun hlt=>?_,fun hge=>?_⟩
  · have hk':k<l.length:=by have:=of_decide_eq_true hlt; omega
    have hdk:=hd _ (List.mem_of_getElem? (ETy.getElem?_get (t:=.deed) hk'))
    rw [bY (t:=.deed) hk',ay] at hall
    refine ⟨by omega,?_⟩
    generalize ETy.get .deed l k=d at hall hdk
    obtain ⟨g1,g2,g3⟩:=qj hdk
    have hw:IntKind.wrap .i64 ((k:Int)+1)=((k+1:Nat):Int):=dY (by omega)
    rw [hw]
    have next:∀ x:Str,eH d=x→J Tryz.prog 60 (aH Tryz.f60) Γ (Eq2 (.tup [.s (gz l),.i 0]) []) zUf1 ({ n:=53,fr:=[(2,.p (.str [])),(3,.i 0),(4,.x (.c (.own 0))),(12,.p (.lst .deed l)),(13,.i l.length),(14,.i (((k+1:Nat):Int)))],ck:=[.own 9 .str (out++[x])] }):=fun x hx=>by
     first
     | (exfalso; omega)
     | exact ih (k+1) (out++[x]) (by omega) (by omega) (by simp; omega) (by rw [← hall,← hx]; simp)
    refine ⟨fun h1=>?_,fun h1=>⟨fun h2=>?_,fun h2=>?_⟩⟩
    · have g:=ky hdk h1
      have g4:=g3 g.2.1
      refine ⟨g.2.1,by omega,by simp only [ag,ah,aj]; omega,sT (by simp; omega),next _ ?_⟩
      rw [eH,h1]; rfl
    · refine ⟨by omega,sT (by simp; omega),next _ ?_⟩
      rw [eH,h1,h2]; rfl
    · refine ⟨by omega,sT (by simp; omega),next _ ?_⟩
      rw [eH,h1,h2]; rfl
  · rw [b9 (l:=l) (by have:=of_decide_eq_false hge; omega),cb,bt] at hall
    rw [hall]
    have hj:=BF (l.map eH) (fun x hx=>by
     obtain ⟨d,hd',rfl⟩:=bo.1 hx
     exact (qj (hd d hd')).2.1)
    rw [bD] at hj
    exact ⟨⟨by rw [bD]; omega,by omega⟩,rfl,rfl⟩
abbrev zUf2 (a:List Deed):ST:={ n:=53,fr:=[(2,.p (.str [])),(3,.i 0),(4,.p (.v (Value.slice none 0 0))),(12,.p (.lst .deed a)),(13,.i a.length),(14,.i 0)],ck:=[] }
theorem OU (h:dy l=true):ak Tryz.prog 60 [.l .deed l] [] (.tup [.s (gz l),.i 0]) []:=by
 refine dg sV Tryz.func60 (.ite (!dy l) (.ret (.tup [.p (.str []),.i 1]) []) (.stop zUf1 (zUf2 l))) fun Γ=>?_
 refine ⟨fun h'=>(by rw [h] at h'; cases h'),fun _=>?_⟩
 refine J.nilOwn 4 9 .str rfl (by kernel_rfl) ?_
 exact MM l Γ h l.length 0 [] (by omega) (by omega) rfl rfl
theorem NP (h:dy l=false):ak Tryz.prog 60 [.l .deed l] [] (.tup [.s [],.i 1]) []:=by
 refine dg sV Tryz.func60 (.ite (!dy l) (.ret (.tup [.p (.str []),.i 1]) []) (.stop zUf1 (zUf2 l))) fun Γ=>?_
 exact ⟨fun _=>⟨rfl,rfl⟩,fun h'=>(by rw [h] at h'; cases h')⟩
/-! ### the document's -/
end Go.Proofs.YtpfidgnkokidoaaGreatDoor
namespace Go.Proofs.YtpfidgnkokidoaaGreatDoor
open Go Go.Ev
set_option maxRecDepth 100000
variable (s:Str) (pos:Int) (out:List Cell) (wt:List Wait)
abbrev mkC:List Chunk:=[Chunk.cells [SC.pd (PD.str s),SC.i pos,SC.own 3,SC.own 2] 209,Chunk.dead,Chunk.own 238 ETy.wait wt,Chunk.own 92 ETy.cell out]
abbrev mkD:List Chunk:=[Chunk.cells [SC.pd (PD.str s),SC.i pos,SC.own 1,SC.own 3] 209,Chunk.own 92 ETy.cell out,Chunk.dead,Chunk.own 238 ETy.wait wt]
def upC:Nat→Nat
 | 2=>4
 | n=>n
def dnC:Nat→Nat
 | 4=>2
 | n=>n
def upD:Nat→Nat
 | 1=>3
 | 3=>4
 | n=>n
def dnD:Nat→Nat
 | 3=>1
 | 4=>3
 | n=>n
theorem rnC:RnW upC dnC 3 (mkC s pos out wt) (mkB s pos out wt):=by
 refine ⟨fun j x' h=>?_,fun j hj=>?_⟩
 · match j,h with
   | 0,h=>right; exact ⟨_,rfl,(au h).symm,rfl,by simp [Chunk.refs,SC.refs,upC,dnC]⟩
   | 1,h=>left; simpa using h.symm
   | 2,h=>left; simpa using h.symm
   | 3,h=>right; exact ⟨_,rfl,(au h).symm,rfl,by simp [Chunk.refs]⟩
   | 4,h=>right; exact ⟨_,rfl,(au h).symm,rfl,by simp [Chunk.refs]⟩
   | j+5,h=>simp at h
 · match j,hj with
   | 0,_=>rfl
   | 1,_=>rfl
   | 2,_=>rfl
theorem rnD:RnW upD dnD 3 (mkD s pos out wt) (mkB s pos out wt):=by
 refine ⟨fun j x' h=>?_,fun j hj=>?_⟩
 · match j,h with
   | 0,h=>right; exact ⟨_,rfl,(au h).symm,rfl,by simp [Chunk.refs,SC.refs,upD,dnD]⟩
   | 1,h=>left; simpa using h.symm
   | 2,h=>left; simpa using h.symm
   | 3,h=>right; exact ⟨_,rfl,(au h).symm,rfl,by simp [Chunk.refs]⟩
   | 4,h=>right; exact ⟨_,rfl,(au h).symm,rfl,by simp [Chunk.refs]⟩
   | j+5,h=>simp at h
 · match j,hj with
   | 0,_=>rfl
   | 1,_=>rfl
   | 2,_=>rfl
theorem McQ.c {s:Str} {ret:SV} {pos:Int} {out:List Cell} {wt:List Wait} {c:List Chunk} (h:c=mkC s pos out wt):McQ s ret pos out wt ret c:=⟨rfl,by rw [h]; exact ⟨_,_,rnC s pos out wt⟩⟩
theorem McQ.d {s:Str} {ret:SV} {pos:Int} {out:List Cell} {wt:List Wait} {c:List Chunk} (h:c=mkD s pos out wt):McQ s ret pos out wt ret c:=⟨rfl,by rw [h]; exact ⟨_,_,rnD s pos out wt⟩⟩
/-! ### numbers -/
abbrev XnQ (k:Int) (out:List Cell) (wt:List Wait):Out:=McQ s (.x (.b (decide ((cC s ⟨k,out, -1⟩).bad<0)))) (cC s ⟨k,out, -1⟩).pos (cC s ⟨k,out, -1⟩).out wt
theorem XnQ.no {s:Str} {k:Int} {out:List Cell} {wt:List Wait} (hk:0≤k) (h:((bb (cX s k)).2 != 0||decide (bx (fB s k)<0))=true):XnQ s k out wt (.x (.b false)) (mkA s k out wt):=by
 have e:cC s ⟨k,out, -1⟩=⟨k,out,k⟩:=lg (r:=⟨k,out, -1⟩) h
 unfold XnQ
 rw [e,decide_eq_false (show ¬k<0 by omega)]
 exact McQ.a rfl
theorem XnQ.yes {s:Str} {k p:Int} {out:List Cell} {wt:List Wait} (h:((bb (cX s k)).2 != 0||decide (bx (fB s k)<0))=false) (hp:p=if dn s k=true then cg s k+1 else cg s k):XnQ s k out wt (.x (.b true)) (mkC s p (out++[fB s k]) wt):=by
 have e:cC s ⟨k,out, -1⟩=⟨p,out++[fB s k], -1⟩:=by rw [hp]; exact kX (r:=⟨k,out, -1⟩) h
 unfold XnQ
 rw [e,decide_eq_true (show (-1:Int)<0 by omega)]
 exact McQ.c rfl
end Go.Proofs.YtpfidgnkokidoaaGreatDoor
namespace Go.Proofs.YtpfidgnkokidoaaGreatDoor
open Go Go.Ev
set_option maxRecDepth 100000
def CL (root:Code) (p:List Nat) (i:Nat) (st:ST) (v:SX):Option ST :=
 match (opsOf (sub root p))[i]? with
 | some o=>match o.guard,o.dst with
   | some (j,true),some d=>match ((opsOf (sub root p))[j]?).bind (·.dst) with
     | some s=>match lookup st.fr s with
       | some (.x (.c (.pd (.bool false))))=>bif Nat.blt d st.n && !Nat.beq s d then some { st with fr:=ei d (.grd s true v) st.fr } else none
       | _=>none
     | none=>none
   | _,_=>none
 | none=>none
theorem J.skip {P:Program} {f:FuncId} {root:Code} {Γ:Ctx} {Q:Out} {st st':ST} {p:List Nat} {i:Nat} {k:List PI} {v:SX} (h:CL root p i st v=some st') (hk:J P f root Γ Q (.ops p (i+1)::k) st'):J P f root Γ Q (.ops p i::k) st:=by
 unfold CL at h
 split at h
 · rename_i o ho
   split at h
   · rename_i j d hg hd
     split at h
     · rename_i s hs
       split at h
       · rename_i hb
         cases hbb:(Nat.blt d st.n && !Nat.beq s d)
         · rw [hbb] at h; cases h
         · rw [hbb] at h
           simp only [cond_true,aa] at h
           subst h
           simp only [ab,aC] at hbb
           have hdn:d<st.n:=aA hbb.1
           have hsd:s≠d:=fun e=>by rw [e] at hbb; simp at hbb
           intro hT V a w r
           have hoff:¬a.tmps.getD s undef = .bool true:=by
            have:=r.slots s _ (dE hb)
            have h2:SX.R V (.c (.pd (.bool false))) (a.tmps.getD s undef):=this
            generalize a.tmps.getD s undef=u at h2 ⊢
            cases h2; simp
           have hi:i<(opsOf (sub root p)).size:=(Array.getElem?_eq_some_iff.1 ho).1
           have hsz:(opsOf (sub root p)).size - i=((opsOf (sub root p)).size - (i+1))+1:=by omega
           simp only [ay,PI.den]
           rw [hsz,cv]
           refine Go.Sy.Fin.op_unwanted ho (km hg hs hoff) ?_
           rw [hd]
           exact hk hT V _ _ (r.put d (.grd s true v) _ hdn fun a' ha h2=>⟨fun h3=>absurd (by rw [← ha s hsd]; exact h3) hoff,fun _=>h2⟩)
       · cases h
     · cases h
   · cases h
 · cases h
/-! ### signs of one byte, of two -/
def two (x:Str):Int:=match x with | a::b::_=>gf a b | _=>0
def one (x:Str):Int:=match x with | a::_=>py a | []=>0
/-! ### the walk -/
def wh (s:Str) (pos:Int) (out:List Cell) (wt:List Wait) (o:Int×Int):Out:=fun v c =>
 if o.1=0∨(ax o.1).2=3∧pe wt.reverse=true then McQ s (.tup [.i pos,.i 0]) pos out wt v c
 else McQ s (.tup [.i (-1),.i 0]) (pos+o.2) (out++cellsOf (Ag (ax o.1).2 wt.reverse)) ((DX (ax o.1).2 wt.reverse).reverse++[⟨o.1,(ax o.1).2⟩]) v c
theorem wh.no {s:Str} {pos:Int} {out:List Cell} {wt:List Wait} {o:Int×Int} (h:o.1=0∨(ax o.1).2=3∧pe wt.reverse=true):wh s pos out wt o (.tup [.i pos,.i 0]) (mkA s pos out wt):=by
 unfold wh; rw [if_pos h]; exact McQ.a rfl
theorem wh.yes {s:Str} {pos k:Int} {out:List Cell} {wt:List Wait} {o:Int×Int} (h:¬(o.1=0∨(ax o.1).2=3∧pe wt.reverse=true)) (hk:k=pos+o.2):wh s pos out wt o (.tup [.i (-1),.i 0]) (mkB s k (out++cellsOf (Ag (ax o.1).2 wt.reverse)) ((DX (ax o.1).2 wt.reverse).reverse++[⟨o.1,(ax o.1).2⟩])):=by
 unfold wh; rw [if_neg h,hk]; exact McQ.b rfl
end Go.Proofs.YtpfidgnkokidoaaGreatDoor

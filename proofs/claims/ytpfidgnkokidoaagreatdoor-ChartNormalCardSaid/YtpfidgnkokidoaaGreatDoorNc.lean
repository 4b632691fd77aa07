/- Expressions read: bounds, one result, a result always. Conditions: none. Expressions read by the document's two lists, as a plain relation; both readers agree. Conditions: none. Numbers read by the document. Conditions: texts of at most 2^48 bytes. -/
import Derived.Test.YtpfidgnkokidoaaGreatDoorMa
namespace Go.Proofs.YtpfidgnkokidoaaGreatDoor
open Go Go.Ev
set_option maxRecDepth 100000
variable {s:Str}
theorem Run.stop {p:Int} {r o:Rd} (h:Run s (.loop p) r o) (hb:0≤r.bad):o=r:=by
 cases h with
 | done _=>rfl
 | more _ _ _ hn=>exact absurd (fun h=>by omega) hn
 | once hn=>exact absurd (fun h=>by omega) hn
structure Ok (s:Str) (r:Rd):Prop where
 bad:r.bad = -1
 low:0≤r.pos
 high:r.pos≤af s
def Left (s:Str) (r o:Rd):Prop :=
 (Ok s o∧r.pos≤o.pos∧(o.out.length:Int)≤r.out.length+(o.pos - r.pos)) ∨
 (r.pos≤o.bad∧0≤o.bad∧o.bad≤af s∧0≤o.pos∧o.pos≤o.bad+(o.bad - r.pos)+1∧(o.out.length:Int)≤r.out.length+(o.bad - r.pos))
theorem mC (s:Str) {k:Int} (h0:0≤k) (h1:k≤af s):0≤af (aG s k)∧k+af (aG s k)≤af s:=by
 have h:(aG s k).length≤(s.drop k.toNat).length:=(List.takeWhile_sublist _).length_le
 rw [bF] at h
 simp only [af] at *
 omega
theorem Cf (s:Str) (k:Int):af ((s.drop k.toNat).takeWhile isD)≤((s.drop k.toNat).length:Int):=by
 have h:((s.drop k.toNat).takeWhile isD).length≤(s.drop k.toNat).length:=(List.takeWhile_sublist _).length_le
 simp only [af]; omega
theorem drop_at {s:Str} {k:Int} (h0:0≤k) (h1:k<af s):s.drop k.toNat=s.getD k.toNat 0::s.drop (k.toNat+1):=by
 have h:k.toNat<s.length:=by simp only [af] at h1; omega
 rw [cZ h,List.getD_eq_getElem?_getD,List.getElem?_eq_getElem h]; rfl
theorem jJ {k:Int} (h0:0≤k) (h1:k<af s) (hd:isD (s.getD k.toNat 0)=true):k+1≤cg s k∧cg s k≤af s:=by
 unfold cg
 split
 · omega
 · have h:=Cf s k
   have h2:1≤af ((s.drop k.toNat).takeWhile isD):=by
    rw [drop_at h0 h1,eg,if_pos hd]
    simp only [af,ah]; omega
   rw [bF] at h
   simp only [af] at *
   omega
theorem xW {w:Str} (h:aO w=true):1≤af w:=by
 cases w with
 | nil=>revert h; decide
 | cons a r=>simp only [af,ah]; omega
theorem Ok.lt {r:Rd} (h:Ok s r) (hn:∀ x,cw s r.pos=x→x≠.fin):r.pos<af s:=by
 have h1:r.pos≠af s:=fun e=>hn .fin (by unfold cw; rw [if_pos e]) rfl
 have:=h.high; omega
theorem lS {r o:Rd} {k:Int} (h:Ok s r) (h0:r.pos≤k) (hk:k≤af s) (hb:o.bad = -1) (ho:o.out=r.out) (hp:o.pos=k):Left s r (o.wrong k):=by
 right
 have hl:=h.low
 have e1:(o.wrong k).bad=k:=by simp [Rd.wrong,hb]
 have e2:(o.wrong k).pos=k:=hp
 have e3:(o.wrong k).out=r.out:=ho
 rw [e1,e2,e3]
 refine ⟨h0,by omega,hk,by omega,by omega,by omega⟩
theorem lj {q:Rd} (hq:Ok s q):(Ok s (bQ s q)∧(bQ s q).pos=q.pos+1∧(bQ s q).out=q.out∧q.pos<af s∧bU s q.pos=41)∨((bQ s q).bad=q.pos∧(bQ s q).pos=q.pos+1∧(bQ s q).out=q.out):=by
 obtain ⟨hb,h0,h1⟩:=hq
 unfold bQ
 by_cases h:q.pos=af s∨bU s q.pos≠41
 · right
   rw [if_pos ⟨by omega,h⟩]
   refine ⟨?_,rfl,rfl⟩
   simp [Rd.to,Rd.wrong,hb]
 · left
   rw [if_neg (fun hh=>h hh.2)]
   have h2:q.pos≠af s:=fun e=>h (.inl e)
   refine ⟨⟨hb,?_,?_⟩,rfl,rfl,by omega,?_⟩
   · show 0≤q.pos+1; omega
   · show q.pos+1≤af s; omega
   · exact Classical.byContradiction fun e=>h (.inr e)
theorem lM {q:Rd} (hq:0≤q.bad):bQ s q=⟨q.pos+1,q.out,q.bad⟩:=by
 unfold bQ
 rw [if_neg (fun h=>by omega)]; rfl
theorem IH {r:Rd} (h:Ok s r) (hl:r.pos<af s):Left s r (eQ s r):=by
 obtain ⟨hb,h0,h1⟩:=id h
 have hw:=mC s h0 h1
 unfold eQ
 split
 · rename_i hd
   have hn:=jJ h0 hl hd
   unfold cC
   split
   · exact lS h (cd _) h1 hb rfl rfl
   · left
     have himg:dn s r.pos=true→cg s r.pos+1≤af s:=by
      intro hi
      simp only [dn,ab,decide_eq_true_eq] at hi
      omega
     refine ⟨⟨hb,?_,?_⟩,?_,?_⟩
     · show 0≤(if dn s r.pos=true then cg s r.pos+1 else cg s r.pos); split <;> omega
     · show (if dn s r.pos=true then cg s r.pos+1 else cg s r.pos)≤_
       split
       · rename_i hi; exact himg hi
       · omega
     · show r.pos≤(if dn s r.pos=true then cg s r.pos+1 else cg s r.pos); split <;> omega
     · show (((r.out++[fB s r.pos]).length:Nat):Int)≤r.out.length+((if dn s r.pos=true then cg s r.pos+1 else cg s r.pos) - r.pos)
       rw [ag]
       have:([fB s r.pos]:List Cell).length=1:=rfl
       split <;> omega
 · split
   · rename_i hw4
     rw [hw4] at hw
     have e4:af fm=4:=by decide
     rw [e4] at hw
     left
     refine ⟨⟨hb,by show 0≤r.pos+4; omega,by show r.pos+4≤_; omega⟩,by show r.pos≤r.pos+4; omega,?_⟩
     show (((r.out++[(⟨3,0,[]⟩:Cell)]).length:Nat):Int)≤r.out.length+(r.pos+4 - r.pos)
     rw [ag]; simp only [ah,aj]; omega
   · split
     · rename_i hw5
       rw [hw5] at hw
       have e5:af fS=5:=by decide
       rw [e5] at hw
       left
       refine ⟨⟨hb,by show 0≤r.pos+5; omega,by show r.pos+5≤_; omega⟩,by show r.pos≤r.pos+5; omega,?_⟩
       show (((r.out++[(⟨4,0,[]⟩:Cell)]).length:Nat):Int)≤r.out.length+(r.pos+5 - r.pos)
       rw [ag]; simp only [ah,aj]; omega
     · split
       · rename_i hin
         obtain ⟨hw2,hc⟩:=hin
         have e2:af inS=2:=by decide
         simp only [gH,hw2,e2,ab,decide_eq_true_eq] at hc
         have hw3:=mC s (k:=r.pos+3) (by omega) (by omega)
         unfold inR
         split
         · refine lS (o:=r.to (r.pos+3)) h (by omega) (by omega) hb rfl rfl
         · rename_i hnm
           have hnp:=xW (by simpa using hnm)
           have hq:Ok s (r.to (r.pos+3+af (aG s (r.pos+3)))):=⟨hb,by show 0≤r.pos+3+_; omega,by show r.pos+3+_≤_; omega⟩
           rcases lj hq with ⟨g1,g2,g3,g4,_⟩ | ⟨g1,g2,g3⟩
           · left
             simp only [Rd.to] at g2 g3 g4
             refine ⟨⟨g1.bad,g1.low,g1.high⟩,?_,?_⟩
             · show r.pos≤(bQ s _).pos
               simp only [Rd.to] at *; omega
             · show ((((bQ s _).out++[_]).length:Nat):Int)≤_+((bQ s _).pos - r.pos)
               simp only [Rd.to] at *
               rw [g3,g2,ag]; simp only [ah,aj]; omega
           · right
             simp only [Rd.to] at g1 g2 g3
             simp only [Rd.emit,Rd.to,g1,g2,g3,ag,ah,aj]
             omega
       · split
         · rename_i hnm
           have hnp:=xW hnm
           left
           refine ⟨⟨hb,by show 0≤r.pos+_; omega,by show r.pos+_≤_; omega⟩,by show r.pos≤r.pos+_; omega,?_⟩
           show (((r.out++[(⟨5,0,aG s r.pos⟩:Cell)]).length:Nat):Int)≤r.out.length+(r.pos+af (aG s r.pos) - r.pos)
           rw [ag]; simp only [ah,aj]; omega
         · exact lS h (cd _) h1 hb rfl rfl
theorem gD {p:Int} {r:Rd} (h1:1≤p) (h5:p≤5) (h0:0≤r.pos) (hh:r.pos≤af s) (hn:¬atEnd s p r):r.bad<0∧bZ (s.drop r.pos.toNat)=bp (s.drop r.pos.toNat) p∧(ax (bp (s.drop r.pos.toNat) p).1).2=p∧11≤(bp (s.drop r.pos.toNat) p).1∧(bp (s.drop r.pos.toNat) p).1≤23∧1≤(bp (s.drop r.pos.toNat) p).2∧r.pos+(bp (s.drop r.pos.toNat) p).2≤af s:=by
 unfold atEnd at hn
 have hn':=Classical.not_not.1 hn
 have hx:=hn'.2
 rw [pH _ p h1 h5] at hx ⊢
 by_cases hp:(ax (bZ (s.drop r.pos.toNat)).1).2=p
 · rw [if_pos hp] at hx ⊢
   rcases CE (s.drop r.pos.toNat) with e | ⟨g1,g2,g3,g4,g5,g6,g7⟩
   · rw [e] at hx; exact absurd rfl hx
   · simp only [af,bF] at g4 hh ⊢
     exact ⟨hn'.1,trivial,hp,g1,g2,g3,by omega⟩
 · rw [if_neg hp] at hx; exact absurd rfl hx
theorem Ok.emit {r:Rd} {c:Cell} (h:Ok s r):Ok s (r.emit c):=⟨h.bad,h.low,h.high⟩
theorem uT {s:Str} {k op:Int} (h:cw s k = .call op):(aG s k=reS∧op=9∨aG s k=imS∧op=10)∧gH s k=true∧bU s k≠45∧bU s k≠33∧bU s k≠40∧isD (s.getD k.toNat 0)=false∧k+3≤af s:=by
 unfold cw at h
 split at h; cases h
 split at h; cases h
 split at h; cases h
 split at h; cases h
 split at h; cases h
 rename_i h1 h2 h3 h4 h5
 split at h
 · rename_i h6
   cases h
   refine ⟨.inl ⟨h6.1,rfl⟩,h6.2,h2,h3,h5,by simpa using h4,?_⟩
   have hc:=h6.2
   have e2:af reS=2:=by decide
   simp only [gH,h6.1,e2,ab,decide_eq_true_eq] at hc
   omega
 · split at h
   · rename_i h6
     cases h
     refine ⟨.inr ⟨h6.1,rfl⟩,h6.2,h2,h3,h5,by simpa using h4,?_⟩
     have hc:=h6.2
     have e2:af imS=2:=by decide
     simp only [gH,h6.1,e2,ab,decide_eq_true_eq] at hc
     omega
   · cases h
theorem Run.inv {t:Task} {r o:Rd} (h:Run s t r o):Ok s r→Left s r o:=by
 induction h with
 | six _ ih=>exact ih
 | bin h1 h5 hr hl ih1 ih2 =>
   intro hok
   rcases ih1 hok with ⟨g1,g2,g3⟩ | g
   · rcases ih2 g1 with ⟨k1,k2,k3⟩ | ⟨k1,k2,k3,k4,k5,k6⟩
     · exact .inl ⟨k1,by omega,by omega⟩
     · exact .inr ⟨by omega,k2,k3,k4,by omega,by omega⟩
   · have:=hl.stop g.2.1
     subst this; exact .inr g
 | done _=>intro hok; exact .inl ⟨hok,cd _,by omega⟩
 | more h1 h5 hp hn hr hl ih1 ih2 =>
   intro hok
   obtain ⟨f1,_,_,_,_,f2,f3⟩:=gD h1 h5 hok.low hok.high hn
   have hlow:=hok.low
   rcases ih1 ⟨hok.bad,by simp only [Rd.to]; omega,by simp only [Rd.to]; omega⟩ with ⟨g1,g2,g3⟩ | ⟨g1,g2,g3,g4,g5,g6⟩
   · simp only [Rd.to] at g2 g3
     rcases ih2 g1.emit with ⟨k1,k2,k3⟩ | ⟨k1,k2,k3,k4,k5,k6⟩
     · simp only [Rd.emit,ag,ah,aj] at k2 k3
       exact .inl ⟨k1,by omega,by omega⟩
     · simp only [Rd.emit,ag,ah,aj] at k1 k5 k6
       exact .inr ⟨by omega,k2,k3,k4,by omega,by omega⟩
   · have:=hl.stop (r:=_) g2
     subst this
     simp only [Rd.to] at g1 g5 g6
     right
     simp only [Rd.emit,ag,ah,aj]
     exact ⟨by omega,g2,g3,g4,by omega,by omega⟩
 | once hn hr ih1 =>
   intro hok
   obtain ⟨f1,_,_,_,_,f2,f3⟩:=gD (by omega) (by omega) hok.low hok.high hn
   have hlow:=hok.low
   rcases ih1 ⟨hok.bad,by simp only [Rd.to]; omega,by simp only [Rd.to]; omega⟩ with ⟨g1,g2,g3⟩ | ⟨g1,g2,g3,g4,g5,g6⟩
   · simp only [Rd.to] at g2 g3
     left
     simp only [Rd.emit,ag,ah,aj]
     exact ⟨⟨g1.bad,g1.low,g1.high⟩,by omega,by omega⟩
   · simp only [Rd.to] at g1 g5 g6
     right
     simp only [Rd.emit,ag,ah,aj]
     exact ⟨by omega,g2,g3,g4,by omega,by omega⟩
 | lost h =>
   intro hok
   exact lS hok (cd _) hok.high hok.bad rfl rfl
 | sign hb hh hr ih =>
   intro hok
   have hlt:=hok.lt (fun x e=>by rw [hh] at e; subst e; simp)
   have hlow:=hok.low
   rcases ih ⟨hok.bad,by simp only [Rd.to]; omega,by simp only [Rd.to]; omega⟩ with ⟨g1,g2,g3⟩ | ⟨g1,g2,g3,g4,g5,g6⟩
   · simp only [Rd.to] at g2 g3
     left
     simp only [Rd.emit,ag,ah,aj]
     exact ⟨⟨g1.bad,g1.low,g1.high⟩,by omega,by omega⟩
   · simp only [Rd.to] at g1 g5 g6
     right
     simp only [Rd.emit,ag,ah,aj]
     exact ⟨by omega,g2,g3,g4,by omega,by omega⟩
 | leaf hb hh =>
   intro hok
   exact IH hok (hok.lt (fun x e=>by rw [hh] at e; subst e; simp))
 | par hb hh hr ih =>
   intro hok
   have hlt:=hok.lt (fun x e=>by rw [hh] at e; subst e; simp)
   have hlow:=hok.low
   rcases ih ⟨hok.bad,by simp only [Rd.to]; omega,by simp only [Rd.to]; omega⟩ with ⟨g1,g2,g3⟩ | ⟨g1,g2,g3,g4,g5,g6⟩
   · simp only [Rd.to] at g2 g3
     rcases lj g1 with ⟨k1,k2,k3,_⟩ | ⟨k1,k2,k3⟩
     · left; rw [k2,k3]; exact ⟨k1,by omega,by omega⟩
     · right; rw [k1,k2,k3]; have:=g1.high; have:=g1.low; exact ⟨by omega,by omega,by omega,by omega,by omega,by omega⟩
   · simp only [Rd.to] at g1 g5 g6
     rw [lM g2]
     right
     refine ⟨?_,g2,g3,?_,?_,?_⟩ <;> dsimp only <;> omega
 | call hb hh hr ih =>
   intro hok
   obtain ⟨_,_,_,_,_,_,hlt⟩:=uT hh
   have hlow:=hok.low
   rcases ih ⟨hok.bad,by simp only [Rd.to]; omega,by simp only [Rd.to]; omega⟩ with ⟨g1,g2,g3⟩ | ⟨g1,g2,g3,g4,g5,g6⟩
   · simp only [Rd.to] at g2 g3
     rcases lj g1 with ⟨k1,k2,k3,_⟩ | ⟨k1,k2,k3⟩
     · left
       simp only [Rd.emit,k2,k3,ag,ah,aj]
       exact ⟨⟨k1.bad,by have:=k1.low; simp only [k2] at this ⊢; exact this,by have:=k1.high; simp only [k2] at this ⊢; exact this⟩,by omega,by omega⟩
     · right
       have:=g1.high; have:=g1.low
       simp only [Rd.emit,k1,k2,k3,ag,ah,aj]
       exact ⟨by omega,by omega,by omega,by omega,by omega,by omega⟩
   · simp only [Rd.to] at g1 g5 g6
     rw [lM g2]
     right
     simp only [Rd.emit,ag,ah,aj]
     exact ⟨by omega,g2,g3,by omega,by omega,by omega⟩
theorem Run.det {t:Task} {r o:Rd} (h:Run s t r o):∀ {o'},Run s t r o'→o=o':=by
 induction h with
 | six _ ih=>intro o' h'; cases h' with
   | six h2=>exact ih h2
   | bin _ h5=>omega
 | bin h1 h5 hr hl ih1 ih2=>intro o' h'; cases h' with
   | six h2=>omega
   | bin _ _ g1 g2 =>
     have:=ih1 g1
     subst this; exact ih2 g2
 | done h=>intro o' h'; cases h' with
   | done _=>rfl
   | more _ _ _ hn=>exact absurd h hn
   | once hn=>exact absurd h hn
 | more h1 h5 hp hn hr hl ih1 ih2=>intro o' h'; cases h' with
   | done h=>exact absurd h hn
   | more _ _ _ _ g1 g2 =>
     have:=ih1 g1
     subst this; exact ih2 g2
   | once _=>exact absurd rfl hp
 | once hn hr ih1=>intro o' h'; cases h' with
   | done h=>exact absurd h hn
   | more _ _ hp=>exact absurd rfl hp
   | once _ g1 =>
     have:=ih1 g1
     subst this; rfl
 | lost h=>intro o' h'; cases h' with
   | lost _=>rfl
   | sign hb hh=>rcases h with h | h; omega; (rw [h] at hh; cases hh)
   | leaf hb hh=>rcases h with h | h; omega; (rw [h] at hh; cases hh)
   | par hb hh=>rcases h with h | h; omega; (rw [h] at hh; cases hh)
   | call hb hh=>rcases h with h | h; omega; (rw [h] at hh; cases hh)
 | sign hb hh hr ih=>intro o' h'; cases h' with
   | lost h=>rcases h with h | h; omega; (rw [hh] at h; cases h)
   | sign _ h2 g =>
     rw [hh] at h2; cases h2
     have:=ih g
     subst this; rfl
   | leaf _ h2=>rw [hh] at h2; cases h2
   | par _ h2=>rw [hh] at h2; cases h2
   | call _ h2=>rw [hh] at h2; cases h2
 | leaf hb hh=>intro o' h'; cases h' with
   | lost h=>rcases h with h | h; omega; (rw [hh] at h; cases h)
   | sign _ h2=>rw [hh] at h2; cases h2
   | leaf _ h2=>rfl
   | par _ h2=>rw [hh] at h2; cases h2
   | call _ h2=>rw [hh] at h2; cases h2
 | par hb hh hr ih=>intro o' h'; cases h' with
   | lost h=>rcases h with h | h; omega; (rw [hh] at h; cases h)
   | sign _ h2=>rw [hh] at h2; cases h2
   | leaf _ h2=>rw [hh] at h2; cases h2
   | par _ h2 g =>
     have:=ih g
     subst this; rfl
   | call _ h2=>rw [hh] at h2; cases h2
 | call hb hh hr ih=>intro o' h'; cases h' with
   | lost h=>rcases h with h | h; omega; (rw [hh] at h; cases h)
   | sign _ h2=>rw [hh] at h2; cases h2
   | leaf _ h2=>rw [hh] at h2; cases h2
   | par _ h2=>rw [hh] at h2; cases h2
   | call _ h2 g =>
     rw [hh] at h2; cases h2
     have:=ih g
     subst this; rfl
def due (s:Str) (r:Rd):Task→Nat
 | .bin p=>10 * (af s - r.pos).toNat+(7 - p).toNat
 | .loop _=>10 * (af s - r.pos).toNat
 | .una=>10 * (af s - r.pos).toNat
def fits:Task→Prop
 | .bin p=>1≤p∧p≤6
 | .loop p=>1≤p∧p≤5
 | .una=>True
theorem Run.total:∀ (n:Nat) (t:Task) (r:Rd),due s r t≤n→fits t→Ok s r∨(0≤r.bad∧∃ p,t = .loop p)→∃ o,Run s t r o:=by
 intro n
 induction n using Nat.strongRecOn with
 | _ n ih =>
   intro t r hd hf hok
   rcases hok with hok | ⟨hb,p,rfl⟩
   case inr=>exact ⟨r,.done (fun h=>by omega)⟩
   have hlow:=hok.low
   have hhigh:=hok.high
   cases t with
   | bin p =>
     obtain ⟨f1,f2⟩:=hf
     simp only [due] at hd
     by_cases h6:p=6
     · subst h6
       obtain ⟨o,ho⟩:=ih (10 * (af s - r.pos).toNat) (by omega) .una r (aw _) trivial (.inl hok)
       exact ⟨o,.six ho⟩
     · obtain ⟨q,hq⟩:=ih (10 * (af s - r.pos).toNat+(7 - (p+1)).toNat) (by omega) (.bin (p+1)) r (aw _) ⟨by omega,by omega⟩ (.inl hok)
       rcases hq.inv hok with ⟨g1,g2,_⟩ | ⟨_,g2,_⟩
       · obtain ⟨o,ho⟩:=ih (10 * (af s - q.pos).toNat) (by omega) (.loop p) q (aw _) ⟨f1,by omega⟩ (.inl g1)
         exact ⟨o,.bin f1 (by omega) hq ho⟩
       · exact ⟨q,.bin f1 (by omega) hq (.done fun h=>by omega)⟩
   | loop p =>
     obtain ⟨f1,f2⟩:=hf
     simp only [due] at hd
     by_cases he:atEnd s p r
     · exact ⟨r,.done he⟩
     · obtain ⟨k1,_,_,_,_,k2,k3⟩:=gD f1 f2 hlow hhigh he
       have hok1:Ok s (r.to (r.pos+(bp (s.drop r.pos.toNat) p).2)):=⟨hok.bad,by simp only [Rd.to]; omega,by simp only [Rd.to]; omega⟩
       obtain ⟨q,hq⟩:=ih (10 * (af s - (r.pos+(bp (s.drop r.pos.toNat) p).2)).toNat+(7 - (p+1)).toNat) (by omega) (.bin (p+1)) _ (aw _) ⟨by omega,by omega⟩ (.inl hok1)
       by_cases h3:p=3
       · subst h3; exact ⟨_,.once he hq⟩
       · rcases hq.inv hok1 with ⟨g1,g2,_⟩ | ⟨_,g2,_⟩
         · simp only [Rd.to] at g2
           obtain ⟨o,ho⟩:=ih (10 * (af s - q.pos).toNat) (by omega) (.loop p) (q.emit ⟨(bp (s.drop r.pos.toNat) p).1,0,[]⟩) (aw _) ⟨f1,f2⟩ (.inl g1.emit)
           exact ⟨o,.more f1 f2 h3 he hq ho⟩
         · exact ⟨_,.more f1 f2 h3 he hq (.done fun h=>by have:(q.emit ⟨(bp (s.drop r.pos.toNat) p).1,0,[]⟩).bad=q.bad:=rfl; omega)⟩
   | una =>
     simp only [due] at hd
     cases hh:cw s r.pos with
     | fin=>exact ⟨_,.lost (.inr hh)⟩
     | leaf=>exact ⟨_,.leaf (by have:=hok.bad; omega) hh⟩
     | pre op =>
       have hlt:=hok.lt (fun x e=>by rw [hh] at e; subst e; simp)
       obtain ⟨q,hq⟩:=ih (10 * (af s - (r.pos+1)).toNat) (by omega) .una (r.to (r.pos+1)) (aw _) trivial (.inl ⟨hok.bad,by simp only [Rd.to]; omega,by simp only [Rd.to]; omega⟩)
       exact ⟨_,.sign (by have:=hok.bad; omega) hh hq⟩
     | par =>
       have hlt:=hok.lt (fun x e=>by rw [hh] at e; subst e; simp)
       obtain ⟨q,hq⟩:=ih (10 * (af s - (r.pos+1)).toNat+6) (by omega) (.bin 1) (r.to (r.pos+1)) (aw _) ⟨by omega,by omega⟩ (.inl ⟨hok.bad,by simp only [Rd.to]; omega,by simp only [Rd.to]; omega⟩)
       exact ⟨_,.par (by have:=hok.bad; omega) hh hq⟩
     | call op =>
       obtain ⟨_,_,_,_,_,_,hlt⟩:=uT hh
       obtain ⟨q,hq⟩:=ih (10 * (af s - (r.pos+3)).toNat+6) (by omega) (.bin 1) (r.to (r.pos+3)) (aw _) ⟨by omega,by omega⟩ (.inl ⟨hok.bad,by simp only [Rd.to]; omega,by simp only [Rd.to]; omega⟩)
       exact ⟨_,.call (by have:=hok.bad; omega) hh hq⟩
theorem CW (s:Str):∃ o,Run s (.bin 1) ⟨0,[], -1⟩ o:=Run.total _ (.bin 1) ⟨0,[], -1⟩ (aw _) ⟨by omega,by omega⟩ (.inl ⟨rfl,cd _,by simp [af]⟩)
noncomputable def cK (s:Str):Rd:=(CW s).choose
theorem kq (s:Str):Run s (.bin 1) ⟨0,[], -1⟩ (cK s):=(CW s).choose_spec
noncomputable def aR (s:Str):List Cell×Int×Int :=
 if af s>600 then ([],0,4)
 else if (cK s).bad≥0 then ([],(cK s).bad,1)
 else if (cK s).pos<af s then ([],(cK s).pos,1)
 else if ((cK s).out.length:Int)>32 then ([],0,4)
 else ((cK s).out,0,0)
theorem NG {o:Rd} (h:Run s (.bin 1) ⟨0,[], -1⟩ o):cK s=o:=(kq s).det h
end Go.Proofs.YtpfidgnkokidoaaGreatDoor
namespace Go.Proofs.YtpfidgnkokidoaaGreatDoor
open Go Go.Ev
set_option maxRecDepth 100000
def cellsOf (l:List Wait):List Cell:=l.map fun w=>⟨w.op,0,[]⟩
def Ag (least:Int):List Wait→List Wait
 | []=>[]
 | w::l=>if w.power≥least then w::Ag least l else []
def DX (least:Int):List Wait→List Wait
 | []=>[]
 | w::l=>if w.power≥least then DX least l else w::l
def pe:List Wait→Bool
 | []=>false
 | w::l=>if w.power>0 then (w.power==3||pe l) else false
inductive Res where
 | ok (out:List Cell)
 | bad (k:Int)
variable {s:Str}
def Below (p:Int):List Wait→Prop
 | []=>True
 | w::l=>w.power<p∧(w.power>0→Below p l)
theorem Below.mono {p q:Int} (h:p≤q):∀ {l:List Wait},Below p l→Below q l
 | [],_=>trivial
 | _::_,⟨h1,h2⟩=>⟨by omega,fun g=>Below.mono h (h2 g)⟩
end Go.Proofs.YtpfidgnkokidoaaGreatDoor
namespace Go.Proofs.YtpfidgnkokidoaaGreatDoor
open Go Go.Ev
set_option maxRecDepth 100000
/-! ### plain -/
/-! ### the walk -/
def eNb:Ent:=(78,fun
 | [.c (.pd (.str s))],[]=>some (some (s.length≤281474976710656),.tup [.c (.pd (.int .i64 (bb s).1)),.c (.pd (.int .i64 (bb s).2))],[])
 | _,_=>none)
theorem A2:EntOk Tryz.prog eNb:=entOk fun vs ck=>by
 unfold eNb; dsimp only; split
 · rename_i s; exact entS fun hp=>Cu s hp
 · exact entN
end Go.Proofs.YtpfidgnkokidoaaGreatDoor

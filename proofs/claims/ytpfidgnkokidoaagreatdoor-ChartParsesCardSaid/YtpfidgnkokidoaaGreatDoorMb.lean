/- Expressions read, as a plain relation: what the program's reader does. Conditions: none. Expressions read: bounds, one result, a result always. Conditions: none. -/
import Derived.Test.YtpfidgnkokidoaaGreatDoorKi
namespace Go.Proofs.YtpfidgnkokidoaaGreatDoor
open Go Go.Ev
set_option maxRecDepth 100000
structure Rd where
 pos:Int
 out:List Cell
 bad:Int
variable (s:Str) (a b:UInt8) (rest:Str) (x:UInt8) (p:Int) (r:Rd) (k:Int) (y:UInt8)
def Rd.wrong:Rd:=⟨r.pos,r.out,if r.bad<0 then k else r.bad⟩
def Rd.emit (c:Cell):Rd:=⟨r.pos,r.out++[c],r.bad⟩
def Rd.to:Rd:=⟨k,r.out,r.bad⟩
def bD:Int:=((s.getD k.toNat 0).toNat:Int)
def aG (op:Int):Str×Int :=
 bif op==23 then ([124],1) else bif op==22 then ([38],2) else bif op==16 then ([61],3) else bif op==17 then ([33,61],3) else bif op==18 then ([60],3) else bif op==19 then ([60,61],3)
 else bif op==20 then ([62],3) else bif op==21 then ([62,61],3) else bif op==11 then ([43],4) else bif op==12 then ([45],4) else bif op==13 then ([42],5) else bif op==14 then ([47],5) else bif op==15 then ([37],5)
 else bif op==7 then ([45],6) else bif op==8 then ([33],6) else ([],7)
def opsL:List Int:=[17,19,21,18,20,16,23,22,11,12,13,14,15]
def bp (rest:Str) (p:Int):List Int→Int×Int
 | []=>(0,0)
 | op::l=>bif (aG op).2==p&&aS rest (aG op).1 then (op,ab (aG op).1) else bp rest p l
def bw:Int×Int:=bp rest p opsL
def gA:Int:=if a=43 then 11 else if a=45 then 12 else if a=42 then 13 else if a=47 then 14 else if a=37 then 15 else if a=61 then 16 else if a=60 then 18 else if a=62 then 20 else if a=38 then 22 else if a=124 then 23 else 0
def dN:Int:=if b=61 then (if a=33 then 17 else if a=60 then 19 else if a=62 then 21 else 0) else 0
def ft:Int×Int:=if gA a=0 then (0,0) else (gA a,1)
def aT:Str→Int×Int
 | []=>(0,0)
 | [a]=>ft a
 | a::b::_=>if dN a b=0 then ft a else (dN a b,2)
def hJ (c:UInt8):Bool:=(decide ((c.toNat:Int)≥97)&&decide ((c.toNat:Int)≤122))||(decide ((c.toNat:Int)≥48)&&decide ((c.toNat:Int)≤57))||(c.toNat:Int)==95
def ay:Str:=(s.drop k.toNat).takeWhile hJ
def ei:Str:=[116,114,117,101]
def fF:Str:=[102,97,108,115,101]
def inS:Str:=[105,110]
def reS:Str:=[114,101]
def imS:Str:=[105,109]
def eh:Bool:=decide (k+ab (ay s k)<ab s)&&bD s (k+ab (ay s k))==40
def bx:Rd:=(if r.bad<0∧(r.pos=ab s∨bD s r.pos≠41) then r.wrong r.pos else r).to (r.pos+1)
def cb:Int:=if bD s k=48 then k+1 else k+ab ((s.drop k.toNat).takeWhile isD)
def dm:Bool:=decide (cb s k<ab s)&&bD s (cb s k)==105
def cL:Str:=(s.take (cb s k).toNat).drop k.toNat
def eZ:Cell:=⟨if dm s k=true then 2 else 1,(aQ (cL s k)).1,[]⟩
def bU:Rd :=
 if (aQ (cL s r.pos)).2≠0∨bQ (eZ s r.pos)<0 then r.wrong r.pos
 else (r.to (if dm s r.pos=true then cb s r.pos+1 else cb s r.pos)).emit (eZ s r.pos)
def inR:Rd :=
 if aC (ay s (r.pos+3))=false then (r.to (r.pos+3)).wrong (r.pos+3)
 else (bx s (r.to (r.pos+3+ab (ay s (r.pos+3))))).emit ⟨6,0,ay s (r.pos+3)⟩
def c6:Rd :=
 if isD (s.getD r.pos.toNat 0)=true then bU s r
 else if ay s r.pos=ei then (r.emit ⟨3,0,[]⟩).to (r.pos+4)
 else if ay s r.pos=fF then (r.emit ⟨4,0,[]⟩).to (r.pos+5)
 else if ay s r.pos=inS∧eh s r.pos=true then inR s r
 else if aC (ay s r.pos)=true then (r.emit ⟨5,0,ay s r.pos⟩).to (r.pos+ab (ay s r.pos))
 else r.wrong r.pos
inductive Hd where
 | fin
 | pre (op:Int)
 | par
 | call (op:Int)
 | leaf
def b8:Hd :=
 if k=ab s then .fin else if bD s k=45 then .pre 7 else if bD s k=33 then .pre 8
 else if isD (s.getD k.toNat 0)=true then .leaf else if bD s k=40 then .par
 else if ay s k=reS∧eh s k=true then .call 9 else if ay s k=imS∧eh s k=true then .call 10 else .leaf
def atEnd:Prop:=¬(r.bad<0∧(bw (s.drop r.pos.toNat) p).1≠0)
inductive Task where
 | bin (p:Int)
 | loop (p:Int)
 | una
inductive Run (s:Str):Task→Rd→Rd→Prop where
 | six {r q:Rd}:Run s .una r q→Run s (.bin 6) r q
 | bin {p:Int} {r q o:Rd}:1≤p→p≤5→Run s (.bin (p+1)) r q→Run s (.loop p) q o→Run s (.bin p) r o
 | done {p:Int} {r:Rd}:atEnd s p r→Run s (.loop p) r r
 | more {p:Int} {r q o:Rd}:1≤p→p≤5→p≠3→¬atEnd s p r→Run s (.bin (p+1)) (r.to (r.pos+(bw (s.drop r.pos.toNat) p).2)) q→Run s (.loop p) (q.emit ⟨(bw (s.drop r.pos.toNat) p).1,0,[]⟩) o→Run s (.loop p) r o
 | once {r q:Rd}:¬atEnd s 3 r→Run s (.bin 4) (r.to (r.pos+(bw (s.drop r.pos.toNat) 3).2)) q→Run s (.loop 3) r (q.emit ⟨(bw (s.drop r.pos.toNat) 3).1,0,[]⟩)
 | lost {r:Rd}:0≤r.bad∨b8 s r.pos = .fin→Run s .una r (r.wrong r.pos)
 | sign {r q:Rd} {op:Int}:r.bad<0→b8 s r.pos = .pre op→Run s .una (r.to (r.pos+1)) q→Run s .una r (q.emit ⟨op,0,[]⟩)
 | leaf {r:Rd}:r.bad<0→b8 s r.pos = .leaf→Run s .una r (c6 s r)
 | par {r q:Rd}:r.bad<0→b8 s r.pos = .par→Run s (.bin 1) (r.to (r.pos+1)) q→Run s .una r (bx s q)
 | call {r q:Rd} {op:Int}:r.bad<0→b8 s r.pos = .call op→Run s (.bin 1) (r.to (r.pos+3)) q→Run s .una r ((bx s q).emit ⟨op,0,[]⟩)
/-! ### signs -/
theorem rS:aS [a] [x]=(a==x):=by simp [aS,ab]
theorem pJ:aS [a] [x,y]=false:=by simp [aS,ab]
theorem rL (r:Str):aS (a::b::r) [x]=(a==x):=by
 have h:decide (ab (a::b::r)≥ab [x])=true:=decide_eq_true (by simp [ab]; omega)
 rw [aS,h]
 show ([a]==[x])=_
 simp
theorem oU (r:Str):aS (a::b::r) [x,y]=(a==x&&b==y):=by
 have h:decide (ab (a::b::r)≥ab [x,y])=true:=decide_eq_true (by simp [ab]; omega)
 rw [aS,h]
 show ([a,b]==[x,y])=_
 simp
theorem yW (h1:1≤p) (h5:p≤5):bw [a] p=if (aG (aT [a]).1).2=p then aT [a] else (0,0):=by
 have hp:p=1∨p=2∨p=3∨p=4∨p=5:=by omega
 by_cases e0:a=43
 · subst e0; rcases hp with rfl | rfl | rfl | rfl | rfl <;> rfl
 by_cases e1:a=45
 · subst e1; rcases hp with rfl | rfl | rfl | rfl | rfl <;> rfl
 by_cases e2:a=42
 · subst e2; rcases hp with rfl | rfl | rfl | rfl | rfl <;> rfl
 by_cases e3:a=47
 · subst e3; rcases hp with rfl | rfl | rfl | rfl | rfl <;> rfl
 by_cases e4:a=37
 · subst e4; rcases hp with rfl | rfl | rfl | rfl | rfl <;> rfl
 by_cases e5:a=61
 · subst e5; rcases hp with rfl | rfl | rfl | rfl | rfl <;> rfl
 by_cases e6:a=60
 · subst e6; rcases hp with rfl | rfl | rfl | rfl | rfl <;> rfl
 by_cases e7:a=62
 · subst e7; rcases hp with rfl | rfl | rfl | rfl | rfl <;> rfl
 by_cases e8:a=38
 · subst e8; rcases hp with rfl | rfl | rfl | rfl | rfl <;> rfl
 by_cases e9:a=124
 · subst e9; rcases hp with rfl | rfl | rfl | rfl | rfl <;> rfl
 have q:∀ x:UInt8,¬a=x→(a==x)=false:=fun x h=>beq_eq_false_iff_ne.2 h
 have e:aT [a]=(0,0):=by simp only [aT,ft,gA,e0,e1,e2,e3,e4,e5,e6,e7,e8,e9,if_false,if_true]
 rw [e]
 have hs:(aG ((0,0):Int×Int).1).2≠p:=by show (7:Int)≠p; omega
 rw [if_neg hs]
 simp [bw,opsL,bp,aG,rS,pJ,q _ e0,q _ e1,q _ e2,q _ e3,q _ e4,q _ e5,q _ e6,q _ e7,q _ e8,q _ e9]
theorem ET (r:Str) (p:Int) (h:(b==61)=false∨(a==33)=false∧(a==60)=false∧(a==62)=false):bw (a::b::r) p=bw [a] p∧aT (a::b::r)=aT [a]:=by
 refine ⟨?_,?_⟩
 · rcases h with h | ⟨h1,h2,h3⟩
   · simp [bw,opsL,bp,aG,rS,pJ,rL,oU,h]
   · simp [bw,opsL,bp,aG,rS,pJ,rL,oU,h1,h2,h3]
 · have e:dN a b=0:=by
    unfold dN
    rcases h with h | ⟨h1,h2,h3⟩
    · rw [if_neg (by simpa using h)]
    · have g1:¬a=33:=by simpa using h1
      have g2:¬a=60:=by simpa using h2
      have g3:¬a=62:=by simpa using h3
      simp [g1,g2,g3]
   simp only [aT,e,if_true]
theorem ID (r:Str) (p:Int) (h1:1≤p) (h5:p≤5) (ha:a=33∨a=60∨a=62):bw (a::61::r) p=if (aG (aT (a::61::r)).1).2=p then aT (a::61::r) else (0,0):=by
 have hp:p=1∨p=2∨p=3∨p=4∨p=5:=by omega
 rcases ha with rfl | rfl | rfl <;> rcases hp with rfl | rfl | rfl | rfl | rfl <;> simp [bw,opsL,bp,aG,rL,oU,aT,dN,ab]
theorem tW (h1:1≤p) (h5:p≤5):bw rest p=if (aG (aT rest).1).2=p then aT rest else (0,0):=by
 match rest with
 | [] =>
   have hp:p=1∨p=2∨p=3∨p=4∨p=5:=by omega
   rcases hp with rfl | rfl | rfl | rfl | rfl <;> rfl
 | [a]=>exact yW a p h1 h5
 | a :: b::r =>
   by_cases h:(b==61)=false∨(a==33)=false∧(a==60)=false∧(a==62)=false
   · obtain ⟨e1,e2⟩:=ET a b r p h
     rw [e1,e2]; exact yW a p h1 h5
   · simp only [not_or,Bool.not_eq_false,beq_iff_eq] at h
     obtain ⟨rfl,h⟩:=h
     refine ID a r p h1 h5 ?_
     by_cases h3:a=33
     · exact .inl h3
     · by_cases h4:a=60
       · exact .inr (.inl h4)
       · by_cases h6:a=62
         · exact .inr (.inr h6)
         · exact absurd ⟨beq_eq_false_iff_ne.2 h3,beq_eq_false_iff_ne.2 h4,beq_eq_false_iff_ne.2 h6⟩ h
theorem ie:aT rest=(0,0)∨(11≤(aT rest).1∧(aT rest).1≤23∧1≤(aT rest).2∧(aT rest).2≤ab rest∧(aT rest).2≤2∧1≤(aG (aT rest).1).2∧(aG (aT rest).1).2≤5):=by
 have key:∀ a:UInt8,ft a=(0,0)∨(11≤(ft a).1∧(ft a).1≤23∧(ft a).2=1∧1≤(aG (ft a).1).2∧(aG (ft a).1).2≤5):=by
  intro a
  unfold ft gA
  repeat' split
  all_goals first | (left; rfl) | (right; decide) | skip
  all_goals simp at *
 match rest with
 | []=>exact .inl rfl
 | [a] =>
   rcases key a with h | ⟨h1,h2,h3,h4,h5⟩
   · exact .inl h
   · right
     have e:(aT [a]).2=1:=h3
     have hl:ab [a]=1:=rfl
     refine ⟨h1,h2,?_,?_,?_,h4,h5⟩ <;> omega
 | a :: b::r =>
   have hl:ab (a::b::r)=(r.length:Int)+2:=by simp [ab]; omega
   by_cases h2:dN a b=0
   · have e:aT (a::b::r)=ft a:=by simp only [aT,h2,if_true]
     rw [e,hl]
     rcases key a with h | ⟨h1,h2,h3,h4,h5⟩
     · exact .inl h
     · right; exact ⟨h1,h2,by omega,by omega,by omega,h4,h5⟩
   · have e:aT (a::b::r)=(dN a b,2):=by simp only [aT,h2,if_false]
     rw [e,hl]
     right
     have ht:dN a b=17∨dN a b=19∨dN a b=21:=by
      unfold dN at h2 ⊢
      repeat' (split at h2)
      all_goals first | (exact absurd rfl h2) | skip
      · rename_i g1 g2; rw [if_pos g1,if_pos g2]; exact .inl rfl
      · rename_i g1 g2 g3; rw [if_pos g1,if_neg g2,if_pos g3]; exact .inr (.inl rfl)
      · rename_i g1 g2 g3 g4; rw [if_pos g1,if_neg g2,if_neg g3,if_pos g4]; exact .inr (.inr rfl)
     rcases ht with e | e | e <;> rw [e] <;> exact ⟨by decide,by decide,by decide,by show (2:Int)≤_; omega,by decide,by decide,by decide⟩
end Go.Proofs.YtpfidgnkokidoaaGreatDoor
namespace Go.Proofs.YtpfidgnkokidoaaGreatDoor
open Go Go.Ev
set_option maxRecDepth 100000
variable {s:Str}
theorem Run.stop {p:Int} {r o:Rd} (h:Run s (.loop p) r o) (hb:0≤r.bad):o=r:=by
 cases h with
 | done _=>rfl
 | more _ _ _ hn=>exact absurd (fun h=>by omega) hn
 | once hn=>exact absurd (fun h=>by omega) hn
structure Ok (s:Str) (r:Rd):Prop where
 bad:r.bad = -1
 low:0≤r.pos
 high:r.pos≤ab s
def Left (s:Str) (r o:Rd):Prop :=
 (Ok s o∧r.pos≤o.pos∧(o.out.length:Int)≤r.out.length+(o.pos - r.pos)) ∨
 (r.pos≤o.bad∧0≤o.bad∧o.bad≤ab s∧0≤o.pos∧o.pos≤o.bad+(o.bad - r.pos)+1∧(o.out.length:Int)≤r.out.length+(o.bad - r.pos))
theorem jk (s:Str) {k:Int} (h0:0≤k) (h1:k≤ab s):0≤ab (ay s k)∧k+ab (ay s k)≤ab s:=by
 have h:(ay s k).length≤(s.drop k.toNat).length:=(List.takeWhile_sublist _).length_le
 rw [aL] at h
 simp only [ab] at *
 omega
theorem AV (s:Str) (k:Int):ab ((s.drop k.toNat).takeWhile isD)≤((s.drop k.toNat).length:Int):=by
 have h:((s.drop k.toNat).takeWhile isD).length≤(s.drop k.toNat).length:=(List.takeWhile_sublist _).length_le
 simp only [ab]; omega
theorem drop_at {s:Str} {k:Int} (h0:0≤k) (h1:k<ab s):s.drop k.toNat=s.getD k.toNat 0::s.drop (k.toNat+1):=by
 have h:k.toNat<s.length:=by simp only [ab] at h1; omega
 rw [ch h,List.getD_eq_getElem?_getD,List.getElem?_eq_getElem h]; rfl
theorem ib {k:Int} (h0:0≤k) (h1:k<ab s) (hd:isD (s.getD k.toNat 0)=true):k+1≤cb s k∧cb s k≤ab s:=by
 unfold cb
 split
 · omega
 · have h:=AV s k
   have h2:1≤ab ((s.drop k.toNat).takeWhile isD):=by
    rw [drop_at h0 h1,dv,if_pos hd]
    simp only [ab,ai]; omega
   rw [aL] at h
   simp only [ab] at *
   omega
theorem vg {w:Str} (h:aC w=true):1≤ab w:=by
 cases w with
 | nil=>revert h; decide
 | cons a r=>simp only [ab,ai]; omega
theorem Ok.lt {r:Rd} (h:Ok s r) (hn:∀ x,b8 s r.pos=x→x≠.fin):r.pos<ab s:=by
 have h1:r.pos≠ab s:=fun e=>hn .fin (by unfold b8; rw [if_pos e]) rfl
 have:=h.high; omega
theorem kU {r o:Rd} {k:Int} (h:Ok s r) (h0:r.pos≤k) (hk:k≤ab s) (hb:o.bad = -1) (ho:o.out=r.out) (hp:o.pos=k):Left s r (o.wrong k):=by
 right
 have hl:=h.low
 have e1:(o.wrong k).bad=k:=by simp [Rd.wrong,hb]
 have e2:(o.wrong k).pos=k:=hp
 have e3:(o.wrong k).out=r.out:=ho
 rw [e1,e2,e3]
 refine ⟨h0,by omega,hk,by omega,by omega,by omega⟩
theorem ki {q:Rd} (hq:Ok s q):(Ok s (bx s q)∧(bx s q).pos=q.pos+1∧(bx s q).out=q.out∧q.pos<ab s∧bD s q.pos=41)∨((bx s q).bad=q.pos∧(bx s q).pos=q.pos+1∧(bx s q).out=q.out):=by
 obtain ⟨hb,h0,h1⟩:=hq
 unfold bx
 by_cases h:q.pos=ab s∨bD s q.pos≠41
 · right
   rw [if_pos ⟨by omega,h⟩]
   refine ⟨?_,rfl,rfl⟩
   simp [Rd.to,Rd.wrong,hb]
 · left
   rw [if_neg (fun hh=>h hh.2)]
   have h2:q.pos≠ab s:=fun e=>h (.inl e)
   refine ⟨⟨hb,?_,?_⟩,rfl,rfl,by omega,?_⟩
   · show 0≤q.pos+1; omega
   · show q.pos+1≤ab s; omega
   · exact Classical.byContradiction fun e=>h (.inr e)
theorem jB {q:Rd} (hq:0≤q.bad):bx s q=⟨q.pos+1,q.out,q.bad⟩:=by
 unfold bx
 rw [if_neg (fun h=>by omega)]; rfl
theorem wu {r:Rd} (h:Ok s r) (hl:r.pos<ab s):Left s r (c6 s r):=by
 obtain ⟨hb,h0,h1⟩:=id h
 have hw:=jk s h0 h1
 unfold c6
 split
 · rename_i hd
   have hn:=ib h0 hl hd
   unfold bU
   split
   · exact kU h (cc _) h1 hb rfl rfl
   · left
     have himg:dm s r.pos=true→cb s r.pos+1≤ab s:=by
      intro hi
      simp only [dm,af,decide_eq_true_eq] at hi
      omega
     refine ⟨⟨hb,?_,?_⟩,?_,?_⟩
     · show 0≤(if dm s r.pos=true then cb s r.pos+1 else cb s r.pos); split <;> omega
     · show (if dm s r.pos=true then cb s r.pos+1 else cb s r.pos)≤_
       split
       · rename_i hi; exact himg hi
       · omega
     · show r.pos≤(if dm s r.pos=true then cb s r.pos+1 else cb s r.pos); split <;> omega
     · show (((r.out++[eZ s r.pos]).length:Nat):Int)≤r.out.length+((if dm s r.pos=true then cb s r.pos+1 else cb s r.pos) - r.pos)
       rw [aj]
       have:([eZ s r.pos]:List Cell).length=1:=rfl
       split <;> omega
 · split
   · rename_i hw4
     rw [hw4] at hw
     have e4:ab ei=4:=by decide
     rw [e4] at hw
     left
     refine ⟨⟨hb,by show 0≤r.pos+4; omega,by show r.pos+4≤_; omega⟩,by show r.pos≤r.pos+4; omega,?_⟩
     show (((r.out++[(⟨3,0,[]⟩:Cell)]).length:Nat):Int)≤r.out.length+(r.pos+4 - r.pos)
     rw [aj]; simp only [ai,al]; omega
   · split
     · rename_i hw5
       rw [hw5] at hw
       have e5:ab fF=5:=by decide
       rw [e5] at hw
       left
       refine ⟨⟨hb,by show 0≤r.pos+5; omega,by show r.pos+5≤_; omega⟩,by show r.pos≤r.pos+5; omega,?_⟩
       show (((r.out++[(⟨4,0,[]⟩:Cell)]).length:Nat):Int)≤r.out.length+(r.pos+5 - r.pos)
       rw [aj]; simp only [ai,al]; omega
     · split
       · rename_i hin
         obtain ⟨hw2,hc⟩:=hin
         have e2:ab inS=2:=by decide
         simp only [eh,hw2,e2,af,decide_eq_true_eq] at hc
         have hw3:=jk s (k:=r.pos+3) (by omega) (by omega)
         unfold inR
         split
         · refine kU (o:=r.to (r.pos+3)) h (by omega) (by omega) hb rfl rfl
         · rename_i hnm
           have hnp:=vg (by simpa using hnm)
           have hq:Ok s (r.to (r.pos+3+ab (ay s (r.pos+3)))):=⟨hb,by show 0≤r.pos+3+_; omega,by show r.pos+3+_≤_; omega⟩
           rcases ki hq with ⟨g1,g2,g3,g4,_⟩ | ⟨g1,g2,g3⟩
           · left
             simp only [Rd.to] at g2 g3 g4
             refine ⟨⟨g1.bad,g1.low,g1.high⟩,?_,?_⟩
             · show r.pos≤(bx s _).pos
               simp only [Rd.to] at *; omega
             · show ((((bx s _).out++[_]).length:Nat):Int)≤_+((bx s _).pos - r.pos)
               simp only [Rd.to] at *
               rw [g3,g2,aj]; simp only [ai,al]; omega
           · right
             simp only [Rd.to] at g1 g2 g3
             simp only [Rd.emit,Rd.to,g1,g2,g3,aj,ai,al]
             omega
       · split
         · rename_i hnm
           have hnp:=vg hnm
           left
           refine ⟨⟨hb,by show 0≤r.pos+_; omega,by show r.pos+_≤_; omega⟩,by show r.pos≤r.pos+_; omega,?_⟩
           show (((r.out++[(⟨5,0,ay s r.pos⟩:Cell)]).length:Nat):Int)≤r.out.length+(r.pos+ab (ay s r.pos) - r.pos)
           rw [aj]; simp only [ai,al]; omega
         · exact kU h (cc _) h1 hb rfl rfl
theorem fv {p:Int} {r:Rd} (h1:1≤p) (h5:p≤5) (h0:0≤r.pos) (hh:r.pos≤ab s) (hn:¬atEnd s p r):r.bad<0∧aT (s.drop r.pos.toNat)=bw (s.drop r.pos.toNat) p∧(aG (bw (s.drop r.pos.toNat) p).1).2=p∧11≤(bw (s.drop r.pos.toNat) p).1∧(bw (s.drop r.pos.toNat) p).1≤23∧1≤(bw (s.drop r.pos.toNat) p).2∧r.pos+(bw (s.drop r.pos.toNat) p).2≤ab s:=by
 unfold atEnd at hn
 have hn':=Classical.not_not.1 hn
 have hx:=hn'.2
 rw [tW _ p h1 h5] at hx ⊢
 by_cases hp:(aG (aT (s.drop r.pos.toNat)).1).2=p
 · rw [if_pos hp] at hx ⊢
   rcases ie (s.drop r.pos.toNat) with e | ⟨g1,g2,g3,g4,g5,g6,g7⟩
   · rw [e] at hx; exact absurd rfl hx
   · simp only [ab,aL] at g4 hh ⊢
     exact ⟨hn'.1,trivial,hp,g1,g2,g3,by omega⟩
 · rw [if_neg hp] at hx; exact absurd rfl hx
theorem Ok.emit {r:Rd} {c:Cell} (h:Ok s r):Ok s (r.emit c):=⟨h.bad,h.low,h.high⟩
theorem nr {s:Str} {k op:Int} (h:b8 s k = .call op):(ay s k=reS∧op=9∨ay s k=imS∧op=10)∧eh s k=true∧bD s k≠45∧bD s k≠33∧bD s k≠40∧isD (s.getD k.toNat 0)=false∧k+3≤ab s:=by
 unfold b8 at h
 split at h; cases h
 split at h; cases h
 split at h; cases h
 split at h; cases h
 split at h; cases h
 rename_i h1 h2 h3 h4 h5
 split at h
 · rename_i h6
   cases h
   refine ⟨.inl ⟨h6.1,rfl⟩,h6.2,h2,h3,h5,by simpa using h4,?_⟩
   have hc:=h6.2
   have e2:ab reS=2:=by decide
   simp only [eh,h6.1,e2,af,decide_eq_true_eq] at hc
   omega
 · split at h
   · rename_i h6
     cases h
     refine ⟨.inr ⟨h6.1,rfl⟩,h6.2,h2,h3,h5,by simpa using h4,?_⟩
     have hc:=h6.2
     have e2:ab imS=2:=by decide
     simp only [eh,h6.1,e2,af,decide_eq_true_eq] at hc
     omega
   · cases h
theorem Run.inv {t:Task} {r o:Rd} (h:Run s t r o):Ok s r→Left s r o:=by
 induction h with
 | six _ ih=>exact ih
 | bin h1 h5 hr hl ih1 ih2 =>
   intro hok
   rcases ih1 hok with ⟨g1,g2,g3⟩ | g
   · rcases ih2 g1 with ⟨k1,k2,k3⟩ | ⟨k1,k2,k3,k4,k5,k6⟩
     · exact .inl ⟨k1,by omega,by omega⟩
     · exact .inr ⟨by omega,k2,k3,k4,by omega,by omega⟩
   · have:=hl.stop g.2.1
     subst this; exact .inr g
 | done _=>intro hok; exact .inl ⟨hok,cc _,by omega⟩
 | more h1 h5 hp hn hr hl ih1 ih2 =>
   intro hok
   obtain ⟨f1,_,_,_,_,f2,f3⟩:=fv h1 h5 hok.low hok.high hn
   have hlow:=hok.low
   rcases ih1 ⟨hok.bad,by simp only [Rd.to]; omega,by simp only [Rd.to]; omega⟩ with ⟨g1,g2,g3⟩ | ⟨g1,g2,g3,g4,g5,g6⟩
   · simp only [Rd.to] at g2 g3
     rcases ih2 g1.emit with ⟨k1,k2,k3⟩ | ⟨k1,k2,k3,k4,k5,k6⟩
     · simp only [Rd.emit,aj,ai,al] at k2 k3
       exact .inl ⟨k1,by omega,by omega⟩
     · simp only [Rd.emit,aj,ai,al] at k1 k5 k6
       exact .inr ⟨by omega,k2,k3,k4,by omega,by omega⟩
   · have:=hl.stop (r:=_) g2
     subst this
     simp only [Rd.to] at g1 g5 g6
     right
     simp only [Rd.emit,aj,ai,al]
     exact ⟨by omega,g2,g3,g4,by omega,by omega⟩
 | once hn hr ih1 =>
   intro hok
   obtain ⟨f1,_,_,_,_,f2,f3⟩:=fv (by omega) (by omega) hok.low hok.high hn
   have hlow:=hok.low
   rcases ih1 ⟨hok.bad,by simp only [Rd.to]; omega,by simp only [Rd.to]; omega⟩ with ⟨g1,g2,g3⟩ | ⟨g1,g2,g3,g4,g5,g6⟩
   · simp only [Rd.to] at g2 g3
     left
     simp only [Rd.emit,aj,ai,al]
     exact ⟨⟨g1.bad,g1.low,g1.high⟩,by omega,by omega⟩
   · simp only [Rd.to] at g1 g5 g6
     right
     simp only [Rd.emit,aj,ai,al]
     exact ⟨by omega,g2,g3,g4,by omega,by omega⟩
 | lost h =>
   intro hok
   exact kU hok (cc _) hok.high hok.bad rfl rfl
 | sign hb hh hr ih =>
   intro hok
   have hlt:=hok.lt (fun x e=>by rw [hh] at e; subst e; simp)
   have hlow:=hok.low
   rcases ih ⟨hok.bad,by simp only [Rd.to]; omega,by simp only [Rd.to]; omega⟩ with ⟨g1,g2,g3⟩ | ⟨g1,g2,g3,g4,g5,g6⟩
   · simp only [Rd.to] at g2 g3
     left
     simp only [Rd.emit,aj,ai,al]
     exact ⟨⟨g1.bad,g1.low,g1.high⟩,by omega,by omega⟩
   · simp only [Rd.to] at g1 g5 g6
     right
     simp only [Rd.emit,aj,ai,al]
     exact ⟨by omega,g2,g3,g4,by omega,by omega⟩
 | leaf hb hh =>
   intro hok
   exact wu hok (hok.lt (fun x e=>by rw [hh] at e; subst e; simp))
 | par hb hh hr ih =>
   intro hok
   have hlt:=hok.lt (fun x e=>by rw [hh] at e; subst e; simp)
   have hlow:=hok.low
   rcases ih ⟨hok.bad,by simp only [Rd.to]; omega,by simp only [Rd.to]; omega⟩ with ⟨g1,g2,g3⟩ | ⟨g1,g2,g3,g4,g5,g6⟩
   · simp only [Rd.to] at g2 g3
     rcases ki g1 with ⟨k1,k2,k3,_⟩ | ⟨k1,k2,k3⟩
     · left; rw [k2,k3]; exact ⟨k1,by omega,by omega⟩
     · right; rw [k1,k2,k3]; have:=g1.high; have:=g1.low; exact ⟨by omega,by omega,by omega,by omega,by omega,by omega⟩
   · simp only [Rd.to] at g1 g5 g6
     rw [jB g2]
     right
     refine ⟨?_,g2,g3,?_,?_,?_⟩ <;> dsimp only <;> omega
 | call hb hh hr ih =>
   intro hok
   obtain ⟨_,_,_,_,_,_,hlt⟩:=nr hh
   have hlow:=hok.low
   rcases ih ⟨hok.bad,by simp only [Rd.to]; omega,by simp only [Rd.to]; omega⟩ with ⟨g1,g2,g3⟩ | ⟨g1,g2,g3,g4,g5,g6⟩
   · simp only [Rd.to] at g2 g3
     rcases ki g1 with ⟨k1,k2,k3,_⟩ | ⟨k1,k2,k3⟩
     · left
       simp only [Rd.emit,k2,k3,aj,ai,al]
       exact ⟨⟨k1.bad,by have:=k1.low; simp only [k2] at this ⊢; exact this,by have:=k1.high; simp only [k2] at this ⊢; exact this⟩,by omega,by omega⟩
     · right
       have:=g1.high; have:=g1.low
       simp only [Rd.emit,k1,k2,k3,aj,ai,al]
       exact ⟨by omega,by omega,by omega,by omega,by omega,by omega⟩
   · simp only [Rd.to] at g1 g5 g6
     rw [jB g2]
     right
     simp only [Rd.emit,aj,ai,al]
     exact ⟨by omega,g2,g3,by omega,by omega,by omega⟩
def due (s:Str) (r:Rd):Task→Nat
 | .bin p=>10 * (ab s - r.pos).toNat+(7 - p).toNat
 | .loop _=>10 * (ab s - r.pos).toNat
 | .una=>10 * (ab s - r.pos).toNat
def fits:Task→Prop
 | .bin p=>1≤p∧p≤6
 | .loop p=>1≤p∧p≤5
 | .una=>True
theorem Run.total:∀ (n:Nat) (t:Task) (r:Rd),due s r t≤n→fits t→Ok s r∨(0≤r.bad∧∃ p,t = .loop p)→∃ o,Run s t r o:=by
 intro n
 induction n using Nat.strongRecOn with
 | _ n ih =>
   intro t r hd hf hok
   rcases hok with hok | ⟨hb,p,rfl⟩
   case inr=>exact ⟨r,.done (fun h=>by omega)⟩
   have hlow:=hok.low
   have hhigh:=hok.high
   cases t with
   | bin p =>
     obtain ⟨f1,f2⟩:=hf
     simp only [due] at hd
     by_cases h6:p=6
     · subst h6
       obtain ⟨o,ho⟩:=ih (10 * (ab s - r.pos).toNat) (by omega) .una r (aD _) trivial (.inl hok)
       exact ⟨o,.six ho⟩
     · obtain ⟨q,hq⟩:=ih (10 * (ab s - r.pos).toNat+(7 - (p+1)).toNat) (by omega) (.bin (p+1)) r (aD _) ⟨by omega,by omega⟩ (.inl hok)
       rcases hq.inv hok with ⟨g1,g2,_⟩ | ⟨_,g2,_⟩
       · obtain ⟨o,ho⟩:=ih (10 * (ab s - q.pos).toNat) (by omega) (.loop p) q (aD _) ⟨f1,by omega⟩ (.inl g1)
         exact ⟨o,.bin f1 (by omega) hq ho⟩
       · exact ⟨q,.bin f1 (by omega) hq (.done fun h=>by omega)⟩
   | loop p =>
     obtain ⟨f1,f2⟩:=hf
     simp only [due] at hd
     by_cases he:atEnd s p r
     · exact ⟨r,.done he⟩
     · obtain ⟨k1,_,_,_,_,k2,k3⟩:=fv f1 f2 hlow hhigh he
       have hok1:Ok s (r.to (r.pos+(bw (s.drop r.pos.toNat) p).2)):=⟨hok.bad,by simp only [Rd.to]; omega,by simp only [Rd.to]; omega⟩
       obtain ⟨q,hq⟩:=ih (10 * (ab s - (r.pos+(bw (s.drop r.pos.toNat) p).2)).toNat+(7 - (p+1)).toNat) (by omega) (.bin (p+1)) _ (aD _) ⟨by omega,by omega⟩ (.inl hok1)
       by_cases h3:p=3
       · subst h3; exact ⟨_,.once he hq⟩
       · rcases hq.inv hok1 with ⟨g1,g2,_⟩ | ⟨_,g2,_⟩
         · simp only [Rd.to] at g2
           obtain ⟨o,ho⟩:=ih (10 * (ab s - q.pos).toNat) (by omega) (.loop p) (q.emit ⟨(bw (s.drop r.pos.toNat) p).1,0,[]⟩) (aD _) ⟨f1,f2⟩ (.inl g1.emit)
           exact ⟨o,.more f1 f2 h3 he hq ho⟩
         · exact ⟨_,.more f1 f2 h3 he hq (.done fun h=>by have:(q.emit ⟨(bw (s.drop r.pos.toNat) p).1,0,[]⟩).bad=q.bad:=rfl; omega)⟩
   | una =>
     simp only [due] at hd
     cases hh:b8 s r.pos with
     | fin=>exact ⟨_,.lost (.inr hh)⟩
     | leaf=>exact ⟨_,.leaf (by have:=hok.bad; omega) hh⟩
     | pre op =>
       have hlt:=hok.lt (fun x e=>by rw [hh] at e; subst e; simp)
       obtain ⟨q,hq⟩:=ih (10 * (ab s - (r.pos+1)).toNat) (by omega) .una (r.to (r.pos+1)) (aD _) trivial (.inl ⟨hok.bad,by simp only [Rd.to]; omega,by simp only [Rd.to]; omega⟩)
       exact ⟨_,.sign (by have:=hok.bad; omega) hh hq⟩
     | par =>
       have hlt:=hok.lt (fun x e=>by rw [hh] at e; subst e; simp)
       obtain ⟨q,hq⟩:=ih (10 * (ab s - (r.pos+1)).toNat+6) (by omega) (.bin 1) (r.to (r.pos+1)) (aD _) ⟨by omega,by omega⟩ (.inl ⟨hok.bad,by simp only [Rd.to]; omega,by simp only [Rd.to]; omega⟩)
       exact ⟨_,.par (by have:=hok.bad; omega) hh hq⟩
     | call op =>
       obtain ⟨_,_,_,_,_,_,hlt⟩:=nr hh
       obtain ⟨q,hq⟩:=ih (10 * (ab s - (r.pos+3)).toNat+6) (by omega) (.bin 1) (r.to (r.pos+3)) (aD _) ⟨by omega,by omega⟩ (.inl ⟨hok.bad,by simp only [Rd.to]; omega,by simp only [Rd.to]; omega⟩)
       exact ⟨_,.call (by have:=hok.bad; omega) hh hq⟩
theorem Bu (s:Str):∃ o,Run s (.bin 1) ⟨0,[], -1⟩ o:=Run.total _ (.bin 1) ⟨0,[], -1⟩ (aD _) ⟨by omega,by omega⟩ (.inl ⟨rfl,cc _,by simp [ab]⟩)
noncomputable def cu (s:Str):Rd:=(Bu s).choose
theorem oc (s:Str):Run s (.bin 1) ⟨0,[], -1⟩ (cu s):=(Bu s).choose_spec
noncomputable def aO (s:Str):List Cell×Int×Int :=
 if ab s>600 then ([],0,4)
 else if (cu s).bad≥0 then ([],(cu s).bad,1)
 else if (cu s).pos<ab s then ([],(cu s).pos,1)
 else if ((cu s).out.length:Int)>32 then ([],0,4)
 else ((cu s).out,0,0)
end Go.Proofs.YtpfidgnkokidoaaGreatDoor

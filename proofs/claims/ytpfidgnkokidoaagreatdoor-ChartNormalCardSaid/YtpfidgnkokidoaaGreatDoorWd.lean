/- Plain: numbers' texts, points' texts. Conditions: each theorem's own. Plain: a chart's text; what is told is read. Conditions: each theorem's own. -/
import Derived.Test.YtpfidgnkokidoaaGreatDoorShelfi
import Derived.Test.YtpfidgnkokidoaaGreatDoorMr
import Derived.Test.YtpfidgnkokidoaaGreatDoorXc
import Derived.Test.YtpfidgnkokidoaaGreatDoorWj
namespace Go.Proofs.YtpfidgnkokidoaaGreatDoor
open Go Go.Ev
set_option maxRecDepth 100000
/-! ### a number is told by the text that is read -/
variable {s:Str} {a:Int} {c:UInt8}
theorem oE (h:isD c=true):48≤c.toNat∧c.toNat≤57:=by
 simp only [isD,ab,decide_eq_true_eq] at h; omega
theorem tS (h:isD c=true):UInt8.ofNat (48+(c.toNat - 48))=c:=by
 have:=oE h
 apply gp.1
 rw [show 48+(c.toNat - 48)=c.toNat by omega]
 simp
theorem JM (n:Nat):∀ l:List UInt8,l.length=n→l.all isD=true→l≠[]→(l.length=1∨(l.getD 0 0).toNat≠48)→Lib.decDigits (cT 0 l)=l:=by
 induction n with
 | zero=>intro l h _ hn; exact absurd (b4.1 h) hn
 | succ n ih =>
   intro l hl hd hn h0
   obtain ⟨r,c,rfl⟩:∃ r c,l=r++[c]:=⟨l.dropLast,l.getLast hn,(List.dropLast_concat_getLast hn).symm⟩
   rw [aQ,ab] at hd
   have hc:isD c=true:=by simpa using hd.2
   have hcn:=oE hc
   rw [nL]
   cases r with
   | nil =>
     have h9:c.toNat - 48<10:=by omega
     have e:10 * cT 0 []+(c.toNat - 48)=c.toNat - 48:=by show 10 * 0+(c.toNat - 48)=_; omega
     rw [e,Lib.decDigits_one h9,tS hc]; rfl
   | cons x r =>
     have hx:x.toNat≠48:=by
      rcases h0 with h0 | h0
      · simp at h0
      · simpa using h0
     have hxd:isD x=true:=by have:=hd.1; simp only [aE,ab] at this; exact this.1
     have hge:1≤cT 0 (x::r):=by
      have:=rE r (10 * 0+(x.toNat - 48))
      have h2:=oE hxd
      show 1≤cT (10 * 0+(x.toNat - 48)) r
      omega
     have e:=ih (x::r) (by simp at hl ⊢; omega) hd.1 (by simp) (.inr (by simpa using hx))
     generalize cT 0 (x::r)=v at hge e ⊢
     rw [Lib.decDigits,dif_neg (by omega),show (10 * v+(c.toNat - 48)) / 10=v by omega,show (10 * v+(c.toNat - 48)) % 10=c.toNat - 48 by omega,e,tS hc]
theorem mE (h:(bb s).2=0):Lib.itoa (bb s).1=s∧-1099511627776≤(bb s).1∧(bb s).1≤1099511627776:=by
 have hf:fQ s=false:=by
  cases hb:fQ s
  · rfl
  · rw [bb,if_pos hb] at h; cases h
 rw [bb,if_neg (by rw [hf]; simp)] at h ⊢
 split at h
 · cases h
 · rename_i hv
   rw [if_neg hv]
   simp only [fQ,aI,cG,fI] at hf
   obtain ⟨⟨hne,hall⟩,h0⟩:=hf
   have hne':bz s [45]≠[]:=by simpa using hne
   have hL:af (bz s [45])=((bz s [45]).length:Int):=rfl
   have hlen:0<(bz s [45]).length:=gh.2 hne'
   have hdb:Lib.decDigits (cT 0 (bz s [45]))=bz s [45]:=by
    refine JM _ _ rfl hall hne' ?_
    rcases h0 with h0 | h0
    · right; intro e; rw [e] at h0; simp at h0
    · left; have:=of_decide_eq_false h0.1; omega
   cases s with
   | nil=>rw [Db.1] at hne; simp at hne
   | cons c r =>
     by_cases hc:c=45
     · subst hc
       rw [(jb r).1] at hdb hv hlen h0 hL ⊢
       rw [(jb r).2] at h0 ⊢
       have hz:(((r.getD 0 0).toNat:Int)==48)=false:=by
        rcases h0 with h0 | h0
        · exact h0
        · simp at h0
       have hpos:0<cT 0 r:=by
        cases r with
        | nil=>simp at hlen
        | cons x q =>
          have h3:x.toNat≠48:=by intro e; simp [e] at hz
          have h4:=rE q (10 * 0+(x.toNat - 48))
          have h5:=oE (c:=x) (by rw [(jb _).1] at hall; simp only [aE,ab] at hall; exact hall.1)
          show 0<cT (10 * 0+(x.toNat - 48)) q
          omega
       simp only [if_true]
       refine ⟨?_,by omega,by omega⟩
       unfold Lib.itoa
       rw [if_pos (by omega),show (-(cT 0 r:Int)).natAbs=cT 0 r by omega,hdb]
     · rw [(jk r hc).1] at hdb hv ⊢
       rw [(jk r hc).2]
       simp only [cD,if_false]
       refine ⟨?_,by omega,by omega⟩
       unfold Lib.itoa
       rw [if_neg (by omega),show ((cT 0 (c::r):Int)).toNat=cT 0 (c::r) by omega,hdb]
theorem F8 (h:isD c=true):lz c=false:=by
 have:=oE h
 cases hb:lz c
 · rfl
 · simp only [lz,aF,beq_iff_eq] at hb
   rcases hb with rfl | rfl <;> simp at this
/-! ### a point's text in parts -/
theorem gM {n:Int} (h : -1099511627776≤n) (h':n≤1099511627776):du (Lib.itoa n)=true∧aS (Lib.itoa n)=n:=by
 have hn:=o3 n
 rw [if_neg (by omega)] at hn
 have hf:fQ (Lib.itoa n)=false:=by
  cases hb:fQ (Lib.itoa n)
  · rfl
  · rw [bb,if_pos hb] at hn; simp at hn
 rw [bb,if_neg (by rw [hf]; simp)] at hn
 split at hn
 · simp at hn
 · rename_i hv
   obtain ⟨g1,g2⟩:=nh hf
   have hok:du (Lib.itoa n)=true:=by
    cases hb:du (Lib.itoa n)
    · have:=g2 hb; omega
    · rfl
   refine ⟨hok,?_⟩
   rw [g1 hok]
   simpa using hn
theorem fu (h:pIn a=true) : -1048576≤a∧a≤1048576:=by
 simp only [pIn,ab,decide_eq_true_eq] at h; exact h
theorem gX (h:pIn a=true):(Lib.itoa a).length≤8∧0<(Lib.itoa a).length:=by
 have:=fu h
 unfold Lib.itoa
 split
 · have h1:=uP 6 a.natAbs (by omega)
   simp only [ah]; omega
 · have h1:=uP 6 a.toNat (by omega)
   have h2:=(fZ a.toNat).2.1
   exact ⟨by omega,gh.2 h2⟩
theorem Ft (a b:Int):∃ c d,lz c=true∧d.all isD=true∧df a b=Lib.itoa a++c::(d++[105])∧d=Lib.decDigits b.natAbs∧(b<0→c=45∧Lib.itoa b=45::d)∧(¬b<0→c=43∧Lib.itoa b=d):=by
 by_cases hb:b<0
 · refine ⟨45,Lib.decDigits b.natAbs,by decide,(fZ _).1,?_,rfl,fun _=>⟨rfl,by unfold Lib.itoa; rw [if_pos hb]⟩,fun h=>absurd hb h⟩
   show Lib.itoa a++(if b<0 then [] else [43])++Lib.itoa b++[105]=_
   rw [if_pos hb,show Lib.itoa b=45::Lib.decDigits b.natAbs by unfold Lib.itoa; rw [if_pos hb]]; simp
 · have e:b.natAbs=b.toNat:=by omega
   refine ⟨43,Lib.decDigits b.natAbs,by decide,(fZ _).1,?_,rfl,fun h=>absurd h hb,fun _=>⟨rfl,by unfold Lib.itoa; rw [if_neg hb,e]⟩⟩
   show Lib.itoa a++(if b<0 then [] else [43])++Lib.itoa b++[105]=_
   rw [if_neg hb,show Lib.itoa b=Lib.decDigits b.natAbs by unfold Lib.itoa; rw [if_neg hb,e]]; simp
theorem nR {b:Int} (h:oW s (a,b)):aJ s=((Lib.itoa a).length:Int)∧s.length≤20∧0<(Lib.itoa a).length∧s.take (Lib.itoa a).length=Lib.itoa a∧Lib.trimPrefix (Lib.trimSuffix (s.drop (Lib.itoa a).length) [105]) [43]=Lib.itoa b:=by
 obtain ⟨ha,hb,hs⟩:=h
 have ha:pIn a=true:=ha
 have hb:pIn b=true:=hb
 obtain ⟨c,d,hc,hd,e,ed,h1,h2⟩:=Ft a b
 have hs':s=Lib.itoa a++c::(d++[105]):=by rw [← e]; exact hs.symm
 have hla:=gX ha
 have hlb:=gX hb
 subst hs'
 have hdl:d.length≤8:=by
  by_cases hn:b<0
  · have:=congrArg List.length (h1 hn).2; simp at this; omega
  · have:=congrArg List.length (h2 hn).2; omega
 have hsuf:Lib.trimSuffix (c::(d++[105])) [105]=c::d:=by
  have hh:Lib.hasSuffix (c::(d++[105])) [105]=true:=by
   unfold Lib.hasSuffix; rw [List.isSuffixOf_iff_suffix]; exact ⟨c::d,by simp⟩
  unfold Lib.trimSuffix
  rw [if_pos hh]
  have:c::(d++[105])=(c::d)++[105]:=by simp
  rw [this,List.take_left' (by simp)]
 refine ⟨EX hc fun x hx=>?_,by simp; omega,hla.2,eY,?_⟩
 · rcases aZ.1 hx with hx | hx
   · exact F8 (al.1 hd x hx)
   · simp only [aV] at hx; subst hx; rfl
 · rw [er,hsuf]
   by_cases hn:b<0
   · obtain ⟨rfl,e2⟩:=h1 hn
     rw [e2]; rfl
   · obtain ⟨rfl,e2⟩:=h2 hn
     rw [e2]; rfl
end Go.Proofs.YtpfidgnkokidoaaGreatDoor
namespace Go.Proofs.YtpfidgnkokidoaaGreatDoor
open Go Go.Ev
set_option maxRecDepth 100000
def orS (s:Str):Str:=if s=[] then dash else s
def bL (l:List Cell):Str:=if cS l=true then fA l else []
def aU (l:List Deed):Str:=if dy l=true then gz l else []
variable (c:Chart) (st:List Ev.Stat) {w:Str} {a b:Int} (d k:Int) {l:List Deed} (ls:List (Nat×List Str)) (n:Int) (s:Ev.Stat) (t:Tran) (v:Var)
def iU:Str:=if k=1 then mB else if k=2 then sZ else if k=3 then oU else if k=4 then mD else if k=5 then jX else pn
def gU:List Str :=
 if v.kind=2 then [jL,v.name,if v.init.a=1 then fm else fS]
 else if v.kind=3 then [jH,v.name,Lib.itoa v.lo,Lib.itoa v.hi,df v.init.a v.init.b]
 else [nJ,v.name,Lib.itoa v.lo,Lib.itoa v.hi,Lib.itoa v.init.a]
def iE:List Str:=iU s.kind::s.name::(if s.initial=[] then [] else [s.initial])
def kU:List Str:=[wOn,orS t.event,orS (bL t.guard),orS t.dst,orS (aU t.acts)]
def dV (d:Nat) (w:Str) (l:List Deed):List (Nat×List Str):=if l=[] then [] else [(d+1,[w,aU l])]
def gI (i:Nat) (s :  Ev.Stat):List (Nat×List Str) :=
 (s.depth.toNat,iE s)::(dV s.depth.toNat iz s.entry++(dV s.depth.toNat iW s.leave++(c.trans.filter fun t=>t.src==(i:Int)).map fun t=>(s.depth.toNat+1,kU t)))
def dB (n:Nat):List (Nat×List Str):=(List.range n).flatMap fun i=>gI c i (ETy.get .stat c.states i)
def iO:List (Nat×List Str):=(0,[ir,c.name])::(c.events.map (fun e=>(0,[gl,e]))++(c.vars.map (fun v=>(0,gU v))++dB c c.states.length))
def gv (l:Nat×List Str):Str:=dW l.1++cr l.2
def cO:Str:=ls.flatMap fun l=>gv l++[10]
def bW:Str:=cO (iO c)
/-! which charts are read out of texts -/
def kl:Bool:=decide (-1099511627776≤n)&&decide (n≤1099511627776)
def hI:Bool:=aO v.name&&(bif v.kind==1 then kl v.lo&&(kl v.hi&&(v.init.kind==1&&(kl v.init.a&&v.init.b==0))) else bif v.kind==2 then v.lo==0&&(v.hi==1&&(v.init.kind==2&&((v.init.a==0||v.init.a==1)&&v.init.b==0))) else v.kind==3&&(kl v.lo&&(kl v.hi&&(v.init.kind==3&&(pIn v.init.a&&pIn v.init.b)))))
def jw (l:List Deed):Bool:=l.isEmpty||dy l
def pz:Bool:=k==2||(k==5||k==6)
def eV:Bool:=decide (1≤s.kind)&&(decide (s.kind≤6)&&(aO s.name&&(decide (0≤s.depth)&&((bif pz s.kind then aO s.initial else s.initial==[])&&(jw s.entry&&jw s.leave)))))
def dw:Int→List Ev.Stat→Bool
 | _,[]=>true
 | m,s::r=>decide (s.depth≤m)&&dw (s.depth+1) r
def gn (n:Nat) (t:Tran):Bool:=decide (0≤t.src)&&(decide (t.src<n)&&((t.event==[]||cz t.event)&&((t.guard.isEmpty||cS t.guard)&&((t.dst==[]||aO t.dst)&&jw t.acts))))
structure WfC (c:Chart):Prop where
 name:aO c.name=true
 events:c.events.all aO=true
 vars:c.vars.all hI=true
 states:c.states.all eV=true
 depths:dw 0 c.states=true
 trans:c.trans.all (gn c.states.length)=true
 sorted:c.trans.Pairwise fun t u=>t.src≤u.src
/-! ### words that may stand in a line -/
theorem tA {c:UInt8} (h:gb c=true):fh c=true:=by
 simp only [gb,ab,decide_eq_true_eq] at h
 simp only [fh,ab,decide_eq_true_eq]; omega
theorem kE (h0:w≠[]) (h:w.all gb=true):bI w=true:=by
 simp only [bI,ab,aC,beq_eq_false_iff_ne]
 exact ⟨h0,hJ h fun _=>tA⟩
theorem de (h:aO w=true):bI w=true:=by
 obtain ⟨c,r,e,_⟩:=(fD h).2.2.2.2.2.2.1
 exact kE (by rw [e]; simp) (kC h)
theorem A1 (h:cz w=true):w≠[]:=by
 rintro rfl; exact absurd h (by decide)
theorem sJ (h:cz w=true):bI w=true:=kE (A1 h) (xd h)
theorem lI:bI (Lib.itoa n)=true:=by
 unfold Lib.itoa
 split
 · refine kE (by simp) ?_
   rw [aE,hJ (fZ n.natAbs).1 fun _=>ob]; decide
 · exact kE (fZ n.toNat).2.1 (hJ (fZ n.toNat).1 fun _=>ob)
theorem wT:(Lib.itoa n).all gb=true:=by
 unfold Lib.itoa
 split
 · rw [aE,hJ (fZ n.natAbs).1 fun _=>ob]; decide
 · exact hJ (fZ n.toNat).1 fun _=>ob
theorem sd (a b:Int):bI (df a b)=true:=by
 refine kE (by unfold df; simp) ?_
 have h:(if b<0 then [] else [43]:Str).all gb=true:=by split <;> decide
 unfold df
 rw [aQ,aQ,aQ,wT,wT,h]; decide
theorem wP {l:List Cell} (h:cS l=true):fA l≠[]:=by
 obtain ⟨_,t,ht,hf⟩:=mM h
 rw [← hf,ji ht]
 obtain ⟨c,r,e,_⟩:=(mc ht).1
 rw [e]; simp
theorem vN {l:List Cell} (h:cS l=true):bI (fA l)=true:=kE (wP h) (Bq h)
theorem Kw {d:Deed} (h:cA d=true):eH d≠[]:=by
 unfold eH
 cases h1:d.kind==1
 · cases d.kind==2
   · simp [c6]
   · simp [b6]
 · simp
theorem pO:∀ (r:List Str),(∀ x∈r,x.all fh=true)→(Lib.joinTail [59] r).all fh=true
 | [],_=>rfl
 | x::r,h=>by
   have e:Lib.joinTail [59] (x::r)=59::(x++Lib.joinTail [59] r):=by simp [Lib.joinTail]
   rw [e,aE,aQ,h x az,pO r fun y hy=>h y (aD _ hy)]; decide
theorem kO (h:dy l=true):bI (gz l)=true:=by
 obtain ⟨h1,h2,_⟩:=jI h
 cases l with
 | nil=>simp at h2
 | cons d r =>
   have e:gz (d::r)=eH d++Lib.joinTail [59] (r.map eH):=by
    show Lib.join (eH d::r.map eH) [59]=_; rw [Lib.join_cons]
   have hd:=h1 d az
   rw [e]
   simp only [bI,ab,aC,beq_eq_false_iff_ne]
   refine ⟨by simp [Kw hd],?_⟩
   rw [aQ,hJ (qF hd) fun _=>tA,pO _ fun x hx=>?_]
   · rfl
   · obtain ⟨y,hy,rfl⟩:=bo.1 hx
     exact hJ (qF (h1 y (aD _ hy))) fun _=>tA
theorem jo {s:Str} (h:s≠[]→bI s=true):bI (orS s)=true:=by
 unfold orS; split
 · decide
 · rename_i hs; exact h hs
/-! ### lines told, and read -/
theorem El {c:Chart} {k:Nat} (hk:k≠0) {d:Nat} {w:Str} {r:List Str} (h:(w::r).all bI=true):dK c k (gv (d,w::r))=ct c (d:Nat) w r:=by
 obtain ⟨h1,h2⟩:=uK d (by simp) h
 have e1:bE (gv (d,w::r))=d:=h1
 have e2:bq (gv (d,w::r))=w::r:=h2
 have hok:gP (gv (d,w::r))=true:=by unfold gP; rw [e2]; exact h
 rw [dK,if_pos hok,if_neg hk,e1,e2]; rfl
def Rd1 (c':Chart):Prop:=∀ k,k≠0→dq c k (ls.map gv)=(c',none)
theorem Rd1.nil:Rd1 c [] c:=fun _ _=>rfl
theorem Rd1.app {a b:List (Nat×List Str)} {c c' c'':Chart} (h:Rd1 c a c') (h':Rd1 c' b c''):Rd1 c (a++b) c'':=by
 intro k hk
 rw [cn,pK,h k hk]
 exact h' _ (by omega)
theorem Rd1.one {d:Nat} {w:Str} {r:List Str} {c c':Chart} (h:(w::r).all bI=true) (e:ct c (d:Nat) w r=some c'):Rd1 c [(d,w::r)] c':=by
 intro k hk
 simp only [ay,cb,dq,El hk h,e]
theorem Rd1.cons {x:Nat×List Str} {b:List (Nat×List Str)} {c c' c'':Chart} (h:Rd1 c [x] c') (h':Rd1 c' b c''):Rd1 c (x::b) c'':=Rd1.app (a:=[x]) h h'
theorem oh {c:Chart} {d:Int} {w:Str} {r:List Str} {n:Int} (hd:d=0) (hs:c.states=[]) (hw:aO w=true) (hn:n=((r.length+1:Nat):Int)):eG c d (w::r) n=true:=by
 subst hd; subst hn
 have h0:ETy.get .str (w::r) 0=w:=rfl
 unfold eG
 rw [hs,h0,hw]
 simp
theorem xM (c:Chart) (hs:c.states=[]):∀ (l:List Str),l.all aO=true→Rd1 c (l.map fun e=>(0,[gl,e])) { c with events:=c.events++l }
 | [],_=>by have:=Rd1.nil c; simpa using this
 | e::l,h=>by
   simp only [aE,ab] at h
   have h1:Rd1 c [(0,[gl,e])] { c with events:=c.events++[e] }:=by
    refine Rd1.one (by simp only [aE,de h.1]; decide) ?_
    rw [ct,if_pos rfl,jE,if_pos (show eG c ((0:Nat):Int) [e] 1=true from oh rfl hs h.1 rfl)]; rfl
   have h2:=xM { c with events:=c.events++[e] } hs l h.2
   have:=h1.cons h2
   simpa using this
theorem jB {n:Int} (h:kl n=true):bb (Lib.itoa n)=(n,0):=by
 simp only [kl,ab,decide_eq_true_eq] at h
 rw [o3,if_neg (by omega)]
theorem qY {x y:Int} (h1:pIn a=true) (h2:pIn b=true) (h3:pIn x=true) (h4:pIn y=true) (h:df a b=df x y):a=x∧b=y:=by
 have f1:=nR (s:=df a b) (a:=a) (b:=b) ⟨h1,h2,rfl⟩
 have f2:=nR (s:=df a b) (a:=x) (b:=y) ⟨h3,h4,h.symm⟩
 have hl:(Lib.itoa a).length=(Lib.itoa x).length:=by have:=f1.1.symm.trans f2.1; omega
 have e1:Lib.itoa a=Lib.itoa x:=by rw [← f1.2.2.2.1,← f2.2.2.2.1,hl]
 have e2:Lib.itoa b=Lib.itoa y:=by rw [← f1.2.2.2.2,← f2.2.2.2.2,hl]
 have p1:=fu h1; have p2:=fu h2; have p3:=fu h3; have p4:=fu h4
 have g1:=(gM (n:=a) (by omega) (by omega)).2
 have g2:=(gM (n:=x) (by omega) (by omega)).2
 have g3:=(gM (n:=b) (by omega) (by omega)).2
 have g4:=(gM (n:=y) (by omega) (by omega)).2
 rw [e1] at g1; rw [e2] at g3
 exact ⟨g1.symm.trans g2,g3.symm.trans g4⟩
theorem EA (h1:pIn a=true) (h2:pIn b=true):fv (df a b)∧ptA (df a b)=a∧ptB (df a b)=b:=by
 have hr:fv (df a b):=⟨(a,b),h1,h2,rfl⟩
 obtain ⟨g1,g2,g3⟩:=j9 hr
 have:=qY g1 g2 h1 h2 g3
 exact ⟨hr,this.1,this.2⟩
theorem Og (hs:c.states=[]) (v:Var) (h:hI v=true):Rd1 c [(0,gU v)] { c with vars:=c.vars++[v] }:=by
 obtain ⟨nm,k,lo,hi,⟨ik,ia,ib⟩⟩:=v
 simp only [hI,ab] at h
 obtain ⟨hn,h⟩:=h
 by_cases h2:k=2
 · subst h2
   simp only [show ((2:Int)==1)=false from rfl,show ((2:Int)==2)=true from rfl,cond_false,cond_true,ab,beq_iff_eq,aF] at h
   obtain ⟨rfl,rfl,rfl,h3,rfl⟩:=h
   rcases h3 with rfl | rfl
   · refine Rd1.one (d:=0) (w:=jL) (r:=[nm,fS]) (by simp only [aE,de hn]; decide) ?_
     rw [ct,if_neg (by decide),if_neg (by decide),if_pos rfl,kj,if_pos ⟨oh rfl hs hn rfl,.inr rfl⟩]; rfl
   · refine Rd1.one (d:=0) (w:=jL) (r:=[nm,fm]) (by simp only [aE,de hn]; decide) ?_
     rw [ct,if_neg (by decide),if_neg (by decide),if_pos rfl,kj,if_pos ⟨oh rfl hs hn rfl,.inl rfl⟩]; rfl
 · by_cases h3:k=3
   · subst h3
     simp only [show ((3:Int)==1)=false from rfl,show ((3:Int)==2)=false from rfl,cond_false,ab,beq_iff_eq] at h
     obtain ⟨_,hlo,hhi,rfl,ha,hb⟩:=h
     obtain ⟨g1,g2,g3⟩:=EA ha hb
     refine Rd1.one (d:=0) (w:=jH) (r:=[nm,Lib.itoa lo,Lib.itoa hi,df ia ib]) (by simp only [aE,de hn,lI,sd]; decide) ?_
     rw [ct,if_neg (by decide),if_neg (by decide),if_neg (by decide),if_pos rfl,jc,if_pos ⟨oh rfl hs hn rfl,by show (bb (Lib.itoa lo)).2=0; rw [jB hlo],by show (bb (Lib.itoa hi)).2=0; rw [jB hhi],g1⟩]
     show some { c with vars:=c.vars++[(⟨nm,3,(bb (Lib.itoa lo)).1,(bb (Lib.itoa hi)).1,⟨3,ptA (df ia ib),ptB (df ia ib)⟩⟩:Var)] }=_
     rw [jB hlo,jB hhi,g2,g3]
   · have h1:k=1:=by
      cases hk:k==1
      · rw [hk,show (k==2)=false by simpa using h2] at h
        simp only [cond_false,ab,beq_iff_eq] at h
        exact absurd h.1 h3
      · simpa using hk
     subst h1
     simp only [show ((1:Int)==1)=true from rfl,cond_true,ab,beq_iff_eq] at h
     obtain ⟨hlo,hhi,rfl,ha,rfl⟩:=h
     refine Rd1.one (d:=0) (w:=nJ) (r:=[nm,Lib.itoa lo,Lib.itoa hi,Lib.itoa ia]) (by simp only [aE,de hn,lI]; decide) ?_
     rw [ct,if_neg (by decide),if_pos rfl,nH,if_pos ⟨oh rfl hs hn rfl,by show (bb (Lib.itoa lo)).2=0; rw [jB hlo],by show (bb (Lib.itoa hi)).2=0; rw [jB hhi],by show (bb (Lib.itoa ia)).2=0; rw [jB ha]⟩]
     show some { c with vars:=c.vars++[(⟨nm,1,(bb (Lib.itoa lo)).1,(bb (Lib.itoa hi)).1,⟨1,(bb (Lib.itoa ia)).1,0⟩⟩:Var)] }=_
     rw [jB hlo,jB hhi,jB ha]
theorem CU (c:Chart) (hs:c.states=[]):∀ (l:List Var),l.all hI=true→Rd1 c (l.map fun v=>(0,gU v)) { c with vars:=c.vars++l }
 | [],_=>by have:=Rd1.nil c; simpa using this
 | v::l,h=>by
   simp only [aE,ab] at h
   have h1:=Og c hs v h.1
   have h2:=CU { c with vars:=c.vars++[v] } hs l h.2
   have:=h1.cons h2
   simpa using this
/-! ### states -/
theorem nr (h:jw l=true):l=[]∨dy l=true:=by
 simp only [jw,aF,List.isEmpty_iff] at h; exact h
theorem iR (h:dy l=true):aY (aU l)∧(aL (aU l)).1=l∧bI (aU l)=true:=by
 have e:aU l=gz l:=by unfold aU; rw [if_pos h]
 have hb:=uV h
 rw [e]
 exact ⟨by show (aL (gz l)).2=0; rw [hb],by rw [hb],kO h⟩
theorem nA {l:List Cell} (h:cS l=true):cy (bL l)∧(aR (bL l)).1=l∧bI (bL l)=true:=by
 have e:bL l=fA l:=by unfold bL; rw [if_pos h]
 have hb:=oY h
 rw [e]
 exact ⟨by show (aR (fA l)).2.2=0; rw [hb],by rw [hb],vN h⟩
theorem sQ (h:dy l=true):l≠[]:=by
 rintro rfl; exact absurd (jI h).2.1 (by simp)
theorem vX:aO dash=false∧cz dash=false:=by decide
theorem ny:bI (iU k)=true:=by
 unfold iU
 repeat' split
 all_goals decide
theorem xj {c:Chart} {d k:Int} {w:List Str} (h1:1≤k) (h6:k≤6):ct c d (iU k) w=aM k (bif pz k then 2 else 1) c d w:=by
 have:k=1∨k=2∨k=3∨k=4∨k=5∨k=6:=by omega
 rcases this with rfl | rfl | rfl | rfl | rfl | rfl
 · show ct c d mB w=_
   rw [ct,if_neg (by decide),if_neg (by decide),if_neg (by decide),if_neg (by decide),if_pos rfl]; rfl
 · show ct c d sZ w=_
   rw [ct,if_neg (by decide),if_neg (by decide),if_neg (by decide),if_neg (by decide),if_neg (by decide),if_neg (by decide),if_neg (by decide),if_pos rfl]; rfl
 · show ct c d oU w=_
   rw [ct,if_neg (by decide),if_neg (by decide),if_neg (by decide),if_neg (by decide),if_neg (by decide),if_pos rfl]; rfl
 · show ct c d mD w=_
   rw [ct,if_neg (by decide),if_neg (by decide),if_neg (by decide),if_neg (by decide),if_neg (by decide),if_neg (by decide),if_pos rfl]; rfl
 · show ct c d jX w=_
   rw [ct,if_neg (by decide),if_neg (by decide),if_neg (by decide),if_neg (by decide),if_neg (by decide),if_neg (by decide),if_neg (by decide),if_neg (by decide),if_pos rfl]; rfl
 · show ct c d pn w=_
   rw [ct,if_neg (by decide),if_neg (by decide),if_neg (by decide),if_neg (by decide),if_neg (by decide),if_neg (by decide),if_neg (by decide),if_neg (by decide),if_neg (by decide),if_pos rfl]; rfl
theorem FZ (w:List Str):ct c d iz w=iu c d w:=by
 rw [ct,if_neg (by decide),if_neg (by decide),if_neg (by decide),if_neg (by decide),if_neg (by decide),if_neg (by decide),if_neg (by decide),if_neg (by decide),if_neg (by decide),if_neg (by decide),if_pos rfl]
theorem GY (w:List Str):ct c d iW w=ju c d w:=by
 rw [ct,if_neg (by decide),if_neg (by decide),if_neg (by decide),if_neg (by decide),if_neg (by decide),if_neg (by decide),if_neg (by decide),if_neg (by decide),if_neg (by decide),if_neg (by decide),if_neg (by decide),if_pos rfl]
theorem Mb (w:List Str):ct c d wOn w=onC c d w:=by
 rw [ct,if_neg (by decide),if_neg (by decide),if_neg (by decide),if_neg (by decide),if_neg (by decide),if_neg (by decide),if_neg (by decide),if_neg (by decide),if_neg (by decide),if_neg (by decide),if_neg (by decide),if_neg (by decide),if_pos rfl]
theorem ME (hs:eV s=true) (hr:s.depth≤iV c):Rd1 c [(s.depth.toNat,iE s)] { c with states:=c.states++[{ s with entry:=[],leave:=[] }] }:=by
 obtain ⟨nm,k,d,ini,en,le⟩:=s
 simp only [eV,ab,decide_eq_true_eq] at hs
 obtain ⟨h1,h6,hn,hd,hi,_⟩:=hs
 have hd':((d.toNat:Nat):Int)=d:=Int.toNat_of_nonneg hd
 cases h2:pz k
 · rw [h2,cond_false,beq_iff_eq] at hi
   subst hi
   refine Rd1.one (d:=d.toNat) (w:=iU k) (r:=[nm]) (by simp only [aE,ny,de hn]; rfl) ?_
   rw [xj h1 h6,h2,hd',cond_false,aM,if_pos ⟨hr,rfl,hn,hn⟩]; rfl
 · rw [h2,cond_true] at hi
   have hne:ini≠[]:=by rintro rfl; exact absurd hi (by decide)
   have e:iE ⟨nm,k,d,ini,en,le⟩=[iU k,nm,ini]:=by show iU k::nm::(if ini=[] then [] else [ini])=_; rw [if_neg hne]
   rw [e]
   refine Rd1.one (d:=d.toNat) (w:=iU k) (r:=[nm,ini]) (by simp only [aE,ny,de hn,de hi]; rfl) ?_
   rw [xj h1 h6,h2,hd',cond_true,aM,if_pos ⟨hr,rfl,hn,hi⟩]; rfl
theorem mO {l:List Ev.Stat} {s :  Ev.Stat}:(l++[s]).getLast?=some s∧(l++[s]).dropLast=l:=by simp
theorem IV (hc:c.states=st++[s]) (hd:0≤s.depth) (l:List Deed) (h:jw l=true) (he:s.entry=[]):Rd1 c (dV s.depth.toNat iz l) { c with states:=st++[{ s with entry:=l }] }:=by
 unfold dV
 rcases nr h with rfl | hb
 · rw [if_pos rfl]
   have e:({ s with entry:=[] } :  Ev.Stat)=s:=by rw [← he]
   rw [e,← hc]; exact Rd1.nil c
 · obtain ⟨g1,g2,g3⟩:=iR hb
   rw [if_neg (sQ hb)]
   refine Rd1.one (by simp only [aE,g3]; decide) ?_
   rw [FZ,iu,hc,mO.1,mO.2]
   simp only
   rw [if_pos ⟨by omega,rfl,he,g1⟩]
   show some { c with states:=st++[{ s with entry:=(aL (aU l)).1 }] }=_
   rw [g2]
theorem IQ (hc:c.states=st++[s]) (hd:0≤s.depth) (l:List Deed) (h:jw l=true) (he:s.leave=[]):Rd1 c (dV s.depth.toNat iW l) { c with states:=st++[{ s with leave:=l }] }:=by
 unfold dV
 rcases nr h with rfl | hb
 · rw [if_pos rfl]
   have e:({ s with leave:=[] } :  Ev.Stat)=s:=by rw [← he]
   rw [e,← hc]; exact Rd1.nil c
 · obtain ⟨g1,g2,g3⟩:=iR hb
   rw [if_neg (sQ hb)]
   refine Rd1.one (by simp only [aE,g3]; decide) ?_
   rw [GY,ju,hc,mO.1,mO.2]
   simp only
   rw [if_pos ⟨by omega,rfl,he,g1⟩]
   show some { c with states:=st++[{ s with leave:=(aL (aU l)).1 }] }=_
   rw [g2]
theorem rH {s:Str} (h:s≠[]→s≠dash):(orS s=dash↔s=[])∧(s≠[]→orS s=s):=by
 unfold orS
 by_cases hs:s=[]
 · rw [if_pos hs]; exact ⟨⟨fun _=>hs,fun _=>rfl⟩,fun h=>absurd hs h⟩
 · rw [if_neg hs]; exact ⟨⟨fun e=>absurd e (h hs),fun e=>absurd e hs⟩,fun _=>rfl⟩
theorem HG {l:List Cell} (h:cS l=true):fA l≠dash:=by
 intro e
 have hb:=oY h
 rw [e] at hb
 obtain ⟨_,t,ht,hf⟩:=mM h
 have e2:t.body=dash:=by rw [← ji ht,hf,e]
 have h3:af t.body=1:=by rw [e2]; rfl
 have h4:∀ t:Tm,t.ok→af t.body=1→∃ c,t = .leaf c:=by
  intro t ht h
  cases t with
  | leaf c=>exact ⟨c,rfl⟩
  | un c t =>
    exfalso
    have hne:1≤af t.body:=by
     obtain ⟨x,r,e,_⟩:=(mc ht.2).1
     rw [e]; show (1:Int)≤((x::r:Str).length:Int); simp only [ah]; omega
    have hb:(Tm.un c t).body=unS c.op t.body t.pow:=rfl
    rw [hb] at h
    rcases r7 ht.1 with e | e | e | e <;> rw [e] at h
    · have h2:af (unS 7 t.body t.pow)=1+af (cj t.pow t.body 6):=by show af ((ax 7).1++cj t.pow t.body 6)=_; rw [cc]; rfl
      have h3:1≤af (cj t.pow t.body 6):=by
       unfold cj
       cases decide (t.pow<6)
       · exact hne
       · simp only [cond_true,cc]; have:af [40]=1:=rfl; have:af [41]=1:=rfl; omega
      have h5:af (unS 7 t.body t.pow)=1:=h
      omega
    · have h2:af (unS 8 t.body t.pow)=1+af (cj t.pow t.body 6):=by show af ((ax 8).1++cj t.pow t.body 6)=_; rw [cc]; rfl
      have h3:1≤af (cj t.pow t.body 6):=by
       unfold cj
       cases decide (t.pow<6)
       · exact hne
       · simp only [cond_true,cc]; have:af [40]=1:=rfl; have:af [41]=1:=rfl; omega
      have h5:af (unS 8 t.body t.pow)=1:=h
      omega
    · have h2:af (unS 9 t.body t.pow)=3+af t.body+1:=by show af ([114,101,40]++t.body++[41])=_; rw [cc,cc]; rfl
      have h5:af (unS 9 t.body t.pow)=1:=h
      omega
    · have h2:af (unS 10 t.body t.pow)=3+af t.body+1:=by show af ([105,109,40]++t.body++[41])=_; rw [cc,cc]; rfl
      have h5:af (unS 10 t.body t.pow)=1:=h
      omega
  | bin c t u =>
    exfalso
    obtain ⟨x,r,e,_⟩:=(mc ht.2.1).2 (gx (ax c.op).2)
    obtain ⟨y,q,e',_⟩:=(mc ht.2.2).2 ((ax c.op).2+1)
    have hb:(Tm.bin c t u).body=t.tin (gx (ax c.op).2)++(ax c.op).1++u.tin ((ax c.op).2+1):=rfl
    rw [hb,e,e',cc,cc] at h
    have h1:af (x::r)=1+(r.length:Int):=by show ((x::r:Str).length:Int)=_; simp only [ah]; omega
    have h2:af (y::q)=1+(q.length:Int):=by show ((y::q:Str).length:Int)=_; simp only [ah]; omega
    have h3:0≤af (ax c.op).1:=eE _
    omega
 obtain ⟨c,rfl⟩:=h4 t ht h3
 have h5:fj c=dash:=e2
 rcases gk ht with ⟨a,rfl,h0,_⟩ | ⟨a,rfl,h0,_⟩ | rfl | rfl | ⟨n,rfl,hn⟩ | ⟨n,rfl,hn⟩
 · have h6:Lib.itoa a=dash:=h5
   rw [jm h0] at h6
   have:=(fZ a.toNat).1
   rw [h6] at this; exact absurd this (by decide)
 · have h6:Lib.itoa a++[105]=dash:=h5
   have:=congrArg List.getLast? h6
   simp [dash] at this
 · exact absurd h5 (by decide)
 · exact absurd h5 (by decide)
 · have h6:n=dash:=h5
   rw [h6,vX.1] at hn; cases hn
 · have h6:[105,110,40]++n++[41]=dash:=h5
   have:=congrArg List.length h6
   simp [dash] at this
theorem D5 (h:dy l=true):gz l≠dash:=by
 intro e
 have hb:=uV h
 rw [e] at hb
 have h2:(aL dash).2=1:=by
  have hp:ba [] dash=[dash]:=by decide
  rw [lR (by decide) (by rw [hp]; decide),hp]
  have h3:fk dash=none:=by
   rw [fk,if_neg (by decide),if_neg (by decide),if_neg]
   intro h; exact absurd h.1 (by decide)
  simp only [readAll,h3]
 rw [hb] at h2
 have h5:(0:Int)=1:=h2
 exact absurd h5 (by decide)
theorem OX (hc:c.states=st++[s]) (hd:0≤s.depth) (t:Tran) (h:gn (st.length+1) t=true) (hsrc:t.src=(st.length:Int)):Rd1 c [(s.depth.toNat+1,kU t)] { c with trans:=c.trans++[t] }:=by
 obtain ⟨src,ev,gd,dst,ac⟩:=t
 simp only [gn,ab,aF,beq_iff_eq,List.isEmpty_iff,decide_eq_true_eq] at h
 obtain ⟨_,_,he,hg,ht,ha⟩:=h
 have ha':=nr ha
 have e1:(orS ev=dash↔ev=[])∧(ev≠[]→orS ev=ev):=rH fun hn e=>by rcases he with he | he; exact hn he; rw [e,vX.2] at he; cases he
 have e3:(orS dst=dash↔dst=[])∧(dst≠[]→orS dst=dst):=rH fun hn e=>by rcases ht with ht | ht; exact hn ht; rw [e,vX.1] at ht; cases ht
 have g0:bL gd=[]↔gd=[]:=by
  constructor
  · intro e
    rcases hg with hg | hg
    · exact hg
    · unfold bL at e; rw [if_pos hg] at e; exact absurd e (wP hg)
  · rintro rfl; rfl
 have b0:aU ac=[]↔ac=[]:=by
  constructor
  · intro e
    rcases ha' with ha' | ha'
    · exact ha'
    · unfold aU at e; rw [if_pos ha'] at e
      have:=kO ha'; rw [e] at this; exact absurd this (by decide)
  · rintro rfl; rfl
 have e2:(orS (bL gd)=dash↔bL gd=[])∧(bL gd≠[]→orS (bL gd)=bL gd):=rH fun hn e=>by
  have hr:cS gd=true:=by rcases hg with hg | hg; exact absurd (g0.2 hg) hn; exact hg
  unfold bL at e; rw [if_pos hr] at e; exact HG hr e
 have e4:(orS (aU ac)=dash↔aU ac=[])∧(aU ac≠[]→orS (aU ac)=aU ac):=rH fun hn e=>by
  have hr:dy ac=true:=by rcases ha' with hg | hg; exact absurd (b0.2 hg) hn; exact hg
  unfold aU at e; rw [if_pos hr] at e; exact D5 hr e
 have v1:bI (orS ev)=true:=jo fun hn=>sJ (he.resolve_left hn)
 have v2:bI (orS (bL gd))=true:=jo fun hn=>(nA (hg.resolve_left fun e=>hn (g0.2 e))).2.2
 have v3:bI (orS dst)=true:=jo fun hn=>de (ht.resolve_left hn)
 have v4:bI (orS (aU ac))=true:=jo fun hn=>(iR (ha'.resolve_left fun e=>hn (b0.2 e))).2.2
 refine Rd1.one (d:=s.depth.toNat+1) (w:=wOn) (r:=[orS ev,orS (bL gd),orS dst,orS (aU ac)]) (by simp only [aE,v1,v2,v3,v4]; decide) ?_
 have hown:dG c ((s.depth.toNat+1:Nat):Int)=true:=by
  rw [dG,hc,mO.1]; simp only [beq_iff_eq]; omega
 have w1:orS ev=dash∨cz (orS ev)=true:=by
  by_cases hn:ev=[]
  · exact .inl (e1.1.2 hn)
  · rw [e1.2 hn]; exact .inr (he.resolve_left hn)
 have w2:orS (bL gd)=dash∨cy (orS (bL gd)):=by
  by_cases hn:gd=[]
  · exact .inl (e2.1.2 (g0.2 hn))
  · rw [e2.2 fun e=>hn (g0.1 e)]; exact .inr (nA (hg.resolve_left hn)).1
 have w3:orS dst=dash∨aO (orS dst)=true:=by
  by_cases hn:dst=[]
  · exact .inl (e3.1.2 hn)
  · rw [e3.2 hn]; exact .inr (ht.resolve_left hn)
 have w4:orS (aU ac)=dash∨aY (orS (aU ac)):=by
  by_cases hn:ac=[]
  · exact .inl (e4.1.2 (b0.2 hn))
  · rw [e4.2 fun e=>hn (b0.1 e)]; exact .inr (iR (ha'.resolve_left hn)).1
 have r1:(if orS ev=dash then [] else orS ev)=ev:=by
  by_cases hn:ev=[]
  · rw [if_pos (e1.1.2 hn),hn]
  · rw [if_neg fun e=>hn (e1.1.1 e),e1.2 hn]
 have r2:(if orS (bL gd)=dash then [] else (aR (orS (bL gd))).1)=gd:=by
  by_cases hn:gd=[]
  · rw [if_pos (e2.1.2 (g0.2 hn)),hn]
  · rw [if_neg fun e=>hn (g0.1 (e2.1.1 e)),e2.2 fun e=>hn (g0.1 e),(nA (hg.resolve_left hn)).2.1]
 have r3:(if orS dst=dash then [] else orS dst)=dst:=by
  by_cases hn:dst=[]
  · rw [if_pos (e3.1.2 hn),hn]
  · rw [if_neg fun e=>hn (e3.1.1 e),e3.2 hn]
 have r4:(if orS (aU ac)=dash then [] else (aL (orS (aU ac))).1)=ac:=by
  by_cases hn:ac=[]
  · rw [if_pos (e4.1.2 (b0.2 hn)),hn]
  · rw [if_neg fun e=>hn (b0.1 (e4.1.1 e)),e4.2 fun e=>hn (b0.1 e),(iR (ha'.resolve_left hn)).2.1]
 have hlen:(c.states.length:Int) - 1=src:=by
  have:src=(st.length:Int):=hsrc
  rw [hc,ag,this]; simp only [ah,aj]; omega
 rw [Mb,onC,if_pos ⟨hown,rfl,w1,w2,w3,w4⟩]
 show some { c with trans:=c.trans++[(⟨(c.states.length:Int) - 1,if orS ev=dash then [] else orS ev,if orS (bL gd)=dash then [] else (aR (orS (bL gd))).1,if orS dst=dash then [] else orS dst,if orS (aU ac)=dash then [] else (aL (orS (aU ac))).1⟩:Tran)] }=_
 rw [r1,r2,r3,r4,hlen]
theorem GI (c:Chart) (st:List Ev.Stat) (s :  Ev.Stat) (hc:c.states=st++[s]) (hd:0≤s.depth):∀ l:List Tran,(∀ t∈l,gn (st.length+1) t=true∧t.src=(st.length:Int))→∀ tr,Rd1 { c with trans:=tr } (l.map fun t=>(s.depth.toNat+1,kU t)) { c with trans:=tr++l }
 | [],_,tr=>by have:=Rd1.nil { c with trans:=tr }; simpa using this
 | t::l,h,tr=>by
   have h1:=OX { c with trans:=tr } st s hc hd t (h t az).1 (h t az).2
   have h2:=GI c st s hc hd l (fun x hx=>h x (aD _ hx)) (tr++[t])
   have:=h1.cons h2
   simpa using this
end Go.Proofs.YtpfidgnkokidoaaGreatDoor

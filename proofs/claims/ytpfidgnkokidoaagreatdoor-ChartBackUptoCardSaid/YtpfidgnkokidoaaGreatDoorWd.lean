/- Plain: numbers' texts, points' texts. Conditions: each theorem's own. Plain: a chart's text; what is told is read. Conditions: each theorem's own. -/
import Derived.Test.YtpfidgnkokidoaaGreatDoorShelfi
import Derived.Test.YtpfidgnkokidoaaGreatDoorMr
import Derived.Test.YtpfidgnkokidoaaGreatDoorXc
import Derived.Test.YtpfidgnkokidoaaGreatDoorWj
namespace Go.Proofs.YtpfidgnkokidoaaGreatDoor
open Go Go.Ev
set_option maxRecDepth 100000
/-! ### a number is told by the text that is read -/
variable {s:Str} {a:Int} {c:UInt8}
theorem om (h:isD c=true):48≤c.toNat∧c.toNat≤57:=by
 simp only [isD,ab,decide_eq_true_eq] at h; omega
theorem uX (h:isD c=true):UInt8.ofNat (48+(c.toNat - 48))=c:=by
 have:=om h
 apply gr.1
 rw [show 48+(c.toNat - 48)=c.toNat by omega]
 simp
theorem Jt (n:Nat):∀ l:List UInt8,l.length=n→l.all isD=true→l≠[]→(l.length=1∨(l.getD 0 0).toNat≠48)→Lib.decDigits (cT 0 l)=l:=by
 induction n with
 | zero=>intro l h _ hn; exact absurd (b5.1 h) hn
 | succ n ih =>
   intro l hl hd hn h0
   obtain ⟨r,c,rfl⟩:∃ r c,l=r++[c]:=⟨l.dropLast,l.getLast hn,(List.dropLast_concat_getLast hn).symm⟩
   rw [aR,ab] at hd
   have hc:isD c=true:=by simpa using hd.2
   have hcn:=om hc
   rw [nV]
   cases r with
   | nil =>
     have h9:c.toNat - 48<10:=by omega
     have e:10 * cT 0 []+(c.toNat - 48)=c.toNat - 48:=by show 10 * 0+(c.toNat - 48)=_; omega
     rw [e,Lib.decDigits_one h9,uX hc]; rfl
   | cons x r =>
     have hx:x.toNat≠48:=by
      rcases h0 with h0 | h0
      · simp at h0
      · simpa using h0
     have hxd:isD x=true:=by have:=hd.1; simp only [aF,ab] at this; exact this.1
     have hge:1≤cT 0 (x::r):=by
      have:=rV r (10 * 0+(x.toNat - 48))
      have h2:=om hxd
      show 1≤cT (10 * 0+(x.toNat - 48)) r
      omega
     have e:=ih (x::r) (by simp at hl ⊢; omega) hd.1 (by simp) (.inr (by simpa using hx))
     generalize cT 0 (x::r)=v at hge e ⊢
     rw [Lib.decDigits,dif_neg (by omega),show (10 * v+(c.toNat - 48)) / 10=v by omega,show (10 * v+(c.toNat - 48)) % 10=c.toNat - 48 by omega,e,uX hc]
theorem mz (h:(bg s).2=0):Lib.itoa (bg s).1=s∧-1099511627776≤(bg s).1∧(bg s).1≤1099511627776:=by
 have hf:fS s=false:=by
  cases hb:fS s
  · rfl
  · rw [bg,if_pos hb] at h; cases h
 rw [bg,if_neg (by rw [hf]; simp)] at h ⊢
 split at h
 · cases h
 · rename_i hv
   rw [if_neg hv]
   simp only [fS,aJ,cI,fG] at hf
   obtain ⟨⟨hne,hall⟩,h0⟩:=hf
   have hne':bC s [45]≠[]:=by simpa using hne
   have hL:af (bC s [45])=((bC s [45]).length:Int):=rfl
   have hlen:0<(bC s [45]).length:=gm.2 hne'
   have hdb:Lib.decDigits (cT 0 (bC s [45]))=bC s [45]:=by
    refine Jt _ _ rfl hall hne' ?_
    rcases h0 with h0 | h0
    · right; intro e; rw [e] at h0; simp at h0
    · left; have:=of_decide_eq_false h0.1; omega
   cases s with
   | nil=>rw [DG.1] at hne; simp at hne
   | cons c r =>
     by_cases hc:c=45
     · subst hc
       rw [(jf r).1] at hdb hv hlen h0 hL ⊢
       rw [(jf r).2] at h0 ⊢
       have hz:(((r.getD 0 0).toNat:Int)==48)=false:=by
        rcases h0 with h0 | h0
        · exact h0
        · simp at h0
       have hpos:0<cT 0 r:=by
        cases r with
        | nil=>simp at hlen
        | cons x q =>
          have h3:x.toNat≠48:=by intro e; simp [e] at hz
          have h4:=rV q (10 * 0+(x.toNat - 48))
          have h5:=om (c:=x) (by rw [(jf _).1] at hall; simp only [aF,ab] at hall; exact hall.1)
          show 0<cT (10 * 0+(x.toNat - 48)) q
          omega
       simp only [if_true]
       refine ⟨?_,by omega,by omega⟩
       unfold Lib.itoa
       rw [if_pos (by omega),show (-(cT 0 r:Int)).natAbs=cT 0 r by omega,hdb]
     · rw [(jq r hc).1] at hdb hv ⊢
       rw [(jq r hc).2]
       simp only [cC,if_false]
       refine ⟨?_,by omega,by omega⟩
       unfold Lib.itoa
       rw [if_neg (by omega),show ((cT 0 (c::r):Int)).toNat=cT 0 (c::r) by omega,hdb]
theorem G3 (h:isD c=true):lP c=false:=by
 have:=om h
 cases hb:lP c
 · rfl
 · simp only [lP,aH,beq_iff_eq] at hb
   rcases hb with rfl | rfl <;> simp at this
/-! ### a point's text in parts -/
theorem gT {n:Int} (h : -1099511627776≤n) (h':n≤1099511627776):dv (Lib.itoa n)=true∧aU (Lib.itoa n)=n:=by
 have hn:=pg n
 rw [if_neg (by omega)] at hn
 have hf:fS (Lib.itoa n)=false:=by
  cases hb:fS (Lib.itoa n)
  · rfl
  · rw [bg,if_pos hb] at hn; simp at hn
 rw [bg,if_neg (by rw [hf]; simp)] at hn
 split at hn
 · simp at hn
 · rename_i hv
   obtain ⟨g1,g2⟩:=nk hf
   have hok:dv (Lib.itoa n)=true:=by
    cases hb:dv (Lib.itoa n)
    · have:=g2 hb; omega
    · rfl
   refine ⟨hok,?_⟩
   rw [g1 hok]
   simpa using hn
theorem fw (h:pIn a=true) : -1048576≤a∧a≤1048576:=by
 simp only [pIn,ab,decide_eq_true_eq] at h; exact h
theorem hP (h:pIn a=true):(Lib.itoa a).length≤8∧0<(Lib.itoa a).length:=by
 have:=fw h
 unfold Lib.itoa
 split
 · have h1:=ud 6 a.natAbs (by omega)
   simp only [ah]; omega
 · have h1:=ud 6 a.toNat (by omega)
   have h2:=(gg a.toNat).2.1
   exact ⟨by omega,gm.2 h2⟩
theorem F9 (a b:Int):∃ c d,lP c=true∧d.all isD=true∧db a b=Lib.itoa a++c::(d++[105])∧d=Lib.decDigits b.natAbs∧(b<0→c=45∧Lib.itoa b=45::d)∧(¬b<0→c=43∧Lib.itoa b=d):=by
 by_cases hb:b<0
 · refine ⟨45,Lib.decDigits b.natAbs,by decide,(gg _).1,?_,rfl,fun _=>⟨rfl,by unfold Lib.itoa; rw [if_pos hb]⟩,fun h=>absurd hb h⟩
   show Lib.itoa a++(if b<0 then [] else [43])++Lib.itoa b++[105]=_
   rw [if_pos hb,show Lib.itoa b=45::Lib.decDigits b.natAbs by unfold Lib.itoa; rw [if_pos hb]]; simp
 · have e:b.natAbs=b.toNat:=by omega
   refine ⟨43,Lib.decDigits b.natAbs,by decide,(gg _).1,?_,rfl,fun h=>absurd h hb,fun _=>⟨rfl,by unfold Lib.itoa; rw [if_neg hb,e]⟩⟩
   show Lib.itoa a++(if b<0 then [] else [43])++Lib.itoa b++[105]=_
   rw [if_neg hb,show Lib.itoa b=Lib.decDigits b.natAbs by unfold Lib.itoa; rw [if_neg hb,e]]; simp
theorem nJ {b:Int} (h:oW s (a,b)):aK s=((Lib.itoa a).length:Int)∧s.length≤20∧0<(Lib.itoa a).length∧s.take (Lib.itoa a).length=Lib.itoa a∧Lib.trimPrefix (Lib.trimSuffix (s.drop (Lib.itoa a).length) [105]) [43]=Lib.itoa b:=by
 obtain ⟨ha,hb,hs⟩:=h
 have ha:pIn a=true:=ha
 have hb:pIn b=true:=hb
 obtain ⟨c,d,hc,hd,e,ed,h1,h2⟩:=F9 a b
 have hs':s=Lib.itoa a++c::(d++[105]):=by rw [← e]; exact hs.symm
 have hla:=hP ha
 have hlb:=hP hb
 subst hs'
 have hdl:d.length≤8:=by
  by_cases hn:b<0
  · have:=congrArg List.length (h1 hn).2; simp at this; omega
  · have:=congrArg List.length (h2 hn).2; omega
 have hsuf:Lib.trimSuffix (c::(d++[105])) [105]=c::d:=by
  have hh:Lib.hasSuffix (c::(d++[105])) [105]=true:=by
   unfold Lib.hasSuffix; rw [List.isSuffixOf_iff_suffix]; exact ⟨c::d,by simp⟩
  unfold Lib.trimSuffix
  rw [if_pos hh]
  have:c::(d++[105])=(c::d)++[105]:=by simp
  rw [this,List.take_left' (by simp)]
 refine ⟨Ga hc fun x hx=>?_,by simp; omega,hla.2,eY,?_⟩
 · rcases bb.1 hx with hx | hx
   · exact G3 (al.1 hd x hx)
   · simp only [aW] at hx; subst hx; rfl
 · rw [ew,hsuf]
   by_cases hn:b<0
   · obtain ⟨rfl,e2⟩:=h1 hn
     rw [e2]; rfl
   · obtain ⟨rfl,e2⟩:=h2 hn
     rw [e2]; rfl
end Go.Proofs.YtpfidgnkokidoaaGreatDoor
namespace Go.Proofs.YtpfidgnkokidoaaGreatDoor
open Go Go.Ev
set_option maxRecDepth 100000
def orS (s:Str):Str:=if s=[] then dash else s
def bN (l:List Cell):Str:=if cS l=true then fD l else []
def aV (l:List Deed):Str:=if dA l=true then gD l else []
variable (c:Chart) (st:List Ev.Stat) {w:Str} {a b:Int} (d k:Int) {l:List Deed} (ls:List (Nat×List Str)) (n:Int) (s:Ev.Stat) (t:Tran) (v:Var)
def jd:Str:=if k=1 then mU else if k=2 then tA else if k=3 then oZ else if k=4 then my else if k=5 then jX else oV
def hG:List Str :=
 if v.kind=2 then [jP,v.name,if v.init.a=1 then fp else fY]
 else if v.kind=3 then [jL,v.name,Lib.itoa v.lo,Lib.itoa v.hi,db v.init.a v.init.b]
 else [nZ,v.name,Lib.itoa v.lo,Lib.itoa v.hi,Lib.itoa v.init.a]
def iM:List Str:=jd s.kind::s.name::(if s.initial=[] then [] else [s.initial])
def la:List Str:=[wOn,orS t.event,orS (bN t.guard),orS t.dst,orS (aV t.acts)]
def dX (d:Nat) (w:Str) (l:List Deed):List (Nat×List Str):=if l=[] then [] else [(d+1,[w,aV l])]
def gL (i:Nat) (s :  Ev.Stat):List (Nat×List Str) :=
 (s.depth.toNat,iM s)::(dX s.depth.toNat iz s.entry++(dX s.depth.toNat jc s.leave++(c.trans.filter fun t=>t.src==(i:Int)).map fun t=>(s.depth.toNat+1,la t)))
def dC (n:Nat):List (Nat×List Str):=(List.range n).flatMap fun i=>gL c i (ETy.get .stat c.states i)
def iT:List (Nat×List Str):=(0,[iy,c.name])::(c.events.map (fun e=>(0,[gx,e]))++(c.vars.map (fun v=>(0,hG v))++dC c c.states.length))
def gz (l:Nat×List Str):Str:=dY l.1++cr l.2
def cO:Str:=ls.flatMap fun l=>gz l++[10]
def dx:Str:=cO (iT c)
/-! which charts are read out of texts -/
def lT:Bool:=decide (-1099511627776≤n)&&decide (n≤1099511627776)
def ja:Bool:=aP v.name&&(bif v.kind==1 then lT v.lo&&(lT v.hi&&(v.init.kind==1&&(lT v.init.a&&v.init.b==0))) else bif v.kind==2 then v.lo==0&&(v.hi==1&&(v.init.kind==2&&((v.init.a==0||v.init.a==1)&&v.init.b==0))) else v.kind==3&&(lT v.lo&&(lT v.hi&&(v.init.kind==3&&(pIn v.init.a&&pIn v.init.b)))))
def jz (l:List Deed):Bool:=l.isEmpty||dA l
def qt:Bool:=k==2||(k==5||k==6)
def fj:Bool:=decide (1≤s.kind)&&(decide (s.kind≤6)&&(aP s.name&&(decide (0≤s.depth)&&((bif qt s.kind then aP s.initial else s.initial==[])&&(jz s.entry&&jz s.leave)))))
def dw:Int→List Ev.Stat→Bool
 | _,[]=>true
 | m,s::r=>decide (s.depth≤m)&&dw (s.depth+1) r
def gG (n:Nat) (t:Tran):Bool:=decide (0≤t.src)&&(decide (t.src<n)&&((t.event==[]||cA t.event)&&((t.guard.isEmpty||cS t.guard)&&((t.dst==[]||aP t.dst)&&jz t.acts))))
structure WfC (c:Chart):Prop where
 name:aP c.name=true
 events:c.events.all aP=true
 vars:c.vars.all ja=true
 states:c.states.all fj=true
 depths:dw 0 c.states=true
 trans:c.trans.all (gG c.states.length)=true
 sorted:c.trans.Pairwise fun t u=>t.src≤u.src
/-! ### words that may stand in a line -/
theorem tH {c:UInt8} (h:gb c=true):fg c=true:=by
 simp only [gb,ab,decide_eq_true_eq] at h
 simp only [fg,ab,decide_eq_true_eq]; omega
theorem kN (h0:w≠[]) (h:w.all gb=true):bK w=true:=by
 simp only [bK,ab,aD,beq_eq_false_iff_ne]
 exact ⟨h0,ij h fun _=>tH⟩
theorem dc (h:aP w=true):bK w=true:=by
 obtain ⟨c,r,e,_⟩:=(fF h).2.2.2.2.2.2.1
 exact kN (by rw [e]; simp) (kM h)
theorem Aj (h:cA w=true):w≠[]:=by
 rintro rfl; exact absurd h (by decide)
theorem sI (h:cA w=true):bK w=true:=kN (Aj h) (yg h)
theorem lV:bK (Lib.itoa n)=true:=by
 unfold Lib.itoa
 split
 · refine kN (by simp) ?_
   rw [aF,ij (gg n.natAbs).1 fun _=>oe]; decide
 · exact kN (gg n.toNat).2.1 (ij (gg n.toNat).1 fun _=>oe)
theorem xb:(Lib.itoa n).all gb=true:=by
 unfold Lib.itoa
 split
 · rw [aF,ij (gg n.natAbs).1 fun _=>oe]; decide
 · exact ij (gg n.toNat).1 fun _=>oe
theorem sM (a b:Int):bK (db a b)=true:=by
 refine kN (by unfold db; simp) ?_
 have h:(if b<0 then [] else [43]:Str).all gb=true:=by split <;> decide
 unfold db
 rw [aR,aR,aR,xb,xb,h]; decide
theorem wv {l:List Cell} (h:cS l=true):fD l≠[]:=by
 obtain ⟨_,t,ht,hf⟩:=mL h
 rw [← hf,jt ht]
 obtain ⟨c,r,e,_⟩:=(na ht).1
 rw [e]; simp
theorem ui {l:List Cell} (h:cS l=true):bK (fD l)=true:=kN (wv h) (BZ h)
theorem JF {d:Deed} (h:cB d=true):eI d≠[]:=by
 unfold eI
 cases h1:d.kind==1
 · cases d.kind==2
   · simp [c7]
   · simp [b7]
 · simp
theorem p8:∀ (r:List Str),(∀ x∈r,x.all fg=true)→(Lib.joinTail [59] r).all fg=true
 | [],_=>rfl
 | x::r,h=>by
   have e:Lib.joinTail [59] (x::r)=59::(x++Lib.joinTail [59] r):=by simp [Lib.joinTail]
   rw [e,aF,aR,h x aA,p8 r fun y hy=>h y (aE _ hy)]; decide
theorem kZ (h:dA l=true):bK (gD l)=true:=by
 obtain ⟨h1,h2,_⟩:=jN h
 cases l with
 | nil=>simp at h2
 | cons d r =>
   have e:gD (d::r)=eI d++Lib.joinTail [59] (r.map eI):=by
    show Lib.join (eI d::r.map eI) [59]=_; rw [Lib.join_cons]
   have hd:=h1 d aA
   rw [e]
   simp only [bK,ab,aD,beq_eq_false_iff_ne]
   refine ⟨by simp [JF hd],?_⟩
   rw [aR,ij (ql hd) fun _=>tH,p8 _ fun x hx=>?_]
   · rfl
   · obtain ⟨y,hy,rfl⟩:=ba.1 hx
     exact ij (ql (h1 y (aE _ hy))) fun _=>tH
theorem jv {s:Str} (h:s≠[]→bK s=true):bK (orS s)=true:=by
 unfold orS; split
 · decide
 · rename_i hs; exact h hs
/-! ### lines told, and read -/
theorem Fw {c:Chart} {k:Nat} (hk:k≠0) {d:Nat} {w:Str} {r:List Str} (h:(w::r).all bK=true):dR c k (gz (d,w::r))=cu c (d:Nat) w r:=by
 obtain ⟨h1,h2⟩:=uJ d (by simp) h
 have e1:bF (gz (d,w::r))=d:=h1
 have e2:bq (gz (d,w::r))=w::r:=h2
 have hok:gW (gz (d,w::r))=true:=by unfold gW; rw [e2]; exact h
 rw [dR,if_pos hok,if_neg hk,e1,e2]; rfl
def Rd1 (c':Chart):Prop:=∀ k,k≠0→dO c k (ls.map gz)=(c',none)
theorem Rd1.nil:Rd1 c [] c:=fun _ _=>rfl
theorem Rd1.app {a b:List (Nat×List Str)} {c c' c'':Chart} (h:Rd1 c a c') (h':Rd1 c' b c''):Rd1 c (a++b) c'':=by
 intro k hk
 rw [cm,pV,h k hk]
 exact h' _ (by omega)
theorem Rd1.one {d:Nat} {w:Str} {r:List Str} {c c':Chart} (h:(w::r).all bK=true) (e:cu c (d:Nat) w r=some c'):Rd1 c [(d,w::r)] c':=by
 intro k hk
 simp only [aw,bI,dO,Fw hk h,e]
theorem Rd1.cons {x:Nat×List Str} {b:List (Nat×List Str)} {c c' c'':Chart} (h:Rd1 c [x] c') (h':Rd1 c' b c''):Rd1 c (x::b) c'':=Rd1.app (a:=[x]) h h'
theorem oB {c:Chart} {d:Int} {w:Str} {r:List Str} {n:Int} (hd:d=0) (hs:c.states=[]) (hw:aP w=true) (hn:n=((r.length+1:Nat):Int)):eK c d (w::r) n=true:=by
 subst hd; subst hn
 have h0:ETy.get .str (w::r) 0=w:=rfl
 unfold eK
 rw [hs,h0,hw]
 simp
theorem xX (c:Chart) (hs:c.states=[]):∀ (l:List Str),l.all aP=true→Rd1 c (l.map fun e=>(0,[gx,e])) { c with events:=c.events++l }
 | [],_=>by have:=Rd1.nil c; simpa using this
 | e::l,h=>by
   simp only [aF,ab] at h
   have h1:Rd1 c [(0,[gx,e])] { c with events:=c.events++[e] }:=by
    refine Rd1.one (by simp only [aF,dc h.1]; decide) ?_
    rw [cu,if_pos rfl,jH,if_pos (show eK c ((0:Nat):Int) [e] 1=true from oB rfl hs h.1 rfl)]; rfl
   have h2:=xX { c with events:=c.events++[e] } hs l h.2
   have:=h1.cons h2
   simpa using this
theorem jJ {n:Int} (h:lT n=true):bg (Lib.itoa n)=(n,0):=by
 simp only [lT,ab,decide_eq_true_eq] at h
 rw [pg,if_neg (by omega)]
theorem qz {x y:Int} (h1:pIn a=true) (h2:pIn b=true) (h3:pIn x=true) (h4:pIn y=true) (h:db a b=db x y):a=x∧b=y:=by
 have f1:=nJ (s:=db a b) (a:=a) (b:=b) ⟨h1,h2,rfl⟩
 have f2:=nJ (s:=db a b) (a:=x) (b:=y) ⟨h3,h4,h.symm⟩
 have hl:(Lib.itoa a).length=(Lib.itoa x).length:=by have:=f1.1.symm.trans f2.1; omega
 have e1:Lib.itoa a=Lib.itoa x:=by rw [← f1.2.2.2.1,← f2.2.2.2.1,hl]
 have e2:Lib.itoa b=Lib.itoa y:=by rw [← f1.2.2.2.2,← f2.2.2.2.2,hl]
 have p1:=fw h1; have p2:=fw h2; have p3:=fw h3; have p4:=fw h4
 have g1:=(gT (n:=a) (by omega) (by omega)).2
 have g2:=(gT (n:=x) (by omega) (by omega)).2
 have g3:=(gT (n:=b) (by omega) (by omega)).2
 have g4:=(gT (n:=y) (by omega) (by omega)).2
 rw [e1] at g1; rw [e2] at g3
 exact ⟨g1.symm.trans g2,g3.symm.trans g4⟩
theorem F1 (h1:pIn a=true) (h2:pIn b=true):fB (db a b)∧ptA (db a b)=a∧ptB (db a b)=b:=by
 have hr:fB (db a b):=⟨(a,b),h1,h2,rfl⟩
 obtain ⟨g1,g2,g3⟩:=kA hr
 have:=qz g1 g2 h1 h2 g3
 exact ⟨hr,this.1,this.2⟩
theorem Ou (hs:c.states=[]) (v:Var) (h:ja v=true):Rd1 c [(0,hG v)] { c with vars:=c.vars++[v] }:=by
 obtain ⟨nm,k,lo,hi,⟨ik,ia,ib⟩⟩:=v
 simp only [ja,ab] at h
 obtain ⟨hn,h⟩:=h
 by_cases h2:k=2
 · subst h2
   simp only [show ((2:Int)==1)=false from rfl,show ((2:Int)==2)=true from rfl,cond_false,cond_true,ab,beq_iff_eq,aH] at h
   obtain ⟨rfl,rfl,rfl,h3,rfl⟩:=h
   rcases h3 with rfl | rfl
   · refine Rd1.one (d:=0) (w:=jP) (r:=[nm,fY]) (by simp only [aF,dc hn]; decide) ?_
     rw [cu,if_neg (by decide),if_neg (by decide),if_pos rfl,kB,if_pos ⟨oB rfl hs hn rfl,.inr rfl⟩]; rfl
   · refine Rd1.one (d:=0) (w:=jP) (r:=[nm,fp]) (by simp only [aF,dc hn]; decide) ?_
     rw [cu,if_neg (by decide),if_neg (by decide),if_pos rfl,kB,if_pos ⟨oB rfl hs hn rfl,.inl rfl⟩]; rfl
 · by_cases h3:k=3
   · subst h3
     simp only [show ((3:Int)==1)=false from rfl,show ((3:Int)==2)=false from rfl,cond_false,ab,beq_iff_eq] at h
     obtain ⟨_,hlo,hhi,rfl,ha,hb⟩:=h
     obtain ⟨g1,g2,g3⟩:=F1 ha hb
     refine Rd1.one (d:=0) (w:=jL) (r:=[nm,Lib.itoa lo,Lib.itoa hi,db ia ib]) (by simp only [aF,dc hn,lV,sM]; decide) ?_
     rw [cu,if_neg (by decide),if_neg (by decide),if_neg (by decide),if_pos rfl,jj,if_pos ⟨oB rfl hs hn rfl,by show (bg (Lib.itoa lo)).2=0; rw [jJ hlo],by show (bg (Lib.itoa hi)).2=0; rw [jJ hhi],g1⟩]
     show some { c with vars:=c.vars++[(⟨nm,3,(bg (Lib.itoa lo)).1,(bg (Lib.itoa hi)).1,⟨3,ptA (db ia ib),ptB (db ia ib)⟩⟩:Var)] }=_
     rw [jJ hlo,jJ hhi,g2,g3]
   · have h1:k=1:=by
      cases hk:k==1
      · rw [hk,show (k==2)=false by simpa using h2] at h
        simp only [cond_false,ab,beq_iff_eq] at h
        exact absurd h.1 h3
      · simpa using hk
     subst h1
     simp only [show ((1:Int)==1)=true from rfl,cond_true,ab,beq_iff_eq] at h
     obtain ⟨hlo,hhi,rfl,ha,rfl⟩:=h
     refine Rd1.one (d:=0) (w:=nZ) (r:=[nm,Lib.itoa lo,Lib.itoa hi,Lib.itoa ia]) (by simp only [aF,dc hn,lV]; decide) ?_
     rw [cu,if_neg (by decide),if_pos rfl,nG,if_pos ⟨oB rfl hs hn rfl,by show (bg (Lib.itoa lo)).2=0; rw [jJ hlo],by show (bg (Lib.itoa hi)).2=0; rw [jJ hhi],by show (bg (Lib.itoa ia)).2=0; rw [jJ ha]⟩]
     show some { c with vars:=c.vars++[(⟨nm,1,(bg (Lib.itoa lo)).1,(bg (Lib.itoa hi)).1,⟨1,(bg (Lib.itoa ia)).1,0⟩⟩:Var)] }=_
     rw [jJ hlo,jJ hhi,jJ ha]
theorem Dy (c:Chart) (hs:c.states=[]):∀ (l:List Var),l.all ja=true→Rd1 c (l.map fun v=>(0,hG v)) { c with vars:=c.vars++l }
 | [],_=>by have:=Rd1.nil c; simpa using this
 | v::l,h=>by
   simp only [aF,ab] at h
   have h1:=Ou c hs v h.1
   have h2:=Dy { c with vars:=c.vars++[v] } hs l h.2
   have:=h1.cons h2
   simpa using this
/-! ### states -/
theorem nC (h:jz l=true):l=[]∨dA l=true:=by
 simp only [jz,aH,List.isEmpty_iff] at h; exact h
theorem iW (h:dA l=true):aZ (aV l)∧(aM (aV l)).1=l∧bK (aV l)=true:=by
 have e:aV l=gD l:=by unfold aV; rw [if_pos h]
 have hb:=uS h
 rw [e]
 exact ⟨by show (aM (gD l)).2=0; rw [hb],by rw [hb],kZ h⟩
theorem nN {l:List Cell} (h:cS l=true):cz (bN l)∧(aS (bN l)).1=l∧bK (bN l)=true:=by
 have e:bN l=fD l:=by unfold bN; rw [if_pos h]
 have hb:=pq h
 rw [e]
 exact ⟨by show (aS (fD l)).2.2=0; rw [hb],by rw [hb],ui h⟩
theorem tG (h:dA l=true):l≠[]:=by
 rintro rfl; exact absurd (jN h).2.1 (by simp)
theorem wO:aP dash=false∧cA dash=false:=by decide
theorem nK:bK (jd k)=true:=by
 unfold jd
 repeat' split
 all_goals decide
theorem xt {c:Chart} {d k:Int} {w:List Str} (h1:1≤k) (h6:k≤6):cu c d (jd k) w=aN k (bif qt k then 2 else 1) c d w:=by
 have:k=1∨k=2∨k=3∨k=4∨k=5∨k=6:=by omega
 rcases this with rfl | rfl | rfl | rfl | rfl | rfl
 · show cu c d mU w=_
   rw [cu,if_neg (by decide),if_neg (by decide),if_neg (by decide),if_neg (by decide),if_pos rfl]; rfl
 · show cu c d tA w=_
   rw [cu,if_neg (by decide),if_neg (by decide),if_neg (by decide),if_neg (by decide),if_neg (by decide),if_neg (by decide),if_neg (by decide),if_pos rfl]; rfl
 · show cu c d oZ w=_
   rw [cu,if_neg (by decide),if_neg (by decide),if_neg (by decide),if_neg (by decide),if_neg (by decide),if_pos rfl]; rfl
 · show cu c d my w=_
   rw [cu,if_neg (by decide),if_neg (by decide),if_neg (by decide),if_neg (by decide),if_neg (by decide),if_neg (by decide),if_pos rfl]; rfl
 · show cu c d jX w=_
   rw [cu,if_neg (by decide),if_neg (by decide),if_neg (by decide),if_neg (by decide),if_neg (by decide),if_neg (by decide),if_neg (by decide),if_neg (by decide),if_pos rfl]; rfl
 · show cu c d oV w=_
   rw [cu,if_neg (by decide),if_neg (by decide),if_neg (by decide),if_neg (by decide),if_neg (by decide),if_neg (by decide),if_neg (by decide),if_neg (by decide),if_neg (by decide),if_pos rfl]; rfl
theorem Eo (w:List Str):cu c d iz w=ix c d w:=by
 rw [cu,if_neg (by decide),if_neg (by decide),if_neg (by decide),if_neg (by decide),if_neg (by decide),if_neg (by decide),if_neg (by decide),if_neg (by decide),if_neg (by decide),if_neg (by decide),if_pos rfl]
theorem Gs (w:List Str):cu c d jc w=jC c d w:=by
 rw [cu,if_neg (by decide),if_neg (by decide),if_neg (by decide),if_neg (by decide),if_neg (by decide),if_neg (by decide),if_neg (by decide),if_neg (by decide),if_neg (by decide),if_neg (by decide),if_neg (by decide),if_pos rfl]
theorem Mj (w:List Str):cu c d wOn w=onC c d w:=by
 rw [cu,if_neg (by decide),if_neg (by decide),if_neg (by decide),if_neg (by decide),if_neg (by decide),if_neg (by decide),if_neg (by decide),if_neg (by decide),if_neg (by decide),if_neg (by decide),if_neg (by decide),if_neg (by decide),if_pos rfl]
theorem NC (hs:fj s=true) (hr:s.depth≤jb c):Rd1 c [(s.depth.toNat,iM s)] { c with states:=c.states++[{ s with entry:=[],leave:=[] }] }:=by
 obtain ⟨nm,k,d,ini,en,le⟩:=s
 simp only [fj,ab,decide_eq_true_eq] at hs
 obtain ⟨h1,h6,hn,hd,hi,_⟩:=hs
 have hd':((d.toNat:Nat):Int)=d:=Int.toNat_of_nonneg hd
 cases h2:qt k
 · rw [h2,cond_false,beq_iff_eq] at hi
   subst hi
   refine Rd1.one (d:=d.toNat) (w:=jd k) (r:=[nm]) (by simp only [aF,nK,dc hn]; rfl) ?_
   rw [xt h1 h6,h2,hd',cond_false,aN,if_pos ⟨hr,rfl,hn,hn⟩]; rfl
 · rw [h2,cond_true] at hi
   have hne:ini≠[]:=by rintro rfl; exact absurd hi (by decide)
   have e:iM ⟨nm,k,d,ini,en,le⟩=[jd k,nm,ini]:=by show jd k::nm::(if ini=[] then [] else [ini])=_; rw [if_neg hne]
   rw [e]
   refine Rd1.one (d:=d.toNat) (w:=jd k) (r:=[nm,ini]) (by simp only [aF,nK,dc hn,dc hi]; rfl) ?_
   rw [xt h1 h6,h2,hd',cond_true,aN,if_pos ⟨hr,rfl,hn,hi⟩]; rfl
theorem mS {l:List Ev.Stat} {s :  Ev.Stat}:(l++[s]).getLast?=some s∧(l++[s]).dropLast=l:=by simp
theorem KV (hc:c.states=st++[s]) (hd:0≤s.depth) (l:List Deed) (h:jz l=true) (he:s.entry=[]):Rd1 c (dX s.depth.toNat iz l) { c with states:=st++[{ s with entry:=l }] }:=by
 unfold dX
 rcases nC h with rfl | hb
 · rw [if_pos rfl]
   have e:({ s with entry:=[] } :  Ev.Stat)=s:=by rw [← he]
   rw [e,← hc]; exact Rd1.nil c
 · obtain ⟨g1,g2,g3⟩:=iW hb
   rw [if_neg (tG hb)]
   refine Rd1.one (by simp only [aF,g3]; decide) ?_
   rw [Eo,ix,hc,mS.1,mS.2]
   simp only
   rw [if_pos ⟨by omega,rfl,he,g1⟩]
   show some { c with states:=st++[{ s with entry:=(aM (aV l)).1 }] }=_
   rw [g2]
theorem La (hc:c.states=st++[s]) (hd:0≤s.depth) (l:List Deed) (h:jz l=true) (he:s.leave=[]):Rd1 c (dX s.depth.toNat jc l) { c with states:=st++[{ s with leave:=l }] }:=by
 unfold dX
 rcases nC h with rfl | hb
 · rw [if_pos rfl]
   have e:({ s with leave:=[] } :  Ev.Stat)=s:=by rw [← he]
   rw [e,← hc]; exact Rd1.nil c
 · obtain ⟨g1,g2,g3⟩:=iW hb
   rw [if_neg (tG hb)]
   refine Rd1.one (by simp only [aF,g3]; decide) ?_
   rw [Gs,jC,hc,mS.1,mS.2]
   simp only
   rw [if_pos ⟨by omega,rfl,he,g1⟩]
   show some { c with states:=st++[{ s with leave:=(aM (aV l)).1 }] }=_
   rw [g2]
theorem rX {s:Str} (h:s≠[]→s≠dash):(orS s=dash↔s=[])∧(s≠[]→orS s=s):=by
 unfold orS
 by_cases hs:s=[]
 · rw [if_pos hs]; exact ⟨⟨fun _=>hs,fun _=>rfl⟩,fun h=>absurd hs h⟩
 · rw [if_neg hs]; exact ⟨⟨fun e=>absurd e (h hs),fun e=>absurd e hs⟩,fun _=>rfl⟩
theorem HA {l:List Cell} (h:cS l=true):fD l≠dash:=by
 intro e
 have hb:=pq h
 rw [e] at hb
 obtain ⟨_,t,ht,hf⟩:=mL h
 have e2:t.body=dash:=by rw [← jt ht,hf,e]
 have h3:af t.body=1:=by rw [e2]; rfl
 have h4:∀ t:Tm,t.ok→af t.body=1→∃ c,t = .leaf c:=by
  intro t ht h
  cases t with
  | leaf c=>exact ⟨c,rfl⟩
  | un c t =>
    exfalso
    have hne:1≤af t.body:=by
     obtain ⟨x,r,e,_⟩:=(na ht.2).1
     rw [e]; show (1:Int)≤((x::r:Str).length:Int); simp only [ah]; omega
    have hb:(Tm.un c t).body=unS c.op t.body t.pow:=rfl
    rw [hb] at h
    rcases sf ht.1 with e | e | e | e <;> rw [e] at h
    · have h2:af (unS 7 t.body t.pow)=1+af (cj t.pow t.body 6):=by show af ((ax 7).1++cj t.pow t.body 6)=_; rw [cc]; rfl
      have h3:1≤af (cj t.pow t.body 6):=by
       unfold cj
       cases decide (t.pow<6)
       · exact hne
       · simp only [cond_true,cc]; have:af [40]=1:=rfl; have:af [41]=1:=rfl; omega
      have h5:af (unS 7 t.body t.pow)=1:=h
      omega
    · have h2:af (unS 8 t.body t.pow)=1+af (cj t.pow t.body 6):=by show af ((ax 8).1++cj t.pow t.body 6)=_; rw [cc]; rfl
      have h3:1≤af (cj t.pow t.body 6):=by
       unfold cj
       cases decide (t.pow<6)
       · exact hne
       · simp only [cond_true,cc]; have:af [40]=1:=rfl; have:af [41]=1:=rfl; omega
      have h5:af (unS 8 t.body t.pow)=1:=h
      omega
    · have h2:af (unS 9 t.body t.pow)=3+af t.body+1:=by show af ([114,101,40]++t.body++[41])=_; rw [cc,cc]; rfl
      have h5:af (unS 9 t.body t.pow)=1:=h
      omega
    · have h2:af (unS 10 t.body t.pow)=3+af t.body+1:=by show af ([105,109,40]++t.body++[41])=_; rw [cc,cc]; rfl
      have h5:af (unS 10 t.body t.pow)=1:=h
      omega
  | bin c t u =>
    exfalso
    obtain ⟨x,r,e,_⟩:=(na ht.2.1).2 (gC (ax c.op).2)
    obtain ⟨y,q,e',_⟩:=(na ht.2.2).2 ((ax c.op).2+1)
    have hb:(Tm.bin c t u).body=t.tin (gC (ax c.op).2)++(ax c.op).1++u.tin ((ax c.op).2+1):=rfl
    rw [hb,e,e',cc,cc] at h
    have h1:af (x::r)=1+(r.length:Int):=by show ((x::r:Str).length:Int)=_; simp only [ah]; omega
    have h2:af (y::q)=1+(q.length:Int):=by show ((y::q:Str).length:Int)=_; simp only [ah]; omega
    have h3:0≤af (ax c.op).1:=eG _
    omega
 obtain ⟨c,rfl⟩:=h4 t ht h3
 have h5:fq c=dash:=e2
 rcases gp ht with ⟨a,rfl,h0,_⟩ | ⟨a,rfl,h0,_⟩ | rfl | rfl | ⟨n,rfl,hn⟩ | ⟨n,rfl,hn⟩
 · have h6:Lib.itoa a=dash:=h5
   rw [jo h0] at h6
   have:=(gg a.toNat).1
   rw [h6] at this; exact absurd this (by decide)
 · have h6:Lib.itoa a++[105]=dash:=h5
   have:=congrArg List.getLast? h6
   simp [dash] at this
 · exact absurd h5 (by decide)
 · exact absurd h5 (by decide)
 · have h6:n=dash:=h5
   rw [h6,wO.1] at hn; cases hn
 · have h6:[105,110,40]++n++[41]=dash:=h5
   have:=congrArg List.length h6
   simp [dash] at this
theorem En (h:dA l=true):gD l≠dash:=by
 intro e
 have hb:=uS h
 rw [e] at hb
 have h2:(aM dash).2=1:=by
  have hp:bf [] dash=[dash]:=by decide
  rw [mc (by decide) (by rw [hp]; decide),hp]
  have h3:ft dash=none:=by
   rw [ft,if_neg (by decide),if_neg (by decide),if_neg]
   intro h; exact absurd h.1 (by decide)
  simp only [readAll,h3]
 rw [hb] at h2
 have h5:(0:Int)=1:=h2
 exact absurd h5 (by decide)
theorem Pv (hc:c.states=st++[s]) (hd:0≤s.depth) (t:Tran) (h:gG (st.length+1) t=true) (hsrc:t.src=(st.length:Int)):Rd1 c [(s.depth.toNat+1,la t)] { c with trans:=c.trans++[t] }:=by
 obtain ⟨src,ev,gd,dst,ac⟩:=t
 simp only [gG,ab,aH,beq_iff_eq,List.isEmpty_iff,decide_eq_true_eq] at h
 obtain ⟨_,_,he,hg,ht,ha⟩:=h
 have ha':=nC ha
 have e1:(orS ev=dash↔ev=[])∧(ev≠[]→orS ev=ev):=rX fun hn e=>by rcases he with he | he; exact hn he; rw [e,wO.2] at he; cases he
 have e3:(orS dst=dash↔dst=[])∧(dst≠[]→orS dst=dst):=rX fun hn e=>by rcases ht with ht | ht; exact hn ht; rw [e,wO.1] at ht; cases ht
 have g0:bN gd=[]↔gd=[]:=by
  constructor
  · intro e
    rcases hg with hg | hg
    · exact hg
    · unfold bN at e; rw [if_pos hg] at e; exact absurd e (wv hg)
  · rintro rfl; rfl
 have b0:aV ac=[]↔ac=[]:=by
  constructor
  · intro e
    rcases ha' with ha' | ha'
    · exact ha'
    · unfold aV at e; rw [if_pos ha'] at e
      have:=kZ ha'; rw [e] at this; exact absurd this (by decide)
  · rintro rfl; rfl
 have e2:(orS (bN gd)=dash↔bN gd=[])∧(bN gd≠[]→orS (bN gd)=bN gd):=rX fun hn e=>by
  have hr:cS gd=true:=by rcases hg with hg | hg; exact absurd (g0.2 hg) hn; exact hg
  unfold bN at e; rw [if_pos hr] at e; exact HA hr e
 have e4:(orS (aV ac)=dash↔aV ac=[])∧(aV ac≠[]→orS (aV ac)=aV ac):=rX fun hn e=>by
  have hr:dA ac=true:=by rcases ha' with hg | hg; exact absurd (b0.2 hg) hn; exact hg
  unfold aV at e; rw [if_pos hr] at e; exact En hr e
 have v1:bK (orS ev)=true:=jv fun hn=>sI (he.resolve_left hn)
 have v2:bK (orS (bN gd))=true:=jv fun hn=>(nN (hg.resolve_left fun e=>hn (g0.2 e))).2.2
 have v3:bK (orS dst)=true:=jv fun hn=>dc (ht.resolve_left hn)
 have v4:bK (orS (aV ac))=true:=jv fun hn=>(iW (ha'.resolve_left fun e=>hn (b0.2 e))).2.2
 refine Rd1.one (d:=s.depth.toNat+1) (w:=wOn) (r:=[orS ev,orS (bN gd),orS dst,orS (aV ac)]) (by simp only [aF,v1,v2,v3,v4]; decide) ?_
 have hown:dJ c ((s.depth.toNat+1:Nat):Int)=true:=by
  rw [dJ,hc,mS.1]; simp only [beq_iff_eq]; omega
 have w1:orS ev=dash∨cA (orS ev)=true:=by
  by_cases hn:ev=[]
  · exact .inl (e1.1.2 hn)
  · rw [e1.2 hn]; exact .inr (he.resolve_left hn)
 have w2:orS (bN gd)=dash∨cz (orS (bN gd)):=by
  by_cases hn:gd=[]
  · exact .inl (e2.1.2 (g0.2 hn))
  · rw [e2.2 fun e=>hn (g0.1 e)]; exact .inr (nN (hg.resolve_left hn)).1
 have w3:orS dst=dash∨aP (orS dst)=true:=by
  by_cases hn:dst=[]
  · exact .inl (e3.1.2 hn)
  · rw [e3.2 hn]; exact .inr (ht.resolve_left hn)
 have w4:orS (aV ac)=dash∨aZ (orS (aV ac)):=by
  by_cases hn:ac=[]
  · exact .inl (e4.1.2 (b0.2 hn))
  · rw [e4.2 fun e=>hn (b0.1 e)]; exact .inr (iW (ha'.resolve_left hn)).1
 have r1:(if orS ev=dash then [] else orS ev)=ev:=by
  by_cases hn:ev=[]
  · rw [if_pos (e1.1.2 hn),hn]
  · rw [if_neg fun e=>hn (e1.1.1 e),e1.2 hn]
 have r2:(if orS (bN gd)=dash then [] else (aS (orS (bN gd))).1)=gd:=by
  by_cases hn:gd=[]
  · rw [if_pos (e2.1.2 (g0.2 hn)),hn]
  · rw [if_neg fun e=>hn (g0.1 (e2.1.1 e)),e2.2 fun e=>hn (g0.1 e),(nN (hg.resolve_left hn)).2.1]
 have r3:(if orS dst=dash then [] else orS dst)=dst:=by
  by_cases hn:dst=[]
  · rw [if_pos (e3.1.2 hn),hn]
  · rw [if_neg fun e=>hn (e3.1.1 e),e3.2 hn]
 have r4:(if orS (aV ac)=dash then [] else (aM (orS (aV ac))).1)=ac:=by
  by_cases hn:ac=[]
  · rw [if_pos (e4.1.2 (b0.2 hn)),hn]
  · rw [if_neg fun e=>hn (b0.1 (e4.1.1 e)),e4.2 fun e=>hn (b0.1 e),(iW (ha'.resolve_left hn)).2.1]
 have hlen:(c.states.length:Int) - 1=src:=by
  have:src=(st.length:Int):=hsrc
  rw [hc,ag,this]; simp only [ah,aj]; omega
 rw [Mj,onC,if_pos ⟨hown,rfl,w1,w2,w3,w4⟩]
 show some { c with trans:=c.trans++[(⟨(c.states.length:Int) - 1,if orS ev=dash then [] else orS ev,if orS (bN gd)=dash then [] else (aS (orS (bN gd))).1,if orS dst=dash then [] else orS dst,if orS (aV ac)=dash then [] else (aM (orS (aV ac))).1⟩:Tran)] }=_
 rw [r1,r2,r3,r4,hlen]
theorem H9 (c:Chart) (st:List Ev.Stat) (s :  Ev.Stat) (hc:c.states=st++[s]) (hd:0≤s.depth):∀ l:List Tran,(∀ t∈l,gG (st.length+1) t=true∧t.src=(st.length:Int))→∀ tr,Rd1 { c with trans:=tr } (l.map fun t=>(s.depth.toNat+1,la t)) { c with trans:=tr++l }
 | [],_,tr=>by have:=Rd1.nil { c with trans:=tr }; simpa using this
 | t::l,h,tr=>by
   have h1:=Pv { c with trans:=tr } st s hc hd t (h t aA).1 (h t aA).2
   have h2:=H9 c st s hc hd l (fun x hx=>h x (aE _ hx)) (tr++[t])
   have:=h1.cons h2
   simpa using this
end Go.Proofs.YtpfidgnkokidoaaGreatDoor

/- Trees' texts; what is told is read to the tree that it was. Conditions: none. -/
import Derived.Test.YtpfidgnkokidoaaGreatDoorNc
import Derived.Test.YtpfidgnkokidoaaGreatDoorUp
import Derived.Test.YtpfidgnkokidoaaGreatDoorNd
namespace Go.Proofs.YtpfidgnkokidoaaGreatDoor
open Go Go.Ev
set_option maxRecDepth 100000
/-! ### cells -/
theorem r7 {c:Cell} (h:bx c=1):c=⟨7,0,[]⟩∨c=⟨8,0,[]⟩∨c=⟨9,0,[]⟩∨c=⟨10,0,[]⟩:=by
 obtain ⟨op,a,nm⟩:=c
 simp only [bx,fC,cond_eq_ite] at h
 repeat' (split at h)
 all_goals first | (exfalso; omega) | skip
 rename_i h1 h2 h3 h4 h5 h6 h7
 simp only [aF,decide_eq_true_eq,bne_iff_ne,aC,beq_eq_false_iff_ne,not_or,ne_eq,Classical.not_not,beq_iff_eq] at h1 h2 h3 h4 h5 h6 h7
 obtain ⟨⟨⟨h51,h52⟩,h53⟩,h54⟩:=h5
 subst h53 h54
 have:op=7∨op=8∨op=9∨op=10:=by omega
 rcases this with rfl | rfl | rfl | rfl <;> simp
theorem BH {c:Cell} (h:bx c=2):c=⟨c.op,0,[]⟩∧11≤c.op∧c.op≤23:=by
 obtain ⟨op,a,nm⟩:=c
 simp only [bx,fC,cond_eq_ite] at h
 repeat' (split at h)
 all_goals first | (exfalso; omega) | skip
 rename_i h1 h2 h3 h4 h5 h6 h7
 simp only [aF,decide_eq_true_eq,bne_iff_ne,aC,beq_eq_false_iff_ne,not_or,ne_eq,Classical.not_not,beq_iff_eq] at h1 h2 h3 h4 h5 h6 h7
 obtain ⟨⟨⟨h51,h52⟩,h53⟩,h54⟩:=h5
 subst h53 h54
 exact ⟨rfl,by show 11≤op; omega,by show op≤23; omega⟩
theorem gk {c:Cell} (h:bx c=0):(∃ a,c=⟨1,a,[]⟩∧0≤a∧a≤1099511627776)∨(∃ a,c=⟨2,a,[]⟩∧0≤a∧a≤1048576)∨c=⟨3,0,[]⟩∨c=⟨4,0,[]⟩∨(∃ n,c=⟨5,0,n⟩∧aO n=true)∨(∃ n,c=⟨6,0,n⟩∧aO n=true):=by
 obtain ⟨op,a,nm⟩:=c
 simp only [bx,fC,cond_eq_ite] at h
 repeat' (split at h)
 all_goals first | (exfalso; omega) | skip
 · rename_i h1 h2
   simp only [aF,decide_eq_true_eq,aC,beq_eq_false_iff_ne,not_or,ne_eq,Classical.not_not,beq_iff_eq] at h1 h2
   obtain ⟨⟨h3,h4⟩,h5⟩:=h2
   subst h1 h5
   exact .inl ⟨a,rfl,by omega,by omega⟩
 · rename_i h0 h1 h2
   simp only [aF,decide_eq_true_eq,aC,beq_eq_false_iff_ne,not_or,ne_eq,Classical.not_not,beq_iff_eq] at h1 h2
   obtain ⟨⟨h3,h4⟩,h5⟩:=h2
   subst h1 h5
   exact .inr (.inl ⟨a,rfl,by omega,by omega⟩)
 · rename_i h1 h2 h3 h4
   simp only [aF,bne_iff_ne,aC,not_or,ne_eq,Classical.not_not,beq_iff_eq,Bool.not_eq_false] at h3 h4
   obtain ⟨h5,h6⟩:=h4
   subst h3 h5
   exact .inr (.inr (.inr (.inr (.inl ⟨nm,rfl,h6⟩))))
 · rename_i h1 h2 h3 h4 h5
   simp only [aF,bne_iff_ne,aC,not_or,ne_eq,Classical.not_not,beq_iff_eq,Bool.not_eq_false] at h4 h5
   obtain ⟨h6,h7⟩:=h5
   subst h4 h6
   exact .inr (.inr (.inr (.inr (.inr ⟨nm,rfl,h7⟩))))
 · rename_i h1 h2 h3 h4 h5 h6
   simp only [aF,decide_eq_true_eq,bne_iff_ne,aC,beq_eq_false_iff_ne,not_or,ne_eq,Classical.not_not,beq_iff_eq] at h1 h2 h3 h4 h5 h6
   obtain ⟨⟨⟨h51,h52⟩,h53⟩,h54⟩:=h5
   subst h53 h54
   have:op=3∨op=4:=by omega
   rcases this with rfl | rfl
   · exact .inr (.inr (.inl rfl))
   · exact .inr (.inr (.inr (.inl rfl)))
/-! ### texts -/
def fj (c:Cell):Str:=bif c.op==1 then Lib.itoa c.a else bif c.op==2 then Lib.itoa c.a++[105] else bif c.op==3 then fm else bif c.op==4 then fS else bif c.op==6 then [105,110,40]++c.name++[41] else c.name
def cj (p:Int) (b:Str) (least:Int):Str:=bif decide (p<least) then [40]++b++[41] else b
def gx (p:Int):Int:=bif p==3 then 4 else p
def Tm.top:Tm→Cell
 | .leaf c=>c
 | .un c _=>c
 | .bin c _ _=>c
def Tm.pow (t:Tm):Int:=(ax t.top.op).2
def unS (op:Int) (b:Str) (p:Int):Str:=bif op==9 then [114,101,40]++b++[41] else bif op==10 then [105,109,40]++b++[41] else (ax op).1++cj p b 6
def j4 (op:Int) (b:Str) (p:Int) (d:Str) (q:Int):Str:=cj p b (gx (ax op).2)++(ax op).1++cj q d ((ax op).2+1)
def Tm.body:Tm→Str
 | .leaf c=>fj c
 | .un c t=>unS c.op t.body t.pow
 | .bin c t u=>j4 c.op t.body t.pow u.body u.pow
def Tm.tin (t:Tm) (p:Int):Str:=cj t.pow t.body p
theorem Bb {op:Int} (h1:11≤op) (h2:op≤23):1≤(ax op).2∧(ax op).2≤5:=by
 have h:op=11∨op=12∨op=13∨op=14∨op=15∨op=16∨op=17∨op=18∨op=19∨op=20∨op=21∨op=22∨op=23:=by omega
 rcases h with rfl | rfl | rfl | rfl | rfl | rfl | rfl | rfl | rfl | rfl | rfl | rfl | rfl <;> decide
theorem Tm.pow_bounds {t:Tm} (h:t.ok):1≤t.pow∧t.pow≤7:=by
 cases t with
 | leaf c =>
   rcases gk h with ⟨a,rfl,_⟩ | ⟨a,rfl,_⟩ | rfl | rfl | ⟨n,rfl,_⟩ | ⟨n,rfl,_⟩
   all_goals first | (show 1≤(7:Int)∧(7:Int)≤7; omega)
 | un c u =>
   rcases r7 h.1 with rfl | rfl | rfl | rfl
   all_goals first | (show 1≤(7:Int)∧(7:Int)≤7; omega) | (show 1≤(6:Int)∧(6:Int)≤7; omega)
 | bin c u v =>
   obtain ⟨_,h1,h2⟩:=BH h.1
   have:=Bb h1 h2
   show 1≤(ax c.op).2∧(ax c.op).2≤7
   omega
theorem Tm.tin_body {t:Tm} {p:Int} (h:p≤t.pow):t.tin p=t.body:=by
 unfold Tm.tin cj
 rw [decide_eq_false (by omega)]; rfl
theorem Tm.tin_paren {t:Tm} {p:Int} (h:t.pow<p):t.tin p=[40]++t.body++[41]:=by
 unfold Tm.tin cj
 rw [decide_eq_true h]; rfl
/-! ### where a text stands -/
structure At (s:Str) (k:Int) (x:Str):Prop where
 low:0≤k
 high:k≤af s
 eq:s.drop k.toNat=x
variable {s:Str}
theorem At.len {k:Int} {x:Str} (h:At s k x):k+af x=af s:=by
 have h1:=h.low; have h2:=h.high
 have h3:(s.drop k.toNat).length=x.length:=by rw [h.eq]
 rw [bF] at h3
 simp only [af] at *; omega
theorem cc (a b:Str):af (a++b)=af a+af b:=by simp [af]
theorem At.app {k:Int} {a b:Str} (h:At s k (a++b)):At s (k+af a) b:=by
 have h1:=h.low
 have h2:=h.len
 rw [cc] at h2
 refine ⟨by simp only [af] at *; omega,by simp only [af] at *; omega,?_⟩
 have e:(k+af a).toNat=k.toNat+a.length:=by simp only [af]; omega
 rw [e,← eX,h.eq,er]
theorem At.to {k m:Int} {a b:Str} (h:At s k (a++b)) (e:m=k+af a):At s m b:=by rw [e]; exact h.app
theorem At.cons {k:Int} {c:UInt8} {x:Str} (h:At s k (c::x)):k<af s∧s.getD k.toNat 0=c∧bU s k=(c.toNat:Int):=by
 have h1:=h.len
 have h2:af (c::x)=(x.length:Int)+1:=by simp [af]
 have h3:s.getD k.toNat 0=c:=by
  have:=congrArg (fun l:List UInt8=>l[0]?) h.eq
  simp only [List.getElem?_drop,b5,List.getElem?_cons_zero] at this
  rw [List.getD_eq_getElem?_getD,this]; rfl
 exact ⟨by omega,h3,by unfold bU; rw [h3]⟩
theorem At.nil {k:Int} (h:At s k []):k=af s:=by
 have h1:=h.len
 have:af ([]:Str)=0:=rfl
 omega
def mR:Str→Prop
 | []=>True
 | a::_=>fJ a=false∧a≠40
def pg (p:Int) (x:Str):Prop:=(bZ x).1=0∨(ax (bZ x).1).2≤p
theorem pg.mono {p q:Int} {x:Str} (h:pg p x) (hq:p≤q):pg q x:=by
 rcases h with h | h
 · exact .inl h
 · exact .inr (by omega)
theorem sP {p:UInt8→Bool}:∀ {a b:List UInt8},a.all p=true→(∀ c r,b=c::r→p c=false)→(a++b).takeWhile p=a
 | [],[],_,_=>rfl
 | [],c::r,_,h=>by rw [bN,eg,if_neg (by rw [h c r rfl]; simp)]
 | c::a,b,h1,h2=>by
   simp only [aE,ab] at h1
   rw [bC,eg,if_pos h1.1,sP h1.2 h2]
theorem mR.word {x:Str} (h:mR x):∀ c r,x=c::r→fJ c=false:=by
 intro c r e; subst e; exact h.1
theorem At.word {k:Int} {a b:Str} (h:At s k (a++b)) (ha:a.all fJ=true) (hb:∀ c r,b=c::r→fJ c=false):aG s k=a:=by
 unfold aG; rw [h.eq,sP ha hb]
theorem At.call {k:Int} {a b:Str} (h:At s k (a++b)) (ha:a.all fJ=true) (hb:∀ c r,b=c::r→fJ c=false):gH s k=match b with | []=>false | c::_=>c==40:=by
 unfold gH
 rw [h.word ha hb]
 have h2:=h.app
 cases b with
 | nil=>have:=h2.nil; rw [decide_eq_false (by omega)]; rfl
 | cons c r =>
   obtain ⟨g1,_,g3⟩:=h2.cons
   rw [decide_eq_true g1,g3,bT]
   show ((c.toNat:Int)==40)=(c==40)
   rw [cM,beq_iff_eq,beq_iff_eq]
   constructor
   · intro e; exact gp.1 (by show c.toNat=40; omega)
   · intro e; subst e; rfl
theorem GN {c:UInt8} (h:isD c=true):fJ c=true:=by
 simp only [isD,ab,decide_eq_true_eq] at h
 simp only [fJ,aF,ab,decide_eq_true_eq]
 omega
theorem Ns {c:UInt8} (h:fJ c=false):isD c=false:=by
 cases hd:isD c with
 | false=>rfl
 | true=>rw [GN hd] at h; cases h
theorem fD {w:Str} (h:aO w=true):w.all fJ=true∧w≠fm∧w≠fS∧w≠inS∧w≠reS∧w≠imS∧(∃ c r,w=c::r∧97≤c.toNat∧c.toNat≤122)∧af w≤12:=by
 simp only [aO,vp,BJ,ab,aC,aI,beq_eq_false_iff_ne,decide_eq_false_iff_not] at h
 obtain ⟨⟨⟨⟨⟨h1,h2⟩,h3⟩,h4⟩,h5⟩,⟨⟨⟨⟨h6,h7⟩,h8⟩,h9⟩,h10⟩⟩:=h
 refine ⟨?_,h6,h7,h8,h9,h10,?_,by omega⟩
 · rw [al]
   intro x hx
   have:=dt.1 h5 x hx
   simp only [Ar,ab,aF,decide_eq_true_eq,bne_iff_ne,not_and,not_or,Classical.not_not,ne_eq] at this
   simp only [fJ,aF,ab,decide_eq_true_eq,beq_iff_eq]
   omega
 · cases w with
   | nil=>exact absurd rfl h1
   | cons c r =>
     simp only [List.getD_cons_zero] at h3 h4
     exact ⟨c,r,rfl,by omega,by omega⟩
/-! ### operators -/
theorem EY {op:Int} (h1:11≤op) (h2:op≤23) {b:UInt8} (hb:b≠61) (x:Str):bZ ((ax op).1++b::x)=(op,af (ax op).1)∧(∃ c r,(ax op).1=c::r∧fJ c=false∧c≠40)∧1≤af (ax op).1∧af (ax op).1≤2:=by
 have h:op=11∨op=12∨op=13∨op=14∨op=15∨op=16∨op=17∨op=18∨op=19∨op=20∨op=21∨op=22∨op=23:=by omega
 rcases h with rfl | rfl | rfl | rfl | rfl | rfl | rfl | rfl | rfl | rfl | rfl | rfl | rfl
 all_goals
  refine ⟨?_,⟨_,_,rfl,by decide,by decide⟩,by decide,by decide⟩
  simp [ax,bZ,gf,gT,py,hb,af]
theorem uO (x:Str) (p:Int):pg p (41::x):=by
 left
 cases x with
 | nil=>rfl
 | cons b l =>
   have e2:gf 41 b=0:=by unfold gf; split <;> rfl
   simp only [bZ,e2,if_true]; rfl
theorem mg {p j:Int} {o:Rd} {x:Str} (ha:At s o.pos x) (hw:pg p x) (hp:p<j) (h1:1≤j) (h5:j≤5):atEnd s j o:=by
 unfold atEnd
 rintro ⟨_,h⟩
 rw [ha.eq,pH _ j h1 h5] at h
 split at h
 · rename_i e
   rcases hw with hw | hw
   · exact h hw
   · omega
 · exact h rfl
theorem down:∀ (n:Nat) (p q:Int) (r o:Rd),q - p=(n:Int)→1≤p→q≤6→Run s (.bin q) r o→(∀ j,p≤j→j<q→atEnd s j o)→Run s (.bin p) r o
 | 0,p,q,r,o,hn,h1,h6,hr,he=>by
   have:p=q:=by omega
   rw [this]; exact hr
 | n+1,p,q,r,o,hn,h1,h6,hr,he=>by
   have h:=down n (p+1) q r o (by omega) (by omega) h6 hr fun j hj hj2=>he j (by omega) hj2
   exact .bin h1 (by omega) h (.done (he p (cd _) (by omega)))
/-! ### what is told is read -/
def RdU (s:Str) (x:Str) (l:List Cell):Prop:=∀ (k:Int) (out:List Cell) (y:Str),At s k (x++y)→mR y→Run s .una ⟨k,out, -1⟩ ⟨k+af x,out++l, -1⟩
def RdB (s:Str) (x:Str) (l:List Cell) (p:Int):Prop:=∀ (k:Int) (out:List Cell) (y:Str) (o:Rd),At s k (x++y)→mR y→pg p y→(p=3→pg 2 y)→Run s (.loop p) ⟨k+af x,out++l, -1⟩ o→Run s (.bin p) ⟨k,out, -1⟩ o
theorem wc {x:Str} {l:List Cell} (h:RdU s x l) {p:Int} (h1:1≤p) (h5:p≤5):RdB s x l p:=by
 intro k out y o ha hy hw _ hl
 refine .bin h1 h5 (down (5 - p).toNat (p+1) 6 _ _ (by omega) (by omega) (by omega) (.six (h k out y ha hy)) fun j hj hj2=>?_) hl
 exact mg (o:=⟨k+af x,out++l, -1⟩) ha.app hw (by omega) (by omega) (by omega)
theorem RdB.full {x:Str} {l:List Cell} {p:Int} (h:RdB s x l p) (h1:1≤p) (h5:p≤5) {k:Int} {out:List Cell} {y:Str} {q:Int} (ha:At s k (x++y)) (hy:mR y) (hw:pg q y) (hq:q<p):Run s (.bin p) ⟨k,out, -1⟩ ⟨k+af x,out++l, -1⟩ :=
 h k out y _ ha hy (hw.mono (by omega)) (fun e=>hw.mono (by omega)) (.done (mg (o:=⟨k+af x,out++l, -1⟩) ha.app hw hq h1 h5))
theorem yb {x:Str} {l:List Cell} (h:RdB s x l 1):RdU s ([40]++x++[41]) l:=by
 intro k out y ha hy
 have ha1:At s k (40::(x++(41::y))):=by have:=ha; simp only [aX,bC,bN] at this; exact this
 obtain ⟨g1,g2,g3⟩:=ha1.cons
 have ha2:At s (k+1) (x++(41::y)):=ha1.to (a:=[40]) (by rfl)
 obtain ⟨m1,m2,m3⟩:=(ha2.app).cons
 have hh:cw s k = .par:=by
  unfold cw
  rw [if_neg (by omega),if_neg (by rw [g3]; decide),if_neg (by rw [g3]; decide),if_neg (by rw [g2]; decide),if_pos (by rw [g3]; decide)]
 have hr:=h.full (by omega) (by omega) (out:=out) (q:=0) ha2 (show mR (41::y) from ⟨by decide,by decide⟩) (uO y 0) (by omega)
 have hc:bQ s ⟨k+1+af x,out++l, -1⟩=⟨k+af ([40]++x++[41]),out++l, -1⟩:=by
  unfold bQ
  have e:k+af ([40]++x++[41])=k+1+af x+1:=by simp [af]; omega
  rw [if_neg,e]
  · rfl
  · rintro ⟨_,hx⟩
    simp only at hx
    rcases hx with hx | hx
    · omega
    · exact hx (by rw [m3]; decide)
 rw [← hc]
 exact .par (r:=⟨k,out, -1⟩) (by show (-1:Int)<0; omega) hh hr
theorem sY {t:Tm} (ht:t.ok) (hB:∀ p,1≤p→p≤5→p≤t.pow→RdB s t.body t.flat p) (hU:6≤t.pow→RdU s t.body t.flat):RdU s (t.tin 6) t.flat∧∀ p,1≤p→p≤5→RdB s (t.tin p) t.flat p:=by
 have hp:=t.pow_bounds ht
 refine ⟨?_,fun p h1 h5=>?_⟩
 · by_cases h:t.pow<6
   · rw [Tm.tin_paren h]; exact yb (hB 1 (by omega) (by omega) hp.1)
   · rw [Tm.tin_body (by omega)]; exact hU (by omega)
 · by_cases h:t.pow<p
   · rw [Tm.tin_paren h]; exact wc (yb (hB 1 (by omega) (by omega) hp.1)) h1 h5
   · rw [Tm.tin_body (by omega)]; exact hB p h1 h5 (by omega)
/-! ### leaves -/
theorem jm {a:Int} (h:0≤a):Lib.itoa a=Lib.decDigits a.toNat:=by
 unfold Lib.itoa; rw [if_neg (by omega)]
theorem BO {k:Int} {a:Int} {x:Str} (h0:0≤a) (ha:At s k (Lib.itoa a++x)) (hx:∀ c r,x=c::r→isD c=false):isD (s.getD k.toNat 0)=true∧cg s k=k+af (Lib.itoa a)∧cX s k=Lib.itoa a∧k<af s:=by
 obtain ⟨d1,d2,d3,d4,d5⟩:=fZ a.toNat
 rw [jm h0] at ha ⊢
 have htk:((Lib.decDigits a.toNat)++x).takeWhile isD=Lib.decDigits a.toNat:=sP d1 hx
 have hne:cg s k=k+af (Lib.decDigits a.toNat):=by
  cases hd:Lib.decDigits a.toNat with
  | nil=>exact absurd hd d2
  | cons c r =>
    have hb:bU s k=(c.toNat:Int):=by rw [hd] at ha; exact ha.cons.2.2
    unfold cg
    by_cases hz:a.toNat=0
    · have h1:=d5 (by omega)
      have e:c=48:=by
       rw [hz] at hd
       have:Lib.decDigits 0=[48]:=by rw [Lib.decDigits_one (by omega)]; rfl
       rw [this] at hd
       exact (fq hd).1.symm
      subst e
      rw [if_pos (by rw [hb]; rfl)]
      rw [hd] at h1
      simp only [af,h1]; rfl
    · have h1:=d4 (by omega)
      rw [hd] at h1
      rw [if_neg (by rw [hb]; simp only [List.getD_cons_zero] at h1; omega),ha.eq,htk,hd]
 refine ⟨?_,hne,?_,?_⟩
 · cases hd:Lib.decDigits a.toNat with
   | nil=>exact absurd hd d2
   | cons c r =>
     rw [hd] at ha d1
     rw [ha.cons.2.1]
     simp only [aE,ab] at d1; exact d1.1
 · have h1:=ha.low
   unfold cX
   rw [hne]
   have e:(k+af (Lib.decDigits a.toNat)).toNat=k.toNat+(Lib.decDigits a.toNat).length:=by simp only [af]; omega
   rw [e,fM,ha.eq,show k.toNat+(Lib.decDigits a.toNat).length - k.toNat=(Lib.decDigits a.toNat).length by omega,eY]
 · cases hd:Lib.decDigits a.toNat with
   | nil=>exact absurd hd d2
   | cons c r=>rw [hd] at ha; exact ha.cons.1
theorem tM {k:Int} (h:k<af s) (hd:isD (s.getD k.toNat 0)=true):cw s k = .leaf:=by
 simp only [isD,ab,decide_eq_true_eq] at hd
 have hd':isD (s.getD k.toNat 0)=true:=by simp only [isD,ab,decide_eq_true_eq]; exact hd
 unfold cw
 rw [if_neg (by omega),if_neg (by unfold bU; omega),if_neg (by unfold bU; omega),if_pos hd']
theorem nj {k:Int} {c:UInt8} (h:k<af s) (hb:s.getD k.toNat 0=c) (h1:97≤c.toNat) (hr:¬(aG s k=reS∧gH s k=true)) (hi:¬(aG s k=imS∧gH s k=true)):cw s k = .leaf∧isD (s.getD k.toNat 0)=false:=by
 have hd:isD c=false:=by
  cases hx:isD c with
  | false=>rfl
  | true=>simp only [isD,ab,decide_eq_true_eq] at hx; omega
 have hd':isD (s.getD k.toNat 0)=false:=by rw [hb]; exact hd
 refine ⟨?_,hd'⟩
 unfold cw
 rw [if_neg (by omega),if_neg (by unfold bU; rw [hb]; omega),if_neg (by unfold bU; rw [hb]; omega),if_neg (by rw [hd']; simp),if_neg (by unfold bU; rw [hb]; omega),if_neg hr,if_neg hi]
theorem kJ {k:Int} {out:List Cell} {o:Rd} (hh:cw s k = .leaf) (h:eQ s ⟨k,out, -1⟩=o):Run s .una ⟨k,out, -1⟩ o:=by
 rw [← h]; exact .leaf (r:=⟨k,out, -1⟩) (by show (-1:Int)<0; omega) hh
theorem D0 {c:Cell} (hc:bx c=0):RdU s (fj c) [c]:=by
 intro k out y ha hy
 rcases gk hc with ⟨a,rfl,h0,h1⟩ | ⟨a,rfl,h0,h1⟩ | rfl | rfl | ⟨n,rfl,hn⟩ | ⟨n,rfl,hn⟩
 · have e:fj ⟨1,a,[]⟩=Lib.itoa a:=rfl
   rw [e] at ha ⊢
   obtain ⟨g1,g2,g3,g4⟩:=BO h0 ha fun c r e=>Ns (hy.word c r e)
   refine kJ (tM g4 g1) ?_
   have hnum:bb (Lib.itoa a)=(a,0):=by rw [o3,if_neg (by omega)]
   have himg:dn s k=false:=by
    have h2:=ha.app
    unfold dn
    rw [g2]
    cases y with
    | nil=>have:=h2.nil; rw [decide_eq_false (by omega)]; rfl
    | cons c r =>
      obtain ⟨m1,_,m3⟩:=h2.cons
      rw [m3,decide_eq_true m1,bT]
      have:=hy.word c r rfl
      simp only [fJ,aI,fI,decide_eq_false_iff_not] at this
      rw [beq_eq_false_iff_ne]; omega
   have hcell:fB s k=⟨1,a,[]⟩:=by unfold fB; rw [g3,hnum,himg]; rfl
   unfold eQ
   rw [if_pos g1]
   unfold cC
   rw [g3,hnum,hcell,if_neg (by rw [hc]; simp)]
   simp only [himg,g2]; rfl
 · have e:fj ⟨2,a,[]⟩=Lib.itoa a++[105]:=rfl
   rw [e] at ha ⊢
   have ha':At s k (Lib.itoa a++(105::y)):=by have:=ha; rw [aX] at this; exact this
   obtain ⟨g1,g2,g3,g4⟩:=BO h0 ha' fun c r e=>by rw [← (fq e).1]; rfl
   refine kJ (tM g4 g1) ?_
   have hnum:bb (Lib.itoa a)=(a,0):=by rw [o3,if_neg (by omega)]
   have himg:dn s k=true:=by
    obtain ⟨m1,_,m3⟩:=(ha'.app).cons
    unfold dn
    rw [g2,m3,decide_eq_true m1]; rfl
   have hcell:fB s k=⟨2,a,[]⟩:=by unfold fB; rw [g3,hnum,himg]; rfl
   unfold eQ
   rw [if_pos g1]
   unfold cC
   rw [g3,hnum,hcell,if_neg (by rw [hc]; simp),if_pos himg,g2,cc]
   show (⟨k+af (Lib.itoa a)+1,out++[⟨2,a,[]⟩], -1⟩:Rd)=⟨k+(af (Lib.itoa a)+1),out++[⟨2,a,[]⟩], -1⟩
   rw [Int.add_assoc]
 · have e:fj ⟨3,0,[]⟩=fm:=rfl
   rw [e] at ha ⊢
   have hw:=ha.word (by decide) hy.word
   obtain ⟨g1,g2⟩:=nj (c:=116) (ha.cons (c:=116)).1 (ha.cons (c:=116)).2.1 (by decide) (by rw [hw]; exact fun h=>absurd h.1 (by decide)) (by rw [hw]; exact fun h=>absurd h.1 (by decide))
   refine kJ g1 ?_
   unfold eQ
   simp only [g2,hw]
   rfl
 · have e:fj ⟨4,0,[]⟩=fS:=rfl
   rw [e] at ha ⊢
   have hw:=ha.word (by decide) hy.word
   obtain ⟨g1,g2⟩:=nj (c:=102) (ha.cons (c:=102)).1 (ha.cons (c:=102)).2.1 (by decide) (by rw [hw]; exact fun h=>absurd h.1 (by decide)) (by rw [hw]; exact fun h=>absurd h.1 (by decide))
   refine kJ g1 ?_
   unfold eQ
   simp only [g2,hw]
   rw [if_neg (by simp),if_neg (by decide),if_pos trivial]; rfl
 · have e:fj ⟨5,0,n⟩=n:=rfl
   rw [e] at ha ⊢
   obtain ⟨n1,n2,n3,n4,n5,n6,⟨c,r,n7,n8,n9⟩,_⟩:=fD hn
   have hw:=ha.word n1 hy.word
   have ha':At s k (c::(r++y)):=by rw [n7] at ha; exact ha
   obtain ⟨g1,g2⟩:=nj (c:=c) ha'.cons.1 ha'.cons.2.1 n8 (by rw [hw]; exact fun h=>n5 h.1) (by rw [hw]; exact fun h=>n6 h.1)
   refine kJ g1 ?_
   unfold eQ
   simp only [g2,hw]
   rw [if_neg (by simp),if_neg n2,if_neg n3,if_neg (fun h=>n4 h.1),if_pos hn]; rfl
 · have e:fj ⟨6,0,n⟩=inS++(40::(n++[41])):=by simp [fj,inS]
   rw [e] at ha ⊢
   obtain ⟨n1,n2,n3,n4,n5,n6,⟨c,r,n7,n8,n9⟩,_⟩:=fD hn
   have ha':At s k (inS++(40::(n++(41::y)))):=by simpa using ha
   have hb1:∀ c r,(40::(n++(41::y)):Str)=c::r→fJ c=false:=by
    intro c r e; rw [← (fq e).1]; decide
   have hw:=ha'.word (by decide) hb1
   have hc2:=ha'.call (by decide) hb1
   have hcall:gH s k=true:=by rw [hc2]; rfl
   obtain ⟨g1,g2⟩:=nj (c:=105) (ha'.cons (c:=105)).1 (ha'.cons (c:=105)).2.1 (by decide) (by rw [hw]; exact fun h=>absurd h.1 (by decide)) (by rw [hw]; exact fun h=>absurd h.1 (by decide))
   refine kJ g1 ?_
   have ha3:At s (k+3) (n++(41::y)):=ha'.to (a:=inS++[40]) (by rfl)
   have hw3:=ha3.word n1 (by intro c r e; rw [← (fq e).1]; decide)
   obtain ⟨m1,_,m3⟩:=(ha3.app).cons
   unfold eQ
   simp only [g2,hw]
   rw [if_neg (by simp),if_neg (by decide),if_neg (by decide),if_pos ⟨trivial,hcall⟩]
   unfold inR
   simp only [hw3]
   rw [if_neg (by rw [hn]; simp)]
   have hcl:bQ s ((⟨k,out, -1⟩:Rd).to (k+3+af n))=⟨k+3+af n+1,out, -1⟩:=by
    unfold bQ
    rw [if_neg]
    · rfl
    · rintro ⟨_,hx⟩
      simp only [Rd.to] at hx
      rcases hx with hx | hx
      · omega
      · exact hx (by rw [m3]; decide)
   rw [hcl]
   have el:k+af (inS++(40::(n++[41])))=k+3+af n+1:=by simp [af,inS]; omega
   rw [el]; rfl
/-! ### trees -/
theorem mc {t:Tm} (ht:t.ok):(∃ c r,t.body=c::r∧c≠61)∧∀ p,∃ c r,t.tin p=c::r∧c≠61:=by
 have key:∀ t:Tm,(∃ c r,t.body=c::r∧c≠61)→∀ p,∃ c r,t.tin p=c::r∧c≠61:=by
  intro t h p
  by_cases hp:t.pow<p
  · rw [Tm.tin_paren hp]; exact ⟨40,t.body++[41],rfl,by decide⟩
  · rw [Tm.tin_body (by omega)]; exact h
 have hb:∃ c r,t.body=c::r∧c≠61:=by
  induction t with
  | leaf c =>
    rcases gk ht with ⟨a,rfl,h0,h1⟩ | ⟨a,rfl,h0,h1⟩ | rfl | rfl | ⟨n,rfl,hn⟩ | ⟨n,rfl,hn⟩
    · obtain ⟨d1,d2,_⟩:=fZ a.toNat
      cases hd:Lib.decDigits a.toNat with
      | nil=>exact absurd hd d2
      | cons c r =>
        rw [hd] at d1
        simp only [aE,ab,isD,decide_eq_true_eq] at d1
        refine ⟨c,r,by show Lib.itoa a=_; rw [jm h0,hd],fun e=>?_⟩
        subst e; exact absurd d1.1 (by decide)
    · obtain ⟨d1,d2,_⟩:=fZ a.toNat
      cases hd:Lib.decDigits a.toNat with
      | nil=>exact absurd hd d2
      | cons c r =>
        rw [hd] at d1
        simp only [aE,ab,isD,decide_eq_true_eq] at d1
        refine ⟨c,r++[105],by show Lib.itoa a++[105]=_; rw [jm h0,hd]; rfl,fun e=>?_⟩
        subst e; exact absurd d1.1 (by decide)
    · exact ⟨116,_,rfl,by decide⟩
    · exact ⟨102,_,rfl,by decide⟩
    · obtain ⟨_,_,_,_,_,_,⟨c,r,n7,n8,n9⟩,_⟩:=fD hn
      refine ⟨c,r,n7,fun e=>?_⟩
      subst e; revert n8; decide
    · exact ⟨105,_,rfl,by decide⟩
  | un c t ih =>
    rcases r7 ht.1 with rfl | rfl | rfl | rfl
    · exact ⟨45,_,rfl,by decide⟩
    · exact ⟨33,_,rfl,by decide⟩
    · exact ⟨114,_,rfl,by decide⟩
    · exact ⟨105,_,rfl,by decide⟩
  | bin c t u ih1 ih2 =>
    obtain ⟨c1,r1,e1,e2⟩:=key t (ih1 ht.2.1) (gx (ax c.op).2)
    refine ⟨c1,r1++(ax c.op).1++u.tin ((ax c.op).2+1),?_,e2⟩
    show t.tin (gx (ax c.op).2)++(ax c.op).1++u.tin ((ax c.op).2+1)=_
    rw [e1]; simp
 exact ⟨hb,key t hb⟩
theorem Er (t:Tm) (ht:t.ok):RdU s (t.tin 6) t.flat∧∀ p,1≤p→p≤5→RdB s (t.tin p) t.flat p:=by
 induction t with
 | leaf c =>
   have hp:(Tm.leaf c).pow=7:=by
    rcases gk ht with ⟨a,rfl,_⟩ | ⟨a,rfl,_⟩ | rfl | rfl | ⟨n,rfl,_⟩ | ⟨n,rfl,_⟩ <;> rfl
   have hU:RdU s (fj c) [c]:=D0 ht
   exact sY ht (fun p h1 h5 _=>wc hU h1 h5) (fun _=>hU)
 | un c t ih =>
   obtain ⟨hU,hB⟩:=ih ht.2
   have hp:=t.pow_bounds ht.2
   have sgn:∀ (op:Int) (x:UInt8),(∀ k,k<af s→s.getD k.toNat 0=x→cw s k = .pre op)→RdU s (x::t.tin 6) (t.flat++[⟨op,0,[]⟩]):=by
    intro op x hx k out y ha hy
    obtain ⟨g1,g2,_⟩:=ha.cons
    have ha2:At s (k+1) (t.tin 6++y):=ha.to (a:=[x]) (by rfl)
    have hr:=hU (k+1) out y ha2 hy
    have e:k+af (x::t.tin 6)=k+1+af (t.tin 6):=by simp [af]; omega
    rw [e,← aX]
    exact .sign (r:=⟨k,out, -1⟩) (by show (-1:Int)<0; omega) (hx k g1 g2) hr
   have cal:∀ (op:Int) (x1 x2:UInt8),([x1,x2]=reS∧op=9∨[x1,x2]=imS∧op=10)→RdU s ([x1,x2,40]++t.body++[41]) (t.flat++[⟨op,0,[]⟩]):=by
    intro op x1 x2 hx k out y ha hy
    have hwb:([x1,x2]:Str).all fJ=true:=by rcases hx with ⟨e,_⟩ | ⟨e,_⟩ <;> rw [e] <;> decide
    have ha':At s k ([x1,x2]++(40::(t.body++(41::y)))):=by simpa using ha
    have hb1:∀ c r,(40::(t.body++(41::y)):Str)=c::r→fJ c=false:=by
     intro c r e; rw [← (fq e).1]; decide
    have hw:=ha'.word hwb hb1
    have hc2:=ha'.call hwb hb1
    have hcall:gH s k=true:=by rw [hc2]; rfl
    have ha3:At s (k+3) (t.body++(41::y)):=ha'.to (a:=[x1,x2,40]) (by rfl)
    obtain ⟨m1,_,m3⟩:=(ha3.app).cons
    have hB1:=hB 1 (by omega) (by omega)
    rw [Tm.tin_body hp.1] at hB1
    have hr:=hB1.full (by omega) (by omega) (out:=out) (q:=0) ha3 (show mR (41::y) from ⟨by decide,by decide⟩) (uO y 0) (by omega)
    obtain ⟨g1,g2,g3⟩:=ha'.cons (c:=x1)
    have hh:cw s k = .call op:=by
     rcases hx with ⟨e,rfl⟩ | ⟨e,rfl⟩
     · have e1:x1=114:=(fq e).1
       subst e1
       unfold cw
       rw [if_neg (by omega),if_neg (by rw [g3]; decide),if_neg (by rw [g3]; decide),if_neg (by rw [g2]; decide),if_neg (by rw [g3]; decide),if_pos ⟨by rw [hw,e],hcall⟩]
     · have e1:x1=105:=(fq e).1
       subst e1
       unfold cw
       rw [if_neg (by omega),if_neg (by rw [g3]; decide),if_neg (by rw [g3]; decide),if_neg (by rw [g2]; decide),if_neg (by rw [g3]; decide),if_neg (fun h=>by rw [hw,e] at h; exact absurd h.1 (by decide)),if_pos ⟨by rw [hw,e],hcall⟩]
    have hc:bQ s ⟨k+3+af t.body,out++t.flat, -1⟩=⟨k+af ([x1,x2,40]++t.body++[41]),out++t.flat, -1⟩:=by
     unfold bQ
     have e:k+af ([x1,x2,40]++t.body++[41])=k+3+af t.body+1:=by simp [af]; omega
     rw [if_neg,e]
     · rfl
     · rintro ⟨_,hx⟩
       simp only at hx
       rcases hx with hx | hx
       · omega
       · exact hx (by rw [m3]; decide)
    have:=Run.call (s:=s) (r:=⟨k,out, -1⟩) (op:=op) (by show (-1:Int)<0; omega) hh hr
    rw [hc] at this
    rw [← aX]; exact this
   have hUb:RdU s (Tm.un c t).body (Tm.un c t).flat:=by
    rcases r7 ht.1 with rfl | rfl | rfl | rfl
    · refine sgn 7 45 fun k h1 h2=>?_
      unfold cw
      rw [if_neg (by omega),if_pos (by unfold bU; rw [h2]; decide)]
    · refine sgn 8 33 fun k h1 h2=>?_
      unfold cw
      rw [if_neg (by omega),if_neg (by unfold bU; rw [h2]; decide),if_pos (by unfold bU; rw [h2]; decide)]
    · exact cal 9 114 101 (.inl ⟨rfl,rfl⟩)
    · exact cal 10 105 109 (.inr ⟨rfl,rfl⟩)
   exact sY ht (fun p h1 h5 _=>wc hUb h1 h5) (fun _=>hUb)
 | bin c t u ih1 ih2 =>
   obtain ⟨hw,ht1,hu1⟩:=ht
   obtain ⟨hUt,hBt⟩:=ih1 ht1
   obtain ⟨hUu,hBu⟩:=ih2 hu1
   obtain ⟨hc,hc1,hc2⟩:=BH hw
   have hq:=Bb hc1 hc2
   have hpow:(Tm.bin c t u).pow=(ax c.op).2:=rfl
   generalize hqd:(ax c.op).2=q at hq hpow
   have hbody:(Tm.bin c t u).body=t.tin (gx q)++((ax c.op).1++u.tin (q+1)):=by
    rw [← hqd,← aX]; rfl
   generalize hlpd:gx q=lp at hbody
   have hflat:(Tm.bin c t u).flat=t.flat++u.flat++[⟨c.op,0,[]⟩]:=by
    show t.flat++u.flat++[c]=_
    rw [← hc]
   refine sY ⟨hw,ht1,hu1⟩ (fun p h1 h5 hpp=>?_) (fun h6=>by omega)
   rw [hpow] at hpp
   intro k out y o ha hy hwk hw3 hl
   rw [hbody] at ha hl
   rw [hflat] at hl
   have ha0:At s k (t.tin (lp)++((ax c.op).1++(u.tin (q+1)++y))):=by simpa [aX] using ha
   have ha1:=ha0.app
   have ha2:=ha1.app
   obtain ⟨b,r,hbr,hb61⟩:=(mc hu1).2 (q+1)
   obtain ⟨a1,⟨a2,a3,a4,a5,a6⟩,a7,a8⟩:=EY hc1 hc2 hb61 (r++y)
   have hah:bZ ((ax c.op).1++(u.tin (q+1)++y))=(c.op,af (ax c.op).1):=by rw [hbr]; exact a1
   have hafter:mR ((ax c.op).1++(u.tin (q+1)++y)):=by rw [a4]; exact ⟨a5,a6⟩
   have hweak:pg q ((ax c.op).1++(u.tin (q+1)++y)):=.inr (by rw [hah,hqd]; exact cd _)
   have hop:∀ o1:List Cell,¬atEnd s q ⟨k+af (t.tin (lp)),o1, -1⟩∧bp (s.drop (k+af (t.tin (lp))).toNat) q=(c.op,af (ax c.op).1):=by
    intro o1
    have e:bp (s.drop (k+af (t.tin (lp))).toNat) q=(c.op,af (ax c.op).1):=by
     rw [ha1.eq,pH _ q (by omega) (by omega),hah,if_pos hqd]
    refine ⟨?_,e⟩
    intro hx
    apply hx
    refine ⟨by show (-1:Int)<0; omega,?_⟩
    show (bp (s.drop (k+af (t.tin (lp))).toNat) q).1≠0
    rw [e]; show c.op≠0; omega
   have hru:∀ o1:List Cell,Run s (.bin (q+1)) ⟨k+af (t.tin (lp))+af (ax c.op).1,o1, -1⟩ ⟨k+af (t.tin (lp))+af (ax c.op).1+af (u.tin (q+1)),o1++u.flat, -1⟩:=by
    intro o1
    by_cases hq5:q+1=6
    · rw [hq5] at ha2 ⊢
      exact .six (hUu _ o1 y ha2 hy)
    · exact (hBu (q+1) (by omega) (by omega)).full (by omega) (by omega) ha2 hy hwk (by omega)
   have hend:k+af (t.tin (lp)++((ax c.op).1++u.tin (q+1)))=k+af (t.tin (lp))+af (ax c.op).1+af (u.tin (q+1)):=by
    rw [cc,cc]; omega
   rw [hend] at hl
   have hfl:out++(t.flat++u.flat++[⟨c.op,0,[]⟩])=((out++t.flat)++u.flat)++[⟨c.op,0,[]⟩]:=by simp
   rw [hfl] at hl
   have hay:=ha2.app
   have hown:∀ o',(q=3→o'=⟨k+af (t.tin (lp))+af (ax c.op).1+af (u.tin (q+1)),((out++t.flat)++u.flat)++[⟨c.op,0,[]⟩], -1⟩)→Run s (.loop q) ⟨k+af (t.tin (lp))+af (ax c.op).1+af (u.tin (q+1)),((out++t.flat)++u.flat)++[⟨c.op,0,[]⟩], -1⟩ o'→Run s (.bin q) ⟨k,out, -1⟩ o':=by
    intro o' h3 hlo
    obtain ⟨n1,n2⟩:=hop (out++t.flat)
    have hru':=hru (out++t.flat)
    by_cases hq3:q=3
    · subst hq3
      have el:lp=4:=by rw [← hlpd]; rfl
      subst el
      have hb4:=(hBt 4 (by omega) (by omega)).full (by omega) (by omega) (out:=out) ha0 hafter hweak (by omega)
      rw [h3 rfl]
      refine .bin (by omega) (by omega) hb4 ?_
      have:=Run.once (s:=s) (r:=⟨k+af (t.tin 4),out++t.flat, -1⟩) (q:=⟨k+af (t.tin 4)+af (ax c.op).1+af (u.tin (3+1)),(out++t.flat)++u.flat, -1⟩) n1 (by simp only [n2]; exact hru')
      simp only [n2] at this
      exact this
    · have el:q=lp:=(show gx q=q by unfold gx; rw [beq_eq_false_iff_ne.2 hq3]; rfl).symm.trans hlpd
      subst el
      refine hBt q (by omega) (by omega) k out _ o' ha0 hafter hweak (fun e=>absurd e hq3) ?_
      have:=Run.more (s:=s) (p:=q) (r:=⟨k+af (t.tin q),out++t.flat, -1⟩) (q:=⟨k+af (t.tin q)+af (ax c.op).1+af (u.tin (q+1)),(out++t.flat)++u.flat, -1⟩) (o:=o') (by omega) (by omega) hq3 n1 (by simp only [n2]; exact hru') (by simp only [n2]; exact hlo)
      exact this
   by_cases hpq:p=q
   · subst hpq
     refine hown o (fun e=>?_) hl
     exact ((Run.done (mg (o:=⟨_,_, -1⟩) hay (hw3 e) (by omega) (by omega) (by omega))).det hl).symm
   · have hdone:Run s (.bin q) ⟨k,out, -1⟩ ⟨k+af (t.tin (lp))+af (ax c.op).1+af (u.tin (q+1)),((out++t.flat)++u.flat)++[⟨c.op,0,[]⟩], -1⟩ :=
      hown _ (fun _=>rfl) (.done (mg (o:=⟨_,_, -1⟩) hay hwk (by omega) (by omega) (by omega)))
     refine .bin h1 h5 (down (q - (p+1)).toNat (p+1) q _ _ (by omega) (by omega) (by omega) hdone fun j hj hj2=>?_) hl
     exact mg (o:=⟨_,_, -1⟩) hay hwk (by omega) (by omega) (by omega)
/-! ### lengths -/
theorem A0 {c:Cell} (h:bx c=0):(fj c).length≤16:=by
 rcases gk h with ⟨a,rfl,h0,h1⟩ | ⟨a,rfl,h0,h1⟩ | rfl | rfl | ⟨n,rfl,hn⟩ | ⟨n,rfl,hn⟩
 · show (Lib.itoa a).length≤16
   rw [jm h0]
   have:=j8 13 a.toNat (by omega); omega
 · show (Lib.itoa a++[105]).length≤16
   rw [jm h0,ag]
   have:=j8 7 a.toNat (by omega)
   simp only [ah,aj]; omega
 · decide
 · decide
 · have:=(fD hn).2.2.2.2.2.2.2
   show n.length≤16
   simp only [af] at this; omega
 · have:=(fD hn).2.2.2.2.2.2.2
   have e:fj ⟨6,0,n⟩=[105,110,40]++n++[41]:=rfl
   rw [e]
   simp only [af,ag,ah,aj] at *; omega
theorem kH (op:Int):(ax op).1.length≤2:=by
 have h2:∀ (b:Bool) (x y:Str×Int),x.1.length≤2→y.1.length≤2→(bif b then x else y).1.length≤2:=by intro b x y hx hy; cases b <;> assumption
 unfold ax
 repeat' (first | exact (by decide) | refine h2 _ _ _ ?_ ?_)
theorem ej (p:Int) (b:Str) (q:Int):(cj p b q).length≤b.length+2:=by
 unfold cj
 cases decide (p<q)
 · show b.length≤_; omega
 · show ([40]++b++[41]).length≤_
   simp only [ag,ah,aj]; omega
theorem A3 (t:Tm) (ht:t.ok):t.body.length≤16 * t.flat.length∧∀ p,p≤7→(t.tin p).length≤16 * t.flat.length:=by
 induction t with
 | leaf c =>
   have h:(Tm.leaf c).body.length≤16 * (Tm.leaf c).flat.length:=by have:=A0 ht; show (fj c).length≤16 * 1; omega
   refine ⟨h,fun p hp=>?_⟩
   have hpw:(Tm.leaf c).pow=7:=by
    rcases gk ht with ⟨a,rfl,_⟩ | ⟨a,rfl,_⟩ | rfl | rfl | ⟨n,rfl,_⟩ | ⟨n,rfl,_⟩ <;> rfl
   rw [Tm.tin_body (by omega)]; exact h
 | un c t ih =>
   have h1:=(ih ht.2).1
   have h2:(Tm.un c t).body.length+2≤16 * (Tm.un c t).flat.length:=by
    show (unS c.op t.body t.pow).length+2≤16 * (t.flat++[c]).length
    have hs:=kH c.op
    have hp:=ej t.pow t.body 6
    unfold unS
    simp only [cond_eq_ite]
    repeat' split
    all_goals (simp only [ag,ah,aj] at *; omega)
   exact ⟨by omega,fun p _=>by have:=ej (Tm.un c t).pow (Tm.un c t).body p; unfold Tm.tin; omega⟩
 | bin c t u ih1 ih2 =>
   have h1:=(ih1 ht.2.1).1
   have h3:=(ih2 ht.2.2).1
   have h2:(Tm.bin c t u).body.length+2≤16 * (Tm.bin c t u).flat.length:=by
    show (j4 c.op t.body t.pow u.body u.pow).length+2≤16 * (t.flat++u.flat++[c]).length
    have hs:=kH c.op
    have hp:=ej t.pow t.body (gx (ax c.op).2)
    have hp2:=ej u.pow u.body ((ax c.op).2+1)
    unfold j4
    simp only [ag,ah,aj] at *; omega
   exact ⟨by omega,fun p _=>by have:=ej (Tm.bin c t u).pow (Tm.bin c t u).body p; unfold Tm.tin; omega⟩
theorem EF {t:Tm} (ht:t.ok) (hl:t.flat.length≤32):aR t.body=(t.flat,0,0):=by
 have hp:=t.pow_bounds ht
 have hB:=(Er (s:=t.body) t ht).2 1 (by omega) (by omega)
 rw [Tm.tin_body hp.1] at hB
 have ha:At t.body 0 (t.body++[]):=⟨cd _,by simp [af],by simp⟩
 have hr:=hB.full (by omega) (by omega) (out:=[]) (q:=0) ha trivial (.inl rfl) (by omega)
 have hb:=(A3 t ht).1
 unfold aR
 rw [NG hr]
 have hsl:af t.body=(t.body.length:Int):=rfl
 rw [if_neg (by omega),if_neg (by show ¬(-1:Int)≥0; omega),if_neg (by show ¬0+af t.body<af t.body; omega),if_neg (by show ¬(([]++t.flat).length:Int)>32; rw [bN]; omega)]
 rfl
end Go.Proofs.YtpfidgnkokidoaaGreatDoor

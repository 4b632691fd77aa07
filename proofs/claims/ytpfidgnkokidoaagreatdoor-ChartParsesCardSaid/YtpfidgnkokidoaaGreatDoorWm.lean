/- Plain: numbers' texts, points' texts. Conditions: each theorem's own. Plain: a chart's text; what is told is read. Conditions: each theorem's own. Plain: a chart's text is read to the chart; what is read is a chart whose text is no longer. Conditions: each theorem's own. Plain: what is read is a chart that may be, its text no longer. Conditions: each theorem's own. Plain: charts that are read. Conditions: each theorem's own. Contracts: the blocks of a chart that is read, under whichever numbers. Conditions: none. -/
import Derived.Test.YtpfidgnkokidoaaGreatDoorShelfi
import Derived.Test.YtpfidgnkokidoaaGreatDoorMp
import Derived.Test.YtpfidgnkokidoaaGreatDoorXc
import Derived.Test.YtpfidgnkokidoaaGreatDoorWj
import Derived.Test.YtpfidgnkokidoaaGreatDoorDa
import Derived.Test.YtpfidgnkokidoaaGreatDoorVc
namespace Go.Proofs.YtpfidgnkokidoaaGreatDoor
open Go Go.Ev
set_option maxRecDepth 100000
/-! ### a number is told by the text that is read -/
variable {a:Int} {c:UInt8}
theorem jo (h:isD c=true):48≤c.toNat∧c.toNat≤57:=by
 simp only [isD,af,decide_eq_true_eq] at h; omega
theorem M3 (h1:48≤c.toNat) (h2:c.toNat≤57):isD c=true:=by
 simp only [isD,af,decide_eq_true_eq]; omega
theorem sN (h:isD c=true):UInt8.ofNat (48+(c.toNat - 48))=c:=by
 have:=jo h
 apply cy.1
 rw [show 48+(c.toNat - 48)=c.toNat by omega]
 simp
theorem Ib (n:Nat):∀ l:List UInt8,l.length=n→l.all isD=true→l≠[]→(l.length=1∨(l.getD 0 0).toNat≠48)→Lib.decDigits (cI 0 l)=l:=by
 induction n with
 | zero=>intro l h _ hn; exact absurd (bj.1 h) hn
 | succ n ih =>
   intro l hl hd hn h0
   obtain ⟨r,c,rfl⟩:∃ r c,l=r++[c]:=⟨l.dropLast,l.getLast hn,(List.dropLast_concat_getLast hn).symm⟩
   rw [cN,af] at hd
   have hc:isD c=true:=by simpa using hd.2
   have hcn:=jo hc
   rw [mG]
   cases r with
   | nil =>
     have h9:c.toNat - 48<10:=by omega
     have e:10 * cI 0 []+(c.toNat - 48)=c.toNat - 48:=by show 10 * 0+(c.toNat - 48)=_; omega
     rw [e,Lib.decDigits_one h9,sN hc]; rfl
   | cons x r =>
     have hx:x.toNat≠48:=by
      rcases h0 with h0 | h0
      · simp at h0
      · simpa using h0
     have hxd:isD x=true:=by have:=hd.1; simp only [bA,af] at this; exact this.1
     have hge:1≤cI 0 (x::r):=by
      have:=mP r (10 * 0+(x.toNat - 48))
      have h2:=jo hxd
      show 1≤cI (10 * 0+(x.toNat - 48)) r
      omega
     have e:=ih (x::r) (by simp at hl ⊢; omega) hd.1 (by simp) (.inr (by simpa using hx))
     generalize cI 0 (x::r)=v at hge e ⊢
     rw [Lib.decDigits,dif_neg (by omega),show (10 * v+(c.toNat - 48)) / 10=v by omega,show (10 * v+(c.toNat - 48)) % 10=c.toNat - 48 by omega,e,sN hc]
theorem F3 (h:isD c=true):kB c=false:=by
 have:=jo h
 cases hb:kB c
 · rfl
 · simp only [kB,aA,beq_iff_eq] at hb
   rcases hb with rfl | rfl <;> simp at this
/-! ### a point's text in parts -/
theorem gl {n:Int} (h : -1099511627776≤n) (h':n≤1099511627776):dz (Lib.itoa n)=true∧aZ (Lib.itoa n)=n:=by
 have hn:=IV n
 rw [if_neg (by omega)] at hn
 have hf:fh (Lib.itoa n)=false:=by
  cases hb:fh (Lib.itoa n)
  · rfl
  · rw [aQ,if_pos hb] at hn; simp at hn
 rw [aQ,if_neg (by rw [hf]; simp)] at hn
 split at hn
 · simp at hn
 · rename_i hv
   obtain ⟨g1,g2⟩:=lU hf
   have hok:dz (Lib.itoa n)=true:=by
    cases hb:dz (Lib.itoa n)
    · have:=g2 hb; omega
    · rfl
   refine ⟨hok,?_⟩
   rw [g1 hok]
   simpa using hn
theorem eO (h:pIn a=true) : -1048576≤a∧a≤1048576:=by
 simp only [pIn,af,decide_eq_true_eq] at h; exact h
theorem kJ (h:pIn a=true):(Lib.itoa a).length≤8∧0<(Lib.itoa a).length:=by
 have:=eO h
 unfold Lib.itoa
 split
 · have h1:=sG 6 a.natAbs (by omega)
   simp only [ai]; omega
 · have h1:=sG 6 a.toNat (by omega)
   have h2:=(js a.toNat).2.1
   exact ⟨by omega,dW.2 h2⟩
theorem Du (a b:Int):∃ c d,kB c=true∧d.all isD=true∧gB a b=Lib.itoa a++c::(d++[105])∧d=Lib.decDigits b.natAbs∧(b<0→c=45∧Lib.itoa b=45::d)∧(¬b<0→c=43∧Lib.itoa b=d):=by
 by_cases hb:b<0
 · refine ⟨45,Lib.decDigits b.natAbs,by decide,(js _).1,?_,rfl,fun _=>⟨rfl,by unfold Lib.itoa; rw [if_pos hb]⟩,fun h=>absurd hb h⟩
   show Lib.itoa a++(if b<0 then [] else [43])++Lib.itoa b++[105]=_
   rw [if_pos hb,show Lib.itoa b=45::Lib.decDigits b.natAbs by unfold Lib.itoa; rw [if_pos hb]]; simp
 · have e:b.natAbs=b.toNat:=by omega
   refine ⟨43,Lib.decDigits b.natAbs,by decide,(js _).1,?_,rfl,fun h=>absurd h hb,fun _=>⟨rfl,by unfold Lib.itoa; rw [if_neg hb,e]⟩⟩
   show Lib.itoa a++(if b<0 then [] else [43])++Lib.itoa b++[105]=_
   rw [if_neg hb,show Lib.itoa b=Lib.decDigits b.natAbs by unfold Lib.itoa; rw [if_neg hb,e]]; simp
theorem mE {s:Str} {a b:Int} (h:lv s (a,b)):aN s=((Lib.itoa a).length:Int)∧s.length≤20∧0<(Lib.itoa a).length∧s.take (Lib.itoa a).length=Lib.itoa a∧Lib.trimPrefix (Lib.trimSuffix (s.drop (Lib.itoa a).length) [105]) [43]=Lib.itoa b:=by
 obtain ⟨ha,hb,hs⟩:=h
 have ha:pIn a=true:=ha
 have hb:pIn b=true:=hb
 obtain ⟨c,d,hc,hd,e,ed,h1,h2⟩:=Du a b
 have hs':s=Lib.itoa a++c::(d++[105]):=by rw [← e]; exact hs.symm
 have hla:=kJ ha
 have hlb:=kJ hb
 subst hs'
 have hdl:d.length≤8:=by
  by_cases hn:b<0
  · have:=congrArg List.length (h1 hn).2; simp at this; omega
  · have:=congrArg List.length (h2 hn).2; omega
 have hsuf:Lib.trimSuffix (c::(d++[105])) [105]=c::d:=by
  have hh:Lib.hasSuffix (c::(d++[105])) [105]=true:=by
   unfold Lib.hasSuffix; rw [List.isSuffixOf_iff_suffix]; exact ⟨c::d,by simp⟩
  unfold Lib.trimSuffix
  rw [if_pos hh]
  have:c::(d++[105])=(c::d)++[105]:=by simp
  rw [this,List.take_left' (by simp)]
 refine ⟨CH hc fun x hx=>?_,by simp; omega,hla.2,List.take_left,?_⟩
 · rcases bz.1 hx with hx | hx
   · exact F3 (an.1 hd x hx)
   · simp only [aY] at hx; subst hx; rfl
 · rw [dF,hsuf]
   by_cases hn:b<0
   · obtain ⟨rfl,e2⟩:=h1 hn
     rw [e2]; rfl
   · obtain ⟨rfl,e2⟩:=h2 hn
     rw [e2]; rfl
end Go.Proofs.YtpfidgnkokidoaaGreatDoor
namespace Go.Proofs.YtpfidgnkokidoaaGreatDoor
open Go Go.Ev
set_option maxRecDepth 100000
def orS (s:Str):Str:=if s=[] then dash else s
def NI (l:List Cell):Str:=if ir l=true then KO l else []
variable (c:Chart) (n:Nat) (k:Int) (l:List Deed) (ls:List (Nat×List Str)) (s:Ev.Stat) (t:Tran) (v:Var)
def Fq:Str:=if qM l=true then On l else []
def Oh:Str:=if k=1 then gu else if k=2 then jf else if k=3 then hO else if k=4 then gx else if k=5 then eY else hP
def Pb:List Str :=
 if v.kind=2 then [jC,v.name,if v.init.a=1 then ei else fF]
 else if v.kind=3 then [gT,v.name,Lib.itoa v.lo,Lib.itoa v.hi,gB v.init.a v.init.b]
 else [jd,v.name,Lib.itoa v.lo,Lib.itoa v.hi,Lib.itoa v.init.a]
def OO:List Str:=Oh s.kind::s.name::(if s.initial=[] then [] else [s.initial])
def OE:List Str:=[wOn,orS t.event,orS (NI t.guard),orS t.dst,orS (Fq t.acts)]
def GS (d:Nat) (w:Str) (l:List Deed):List (Nat×List Str):=if l=[] then [] else [(d+1,[w,Fq l])]
def Ol (i:Nat) (s :  Ev.Stat):List (Nat×List Str) :=
 (s.depth.toNat,OO s)::(GS s.depth.toNat gr s.entry++(GS s.depth.toNat iG s.leave++(c.trans.filter fun t=>t.src==(i:Int)).map fun t=>(s.depth.toNat+1,OE t)))
def Nr:List (Nat×List Str):=(List.range n).flatMap fun i=>Ol c i (ETy.get .stat c.states i)
def Nz:List (Nat×List Str):=(0,[yE,c.name])::(c.events.map (fun e=>(0,[iD,e]))++(c.vars.map (fun v=>(0,Pb v))++Nr c c.states.length))
def qz (l:Nat×List Str):Str:=iW l.1++kb l.2
def Of:Str:=ls.flatMap fun l=>qz l++[10]
def DD:Str:=Of (Nz c)
/-! which charts are read out of texts -/
def su (n:Int):Bool:=decide (-1099511627776≤n)&&decide (n≤1099511627776)
def Kd:Bool:=aC v.name&&(bif v.kind==1 then su v.lo&&(su v.hi&&(v.init.kind==1&&(su v.init.a&&v.init.b==0))) else bif v.kind==2 then v.lo==0&&(v.hi==1&&(v.init.kind==2&&((v.init.a==0||v.init.a==1)&&v.init.b==0))) else v.kind==3&&(su v.lo&&(su v.hi&&(v.init.kind==3&&(pIn v.init.a&&pIn v.init.b)))))
def DK:Bool:=l.isEmpty||qM l
def Pd:Bool:=k==2||(k==5||k==6)
def E7:Bool:=decide (1≤s.kind)&&(decide (s.kind≤6)&&(aC s.name&&(decide (0≤s.depth)&&((bif Pd s.kind then aC s.initial else s.initial==[])&&(DK s.entry&&DK s.leave)))))
def rZ:Int→List Ev.Stat→Bool
 | _,[]=>true
 | m,s::r=>decide (s.depth≤m)&&rZ (s.depth+1) r
def Gx:Bool:=decide (0≤t.src)&&(decide (t.src<n)&&((t.event==[]||cg t.event)&&((t.guard.isEmpty||ir t.guard)&&((t.dst==[]||aC t.dst)&&DK t.acts))))
structure WfC (c:Chart):Prop where
 name:aC c.name=true
 events:c.events.all aC=true
 vars:c.vars.all Kd=true
 states:c.states.all E7=true
 depths:rZ 0 c.states=true
 trans:c.trans.all (Gx c.states.length)=true
 sorted:c.trans.Pairwise fun t u=>t.src≤u.src
/-! ### words that may stand in a line -/
/-! ### lines told, and read -/
theorem Dn {c:Chart} {k:Nat} (hk:k≠0) {d:Nat} {w:Str} {r:List Str} (h:(w::r).all db=true):cd c k (qz (d,w::r))=bF c (d:Nat) w r:=by
 obtain ⟨h1,h2⟩:=CC d (by simp) h
 have e1:aM (qz (d,w::r))=d:=h1
 have e2:au (qz (d,w::r))=w::r:=h2
 have hok:eR (qz (d,w::r))=true:=by unfold eR; rw [e2]; exact h
 rw [cd,if_pos hok,if_neg hk,e1,e2]; rfl
def Rd1 (c':Chart):Prop:=∀ k,k≠0→eF c k (ls.map qz)=(c',none)
theorem Rd1.nil:Rd1 c [] c:=fun _ _=>rfl
theorem Rd1.app {a b:List (Nat×List Str)} {c c' c'':Chart} (h:Rd1 c a c') (h':Rd1 c' b c''):Rd1 c (a++b) c'':=by
 intro k hk
 rw [fe,oJ,h k hk]
 exact h' _ (by omega)
theorem Rd1.one {d:Nat} {w:Str} {r:List Str} {c c':Chart} (h:(w::r).all db=true) (e:bF c (d:Nat) w r=some c'):Rd1 c [(d,w::r)] c':=by
 intro k hk
 simp only [aJ,cZ,eF,Dn hk h,e]
theorem Rd1.cons {x:Nat×List Str} {b:List (Nat×List Str)} {c c' c'':Chart} (h:Rd1 c [x] c') (h':Rd1 c' b c''):Rd1 c (x::b) c'':=Rd1.app (a:=[x]) h h'
theorem vC {a b x y:Int} (h1:pIn a=true) (h2:pIn b=true) (h3:pIn x=true) (h4:pIn y=true) (h:gB a b=gB x y):a=x∧b=y:=by
 have f1:=mE (s:=gB a b) (a:=a) (b:=b) ⟨h1,h2,rfl⟩
 have f2:=mE (s:=gB a b) (a:=x) (b:=y) ⟨h3,h4,h.symm⟩
 have hl:(Lib.itoa a).length=(Lib.itoa x).length:=by have:=f1.1.symm.trans f2.1; omega
 have e1:Lib.itoa a=Lib.itoa x:=by rw [← f1.2.2.2.1,← f2.2.2.2.1,hl]
 have e2:Lib.itoa b=Lib.itoa y:=by rw [← f1.2.2.2.2,← f2.2.2.2.2,hl]
 have p1:=eO h1; have p2:=eO h2; have p3:=eO h3; have p4:=eO h4
 have g1:=(gl (n:=a) (by omega) (by omega)).2
 have g2:=(gl (n:=x) (by omega) (by omega)).2
 have g3:=(gl (n:=b) (by omega) (by omega)).2
 have g4:=(gl (n:=y) (by omega) (by omega)).2
 rw [e1] at g1; rw [e2] at g3
 exact ⟨g1.symm.trans g2,g3.symm.trans g4⟩
/-! ### states -/
end Go.Proofs.YtpfidgnkokidoaaGreatDoor
namespace Go.Proofs.YtpfidgnkokidoaaGreatDoor
open Go Go.Ev
set_option maxRecDepth 100000
/-! ### lines between line feeds -/
theorem Ct {w:Str} (h:db w=true):w.all dS=true:=by simp only [db,af] at h; exact h.2
/-! ### the states, one by one -/
end Go.Proofs.YtpfidgnkokidoaaGreatDoor
namespace Go.Proofs.YtpfidgnkokidoaaGreatDoor
open Go Go.Ev
set_option maxRecDepth 100000
/-! ### blocks' and guards' texts are no longer than what was read -/
/-! ### lengths of lines -/
/-! ### a line's words -/
theorem jL {c:Chart} {d:Int} {w:List Str} {n:Nat} (h:de c d w (n:Int)=true):d=0∧c.states=[]∧w.length=n∧aC (ag w 0)=true:=by
 simp only [de,af,beq_iff_eq] at h
 obtain ⟨⟨⟨h1,h2⟩,h3⟩,h4⟩:=h
 exact ⟨h1,bj.1 (by omega),by omega,h4⟩
/-! ### charts under way -/
structure Pre (c:Chart):Prop where
 events:c.events.all aC=true
 vars:c.vars.all Kd=true
 states:c.states.all E7=true
 depths:rZ 0 c.states=true
 trans:c.trans.all (Gx c.states.length)=true
 sorted:c.trans.Pairwise fun t u=>t.src≤u.src
theorem Pre.zero:Pre eJ:=⟨rfl,rfl,rfl,rfl,rfl,.nil⟩
end Go.Proofs.YtpfidgnkokidoaaGreatDoor
namespace Go.Proofs.YtpfidgnkokidoaaGreatDoor
open Go Go.Ev
set_option maxRecDepth 100000
def okC (c:Chart):Prop:=WfC c∧(DD c).length≤6000
end Go.Proofs.YtpfidgnkokidoaaGreatDoor
namespace Go.Proofs.YtpfidgnkokidoaaGreatDoor
open Go Go.Ev
set_option maxRecDepth 100000
variable (c:Chart) {f:FuncId} {fn:Func} {args:List SX} {ck:List Chunk} (d:Int)
abbrev Jb:List Chunk:=[Chunk.cells [SC.pd (PD.str c.name),SC.own 1,SC.own 2,SC.own 3,SC.own 4,SC.i d] 45,Chunk.own 9 ETy.str c.events,Chunk.own 61 ETy.var c.vars,Chunk.own 64 ETy.stat c.states,Chunk.own 68 ETy.tran c.trans]
abbrev N0:List Chunk:=[Chunk.cells [SC.pd (PD.str c.name),SC.own 5,SC.own 2,SC.own 3,SC.own 4,SC.i d] 45,Chunk.dead,Chunk.own 61 ETy.var c.vars,Chunk.own 64 ETy.stat c.states,Chunk.own 68 ETy.tran c.trans,Chunk.own 9 ETy.str c.events]
abbrev Nk:List Chunk:=[Chunk.cells [SC.pd (PD.str c.name),SC.own 1,SC.own 5,SC.own 3,SC.own 4,SC.i d] 45,Chunk.own 9 ETy.str c.events,Chunk.dead,Chunk.own 64 ETy.stat c.states,Chunk.own 68 ETy.tran c.trans,Chunk.own 61 ETy.var c.vars]
abbrev Np:List Chunk:=[Chunk.cells [SC.pd (PD.str c.name),SC.own 1,SC.own 2,SC.own 5,SC.own 4,SC.i d] 45,Chunk.own 9 ETy.str c.events,Chunk.own 61 ETy.var c.vars,Chunk.dead,Chunk.own 68 ETy.tran c.trans,Chunk.own 64 ETy.stat c.states]
abbrev Nx:List Chunk:=[Chunk.cells [SC.pd (PD.str c.name),SC.own 1,SC.own 2,SC.own 3,SC.own 5,SC.i d] 45,Chunk.own 9 ETy.str c.events,Chunk.own 61 ETy.var c.vars,Chunk.own 64 ETy.stat c.states,Chunk.dead,Chunk.own 68 ETy.tran c.trans]
abbrev ckR:List Chunk:=[Chunk.cells [SC.pd (PD.str c.name),SC.own 5,SC.own 6,SC.own 7,SC.own 8,SC.i d] 45,Chunk.dead,Chunk.dead,Chunk.dead,Chunk.dead,Chunk.own 9 ETy.str c.events,Chunk.own 61 ETy.var c.vars,Chunk.own 64 ETy.stat c.states,Chunk.own 68 ETy.tran c.trans]
abbrev fW:List Chunk:=[Chunk.cells [SC.pd (PD.str c.name),SC.own 1,SC.own 2,SC.own 3,SC.own 4] 27,Chunk.own 9 ETy.str c.events,Chunk.own 61 ETy.var c.vars,Chunk.own 64 ETy.stat c.states,Chunk.own 68 ETy.tran c.trans]
abbrev HO:List Chunk:=[Chunk.cells [SC.pd (PD.str c.name),SC.own 5,SC.own 2,SC.own 3,SC.own 4] 27,Chunk.dead,Chunk.own 61 ETy.var c.vars,Chunk.own 64 ETy.stat c.states,Chunk.own 68 ETy.tran c.trans,Chunk.own 9 ETy.str c.events]
abbrev xy:List Chunk:=[Chunk.cells [SC.pd (PD.str c.name),SC.own 1,SC.own 5,SC.own 3,SC.own 4] 27,Chunk.own 9 ETy.str c.events,Chunk.dead,Chunk.own 64 ETy.stat c.states,Chunk.own 68 ETy.tran c.trans,Chunk.own 61 ETy.var c.vars]
abbrev H6:List Chunk:=[Chunk.cells [SC.pd (PD.str c.name),SC.own 1,SC.own 2,SC.own 5,SC.own 4] 27,Chunk.own 9 ETy.str c.events,Chunk.own 61 ETy.var c.vars,Chunk.dead,Chunk.own 68 ETy.tran c.trans,Chunk.own 64 ETy.stat c.states]
abbrev NW:List Chunk:=[Chunk.cells [SC.pd (PD.str c.name),SC.own 1,SC.own 2,SC.own 3,SC.own 5] 27,Chunk.own 9 ETy.str c.events,Chunk.own 61 ETy.var c.vars,Chunk.own 64 ETy.stat c.states,Chunk.dead,Chunk.own 68 ETy.tran c.trans]
abbrev ckD:List Chunk:=[Chunk.cells [SC.pd (PD.str c.name),SC.own 5,SC.own 6,SC.own 7,SC.own 8] 27,Chunk.dead,Chunk.dead,Chunk.dead,Chunk.dead,Chunk.own 9 ETy.str c.events,Chunk.own 61 ETy.var c.vars,Chunk.own 64 ETy.stat c.states,Chunk.own 68 ETy.tran c.trans]
def ED:Nat→Nat
 | 1=>5
 | 2=>6
 | 3=>7
 | 4=>8
 | n=>n
def Dm:Nat→Nat
 | 5=>1
 | 6=>2
 | 7=>3
 | 8=>4
 | n=>n
def Ec:Nat→Nat
 | 5=>5
 | 2=>6
 | 3=>7
 | 4=>8
 | n=>n
def CK:Nat→Nat
 | 5=>5
 | 6=>2
 | 7=>3
 | 8=>4
 | n=>n
def CW:Nat→Nat
 | 1=>5
 | 5=>6
 | 3=>7
 | 4=>8
 | n=>n
def Ds:Nat→Nat
 | 5=>1
 | 6=>5
 | 7=>3
 | 8=>4
 | n=>n
def Dl:Nat→Nat
 | 1=>5
 | 2=>6
 | 5=>7
 | 4=>8
 | n=>n
def Ea:Nat→Nat
 | 5=>1
 | 6=>2
 | 7=>5
 | 8=>4
 | n=>n
def Ca:Nat→Nat
 | 1=>5
 | 2=>6
 | 3=>7
 | 5=>8
 | n=>n
def Eb:Nat→Nat
 | 5=>1
 | 6=>2
 | 7=>3
 | 8=>5
 | n=>n
theorem O7:RnW ED Dm 5 (Jb c d) (ckR c d):=by
 refine ⟨fun j x' h=>?_,fun j hj=>?_⟩
 · match j,h with
   | 0,h=>right; exact ⟨_,rfl,(av h).symm,rfl,by simp [Chunk.refs,SC.refs,ED,Dm]⟩
   | 1,h=>left; simpa using h.symm
   | 2,h=>left; simpa using h.symm
   | 3,h=>left; simpa using h.symm
   | 4,h=>left; simpa using h.symm
   | 5,h=>right; exact ⟨_,rfl,(av h).symm,rfl,by simp [Chunk.refs]⟩
   | 6,h=>right; exact ⟨_,rfl,(av h).symm,rfl,by simp [Chunk.refs]⟩
   | 7,h=>right; exact ⟨_,rfl,(av h).symm,rfl,by simp [Chunk.refs]⟩
   | 8,h=>right; exact ⟨_,rfl,(av h).symm,rfl,by simp [Chunk.refs]⟩
   | j+9,h=>simp at h
 · match j,hj with
   | 0,_=>rfl
   | 1,_=>rfl
   | 2,_=>rfl
   | 3,_=>rfl
   | 4,_=>rfl
theorem O0:RnW Ec CK 5 (N0 c d) (ckR c d):=by
 refine ⟨fun j x' h=>?_,fun j hj=>?_⟩
 · match j,h with
   | 0,h=>right; exact ⟨_,rfl,(av h).symm,rfl,by simp [Chunk.refs,SC.refs,Ec,CK]⟩
   | 1,h=>left; simpa using h.symm
   | 2,h=>left; simpa using h.symm
   | 3,h=>left; simpa using h.symm
   | 4,h=>left; simpa using h.symm
   | 5,h=>right; exact ⟨_,rfl,(av h).symm,rfl,by simp [Chunk.refs]⟩
   | 6,h=>right; exact ⟨_,rfl,(av h).symm,rfl,by simp [Chunk.refs]⟩
   | 7,h=>right; exact ⟨_,rfl,(av h).symm,rfl,by simp [Chunk.refs]⟩
   | 8,h=>right; exact ⟨_,rfl,(av h).symm,rfl,by simp [Chunk.refs]⟩
   | j+9,h=>simp at h
 · match j,hj with
   | 0,_=>rfl
   | 1,_=>rfl
   | 2,_=>rfl
   | 3,_=>rfl
   | 4,_=>rfl
theorem O4:RnW CW Ds 5 (Nk c d) (ckR c d):=by
 refine ⟨fun j x' h=>?_,fun j hj=>?_⟩
 · match j,h with
   | 0,h=>right; exact ⟨_,rfl,(av h).symm,rfl,by simp [Chunk.refs,SC.refs,CW,Ds]⟩
   | 1,h=>left; simpa using h.symm
   | 2,h=>left; simpa using h.symm
   | 3,h=>left; simpa using h.symm
   | 4,h=>left; simpa using h.symm
   | 5,h=>right; exact ⟨_,rfl,(av h).symm,rfl,by simp [Chunk.refs]⟩
   | 6,h=>right; exact ⟨_,rfl,(av h).symm,rfl,by simp [Chunk.refs]⟩
   | 7,h=>right; exact ⟨_,rfl,(av h).symm,rfl,by simp [Chunk.refs]⟩
   | 8,h=>right; exact ⟨_,rfl,(av h).symm,rfl,by simp [Chunk.refs]⟩
   | j+9,h=>simp at h
 · match j,hj with
   | 0,_=>rfl
   | 1,_=>rfl
   | 2,_=>rfl
   | 3,_=>rfl
   | 4,_=>rfl
theorem O5:RnW Dl Ea 5 (Np c d) (ckR c d):=by
 refine ⟨fun j x' h=>?_,fun j hj=>?_⟩
 · match j,h with
   | 0,h=>right; exact ⟨_,rfl,(av h).symm,rfl,by simp [Chunk.refs,SC.refs,Dl,Ea]⟩
   | 1,h=>left; simpa using h.symm
   | 2,h=>left; simpa using h.symm
   | 3,h=>left; simpa using h.symm
   | 4,h=>left; simpa using h.symm
   | 5,h=>right; exact ⟨_,rfl,(av h).symm,rfl,by simp [Chunk.refs]⟩
   | 6,h=>right; exact ⟨_,rfl,(av h).symm,rfl,by simp [Chunk.refs]⟩
   | 7,h=>right; exact ⟨_,rfl,(av h).symm,rfl,by simp [Chunk.refs]⟩
   | 8,h=>right; exact ⟨_,rfl,(av h).symm,rfl,by simp [Chunk.refs]⟩
   | j+9,h=>simp at h
 · match j,hj with
   | 0,_=>rfl
   | 1,_=>rfl
   | 2,_=>rfl
   | 3,_=>rfl
   | 4,_=>rfl
theorem OW:RnW Ca Eb 5 (Nx c d) (ckR c d):=by
 refine ⟨fun j x' h=>?_,fun j hj=>?_⟩
 · match j,h with
   | 0,h=>right; exact ⟨_,rfl,(av h).symm,rfl,by simp [Chunk.refs,SC.refs,Ca,Eb]⟩
   | 1,h=>left; simpa using h.symm
   | 2,h=>left; simpa using h.symm
   | 3,h=>left; simpa using h.symm
   | 4,h=>left; simpa using h.symm
   | 5,h=>right; exact ⟨_,rfl,(av h).symm,rfl,by simp [Chunk.refs]⟩
   | 6,h=>right; exact ⟨_,rfl,(av h).symm,rfl,by simp [Chunk.refs]⟩
   | 7,h=>right; exact ⟨_,rfl,(av h).symm,rfl,by simp [Chunk.refs]⟩
   | 8,h=>right; exact ⟨_,rfl,(av h).symm,rfl,by simp [Chunk.refs]⟩
   | j+9,h=>simp at h
 · match j,hj with
   | 0,_=>rfl
   | 1,_=>rfl
   | 2,_=>rfl
   | 3,_=>rfl
   | 4,_=>rfl
def IsR:Out:=fun v k=>v = .x (.b true)∧Rn 5 k (ckR c d)
theorem IsR.of0 {c:Chart} {d:Int} {k:List Chunk} (h:k=Jb c d):IsR c d (.x (.b true)) k:=⟨rfl,by rw [h]; exact ⟨_,_,O7 c d⟩⟩
theorem IsR.of1 {c:Chart} {d:Int} {k:List Chunk} (h:k=N0 c d):IsR c d (.x (.b true)) k:=⟨rfl,by rw [h]; exact ⟨_,_,O0 c d⟩⟩
theorem IsR.of2 {c:Chart} {d:Int} {k:List Chunk} (h:k=Nk c d):IsR c d (.x (.b true)) k:=⟨rfl,by rw [h]; exact ⟨_,_,O4 c d⟩⟩
theorem IsR.of3 {c:Chart} {d:Int} {k:List Chunk} (h:k=Np c d):IsR c d (.x (.b true)) k:=⟨rfl,by rw [h]; exact ⟨_,_,O5 c d⟩⟩
theorem IsR.of4 {c:Chart} {d:Int} {k:List Chunk} (h:k=Nx c d):IsR c d (.x (.b true)) k:=⟨rfl,by rw [h]; exact ⟨_,_,OW c d⟩⟩
theorem ak.isR {c:Chart} {d:Int} (hf:Tryz.prog.funcs[f]?=some fn) (hb:fn.body.isSome=true) (hn:Nat.ble args.length fn.ntmps=true) (hl:ck.length=5)
 (h:∀ Γ,J Tryz.prog f (az fn) Γ (IsR c d) [.code []] (bX fn.ntmps args ck)):ak Tryz.prog f args ck (.x (.b true)) (ckR c d) :=
 ak.renum hf hb hn rfl fun Γ=>J.mono (fun v c q=>⟨q.1,by rw [hl]; exact q.2⟩) (h Γ)
theorem O9:RnW ED Dm 5 (fW c) (ckD c):=by
 refine ⟨fun j x' h=>?_,fun j hj=>?_⟩
 · match j,h with
   | 0,h=>right; exact ⟨_,rfl,(av h).symm,rfl,by simp [Chunk.refs,SC.refs,ED,Dm]⟩
   | 1,h=>left; simpa using h.symm
   | 2,h=>left; simpa using h.symm
   | 3,h=>left; simpa using h.symm
   | 4,h=>left; simpa using h.symm
   | 5,h=>right; exact ⟨_,rfl,(av h).symm,rfl,by simp [Chunk.refs]⟩
   | 6,h=>right; exact ⟨_,rfl,(av h).symm,rfl,by simp [Chunk.refs]⟩
   | 7,h=>right; exact ⟨_,rfl,(av h).symm,rfl,by simp [Chunk.refs]⟩
   | 8,h=>right; exact ⟨_,rfl,(av h).symm,rfl,by simp [Chunk.refs]⟩
   | j+9,h=>simp at h
 · match j,hj with
   | 0,_=>rfl
   | 1,_=>rfl
   | 2,_=>rfl
   | 3,_=>rfl
   | 4,_=>rfl
theorem Pc:RnW Ec CK 5 (HO c) (ckD c):=by
 refine ⟨fun j x' h=>?_,fun j hj=>?_⟩
 · match j,h with
   | 0,h=>right; exact ⟨_,rfl,(av h).symm,rfl,by simp [Chunk.refs,SC.refs,Ec,CK]⟩
   | 1,h=>left; simpa using h.symm
   | 2,h=>left; simpa using h.symm
   | 3,h=>left; simpa using h.symm
   | 4,h=>left; simpa using h.symm
   | 5,h=>right; exact ⟨_,rfl,(av h).symm,rfl,by simp [Chunk.refs]⟩
   | 6,h=>right; exact ⟨_,rfl,(av h).symm,rfl,by simp [Chunk.refs]⟩
   | 7,h=>right; exact ⟨_,rfl,(av h).symm,rfl,by simp [Chunk.refs]⟩
   | 8,h=>right; exact ⟨_,rfl,(av h).symm,rfl,by simp [Chunk.refs]⟩
   | j+9,h=>simp at h
 · match j,hj with
   | 0,_=>rfl
   | 1,_=>rfl
   | 2,_=>rfl
   | 3,_=>rfl
   | 4,_=>rfl
theorem O2:RnW CW Ds 5 (xy c) (ckD c):=by
 refine ⟨fun j x' h=>?_,fun j hj=>?_⟩
 · match j,h with
   | 0,h=>right; exact ⟨_,rfl,(av h).symm,rfl,by simp [Chunk.refs,SC.refs,CW,Ds]⟩
   | 1,h=>left; simpa using h.symm
   | 2,h=>left; simpa using h.symm
   | 3,h=>left; simpa using h.symm
   | 4,h=>left; simpa using h.symm
   | 5,h=>right; exact ⟨_,rfl,(av h).symm,rfl,by simp [Chunk.refs]⟩
   | 6,h=>right; exact ⟨_,rfl,(av h).symm,rfl,by simp [Chunk.refs]⟩
   | 7,h=>right; exact ⟨_,rfl,(av h).symm,rfl,by simp [Chunk.refs]⟩
   | 8,h=>right; exact ⟨_,rfl,(av h).symm,rfl,by simp [Chunk.refs]⟩
   | j+9,h=>simp at h
 · match j,hj with
   | 0,_=>rfl
   | 1,_=>rfl
   | 2,_=>rfl
   | 3,_=>rfl
   | 4,_=>rfl
theorem O6:RnW Dl Ea 5 (H6 c) (ckD c):=by
 refine ⟨fun j x' h=>?_,fun j hj=>?_⟩
 · match j,h with
   | 0,h=>right; exact ⟨_,rfl,(av h).symm,rfl,by simp [Chunk.refs,SC.refs,Dl,Ea]⟩
   | 1,h=>left; simpa using h.symm
   | 2,h=>left; simpa using h.symm
   | 3,h=>left; simpa using h.symm
   | 4,h=>left; simpa using h.symm
   | 5,h=>right; exact ⟨_,rfl,(av h).symm,rfl,by simp [Chunk.refs]⟩
   | 6,h=>right; exact ⟨_,rfl,(av h).symm,rfl,by simp [Chunk.refs]⟩
   | 7,h=>right; exact ⟨_,rfl,(av h).symm,rfl,by simp [Chunk.refs]⟩
   | 8,h=>right; exact ⟨_,rfl,(av h).symm,rfl,by simp [Chunk.refs]⟩
   | j+9,h=>simp at h
 · match j,hj with
   | 0,_=>rfl
   | 1,_=>rfl
   | 2,_=>rfl
   | 3,_=>rfl
   | 4,_=>rfl
theorem Pe:RnW Ca Eb 5 (NW c) (ckD c):=by
 refine ⟨fun j x' h=>?_,fun j hj=>?_⟩
 · match j,h with
   | 0,h=>right; exact ⟨_,rfl,(av h).symm,rfl,by simp [Chunk.refs,SC.refs,Ca,Eb]⟩
   | 1,h=>left; simpa using h.symm
   | 2,h=>left; simpa using h.symm
   | 3,h=>left; simpa using h.symm
   | 4,h=>left; simpa using h.symm
   | 5,h=>right; exact ⟨_,rfl,(av h).symm,rfl,by simp [Chunk.refs]⟩
   | 6,h=>right; exact ⟨_,rfl,(av h).symm,rfl,by simp [Chunk.refs]⟩
   | 7,h=>right; exact ⟨_,rfl,(av h).symm,rfl,by simp [Chunk.refs]⟩
   | 8,h=>right; exact ⟨_,rfl,(av h).symm,rfl,by simp [Chunk.refs]⟩
   | j+9,h=>simp at h
 · match j,hj with
   | 0,_=>rfl
   | 1,_=>rfl
   | 2,_=>rfl
   | 3,_=>rfl
   | 4,_=>rfl
def IsD:Out:=fun v k=>v = .x (.b true)∧Rn 5 k (ckD c)
theorem IsD.of0 {c:Chart} {k:List Chunk} (h:k=fW c):IsD c (.x (.b true)) k:=⟨rfl,by rw [h]; exact ⟨_,_,O9 c⟩⟩
theorem IsD.of1 {c:Chart} {k:List Chunk} (h:k=HO c):IsD c (.x (.b true)) k:=⟨rfl,by rw [h]; exact ⟨_,_,Pc c⟩⟩
theorem IsD.of2 {c:Chart} {k:List Chunk} (h:k=xy c):IsD c (.x (.b true)) k:=⟨rfl,by rw [h]; exact ⟨_,_,O2 c⟩⟩
theorem IsD.of3 {c:Chart} {k:List Chunk} (h:k=H6 c):IsD c (.x (.b true)) k:=⟨rfl,by rw [h]; exact ⟨_,_,O6 c⟩⟩
theorem IsD.of4 {c:Chart} {k:List Chunk} (h:k=NW c):IsD c (.x (.b true)) k:=⟨rfl,by rw [h]; exact ⟨_,_,Pe c⟩⟩
theorem ak.isD {c:Chart} (hf:Tryz.prog.funcs[f]?=some fn) (hb:fn.body.isSome=true) (hn:Nat.ble args.length fn.ntmps=true) (hl:ck.length=5)
 (h:∀ Γ,J Tryz.prog f (az fn) Γ (IsD c) [.code []] (bX fn.ntmps args ck)):ak Tryz.prog f args ck (.x (.b true)) (ckD c) :=
 ak.renum hf hb hn rfl fun Γ=>J.mono (fun v c q=>⟨q.1,by rw [hl]; exact q.2⟩) (h Γ)
def got (o:Option Chart):Chart:=o.getD ⟨[],[],[],[],[]⟩
theorem yX {o:Option Chart} {c:Chart} (h:o=some c):got o=c:=by rw [h]; rfl
end Go.Proofs.YtpfidgnkokidoaaGreatDoor

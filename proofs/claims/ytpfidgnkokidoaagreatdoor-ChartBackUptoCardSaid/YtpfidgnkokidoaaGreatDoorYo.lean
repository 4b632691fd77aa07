/- Contracts: a chart told by the program. Conditions: sizes. Contracts: the layer's example, copies; charts without parts alike. Conditions: each one's own. Contracts: the laws ChartParses, ChartPrefix, ChartNormal, ChartBack. Conditions: each one's own. What an Upto row's bound says of a chart. Conditions: none. -/
import Derived.Test.YtpfidgnkokidoaaGreatDoorYw
import Derived.Test.YtpfidgnkokidoaaGreatDoorYg
import Derived.Test.YtpfidgnkokidoaaGreatDoorXv
import Derived.Test.YtpfidgnkokidoaaGreatDoorWp
import Derived.Test.YtpfidgnkokidoaaGreatDoorUh
import Derived.Test.YtpfidgnkokidoaaGreatDoorMr
import Derived.Test.YtpfidgnkokidoaaGreatDoorMf
import Derived.Test.YtpfidgnkokidoaaGreatDoorUq
import Derived.Test.YtpfidgnkokidoaaGreatDoorWo
import Derived.Test.YtpfidgnkokidoaaGreatDoorWj
import Derived.Test.YtpfidgnkokidoaaGreatDoorWr
import Derived.Test.YtpfidgnkokidoaaGreatDoorYe
import Derived.Test.YtpfidgnkokidoaaGreatDoorShelfi
import Derived.Test.YtpfidgnkokidoaaGreatDoorYh
namespace Go.Proofs.YtpfidgnkokidoaaGreatDoor
open Go Go.Ev
set_option maxRecDepth 100000
abbrev zJ13Yj:=J Tryz.prog 13 (aI Tryz.f13)
structure ShowSz (c:Chart):Prop where
 name:c.name.length≤3000000
 evs:c.events.length≤1000000000
 vrs:c.vars.length≤1000000000
 sts:c.states.length≤1000000000
 trs:c.trans.length≤1000000000
 ev:∀ e∈c.events,e.length≤3000000
 vr:∀ v∈c.vars,BN v∧v.name.length≤3000000
 st:∀ s∈c.states,s.name.length≤3000000∧s.initial.length≤3000000
 tr:∀ t∈c.trans,t.event.length≤3000000∧t.dst.length≤3000000
variable (c:Chart) {a:Str} (b:Str) (Γ:Ctx)
def ShQ:Out:=fun v ck=>(okC c→v = .tup [.s (dx c),.i 0]∧ck=[])∧(¬okC c→v = .tup [.s [],.i 1]∧ck=[])
theorem ShQ.no {c:Chart} (h:¬okC c) {v:SV} {ck:List Chunk} (hv:v = .tup [.s [],.i 1]) (hc:ck=[]):ShQ c v ck:=⟨fun k=>absurd k h,fun _=>⟨hv,hc⟩⟩
theorem ShQ.yes {c:Chart} (h:okC c) {v:SV} {ck:List Chunk} (hv:v = .tup [.s (dx c),.i 0]) (hc:ck=[]):ShQ c v ck:=⟨fun _=>⟨hv,hc⟩,fun k=>absurd h k⟩
def tV:Cfg:=⟨bx,[B1,AN,eBl,yK,DU]⟩
theorem pK:ai Tryz.prog tV.tab:=(ai.cons DK (ai.cons CY (ai.cons HX (ai.cons Li (ai.cons NG ai.nil)))))
theorem mb {H:Mem} {t:ETy} {u:Value} (h:PR H (.v (.slice none 0 0)) u):PR H (.lst t []) u:=by
 cases h; exact .emp t none 0 (fun _=>rfl)
theorem Ec:ak Tryz.prog 31 [.e .chart c,.agg [.pd (.str b),.pd (.v (.slice none 0 0)),.pd (.v (.slice none 0 0)),.pd (.v (.slice none 0 0)),.pd (.v (.slice none 0 0))]] [] (.x (.b (fC c ⟨b,[],[],[],[]⟩))) [] :=
 fun w V vs hw hT hv=>uu c ⟨b,[],[],[],[]⟩ w V vs hw hT (by
  cases hv with | cons g1 hv=>cases hv with | cons g2 hv =>
   cases hv
   refine .cons g1 (.cons ?_ .nil)
   obtain ⟨us,e,hu⟩:=g2
   refine ⟨us,e,?_⟩
   cases hu with | cons h0 hu=>cases hu with | cons h1 hu=>cases hu with | cons h2 hu=>cases hu with | cons h3 hu=>cases hu with | cons h4 hu =>
    cases hu
    exact .cons h0 (.cons (mb h1) (.cons (mb h2) (.cons (mb h3) (.cons (mb h4) .nil)))))
def rQ:Ent:=(31,fun
 | [.agg [.pd (.str a),.pd (.lst .str b),.pd (.lst .var c),.pd (.lst .stat d),.pd (.lst .tran e)],.agg [.pd (.str f),.pd (.v (.slice none 0 0)),.pd (.v (.slice none 0 0)),.pd (.v (.slice none 0 0)),.pd (.v (.slice none 0 0))]],[]=>some (none,.x (.c (.pd (.bool (fC ⟨a,b,c,d,e⟩ ⟨f,[],[],[],[]⟩)))),[])
 | _,_=>none)
theorem Ex:EntOk Tryz.prog rQ:=entOk fun vs ck=>by
 unfold rQ; dsimp only; split
 · rename_i a b c d e f; exact entS fun hp=>Ec ⟨a,b,c,d,e⟩ f
 · exact entN
noncomputable def Lz:Cfg:=⟨bx,[wg,wR,Av,uW]⟩
theorem Je:ai Tryz.prog Lz.tab:=(ai.cons wE (ai.cons w7 (ai.cons Dw (ai.cons Hv ai.nil))))
noncomputable def LI:Cfg:=⟨bx,[wg,wR,EJ,rQ]⟩
theorem KN:ai Tryz.prog LI.tab:=(ai.cons wE (ai.cons w7 (ai.cons L9 (ai.cons Ex ai.nil))))
/-! ### sizes -/
theorem Ez (l:List Cell):(bN l).length≤512:=by
 unfold bN; split
 · exact qv (by assumption)
 · simp
theorem kf (l:List Deed):(aV l).length≤4808:=by
 unfold aV; split
 · exact xm (by assumption)
 · simp
theorem rR (s:Str):(orS s).length≤s.length+1:=by
 unfold orS; split
 · simp [dash]
 · omega
theorem Gj {t:Tran} (ha:a.length≤6000) (h1:t.event.length≤3000000) (h2:t.dst.length≤3000000):(jD a t).length≤10000000:=by
 have g1:=rR t.event; have g2:=rR t.dst; have g3:=rR (bN t.guard); have g4:=rR (aV t.acts)
 have g5:=Ez t.guard; have g6:=kf t.acts
 unfold jD
 simp only [ag,ah,aj]; omega
theorem Ad {a:Str} {i:Int}:∀ {tr:List Tran},(∀ t∈tr,(jD a t).length≤10000000)→(iK a i tr).length≤10000000 * tr.length
 | [],_=>by simp [iK]
 | t::r,h=>by
   have ih:=Ad (a:=a) (i:=i) fun u hu=>h u (aE _ hu)
   have h1:=h t aA
   rw [iK,ah,Nat.mul_succ]
   split
   · rw [ag]; omega
   · omega
theorem vo (d:Int):(hZ d).length≤6000:=by
 have hdep:=Du d
 show (Lib.repeatL [32] (kJ d).toNat).length≤6000
 rw [Lib.repeatL_length]
 show (kJ d).toNat * 1≤6000
 omega
theorem Ix (k:Int):(da k).length≤10:=by
 unfold da jd
 repeat' split
 all_goals decide
theorem O8 {s:Ev.Stat} (ha:a.length≤6000) (h1:s.name.length≤3000000) (h2:s.initial.length≤3000000):(o5 a s).length≤10000000:=by
 have g1:=kf s.entry; have g2:=kf s.leave; have g3:=Ix s.kind
 unfold o5 o4 o2
 repeat' split
 all_goals (simp only [ag,ah,aj]; omega)
theorem Ns {v:Var} (h:BN v) (hn:v.name.length≤3000000):(pvT v).length≤3000200:=by
 obtain ⟨h1,h2,h3,h4,h5⟩:=h
 have a1:=iQ.1 h1; have a2:=iQ.1 h2; have a3:=iQ.1 h3; have a4:=iQ.1 h4
 have l1:=jZ _ a1.1 a1.2; have l2:=jZ _ a2.1 a2.2; have l3:=jZ _ a3.1 a3.2
 have pa:pIn (cP (bY v.init.a v.init.b))=true:=by simp only [pIn,ab,decide_eq_true_eq]; exact sU
 have pb:pIn (cR (bY v.init.a v.init.b))=true:=by simp only [pIn,ab,decide_eq_true_eq]; exact tm
 have l4:=(hP pa).1; have l5:=(hP pb).1
 have l6:(db (cP (bY v.init.a v.init.b)) (cR (bY v.init.a v.init.b))).length≤20:=by
  unfold db; split <;> (simp only [ag,ah,aj]; omega)
 unfold pvT gl
 split
 · have t4:fp.length=4:=rfl
   have t5:fY.length=5:=rfl
   rw [EY]; split <;> (simp only [ag,ah,aj]; omega)
 · split <;> (rw [FW]; simp only [ag,ah,aj]; omega)
theorem tv {α:Type} (f:α→Str) (M:Nat):∀ l:List α,(∀ x∈l,(f x).length≤M)→(l.flatMap f).length≤M * l.length
 | [],_=>by simp
 | x::r,h=>by
   have:=tv f M r fun y hy=>h y (aE _ hy)
   have:=h x aA
   rw [bD,ag,ah,Nat.mul_succ]; omega
theorem Dx {c:Chart} (hz:ShowSz c) (hc:c.events.length+c.vars.length+c.states.length+c.trans.length≤6000):(iZ c++c.events.flatMap evT++c.vars.flatMap pvT).length≤100000000000:=by
 have h1:=tv evT 3000200 c.events fun e he=>by
  have:=hz.ev e he
  unfold evT; simp only [ag,ah,aj]; omega
 have h2:=tv pvT 3000200 c.vars fun v hv=>Ns (hz.vr v hv).1 (hz.vr v hv).2
 have h3:(iZ c).length=c.name.length+7:=by unfold iZ; simp only [ag,ah,aj]; omega
 have h4:=hz.name
 simp only [ag]
 omega
theorem NY {c:Chart} (hz:ShowSz c) (hc:c.events.length+c.vars.length+c.states.length+c.trans.length≤6000) {k:Nat} (hk:k<c.states.length):uG c.states c.trans (k:Int)∧(ke c.states c.trans k).length≤100000000000:=by
 have hs:=hz.st _ (C7 hk)
 have ht:∀ t∈c.trans,(jD (hZ (ETy.get .stat c.states k).depth) t).length≤10000000:=fun t h=>Gj (vo _) (hz.tr t h).1 (hz.tr t h).2
 have h1:=Ad (i:=(k:Int)) ht
 have h2:=O8 (vo (ETy.get .stat c.states k).depth) hs.1 hs.2
 have g1:=kf (ETy.get .stat c.states k).entry; have g2:=kf (ETy.get .stat c.states k).leave
 constructor
 · unfold uG
   rw [bj]
   exact ⟨by omega,by omega,fun t h=>by have:=ht t h; omega,by omega,by omega,by omega,by omega,by omega⟩
 · unfold ke
   rw [bj,ag]
   omega
/-! ### the walk -/
abbrev zYj1 (a:Chart):Chunk:=.cells [.pd (.str a.name),.pd (.lst .str a.events),.pd (.lst .var a.vars),.pd (.lst .stat a.states),.pd (.lst .tran a.trans)] 27
abbrev zYj4:Chunk:=.cells [.loc 1 0,.own 2] 73
abbrev zYj6 (a:Chart) (b:Str):ST:={ n:=85,fr:=[(1,.x (.c (.loc 0 0))),(2,.p (.str [])),(3,.i 0),(4,.x (.c (.loc 1 0)))],ck:=[zYj1 a,zYj4,.own 5 .byte (ints b)] }
theorem NJ (o:Str) (Γ:Ctx) (hne:o≠[]) (he:WfC c→o=dx c):zJ13Yj Γ (ShQ c) [.ops [1,1,1,1,1,1,1,0] 0,.code [1,1,1,1,1,1,1,1]] ((zYj6 c o)):=by
 have hb:kS (ints o):=⟨by rw [me],Dj hne⟩
 have hk:okC c→o=dx c:=fun h=>he h.1
 by_cases hr:gv o
 · refine jg Je Tryz.func13 (.need (kS (ints o)) (.need (gv (gY (ints o))) (.ite (false || !fC c ((br (gY (ints o))).1)) (.ret (.tup [.p (.str []),.i 1]) []) (.ret (.tup [.p (.str (gY (ints o))),.i 0]) [])))) ?_
   rw [me]
   refine ⟨hb,hr,fun h=>?_,fun h=>?_⟩
   · have h':fC c (br o).1=false:=by
      have h2:(!fC c (br o).1)=true:=h
      exact nt h2
     exact ShQ.no (FI hk h') rfl rfl
   · have h':fC c (br o).1=true:=by
      have h2:(!fC c (br o).1)=false:=h
      exact nf h2
     obtain ⟨q1,q2⟩:=KL he hr h'
     refine ShQ.yes q1 ?_ rfl
     show SV.tup [.s o,.i 0]=_
     rw [q2]
 · refine jg KN Tryz.func13 (.need (kS (ints o)) (.need (¬gv (gY (ints o))) (.ite (((br (gY (ints o))).2).2 != (0:Int) || !fC c { name:=[],events:=[],vars:=[],states:=[],trans:=[] }) (.ret (.tup [.p (.str []),.i 1]) []) (.ret (.tup [.p (.str (gY (ints o))),.i 0]) [])))) ?_
   rw [me]
   refine ⟨hb,hr,fun h=>ShQ.no (NV hk hr) rfl rfl,fun h=>?_⟩
   simp only [aJ,bne_eq_false_iff_eq] at h
   exact absurd h.1 hr
abbrev zYj2:List PI:=[.code [1,1,1,1,1,1,0,1,0,0],.inLoop [1,1,1,1,1,1,0,1,0,0],.inBlock 4,.code [1,1,1,1,1,1,1]]
theorem PA (hz:ShowSz c) (hc:c.events.length+c.vars.length+c.states.length+c.trans.length≤6000):∀ (n k:Nat) (o:Str),c.states.length - k≤n→k≤c.states.length→o=pT c k→o.length≤100000000000 →
 zJ13Yj Γ (ShQ c) zYj2 ({ n:=85,fr:=[(1,.x (.c (.loc 0 0))),(2,.p (.str [])),(3,.i 0),(4,.x (.c (.loc 1 0))),(59,.i c.states.length),(60,.i k)],ck:=[zYj1 c,zYj4,.own 5 .byte (ints o)] }):=by
 intro n
 induction n with
 | zero=>?_
 | succ n ih=>?_
 all_goals
  intro k o hn hk ho hl
  refine jg pK Tryz.func13 (.ite (decide ((k:Int)<(c.states.length:Int))) (.need (uG c.states c.trans (k:Int)) (.need ((ints o).length+(ke c.states c.trans (k:Int)).length≤140737488355328) (.ite (decide ((↑((ints o++ints (ke c.states c.trans (k:Int))).length):Int)>6000)) (.ret (.tup [.p (.str []),.i 1]) []) (.stop zYj2 { n:=85,fr:=[(1,.x (.c (.loc 0 0))),(2,.p (.str [])),(3,.i 0),(4,.x (.c (.loc 1 0))),(59,.i c.states.length),(60,.i (IntKind.wrap .i64 ((k:Int)+1)))],ck:=[zYj1 c,zYj4,.own 5 .byte (ints o++ints (ke c.states c.trans (k:Int)))] })))) (.stop [.ops [1,1,1,1,1,1,1,0] 0,.code [1,1,1,1,1,1,1,1]] (zYj6 c o))) ?_
  refine ⟨fun hlt=>?_,fun hge=>?_⟩
  · have hk':k<c.states.length:=by have:=of_decide_eq_true hlt; omega
    obtain ⟨p1,p2⟩:=NY hz hc hk'
    have e1:o++ke c.states c.trans k=pT c (k+1):=by rw [CX,ho]
    have e2:(ints o++ints (ke c.states c.trans k)).length=(pT c (k+1)).length:=by rw [← e1,ag,ag,j1,j1]
    refine ⟨p1,by rw [j1]; omega,fun h=>?_,fun h=>?_⟩
    · have h':=of_decide_eq_true h
      exact ShQ.no (Md (n:=k+1) (by omega) (by omega) (by omega)) rfl rfl
    · have h':=of_decide_eq_false h
      rw [← sV,ee (by omega)]
      first
      | (exfalso; omega)
      | exact J.kn [] (ih (k+1) (o++ke c.states c.trans k) (by omega) (by omega) e1 (by rw [e1]; omega))
  · have hke:k=c.states.length:=by have:=of_decide_eq_false hge; omega
    refine NJ c o Γ ?_ fun w=>?_
    · rw [ho]; unfold pT iZ; simp
    · rw [ho,hke]; exact M9 w (by omega)
abbrev zYj3:List PI:=[.code [1,1,1,1,1,0,1,0,0],.inLoop [1,1,1,1,1,0,1,0,0],.inBlock 2,.code [1,1,1,1,1,1]]
theorem PF (hz:ShowSz c) (hc:c.events.length+c.vars.length+c.states.length+c.trans.length≤6000):∀ (n k:Nat) (o:Str),c.vars.length - k≤n→k≤c.vars.length→o++(c.vars.drop k).flatMap pvT=iZ c++c.events.flatMap evT++c.vars.flatMap pvT →
 zJ13Yj Γ (ShQ c) zYj3 ({ n:=85,fr:=[(1,.x (.c (.loc 0 0))),(2,.p (.str [])),(3,.i 0),(4,.x (.c (.loc 1 0))),(47,.p (.lst .var c.vars)),(48,.i c.vars.length),(49,.i k)],ck:=[zYj1 c,zYj4,.own 5 .byte (ints o)] }):=by
 have ht:=Dx hz hc
 intro n
 induction n with
 | zero=>?_
 | succ n ih=>?_
 all_goals
  intro k o hn hk ho
  refine jg pK Tryz.func13 (.ite (decide ((k:Int)<(c.vars.length:Int))) (.need (inRg k c.vars.length) (.need (BN (ETy.get .var c.vars k)) (.need ((ints o).length+(cr (gl (ETy.get .var c.vars k))++[(10:UInt8)]).length≤140737488355328) (.stop zYj3 { n:=85,fr:=[(1,.x (.c (.loc 0 0))),(2,.p (.str [])),(3,.i 0),(4,.x (.c (.loc 1 0))),(47,.p (.lst .var c.vars)),(48,.i c.vars.length),(49,.i (IntKind.wrap .i64 ((k:Int)+1)))],ck:=[zYj1 c,zYj4,.own 5 .byte (ints o++ints (cr (gl (ETy.get .var c.vars k))++[(10:UInt8)]))] })))) (.stop zYj2 { n:=85,fr:=[(1,.x (.c (.loc 0 0))),(2,.p (.str [])),(3,.i 0),(4,.x (.c (.loc 1 0))),(59,.i c.states.length),(60,.i 0)],ck:=[zYj1 c,zYj4,.own 5 .byte (ints o)] })) ?_
  refine ⟨fun hlt=>?_,fun hge=>?_⟩
  · have hk':k<c.vars.length:=by have:=of_decide_eq_true hlt; omega
    have hv:=hz.vr _ (List.mem_of_getElem? (ETy.getElem?_get (t:=.var) hk'))
    rw [bZ (t:=.var) (l:=c.vars) hk',bD] at ho
    have hlen:=congrArg List.length ho
    rw [ag,ag] at hlen
    generalize ETy.get .var c.vars k=v at *
    have hpv:cr (gl v)++[10]=pvT v:=rfl
    have e1:o++pvT v++(c.vars.drop (k+1)).flatMap pvT=iZ c++c.events.flatMap evT++c.vars.flatMap pvT:=by rw [← ho,aY]
    refine ⟨by omega,hv.1,by show (ints o).length+(pvT v).length≤_; rw [j1]; omega,?_⟩
    show zJ13Yj Γ (ShQ c) _ _
    have e3:ints o++ints (cr (gl v)++[10])=ints (o++pvT v):=(sV o (pvT v)).symm
    have e4:ints o++ints (cr (gl ⟨v.name,v.kind,v.lo,v.hi,⟨v.init.kind,v.init.a,v.init.b⟩⟩)++[10])=ints (o++pvT v):=e3
    rw [e4,ee (by omega)]
    first
    | (exfalso; omega)
    | exact ih (k+1) (o++pvT v) (by omega) (by omega) e1
  · rw [cb (l:=c.vars) (by have:=of_decide_eq_false hge; omega),List.flatMap_nil,bu] at ho
    refine PA c Γ hz hc c.states.length 0 o (by omega) (by omega) ?_ (by rw [ho]; exact ht)
    rw [ho]; unfold pT; simp
abbrev zYj5:List PI:=[.code [1,1,1,1,0,1,0,0],.inLoop [1,1,1,1,0,1,0,0],.inBlock 0,.code [1,1,1,1,1]]
theorem Pi (hz:ShowSz c) (hc:c.events.length+c.vars.length+c.states.length+c.trans.length≤6000):∀ (n k:Nat) (o:Str),c.events.length - k≤n→k≤c.events.length→o++(c.events.drop k).flatMap evT=iZ c++c.events.flatMap evT →
 zJ13Yj Γ (ShQ c) zYj5 ({ n:=85,fr:=[(1,.x (.c (.loc 0 0))),(2,.p (.str [])),(3,.i 0),(4,.x (.c (.loc 1 0))),(35,.p (.lst .str c.events)),(36,.i c.events.length),(37,.i k)],ck:=[zYj1 c,zYj4,.own 5 .byte (ints o)] }):=by
 have ht:=Dx hz hc
 rw [ag] at ht
 intro n
 induction n with
 | zero=>?_
 | succ n ih=>?_
 all_goals
  intro k o hn hk ho
  refine jg pK Tryz.func13 (let x1:=[(101:UInt8),118,101,110,116,32]; let x2:=(x1++ETy.get .str c.events k++[(10:UInt8)]); .ite (decide ((k:Int)<(c.events.length:Int))) (.need (inRg k c.events.length) (.need (6+(ETy.get .str c.events k).length≤9223372036854775807) (.need ((x1++ETy.get .str c.events k).length+1≤9223372036854775807) (.need ((ints o).length+x2.length≤140737488355328) (.stop zYj5 { n:=85,fr:=[(1,.x (.c (.loc 0 0))),(2,.p (.str [])),(3,.i 0),(4,.x (.c (.loc 1 0))),(35,.p (.lst .str c.events)),(36,.i c.events.length),(37,.i (IntKind.wrap .i64 ((k:Int)+1)))],ck:=[zYj1 c,zYj4,.own 5 .byte (ints o++ints x2)] }))))) (.stop zYj3 { n:=85,fr:=[(1,.x (.c (.loc 0 0))),(2,.p (.str [])),(3,.i 0),(4,.x (.c (.loc 1 0))),(47,.p (.lst .var c.vars)),(48,.i c.vars.length),(49,.i 0)],ck:=[zYj1 c,zYj4,.own 5 .byte (ints o)] })) ?_
  conv=>zeta
  refine ⟨fun hlt=>?_,fun hge=>?_⟩
  · have hk':k<c.events.length:=by have:=of_decide_eq_true hlt; omega
    have hv:=hz.ev _ (List.mem_of_getElem? (ETy.getElem?_get (t:=.str) hk'))
    rw [bZ (t:=.str) (l:=c.events) hk',bD] at ho
    have hlen:=congrArg List.length ho
    rw [ag,ag] at hlen
    generalize ETy.get .str c.events k=v at *
    have hpv:[101,118,101,110,116,32]++v++[10]=evT v:=rfl
    have e1:o++evT v++(c.events.drop (k+1)).flatMap evT=iZ c++c.events.flatMap evT:=by rw [← ho,aY]
    refine ⟨by omega,by omega,by simp only [ag,ah,aj]; omega,by rw [hpv,j1]; omega,?_⟩
    rw [hpv,← sV,ee (by omega)]
    first
    | (exfalso; omega)
    | exact ih (k+1) (o++evT v) (by omega) (by omega) e1
  · rw [cb (l:=c.events) (by have:=of_decide_eq_false hge; omega),List.flatMap_nil,bu] at ho
    exact PF c Γ hz hc c.vars.length 0 o (by omega) (by omega) (by rw [ho]; rfl)
theorem CW (hz:ShowSz c) (Γ:Ctx):zJ13Yj Γ (ShQ c) [.code []] (cN Tryz.f13.ntmps [.e .chart c] []):=by
 refine jg pK Tryz.func13 (.ite (decide (IntKind.wrap .i64 (IntKind.wrap .i64 (IntKind.wrap .i64 ((c.events.length:Int)+(c.vars.length:Int))+(c.states.length:Int))+(c.trans.length:Int))>(6000:Int))) (.ret (.tup [.p (.str []),.i 1]) []) (.need (6+c.name.length≤9223372036854775807) (.need (([(99:UInt8),104,97,114,116,32]++c.name).length+1≤9223372036854775807) (.need (([(99:UInt8),104,97,114,116,32]++c.name++[(10:UInt8)]).length≤140737488355328) (.stop zYj5 { n:=85,fr:=[(1,.x (.c (.loc 0 0))),(2,.p (.str [])),(3,.i 0),(4,.x (.c (.loc 1 0))),(35,.p (.lst .str c.events)),(36,.i c.events.length),(37,.i 0)],ck:=[zYj1 c,zYj4,.own 5 .byte (ints ([(99:UInt8),104,97,114,116,32]++c.name++[(10:UInt8)]))] }))))) ?_
 have h1:=hz.evs; have h2:=hz.vrs; have h3:=hz.sts; have h4:=hz.trs; have h5:=hz.name
 have e:IntKind.wrap .i64 (IntKind.wrap .i64 (IntKind.wrap .i64 ((c.events.length:Int)+(c.vars.length:Int))+(c.states.length:Int))+(c.trans.length:Int))=((c.events.length+c.vars.length+c.states.length+c.trans.length:Nat):Int):=by
  rw [cG (n:=(c.events.length:Int)+(c.vars.length:Int)) (by omega) (by omega),cG (n:=(c.events.length:Int)+(c.vars.length:Int)+(c.states.length:Int)) (by omega) (by omega),cG (by omega) (by omega)]
  omega
 rw [e]
 refine ⟨fun h=>?_,fun h=>⟨by omega,by simp only [ag,ah,aj]; omega,by simp only [ag,ah,aj]; omega,?_⟩⟩
 · have h':=of_decide_eq_true h
   refine ShQ.no (fun k=>?_) rfl rfl
   have:=Jo k
   omega
 · have h':=of_decide_eq_false h
   exact Pi c Γ hz (by omega) c.events.length 0 ([99,104,97,114,116,32]++c.name++[10]) (by omega) (by omega) rfl
theorem JS (hz:ShowSz c) (h:okC c):ak Tryz.prog 13 [.e .chart c] [] (.tup [.s (dx c),.i 0]) [] :=
 ak.of Tryz.func13 (by kernel_rfl) (by kernel_rfl) fun Γ=>J.mono (fun v ck hq=>hq.1 h) (CW c hz Γ)
theorem KJ (hz:ShowSz c) (h:¬okC c):ak Tryz.prog 13 [.e .chart c] [] (.tup [.s [],.i 1]) [] :=
 ak.of Tryz.func13 (by kernel_rfl) (by kernel_rfl) fun Γ=>J.mono (fun v ck hq=>hq.2 h) (CW c hz Γ)
def D7:Ent:=(13,fun
 | [.agg [.pd (.str a),.pd (.lst .str b),.pd (.lst .var c),.pd (.lst .stat d),.pd (.lst .tran e)]],[]=>some (some (ShowSz ⟨a,b,c,d,e⟩∧okC ⟨a,b,c,d,e⟩),.tup [.c (.pd (.str (dx ⟨a,b,c,d,e⟩))),.c (.pd (.int .i64 0))],[])
 | _,_=>none)
theorem L8:EntOk Tryz.prog D7:=entOk fun vs ck=>by
 unfold D7; dsimp only; split
 · rename_i a b c d e; exact entS fun hp=>JS ⟨a,b,c,d,e⟩ hp.1 hp.2
 · exact entN
def EH:Ent:=(13,fun
 | [.agg [.pd (.str a),.pd (.lst .str b),.pd (.lst .var c),.pd (.lst .stat d),.pd (.lst .tran e)]],[]=>some (some (ShowSz ⟨a,b,c,d,e⟩∧¬okC ⟨a,b,c,d,e⟩),.tup [.c (.pd (.str [])),.c (.pd (.int .i64 1))],[])
 | _,_=>none)
theorem Nn:EntOk Tryz.prog EH:=entOk fun vs ck=>by
 unfold EH; dsimp only; split
 · rename_i a b c d e; exact entS fun hp=>KJ ⟨a,b,c,d,e⟩ hp.1 hp.2
 · exact entN
end Go.Proofs.YtpfidgnkokidoaaGreatDoor
namespace Go.Proofs.YtpfidgnkokidoaaGreatDoor
open Go Go.Ev
set_option maxRecDepth 100000
theorem ak.sub {P:Program} {f:FuncId} {args args':List SX} {ck ck':List Chunk} {ret:SV} (h:∀ (V:Vn) (vs:List Value),All2 (SX.R V) args vs→All2 (SX.R V) args' vs) (d:ak P f args' ck ret ck'):ak P f args ck ret ck' :=
 fun w V vs hw hT hv=>d w V vs hw hT (h V vs hv)
/-! ### copies -/
variable (n:Str) (a:List Str) (b:List Var) (c:List Ev.Stat) (d:List Tran)
def Ac:Bool:=decide ((c.length:Int)>200)||decide ((d.length:Int)>200)
def oj:Prop:=room a.length 16∧(room b.length 64∧(room c.length 96∧room d.length 88))
theorem Ch (h:oj a b c d):ak Tryz.prog 14 [.agg [.pd (.str n),.pd (.lst .str a),.pd (.lst .var b),.pd (.lst .stat c),.pd (.lst .tran d)]] [] (.x (.agg [.pd (.str n),.own 0,.own 1,.own 2,.own 3])) [.own 9 .str a,.own 61 .var b,.own 64 .stat c,.own 68 .tran d]:=by
 refine dg bG Tryz.func14 (.need (room (([]++a).length) 16) (.need (room (([]++b).length) 64) (.need (room (([]++c).length) 96) (.need (room (([]++d).length) 88) (.ret (.x (.agg [.pd (.str n),.own 0,.own 1,.own 2,.own 3])) [.own 9 .str ([]++a),.own 61 .var ([]++b),.own 64 .stat ([]++c),.own 68 .tran ([]++d)]))))) fun Γ=>?_
 exact ⟨h.1,h.2.1,h.2.2.1,h.2.2.2,rfl,rfl⟩
def oD:Ent:=(14,fun
 | [.agg [.pd (.str n),.pd (.lst .str a),.pd (.lst .var b),.pd (.lst .stat c),.pd (.lst .tran d)]],[]=>some (some (oj a b c d),.x (.agg [.pd (.str n),.own 0,.own 1,.own 2,.own 3]),[.own 9 .str a,.own 61 .var b,.own 64 .stat c,.own 68 .tran d])
 | _,_=>none)
theorem vn:EntOk Tryz.prog oD:=entOk fun vs ck=>by
 unfold oD; dsimp only; split
 · rename_i n a b c d; exact entS fun hp=>Ch n a b c d hp
 · exact entN
theorem IC:ak Tryz.prog 12 [.agg [.pd (.str n),.pd (.lst .str a),.pd (.lst .var b),.pd (.lst .stat c),.pd (.lst .tran d)]] [] (.x (.b (Ac c d))) []:=by
 refine dg bG Tryz.func12 (.ret (.p (.bool (decide ((c.length:Int)>200)||decide ((d.length:Int)>200)))) []) fun Γ=>?_
 exact ⟨rfl,rfl⟩
def uA:Ent:=(12,fun
 | [.agg [.pd (.str n),.pd (.lst .str a),.pd (.lst .var b),.pd (.lst .stat c),.pd (.lst .tran d)]],[]=>some (none,.x (.c (.pd (.bool (Ac c d)))),[])
 | _,_=>none)
theorem BJ:EntOk Tryz.prog uA:=entOk fun vs ck=>by
 unfold uA; dsimp only; split
 · rename_i n a b c d; exact entS fun hp=>IC n a b c d
 · exact entN
end Go.Proofs.YtpfidgnkokidoaaGreatDoor
namespace Go.Proofs.YtpfidgnkokidoaaGreatDoor
open Go Go.Ev
set_option maxRecDepth 100000
/-! ### what is read is small -/
/-! ### ChartParses -/
/-! ### ChartPrefix -/
/-! ### ChartNormal -/
/-! ### ChartBack -/
noncomputable def IU:Cfg:=⟨bx,[Av,ri,uv,D7,oD,uA]⟩
theorem HT:ai Tryz.prog IU.tab:=(ai.cons Dw (ai.cons xp (ai.cons Gw (ai.cons L8 (ai.cons vn (ai.cons BJ ai.nil))))))
def ID:Cfg:=⟨bx,[ri,EH,oD,uA]⟩
theorem IG:ai Tryz.prog ID.tab:=(ai.cons xp (ai.cons Nn (ai.cons vn (ai.cons BJ ai.nil))))
theorem yo (c:Chart) (hz:ShowSz c) (hs:SmallC c) (hr:oj c.events c.vars c.states c.trans):ak Tryz.prog 5 [.e .chart c] [] (.x (.b true)) []:=by
 by_cases hk:okC c
 · have hb:=Dg hk
   have hrd:gv (dx c):=by show (br (dx c)).2.2=0; rw [hb]
   refine dg HT Tryz.func5 (.ite false (.ret (.p (.bool false)) []) (.ite (Ac c.states c.trans) (.ret (.p (.bool true)) []) (.need (oj c.events c.vars c.states c.trans) (.need (ShowSz c∧okC c) (.ite false (.ret (.p (.bool false)) []) (.need (gv (dx c)) (.need (true=true→SmallC c) (.ret (.p (.bool (true&&fC c ((br (dx c)).1)))) [])))))))) fun Γ=>?_
   refine ⟨fun h0=>absurd h0 (by decide),fun _=>⟨fun _=>⟨rfl,rfl⟩,fun _=>⟨hr,⟨hz,hk⟩,fun h0=>absurd h0 (by decide),fun _=>⟨hrd,fun _=>hs,?_,rfl⟩⟩⟩⟩
   show SV.x (.b (true&&fC c (br (dx c)).1))=_
   rw [hb]
   simp [vP]
 · refine dg IG Tryz.func5 (.ite false (.ret (.p (.bool false)) []) (.ite (Ac c.states c.trans) (.ret (.p (.bool true)) []) (.need (oj c.events c.vars c.states c.trans) (.need (ShowSz c∧¬okC c) (.ite true (.ret (.p (.bool true)) []) (.stop [.ops [1,1,1,1,1,0] 1,.code [1,1,1,1,1,1]] { n:=35,fr:=[(1,.x (.c (.loc 0 0))),(2,.p (.bool false)),(23,.p (.str []))],ck:=[.cells [.pd (.str c.name),.pd (.lst .str c.events),.pd (.lst .var c.vars),.pd (.lst .stat c.states),.pd (.lst .tran c.trans)] 27],kn:=[2] })))))) fun Γ=>?_
   exact ⟨fun h0=>absurd h0 (by decide),fun _=>⟨fun _=>⟨rfl,rfl⟩,fun _=>⟨hr,⟨hz,hk⟩,fun _=>⟨rfl,rfl⟩,fun h0=>absurd h0 (by decide)⟩⟩⟩
end Go.Proofs.YtpfidgnkokidoaaGreatDoor
namespace Go.Proofs.YtpfidgnkokidoaaGreatDoor
open Go Go.Ev
theorem vw {n:Int} (h:InI n):tw n=true:=iQ.2 h
theorem J3 {B:Nat} {c:Chart} (h:lv B c) (hB:B≤1048576):ShowSz c∧SmallC c∧oj c.events c.vars c.states c.trans:=by
 obtain ⟨_,h1,⟨h2,e2⟩,⟨h3,e3⟩,⟨h4,e4⟩,⟨h5,e5⟩⟩:=h
 have deeds:∀ {l:List Deed},(∀ d∈l,fm B d)→∀ d∈l,d.expr.length≤1000000:=fun hl d hd=>by
  have:=(hl d hd).2.2.2.1; omega
 refine ⟨⟨by omega,by omega,by omega,by omega,by omega,fun e he=>?_,fun v hv=>?_,fun s hs=>?_,fun t ht=>?_⟩,⟨by omega,by omega,by omega,by omega,fun s hs=>?_,fun t ht=>?_⟩,?_⟩
 · have:=e2 e he; unfold kz at this; omega
 · obtain ⟨_,g1,_,g3,g4,_,_,g6,g7⟩:=e3 v hv
   exact ⟨⟨vw g3,vw g4,vw g6,vw g7,by omega⟩,by omega⟩
 · obtain ⟨_,g1,_,_,g4,_⟩:=e4 s hs
   exact ⟨by omega,by omega⟩
 · obtain ⟨_,_,g2,_,g4,_⟩:=e5 t ht
   exact ⟨by omega,by omega⟩
 · obtain ⟨_,_,_,_,_,⟨_,g5⟩,⟨_,g6⟩⟩:=e4 s hs
   exact ⟨deeds g5,deeds g6⟩
 · obtain ⟨_,_,_,⟨g3,_⟩,_,⟨_,g5⟩⟩:=e5 t ht
   exact ⟨by omega,deeds g5⟩
 · refine ⟨?_,?_,?_,?_⟩ <;> (unfold room maxLen; omega)
end Go.Proofs.YtpfidgnkokidoaaGreatDoor

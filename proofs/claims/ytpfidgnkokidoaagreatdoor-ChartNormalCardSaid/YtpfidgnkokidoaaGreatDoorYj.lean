/- Contracts: a chart told by the program. Conditions: sizes. -/
import Derived.Test.YtpfidgnkokidoaaGreatDoorYw
import Derived.Test.YtpfidgnkokidoaaGreatDoorYg
namespace Go.Proofs.YtpfidgnkokidoaaGreatDoor
open Go Go.Ev
set_option maxRecDepth 100000
abbrev zJ13Yj:=J Tryz.prog 13 (aH Tryz.f13)
structure ShowSz (c:Chart):Prop where
 name:c.name.length≤3000000
 evs:c.events.length≤1000000000
 vrs:c.vars.length≤1000000000
 sts:c.states.length≤1000000000
 trs:c.trans.length≤1000000000
 ev:∀ e∈c.events,e.length≤3000000
 vr:∀ v∈c.vars,wC v∧v.name.length≤3000000
 st:∀ s∈c.states,s.name.length≤3000000∧s.initial.length≤3000000
 tr:∀ t∈c.trans,t.event.length≤3000000∧t.dst.length≤3000000
variable (c:Chart) {a:Str} (b:Str) (Γ:Ctx)
def ShQ:Out:=fun v ck=>(okC c→v = .tup [.s (bW c),.i 0]∧ck=[])∧(¬okC c→v = .tup [.s [],.i 1]∧ck=[])
theorem ShQ.no {c:Chart} (h:¬okC c) {v:SV} {ck:List Chunk} (hv:v = .tup [.s [],.i 1]) (hc:ck=[]):ShQ c v ck:=⟨fun k=>absurd k h,fun _=>⟨hv,hc⟩⟩
theorem ShQ.yes {c:Chart} (h:okC c) {v:SV} {ck:List Chunk} (hv:v = .tup [.s (bW c),.i 0]) (hc:ck=[]):ShQ c v ck:=⟨fun _=>⟨hv,hc⟩,fun k=>absurd h k⟩
def vB:Cfg:=⟨bu,[Az,Bw,eBl,yu,DW]⟩
theorem pA:ai Tryz.prog vB.tab:=(ai.cons CJ (ai.cons C6 (ai.cons Hn (ai.cons I6 (ai.cons LG ai.nil)))))
theorem lT {H:Mem} {t:ETy} {u:Value} (h:PR H (.v (.slice none 0 0)) u):PR H (.lst t []) u:=by
 cases h; exact .emp t none 0 (fun _=>rfl)
theorem DV:ak Tryz.prog 31 [.e .chart c,.agg [.pd (.str b),.pd (.v (.slice none 0 0)),.pd (.v (.slice none 0 0)),.pd (.v (.slice none 0 0)),.pd (.v (.slice none 0 0))]] [] (.x (.b (eR c ⟨b,[],[],[],[]⟩))) [] :=
 fun w V vs hw hT hv=>uZ c ⟨b,[],[],[],[]⟩ w V vs hw hT (by
  cases hv with | cons g1 hv=>cases hv with | cons g2 hv =>
   cases hv
   refine .cons g1 (.cons ?_ .nil)
   obtain ⟨us,e,hu⟩:=g2
   refine ⟨us,e,?_⟩
   cases hu with | cons h0 hu=>cases hu with | cons h1 hu=>cases hu with | cons h2 hu=>cases hu with | cons h3 hu=>cases hu with | cons h4 hu =>
    cases hu
    exact .cons h0 (.cons (lT h1) (.cons (lT h2) (.cons (lT h3) (.cons (lT h4) .nil)))))
def rW:Ent:=(31,fun
 | [.agg [.pd (.str a),.pd (.lst .str b),.pd (.lst .var c),.pd (.lst .stat d),.pd (.lst .tran e)],.agg [.pd (.str f),.pd (.v (.slice none 0 0)),.pd (.v (.slice none 0 0)),.pd (.v (.slice none 0 0)),.pd (.v (.slice none 0 0))]],[]=>some (none,.x (.c (.pd (.bool (eR ⟨a,b,c,d,e⟩ ⟨f,[],[],[],[]⟩)))),[])
 | _,_=>none)
theorem EU:EntOk Tryz.prog rW:=entOk fun vs ck=>by
 unfold rW; dsimp only; split
 · rename_i a b c d e f; exact entS fun hp=>DV ⟨a,b,c,d,e⟩ f
 · exact entN
noncomputable def Lf:Cfg:=⟨bu,[wD,vV,vU,vJ]⟩
theorem J3:ai Tryz.prog Lf.tab:=(ai.cons wb (ai.cons wI (ai.cons we (ai.cons Hz ai.nil))))
noncomputable def K3:Cfg:=⟨bu,[wD,vV,BB,rW]⟩
theorem IZ:ai Tryz.prog K3.tab:=(ai.cons wb (ai.cons wI (ai.cons Dt (ai.cons EU ai.nil))))
/-! ### sizes -/
theorem EO (l:List Cell):(bL l).length≤512:=by
 unfold bL; split
 · exact qe (by assumption)
 · simp
theorem kp (l:List Deed):(aU l).length≤4808:=by
 unfold aU; split
 · exact xT (by assumption)
 · simp
theorem rK (s:Str):(orS s).length≤s.length+1:=by
 unfold orS; split
 · simp [dash]
 · omega
theorem G5 {t:Tran} (ha:a.length≤6000) (h1:t.event.length≤3000000) (h2:t.dst.length≤3000000):(jv a t).length≤10000000:=by
 have g1:=rK t.event; have g2:=rK t.dst; have g3:=rK (bL t.guard); have g4:=rK (aU t.acts)
 have g5:=EO t.guard; have g6:=kp t.acts
 unfold jv
 simp only [ag,ah,aj]; omega
theorem BK {a:Str} {i:Int}:∀ {tr:List Tran},(∀ t∈tr,(jv a t).length≤10000000)→(iL a i tr).length≤10000000 * tr.length
 | [],_=>by simp [iL]
 | t::r,h=>by
   have ih:=BK (a:=a) (i:=i) fun u hu=>h u (aD _ hu)
   have h1:=h t az
   rw [iL,ah,Nat.mul_succ]
   split
   · rw [ag]; omega
   · omega
theorem uA (d:Int):(gY d).length≤6000:=by
 have hdep:=CR d
 show (Lib.repeatL [32] (kG d).toNat).length≤6000
 rw [Lib.repeatL_length]
 show (kG d).toNat * 1≤6000
 omega
theorem Gt (k:Int):(db k).length≤10:=by
 unfold db iU
 repeat' split
 all_goals decide
theorem Oe {s:Ev.Stat} (ha:a.length≤6000) (h1:s.name.length≤3000000) (h2:s.initial.length≤3000000):(o5 a s).length≤10000000:=by
 have g1:=kp s.entry; have g2:=kp s.leave; have g3:=Gt s.kind
 unfold o5 o4 o2
 repeat' split
 all_goals (simp only [ag,ah,aj]; omega)
theorem Mq {v:Var} (h:wC v) (hn:v.name.length≤3000000):(pvT v).length≤3000200:=by
 obtain ⟨h1,h2,h3,h4,h5⟩:=h
 have a1:=hO.1 h1; have a2:=hO.1 h2; have a3:=hO.1 h3; have a4:=hO.1 h4
 have l1:=jY _ a1.1 a1.2; have l2:=jY _ a2.1 a2.2; have l3:=jY _ a3.1 a3.2
 have pa:pIn (cP (bX v.init.a v.init.b))=true:=by simp only [pIn,ab,decide_eq_true_eq]; exact tc
 have pb:pIn (cQ (bX v.init.a v.init.b))=true:=by simp only [pIn,ab,decide_eq_true_eq]; exact sX
 have l4:=(gX pa).1; have l5:=(gX pb).1
 have l6:(df (cP (bX v.init.a v.init.b)) (cQ (bX v.init.a v.init.b))).length≤20:=by
  unfold df; split <;> (simp only [ag,ah,aj]; omega)
 unfold pvT gg
 split
 · have t4:fm.length=4:=rfl
   have t5:fS.length=5:=rfl
   rw [EK]; split <;> (simp only [ag,ah,aj]; omega)
 · split <;> (rw [Fb]; simp only [ag,ah,aj]; omega)
theorem sW {α:Type} (f:α→Str) (M:Nat):∀ l:List α,(∀ x∈l,(f x).length≤M)→(l.flatMap f).length≤M * l.length
 | [],_=>by simp
 | x::r,h=>by
   have:=sW f M r fun y hy=>h y (aD _ hy)
   have:=h x az
   rw [bB,ag,ah,Nat.mul_succ]; omega
theorem Di {c:Chart} (hz:ShowSz c) (hc:c.events.length+c.vars.length+c.states.length+c.trans.length≤6000):(iX c++c.events.flatMap evT++c.vars.flatMap pvT).length≤100000000000:=by
 have h1:=sW evT 3000200 c.events fun e he=>by
  have:=hz.ev e he
  unfold evT; simp only [ag,ah,aj]; omega
 have h2:=sW pvT 3000200 c.vars fun v hv=>Mq (hz.vr v hv).1 (hz.vr v hv).2
 have h3:(iX c).length=c.name.length+7:=by unfold iX; simp only [ag,ah,aj]; omega
 have h4:=hz.name
 simp only [ag]
 omega
theorem M5 {c:Chart} (hz:ShowSz c) (hc:c.events.length+c.vars.length+c.states.length+c.trans.length≤6000) {k:Nat} (hk:k<c.states.length):uG c.states c.trans (k:Int)∧(kr c.states c.trans k).length≤100000000000:=by
 have hs:=hz.st _ (CO hk)
 have ht:∀ t∈c.trans,(jv (gY (ETy.get .stat c.states k).depth) t).length≤10000000:=fun t h=>G5 (uA _) (hz.tr t h).1 (hz.tr t h).2
 have h1:=BK (i:=(k:Int)) ht
 have h2:=Oe (uA (ETy.get .stat c.states k).depth) hs.1 hs.2
 have g1:=kp (ETy.get .stat c.states k).entry; have g2:=kp (ETy.get .stat c.states k).leave
 constructor
 · unfold uG
   rw [bf]
   exact ⟨by omega,by omega,fun t h=>by have:=ht t h; omega,by omega,by omega,by omega,by omega,by omega⟩
 · unfold kr
   rw [bf,ag]
   omega
/-! ### the walk -/
abbrev zYj1 (a:Chart):Chunk:=.cells [.pd (.str a.name),.pd (.lst .str a.events),.pd (.lst .var a.vars),.pd (.lst .stat a.states),.pd (.lst .tran a.trans)] 27
abbrev zYj4:Chunk:=.cells [.loc 1 0,.own 2] 73
abbrev zYj6 (a:Chart) (b:Str):ST:={ n:=85,fr:=[(1,.x (.c (.loc 0 0))),(2,.p (.str [])),(3,.i 0),(4,.x (.c (.loc 1 0)))],ck:=[zYj1 a,zYj4,.own 5 .byte (ints b)] }
theorem Nz (o:Str) (Γ:Ctx) (hne:o≠[]) (he:WfC c→o=bW c):zJ13Yj Γ (ShQ c) [.ops [1,1,1,1,1,1,1,0] 0,.code [1,1,1,1,1,1,1,1]] ((zYj6 c o)):=by
 have hb:kB (ints o):=⟨by rw [lO],Dg hne⟩
 have hk:okC c→o=bW c:=fun h=>he h.1
 by_cases hr:eL o
 · refine jg J3 Tryz.func13 (.need (kB (ints o)) (.need (eL (gS (ints o))) (.ite (false || !eR c ((aq (gS (ints o))).1)) (.ret (.tup [.p (.str []),.i 1]) []) (.ret (.tup [.p (.str (gS (ints o))),.i 0]) [])))) ?_
   rw [lO]
   refine ⟨hb,hr,fun h=>?_,fun h=>?_⟩
   · have h':eR c (aq o).1=false:=by
      have h2:(!eR c (aq o).1)=true:=h
      exact nt h2
     exact ShQ.no (En hk h') rfl rfl
   · have h':eR c (aq o).1=true:=by
      have h2:(!eR c (aq o).1)=false:=h
      exact nf h2
     obtain ⟨q1,q2⟩:=Km he hr h'
     refine ShQ.yes q1 ?_ rfl
     show SV.tup [.s o,.i 0]=_
     rw [q2]
 · refine jg IZ Tryz.func13 (.need (kB (ints o)) (.need (¬eL (gS (ints o))) (.ite (((aq (gS (ints o))).2).2 != (0:Int) || !eR c { name:=[],events:=[],vars:=[],states:=[],trans:=[] }) (.ret (.tup [.p (.str []),.i 1]) []) (.ret (.tup [.p (.str (gS (ints o))),.i 0]) [])))) ?_
   rw [lO]
   refine ⟨hb,hr,fun h=>ShQ.no (MU hk hr) rfl rfl,fun h=>?_⟩
   simp only [aI,bne_eq_false_iff_eq] at h
   exact absurd h.1 hr
abbrev zYj2:List PI:=[.code [1,1,1,1,1,1,0,1,0,0],.inLoop [1,1,1,1,1,1,0,1,0,0],.inBlock 4,.code [1,1,1,1,1,1,1]]
theorem OZ (hz:ShowSz c) (hc:c.events.length+c.vars.length+c.states.length+c.trans.length≤6000):∀ (n k:Nat) (o:Str),c.states.length - k≤n→k≤c.states.length→o=pT c k→o.length≤100000000000 →
 zJ13Yj Γ (ShQ c) zYj2 ({ n:=85,fr:=[(1,.x (.c (.loc 0 0))),(2,.p (.str [])),(3,.i 0),(4,.x (.c (.loc 1 0))),(59,.i c.states.length),(60,.i k)],ck:=[zYj1 c,zYj4,.own 5 .byte (ints o)] }):=by
 intro n
 induction n with
 | zero=>?_
 | succ n ih=>?_
 all_goals
  intro k o hn hk ho hl
  refine jg pA Tryz.func13 (.ite (decide ((k:Int)<(c.states.length:Int))) (.need (uG c.states c.trans (k:Int)) (.need ((ints o).length+(kr c.states c.trans (k:Int)).length≤140737488355328) (.ite (decide ((↑((ints o++ints (kr c.states c.trans (k:Int))).length):Int)>6000)) (.ret (.tup [.p (.str []),.i 1]) []) (.stop zYj2 { n:=85,fr:=[(1,.x (.c (.loc 0 0))),(2,.p (.str [])),(3,.i 0),(4,.x (.c (.loc 1 0))),(59,.i c.states.length),(60,.i (IntKind.wrap .i64 ((k:Int)+1)))],ck:=[zYj1 c,zYj4,.own 5 .byte (ints o++ints (kr c.states c.trans (k:Int)))] })))) (.stop [.ops [1,1,1,1,1,1,1,0] 0,.code [1,1,1,1,1,1,1,1]] (zYj6 c o))) ?_
  refine ⟨fun hlt=>?_,fun hge=>?_⟩
  · have hk':k<c.states.length:=by have:=of_decide_eq_true hlt; omega
    obtain ⟨p1,p2⟩:=M5 hz hc hk'
    have e1:o++kr c.states c.trans k=pT c (k+1):=by rw [Da,ho]
    have e2:(ints o++ints (kr c.states c.trans k)).length=(pT c (k+1)).length:=by rw [← e1,ag,ag,jQ,jQ]
    refine ⟨p1,by rw [jQ]; omega,fun h=>?_,fun h=>?_⟩
    · have h':=of_decide_eq_true h
      exact ShQ.no (LF (n:=k+1) (by omega) (by omega) (by omega)) rfl rfl
    · have h':=of_decide_eq_false h
      rw [← ti,dY (by omega)]
      first
      | (exfalso; omega)
      | exact J.kn [] (ih (k+1) (o++kr c.states c.trans k) (by omega) (by omega) e1 (by rw [e1]; omega))
  · have hke:k=c.states.length:=by have:=of_decide_eq_false hge; omega
    refine Nz c o Γ ?_ fun w=>?_
    · rw [ho]; unfold pT iX; simp
    · rw [ho,hke]; exact Nk w (by omega)
abbrev zYj3:List PI:=[.code [1,1,1,1,1,0,1,0,0],.inLoop [1,1,1,1,1,0,1,0,0],.inBlock 2,.code [1,1,1,1,1,1]]
theorem O9 (hz:ShowSz c) (hc:c.events.length+c.vars.length+c.states.length+c.trans.length≤6000):∀ (n k:Nat) (o:Str),c.vars.length - k≤n→k≤c.vars.length→o++(c.vars.drop k).flatMap pvT=iX c++c.events.flatMap evT++c.vars.flatMap pvT →
 zJ13Yj Γ (ShQ c) zYj3 ({ n:=85,fr:=[(1,.x (.c (.loc 0 0))),(2,.p (.str [])),(3,.i 0),(4,.x (.c (.loc 1 0))),(47,.p (.lst .var c.vars)),(48,.i c.vars.length),(49,.i k)],ck:=[zYj1 c,zYj4,.own 5 .byte (ints o)] }):=by
 have ht:=Di hz hc
 intro n
 induction n with
 | zero=>?_
 | succ n ih=>?_
 all_goals
  intro k o hn hk ho
  refine jg pA Tryz.func13 (.ite (decide ((k:Int)<(c.vars.length:Int))) (.need (inRg k c.vars.length) (.need (wC (ETy.get .var c.vars k)) (.need ((ints o).length+(cr (gg (ETy.get .var c.vars k))++[(10:UInt8)]).length≤140737488355328) (.stop zYj3 { n:=85,fr:=[(1,.x (.c (.loc 0 0))),(2,.p (.str [])),(3,.i 0),(4,.x (.c (.loc 1 0))),(47,.p (.lst .var c.vars)),(48,.i c.vars.length),(49,.i (IntKind.wrap .i64 ((k:Int)+1)))],ck:=[zYj1 c,zYj4,.own 5 .byte (ints o++ints (cr (gg (ETy.get .var c.vars k))++[(10:UInt8)]))] })))) (.stop zYj2 { n:=85,fr:=[(1,.x (.c (.loc 0 0))),(2,.p (.str [])),(3,.i 0),(4,.x (.c (.loc 1 0))),(59,.i c.states.length),(60,.i 0)],ck:=[zYj1 c,zYj4,.own 5 .byte (ints o)] })) ?_
  refine ⟨fun hlt=>?_,fun hge=>?_⟩
  · have hk':k<c.vars.length:=by have:=of_decide_eq_true hlt; omega
    have hv:=hz.vr _ (List.mem_of_getElem? (ETy.getElem?_get (t:=.var) hk'))
    rw [bY (t:=.var) (l:=c.vars) hk',bB] at ho
    have hlen:=congrArg List.length ho
    rw [ag,ag] at hlen
    generalize ETy.get .var c.vars k=v at *
    have hpv:cr (gg v)++[10]=pvT v:=rfl
    have e1:o++pvT v++(c.vars.drop (k+1)).flatMap pvT=iX c++c.events.flatMap evT++c.vars.flatMap pvT:=by rw [← ho,aX]
    refine ⟨by omega,hv.1,by show (ints o).length+(pvT v).length≤_; rw [jQ]; omega,?_⟩
    show zJ13Yj Γ (ShQ c) _ _
    have e3:ints o++ints (cr (gg v)++[10])=ints (o++pvT v):=(ti o (pvT v)).symm
    have e4:ints o++ints (cr (gg ⟨v.name,v.kind,v.lo,v.hi,⟨v.init.kind,v.init.a,v.init.b⟩⟩)++[10])=ints (o++pvT v):=e3
    rw [e4,dY (by omega)]
    first
    | (exfalso; omega)
    | exact ih (k+1) (o++pvT v) (by omega) (by omega) e1
  · rw [b9 (l:=c.vars) (by have:=of_decide_eq_false hge; omega),List.flatMap_nil,bt] at ho
    refine OZ c Γ hz hc c.states.length 0 o (by omega) (by omega) ?_ (by rw [ho]; exact ht)
    rw [ho]; unfold pT; simp
abbrev zYj5:List PI:=[.code [1,1,1,1,0,1,0,0],.inLoop [1,1,1,1,0,1,0,0],.inBlock 0,.code [1,1,1,1,1]]
theorem Pd (hz:ShowSz c) (hc:c.events.length+c.vars.length+c.states.length+c.trans.length≤6000):∀ (n k:Nat) (o:Str),c.events.length - k≤n→k≤c.events.length→o++(c.events.drop k).flatMap evT=iX c++c.events.flatMap evT →
 zJ13Yj Γ (ShQ c) zYj5 ({ n:=85,fr:=[(1,.x (.c (.loc 0 0))),(2,.p (.str [])),(3,.i 0),(4,.x (.c (.loc 1 0))),(35,.p (.lst .str c.events)),(36,.i c.events.length),(37,.i k)],ck:=[zYj1 c,zYj4,.own 5 .byte (ints o)] }):=by
 have ht:=Di hz hc
 rw [ag] at ht
 intro n
 induction n with
 | zero=>?_
 | succ n ih=>?_
 all_goals
  intro k o hn hk ho
  refine jg pA Tryz.func13 (let x1:=[(101:UInt8),118,101,110,116,32]; let x2:=(x1++ETy.get .str c.events k++[(10:UInt8)]); .ite (decide ((k:Int)<(c.events.length:Int))) (.need (inRg k c.events.length) (.need (6+(ETy.get .str c.events k).length≤9223372036854775807) (.need ((x1++ETy.get .str c.events k).length+1≤9223372036854775807) (.need ((ints o).length+x2.length≤140737488355328) (.stop zYj5 { n:=85,fr:=[(1,.x (.c (.loc 0 0))),(2,.p (.str [])),(3,.i 0),(4,.x (.c (.loc 1 0))),(35,.p (.lst .str c.events)),(36,.i c.events.length),(37,.i (IntKind.wrap .i64 ((k:Int)+1)))],ck:=[zYj1 c,zYj4,.own 5 .byte (ints o++ints x2)] }))))) (.stop zYj3 { n:=85,fr:=[(1,.x (.c (.loc 0 0))),(2,.p (.str [])),(3,.i 0),(4,.x (.c (.loc 1 0))),(47,.p (.lst .var c.vars)),(48,.i c.vars.length),(49,.i 0)],ck:=[zYj1 c,zYj4,.own 5 .byte (ints o)] })) ?_
  conv=>zeta
  refine ⟨fun hlt=>?_,fun hge=>?_⟩
  · have hk':k<c.events.length:=by have:=of_decide_eq_true hlt; omega
    have hv:=hz.ev _ (List.mem_of_getElem? (ETy.getElem?_get (t:=.str) hk'))
    rw [bY (t:=.str) (l:=c.events) hk',bB] at ho
    have hlen:=congrArg List.length ho
    rw [ag,ag] at hlen
    generalize ETy.get .str c.events k=v at *
    have hpv:[101,118,101,110,116,32]++v++[10]=evT v:=rfl
    have e1:o++evT v++(c.events.drop (k+1)).flatMap evT=iX c++c.events.flatMap evT:=by rw [← ho,aX]
    refine ⟨by omega,by omega,by simp only [ag,ah,aj]; omega,by rw [hpv,jQ]; omega,?_⟩
    rw [hpv,← ti,dY (by omega)]
    first
    | (exfalso; omega)
    | exact ih (k+1) (o++evT v) (by omega) (by omega) e1
  · rw [b9 (l:=c.events) (by have:=of_decide_eq_false hge; omega),List.flatMap_nil,bt] at ho
    exact O9 c Γ hz hc c.vars.length 0 o (by omega) (by omega) (by rw [ho]; rfl)
theorem Dh (hz:ShowSz c) (Γ:Ctx):zJ13Yj Γ (ShQ c) [.code []] (cL Tryz.f13.ntmps [.e .chart c] []):=by
 refine jg pA Tryz.func13 (.ite (decide (IntKind.wrap .i64 (IntKind.wrap .i64 (IntKind.wrap .i64 ((c.events.length:Int)+(c.vars.length:Int))+(c.states.length:Int))+(c.trans.length:Int))>(6000:Int))) (.ret (.tup [.p (.str []),.i 1]) []) (.need (6+c.name.length≤9223372036854775807) (.need (([(99:UInt8),104,97,114,116,32]++c.name).length+1≤9223372036854775807) (.need (([(99:UInt8),104,97,114,116,32]++c.name++[(10:UInt8)]).length≤140737488355328) (.stop zYj5 { n:=85,fr:=[(1,.x (.c (.loc 0 0))),(2,.p (.str [])),(3,.i 0),(4,.x (.c (.loc 1 0))),(35,.p (.lst .str c.events)),(36,.i c.events.length),(37,.i 0)],ck:=[zYj1 c,zYj4,.own 5 .byte (ints ([(99:UInt8),104,97,114,116,32]++c.name++[(10:UInt8)]))] }))))) ?_
 have h1:=hz.evs; have h2:=hz.vrs; have h3:=hz.sts; have h4:=hz.trs; have h5:=hz.name
 have e:IntKind.wrap .i64 (IntKind.wrap .i64 (IntKind.wrap .i64 ((c.events.length:Int)+(c.vars.length:Int))+(c.states.length:Int))+(c.trans.length:Int))=((c.events.length+c.vars.length+c.states.length+c.trans.length:Nat):Int):=by
  rw [cI (n:=(c.events.length:Int)+(c.vars.length:Int)) (by omega) (by omega),cI (n:=(c.events.length:Int)+(c.vars.length:Int)+(c.states.length:Int)) (by omega) (by omega),cI (by omega) (by omega)]
  omega
 rw [e]
 refine ⟨fun h=>?_,fun h=>⟨by omega,by simp only [ag,ah,aj]; omega,by simp only [ag,ah,aj]; omega,?_⟩⟩
 · have h':=of_decide_eq_true h
   refine ShQ.no (fun k=>?_) rfl rfl
   have:=J0 k
   omega
 · have h':=of_decide_eq_false h
   exact Pd c Γ hz (by omega) c.events.length 0 ([99,104,97,114,116,32]++c.name++[10]) (by omega) (by omega) rfl
theorem J4 (hz:ShowSz c) (h:okC c):ak Tryz.prog 13 [.e .chart c] [] (.tup [.s (bW c),.i 0]) [] :=
 ak.of Tryz.func13 (by kernel_rfl) (by kernel_rfl) fun Γ=>J.mono (fun v ck hq=>hq.1 h) (Dh c hz Γ)
theorem JZ (hz:ShowSz c) (h:¬okC c):ak Tryz.prog 13 [.e .chart c] [] (.tup [.s [],.i 1]) [] :=
 ak.of Tryz.func13 (by kernel_rfl) (by kernel_rfl) fun Γ=>J.mono (fun v ck hq=>hq.2 h) (Dh c hz Γ)
def DF:Ent:=(13,fun
 | [.agg [.pd (.str a),.pd (.lst .str b),.pd (.lst .var c),.pd (.lst .stat d),.pd (.lst .tran e)]],[]=>some (some (ShowSz ⟨a,b,c,d,e⟩∧okC ⟨a,b,c,d,e⟩),.tup [.c (.pd (.str (bW ⟨a,b,c,d,e⟩))),.c (.pd (.int .i64 0))],[])
 | _,_=>none)
theorem Mi:EntOk Tryz.prog DF:=entOk fun vs ck=>by
 unfold DF; dsimp only; split
 · rename_i a b c d e; exact entS fun hp=>J4 ⟨a,b,c,d,e⟩ hp.1 hp.2
 · exact entN
def DU:Ent:=(13,fun
 | [.agg [.pd (.str a),.pd (.lst .str b),.pd (.lst .var c),.pd (.lst .stat d),.pd (.lst .tran e)]],[]=>some (some (ShowSz ⟨a,b,c,d,e⟩∧¬okC ⟨a,b,c,d,e⟩),.tup [.c (.pd (.str [])),.c (.pd (.int .i64 1))],[])
 | _,_=>none)
theorem Mu:EntOk Tryz.prog DU:=entOk fun vs ck=>by
 unfold DU; dsimp only; split
 · rename_i a b c d e; exact entS fun hp=>JZ ⟨a,b,c,d,e⟩ hp.1 hp.2
 · exact entN
end Go.Proofs.YtpfidgnkokidoaaGreatDoor

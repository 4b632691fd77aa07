/- Contracts: valid: no text twice, names. Conditions: sizes. Contracts: valid.Check: each. Conditions: none. The library's contracts of the shelf, laid at this dump by the kit's tools. Conditions: each one's own. Contracts: slices.Grow, Concat, ContainsFunc on texts. Conditions: sizes. Contracts: valid.Check's questions. Conditions: sizes. Contracts: valid.Check: each's loops. Conditions: sizes. -/
import Derived.Test.YtlhgnjmdopjpeaaGreatDoorTj
import Derived.Test.YtlhgnjmdopjpeaaGreatDoorKb
import Derived.Shelf.Spec.SlicesGrow
import Derived.Test.YtlhgnjmdopjpeaaGreatDoorProg
namespace Go.Proofs.YtlhgnjmdopjpeaaGreatDoor
open Go Go.Ev
set_option maxRecDepth 100000
variable(c:Chart)(l:List Str)(Γ:Ctx)
def iQ:Bool:=((dL (gB l)).length:Int)==((gB l).length:Int)
theorem Jj(h:l.length≤1000000):ag Tryz.prog 151 [.l .str l] [] (.x (.b (iQ l))) []:=by
 refine dg KF Tryz.func151 (.need (room l.length 16) (.need (l.length≤1000000) (.need (room ((gB l).length) 16) (.need ((gB l).length≤1000000) (.ret (.p (.bool ((↑((dL (gB l)).length):Int)==(↑((gB l).length):Int)))) []))))) fun Γ=>?_
 have hr:∀n,n≤1000000→room n 16:=fun n hn=>⟨by omega,aC hn (by decide)⟩
 have hl:(gB l).length=l.length:=List.length_mergeSort l
 refine⟨hr _ h,h,hr _ (by rw[hl];exact h),by rw[hl];exact h,?_⟩
 exact⟨rfl,rfl⟩
def yL:Ent:=(151,fun
 |[.c (.pd (.lst .str l))],[]=>some (some (l.length≤1000000),.x (.c (.pd (.bool (iQ l)))),[])
 |_,_=>none)
theorem Lg:EntOk Tryz.prog yL:=entOk fun vs ck=>by
 unfold yL;dsimp only;split
 ·rename_i l;exact entS fun hp=>Jj l hp
 ·exact entN
theorem rj(n:Nat)(h:n≤2199023255552):room n 16:=⟨by omega,aC h (by decide)⟩
theorem rq{t:ETy}(f:t.den→Str){l:List t.den}{k:Nat}(hk:k<l.length):(l.take k).map f++[f (ETy.get t l k)]=(l.take (k+1)).map f:=by
 rw[ETy.get_eq (List.getElem?_eq_getElem hk),aN hk,bF];rfl
abbrev zTk2:List PI:=[.code [1,1,1,0,1,0,0],.inLoop [1,1,1,0,1,0,0],.inBlock 2,.code [1,1,1,1]]
theorem Mf(hv:c.vars.length≤2199023255552)(hs:c.states.length≤2199023255552):∀(n k:Nat),c.states.length - k≤n→k≤c.states.length →
 J Tryz.prog 139 (aB Tryz.f139) Γ (Eq2 (.tup [.c (.own 0),.c (.own 1)]) [.own 9 .str (c.vars.map fun v:Var=>v.name),.own 9 .str (c.states.map fun s:Ev.Stat=>s.name)]) zTk2 ({n:=38,fr:=[(2,.p (.v (Value.slice none 0 0))),(3,.p (.v (Value.slice none 0 0))),(4,.x (.c (.own 0))),(5,.x (.c (.own 1))),(24,.p (.lst .stat c.states)),(25,.i c.states.length),(26,.i ((k:Int)))],ck:=[.own 9 .str (c.vars.map fun v:Var=>v.name),.own 9 .str ((c.states.take k).map fun s:Ev.Stat=>s.name)]}):=by
 intro n
 induction n with
 |zero=>?_
 |succ n ih=>?_
 all_goals
  intro k hn hk
  refine jg aV Tryz.func139 (.ite (decide ((k:Int)<(c.states.length:Int))) (.need (inRg k c.states.length) (.need (room ((List.map (fun s=>s.name) (List.take k c.states)++[Stat.name (ETy.get .stat c.states k)]).length) 16) (.stop zTk2 {n:=38,fr:=[(2,.p (.v (Value.slice none 0 0))),(3,.p (.v (Value.slice none 0 0))),(4,.x (.c (.own 0))),(5,.x (.c (.own 1))),(24,.p (.lst .stat c.states)),(25,.i c.states.length),(26,.i (IntKind.wrap .i64 ((k:Int)+1)))],ck:=[.own 9 .str (List.map (fun v=>v.name) c.vars),.own 9 .str (List.map (fun s=>s.name) (List.take k c.states)++[Stat.name (ETy.get .stat c.states k)])]}))) (.ret (.tup [.c (.own 0),.c (.own 1)]) [.own 9 .str (List.map (fun v=>v.name) c.vars),.own 9 .str (List.map (fun s=>s.name) (List.take k c.states))])) ?_
  refine⟨fun hlt=>?_,fun hge=>?_⟩
  · have hk':k<c.states.length:=by have:=of_decide_eq_true hlt;omega
    refine⟨by omega,?_⟩
    rw[rq (t:=.stat) (fun s:Ev.Stat=>s.name) hk']
    refine⟨rj _ (by rw[aQ,bj];omega),?_⟩
    rw[ba (aK hk' (aC hs (by decide)))]
    first |(exfalso;omega) |exact ih (k+1) (by omega) (by omega)
  · have hke:k=c.states.length:=by have:=of_decide_eq_false hge;omega
    subst hke
    rw[aZ (ar _)]
    exact⟨rfl,rfl⟩
abbrev zTk1(a:Chart):Chunk:=.cells [.pd (.str a.name),.pd (.lst .str a.events),.pd (.lst .var a.vars),.pd (.lst .stat a.states),.pd (.lst .tran a.trans)] 27
abbrev zTk3:List PI:=[.code [1,1,0,1,0,0],.inLoop [1,1,0,1,0,0],.inBlock 0,.code [1,1,1]]
theorem Me(hv:c.vars.length≤2199023255552)(hs:c.states.length≤2199023255552):∀(n k:Nat),c.vars.length - k≤n→k≤c.vars.length →
 J Tryz.prog 139 (aB Tryz.f139) Γ (Eq2 (.tup [.c (.own 0),.c (.own 1)]) [.own 9 .str (c.vars.map fun v:Var=>v.name),.own 9 .str (c.states.map fun s:Ev.Stat=>s.name)]) zTk3 ({n:=38,fr:=[(1,.x (.c (.loc 0 0))),(2,.p (.v (Value.slice none 0 0))),(3,.p (.v (Value.slice none 0 0))),(4,.x (.c (.own 1))),(5,.p (.v (Value.slice none 0 0))),(11,.p (.lst .var c.vars)),(12,.i c.vars.length),(13,.i ((k:Int)))],ck:=[zTk1 c,.own 9 .str ((c.vars.take k).map fun v:Var=>v.name)]}):=by
 intro n
 induction n with
 |zero=>?_
 |succ n ih=>?_
 all_goals
  intro k hn hk
  refine jg aV Tryz.func139 (let x1:=(Value.slice none 0 0);let x2:=[Var.name (ETy.get .var c.vars k)];.ite (decide ((k:Int)<(c.vars.length:Int))) (.need (inRg k c.vars.length) (.need (room ((List.map (fun v=>v.name) (List.take k c.vars)++x2).length) 16) (.stop zTk3 {n:=38,fr:=[(1,.x (.c (.loc 0 0))),(2,.p (.v x1)),(3,.p (.v x1)),(4,.x (.c (.own 1))),(5,.p (.v x1)),(11,.p (.lst .var c.vars)),(12,.i c.vars.length),(13,.i (IntKind.wrap .i64 ((k:Int)+1)))],ck:=[zTk1 c,.own 9 .str (List.map (fun v=>v.name) (List.take k c.vars)++x2)]}))) (.stop zTk2 {n:=38,fr:=[(2,.p (.v x1)),(3,.p (.v x1)),(4,.x (.c (.own 0))),(5,.p (.v x1)),(24,.p (.lst .stat c.states)),(25,.i c.states.length),(26,.i 0)],ck:=[.own 9 .str (List.map (fun v=>v.name) (List.take k c.vars))]})) ?_
  conv=>zeta
  refine⟨fun hlt=>?_,fun hge=>?_⟩
  · have hk':k<c.vars.length:=by have:=of_decide_eq_true hlt;omega
    refine⟨by omega,?_⟩
    rw[rq (t:=.var) (fun s:Var=>s.name) hk']
    refine⟨rj _ (by rw[aQ,bj];omega),?_⟩
    rw[ba (aK hk' (aC hv (by decide)))]
    first |(exfalso;omega) |exact ih (k+1) (by omega) (by omega)
  · have hke:k=c.vars.length:=by have:=of_decide_eq_false hge;omega
    subst hke
    rw[aZ (ar _)]
    refine J.nilOwn 5 9 .str rfl (by kernel_rfl) ?_
    exact Mf c Γ hv hs c.states.length 0 (by omega) (by omega)
theorem F4(h:c.vars.length≤2199023255552∧c.states.length≤2199023255552):ag Tryz.prog 139 [.e .chart c] [] (.tup [.c (.own 0),.c (.own 1)]) [.own 9 .str (c.vars.map fun v:Var=>v.name),.own 9 .str (c.states.map fun s:Ev.Stat=>s.name)]:=by
 refine dg aV Tryz.func139 (.stop zTk3 {n:=38,fr:=[(1,.x (.c (.loc 0 0))),(2,.p (.v (Value.slice none 0 0))),(3,.p (.v (Value.slice none 0 0))),(4,.p (.v (Value.slice none 0 0))),(5,.p (.v (Value.slice none 0 0))),(11,.p (.lst .var c.vars)),(12,.i c.vars.length),(13,.i 0)],ck:=[zTk1 c]}) fun Γ=>?_
 refine J.nilOwn 4 9 .str rfl (by kernel_rfl) ?_
 exact Me c Γ h.1 h.2 c.vars.length 0 (by omega) (by omega)
def uq:Ent:=(139,fun
 |[.agg [.pd (.str a),.pd (.lst .str b),.pd (.lst .var c),.pd (.lst .stat d),.pd (.lst .tran e)]],[]=>some (some (c.length≤2199023255552∧d.length≤2199023255552),.tup [.c (.own 0),.c (.own 1)],[.own 9 .str (c.map fun v:Var=>v.name),.own 9 .str (d.map fun s:Ev.Stat=>s.name)])
 |_,_=>none)
theorem Il:EntOk Tryz.prog uq:=entOk fun vs ck=>by
 unfold uq;dsimp only;split
 ·rename_i a b c d e;exact entS fun hp=>F4 ⟨a,b,c,d,e⟩ hp
 ·exact entN
variable(n:Int)(f:Nat)(c:Chart)(l:List Str)
theorem Rg:ag Tryz.prog 140 [.i n,.c (.fn (.func f) [] [.pd (.ref .chart c 0)])] [] (.x (.c (.fn (.func 141) [] [.loc 0 0,.loc 1 0]))) [.cells [.pd (.i n)] 3,.cells [.fn (.func f) [] [.pd (.ref .chart c 0)]] 159]:=by
 refine dg aV Tryz.func140 (.ret (.x (.c (.fn (.func 141) [] [.loc 0 0,.loc 1 0]))) [.cells [.i n] 3,.cells [.fn (.func f) [] [.pd (.ref .chart c 0)]] 159]) fun Γ=>?_
 exact⟨rfl,rfl⟩
theorem O7:ag Tryz.prog 140 [.i n,.c (.fn (.func f) [] [.pd (.ref .chart c 0)])] [] (.x (.c (.fn (.func 141) [] [.pd (.ref .int n 0),.pd (.fnAt [(f,[.ref .chart c 0])] 0)]))) [] :=
 ag.chop (ck':=[]) (ag.chop (ck':=[.dead]) (ag.frz aX [0,1] (Rg n f c) rfl rfl))
theorem Rh:ag Tryz.prog 140 [.i n,.c (.fn (.func f) [] [.pd (.ref .chart c 0),.pd (.ref .strs l 0)])] [] (.x (.c (.fn (.func 141) [] [.loc 0 0,.loc 1 0]))) [.cells [.pd (.i n)] 3,.cells [.fn (.func f) [] [.pd (.ref .chart c 0),.pd (.ref .strs l 0)]] 159]:=by
 refine dg aV Tryz.func140 (.ret (.x (.c (.fn (.func 141) [] [.loc 0 0,.loc 1 0]))) [.cells [.i n] 3,.cells [.fn (.func f) [] [.pd (.ref .chart c 0),.pd (.ref .strs l 0)]] 159]) fun Γ=>?_
 exact⟨rfl,rfl⟩
theorem O8:ag Tryz.prog 140 [.i n,.c (.fn (.func f) [] [.pd (.ref .chart c 0),.pd (.ref .strs l 0)])] [] (.x (.c (.fn (.func 141) [] [.pd (.ref .int n 0),.pd (.fnAt [(f,[.ref .chart c 0,.ref .strs l 0])] 0)]))) [] :=
 ag.chop (ck':=[]) (ag.chop (ck':=[.dead]) (ag.frz aX [0,1] (Rh n f c l) rfl rfl))
def eEa:Ent:=(140,fun
 |[.c (.pd (.int .i64 n)),.c (.fn (.func f) [] [.pd (.ref .chart c 0)])],[]=>some (none,.x (.c (.fn (.func 141) [] [.pd (.ref .int n 0),.pd (.fnAt [(f,[.ref .chart c 0])] 0)])),[])
 |_,_=>none)
theorem QY:EntOk Tryz.prog eEa:=entOk fun vs ck=>by
 unfold eEa;dsimp only;split
 ·rename_i n f c;exact entS fun hp=>O7 n f c
 ·exact entN
def eEb:Ent:=(140,fun
 |[.c (.pd (.int .i64 n)),.c (.fn (.func f) [] [.pd (.ref .chart c 0),.pd (.ref .strs l 0)])],[]=>some (none,.x (.c (.fn (.func 141) [] [.pd (.ref .int n 0),.pd (.fnAt [(f,[.ref .chart c 0,.ref .strs l 0])] 0)])),[])
 |_,_=>none)
theorem QZ:EntOk Tryz.prog eEb:=entOk fun vs ck=>by
 unfold eEb;dsimp only;split
 ·rename_i n f c l;exact entS fun hp=>O8 n f c l
 ·exact entN
end Go.Proofs.YtlhgnjmdopjpeaaGreatDoor
namespace Go.Proofs
open Go.Shelf
def Tryz.growS_ren:Go.Shelf.Ren:=⟨fun |4=>208 |n=>n,fun |22=>22 |25=>9 |3=>3 |4=>4 |9=>9 |20=>20 |0=>0 |n=>n,fun |n=>n⟩
theorem Tryz.growS:Go.Proofs.Lays8.n4 Tryz.prog Tryz.growS_ren:={
 mixed:=by kernel_rfl
 f4:=⟨Tryz.f208.name,by decide,Tryz.func208.trans (congrArg some (by kernel_rfl))⟩
 t0:=Tryz.underlying0
 a0:=Tryz.isAgg0
 z0:=Tryz.sizeOf0
 v0:=Tryz.zeroValue0
 t3:=Tryz.underlying3
 a3:=Tryz.isAgg3
 z3:=Tryz.sizeOf3
 v3:=Tryz.zeroValue3
 t4:=Tryz.underlying4
 a4:=Tryz.isAgg4
 z4:=Tryz.sizeOf4
 v4:=Tryz.zeroValue4
 t9:=Tryz.underlying9
 a9:=Tryz.isAgg9
 z9:=Tryz.sizeOf9
 v9:=Tryz.zeroValue9
 t20:=Tryz.underlying20
 a20:=Tryz.isAgg20
 z20:=Tryz.sizeOf20
 v20:=Tryz.zeroValue20
 t22:=Tryz.underlying22
 a22:=Tryz.isAgg22
 z22:=Tryz.sizeOf22
 v22:=Tryz.zeroValue22}
end Go.Proofs
namespace Go.Proofs.YtlhgnjmdopjpeaaGreatDoor
open Go Go.Ev
set_option maxRecDepth 100000
theorem PC{V:Vn}{vs:List Value}{n:Int}(hv:All2 (SX.R V) [.c (.pd (.v (.slice none 0 0))),.i n] vs):vs=[.slice none 0 0,.int .i64 n]:=by
 cases hv with
 | cons a1 hv=>cases hv with
   | cons a2 hv =>
     cases hv
     have h1:PR V.H (.v (.slice none 0 0)) _:=a1
     have h2:PR V.H (.int .i64 n) _:=a2
     cases h1;cases h2
     rfl
theorem IW(n:Int)(h:0≤n∧n≤1000000):ag Tryz.prog 208 [.c (.pd (.v (.slice none 0 0))),.i n] [] (.x (.c (.own 0))) [.own 9 .str []]:=by
 intro w V vs hw hT hv
 rw[PC hv]
 obtain⟨k,rfl⟩:=aF h.1
 have hk:k≤1000000:=by omega
 cases k with
 | zero =>
   refine(Any8.slices_Grow_room Tryz.growS none 0 0 0 w (by omega) (by omega) (by omega) (by omega)).mono fun e w' ⟨he,hw'⟩=>?_
   subst he;subst hw'
   obtain⟨V',_,_,_,e2,hw2⟩:=hw.regrow (ck:=[]) rfl (aP _) none (c:=.own 9 .str []) (v':=.slice none 0 0) (s':=0) (w':=w') (row:=none) (by simp) (World.grownBy.refl _ _) (fun V' hag hH f1 f2=>by
    refine⟨⟨[],⟨rfl,.inl ⟨f2,rfl⟩⟩,.nil,fun b hb=>?_⟩,fun b hb=>?_⟩
    ·rw[f2]at hb;cases hb
    · have hb':(V'.ov 0).ownBlock=some b:=hb
      rw[show V'.ov 0=_ from f2]at hb';cases hb')
   exact⟨_,V',rfl,e2.symm,by simpa[cK]using hw2⟩
 | succ k =>
   have hcap:=grownCap_ge w (0+(k+1)) 0 9
   have hmax:=grownCap_le_maxLen w (0+(k+1)) 0 9 (aC (by omega:0+(k+1)≤1000000) (by decide))
   obtain⟨i0,hi0,hz0,hs0,hb0⟩:∃i0,(Tryz.prog).info? 9=some i0∧i0.zero=some (.string ⟨#[]⟩)∧i0.size=1∧i0.bytes=16:=⟨_,rfl,rfl,rfl,rfl⟩
   refine(Any8.slices_Grow_grow Tryz.growS i0 _ hi0 hz0 (by omega) none 0 0 (k+1) [] w (by omega) (by omega) (by rw[hb0];omega) (by omega) (by simp) (fun _=>rfl) (fun a ha=>by cases ha)).mono fun e w' ⟨he,hw'⟩=>?_
   rw[show Tryz.growS_ren.t 25=9 from rfl]at he hw'
   have hsz:∀m,(Builtin.zeroCells (Value.string ⟨#[]⟩).cells m).size=m:=fun m=>by rw[size_zeroCells];exact Nat.mul_one m
   obtain⟨cur,hcur,hw2⟩:∃cur:Array Value,cur.size=grownCap w (0+(k+1)) 0 9 * 1∧w'=w.drew.alloc (.cells cur 9):=⟨_,by
    rw[fY,fY,hsz,hsz,show(([]:List Value).toArray).size=0 from rfl]
    omega,hw'⟩
   clear hw'
   subst he
   have g:=gk w.drew (.cells cur 9)
   rw[←hw2]at g
   have hnew:w'.heap[w.heap.size]?=some (.cells cur 9 (0,0)):=by rw[hw2];exact heap_alloc_new w.drew _
   obtain⟨V',_,_,_,e2,hw3⟩:=hw.regrow (ck:=[]) rfl (aP _) none (c:=.own 9 .str []) (v':=.slice (some ⟨w.heap.size,0,none⟩) 0 (grownCap w (0+(k+1)) 0 9)) (s':=w.heap.size) (w':=w') (row:=none) (by simp)
    ⟨g.os,g.tape,g.output,g.size,g.block⟩ (fun V' hag hH f1 f2=>by
    refine⟨⟨[],⟨rfl,.inr ⟨w.heap.size,_,_,f2,aP _,hnew,aP _,hmax,hcur,rfl⟩⟩,.nil,fun b hb=>?_⟩,fun b hb=>.inr ?_⟩
    ·rw[f2]at hb;rw[f1];simpa[Value.ownBlock]using hb
    · have hb':(V'.ov 0).ownBlock=some b:=hb
      rw[show V'.ov 0=_ from f2]at hb'
      simp[Value.ownBlock]at hb';omega)
   exact⟨_,V',rfl,e2.symm,by simpa[cK]using hw3⟩
def yG:Ent:=(208,fun
 |[.c (.pd (.v (.slice none 0 0))),.c (.pd (.int .i64 n))],[]=>some (some (0≤n∧n≤1000000),.x (.c (.own 0)),[.own 9 .str []])
 |_,_=>none)
theorem La:EntOk Tryz.prog yG:=entOk fun vs ck=>by
 unfold yG;dsimp only;split
 ·rename_i n;exact entS fun hp=>IW n hp
 ·exact entN
def yB:Cfg:=⟨[],[yG]⟩
theorem s6:ah Tryz.prog yB.tab:=(ah.cons La ah.nil)
theorem lL{α:Type}{l:List (List α)}{k:Nat}(hk:k<l.length):(l.take (k+1)).flatten=(l.take k).flatten++l[k]:=by
 rw[aN hk,List.flatten_append];simp
theorem vY{α:Type}(l:List (List α))(k:Nat):(l.take k).flatten.length≤l.flatten.length:=by
 have:l.flatten=(l.take k).flatten++(l.drop k).flatten:=by rw[←List.flatten_append,dn]
 rw[this,au];omega
abbrev zTm1:List PI:=[.code [1,1,1,1,0,1,0,0],.inLoop [1,1,1,1,0,1,0,0],.inBlock 2,.code [1,1,1,1,1]]
variable(l:List (List Str))(Γ:Ctx)
theorem Kx(hl:l.length≤maxLen)(hs:l.flatten.length≤1000000):∀(n k:Nat),l.length - k≤n→k≤l.length →
 J Tryz.prog 144 (aB Tryz.f144) Γ (Eq2 (.x (.c (.own 0))) [.own 9 .str l.flatten]) zTm1 ({n:=36,fr:=[(2,.p (.v (Value.slice none 0 0))),(6,.x (.c (.own 0))),(25,.p (.lst .strs l)),(26,.i l.length),(27,.i ((k:Int)))],ck:=[.own 9 .str (l.take k).flatten]}):=by
 intro n
 induction n with
 |zero=>?_
 |succ n ih=>?_
 all_goals
  intro k hn hk
  refine jg s6 Tryz.func144 (.ite (decide ((k:Int)<(l.length:Int))) (.need (inRg k l.length) (.need (room ((List.flatten (List.take k l)++ETy.get .strs l k).length) 16) (.stop zTm1 {n:=36,fr:=[(2,.p (.v (Value.slice none 0 0))),(6,.x (.c (.own 0))),(25,.p (.lst .strs l)),(26,.i l.length),(27,.i (IntKind.wrap .i64 ((k:Int)+1)))],ck:=[.own 9 .str (List.flatten (List.take k l)++ETy.get .strs l k)]}))) (.ret (.x (.c (.own 0))) [.own 9 .str (List.flatten (List.take k l))])) ?_
  refine⟨fun hlt=>?_,fun hge=>?_⟩
  · have hk':k<l.length:=by have:=of_decide_eq_true hlt;omega
    have h1:=vY l (k+1)
    refine⟨by omega,?_⟩
    rw[show ETy.get .strs l k=l[k]from ETy.get_eq (t:=.strs) (List.getElem?_eq_getElem hk'),←lL hk']
    refine⟨rj _ (by omega),?_⟩
    rw[ba (aK hk' hl)]
    first |(exfalso;omega) |exact ih (k+1) (by omega) (by omega)
  · have hke:k=l.length:=by have:=of_decide_eq_false hge;omega
    subst hke
    rw[aZ (ar _)]
    exact⟨rfl,rfl⟩
abbrev zTm2:List PI:=[.code [1,1,0,1,0,0],.inLoop [1,1,0,1,0,0],.inBlock 0,.code [1,1,1]]
theorem Kw(hl:l.length≤maxLen)(hs:l.flatten.length≤1000000):∀(n k:Nat),l.length - k≤n→k≤l.length →
 J Tryz.prog 144 (aB Tryz.f144) Γ (Eq2 (.x (.c (.own 0))) [.own 9 .str l.flatten]) zTm2 ({n:=36,fr:=[(0,.p (.lst .strs l)),(2,.p (.v (Value.slice none 0 0))),(3,.i (((l.take k).flatten.length:Int))),(9,.p (.lst .strs l)),(10,.i l.length),(11,.i ((k:Int)))],ck:=[]}):=by
 intro n
 induction n with
 |zero=>?_
 |succ n ih=>?_
 all_goals
  intro k hn hk
  refine jg s6 Tryz.func144 (let x1:=(↑((List.flatten (List.take k l)).length):Int);let x2:=(x1+(↑((ETy.get .strs l k).length):Int));let x3:Nat×SV:=(2,.p (.v (Value.slice none 0 0)));.ite (decide ((k:Int)<(l.length:Int))) (.need (inRg k l.length) (.ite (decide (IntKind.wrap .i64 x2<(0:Int))) (.stop [.ops [1,1,0,1,0,0,1,1,0,0,1,1,1,0] 1,.inBlock 1,.code [1,1,0,1,0,0,1,1,1],.inLoop [1,1,0,1,0,0],.inBlock 0,.code [1,1,1]] {n:=36,fr:=[(0,.p (.lst .strs l)),x3,(3,.i (IntKind.wrap .i64 x2)),(9,.p (.lst .strs l)),(10,.i l.length),(11,.i k),(21,.p (.v (Value.iface 9 (Value.string (bs [(108:UInt8),101,110,32,111,117,116,32,111,102,32,114,97,110,103,101])))))],ck:=[]}) (.stop zTm2 {n:=36,fr:=[(0,.p (.lst .strs l)),x3,(3,.i (IntKind.wrap .i64 x2)),(9,.p (.lst .strs l)),(10,.i l.length),(11,.i (IntKind.wrap .i64 ((k:Int)+1)))],ck:=[]}))) (.need ((0:Int)≤x1∧x1≤1000000) (.stop zTm1 {n:=36,fr:=[x3,(6,.x (.c (.own 0))),(25,.p (.lst .strs l)),(26,.i l.length),(27,.i 0)],ck:=[.own 9 .str []]}))) ?_
  conv=>zeta
  refine⟨fun hlt=>?_,fun hge=>?_⟩
  · have hk':k<l.length:=by have:=of_decide_eq_true hlt;omega
    have h1:=vY l (k+1)
    refine⟨by omega,?_⟩
    have h2:IntKind.wrap .i64 (((l.take k).flatten.length:Int)+((ETy.get .strs l k).length:Int))=((l.take (k+1)).flatten.length:Int):=by
     have h3:(l.take (k+1)).flatten.length=(l.take k).flatten.length+(ETy.get .strs l k).length:=by
      rw[lL hk',au]
      rw[show ETy.get .strs l k=l[k]from ETy.get_eq (t:=.strs) (List.getElem?_eq_getElem hk')]
     rw[cj (by omega) (by omega)];omega
    rw[h2]
    refine⟨fun hb=>?_,fun _=>?_⟩
    ·have:=of_decide_eq_true hb;omega
    rw[ba (aK hk' hl)]
    first |(exfalso;omega) |exact ih (k+1) (by omega) (by omega)
  · have hke:k=l.length:=by have:=of_decide_eq_false hge;omega
    subst hke
    refine⟨by have:=vY l l.length;omega,?_⟩
    exact Kx l Γ hl hs l.length 0 (by omega) (by omega)
theorem Cv(h:l.flatten.length≤1000000):ag Tryz.prog 144 [.l .strs l] [] (.x (.c (.own 0))) [.own 9 .str l.flatten]:=by
 refine dg s6 Tryz.func144 (.stop zTm2 {n:=36,fr:=[(0,.p (.lst .strs l)),(2,.p (.v (Value.slice none 0 0))),(3,.i 0),(9,.p (.lst .strs l)),(10,.i l.length),(11,.i 0)],ck:=[]}) fun Γ=>?_
 exact J.len 0 rfl fun hl=>Kw l Γ hl h l.length 0 (by omega) (by omega)
def jr:List Str:=l.flatten.reverse.reverse
theorem pn:jr l=l.flatten:=List.reverse_reverse _
theorem CE(h:(jr l).length≤1000000):ag Tryz.prog 144 [.l .strs l] [] (.x (.c (.own 0))) [.own 9 .str (jr l)]:=by
 rw[pn]at h ⊢;exact Cv l h
def rK:Ent:=(144,fun
 |[.c (.pd (.lst .strs l))],[]=>some (some ((jr l).length≤1000000),.x (.c (.own 0)),[.own 9 .str (jr l)])
 |_,_=>none)
theorem EN:EntOk Tryz.prog rK:=entOk fun vs ck=>by
 unfold rK;dsimp only;split
 ·rename_i l;exact entS fun hp=>CE l hp
 ·exact entN
def NM:Cfg:=⟨aX,[rK]⟩
theorem KG:ah Tryz.prog NM.tab:=(ah.cons EN ah.nil)
variable(c:Chart)(a:List Str)(i:Int)(b l:List Str)
def gX:List Str:=jr [[c.name],c.events,a,b]
theorem PP(h:(gX c a b).length≤1000000):ag Tryz.prog 143 [.p (.ref .chart c 0),.p (.ref .strs a 0),.p (.ref .strs b 0)] [] (.x (.c (.own 0))) [.own 9 .str (gX c a b)]:=by
 refine dg KG Tryz.func143 (.need ((jr [[c.name],c.events,a,b]).length≤1000000) (.ret (.x (.c (.own 0))) [.own 9 .str (jr [[c.name],c.events,a,b])])) fun Γ=>?_
 exact⟨h,rfl,rfl⟩
def eQ2:Ent:=(143,fun
 |[.c (.pd (.ref .chart c 0)),.c (.pd (.ref .strs a 0)),.c (.pd (.ref .strs b 0))],[]=>some (some ((gX c a b).length≤1000000),.x (.c (.own 0)),[.own 9 .str (gX c a b)])
 |_,_=>none)
theorem Q5:EntOk Tryz.prog eQ2:=entOk fun vs ck=>by
 unfold eQ2;dsimp only;split
 ·rename_i c a b;exact entS fun hp=>PP c a b hp
 ·exact entN
def HI:Cfg:=⟨aX,[k8]⟩
theorem HJ:ah Tryz.prog HI.tab:=(ah.cons jV ah.nil)
theorem Ms(s:Str):ag Tryz.prog 149 [.s s] [] (.x (.b (!a8 s))) []:=by
 refine dg HJ Tryz.func149 (.ret (.p (.bool !a8 s)) []) fun Γ=>⟨rfl,rfl⟩
def Fe:Ent:=(149,fun
 |[.c (.pd (.str s))],[]=>some (none,.x (.c (.pd (.bool (!a8 s)))),[])
 |_,_=>none)
theorem OW:EntOk Tryz.prog Fe:=entOk fun vs ck=>by
 unfold Fe;dsimp only;split
 ·rename_i s;exact entS fun hp=>Ms s
 ·exact entN
def Ep:Cfg:=⟨aX,[Fe]⟩
theorem AK:ah Tryz.prog Ep.tab:=(ah.cons OW ah.nil)
abbrev zTo1:List PI:=[.code [1,0,1,0,0],.inLoop [1,0,1,0,0],.inBlock 0,.code [1,1]]
theorem LH(Γ:Ctx)(hl:l.length≤maxLen)  : ∀(n k:Nat),l.length - k≤n→k≤l.length →
 J Tryz.prog 209 (aB Tryz.f209) Γ (Eq2 (.x (.i (ax (fun s:Str=>!a8 s) (l.drop k) k))) []) zTo1 ({n:=19,fr:=[(0,.p (.lst .str l)),(1,.x (.c (.fn (.func 149) [] []))),(4,.i 0),(7,.i l.length),(8,.i k)],ck:=[]}):=by
 intro n
 induction n with
 |zero=>?_
 |succ n ih=>?_
 all_goals
  intro k hn hk
  refine jg AK Tryz.func209 (.ite (decide ((k:Int)<(l.length:Int))) (.need (inRg k l.length) (.ite (!a8 (ETy.get .str l k)) (.ret (.i k) []) (.stop zTo1 {n:=19,fr:=[(0,.p (.lst .str l)),(1,.x (.c (.fn (.func 149) [] []))),(4,.i 0),(7,.i l.length),(8,.i (IntKind.wrap .i64 ((k:Int)+1)))],ck:=[]}))) (.ret (.i (-1:Int)) [])) ?_
  refine⟨fun hlt=>?_,fun hge=>?_⟩
  · have hk':k<l.length:=by have:=of_decide_eq_true hlt;omega
    rw[bK (t:=.str) (l:=l) hk']
    refine⟨by omega,?_⟩
    generalize ETy.get .str l k=v
    refine⟨fun hb=>⟨?_,rfl⟩,fun hb=>?_⟩
    ·simp only[ax,hb,cond_true]
    ·simp only[ax,hb,cond_false];(rw[ba (aK hk' hl)];first |(exfalso;omega) |exact ih (k+1) (by omega) (by omega))
  · rw[bZ (l:=l) (by have:=of_decide_eq_false hge;omega)]
    exact⟨rfl,rfl⟩
theorem LI:ag Tryz.prog 209 [.l .str (l),SX.c (SC.fn (Fn.func 149) [] [])] [] (.x (.i (ax (fun s:Str=>!a8 s) l 0))) []:=by
 refine dg AK Tryz.func209 (.stop zTo1 {n:=19,fr:=[(0,.p (.lst .str l)),(1,.x (.c (.fn (.func 149) [] []))),(4,.i 0),(7,.i l.length),(8,.i 0)],ck:=[]}) fun Γ=>?_
 exact J.len 0 rfl fun hl=>LH l Γ hl l.length 0 (by omega) (by omega)
def ES:Ent:=(209,fun
 |[.c (.pd (.lst .str l)),.c (.fn (.func 149) [] [])],[]=>some (none,.x (.c (.pd (.int .i64 (ax (fun s:Str=>!a8 s) l 0)))),[])
 |_,_=>none)
theorem OG:EntOk Tryz.prog ES:=entOk fun vs ck=>by
 unfold ES;dsimp only;split
 ·rename_i l;exact entS fun hp=>LI l
 ·exact entN
def NF:Cfg:=⟨aX,[ES]⟩
theorem Kz:ah Tryz.prog NF.tab:=(ah.cons OG ah.nil)
theorem Oj:ag Tryz.prog 148 [.l .str l,.c (.fn (.func 149) [] [])] [] (.x (.b (l.any fun s:Str=>!a8 s))) []:=by
 refine dg Kz Tryz.func148 (.ret (.p (.bool (decide (ax (fun s=>!a8 s) l (0:Int)≥0)))) []) fun Γ=>⟨?_,rfl⟩
 rw[iI _ _ _ (by omega)]
def eCf:Ent:=(148,fun
 |[.c (.pd (.lst .str l)),.c (.fn (.func 149) [] [])],[]=>some (none,.x (.c (.pd (.bool (l.any fun s:Str=>!a8 s)))),[])
 |_,_=>none)
theorem QS:EntOk Tryz.prog eCf:=entOk fun vs ck=>by
 unfold eCf;dsimp only;split
 ·rename_i l;exact entS fun hp=>Oj l
 ·exact entN
def NO:Cfg:=⟨aX,[eQ2,eCf,ma]⟩
theorem KI:ah Tryz.prog NO.tab:=(ah.cons Q5 (ah.cons QS (ah.cons kP ah.nil)))
theorem PS(h:(gX c a b).length≤1000000):ag Tryz.prog 147 [.p (.fnAt [(143,[.ref .chart c 0,.ref .strs a 0,.ref .strs b 0])] 0)] [] (.x (.i (b9 (!(gX c a b).any fun s:Str=>!a8 s) 2))) []:=by
 refine dg KI Tryz.func147 (.need ((gX c a b).length≤1000000) (.ret (.i (b9 (!List.any (gX c a b) fun s=>!a8 s) (2:Int))) [])) fun Γ=>?_
 exact⟨h,rfl,rfl⟩
def eQ4:Ent:=(147,fun
 |[.c (.pd (.fnAt [(143,[.ref .chart c 0,.ref .strs a 0,.ref .strs b 0])] 0))],[]=>some (some ((gX c a b).length≤1000000),.x (.c (.pd (.int .i64 (b9 (!(gX c a b).any fun s:Str=>!a8 s) 2)))),[])
 |_,_=>none)
theorem Q7:EntOk Tryz.prog eQ4:=entOk fun vs ck=>by
 unfold eQ4;dsimp only;split
 ·rename_i c a b;exact entS fun hp=>PS c a b hp
 ·exact entN
def jv:Bool:=decide ((c.events.length:Int)≤12)&&decide ((c.vars.length:Int)≤8)&&decide ((c.states.length:Int)≤40)&&decide ((c.trans.length:Int)≤48)
def kK:Bool:=iQ c.events&&iQ a&&iQ b
def NN:Cfg:=⟨aX,[ma]⟩
theorem KH:ah Tryz.prog NN.tab:=(ah.cons kP ah.nil)
theorem PQ:ag Tryz.prog 145 [.p (.ref .chart c 0)] [] (.x (.i (b9 (jv c) 4))) []:=by
 refine dg KH Tryz.func145 (.ret (.i (b9 (decide ((c.events.length:Int)≤12)&&decide ((c.vars.length:Int)≤8)&&decide ((c.states.length:Int)≤40)&&decide ((c.trans.length:Int)≤48)) (4:Int))) []) fun Γ=>⟨rfl,rfl⟩
def eQ3:Ent:=(145,fun
 |[.c (.pd (.ref .chart c 0))],[]=>some (none,.x (.c (.pd (.int .i64 (b9 (jv c) 4)))),[])
 |_,_=>none)
theorem Q6:EntOk Tryz.prog eQ3:=entOk fun vs ck=>by
 unfold eQ3;dsimp only;split
 ·rename_i c;exact entS fun hp=>PQ c
 ·exact entN
def NP:Cfg:=⟨aX,[yL,ma]⟩
theorem KJ:ah Tryz.prog NP.tab:=(ah.cons Lg (ah.cons kP ah.nil))
theorem PT(h:c.events.length≤1000000∧a.length≤1000000∧b.length≤1000000):ag Tryz.prog 150 [.p (.ref .chart c 0),.p (.ref .strs a 0),.p (.ref .strs b 0)] [] (.x (.i (b9 (kK c a b) 3))) []:=by
 refine dg KJ Tryz.func150 (.need (c.events.length≤1000000) (.need (iQ c.events=true→a.length≤1000000) (.need ((iQ c.events&&iQ a)=true→b.length≤1000000) (.ret (.i (b9 (iQ c.events&&iQ a&&iQ b) (3:Int))) [])))) fun Γ=>?_
 exact⟨h.1,fun _=>h.2.1,fun _=>h.2.2,rfl,rfl⟩
def eQ5:Ent:=(150,fun
 |[.c (.pd (.ref .chart c 0)),.c (.pd (.ref .strs a 0)),.c (.pd (.ref .strs b 0))],[]=>some (some (c.events.length≤1000000∧a.length≤1000000∧b.length≤1000000),.x (.c (.pd (.int .i64 (b9 (kK c a b) 3)))),[])
 |_,_=>none)
theorem Q8:EntOk Tryz.prog eQ5:=entOk fun vs ck=>by
 unfold eQ5;dsimp only;split
 ·rename_i c a b;exact entS fun hp=>PT c a b hp
 ·exact entN
def NQ:Cfg:=⟨aX,[oz,ma]⟩
theorem KK:ah Tryz.prog NQ.tab:=(ah.cons uz (ah.cons kP ah.nil))
theorem PU(h:c.states.length≤maxLen):ag Tryz.prog 152 [.p (.ref .chart c 0)] [] (.x (.i (b9 (cm c.states) 9))) []:=by
 refine dg KK Tryz.func152 (.need (c.states.length≤maxLen) (.ret (.i (b9 (cm c.states) (9:Int))) [])) fun Γ=>?_
 exact⟨h,rfl,rfl⟩
def eQ6:Ent:=(152,fun
 |[.c (.pd (.ref .chart c 0))],[]=>some (some (c.states.length≤maxLen),.x (.c (.pd (.int .i64 (b9 (cm c.states) 9)))),[])
 |_,_=>none)
theorem Q9:EntOk Tryz.prog eQ6:=entOk fun vs ck=>by
 unfold eQ6;dsimp only;split
 ·rename_i c;exact entS fun hp=>PU c hp
 ·exact entN
def tP:Cfg:=⟨aX,[uN,yV,yU,Fs]⟩
theorem o3:ah Tryz.prog tP.tab:=(ah.cons IB (ah.cons Lq (ah.cons Lp (ah.cons O5 ah.nil))))
theorem PV(h:0≤i∧i<(c.states.length:Int)∧c.states.length≤maxLen):ag Tryz.prog 153 [.i i,.p (.ref .chart c 0)] [] (.x (.i (dV c.states i.toNat))) []:=by
 refine dg o3 Tryz.func153 (.need ((0:Int)≤i∧i<(c.states.length:Int)∧c.states.length≤maxLen) (.ret (.i (dV c.states (Int.toNat i))) [])) fun Γ=>⟨h,rfl,rfl⟩
def eQ7:Ent:=(153,fun
 |[.c (.pd (.int .i64 i)),.c (.pd (.ref .chart c 0))],[]=>some (some (0≤i∧i<(c.states.length:Int)∧c.states.length≤maxLen),.x (.c (.pd (.int .i64 (dV c.states i.toNat)))),[])
 |_,_=>none)
theorem Ra:EntOk Tryz.prog eQ7:=entOk fun vs ck=>by
 unfold eQ7;dsimp only;split
 ·rename_i i c;exact entS fun hp=>PV c i hp
 ·exact entN
theorem PW(h:0≤i∧i<(c.vars.length:Int)):ag Tryz.prog 155 [.i i,.p (.ref .chart c 0)] [] (.x (.i (fm (ETy.get .var c.vars i.toNat)))) []:=by
 refine dg o3 Tryz.func155 (.need ((0:Int)≤i∧i<(c.vars.length:Int)) (.ret (.i (fm (ETy.get .var c.vars (Int.toNat i)))) [])) fun Γ=>⟨h,rfl,rfl⟩
def eQ8:Ent:=(155,fun
 |[.c (.pd (.int .i64 i)),.c (.pd (.ref .chart c 0))],[]=>some (some (0≤i∧i<(c.vars.length:Int)),.x (.c (.pd (.int .i64 (fm (ETy.get .var c.vars i.toNat))))),[])
 |_,_=>none)
theorem Rb:EntOk Tryz.prog eQ8:=entOk fun vs ck=>by
 unfold eQ8;dsimp only;split
 ·rename_i i c;exact entS fun hp=>PW c i hp
 ·exact entN
theorem PX(h:0≤i∧i<(c.states.length:Int)):ag Tryz.prog 157 [.i i,.p (.ref .chart c 0)] [] (.x (.i (dt c (ETy.get .stat c.states i.toNat)))) []:=by
 refine dg o3 Tryz.func157 (.need ((0:Int)≤i∧i<(c.states.length:Int)) (.ret (.i (dt c (ETy.get .stat c.states (Int.toNat i)))) [])) fun Γ=>⟨h,rfl,rfl⟩
def eQ9:Ent:=(157,fun
 |[.c (.pd (.int .i64 i)),.c (.pd (.ref .chart c 0))],[]=>some (some (0≤i∧i<(c.states.length:Int)),.x (.c (.pd (.int .i64 (dt c (ETy.get .stat c.states i.toNat))))),[])
 |_,_=>none)
theorem Rc:EntOk Tryz.prog eQ9:=entOk fun vs ck=>by
 unfold eQ9;dsimp only;split
 ·rename_i i c;exact entS fun hp=>PX c i hp
 ·exact entN
theorem Mr(h:0≤i∧i<(c.trans.length:Int)∧c.states.length≤maxLen∧c.trans.length≤maxLen):ag Tryz.prog 159 [.i i,.p (.ref .chart c 0),.p (.ref .strs l 0)] [] (.x (.i (dj c i.toNat l (ETy.get .tran c.trans i.toNat)))) []:=by
 refine dg o3 Tryz.func159 (.need ((0:Int)≤i∧i<(c.trans.length:Int)∧c.states.length≤maxLen∧c.trans.length≤maxLen) (.ret (.i (dj c (Int.toNat i) l (ETy.get .tran c.trans (Int.toNat i)))) [])) fun Γ=>⟨h,rfl,rfl⟩
def Fc:Ent:=(159,fun
 |[.c (.pd (.int .i64 i)),.c (.pd (.ref .chart c 0)),.c (.pd (.ref .strs l 0))],[]=>some (some (0≤i∧i<(c.trans.length:Int)∧c.states.length≤maxLen∧c.trans.length≤maxLen),.x (.c (.pd (.int .i64 (dj c i.toNat l (ETy.get .tran c.trans i.toNat))))),[])
 |_,_=>none)
theorem OV:EntOk Tryz.prog Fc:=entOk fun vs ck=>by
 unfold Fc;dsimp only;split
 ·rename_i i c l;exact entS fun hp=>Mr c i l hp
 ·exact entN
abbrev zJ141Tp:=J Tryz.prog 141 (aB Tryz.f141)
def b5(f:Nat→Int):Nat→Nat→Int
 |_,0=>0
 |k,m+1=>if(f k != 0)=true then f k else b5 f (k+1) m
theorem lg(f:Nat→Int){k n:Nat}(h:k<n):b5 f k (n - k)=if(f k != 0)=true then f k else b5 f (k+1) (n - (k+1)):=by
 obtain⟨m,hm⟩:∃m,n - k=m+1:=⟨n - k - 1,by omega⟩
 rw[hm,show n - (k+1)=m by omega];rfl
def El:Cfg:=⟨aX,[eQ7]⟩
theorem AE:ah Tryz.prog El.tab:=(ah.cons Ra ah.nil)
abbrev zTp1:List PI:=[.code [1,0,1,0,0],.inLoop [1,0,1,0,0],.inBlock 0,.code [1,1]]
variable(c:Chart)(l:List Str)(n:Nat)(Γ:Ctx)
theorem Ot(hn:n≤c.states.length)(h0:c.states.length≤maxLen)(hm:n≤maxLen):∀(m k:Nat),n - k≤m→k≤n →
 zJ141Tp Γ (Eq2 (.x (.i (b5 (fun k:Nat=>dV c.states k) k (n - k)))) []) zTp1 ({n:=16,fr:=[(1,.p (PD.fnAt [(153,[.ref .chart c 0])] 0)),(2,.i 0),(5,.i n),(6,.i ((k:Int)))],ck:=[]}):=by
 intro m
 induction m with
 |zero=>?_
 |succ m ih=>?_
 all_goals
  intro k hmk hk
  refine jg AE Tryz.func141 (.ite (decide ((k:Int)<(n:Int))) (.need ((0:Int)≤(k:Int)∧(k:Int)<(c.states.length:Int)∧c.states.length≤maxLen) (.ite (dV c.states k != (0:Int)) (.ret (.i (dV c.states k)) []) (.stop zTp1 {n:=16,fr:=[(1,.p (PD.fnAt [(153,[.ref .chart c 0])] 0)),(2,.i 0),(5,.i n),(6,.i (IntKind.wrap .i64 ((k:Int)+1)))],ck:=[]}))) (.ret (.i 0) [])) ?_
  refine⟨fun hlt=>?_,fun hge=>?_⟩
  · have hk':k<n:=by have:=of_decide_eq_true hlt;omega
    rw[lg _ hk']
    refine⟨⟨by omega,by omega,h0⟩,fun hb=>?_,fun hb=>?_⟩
    ·rw[if_pos (by exact hb)];exact⟨rfl,rfl⟩
    · rw[if_neg (by rw[show _=false from hb];decide)]
      rw[ba (aK hk' hm)]
      first |(exfalso;omega) |exact ih (k+1) (by omega) (by omega)
  · have hke:n - k=0:=by have:=of_decide_eq_false hge;omega
    rw[hke];exact⟨rfl,rfl⟩
theorem QP(hn:n≤c.states.length)(h0:c.states.length≤maxLen)(hm:n≤maxLen):ag Tryz.prog 141 [.p (.ref .int (n:Int) 0),.p (.fnAt [(153,[.ref .chart c 0])] 0)] [] (.x (.i (b5 (fun k:Nat=>dV c.states k) 0 n))) []:=by
 refine dg AE Tryz.func141 (.stop zTp1 {n:=16,fr:=[(1,.p (PD.fnAt [(153,[.ref .chart c 0])] 0)),(2,.i 0),(5,.i n),(6,.i 0)],ck:=[]}) fun Γ=>?_
 exact Ot c n Γ hn h0 hm n 0 (by omega) (by omega)
theorem Ou(n:Int)(h:n=(c.states.length:Int))(h0:c.states.length≤maxLen)(hm:c.states.length≤maxLen):ag Tryz.prog 141 [.p (.ref .int n 0),.p (.fnAt [(153,[.ref .chart c 0])] 0)] [] (.x (.i (b5 (fun k:Nat=>dV c.states k) 0 c.states.length))) []:=by
 subst h
 exact QP c _ (ar _) h0 hm
def Em:Cfg:=⟨aX,[eQ8]⟩
theorem AF:ah Tryz.prog Em.tab:=(ah.cons Rb ah.nil)
theorem Ov(hn:n≤c.vars.length)(hm:n≤maxLen):∀(m k:Nat),n - k≤m→k≤n →
 zJ141Tp Γ (Eq2 (.x (.i (b5 (fun k:Nat=>fm (ETy.get .var c.vars k)) k (n - k)))) []) zTp1 ({n:=16,fr:=[(1,.p (PD.fnAt [(155,[.ref .chart c 0])] 0)),(2,.i 0),(5,.i n),(6,.i ((k:Int)))],ck:=[]}):=by
 intro m
 induction m with
 |zero=>?_
 |succ m ih=>?_
 all_goals
  intro k hmk hk
  refine jg AF Tryz.func141 (.ite (decide ((k:Int)<(n:Int))) (.need (inRg k c.vars.length) (.ite (fm (ETy.get .var c.vars k) != (0:Int)) (.ret (.i (fm (ETy.get .var c.vars k))) []) (.stop zTp1 {n:=16,fr:=[(1,.p (PD.fnAt [(155,[.ref .chart c 0])] 0)),(2,.i 0),(5,.i n),(6,.i (IntKind.wrap .i64 ((k:Int)+1)))],ck:=[]}))) (.ret (.i 0) [])) ?_
  refine⟨fun hlt=>?_,fun hge=>?_⟩
  · have hk':k<n:=by have:=of_decide_eq_true hlt;omega
    rw[lg _ hk']
    refine⟨⟨by omega,by omega⟩,fun hb=>?_,fun hb=>?_⟩
    ·rw[if_pos (by exact hb)];exact⟨rfl,rfl⟩
    · rw[if_neg (by rw[show _=false from hb];decide)]
      rw[ba (aK hk' hm)]
      first |(exfalso;omega) |exact ih (k+1) (by omega) (by omega)
  · have hke:n - k=0:=by have:=of_decide_eq_false hge;omega
    rw[hke];exact⟨rfl,rfl⟩
theorem QQ(hn:n≤c.vars.length)(hm:n≤maxLen):ag Tryz.prog 141 [.p (.ref .int (n:Int) 0),.p (.fnAt [(155,[.ref .chart c 0])] 0)] [] (.x (.i (b5 (fun k:Nat=>fm (ETy.get .var c.vars k)) 0 n))) []:=by
 refine dg AF Tryz.func141 (.stop zTp1 {n:=16,fr:=[(1,.p (PD.fnAt [(155,[.ref .chart c 0])] 0)),(2,.i 0),(5,.i n),(6,.i 0)],ck:=[]}) fun Γ=>?_
 exact Ov c n Γ hn hm n 0 (by omega) (by omega)
theorem Ow(n:Int)(h:n=(c.vars.length:Int))(hm:c.vars.length≤maxLen):ag Tryz.prog 141 [.p (.ref .int n 0),.p (.fnAt [(155,[.ref .chart c 0])] 0)] [] (.x (.i (b5 (fun k:Nat=>fm (ETy.get .var c.vars k)) 0 c.vars.length))) []:=by
 subst h
 exact QQ c _ (ar _) hm
def En:Cfg:=⟨aX,[eQ9]⟩
theorem AG:ah Tryz.prog En.tab:=(ah.cons Rc ah.nil)
theorem Ox(hn:n≤c.states.length)(hm:n≤maxLen):∀(m k:Nat),n - k≤m→k≤n →
 zJ141Tp Γ (Eq2 (.x (.i (b5 (fun k:Nat=>dt c (ETy.get .stat c.states k)) k (n - k)))) []) zTp1 ({n:=16,fr:=[(1,.p (PD.fnAt [(157,[.ref .chart c 0])] 0)),(2,.i 0),(5,.i n),(6,.i ((k:Int)))],ck:=[]}):=by
 intro m
 induction m with
 |zero=>?_
 |succ m ih=>?_
 all_goals
  intro k hmk hk
  refine jg AG Tryz.func141 (.ite (decide ((k:Int)<(n:Int))) (.need (inRg k c.states.length) (.ite (dt c (ETy.get .stat c.states k) != (0:Int)) (.ret (.i (dt c (ETy.get .stat c.states k))) []) (.stop zTp1 {n:=16,fr:=[(1,.p (PD.fnAt [(157,[.ref .chart c 0])] 0)),(2,.i 0),(5,.i n),(6,.i (IntKind.wrap .i64 ((k:Int)+1)))],ck:=[]}))) (.ret (.i 0) [])) ?_
  refine⟨fun hlt=>?_,fun hge=>?_⟩
  · have hk':k<n:=by have:=of_decide_eq_true hlt;omega
    rw[lg _ hk']
    refine⟨⟨by omega,by omega⟩,fun hb=>?_,fun hb=>?_⟩
    ·rw[if_pos (by exact hb)];exact⟨rfl,rfl⟩
    · rw[if_neg (by rw[show _=false from hb];decide)]
      rw[ba (aK hk' hm)]
      first |(exfalso;omega) |exact ih (k+1) (by omega) (by omega)
  · have hke:n - k=0:=by have:=of_decide_eq_false hge;omega
    rw[hke];exact⟨rfl,rfl⟩
theorem QR(hn:n≤c.states.length)(hm:n≤maxLen):ag Tryz.prog 141 [.p (.ref .int (n:Int) 0),.p (.fnAt [(157,[.ref .chart c 0])] 0)] [] (.x (.i (b5 (fun k:Nat=>dt c (ETy.get .stat c.states k)) 0 n))) []:=by
 refine dg AG Tryz.func141 (.stop zTp1 {n:=16,fr:=[(1,.p (PD.fnAt [(157,[.ref .chart c 0])] 0)),(2,.i 0),(5,.i n),(6,.i 0)],ck:=[]}) fun Γ=>?_
 exact Ox c n Γ hn hm n 0 (by omega) (by omega)
theorem Oy(n:Int)(h:n=(c.states.length:Int))(hm:c.states.length≤maxLen):ag Tryz.prog 141 [.p (.ref .int n 0),.p (.fnAt [(157,[.ref .chart c 0])] 0)] [] (.x (.i (b5 (fun k:Nat=>dt c (ETy.get .stat c.states k)) 0 c.states.length))) []:=by
 subst h
 exact QR c _ (ar _) hm
def AD:Cfg:=⟨aX,[Fc]⟩
theorem w8:ah Tryz.prog AD.tab:=(ah.cons OV ah.nil)
abbrev zTp2(a:Chart)(b:List Str):List (Nat×List PD):=[(159,[.ref .chart a 0,.ref .strs b 0])]
theorem K4(hn:n≤c.trans.length)(h0:c.states.length≤maxLen)(h1:c.trans.length≤maxLen)(hm:n≤maxLen):∀(m k:Nat),n - k≤m→k≤n →
 zJ141Tp Γ (Eq2 (.x (.i (b5 (fun k:Nat=>dj c k l (ETy.get .tran c.trans k)) k (n - k)))) []) zTp1 ({n:=16,fr:=[(1,.p (PD.fnAt (zTp2 c l) 0)),(2,.i 0),(5,.i n),(6,.i ((k:Int)))],ck:=[]}):=by
 intro m
 induction m with
 |zero=>?_
 |succ m ih=>?_
 all_goals
  intro k hmk hk
  refine jg w8 Tryz.func141 (.ite (decide ((k:Int)<(n:Int))) (.need ((0:Int)≤(k:Int)∧(k:Int)<(c.trans.length:Int)∧c.states.length≤maxLen∧c.trans.length≤maxLen) (.ite (dj c k l (ETy.get .tran c.trans k) != (0:Int)) (.ret (.i (dj c k l (ETy.get .tran c.trans k))) []) (.stop zTp1 {n:=16,fr:=[(1,.p (PD.fnAt (zTp2 c l) 0)),(2,.i 0),(5,.i n),(6,.i (IntKind.wrap .i64 ((k:Int)+1)))],ck:=[]}))) (.ret (.i 0) [])) ?_
  refine⟨fun hlt=>?_,fun hge=>?_⟩
  · have hk':k<n:=by have:=of_decide_eq_true hlt;omega
    rw[lg _ hk']
    refine⟨⟨by omega,by omega,h0,h1⟩,fun hb=>?_,fun hb=>?_⟩
    ·rw[if_pos (by exact hb)];exact⟨rfl,rfl⟩
    · rw[if_neg (by rw[show _=false from hb];decide)]
      rw[ba (aK hk' hm)]
      first |(exfalso;omega) |exact ih (k+1) (by omega) (by omega)
  · have hke:n - k=0:=by have:=of_decide_eq_false hge;omega
    rw[hke];exact⟨rfl,rfl⟩
theorem Oq(hn:n≤c.trans.length)(h0:c.states.length≤maxLen)(h1:c.trans.length≤maxLen)(hm:n≤maxLen):ag Tryz.prog 141 [.p (.ref .int (n:Int) 0),.p (.fnAt (zTp2 c l) 0)] [] (.x (.i (b5 (fun k:Nat=>dj c k l (ETy.get .tran c.trans k)) 0 n))) []:=by
 refine dg w8 Tryz.func141 (.stop zTp1 {n:=16,fr:=[(1,.p (PD.fnAt (zTp2 c l) 0)),(2,.i 0),(5,.i n),(6,.i 0)],ck:=[]}) fun Γ=>?_
 exact K4 c l n Γ hn h0 h1 hm n 0 (by omega) (by omega)
theorem K5(n:Int)(h:n=(c.trans.length:Int))(h0:c.states.length≤maxLen)(h1:c.trans.length≤maxLen)(hm:c.trans.length≤maxLen):ag Tryz.prog 141 [.p (.ref .int n 0),.p (.fnAt (zTp2 c l) 0)] [] (.x (.i (b5 (fun k:Nat=>dj c k l (ETy.get .tran c.trans k)) 0 c.trans.length))) []:=by
 subst h
 exact Oq c l _ (ar _) h0 h1 hm
def eE7:Ent:=(141,fun
 |[.c (.pd (.ref .int n 0)),.c (.pd (.fnAt [(153,[.ref .chart c 0])] 0))],[]=>some (some (n=(c.states.length:Int)∧c.states.length≤maxLen),.x (.c (.pd (.int .i64 (b5 (fun k:Nat=>dV c.states k) 0 c.states.length)))),[])
 |_,_=>none)
theorem QV:EntOk Tryz.prog eE7:=entOk fun vs ck=>by
 unfold eE7;dsimp only;split
 ·rename_i n c;exact entS fun hp=>Ou c n hp.1 hp.2 hp.2
 ·exact entN
def eE8:Ent:=(141,fun
 |[.c (.pd (.ref .int n 0)),.c (.pd (.fnAt [(155,[.ref .chart c 0])] 0))],[]=>some (some (n=(c.vars.length:Int)∧c.vars.length≤maxLen),.x (.c (.pd (.int .i64 (b5 (fun k:Nat=>fm (ETy.get .var c.vars k)) 0 c.vars.length)))),[])
 |_,_=>none)
theorem QW:EntOk Tryz.prog eE8:=entOk fun vs ck=>by
 unfold eE8;dsimp only;split
 ·rename_i n c;exact entS fun hp=>Ow c n hp.1 hp.2
 ·exact entN
def eE9:Ent:=(141,fun
 |[.c (.pd (.ref .int n 0)),.c (.pd (.fnAt [(157,[.ref .chart c 0])] 0))],[]=>some (some (n=(c.states.length:Int)∧c.states.length≤maxLen),.x (.c (.pd (.int .i64 (b5 (fun k:Nat=>dt c (ETy.get .stat c.states k)) 0 c.states.length)))),[])
 |_,_=>none)
theorem QX:EntOk Tryz.prog eE9:=entOk fun vs ck=>by
 unfold eE9;dsimp only;split
 ·rename_i n c;exact entS fun hp=>Oy c n hp.1 hp.2
 ·exact entN
def EP:Ent:=(141,fun
 |[.c (.pd (.ref .int n 0)),.c (.pd (.fnAt [(159,[.ref .chart c 0,.ref .strs l 0])] 0))],[]=>some (some (n=(c.trans.length:Int)∧c.states.length≤maxLen∧c.trans.length≤maxLen),.x (.c (.pd (.int .i64 (b5 (fun k:Nat=>dj c k l (ETy.get .tran c.trans k)) 0 c.trans.length)))),[])
 |_,_=>none)
theorem OE:EntOk Tryz.prog EP:=entOk fun vs ck=>by
 unfold EP;dsimp only;split
 ·rename_i n c l;exact entS fun hp=>K5 c l n hp.1 hp.2.1 hp.2.2 hp.2.2
 ·exact entN
end Go.Proofs.YtlhgnjmdopjpeaaGreatDoor

/- Contracts: valid: no text twice, names. Conditions: sizes. Contracts: valid.Check: each. Conditions: none. The library's contracts of the shelf, laid at this dump by the kit's tools. Conditions: each one's own. Contracts: slices.Grow, Concat, ContainsFunc on texts. Conditions: sizes. Contracts: valid.Check's questions. Conditions: sizes. Contracts: valid.Check: each's loops. Conditions: sizes. -/
import Derived.Test.YtlhgnjmdopjpeaaGreatDoorTj
import Derived.Test.YtlhgnjmdopjpeaaGreatDoorKb
import Derived.Shelf.Spec.SlicesGrow
import Derived.Test.YtlhgnjmdopjpeaaGreatDoorProg
namespace Go.Proofs.YtlhgnjmdopjpeaaGreatDoor
open Go Go.Ev
set_option maxRecDepth 100000
variable(c:Chart)(l:List Str)(Γ:Ctx)
def iV:Bool:=((dR (gK l)).length:Int)==((gK l).length:Int)
theorem J0(h:l.length≤1000000):ah Tryz.prog 151 [.l .str l] [] (.x (.b (iV l))) []:=by
 refine dg Lk Tryz.func151 (.need (room l.length 16) (.need (l.length≤1000000) (.need (room ((gK l).length) 16) (.need ((gK l).length≤1000000) (.ret (.p (.bool ((↑((dR (gK l)).length):Int)==(↑((gK l).length):Int)))) []))))) fun Γ=>?_
 have hr:∀n,n≤1000000→room n 16:=fun n hn=>⟨by omega,aC hn (by decide)⟩
 have hl:(gK l).length=l.length:=List.length_mergeSort l
 refine⟨hr _ h,h,hr _ (by rw[hl];exact h),by rw[hl];exact h,?_⟩
 exact⟨rfl,rfl⟩
def Al:Ent:=(151,fun
 |[.c (.pd (.lst .str l))],[]=>some (some (l.length≤1000000),.x (.c (.pd (.bool (iV l)))),[])
 |_,_=>none)
theorem LV:EntOk Tryz.prog Al:=entOk fun vs ck=>by
 unfold Al;dsimp only;split
 ·rename_i l;exact entS fun hp=>J0 l hp
 ·exact entN
theorem rA(n:Nat)(h:n≤2199023255552):room n 16:=⟨by omega,aC h (by decide)⟩
theorem rE{t:ETy}(f:t.den→Str){l:List t.den}{k:Nat}(hk:k<l.length):(l.take k).map f++[f (ETy.get t l k)]=(l.take (k+1)).map f:=by
 rw[ETy.get_eq (List.getElem?_eq_getElem hk),aL hk,bC];rfl
abbrev zTk2:List PI:=[.code [1,1,1,0,1,0,0],.inLoop [1,1,1,0,1,0,0],.inBlock 2,.code [1,1,1,1]]
theorem MX(hv:c.vars.length≤2199023255552)(hs:c.states.length≤2199023255552):∀(n k:Nat),c.states.length - k≤n→k≤c.states.length →
 J Tryz.prog 139 (ar Tryz.f139) Γ (Eq2 (.tup [.c (.own 0),.c (.own 1)]) [.own 9 .str (c.vars.map fun v:Var=>v.name),.own 9 .str (c.states.map fun s:Ev.Stat=>s.name)]) zTk2 ({n:=38,fr:=[(2,.p (.v (Value.slice none 0 0))),(3,.p (.v (Value.slice none 0 0))),(4,.x (.c (.own 0))),(5,.x (.c (.own 1))),(24,.p (.lst .stat c.states)),(25,.i c.states.length),(26,.i ((k:Int)))],ck:=[.own 9 .str (c.vars.map fun v:Var=>v.name),.own 9 .str ((c.states.take k).map fun s:Ev.Stat=>s.name)]}):=by
 intro n
 induction n with
 |zero=>?_
 |succ n ih=>?_
 all_goals
  intro k hn hk
  refine jg aX Tryz.func139 (.ite (decide ((k:Int)<(c.states.length:Int))) (.need (inRg k c.states.length) (.need (room ((List.map (fun s=>s.name) (List.take k c.states)++[Stat.name (ETy.get .stat c.states k)]).length) 16) (.stop zTk2 {n:=38,fr:=[(2,.p (.v (Value.slice none 0 0))),(3,.p (.v (Value.slice none 0 0))),(4,.x (.c (.own 0))),(5,.x (.c (.own 1))),(24,.p (.lst .stat c.states)),(25,.i c.states.length),(26,.i (IntKind.wrap .i64 ((k:Int)+1)))],ck:=[.own 9 .str (List.map (fun v=>v.name) c.vars),.own 9 .str (List.map (fun s=>s.name) (List.take k c.states)++[Stat.name (ETy.get .stat c.states k)])]}))) (.ret (.tup [.c (.own 0),.c (.own 1)]) [.own 9 .str (List.map (fun v=>v.name) c.vars),.own 9 .str (List.map (fun s=>s.name) (List.take k c.states))])) ?_
  refine⟨fun hlt=>?_,fun hge=>?_⟩
  · have hk':k<c.states.length:=by have:=of_decide_eq_true hlt;omega
    refine⟨by omega,?_⟩
    rw[rE (t:=.stat) (fun s:Ev.Stat=>s.name) hk']
    refine⟨rA _ (by rw[aP,a6];omega),?_⟩
    rw[aZ (aG hk' (aC hs (by decide)))]
    first |(exfalso;omega) |exact ih (k+1) (by omega) (by omega)
  · have hke:k=c.states.length:=by have:=of_decide_eq_false hge;omega
    subst hke
    rw[a8 (av _)]
    exact⟨rfl,rfl⟩
abbrev zTk1(a:Chart):Chunk:=.cells [.pd (.str a.name),.pd (.lst .str a.events),.pd (.lst .var a.vars),.pd (.lst .stat a.states),.pd (.lst .tran a.trans)] 27
abbrev zTk3:List PI:=[.code [1,1,0,1,0,0],.inLoop [1,1,0,1,0,0],.inBlock 0,.code [1,1,1]]
theorem MW(hv:c.vars.length≤2199023255552)(hs:c.states.length≤2199023255552):∀(n k:Nat),c.vars.length - k≤n→k≤c.vars.length →
 J Tryz.prog 139 (ar Tryz.f139) Γ (Eq2 (.tup [.c (.own 0),.c (.own 1)]) [.own 9 .str (c.vars.map fun v:Var=>v.name),.own 9 .str (c.states.map fun s:Ev.Stat=>s.name)]) zTk3 ({n:=38,fr:=[(1,.x (.c (.loc 0 0))),(2,.p (.v (Value.slice none 0 0))),(3,.p (.v (Value.slice none 0 0))),(4,.x (.c (.own 1))),(5,.p (.v (Value.slice none 0 0))),(11,.p (.lst .var c.vars)),(12,.i c.vars.length),(13,.i ((k:Int)))],ck:=[zTk1 c,.own 9 .str ((c.vars.take k).map fun v:Var=>v.name)]}):=by
 intro n
 induction n with
 |zero=>?_
 |succ n ih=>?_
 all_goals
  intro k hn hk
  refine jg aX Tryz.func139 (let x1:=(Value.slice none 0 0);let x2:=[Var.name (ETy.get .var c.vars k)];.ite (decide ((k:Int)<(c.vars.length:Int))) (.need (inRg k c.vars.length) (.need (room ((List.map (fun v=>v.name) (List.take k c.vars)++x2).length) 16) (.stop zTk3 {n:=38,fr:=[(1,.x (.c (.loc 0 0))),(2,.p (.v x1)),(3,.p (.v x1)),(4,.x (.c (.own 1))),(5,.p (.v x1)),(11,.p (.lst .var c.vars)),(12,.i c.vars.length),(13,.i (IntKind.wrap .i64 ((k:Int)+1)))],ck:=[zTk1 c,.own 9 .str (List.map (fun v=>v.name) (List.take k c.vars)++x2)]}))) (.stop zTk2 {n:=38,fr:=[(2,.p (.v x1)),(3,.p (.v x1)),(4,.x (.c (.own 0))),(5,.p (.v x1)),(24,.p (.lst .stat c.states)),(25,.i c.states.length),(26,.i 0)],ck:=[.own 9 .str (List.map (fun v=>v.name) (List.take k c.vars))]})) ?_
  conv=>zeta
  refine⟨fun hlt=>?_,fun hge=>?_⟩
  · have hk':k<c.vars.length:=by have:=of_decide_eq_true hlt;omega
    refine⟨by omega,?_⟩
    rw[rE (t:=.var) (fun s:Var=>s.name) hk']
    refine⟨rA _ (by rw[aP,a6];omega),?_⟩
    rw[aZ (aG hk' (aC hv (by decide)))]
    first |(exfalso;omega) |exact ih (k+1) (by omega) (by omega)
  · have hke:k=c.vars.length:=by have:=of_decide_eq_false hge;omega
    subst hke
    rw[a8 (av _)]
    refine J.nilOwn 5 9 .str rfl (by kernel_rfl) ?_
    exact MX c Γ hv hs c.states.length 0 (by omega) (by omega)
theorem GR(h:c.vars.length≤2199023255552∧c.states.length≤2199023255552):ah Tryz.prog 139 [.e .chart c] [] (.tup [.c (.own 0),.c (.own 1)]) [.own 9 .str (c.vars.map fun v:Var=>v.name),.own 9 .str (c.states.map fun s:Ev.Stat=>s.name)]:=by
 refine dg aX Tryz.func139 (.stop zTk3 {n:=38,fr:=[(1,.x (.c (.loc 0 0))),(2,.p (.v (Value.slice none 0 0))),(3,.p (.v (Value.slice none 0 0))),(4,.p (.v (Value.slice none 0 0))),(5,.p (.v (Value.slice none 0 0))),(11,.p (.lst .var c.vars)),(12,.i c.vars.length),(13,.i 0)],ck:=[zTk1 c]}) fun Γ=>?_
 refine J.nilOwn 4 9 .str rfl (by kernel_rfl) ?_
 exact MW c Γ h.1 h.2 c.vars.length 0 (by omega) (by omega)
def uJ:Ent:=(139,fun
 |[.agg [.pd (.str a),.pd (.lst .str b),.pd (.lst .var c),.pd (.lst .stat d),.pd (.lst .tran e)]],[]=>some (some (c.length≤2199023255552∧d.length≤2199023255552),.tup [.c (.own 0),.c (.own 1)],[.own 9 .str (c.map fun v:Var=>v.name),.own 9 .str (d.map fun s:Ev.Stat=>s.name)])
 |_,_=>none)
theorem I7:EntOk Tryz.prog uJ:=entOk fun vs ck=>by
 unfold uJ;dsimp only;split
 ·rename_i a b c d e;exact entS fun hp=>GR ⟨a,b,c,d,e⟩ hp
 ·exact entN
variable(n:Int)(f:Nat)(c:Chart)(l:List Str)
theorem RR:ah Tryz.prog 140 [.i n,.c (.fn (.func f) [] [.pd (.ref .chart c 0)])] [] (.x (.c (.fn (.func 141) [] [.loc 0 0,.loc 1 0]))) [.cells [.pd (.i n)] 3,.cells [.fn (.func f) [] [.pd (.ref .chart c 0)]] 159]:=by
 refine dg aX Tryz.func140 (.ret (.x (.c (.fn (.func 141) [] [.loc 0 0,.loc 1 0]))) [.cells [.i n] 3,.cells [.fn (.func f) [] [.pd (.ref .chart c 0)]] 159]) fun Γ=>?_
 exact⟨rfl,rfl⟩
theorem PO:ah Tryz.prog 140 [.i n,.c (.fn (.func f) [] [.pd (.ref .chart c 0)])] [] (.x (.c (.fn (.func 141) [] [.pd (.ref .int n 0),.pd (.fnAt [(f,[.ref .chart c 0])] 0)]))) [] :=
 ah.chop (ck':=[]) (ah.chop (ck':=[.dead]) (ah.frz aU [0,1] (RR n f c) rfl rfl))
theorem RS:ah Tryz.prog 140 [.i n,.c (.fn (.func f) [] [.pd (.ref .chart c 0),.pd (.ref .strs l 0)])] [] (.x (.c (.fn (.func 141) [] [.loc 0 0,.loc 1 0]))) [.cells [.pd (.i n)] 3,.cells [.fn (.func f) [] [.pd (.ref .chart c 0),.pd (.ref .strs l 0)]] 159]:=by
 refine dg aX Tryz.func140 (.ret (.x (.c (.fn (.func 141) [] [.loc 0 0,.loc 1 0]))) [.cells [.i n] 3,.cells [.fn (.func f) [] [.pd (.ref .chart c 0),.pd (.ref .strs l 0)]] 159]) fun Γ=>?_
 exact⟨rfl,rfl⟩
theorem PP:ah Tryz.prog 140 [.i n,.c (.fn (.func f) [] [.pd (.ref .chart c 0),.pd (.ref .strs l 0)])] [] (.x (.c (.fn (.func 141) [] [.pd (.ref .int n 0),.pd (.fnAt [(f,[.ref .chart c 0,.ref .strs l 0])] 0)]))) [] :=
 ah.chop (ck':=[]) (ah.chop (ck':=[.dead]) (ah.frz aU [0,1] (RS n f c l) rfl rfl))
def eEa:Ent:=(140,fun
 |[.c (.pd (.int .i64 n)),.c (.fn (.func f) [] [.pd (.ref .chart c 0)])],[]=>some (none,.x (.c (.fn (.func 141) [] [.pd (.ref .int n 0),.pd (.fnAt [(f,[.ref .chart c 0])] 0)])),[])
 |_,_=>none)
theorem Rz:EntOk Tryz.prog eEa:=entOk fun vs ck=>by
 unfold eEa;dsimp only;split
 ·rename_i n f c;exact entS fun hp=>PO n f c
 ·exact entN
def eEb:Ent:=(140,fun
 |[.c (.pd (.int .i64 n)),.c (.fn (.func f) [] [.pd (.ref .chart c 0),.pd (.ref .strs l 0)])],[]=>some (none,.x (.c (.fn (.func 141) [] [.pd (.ref .int n 0),.pd (.fnAt [(f,[.ref .chart c 0,.ref .strs l 0])] 0)])),[])
 |_,_=>none)
theorem RA:EntOk Tryz.prog eEb:=entOk fun vs ck=>by
 unfold eEb;dsimp only;split
 ·rename_i n f c l;exact entS fun hp=>PP n f c l
 ·exact entN
end Go.Proofs.YtlhgnjmdopjpeaaGreatDoor
namespace Go.Proofs
open Go.Shelf
def Tryz.growS_ren:Go.Shelf.Ren:=⟨fun |4=>208 |n=>n,fun |22=>22 |25=>9 |3=>3 |4=>4 |9=>9 |20=>20 |0=>0 |n=>n,fun |n=>n⟩
theorem Tryz.growS:Go.Proofs.Lays8.n4 Tryz.prog Tryz.growS_ren:={
 mixed:=by kernel_rfl
 f4:=⟨Tryz.f208.name,by decide,Tryz.func208.trans (congrArg some (by kernel_rfl))⟩
 t0:=Tryz.underlying0
 a0:=Tryz.isAgg0
 z0:=Tryz.sizeOf0
 v0:=Tryz.zeroValue0
 t3:=Tryz.underlying3
 a3:=Tryz.isAgg3
 z3:=Tryz.sizeOf3
 v3:=Tryz.zeroValue3
 t4:=Tryz.underlying4
 a4:=Tryz.isAgg4
 z4:=Tryz.sizeOf4
 v4:=Tryz.zeroValue4
 t9:=Tryz.underlying9
 a9:=Tryz.isAgg9
 z9:=Tryz.sizeOf9
 v9:=Tryz.zeroValue9
 t20:=Tryz.underlying20
 a20:=Tryz.isAgg20
 z20:=Tryz.sizeOf20
 v20:=Tryz.zeroValue20
 t22:=Tryz.underlying22
 a22:=Tryz.isAgg22
 z22:=Tryz.sizeOf22
 v22:=Tryz.zeroValue22}
end Go.Proofs
namespace Go.Proofs.YtlhgnjmdopjpeaaGreatDoor
open Go Go.Ev
set_option maxRecDepth 100000
theorem Qh{V:Vn}{vs:List Value}{n:Int}(hv:All2 (SX.R V) [.c (.pd (.v (.slice none 0 0))),.i n] vs):vs=[.slice none 0 0,.int .i64 n]:=by
 cases hv with
 | cons a1 hv=>cases hv with
   | cons a2 hv =>
     cases hv
     have h1:PR V.H (.v (.slice none 0 0)) _:=a1
     have h2:PR V.H (.int .i64 n) _:=a2
     cases h1;cases h2
     rfl
theorem JC(n:Int)(h:0≤n∧n≤1000000):ah Tryz.prog 208 [.c (.pd (.v (.slice none 0 0))),.i n] [] (.x (.c (.own 0))) [.own 9 .str []]:=by
 intro w V vs hw hT hv
 rw[Qh hv]
 obtain⟨k,rfl⟩:=aA h.1
 have hk:k≤1000000:=by omega
 cases k with
 | zero =>
   refine(Any8.slices_Grow_room Tryz.growS none 0 0 0 w (by omega) (by omega) (by omega) (by omega)).mono fun e w' ⟨he,hw'⟩=>?_
   subst he;subst hw'
   obtain⟨V',_,_,_,e2,hw2⟩:=hw.regrow (ck:=[]) rfl (aS _) none (c:=.own 9 .str []) (v':=.slice none 0 0) (s':=0) (w':=w') (row:=none) (by simp) (World.grownBy.refl _ _) (fun V' hag hH f1 f2=>by
    refine⟨⟨[],⟨rfl,.inl ⟨f2,rfl⟩⟩,.nil,fun b hb=>?_⟩,fun b hb=>?_⟩
    ·rw[f2]at hb;cases hb
    · have hb':(V'.ov 0).ownBlock=some b:=hb
      rw[show V'.ov 0=_ from f2]at hb';cases hb')
   exact⟨_,V',rfl,e2.symm,by simpa[cZ]using hw2⟩
 | succ k =>
   have hcap:=grownCap_ge w (0+(k+1)) 0 9
   have hmax:=grownCap_le_maxLen w (0+(k+1)) 0 9 (aC (by omega:0+(k+1)≤1000000) (by decide))
   obtain⟨i0,hi0,hz0,hs0,hb0⟩:∃i0,(Tryz.prog).info? 9=some i0∧i0.zero=some (.string ⟨#[]⟩)∧i0.size=1∧i0.bytes=16:=⟨_,rfl,rfl,rfl,rfl⟩
   refine(Any8.slices_Grow_grow Tryz.growS i0 _ hi0 hz0 (by omega) none 0 0 (k+1) [] w (by omega) (by omega) (by rw[hb0];omega) (by omega) (by simp) (fun _=>rfl) (fun a ha=>by cases ha)).mono fun e w' ⟨he,hw'⟩=>?_
   rw[show Tryz.growS_ren.t 25=9 from rfl]at he hw'
   have hsz:∀m,(Builtin.zeroCells (Value.string ⟨#[]⟩).cells m).size=m:=fun m=>by rw[size_zeroCells];exact Nat.mul_one m
   obtain⟨cur,hcur,hw2⟩:∃cur:Array Value,cur.size=grownCap w (0+(k+1)) 0 9 * 1∧w'=w.drew.alloc (.cells cur 9):=⟨_,by
    rw[gl,gl,hsz,hsz,show(([]:List Value).toArray).size=0 from rfl]
    omega,hw'⟩
   clear hw'
   subst he
   have g:=gX w.drew (.cells cur 9)
   rw[←hw2]at g
   have hnew:w'.heap[w.heap.size]?=some (.cells cur 9 (0,0)):=by rw[hw2];exact heap_alloc_new w.drew _
   obtain⟨V',_,_,_,e2,hw3⟩:=hw.regrow (ck:=[]) rfl (aS _) none (c:=.own 9 .str []) (v':=.slice (some ⟨w.heap.size,0,none⟩) 0 (grownCap w (0+(k+1)) 0 9)) (s':=w.heap.size) (w':=w') (row:=none) (by simp)
    ⟨g.os,g.tape,g.output,g.size,g.block⟩ (fun V' hag hH f1 f2=>by
    refine⟨⟨[],⟨rfl,.inr ⟨w.heap.size,_,_,f2,aS _,hnew,aS _,hmax,hcur,rfl⟩⟩,.nil,fun b hb=>?_⟩,fun b hb=>.inr ?_⟩
    ·rw[f2]at hb;rw[f1];simpa[Value.ownBlock]using hb
    · have hb':(V'.ov 0).ownBlock=some b:=hb
      rw[show V'.ov 0=_ from f2]at hb'
      simp[Value.ownBlock]at hb';omega)
   exact⟨_,V',rfl,e2.symm,by simpa[cZ]using hw3⟩
def Ag:Ent:=(208,fun
 |[.c (.pd (.v (.slice none 0 0))),.c (.pd (.int .i64 n))],[]=>some (some (0≤n∧n≤1000000),.x (.c (.own 0)),[.own 9 .str []])
 |_,_=>none)
theorem LP:EntOk Tryz.prog Ag:=entOk fun vs ck=>by
 unfold Ag;dsimp only;split
 ·rename_i n;exact entS fun hp=>JC n hp
 ·exact entN
def Ab:Cfg:=⟨[],[Ag]⟩
theorem th:ag Tryz.prog Ab.tab:=(ag.cons LP ag.nil)
theorem lU{α:Type}{l:List (List α)}{k:Nat}(hk:k<l.length):(l.take (k+1)).flatten=(l.take k).flatten++l[k]:=by
 rw[aL hk,List.flatten_append];simp
theorem wC{α:Type}(l:List (List α))(k:Nat):(l.take k).flatten.length≤l.flatten.length:=by
 have:l.flatten=(l.take k).flatten++(l.drop k).flatten:=by rw[←List.flatten_append,dp]
 rw[this,au];omega
abbrev zTm1:List PI:=[.code [1,1,1,1,0,1,0,0],.inLoop [1,1,1,1,0,1,0,0],.inBlock 2,.code [1,1,1,1,1]]
variable(l:List (List Str))(Γ:Ctx)
theorem Lc(hl:l.length≤maxLen)(hs:l.flatten.length≤1000000):∀(n k:Nat),l.length - k≤n→k≤l.length →
 J Tryz.prog 144 (ar Tryz.f144) Γ (Eq2 (.x (.c (.own 0))) [.own 9 .str l.flatten]) zTm1 ({n:=36,fr:=[(2,.p (.v (Value.slice none 0 0))),(6,.x (.c (.own 0))),(25,.p (.lst .strs l)),(26,.i l.length),(27,.i ((k:Int)))],ck:=[.own 9 .str (l.take k).flatten]}):=by
 intro n
 induction n with
 |zero=>?_
 |succ n ih=>?_
 all_goals
  intro k hn hk
  refine jg th Tryz.func144 (.ite (decide ((k:Int)<(l.length:Int))) (.need (inRg k l.length) (.need (room ((List.flatten (List.take k l)++ETy.get .strs l k).length) 16) (.stop zTm1 {n:=36,fr:=[(2,.p (.v (Value.slice none 0 0))),(6,.x (.c (.own 0))),(25,.p (.lst .strs l)),(26,.i l.length),(27,.i (IntKind.wrap .i64 ((k:Int)+1)))],ck:=[.own 9 .str (List.flatten (List.take k l)++ETy.get .strs l k)]}))) (.ret (.x (.c (.own 0))) [.own 9 .str (List.flatten (List.take k l))])) ?_
  refine⟨fun hlt=>?_,fun hge=>?_⟩
  · have hk':k<l.length:=by have:=of_decide_eq_true hlt;omega
    have h1:=wC l (k+1)
    refine⟨by omega,?_⟩
    rw[show ETy.get .strs l k=l[k]from ETy.get_eq (t:=.strs) (List.getElem?_eq_getElem hk'),←lU hk']
    refine⟨rA _ (by omega),?_⟩
    rw[aZ (aG hk' hl)]
    first |(exfalso;omega) |exact ih (k+1) (by omega) (by omega)
  · have hke:k=l.length:=by have:=of_decide_eq_false hge;omega
    subst hke
    rw[a8 (av _)]
    exact⟨rfl,rfl⟩
abbrev zTm2:List PI:=[.code [1,1,0,1,0,0],.inLoop [1,1,0,1,0,0],.inBlock 0,.code [1,1,1]]
theorem Lb(hl:l.length≤maxLen)(hs:l.flatten.length≤1000000):∀(n k:Nat),l.length - k≤n→k≤l.length →
 J Tryz.prog 144 (ar Tryz.f144) Γ (Eq2 (.x (.c (.own 0))) [.own 9 .str l.flatten]) zTm2 ({n:=36,fr:=[(0,.p (.lst .strs l)),(2,.p (.v (Value.slice none 0 0))),(3,.i (((l.take k).flatten.length:Int))),(9,.p (.lst .strs l)),(10,.i l.length),(11,.i ((k:Int)))],ck:=[]}):=by
 intro n
 induction n with
 |zero=>?_
 |succ n ih=>?_
 all_goals
  intro k hn hk
  refine jg th Tryz.func144 (let x1:=(↑((List.flatten (List.take k l)).length):Int);let x2:=(x1+(↑((ETy.get .strs l k).length):Int));let x3:Nat×SV:=(2,.p (.v (Value.slice none 0 0)));.ite (decide ((k:Int)<(l.length:Int))) (.need (inRg k l.length) (.ite (decide (IntKind.wrap .i64 x2<(0:Int))) (.stop [.ops [1,1,0,1,0,0,1,1,0,0,1,1,1,0] 1,.inBlock 1,.code [1,1,0,1,0,0,1,1,1],.inLoop [1,1,0,1,0,0],.inBlock 0,.code [1,1,1]] {n:=36,fr:=[(0,.p (.lst .strs l)),x3,(3,.i (IntKind.wrap .i64 x2)),(9,.p (.lst .strs l)),(10,.i l.length),(11,.i k),(21,.p (.v (Value.iface 9 (Value.string (bs [(108:UInt8),101,110,32,111,117,116,32,111,102,32,114,97,110,103,101])))))],ck:=[]}) (.stop zTm2 {n:=36,fr:=[(0,.p (.lst .strs l)),x3,(3,.i (IntKind.wrap .i64 x2)),(9,.p (.lst .strs l)),(10,.i l.length),(11,.i (IntKind.wrap .i64 ((k:Int)+1)))],ck:=[]}))) (.need ((0:Int)≤x1∧x1≤1000000) (.stop zTm1 {n:=36,fr:=[x3,(6,.x (.c (.own 0))),(25,.p (.lst .strs l)),(26,.i l.length),(27,.i 0)],ck:=[.own 9 .str []]}))) ?_
  conv=>zeta
  refine⟨fun hlt=>?_,fun hge=>?_⟩
  · have hk':k<l.length:=by have:=of_decide_eq_true hlt;omega
    have h1:=wC l (k+1)
    refine⟨by omega,?_⟩
    have h2:IntKind.wrap .i64 (((l.take k).flatten.length:Int)+((ETy.get .strs l k).length:Int))=((l.take (k+1)).flatten.length:Int):=by
     have h3:(l.take (k+1)).flatten.length=(l.take k).flatten.length+(ETy.get .strs l k).length:=by
      rw[lU hk',au]
      rw[show ETy.get .strs l k=l[k]from ETy.get_eq (t:=.strs) (List.getElem?_eq_getElem hk')]
     rw[cg (by omega) (by omega)];omega
    rw[h2]
    refine⟨fun hb=>?_,fun _=>?_⟩
    ·have:=of_decide_eq_true hb;omega
    rw[aZ (aG hk' hl)]
    first |(exfalso;omega) |exact ih (k+1) (by omega) (by omega)
  · have hke:k=l.length:=by have:=of_decide_eq_false hge;omega
    subst hke
    refine⟨by have:=wC l l.length;omega,?_⟩
    exact Lc l Γ hl hs l.length 0 (by omega) (by omega)
theorem Dc(h:l.flatten.length≤1000000):ah Tryz.prog 144 [.l .strs l] [] (.x (.c (.own 0))) [.own 9 .str l.flatten]:=by
 refine dg th Tryz.func144 (.stop zTm2 {n:=36,fr:=[(0,.p (.lst .strs l)),(2,.p (.v (Value.slice none 0 0))),(3,.i 0),(9,.p (.lst .strs l)),(10,.i l.length),(11,.i 0)],ck:=[]}) fun Γ=>?_
 exact J.len 0 rfl fun hl=>Lb l Γ hl h l.length 0 (by omega) (by omega)
def jv:List Str:=l.flatten.reverse.reverse
theorem px:jv l=l.flatten:=List.reverse_reverse _
theorem Dk(h:(jv l).length≤1000000):ah Tryz.prog 144 [.l .strs l] [] (.x (.c (.own 0))) [.own 9 .str (jv l)]:=by
 rw[px]at h ⊢;exact Dc l h
def rP:Ent:=(144,fun
 |[.c (.pd (.lst .strs l))],[]=>some (some ((jv l).length≤1000000),.x (.c (.own 0)),[.own 9 .str (jv l)])
 |_,_=>none)
theorem FG:EntOk Tryz.prog rP:=entOk fun vs ck=>by
 unfold rP;dsimp only;split
 ·rename_i l;exact entS fun hp=>Dk l hp
 ·exact entN
def Oz:Cfg:=⟨aU,[rP]⟩
theorem Ll:ag Tryz.prog Oz.tab:=(ag.cons FG ag.nil)
variable(c:Chart)(a:List Str)(i:Int)(b l:List Str)
def ic:List Str:=jv [[c.name],c.events,a,b]
theorem Qr(h:(ic c a b).length≤1000000):ah Tryz.prog 143 [.p (.ref .chart c 0),.p (.ref .strs a 0),.p (.ref .strs b 0)] [] (.x (.c (.own 0))) [.own 9 .str (ic c a b)]:=by
 refine dg Ll Tryz.func143 (.need ((jv [[c.name],c.events,a,b]).length≤1000000) (.ret (.x (.c (.own 0))) [.own 9 .str (jv [[c.name],c.events,a,b])])) fun Γ=>?_
 exact⟨h,rfl,rfl⟩
def eQ2:Ent:=(143,fun
 |[.c (.pd (.ref .chart c 0)),.c (.pd (.ref .strs a 0)),.c (.pd (.ref .strs b 0))],[]=>some (some ((ic c a b).length≤1000000),.x (.c (.own 0)),[.own 9 .str (ic c a b)])
 |_,_=>none)
theorem RH:EntOk Tryz.prog eQ2:=entOk fun vs ck=>by
 unfold eQ2;dsimp only;split
 ·rename_i c a b;exact entS fun hp=>Qr c a b hp
 ·exact entN
def IA:Cfg:=⟨aU,[ll]⟩
theorem IB:ag Tryz.prog IA.tab:=(ag.cons jZ ag.nil)
theorem Na(s:Str):ah Tryz.prog 149 [.s s] [] (.x (.b (!bk s))) []:=by
 refine dg IB Tryz.func149 (.ret (.p (.bool !bk s)) []) fun Γ=>⟨rfl,rfl⟩
def F5:Ent:=(149,fun
 |[.c (.pd (.str s))],[]=>some (none,.x (.c (.pd (.bool (!bk s)))),[])
 |_,_=>none)
theorem PF:EntOk Tryz.prog F5:=entOk fun vs ck=>by
 unfold F5;dsimp only;split
 ·rename_i s;exact entS fun hp=>Na s
 ·exact entN
def Fi:Cfg:=⟨aU,[F5]⟩
theorem Bc:ag Tryz.prog Fi.tab:=(ag.cons PF ag.nil)
abbrev zTo1:List PI:=[.code [1,0,1,0,0],.inLoop [1,0,1,0,0],.inBlock 0,.code [1,1]]
theorem Mk(Γ:Ctx)(hl:l.length≤maxLen)  : ∀(n k:Nat),l.length - k≤n→k≤l.length →
 J Tryz.prog 209 (ar Tryz.f209) Γ (Eq2 (.x (.i (ay (fun s:Str=>!bk s) (l.drop k) k))) []) zTo1 ({n:=19,fr:=[(0,.p (.lst .str l)),(1,.x (.c (.fn (.func 149) [] []))),(4,.i 0),(7,.i l.length),(8,.i k)],ck:=[]}):=by
 intro n
 induction n with
 |zero=>?_
 |succ n ih=>?_
 all_goals
  intro k hn hk
  refine jg Bc Tryz.func209 (.ite (decide ((k:Int)<(l.length:Int))) (.need (inRg k l.length) (.ite (!bk (ETy.get .str l k)) (.ret (.i k) []) (.stop zTo1 {n:=19,fr:=[(0,.p (.lst .str l)),(1,.x (.c (.fn (.func 149) [] []))),(4,.i 0),(7,.i l.length),(8,.i (IntKind.wrap .i64 ((k:Int)+1)))],ck:=[]}))) (.ret (.i (-1:Int)) [])) ?_
  refine⟨fun hlt=>?_,fun hge=>?_⟩
  · have hk':k<l.length:=by have:=of_decide_eq_true hlt;omega
    rw[bx (t:=.str) (l:=l) hk']
    refine⟨by omega,?_⟩
    generalize ETy.get .str l k=v
    refine⟨fun hb=>⟨?_,rfl⟩,fun hb=>?_⟩
    ·simp only[ay,hb,cond_true]
    ·simp only[ay,hb,cond_false];(rw[aZ (aG hk' hl)];first |(exfalso;omega) |exact ih (k+1) (by omega) (by omega))
  · rw[bS (l:=l) (by have:=of_decide_eq_false hge;omega)]
    exact⟨rfl,rfl⟩
theorem Ml:ah Tryz.prog 209 [.l .str (l),SX.c (SC.fn (Fn.func 149) [] [])] [] (.x (.i (ay (fun s:Str=>!bk s) l 0))) []:=by
 refine dg Bc Tryz.func209 (.stop zTo1 {n:=19,fr:=[(0,.p (.lst .str l)),(1,.x (.c (.fn (.func 149) [] []))),(4,.i 0),(7,.i l.length),(8,.i 0)],ck:=[]}) fun Γ=>?_
 exact J.len 0 rfl fun hl=>Mk l Γ hl l.length 0 (by omega) (by omega)
def FK:Ent:=(209,fun
 |[.c (.pd (.lst .str l)),.c (.fn (.func 149) [] [])],[]=>some (none,.x (.c (.pd (.int .i64 (ay (fun s:Str=>!bk s) l 0)))),[])
 |_,_=>none)
theorem Pq:EntOk Tryz.prog FK:=entOk fun vs ck=>by
 unfold FK;dsimp only;split
 ·rename_i l;exact entS fun hp=>Ml l
 ·exact entN
def Oq:Cfg:=⟨aU,[FK]⟩
theorem Le:ag Tryz.prog Oq.tab:=(ag.cons Pq ag.nil)
theorem O8:ah Tryz.prog 148 [.l .str l,.c (.fn (.func 149) [] [])] [] (.x (.b (l.any fun s:Str=>!bk s))) []:=by
 refine dg Le Tryz.func148 (.ret (.p (.bool (decide (ay (fun s=>!bk s) l (0:Int)≥0)))) []) fun Γ=>⟨?_,rfl⟩
 rw[iO _ _ _ (by omega)]
def eCf:Ent:=(148,fun
 |[.c (.pd (.lst .str l)),.c (.fn (.func 149) [] [])],[]=>some (none,.x (.c (.pd (.bool (l.any fun s:Str=>!bk s)))),[])
 |_,_=>none)
theorem Rt:EntOk Tryz.prog eCf:=entOk fun vs ck=>by
 unfold eCf;dsimp only;split
 ·rename_i l;exact entS fun hp=>O8 l
 ·exact entN
def OB:Cfg:=⟨aU,[eQ2,eCf,mm]⟩
theorem Ln:ag Tryz.prog OB.tab:=(ag.cons RH (ag.cons Rt (ag.cons kY ag.nil)))
theorem Qt(h:(ic c a b).length≤1000000):ah Tryz.prog 147 [.p (.fnAt [(143,[.ref .chart c 0,.ref .strs a 0,.ref .strs b 0])] 0)] [] (.x (.i (b7 (!(ic c a b).any fun s:Str=>!bk s) 2))) []:=by
 refine dg Ln Tryz.func147 (.need ((ic c a b).length≤1000000) (.ret (.i (b7 (!List.any (ic c a b) fun s=>!bk s) (2:Int))) [])) fun Γ=>?_
 exact⟨h,rfl,rfl⟩
def eQ4:Ent:=(147,fun
 |[.c (.pd (.fnAt [(143,[.ref .chart c 0,.ref .strs a 0,.ref .strs b 0])] 0))],[]=>some (some ((ic c a b).length≤1000000),.x (.c (.pd (.int .i64 (b7 (!(ic c a b).any fun s:Str=>!bk s) 2)))),[])
 |_,_=>none)
theorem RJ:EntOk Tryz.prog eQ4:=entOk fun vs ck=>by
 unfold eQ4;dsimp only;split
 ·rename_i c a b;exact entS fun hp=>Qt c a b hp
 ·exact entN
def jx:Bool:=decide ((c.events.length:Int)≤12)&&decide ((c.vars.length:Int)≤8)&&decide ((c.states.length:Int)≤40)&&decide ((c.trans.length:Int)≤48)
def kS:Bool:=iV c.events&&iV a&&iV b
def OA:Cfg:=⟨aU,[mm]⟩
theorem Lm:ag Tryz.prog OA.tab:=(ag.cons kY ag.nil)
theorem Qs:ah Tryz.prog 145 [.p (.ref .chart c 0)] [] (.x (.i (b7 (jx c) 4))) []:=by
 refine dg Lm Tryz.func145 (.ret (.i (b7 (decide ((c.events.length:Int)≤12)&&decide ((c.vars.length:Int)≤8)&&decide ((c.states.length:Int)≤40)&&decide ((c.trans.length:Int)≤48)) (4:Int))) []) fun Γ=>⟨rfl,rfl⟩
def eQ3:Ent:=(145,fun
 |[.c (.pd (.ref .chart c 0))],[]=>some (none,.x (.c (.pd (.int .i64 (b7 (jx c) 4)))),[])
 |_,_=>none)
theorem RI:EntOk Tryz.prog eQ3:=entOk fun vs ck=>by
 unfold eQ3;dsimp only;split
 ·rename_i c;exact entS fun hp=>Qs c
 ·exact entN
def OC:Cfg:=⟨aU,[Al,mm]⟩
theorem Lo:ag Tryz.prog OC.tab:=(ag.cons LV (ag.cons kY ag.nil))
theorem Qu(h:c.events.length≤1000000∧a.length≤1000000∧b.length≤1000000):ah Tryz.prog 150 [.p (.ref .chart c 0),.p (.ref .strs a 0),.p (.ref .strs b 0)] [] (.x (.i (b7 (kS c a b) 3))) []:=by
 refine dg Lo Tryz.func150 (.need (c.events.length≤1000000) (.need (iV c.events=true→a.length≤1000000) (.need ((iV c.events&&iV a)=true→b.length≤1000000) (.ret (.i (b7 (iV c.events&&iV a&&iV b) (3:Int))) [])))) fun Γ=>?_
 exact⟨h.1,fun _=>h.2.1,fun _=>h.2.2,rfl,rfl⟩
def eQ5:Ent:=(150,fun
 |[.c (.pd (.ref .chart c 0)),.c (.pd (.ref .strs a 0)),.c (.pd (.ref .strs b 0))],[]=>some (some (c.events.length≤1000000∧a.length≤1000000∧b.length≤1000000),.x (.c (.pd (.int .i64 (b7 (kS c a b) 3)))),[])
 |_,_=>none)
theorem RK:EntOk Tryz.prog eQ5:=entOk fun vs ck=>by
 unfold eQ5;dsimp only;split
 ·rename_i c a b;exact entS fun hp=>Qu c a b hp
 ·exact entN
def OD:Cfg:=⟨aU,[oG,mm]⟩
theorem Lp:ag Tryz.prog OD.tab:=(ag.cons uQ (ag.cons kY ag.nil))
theorem Qv(h:c.states.length≤maxLen):ah Tryz.prog 152 [.p (.ref .chart c 0)] [] (.x (.i (b7 (cn c.states) 9))) []:=by
 refine dg Lp Tryz.func152 (.need (c.states.length≤maxLen) (.ret (.i (b7 (cn c.states) (9:Int))) [])) fun Γ=>?_
 exact⟨h,rfl,rfl⟩
def eQ6:Ent:=(152,fun
 |[.c (.pd (.ref .chart c 0))],[]=>some (some (c.states.length≤maxLen),.x (.c (.pd (.int .i64 (b7 (cn c.states) 9)))),[])
 |_,_=>none)
theorem RL:EntOk Tryz.prog eQ6:=entOk fun vs ck=>by
 unfold eQ6;dsimp only;split
 ·rename_i c;exact entS fun hp=>Qv c hp
 ·exact entN
def uj:Cfg:=⟨aU,[vf,Ay,Aw,Gi]⟩
theorem pb:ag Tryz.prog uj.tab:=(ag.cons Jl (ag.cons L5 (ag.cons L4 (ag.cons PN ag.nil))))
theorem Qw(h:0≤i∧i<(c.states.length:Int)∧c.states.length≤maxLen):ah Tryz.prog 153 [.i i,.p (.ref .chart c 0)] [] (.x (.i (eg c.states i.toNat))) []:=by
 refine dg pb Tryz.func153 (.need ((0:Int)≤i∧i<(c.states.length:Int)∧c.states.length≤maxLen) (.ret (.i (eg c.states (Int.toNat i))) [])) fun Γ=>⟨h,rfl,rfl⟩
def eQ7:Ent:=(153,fun
 |[.c (.pd (.int .i64 i)),.c (.pd (.ref .chart c 0))],[]=>some (some (0≤i∧i<(c.states.length:Int)∧c.states.length≤maxLen),.x (.c (.pd (.int .i64 (eg c.states i.toNat)))),[])
 |_,_=>none)
theorem RM:EntOk Tryz.prog eQ7:=entOk fun vs ck=>by
 unfold eQ7;dsimp only;split
 ·rename_i i c;exact entS fun hp=>Qw c i hp
 ·exact entN
theorem Qx(h:0≤i∧i<(c.vars.length:Int)):ah Tryz.prog 155 [.i i,.p (.ref .chart c 0)] [] (.x (.i (fw (ETy.get .var c.vars i.toNat)))) []:=by
 refine dg pb Tryz.func155 (.need ((0:Int)≤i∧i<(c.vars.length:Int)) (.ret (.i (fw (ETy.get .var c.vars (Int.toNat i)))) [])) fun Γ=>⟨h,rfl,rfl⟩
def eQ8:Ent:=(155,fun
 |[.c (.pd (.int .i64 i)),.c (.pd (.ref .chart c 0))],[]=>some (some (0≤i∧i<(c.vars.length:Int)),.x (.c (.pd (.int .i64 (fw (ETy.get .var c.vars i.toNat))))),[])
 |_,_=>none)
theorem RN:EntOk Tryz.prog eQ8:=entOk fun vs ck=>by
 unfold eQ8;dsimp only;split
 ·rename_i i c;exact entS fun hp=>Qx c i hp
 ·exact entN
theorem Qy(h:0≤i∧i<(c.states.length:Int)):ah Tryz.prog 157 [.i i,.p (.ref .chart c 0)] [] (.x (.i (dx c (ETy.get .stat c.states i.toNat)))) []:=by
 refine dg pb Tryz.func157 (.need ((0:Int)≤i∧i<(c.states.length:Int)) (.ret (.i (dx c (ETy.get .stat c.states (Int.toNat i)))) [])) fun Γ=>⟨h,rfl,rfl⟩
def eQ9:Ent:=(157,fun
 |[.c (.pd (.int .i64 i)),.c (.pd (.ref .chart c 0))],[]=>some (some (0≤i∧i<(c.states.length:Int)),.x (.c (.pd (.int .i64 (dx c (ETy.get .stat c.states i.toNat))))),[])
 |_,_=>none)
theorem RO:EntOk Tryz.prog eQ9:=entOk fun vs ck=>by
 unfold eQ9;dsimp only;split
 ·rename_i i c;exact entS fun hp=>Qy c i hp
 ·exact entN
theorem M9(h:0≤i∧i<(c.trans.length:Int)∧c.states.length≤maxLen∧c.trans.length≤maxLen):ah Tryz.prog 159 [.i i,.p (.ref .chart c 0),.p (.ref .strs l 0)] [] (.x (.i (dk c i.toNat l (ETy.get .tran c.trans i.toNat)))) []:=by
 refine dg pb Tryz.func159 (.need ((0:Int)≤i∧i<(c.trans.length:Int)∧c.states.length≤maxLen∧c.trans.length≤maxLen) (.ret (.i (dk c (Int.toNat i) l (ETy.get .tran c.trans (Int.toNat i)))) [])) fun Γ=>⟨h,rfl,rfl⟩
def F4:Ent:=(159,fun
 |[.c (.pd (.int .i64 i)),.c (.pd (.ref .chart c 0)),.c (.pd (.ref .strs l 0))],[]=>some (some (0≤i∧i<(c.trans.length:Int)∧c.states.length≤maxLen∧c.trans.length≤maxLen),.x (.c (.pd (.int .i64 (dk c i.toNat l (ETy.get .tran c.trans i.toNat))))),[])
 |_,_=>none)
theorem PE:EntOk Tryz.prog F4:=entOk fun vs ck=>by
 unfold F4;dsimp only;split
 ·rename_i i c l;exact entS fun hp=>M9 c i l hp
 ·exact entN
abbrev zJ141Tp:=J Tryz.prog 141 (ar Tryz.f141)
def bY(f:Nat→Int):Nat→Nat→Int
 |_,0=>0
 |k,m+1=>if(f k != 0)=true then f k else bY f (k+1) m
theorem lu(f:Nat→Int){k n:Nat}(h:k<n):bY f k (n - k)=if(f k != 0)=true then f k else bY f (k+1) (n - (k+1)):=by
 obtain⟨m,hm⟩:∃m,n - k=m+1:=⟨n - k - 1,by omega⟩
 rw[hm,show n - (k+1)=m by omega];rfl
def Fe:Cfg:=⟨aU,[eQ7]⟩
theorem A6:ag Tryz.prog Fe.tab:=(ag.cons RM ag.nil)
abbrev zTp1:List PI:=[.code [1,0,1,0,0],.inLoop [1,0,1,0,0],.inBlock 0,.code [1,1]]
variable(c:Chart)(l:List Str)(n:Nat)(Γ:Ctx)
theorem Pd(hn:n≤c.states.length)(h0:c.states.length≤maxLen)(hm:n≤maxLen):∀(m k:Nat),n - k≤m→k≤n →
 zJ141Tp Γ (Eq2 (.x (.i (bY (fun k:Nat=>eg c.states k) k (n - k)))) []) zTp1 ({n:=16,fr:=[(1,.p (PD.fnAt [(153,[.ref .chart c 0])] 0)),(2,.i 0),(5,.i n),(6,.i ((k:Int)))],ck:=[]}):=by
 intro m
 induction m with
 |zero=>?_
 |succ m ih=>?_
 all_goals
  intro k hmk hk
  refine jg A6 Tryz.func141 (.ite (decide ((k:Int)<(n:Int))) (.need ((0:Int)≤(k:Int)∧(k:Int)<(c.states.length:Int)∧c.states.length≤maxLen) (.ite (eg c.states k != (0:Int)) (.ret (.i (eg c.states k)) []) (.stop zTp1 {n:=16,fr:=[(1,.p (PD.fnAt [(153,[.ref .chart c 0])] 0)),(2,.i 0),(5,.i n),(6,.i (IntKind.wrap .i64 ((k:Int)+1)))],ck:=[]}))) (.ret (.i 0) [])) ?_
  refine⟨fun hlt=>?_,fun hge=>?_⟩
  · have hk':k<n:=by have:=of_decide_eq_true hlt;omega
    rw[lu _ hk']
    refine⟨⟨by omega,by omega,h0⟩,fun hb=>?_,fun hb=>?_⟩
    ·rw[if_pos (by exact hb)];exact⟨rfl,rfl⟩
    · rw[if_neg (by rw[show _=false from hb];decide)]
      rw[aZ (aG hk' hm)]
      first |(exfalso;omega) |exact ih (k+1) (by omega) (by omega)
  · have hke:n - k=0:=by have:=of_decide_eq_false hge;omega
    rw[hke];exact⟨rfl,rfl⟩
theorem Rq(hn:n≤c.states.length)(h0:c.states.length≤maxLen)(hm:n≤maxLen):ah Tryz.prog 141 [.p (.ref .int (n:Int) 0),.p (.fnAt [(153,[.ref .chart c 0])] 0)] [] (.x (.i (bY (fun k:Nat=>eg c.states k) 0 n))) []:=by
 refine dg A6 Tryz.func141 (.stop zTp1 {n:=16,fr:=[(1,.p (PD.fnAt [(153,[.ref .chart c 0])] 0)),(2,.i 0),(5,.i n),(6,.i 0)],ck:=[]}) fun Γ=>?_
 exact Pd c n Γ hn h0 hm n 0 (by omega) (by omega)
theorem Pe(n:Int)(h:n=(c.states.length:Int))(h0:c.states.length≤maxLen)(hm:c.states.length≤maxLen):ah Tryz.prog 141 [.p (.ref .int n 0),.p (.fnAt [(153,[.ref .chart c 0])] 0)] [] (.x (.i (bY (fun k:Nat=>eg c.states k) 0 c.states.length))) []:=by
 subst h
 exact Rq c _ (av _) h0 hm
def Ff:Cfg:=⟨aU,[eQ8]⟩
theorem A7:ag Tryz.prog Ff.tab:=(ag.cons RN ag.nil)
theorem Pf(hn:n≤c.vars.length)(hm:n≤maxLen):∀(m k:Nat),n - k≤m→k≤n →
 zJ141Tp Γ (Eq2 (.x (.i (bY (fun k:Nat=>fw (ETy.get .var c.vars k)) k (n - k)))) []) zTp1 ({n:=16,fr:=[(1,.p (PD.fnAt [(155,[.ref .chart c 0])] 0)),(2,.i 0),(5,.i n),(6,.i ((k:Int)))],ck:=[]}):=by
 intro m
 induction m with
 |zero=>?_
 |succ m ih=>?_
 all_goals
  intro k hmk hk
  refine jg A7 Tryz.func141 (.ite (decide ((k:Int)<(n:Int))) (.need (inRg k c.vars.length) (.ite (fw (ETy.get .var c.vars k) != (0:Int)) (.ret (.i (fw (ETy.get .var c.vars k))) []) (.stop zTp1 {n:=16,fr:=[(1,.p (PD.fnAt [(155,[.ref .chart c 0])] 0)),(2,.i 0),(5,.i n),(6,.i (IntKind.wrap .i64 ((k:Int)+1)))],ck:=[]}))) (.ret (.i 0) [])) ?_
  refine⟨fun hlt=>?_,fun hge=>?_⟩
  · have hk':k<n:=by have:=of_decide_eq_true hlt;omega
    rw[lu _ hk']
    refine⟨⟨by omega,by omega⟩,fun hb=>?_,fun hb=>?_⟩
    ·rw[if_pos (by exact hb)];exact⟨rfl,rfl⟩
    · rw[if_neg (by rw[show _=false from hb];decide)]
      rw[aZ (aG hk' hm)]
      first |(exfalso;omega) |exact ih (k+1) (by omega) (by omega)
  · have hke:n - k=0:=by have:=of_decide_eq_false hge;omega
    rw[hke];exact⟨rfl,rfl⟩
theorem Rr(hn:n≤c.vars.length)(hm:n≤maxLen):ah Tryz.prog 141 [.p (.ref .int (n:Int) 0),.p (.fnAt [(155,[.ref .chart c 0])] 0)] [] (.x (.i (bY (fun k:Nat=>fw (ETy.get .var c.vars k)) 0 n))) []:=by
 refine dg A7 Tryz.func141 (.stop zTp1 {n:=16,fr:=[(1,.p (PD.fnAt [(155,[.ref .chart c 0])] 0)),(2,.i 0),(5,.i n),(6,.i 0)],ck:=[]}) fun Γ=>?_
 exact Pf c n Γ hn hm n 0 (by omega) (by omega)
theorem Pg(n:Int)(h:n=(c.vars.length:Int))(hm:c.vars.length≤maxLen):ah Tryz.prog 141 [.p (.ref .int n 0),.p (.fnAt [(155,[.ref .chart c 0])] 0)] [] (.x (.i (bY (fun k:Nat=>fw (ETy.get .var c.vars k)) 0 c.vars.length))) []:=by
 subst h
 exact Rr c _ (av _) hm
def Fg:Cfg:=⟨aU,[eQ9]⟩
theorem A8:ag Tryz.prog Fg.tab:=(ag.cons RO ag.nil)
theorem Ph(hn:n≤c.states.length)(hm:n≤maxLen):∀(m k:Nat),n - k≤m→k≤n →
 zJ141Tp Γ (Eq2 (.x (.i (bY (fun k:Nat=>dx c (ETy.get .stat c.states k)) k (n - k)))) []) zTp1 ({n:=16,fr:=[(1,.p (PD.fnAt [(157,[.ref .chart c 0])] 0)),(2,.i 0),(5,.i n),(6,.i ((k:Int)))],ck:=[]}):=by
 intro m
 induction m with
 |zero=>?_
 |succ m ih=>?_
 all_goals
  intro k hmk hk
  refine jg A8 Tryz.func141 (.ite (decide ((k:Int)<(n:Int))) (.need (inRg k c.states.length) (.ite (dx c (ETy.get .stat c.states k) != (0:Int)) (.ret (.i (dx c (ETy.get .stat c.states k))) []) (.stop zTp1 {n:=16,fr:=[(1,.p (PD.fnAt [(157,[.ref .chart c 0])] 0)),(2,.i 0),(5,.i n),(6,.i (IntKind.wrap .i64 ((k:Int)+1)))],ck:=[]}))) (.ret (.i 0) [])) ?_
  refine⟨fun hlt=>?_,fun hge=>?_⟩
  · have hk':k<n:=by have:=of_decide_eq_true hlt;omega
    rw[lu _ hk']
    refine⟨⟨by omega,by omega⟩,fun hb=>?_,fun hb=>?_⟩
    ·rw[if_pos (by exact hb)];exact⟨rfl,rfl⟩
    · rw[if_neg (by rw[show _=false from hb];decide)]
      rw[aZ (aG hk' hm)]
      first |(exfalso;omega) |exact ih (k+1) (by omega) (by omega)
  · have hke:n - k=0:=by have:=of_decide_eq_false hge;omega
    rw[hke];exact⟨rfl,rfl⟩
theorem Rs(hn:n≤c.states.length)(hm:n≤maxLen):ah Tryz.prog 141 [.p (.ref .int (n:Int) 0),.p (.fnAt [(157,[.ref .chart c 0])] 0)] [] (.x (.i (bY (fun k:Nat=>dx c (ETy.get .stat c.states k)) 0 n))) []:=by
 refine dg A8 Tryz.func141 (.stop zTp1 {n:=16,fr:=[(1,.p (PD.fnAt [(157,[.ref .chart c 0])] 0)),(2,.i 0),(5,.i n),(6,.i 0)],ck:=[]}) fun Γ=>?_
 exact Ph c n Γ hn hm n 0 (by omega) (by omega)
theorem Pi(n:Int)(h:n=(c.states.length:Int))(hm:c.states.length≤maxLen):ah Tryz.prog 141 [.p (.ref .int n 0),.p (.fnAt [(157,[.ref .chart c 0])] 0)] [] (.x (.i (bY (fun k:Nat=>dx c (ETy.get .stat c.states k)) 0 c.states.length))) []:=by
 subst h
 exact Rs c _ (av _) hm
def A5:Cfg:=⟨aU,[F4]⟩
theorem xA:ag Tryz.prog A5.tab:=(ag.cons PE ag.nil)
abbrev zTp2(a:Chart)(b:List Str):List (Nat×List PD):=[(159,[.ref .chart a 0,.ref .strs b 0])]
theorem LK(hn:n≤c.trans.length)(h0:c.states.length≤maxLen)(h1:c.trans.length≤maxLen)(hm:n≤maxLen):∀(m k:Nat),n - k≤m→k≤n →
 zJ141Tp Γ (Eq2 (.x (.i (bY (fun k:Nat=>dk c k l (ETy.get .tran c.trans k)) k (n - k)))) []) zTp1 ({n:=16,fr:=[(1,.p (PD.fnAt (zTp2 c l) 0)),(2,.i 0),(5,.i n),(6,.i ((k:Int)))],ck:=[]}):=by
 intro m
 induction m with
 |zero=>?_
 |succ m ih=>?_
 all_goals
  intro k hmk hk
  refine jg xA Tryz.func141 (.ite (decide ((k:Int)<(n:Int))) (.need ((0:Int)≤(k:Int)∧(k:Int)<(c.trans.length:Int)∧c.states.length≤maxLen∧c.trans.length≤maxLen) (.ite (dk c k l (ETy.get .tran c.trans k) != (0:Int)) (.ret (.i (dk c k l (ETy.get .tran c.trans k))) []) (.stop zTp1 {n:=16,fr:=[(1,.p (PD.fnAt (zTp2 c l) 0)),(2,.i 0),(5,.i n),(6,.i (IntKind.wrap .i64 ((k:Int)+1)))],ck:=[]}))) (.ret (.i 0) [])) ?_
  refine⟨fun hlt=>?_,fun hge=>?_⟩
  · have hk':k<n:=by have:=of_decide_eq_true hlt;omega
    rw[lu _ hk']
    refine⟨⟨by omega,by omega,h0,h1⟩,fun hb=>?_,fun hb=>?_⟩
    ·rw[if_pos (by exact hb)];exact⟨rfl,rfl⟩
    · rw[if_neg (by rw[show _=false from hb];decide)]
      rw[aZ (aG hk' hm)]
      first |(exfalso;omega) |exact ih (k+1) (by omega) (by omega)
  · have hke:n - k=0:=by have:=of_decide_eq_false hge;omega
    rw[hke];exact⟨rfl,rfl⟩
theorem Pc(hn:n≤c.trans.length)(h0:c.states.length≤maxLen)(h1:c.trans.length≤maxLen)(hm:n≤maxLen):ah Tryz.prog 141 [.p (.ref .int (n:Int) 0),.p (.fnAt (zTp2 c l) 0)] [] (.x (.i (bY (fun k:Nat=>dk c k l (ETy.get .tran c.trans k)) 0 n))) []:=by
 refine dg xA Tryz.func141 (.stop zTp1 {n:=16,fr:=[(1,.p (PD.fnAt (zTp2 c l) 0)),(2,.i 0),(5,.i n),(6,.i 0)],ck:=[]}) fun Γ=>?_
 exact LK c l n Γ hn h0 h1 hm n 0 (by omega) (by omega)
theorem LL(n:Int)(h:n=(c.trans.length:Int))(h0:c.states.length≤maxLen)(h1:c.trans.length≤maxLen)(hm:c.trans.length≤maxLen):ah Tryz.prog 141 [.p (.ref .int n 0),.p (.fnAt (zTp2 c l) 0)] [] (.x (.i (bY (fun k:Nat=>dk c k l (ETy.get .tran c.trans k)) 0 c.trans.length))) []:=by
 subst h
 exact Pc c l _ (av _) h0 h1 hm
def eE7:Ent:=(141,fun
 |[.c (.pd (.ref .int n 0)),.c (.pd (.fnAt [(153,[.ref .chart c 0])] 0))],[]=>some (some (n=(c.states.length:Int)∧c.states.length≤maxLen),.x (.c (.pd (.int .i64 (bY (fun k:Nat=>eg c.states k) 0 c.states.length)))),[])
 |_,_=>none)
theorem Rw:EntOk Tryz.prog eE7:=entOk fun vs ck=>by
 unfold eE7;dsimp only;split
 ·rename_i n c;exact entS fun hp=>Pe c n hp.1 hp.2 hp.2
 ·exact entN
def eE8:Ent:=(141,fun
 |[.c (.pd (.ref .int n 0)),.c (.pd (.fnAt [(155,[.ref .chart c 0])] 0))],[]=>some (some (n=(c.vars.length:Int)∧c.vars.length≤maxLen),.x (.c (.pd (.int .i64 (bY (fun k:Nat=>fw (ETy.get .var c.vars k)) 0 c.vars.length)))),[])
 |_,_=>none)
theorem Rx:EntOk Tryz.prog eE8:=entOk fun vs ck=>by
 unfold eE8;dsimp only;split
 ·rename_i n c;exact entS fun hp=>Pg c n hp.1 hp.2
 ·exact entN
def eE9:Ent:=(141,fun
 |[.c (.pd (.ref .int n 0)),.c (.pd (.fnAt [(157,[.ref .chart c 0])] 0))],[]=>some (some (n=(c.states.length:Int)∧c.states.length≤maxLen),.x (.c (.pd (.int .i64 (bY (fun k:Nat=>dx c (ETy.get .stat c.states k)) 0 c.states.length)))),[])
 |_,_=>none)
theorem Ry:EntOk Tryz.prog eE9:=entOk fun vs ck=>by
 unfold eE9;dsimp only;split
 ·rename_i n c;exact entS fun hp=>Pi c n hp.1 hp.2
 ·exact entN
def FI:Ent:=(141,fun
 |[.c (.pd (.ref .int n 0)),.c (.pd (.fnAt [(159,[.ref .chart c 0,.ref .strs l 0])] 0))],[]=>some (some (n=(c.trans.length:Int)∧c.states.length≤maxLen∧c.trans.length≤maxLen),.x (.c (.pd (.int .i64 (bY (fun k:Nat=>dk c k l (ETy.get .tran c.trans k)) 0 c.trans.length)))),[])
 |_,_=>none)
theorem Po:EntOk Tryz.prog FI:=entOk fun vs ck=>by
 unfold FI;dsimp only;split
 ·rename_i n c l;exact entS fun hp=>LL c l n hp.1 hp.2.1 hp.2.2 hp.2.2
 ·exact entN
end Go.Proofs.YtlhgnjmdopjpeaaGreatDoor

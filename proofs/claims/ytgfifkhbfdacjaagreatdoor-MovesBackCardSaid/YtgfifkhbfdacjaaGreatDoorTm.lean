/- Contracts: valid: no text twice, names. Conditions: sizes. Contracts: valid.Check: each. Conditions: none. The library's contracts of the shelf, laid at this dump by the kit's tools. Conditions: each one's own. Contracts: slices.Grow, Concat, ContainsFunc on texts. Conditions: sizes. -/
import Derived.Test.YtgfifkhbfdacjaaGreatDoorTj
import Derived.Test.YtgfifkhbfdacjaaGreatDoorKb
import Derived.Shelf.Spec.SlicesGrow
import Derived.Test.YtgfifkhbfdacjaaGreatDoorProg
namespace Go.Proofs.YtgfifkhbfdacjaaGreatDoor
open Go Go.Ev
set_option maxRecDepth 100000
variable (c:Chart) (l:List Str) (Γ:Ctx)
def gu:Bool:=((c5 (fk l)).length:Int)==((fk l).length:Int)
theorem Dm (h:l.length≤1000000):ah Tryz.prog 85 [.l .str l] [] (.x (.b (gu l))) []:=by
 refine dg G4 Tryz.func85 (.need (room l.length 16) (.need (l.length≤1000000) (.need (room ((fk l).length) 16) (.need ((fk l).length≤1000000) (.ret (.p (.bool ((↑((c5 (fk l)).length):Int)==(↑((fk l).length):Int)))) []))))) fun Γ=>?_
 have hr:∀ n,n≤1000000→room n 16:=fun n hn=>⟨by omega,av hn (by decide)⟩
 have hl:(fk l).length=l.length:=List.length_mergeSort l
 refine ⟨hr _ h,h,hr _ (by rw [hl]; exact h),by rw [hl]; exact h,?_⟩
 exact ⟨rfl,rfl⟩
def uO:Ent:=(85,fun
 | [.c (.pd (.lst .str l))],[]=>some (some (l.length≤1000000),.x (.c (.pd (.bool (gu l)))),[])
 | _,_=>none)
theorem HY:EntOk Tryz.prog uO:=entOk fun vs ck=>by
 unfold uO; dsimp only; split
 · rename_i l; exact entS fun hp=>Dm l hp
 · exact entN
theorem np (n:Nat) (h:n≤2199023255552):room n 16:=⟨by omega,av h (by decide)⟩
theorem n9 {t:ETy} (f:t.den→Str) {l:List t.den} {k:Nat} (hk:k<l.length):(l.take k).map f++[f (ETy.get t l k)]=(l.take (k+1)).map f:=by
 rw [ETy.get_eq (List.getElem?_eq_getElem hk),aU hk,bP]; rfl
abbrev zTk2:List PI:=[.code [1,1,1,0,1,0,0],.inLoop [1,1,1,0,1,0,0],.inBlock 2,.code [1,1,1,1]]
theorem Gh (hv:c.vars.length≤2199023255552) (hs:c.states.length≤2199023255552):∀ (n k:Nat),c.states.length - k≤n→k≤c.states.length →
 J Tryz.prog 73 (au Tryz.f73) Γ (Eq2 (.tup [.c (.own 0),.c (.own 1)]) [.own 9 .str (c.vars.map fun v:Var=>v.name),.own 9 .str (c.states.map fun s:Ev.Stat=>s.name)]) zTk2 ({ n:=38,fr:=[(2,.p (.v (Value.slice none 0 0))),(3,.p (.v (Value.slice none 0 0))),(4,.x (.c (.own 0))),(5,.x (.c (.own 1))),(24,.p (.lst .stat c.states)),(25,.i c.states.length),(26,.i ((k:Int)))],ck:=[.own 9 .str (c.vars.map fun v:Var=>v.name),.own 9 .str ((c.states.take k).map fun s:Ev.Stat=>s.name)] }):=by
 intro n
 induction n with
 | zero=>?_
 | succ n ih=>?_
 all_goals
  intro k hn hk
  refine jg aR Tryz.func73 (.ite (decide ((k:Int)<(c.states.length:Int))) (.need (inRg k c.states.length) (.need (room ((List.map (fun s=>s.name) (List.take k c.states)++[Stat.name (ETy.get .stat c.states k)]).length) 16) (.stop zTk2 { n:=38,fr:=[(2,.p (.v (Value.slice none 0 0))),(3,.p (.v (Value.slice none 0 0))),(4,.x (.c (.own 0))),(5,.x (.c (.own 1))),(24,.p (.lst .stat c.states)),(25,.i c.states.length),(26,.i (IntKind.wrap .i64 ((k:Int)+1)))],ck:=[.own 9 .str (List.map (fun v=>v.name) c.vars),.own 9 .str (List.map (fun s=>s.name) (List.take k c.states)++[Stat.name (ETy.get .stat c.states k)])] }))) (.ret (.tup [.c (.own 0),.c (.own 1)]) [.own 9 .str (List.map (fun v=>v.name) c.vars),.own 9 .str (List.map (fun s=>s.name) (List.take k c.states))])) ?_
  refine ⟨fun hlt=>?_,fun hge=>?_⟩
  · have hk':k<c.states.length:=by have:=of_decide_eq_true hlt; omega
    refine ⟨by omega,?_⟩
    rw [n9 (t:=.stat) (fun s:Ev.Stat=>s.name) hk']
    refine ⟨np _ (by rw [aN,bj]; omega),?_⟩
    rw [aX (aE hk' (av hs (by decide)))]
    first | (exfalso; omega) | exact ih (k+1) (by omega) (by omega)
  · have hke:k=c.states.length:=by have:=of_decide_eq_false hge; omega
    subst hke
    rw [aW (aq _)]
    exact ⟨rfl,rfl⟩
abbrev zTk1 (a:Chart):Chunk:=.cells [.pd (.str a.name),.pd (.lst .str a.events),.pd (.lst .var a.vars),.pd (.lst .stat a.states),.pd (.lst .tran a.trans)] 27
abbrev zTk3:List PI:=[.code [1,1,0,1,0,0],.inLoop [1,1,0,1,0,0],.inBlock 0,.code [1,1,1]]
theorem H3 (hv:c.vars.length≤2199023255552) (hs:c.states.length≤2199023255552):∀ (n k:Nat),c.vars.length - k≤n→k≤c.vars.length →
 J Tryz.prog 73 (au Tryz.f73) Γ (Eq2 (.tup [.c (.own 0),.c (.own 1)]) [.own 9 .str (c.vars.map fun v:Var=>v.name),.own 9 .str (c.states.map fun s:Ev.Stat=>s.name)]) zTk3 ({ n:=38,fr:=[(1,.x (.c (.loc 0 0))),(2,.p (.v (Value.slice none 0 0))),(3,.p (.v (Value.slice none 0 0))),(4,.x (.c (.own 1))),(5,.p (.v (Value.slice none 0 0))),(11,.p (.lst .var c.vars)),(12,.i c.vars.length),(13,.i ((k:Int)))],ck:=[zTk1 c,.own 9 .str ((c.vars.take k).map fun v:Var=>v.name)] }):=by
 intro n
 induction n with
 | zero=>?_
 | succ n ih=>?_
 all_goals
  intro k hn hk
  refine jg aR Tryz.func73 (let x1:=(Value.slice none 0 0); let x2:=[Var.name (ETy.get .var c.vars k)]; .ite (decide ((k:Int)<(c.vars.length:Int))) (.need (inRg k c.vars.length) (.need (room ((List.map (fun v=>v.name) (List.take k c.vars)++x2).length) 16) (.stop zTk3 { n:=38,fr:=[(1,.x (.c (.loc 0 0))),(2,.p (.v x1)),(3,.p (.v x1)),(4,.x (.c (.own 1))),(5,.p (.v x1)),(11,.p (.lst .var c.vars)),(12,.i c.vars.length),(13,.i (IntKind.wrap .i64 ((k:Int)+1)))],ck:=[zTk1 c,.own 9 .str (List.map (fun v=>v.name) (List.take k c.vars)++x2)] }))) (.stop zTk2 { n:=38,fr:=[(2,.p (.v x1)),(3,.p (.v x1)),(4,.x (.c (.own 0))),(5,.p (.v x1)),(24,.p (.lst .stat c.states)),(25,.i c.states.length),(26,.i 0)],ck:=[.own 9 .str (List.map (fun v=>v.name) (List.take k c.vars))] })) ?_
  conv=>zeta
  refine ⟨fun hlt=>?_,fun hge=>?_⟩
  · have hk':k<c.vars.length:=by have:=of_decide_eq_true hlt; omega
    refine ⟨by omega,?_⟩
    rw [n9 (t:=.var) (fun s:Var=>s.name) hk']
    refine ⟨np _ (by rw [aN,bj]; omega),?_⟩
    rw [aX (aE hk' (av hv (by decide)))]
    first | (exfalso; omega) | exact ih (k+1) (by omega) (by omega)
  · have hke:k=c.vars.length:=by have:=of_decide_eq_false hge; omega
    subst hke
    rw [aW (aq _)]
    refine J.nilOwn 5 9 .str rfl (by kernel_rfl) ?_
    exact Gh c Γ hv hs c.states.length 0 (by omega) (by omega)
theorem Cn (h:c.vars.length≤2199023255552∧c.states.length≤2199023255552):ah Tryz.prog 73 [.e .chart c] [] (.tup [.c (.own 0),.c (.own 1)]) [.own 9 .str (c.vars.map fun v:Var=>v.name),.own 9 .str (c.states.map fun s:Ev.Stat=>s.name)]:=by
 refine dg aR Tryz.func73 (.stop zTk3 { n:=38,fr:=[(1,.x (.c (.loc 0 0))),(2,.p (.v (Value.slice none 0 0))),(3,.p (.v (Value.slice none 0 0))),(4,.p (.v (Value.slice none 0 0))),(5,.p (.v (Value.slice none 0 0))),(11,.p (.lst .var c.vars)),(12,.i c.vars.length),(13,.i 0)],ck:=[zTk1 c] }) fun Γ=>?_
 refine J.nilOwn 4 9 .str rfl (by kernel_rfl) ?_
 exact H3 c Γ h.1 h.2 c.vars.length 0 (by omega) (by omega)
def q8:Ent:=(73,fun
 | [.agg [.pd (.str a),.pd (.lst .str b),.pd (.lst .var c),.pd (.lst .stat d),.pd (.lst .tran e)]],[]=>some (some (c.length≤2199023255552∧d.length≤2199023255552),.tup [.c (.own 0),.c (.own 1)],[.own 9 .str (c.map fun v:Var=>v.name),.own 9 .str (d.map fun s:Ev.Stat=>s.name)])
 | _,_=>none)
theorem Fe:EntOk Tryz.prog q8:=entOk fun vs ck=>by
 unfold q8; dsimp only; split
 · rename_i a b c d e; exact entS fun hp=>Cn ⟨a,b,c,d,e⟩ hp
 · exact entN
end Go.Proofs.YtgfifkhbfdacjaaGreatDoor
namespace Go.Proofs.YtgfifkhbfdacjaaGreatDoor
open Go Go.Ev
set_option maxRecDepth 100000
variable (n:Int) (f:Nat) (c:Chart) (l:List Str)
theorem Lx:ah Tryz.prog 74 [.i n,.c (.fn (.func f) [] [.pd (.ref .chart c 0)])] [] (.x (.c (.fn (.func 75) [] [.loc 0 0,.loc 1 0]))) [.cells [.pd (.i n)] 3,.cells [.fn (.func f) [] [.pd (.ref .chart c 0)]] 110]:=by
 refine dg aR Tryz.func74 (.ret (.x (.c (.fn (.func 75) [] [.loc 0 0,.loc 1 0]))) [.cells [.i n] 3,.cells [.fn (.func f) [] [.pd (.ref .chart c 0)]] 110]) fun Γ=>?_
 exact ⟨rfl,rfl⟩
theorem Ld:ah Tryz.prog 74 [.i n,.c (.fn (.func f) [] [.pd (.ref .chart c 0)])] [] (.x (.c (.fn (.func 75) [] [.pd (.ref .int n 0),.pd (.fnAt [(f,[.ref .chart c 0])] 0)]))) [] :=
 ah.chop (ck':=[]) (ah.chop (ck':=[.dead]) (ah.frz aY [0,1] (Lx n f c) rfl rfl))
theorem L7:ah Tryz.prog 74 [.i n,.c (.fn (.func f) [] [.pd (.ref .chart c 0),.pd (.ref .strs l 0)])] [] (.x (.c (.fn (.func 75) [] [.loc 0 0,.loc 1 0]))) [.cells [.pd (.i n)] 3,.cells [.fn (.func f) [] [.pd (.ref .chart c 0),.pd (.ref .strs l 0)]] 110]:=by
 refine dg aR Tryz.func74 (.ret (.x (.c (.fn (.func 75) [] [.loc 0 0,.loc 1 0]))) [.cells [.i n] 3,.cells [.fn (.func f) [] [.pd (.ref .chart c 0),.pd (.ref .strs l 0)]] 110]) fun Γ=>?_
 exact ⟨rfl,rfl⟩
theorem JI:ah Tryz.prog 74 [.i n,.c (.fn (.func f) [] [.pd (.ref .chart c 0),.pd (.ref .strs l 0)])] [] (.x (.c (.fn (.func 75) [] [.pd (.ref .int n 0),.pd (.fnAt [(f,[.ref .chart c 0,.ref .strs l 0])] 0)]))) [] :=
 ah.chop (ck':=[]) (ah.chop (ck':=[.dead]) (ah.frz aY [0,1] (L7 n f c l) rfl rfl))
def eEa:Ent:=(74,fun
 | [.c (.pd (.int .i64 n)),.c (.fn (.func f) [] [.pd (.ref .chart c 0)])],[]=>some (none,.x (.c (.fn (.func 75) [] [.pd (.ref .int n 0),.pd (.fnAt [(f,[.ref .chart c 0])] 0)])),[])
 | _,_=>none)
theorem LN:EntOk Tryz.prog eEa:=entOk fun vs ck=>by
 unfold eEa; dsimp only; split
 · rename_i n f c; exact entS fun hp=>Ld n f c
 · exact entN
def eEb:Ent:=(74,fun
 | [.c (.pd (.int .i64 n)),.c (.fn (.func f) [] [.pd (.ref .chart c 0),.pd (.ref .strs l 0)])],[]=>some (none,.x (.c (.fn (.func 75) [] [.pd (.ref .int n 0),.pd (.fnAt [(f,[.ref .chart c 0,.ref .strs l 0])] 0)])),[])
 | _,_=>none)
theorem LB:EntOk Tryz.prog eEb:=entOk fun vs ck=>by
 unfold eEb; dsimp only; split
 · rename_i n f c l; exact entS fun hp=>JI n f c l
 · exact entN
end Go.Proofs.YtgfifkhbfdacjaaGreatDoor
namespace Go.Proofs
open Go.Shelf
def Tryz.growS_ren:Go.Shelf.Ren:=⟨fun | 4=>132 | n=>n,fun | 22=>22 | 25=>9 | 3=>3 | 4=>4 | 9=>9 | 20=>20 | 0=>0 | n=>n,fun | n=>n⟩
theorem Tryz.growS:Go.Proofs.Lays8.n4 Tryz.prog Tryz.growS_ren:={
 mixed:=by kernel_rfl
 f4:=⟨Tryz.f132.name,by decide,Tryz.func132.trans (congrArg some (by kernel_rfl))⟩
 t0:=Tryz.underlying0
 a0:=Tryz.isAgg0
 z0:=Tryz.sizeOf0
 v0:=Tryz.zeroValue0
 t3:=Tryz.underlying3
 a3:=Tryz.isAgg3
 z3:=Tryz.sizeOf3
 v3:=Tryz.zeroValue3
 t4:=Tryz.underlying4
 a4:=Tryz.isAgg4
 z4:=Tryz.sizeOf4
 v4:=Tryz.zeroValue4
 t9:=Tryz.underlying9
 a9:=Tryz.isAgg9
 z9:=Tryz.sizeOf9
 v9:=Tryz.zeroValue9
 t20:=Tryz.underlying20
 a20:=Tryz.isAgg20
 z20:=Tryz.sizeOf20
 v20:=Tryz.zeroValue20
 t22:=Tryz.underlying22
 a22:=Tryz.isAgg22
 z22:=Tryz.sizeOf22
 v22:=Tryz.zeroValue22 }
end Go.Proofs
namespace Go.Proofs.YtgfifkhbfdacjaaGreatDoor
open Go Go.Ev
set_option maxRecDepth 100000
theorem KO {V:Vn} {vs:List Value} {n:Int} (hv:All2 (SX.R V) [.c (.pd (.v (.slice none 0 0))),.i n] vs):vs=[.slice none 0 0,.int .i64 n]:=by
 cases hv with
 | cons a1 hv=>cases hv with
   | cons a2 hv =>
     cases hv
     have h1:PR V.H (.v (.slice none 0 0)) _:=a1
     have h2:PR V.H (.int .i64 n) _:=a2
     cases h1; cases h2
     rfl
theorem CR (n:Int) (h:0≤n∧n≤1000000):ah Tryz.prog 132 [.c (.pd (.v (.slice none 0 0))),.i n] [] (.x (.c (.own 0))) [.own 9 .str []]:=by
 intro w V vs hw hT hv
 rw [KO hv]
 obtain ⟨k,rfl⟩:=aD h.1
 have hk:k≤1000000:=by omega
 cases k with
 | zero =>
   refine (Any8.slices_Grow_room Tryz.growS none 0 0 0 w (by omega) (by omega) (by omega) (by omega)).mono fun e w' ⟨he,hw'⟩=>?_
   subst he; subst hw'
   obtain ⟨V',_,_,_,e2,hw2⟩:=hw.regrow (ck:=[]) rfl (aQ _) none (c:=.own 9 .str []) (v':=.slice none 0 0) (s':=0) (w':=w') (row:=none) (by simp) (World.grownBy.refl _ _) (fun V' hag hH f1 f2=>by
    refine ⟨⟨[],⟨rfl,.inl ⟨f2,rfl⟩⟩,.nil,fun b hb=>?_⟩,fun b hb=>?_⟩
    · rw [f2] at hb; cases hb
    · have hb':(V'.ov 0).ownBlock=some b:=hb
      rw [show V'.ov 0=_ from f2] at hb'; cases hb')
   exact ⟨_,V',rfl,e2.symm,by simpa [ct] using hw2⟩
 | succ k =>
   have hcap:=grownCap_ge w (0+(k+1)) 0 9
   have hmax:=grownCap_le_maxLen w (0+(k+1)) 0 9 (av (by omega:0+(k+1)≤1000000) (by decide))
   obtain ⟨i0,hi0,hz0,hs0,hb0⟩:∃ i0,(Tryz.prog).info? 9=some i0∧i0.zero=some (.string ⟨#[]⟩)∧i0.size=1∧i0.bytes=16:=⟨_,rfl,rfl,rfl,rfl⟩
   refine (Any8.slices_Grow_grow Tryz.growS i0 _ hi0 hz0 (by omega) none 0 0 (k+1) [] w (by omega) (by omega) (by rw [hb0]; omega) (by omega) (by simp) (fun _=>rfl) (fun a ha=>by cases ha)).mono fun e w' ⟨he,hw'⟩=>?_
   rw [show Tryz.growS_ren.t 25=9 from rfl] at he hw'
   have hsz:∀ m,(Builtin.zeroCells (Value.string ⟨#[]⟩).cells m).size=m:=fun m=>by rw [size_zeroCells]; exact Nat.mul_one m
   obtain ⟨cur,hcur,hw2⟩:∃ cur:Array Value,cur.size=grownCap w (0+(k+1)) 0 9 * 1∧w'=w.drew.alloc (.cells cur 9):=⟨_,by
    rw [Array.size_append,Array.size_append,hsz,hsz,show (([]:List Value).toArray).size=0 from rfl]
    omega,hw'⟩
   clear hw'
   subst he
   have g:=gi w.drew (.cells cur 9)
   rw [← hw2] at g
   have hnew:w'.heap[w.heap.size]?=some (.cells cur 9 (0,0)):=by rw [hw2]; exact heap_alloc_new w.drew _
   obtain ⟨V',_,_,_,e2,hw3⟩:=hw.regrow (ck:=[]) rfl (aQ _) none (c:=.own 9 .str []) (v':=.slice (some ⟨w.heap.size,0,none⟩) 0 (grownCap w (0+(k+1)) 0 9)) (s':=w.heap.size) (w':=w') (row:=none) (by simp)
    ⟨g.os,g.tape,g.output,g.size,g.block⟩ (fun V' hag hH f1 f2=>by
    refine ⟨⟨[],⟨rfl,.inr ⟨w.heap.size,_,_,f2,aQ _,hnew,aQ _,hmax,hcur,rfl⟩⟩,.nil,fun b hb=>?_⟩,fun b hb=>.inr ?_⟩
    · rw [f2] at hb; rw [f1]; simpa [Value.ownBlock] using hb
    · have hb':(V'.ov 0).ownBlock=some b:=hb
      rw [show V'.ov 0=_ from f2] at hb'
      simp [Value.ownBlock] at hb'; omega)
   exact ⟨_,V',rfl,e2.symm,by simpa [ct] using hw3⟩
def vk:Ent:=(132,fun
 | [.c (.pd (.v (.slice none 0 0))),.c (.pd (.int .i64 n))],[]=>some (some (0≤n∧n≤1000000),.x (.c (.own 0)),[.own 9 .str []])
 | _,_=>none)
theorem G3:EntOk Tryz.prog vk:=entOk fun vs ck=>by
 unfold vk; dsimp only; split
 · rename_i n; exact entS fun hp=>CR n hp
 · exact entN
def uR:Cfg:=⟨[],[vk]⟩
theorem qd:ag Tryz.prog uR.tab:=(ag.cons G3 ag.nil)
theorem jY {α:Type} {l:List (List α)} {k:Nat} (hk:k<l.length):(l.take (k+1)).flatten=(l.take k).flatten++l[k]:=by
 rw [aU hk,List.flatten_append]; simp
theorem sb {α:Type} (l:List (List α)) (k:Nat):(l.take k).flatten.length≤l.flatten.length:=by
 have:l.flatten=(l.take k).flatten++(l.drop k).flatten:=by rw [← List.flatten_append,cq]
 rw [this,ar]; omega
abbrev zTm1:List PI:=[.code [1,1,1,1,0,1,0,0],.inLoop [1,1,1,1,0,1,0,0],.inBlock 2,.code [1,1,1,1,1]]
variable (l:List (List Str)) (Γ:Ctx)
theorem F7 (hl:l.length≤maxLen) (hs:l.flatten.length≤1000000):∀ (n k:Nat),l.length - k≤n→k≤l.length →
 J Tryz.prog 78 (au Tryz.f78) Γ (Eq2 (.x (.c (.own 0))) [.own 9 .str l.flatten]) zTm1 ({ n:=36,fr:=[(2,.p (.v (Value.slice none 0 0))),(6,.x (.c (.own 0))),(25,.p (.lst .strs l)),(26,.i l.length),(27,.i ((k:Int)))],ck:=[.own 9 .str (l.take k).flatten] }):=by
 intro n
 induction n with
 | zero=>?_
 | succ n ih=>?_
 all_goals
  intro k hn hk
  refine jg qd Tryz.func78 (.ite (decide ((k:Int)<(l.length:Int))) (.need (inRg k l.length) (.need (room ((List.flatten (List.take k l)++ETy.get .strs l k).length) 16) (.stop zTm1 { n:=36,fr:=[(2,.p (.v (Value.slice none 0 0))),(6,.x (.c (.own 0))),(25,.p (.lst .strs l)),(26,.i l.length),(27,.i (IntKind.wrap .i64 ((k:Int)+1)))],ck:=[.own 9 .str (List.flatten (List.take k l)++ETy.get .strs l k)] }))) (.ret (.x (.c (.own 0))) [.own 9 .str (List.flatten (List.take k l))])) ?_
  refine ⟨fun hlt=>?_,fun hge=>?_⟩
  · have hk':k<l.length:=by have:=of_decide_eq_true hlt; omega
    have h1:=sb l (k+1)
    refine ⟨by omega,?_⟩
    rw [show ETy.get .strs l k=l[k] from ETy.get_eq (t:=.strs) (List.getElem?_eq_getElem hk'),← jY hk']
    refine ⟨np _ (by omega),?_⟩
    rw [aX (aE hk' hl)]
    first | (exfalso; omega) | exact ih (k+1) (by omega) (by omega)
  · have hke:k=l.length:=by have:=of_decide_eq_false hge; omega
    subst hke
    rw [aW (aq _)]
    exact ⟨rfl,rfl⟩
abbrev zTm2:List PI:=[.code [1,1,0,1,0,0],.inLoop [1,1,0,1,0,0],.inBlock 0,.code [1,1,1]]
theorem FJ (hl:l.length≤maxLen) (hs:l.flatten.length≤1000000):∀ (n k:Nat),l.length - k≤n→k≤l.length →
 J Tryz.prog 78 (au Tryz.f78) Γ (Eq2 (.x (.c (.own 0))) [.own 9 .str l.flatten]) zTm2 ({ n:=36,fr:=[(0,.p (.lst .strs l)),(2,.p (.v (Value.slice none 0 0))),(3,.i (((l.take k).flatten.length:Int))),(9,.p (.lst .strs l)),(10,.i l.length),(11,.i ((k:Int)))],ck:=[] }):=by
 intro n
 induction n with
 | zero=>?_
 | succ n ih=>?_
 all_goals
  intro k hn hk
  refine jg qd Tryz.func78 (let x1:=(↑((List.flatten (List.take k l)).length):Int); let x2:=(x1+(↑((ETy.get .strs l k).length):Int)); let x3:Nat×SV:=(2,.p (.v (Value.slice none 0 0))); .ite (decide ((k:Int)<(l.length:Int))) (.need (inRg k l.length) (.ite (decide (IntKind.wrap .i64 x2<(0:Int))) (.stop [.ops [1,1,0,1,0,0,1,1,0,0,1,1,1,0] 1,.inBlock 1,.code [1,1,0,1,0,0,1,1,1],.inLoop [1,1,0,1,0,0],.inBlock 0,.code [1,1,1]] { n:=36,fr:=[(0,.p (.lst .strs l)),x3,(3,.i (IntKind.wrap .i64 x2)),(9,.p (.lst .strs l)),(10,.i l.length),(11,.i k),(21,.p (.v (Value.iface 9 (Value.string (bs [(108:UInt8),101,110,32,111,117,116,32,111,102,32,114,97,110,103,101])))))],ck:=[] }) (.stop zTm2 { n:=36,fr:=[(0,.p (.lst .strs l)),x3,(3,.i (IntKind.wrap .i64 x2)),(9,.p (.lst .strs l)),(10,.i l.length),(11,.i (IntKind.wrap .i64 ((k:Int)+1)))],ck:=[] }))) (.need ((0:Int)≤x1∧x1≤1000000) (.stop zTm1 { n:=36,fr:=[x3,(6,.x (.c (.own 0))),(25,.p (.lst .strs l)),(26,.i l.length),(27,.i 0)],ck:=[.own 9 .str []] }))) ?_
  conv=>zeta
  refine ⟨fun hlt=>?_,fun hge=>?_⟩
  · have hk':k<l.length:=by have:=of_decide_eq_true hlt; omega
    have h1:=sb l (k+1)
    refine ⟨by omega,?_⟩
    have h2:IntKind.wrap .i64 (((l.take k).flatten.length:Int)+((ETy.get .strs l k).length:Int))=((l.take (k+1)).flatten.length:Int):=by
     have h3:(l.take (k+1)).flatten.length=(l.take k).flatten.length+(ETy.get .strs l k).length:=by
      rw [jY hk',ar]
      rw [show ETy.get .strs l k=l[k] from ETy.get_eq (t:=.strs) (List.getElem?_eq_getElem hk')]
     rw [cg (by omega) (by omega)]; omega
    rw [h2]
    refine ⟨fun hb=>?_,fun _=>?_⟩
    · have:=of_decide_eq_true hb; omega
    rw [aX (aE hk' hl)]
    first | (exfalso; omega) | exact ih (k+1) (by omega) (by omega)
  · have hke:k=l.length:=by have:=of_decide_eq_false hge; omega
    subst hke
    refine ⟨by have:=sb l l.length; omega,?_⟩
    exact F7 l Γ hl hs l.length 0 (by omega) (by omega)
theorem yI (h:l.flatten.length≤1000000):ah Tryz.prog 78 [.l .strs l] [] (.x (.c (.own 0))) [.own 9 .str l.flatten]:=by
 refine dg qd Tryz.func78 (.stop zTm2 { n:=36,fr:=[(0,.p (.lst .strs l)),(2,.p (.v (Value.slice none 0 0))),(3,.i 0),(9,.p (.lst .strs l)),(10,.i l.length),(11,.i 0)],ck:=[] }) fun Γ=>?_
 exact J.len 0 rfl fun hl=>FJ l Γ hl h l.length 0 (by omega) (by omega)
def gJ:List Str:=l.flatten.reverse.reverse
theorem mR:gJ l=l.flatten:=List.reverse_reverse _
theorem yH (h:(gJ l).length≤1000000):ah Tryz.prog 78 [.l .strs l] [] (.x (.c (.own 0))) [.own 9 .str (gJ l)]:=by
 rw [mR] at h ⊢; exact yI l h
def oM:Ent:=(78,fun
 | [.c (.pd (.lst .strs l))],[]=>some (some ((gJ l).length≤1000000),.x (.c (.own 0)),[.own 9 .str (gJ l)])
 | _,_=>none)
theorem AU:EntOk Tryz.prog oM:=entOk fun vs ck=>by
 unfold oM; dsimp only; split
 · rename_i l; exact entS fun hp=>yH l hp
 · exact entN
end Go.Proofs.YtgfifkhbfdacjaaGreatDoor

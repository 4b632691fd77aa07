/- Contracts: trees of states: past, the end of a state, children handed out. Conditions: none. Contracts: a state's children, handed out one by one. Conditions: none. Contracts: trees of states: their shape. Conditions: none. Contracts: trees of states: tree.Right. Conditions: none. -/
import Derived.Test.YtlhgnjmdopjpeaaGreatDoorVg
import Derived.Test.YtlhgnjmdopjpeaaGreatDoorKb
import Derived.RangeFuncNested
import Derived.RangeFuncBound
import Derived.RangeFuncCalls
import Derived.RangeFuncLeaves
import Derived.Shelf.Abstract
import Derived.Shelf.RegionOpen
import Derived.WalkKit
import Derived.OwnWalkIn
import Derived.TacticsInMore
import Derived.LoopNIn
import Derived.LoopIn
namespace Go.Proofs.YtlhgnjmdopjpeaaGreatDoor
open Go Go.Ev
set_option maxRecDepth 100000
variable(l:List Ev.Stat)(i:Nat)(k:Int)
def a7:Bool:=k==5||k==6
def gz(d:Int):List Ev.Stat→Nat
 |[]=>0
 |s::r=>bif decide (s.depth>d)then gz d r+1 else 0
def endM:Nat:=i+1+gz (ETy.get .stat l i).depth (l.drop (i+1))
def eF(l:List Ev.Stat)(e:Nat):Nat→Nat→List Int
 |0,_=>[]
 |n+1,k=>if k<e then(k:Int)::eF l e n (endM l k)else[]
def bC:List Int:=eF l (endM l i) l.length (i+1)
theorem GF:ag Tryz.prog 189 [.i k] [] (.x (.b (a7 k))) []:=by
 refine dg aV Tryz.func189 (.ret (.p (.bool (k==(5:Int)||k==(6:Int)))) []) fun Γ=>?_
 exact⟨rfl,rfl⟩
def uM:Ent:=(189,fun
 |[.c (.pd (.int .i64 k))],[]=>some (none,.x (.c (.pd (.bool (a7 k)))),[])
 |_,_=>none)
theorem IA:EntOk Tryz.prog uM:=entOk fun vs ck=>by
 unfold uM;dsimp only;split
 ·rename_i k;exact entS fun hp=>GF k
 ·exact entN
theorem AZ(d:Int):∀l:List Ev.Stat,gz d l≤l.length
 |[]=>ar _
 | s::r=>by
   have:=AZ d r
   rw[gz];cases decide (s.depth>d) <;> simp <;> omega
theorem dU{i:Nat}(h:i<l.length):i<endM l i∧endM l i≤l.length:=by
 have:=AZ (ETy.get .stat l i).depth (l.drop (i+1))
 rw[List.length_drop]at this
 unfold endM;omega
abbrev zTa1:List PI:=[.code [1,1,0,0,0],.inLoop [1,1,0,0,0],.inBlock 0,.code [1,1,1]]
theorem O9(hi:i<l.length)(hl:l.length≤maxLen)(Γ:Ctx):∀(n k:Nat),l.length - k≤n→k≤l.length →
 J Tryz.prog 74 (aB Tryz.f74) Γ (Eq2 (.x (.i ((k+gz (ETy.get .stat l i).depth (l.drop k):Nat):Int))) []) zTa1 ({n:=28,fr:=[(0,.p (.lst .stat l)),(1,.i i),(4,.i 0),(5,.i ((k:Int)))],ck:=[]}):=by
 intro n
 induction n with
 |zero=>?_
 |succ n ih=>?_
 all_goals
  intro k hn hk
  refine jg aV Tryz.func74 (.need ((((4,12,true,gC true (decide ((k:Int)<(l.length:Int))) none).2).2).2→(0:Int)≤(k:Int)∧(k:Int)<(l.length:Int)) (.need ((((4,12,true,gC true (decide ((k:Int)<(l.length:Int))) none).2).2).2→(0:Int)≤(i:Int)∧(i:Int)<(l.length:Int)) (.ite (decide ((k:Int)<(l.length:Int))&&decide (Stat.depth (ETy.get .stat l k)>Stat.depth (ETy.get .stat l i))) (.stop zTa1 {n:=28,fr:=[(0,.p (.lst .stat l)),(1,.i i),(4,.i 0),(5,.i (IntKind.wrap .i64 ((k:Int)+1)))],ck:=[]}) (.ret (.i k) [])))) ?_
  refine⟨fun h=>⟨by omega,by have:=of_decide_eq_true h;omega⟩,fun h=>⟨by omega,by omega⟩,fun h=>?_,fun h=>?_⟩
  · simp only[af,decide_eq_true_eq]at h
    have hk':k<l.length:=by omega
    rw[bK (t:=.stat) (l:=l) hk',gz]
    have h2:decide ((ETy.get .stat l k).depth>(ETy.get .stat l i).depth)=true:=decide_eq_true h.2
    rw[h2,cond_true,ba (aK hk' hl),show k+(gz (ETy.get .stat l i).depth (l.drop (k+1))+1)=k+1+gz (ETy.get .stat l i).depth (l.drop (k+1))by omega]
    first
    |(exfalso;omega)
    |exact ih (k+1) (by omega) (by omega)
  · by_cases hk':k<l.length
    · rw [bK (t:=.stat) (l:=l) hk',gz]
      have h2:decide ((ETy.get .stat l k).depth>(ETy.get .stat l i).depth)=false:=by
       cases h3:decide ((ETy.get .stat l k).depth>(ETy.get .stat l i).depth)
       ·rfl
       · rw[decide_eq_true (show((k:Int)<(l.length:Int))by omega)]at h
         have h4:(true&&decide ((ETy.get .stat l k).depth>(ETy.get .stat l i).depth))=false:=h
         rw[h3]at h4;cases h4
      rw[h2,cond_false];exact⟨rfl,rfl⟩
    ·rw[bZ (l:=l) (by omega),gz];exact⟨rfl,rfl⟩
theorem xY(hi:i<l.length)(hl:l.length≤maxLen):ag Tryz.prog 74 [.l .stat l,.i (i:Int)] [] (.x (.i (endM l i:Nat))) []:=by
 refine dg aV Tryz.func74 (.stop zTa1 {n:=28,fr:=[(0,.p (.lst .stat l)),(1,.i i),(4,.i 0),(5,.i (IntKind.wrap .i64 ((i:Int)+1)))],ck:=[]}) fun Γ=>?_
 rw[ba (by have:=aK hi hl;omega)]
 exact O9 l i hi hl Γ l.length (i+1) (by omega) (by omega)
end Go.Proofs.YtlhgnjmdopjpeaaGreatDoor
namespace Go.Proofs.YtlhgnjmdopjpeaaGreatDoor
open Go Go.Ev Go.RowKit Go.Shelf
attribute [local go_sem] Oper.semAt_some
set_option maxRecDepth 100000
theorem Ke{V:Vn}{w:World}(h:HIn V.H w):WOk (entry [] V w) [] V w :=
 {ext:=Fr.refl _ _,imm:=h,hle:=HLe.refl _,frz:=fun _ h=>.inl h,agr:=fun _ _=>⟨rfl,rfl⟩,own:=fun i c hc=>(by simp at hc),base:=fun i c b hc=>(by simp at hc),inj:=fun i j c d b hc=>(by simp at hc)}
variable(l:List Ev.Stat)(i:Nat)
theorem qu(hi:i<l.length)(hl:l.length≤maxLen){V:Vn}{w:World}{u:Value}(hH:HIn V.H w)(hT:gW Tryz.prog V.H)(hu:PR V.H (.lst .stat l) u) :
 Calls Tryz.prog 74 #[u,.int .i64 (i:Int)] w fun e w'=>e = .returned (.int .i64 (endM l i:Nat))∧Below w.heap.size w w':=by
 refine(xY l i hi hl w V [u,.int .i64 (i:Int)] (Ke hH) hT (.cons hu (.cons (PR.int _ _) .nil))).mono fun e w' hq=>?_
 obtain⟨v,V',rfl,hr,hw⟩:=hq
 have hr':PR V'.H (.int .i64 (endM l i:Nat)) v:=hr
 cases hr'
 exact⟨rfl,hw.ext.os,hw.ext.tape,hw.ext.output,hw.ext.size,fun k hk=>hw.ext.block k hk fun⟨j,c,hc,_⟩=>by simp at hc⟩
theorem Pu(n lp b1 o1 b2 o2 i:Nat)(l:List Ev.Stat)(hi:i<l.length)(hl:l.length≤maxLen)(V:Vn)(hT:gW Tryz.prog V.H)(u:Value)(hu:PR V.H (.lst .stat l) u)
 (c1 c2:Array Value) (e1 e2:TypeId) (f1 f2:Nat×Nat) (hb1:V.H b1=some (.cells c1 e1 f1)) (hb2:V.H b2=some (.cells c2 e2 f2)) (hc1:c1[o1]?=some (.int .i64 (i:Int))) (hc2:c2[o2]?=some u)
 (J Jx:List Int→World→Prop) (hab:∀s A B,J s A→A.grownBy B none→J s B)
 (hY:∀pre x W,0≤x→x<(l.length:Int)→J pre W→pre.length<(bC l i).length→YieldAt Fence.wide (n - 1) Tryz.prog lp #[.int .i64 x] W fun e W' =>
  (e = .returned (.bool true)∧J (pre++[x]) W'∧KpH V.H W W')∨(e = .returned (.bool false)∧Jx (pre++[x]) W'))
 (W:World) (hH:HIn V.H W) (h0:J [] W) :
 CallsIn Fence.wide n Tryz.prog 216 #[.func (.yield lp) #[] #[],.pointer (some ⟨b1,o1,none⟩),.pointer (some ⟨b2,o2,none⟩)] W fun e W'=>(∃v,e = .returned v) ∧
  ((∃ys,ys=bC l i∧J ys W')∨(∃pre,pre <+: bC l i∧Jx pre W')):=by
 have rd1:∀{X:World},HIn V.H X→X.cell? ⟨b1,o1,none⟩=some (.int .i64 (i:Int)):=fun h=>by
  have:=h _ _ hb1
  simp only[World.cell?,this];exact hc1
 have rd2:∀{X:World},HIn V.H X→X.cell? ⟨b2,o2,none⟩=some u:=fun h=>by
  have:=h _ _ hb2
  simp only[World.cell?,this];exact hc2
 refine callsIn_of_wp Tryz.func216 rfl trivial ?_ rfl
 have r1:=rd1 hH
 have r2:=rd2 hH
 simp only[Tryz.ntmps216,List.size_toArray,av,bz,Nat.reduceAdd,Nat.reduceSub,Array.replicate_succ,Array.replicate_zero,List.push_toArray,List.append_toArray,cd,bO]
 have hg:∀{A B:World},Below A.heap.size A B→A.grownBy B none:=fun h=>⟨h.os,h.tape,h.output,h.size,fun k hk _=>h.block k hk⟩
 have hHB:∀{A B:World},HIn V.H A→Below A.heap.size A B→HIn V.H B:=fun h hb k o hk=>(hb.block k (Array.getElem?_eq_some_iff.1 (h k o hk)).1).trans (h k o hk)
 have hHK:∀{A B:World},HIn V.H A→KpH V.H A B→HIn V.H B:=fun h hb k o hk=>(hb.same k (by rw[hk];simp)).trans (h k o hk)
 have hwr:wrap64 ((i:Int)+1)=(i:Int)+1:=by
  have:=aK hi hl
  unfold wrap64;omega
 gi_wp2
 rw[hwr]
 gi_loopw [4] (fun p wr=>∃(pre:List Int) (k f:Nat),p = .int .i64 (k:Int)∧i<k∧k≤l.length∧bC l i=pre++eF l (endM l i) f k∧endM l i≤k+f∧HIn V.H wr∧J pre wr)
  (fun p _=>endM l i - (intOf p).toNat)
 case atStart =>
  have:=(dU l hi).2
  exact⟨[],i+1,l.length,by simp,by omega,by omega,rfl,by omega,hH,h0⟩
 case round =>
  obtain⟨pre,k,f,rfl,hk1,hk2,hx,hf,hH2,hJs⟩:=hrel
  have q1:=rd1 hH2
  have q2:=rd2 hH2
  by_cases hlt:k<endM l i
  · obtain⟨f,rfl⟩:∃f',f=f'+1:=⟨f - 1,by omega⟩
    have hx':bC l i=pre++(k:Int)::eF l (endM l i) f (endM l k):=by rw[hx,eF,if_pos hlt]
    have hkl:k<l.length:=bW hlt (dU l hi).2
    have hlen:pre.length<(bC l i).length:=by rw[hx'];simp
    gi_wp2
    refine⟨trivial,fun h=>(by cases h),?_⟩
    refine(callsIn_wide.2 (qu l i hi hl hH2 hT hu)).mono ?_
    rintro e w1 ⟨rfl,hw1⟩
    have hH3:=hHB hH2 hw1
    have hJ3:=hab _ _ _ hJs (hg hw1)
    have hlt':((k:Int)<((endM l i:Nat):Int)):=by omega
    obtain⟨fn,tmps,assign,body,hy,hR⟩:=hY pre (k:Int) w1 (by omega) (by omega) hJ3 hlen
    gi_wp2
    refine⟨fun h=>(by cases h),hR.mono ?_⟩
    rintro e W3 (⟨rfl,hJ4,hk4⟩ |⟨rfl,hJx4⟩)
    · have hH4:=hHK hH3 hk4
      have q3:=rd1 hH4
      have q4:=rd2 hH4
      have hek:=dU l hkl
      gi_wp2
      refine⟨trivial,fun h=>(by cases h),?_⟩
      refine(callsIn_wide.2 (qu l k hkl hl hH4 hT hu)).mono ?_
      rintro e w5 ⟨rfl,hw5⟩
      gi_wp2
      go_roundw
      case rel=>exact⟨pre++[(k:Int)],endM l k,f,rfl,by omega,hek.2,by rw[hx'];simp,by omega,hHB hH4 hw5,hab _ _ _ hJ4 (hg hw5)⟩
      case measure =>
       show endM l i - ((endM l k:Nat):Int).toNat<endM l i - ((k:Nat):Int).toNat
       rw[ai,ai];omega
    · gi_wp2
      refine bodyPost_ret (results_none rfl _ _ _) rfl ?_
      exact⟨⟨_,rfl⟩,.inr ⟨pre++[(k:Int)],⟨eF l (endM l i) f (endM l k),by rw[hx'];simp⟩,hJx4⟩⟩
  · have hx':bC l i=pre:=by
     rw[hx]
     cases f with
     |zero=>simp[eF]
     |succ f=>rw[eF,if_neg hlt,aO]
    have hlt':¬((k:Int)<((endM l i:Nat):Int)):=by omega
    gi_wp2
    refine⟨trivial,fun h=>(by cases h),?_⟩
    refine(callsIn_wide.2 (qu l i hi hl hH2 hT hu)).mono ?_
    rintro e w1 ⟨rfl,hw1⟩
    gi_wp2
    go_end0
    exact⟨⟨_,rfl⟩,.inl ⟨pre,hx'.symm,hab _ _ _ hJs (hg hw1)⟩⟩
theorem xC(hi:i<l.length)(hl:l.length≤maxLen):Iter Tryz.prog 216 [.pd (.ref .int (i:Int) 0),.pd (.ref .stats l 0)] (fun x=>0≤x∧x<(l.length:Int)) (bC l i):=by
 intro n V w lb hH hT hcaps
 cases hcaps with |cons h1 hcaps=>cases hcaps with |cons h2 hcaps =>
  cases hcaps
  have h1':PR V.H (.ref .int (i:Int) 0) _:=h1
  have h2':PR V.H (.ref .stats l 0) _:=h2
  cases h1' with |ref _ _ _ b1 o1 c1 e1 f1 hb1 hs1 g1 =>
  cases h2' with |ref _ _ _ b2 o2 c2 e2 f2 hb2 hs2 g2 =>
  have hc1:c1[o1+0]?=some (.int .i64 (i:Int)):=by
   have hlt:o1+0<c1.size:=by have:o1+1≤c1.size:=hs1;omega
   have h3:=g1 0 (.int .i64 (i:Int)) rfl c1[o1+0] (Array.getElem?_eq_getElem hlt)
   rw[Array.getElem?_eq_getElem hlt]
   generalize c1[o1+0]=x at h3 ⊢
   cases h3;rfl
  have hlt2:o2+0<c2.size:=by have:o2+1≤c2.size:=hs2;omega
  have hu:=g2 0 (.lst .stat l) rfl c2[o2+0] (Array.getElem?_eq_getElem hlt2)
  intro lp J Jx W hB hJ hJx hY h0
  have hHW:HIn V.H W:=fun k o hk=>(hB.block k (Array.getElem?_eq_some_iff.1 (hH k o hk)).1).trans (hH k o hk)
  refine(Pu n lp b1 (o1+0) b2 (o2+0) i l hi hl V hT _ hu c1 c2 e1 e2 f1 f2 hb1 hb2 hc1 (Array.getElem?_eq_getElem hlt2) (fun ys X=>∃zs,zs.map (·.1)=ys∧J zs X) (fun ys X=>∃zs,zs.map (·.1)=ys∧Jx zs X) (by rintro s A B ⟨zs,q1,q2⟩ hg;exact⟨zs,q1,hJ zs A B none q2 hg fun r e=>(by cases e)⟩) ?_ W hHW (by exact⟨[],rfl,h0⟩)).mono ?_
  · intro pre x X hx0 hx1 ⟨zs,q1,q2⟩ hlen
    obtain⟨fn,tmps,assign,body,hy,hR⟩:=hY zs ⟨x,hx0,hx1⟩ X q2 (by rw[←q1,aQ]at hlen;exact hlen)
    refine⟨fn,tmps,assign,body,hy,hR.mono fun e X2 hq=>?_⟩
    rcases hq with⟨e1,e2,e3⟩ |⟨e1,e2⟩
    ·exact .inl ⟨e1,⟨_,by rw[bF,q1];rfl,e2⟩,e3⟩
    ·exact .inr ⟨e1,_,by rw[bF,q1];rfl,e2⟩
  · rintro e X2 ⟨hv,hq⟩
    refine⟨hv,?_⟩
    rcases hq with⟨ys,e1,zs,e2,e3⟩ |⟨pre,e1,zs,e2,e3⟩
    ·exact .inl ⟨zs,e2.trans e1,e3⟩
    ·exact .inr ⟨zs,by show zs.map (·.1) <+: _;rw[e2];exact e1,e3⟩
end Go.Proofs.YtlhgnjmdopjpeaaGreatDoor
namespace Go.Proofs.YtlhgnjmdopjpeaaGreatDoor
open Go Go.Ev
set_option maxRecDepth 100000
def sZ(a:Int)(s:Ev.Stat):Bool:=decide (s.depth<0)||decide (s.depth>IntKind.wrap .i64 (a+1))||decide (s.depth≥6)||decide (s.kind<1)||decide (s.kind>6)
def fI:Int→Int→List Ev.Stat→Option Int
 |_,r,[]=>some r
 |a,r,s::q=>bif sZ a s then none else bif s.depth==0 then(bif s.kind != 2 then none else fI s.depth (IntKind.wrap .i64 (r+1)) q)else fI s.depth r q
def rm(n:Nat):Option Int→Bool
 |none=>false
 |some r=>decide (r≤4)&&decide ((n:Int)>0)&&decide ((n:Int)≤40)
variable(l:List Ev.Stat)
def lS:Bool:=rm l.length (fI (-1) 0 l)
def jD:Nat→Int
 |0=>-1
 |k+1=>(ETy.get .stat l k).depth
abbrev zTc1:List PI:=[.code [1,1,0,1,0,0],.inLoop [1,1,0,1,0,0],.inBlock 0,.code [1,1,1]]
theorem Qn (hl:l.length≤maxLen) (Γ:Ctx):∀(n k:Nat) (r:Int),l.length - k≤n→k≤l.length →
 J Tryz.prog 188 (aB Tryz.f188) Γ (Eq2 (.x (.b (rm l.length (fI (jD l k) r (l.drop k))))) []) zTc1 ({n:=68,fr:=[(0,.p (.lst .stat l)),(2,.p (.bool false)),(3,.i r),(7,.p (.lst .stat l)),(8,.i l.length),(9,.i ((k:Int)))],ck:=[],kn:=[2]}):=by
 intro n
 induction n with
 |zero=>?_
 |succ n ih=>?_
 all_goals
  intro k r hn hk
  refine jg aV Tryz.func188 (let x3:Tree:=(.ret (.p (.bool false)) []);let x2:List PI:=zTc1;let x8:=(IntKind.wrap .i64 ((k:Int)+1));let x1:Tree:=(.ite (Stat.depth (ETy.get .stat l k)==(0:Int)) (.ite (Stat.kind (ETy.get .stat l k) != (2:Int)) x3 (.stop x2 {n:=68,fr:=[(0,.p (.lst .stat l)),(2,.p (.bool false)),(3,.i (IntKind.wrap .i64 (r+(1:Int)))),(7,.p (.lst .stat l)),(8,.i l.length),(9,.i x8)],ck:=[],kn:=[2]})) (.stop x2 {n:=68,fr:=[(0,.p (.lst .stat l)),(2,.p (.bool false)),(3,.i r),(7,.p (.lst .stat l)),(8,.i l.length),(9,.i x8)],ck:=[],kn:=[2]}));let x4:=(Stat.depth (ETy.get .stat l k)<(0:Int));let x5:=(Stat.depth (ETy.get .stat l k)≥(6:Int));let x6:=(Stat.kind (ETy.get .stat l k)<(1:Int));let x7:=(Stat.kind (ETy.get .stat l k)>(6:Int));.ite (decide ((k:Int)<(l.length:Int))) (.need (inRg k l.length) (.ite (decide ((k:Int)>0)) (.need ((0:Int)≤IntKind.wrap .i64 ((k:Int) - 1)∧IntKind.wrap .i64 ((k:Int) - 1)<(l.length:Int)) (.ite (decide x4||decide (Stat.depth (ETy.get .stat l k)>IntKind.wrap .i64 (Stat.depth (ETy.get .stat l ((IntKind.wrap .i64 ((k:Int) - 1)).toNat))+(1:Int)))||decide x5||decide x6||decide x7) x3 x1)) (.ite (decide x4||decide (Stat.depth (ETy.get .stat l k)>IntKind.wrap .i64 ((-1:Int)+1))||decide x5||decide x6||decide x7) x3 x1))) (.ret (.p (.bool (decide (r≤(4:Int))&&decide ((l.length:Int)>0)&&decide ((l.length:Int)≤40)))) [])) ?_
  conv=>zeta
  have tail:∀(hk':k<l.length) (b:Bool),b=sZ (jD l k) (ETy.get .stat l k)→(b=true→SV.x (.p (.bool false)) = .x (.b (rm l.length (fI (jD l k) r (l.drop k))))∧([]:List Chunk)=[]):=fun hk' b hb h=>by
   rw[bK (t:=.stat) (l:=l) hk',fI,←hb,h];exact⟨rfl,rfl⟩
  refine⟨fun hlt=>?_,fun hge=>?_⟩
  · have hk':k<l.length:=by have:=of_decide_eq_true hlt;omega
    have hm:=aK hk' hl
    have step:∀(b:Bool),b=sZ (jD l k) (ETy.get .stat l k)→b=false→fI (jD l k) r (l.drop k)=bif (ETy.get .stat l k).depth==0 then(bif (ETy.get .stat l k).kind != 2 then none else fI (ETy.get .stat l k).depth (IntKind.wrap .i64 (r+1)) (l.drop (k+1)))else fI (ETy.get .stat l k).depth r (l.drop (k+1)):=fun b hb h=>by
     rw[bK (t:=.stat) (l:=l) hk',fI,←hb,h];rfl
    rw[ba hm]
    refine⟨by omega,fun hpos=>?_,fun hz=>?_⟩
    · have hp:0<k:=by have:=of_decide_eq_true hpos;omega
      obtain⟨j,rfl⟩:∃j,k=j+1:=⟨k - 1,by omega⟩
      have ew:IntKind.wrap .i64 (((j+1:Nat):Int) - 1)=(j:Int):=by rw[cj (by omega) (by omega)];omega
      rw[ew]
      refine⟨⟨by omega,by omega⟩,fun hb=>tail hk' _ rfl hb,fun hb=>?_⟩
      have e:=step _ rfl hb
      refine⟨fun h0=>⟨fun h2=>?_,fun h2=>?_⟩,fun h0=>?_⟩
      ·rw[e,h0,cond_true,h2];exact⟨rfl,rfl⟩
      · rw[e,h0,cond_true,h2,cond_false]
        first
        |(exfalso;omega)
        |exact ih (j+1+1) _ (by omega) (by omega)
      · rw[e,h0,cond_false]
        first
        |(exfalso;omega)
        |exact ih (j+1+1) _ (by omega) (by omega)
    · have hp:k=0:=by have:=of_decide_eq_false hz;omega
      subst hp
      refine⟨fun hb=>tail hk' _ rfl hb,fun hb=>?_⟩
      have e:=step _ rfl hb
      refine⟨fun h0=>⟨fun h2=>?_,fun h2=>?_⟩,fun h0=>?_⟩
      ·rw[e,h0,cond_true,h2];exact⟨rfl,rfl⟩
      · rw[e,h0,cond_true,h2,cond_false]
        first
        |(exfalso;omega)
        |exact ih (0+1) _ (by omega) (by omega)
      · rw[e,h0,cond_false]
        first
        |(exfalso;omega)
        |exact ih (0+1) _ (by omega) (by omega)
  ·rw[bZ (l:=l) (by have:=of_decide_eq_false hge;omega)];exact⟨rfl,rfl⟩
theorem Di(hl:l.length≤maxLen):ag Tryz.prog 188 [.l .stat l] [] (.x (.b (lS l))) []:=by
 refine dg aV Tryz.func188 (.stop zTc1 {n:=68,fr:=[(0,.p (.lst .stat l)),(2,.p (.bool false)),(3,.i 0),(7,.p (.lst .stat l)),(8,.i l.length),(9,.i 0)],ck:=[],kn:=[2]}) fun Γ=>?_
 exact Qn l hl Γ l.length 0 0 (by omega) (by omega)
def uF:Ent:=(188,fun
 |[.c (.pd (.lst .stat l))],[]=>some (some (l.length≤maxLen),.x (.c (.pd (.bool (lS l)))),[])
 |_,_=>none)
theorem Iu:EntOk Tryz.prog uF:=entOk fun vs ck=>by
 unfold uF;dsimp only;split
 ·rename_i l;exact entS fun hp=>Di l hp
 ·exact entN
theorem GE(i:Int):ag Tryz.prog 161 [.l .stat l,.i i] [] (.x (.c (.fn (.func 216) [] [.loc 1 0,.loc 0 0]))) [.cells [.pd (.lst .stat l)] 24,.cells [SC.i i] 3]:=by
 refine dg aV Tryz.func161 (.ret (.x (.c (.fn (.func 216) [] [.loc 1 0,.loc 0 0]))) [.cells [.pd (.lst .stat l)] 24,.cells [.i i] 3]) fun Γ=>?_
 exact⟨rfl,rfl⟩
def uj:Ent:=(161,fun
 |[.c (.pd (.lst .stat l)),.c (.pd (.int .i64 i))],[]=>some (none,.x (.c (.fn (.func 216) [] [.loc 1 0,.loc 0 0])),[.cells [.pd (.lst .stat l)] 24,.cells [.pd (.int .i64 i)] 3])
 |_,_=>none)
theorem A8:EntOk Tryz.prog uj:=entOk fun vs ck=>by
 unfold uj;dsimp only;split
 ·rename_i l i;exact entS fun hp=>GE l i
 ·exact entN
def tT:Cfg:=⟨aX,[uM,uF,uj]⟩
theorem o6:ah Tryz.prog tT.tab:=(ah.cons IA (ah.cons Iu (ah.cons A8 ah.nil)))
def oL (s x : Ev.Stat) : Bool := s.kind == 3 && (a7 x.kind || x.kind == 4)
def eu (l : List Ev.Stat) (xs : List Int) : Nat := (xs.filter fun y => !a7 (ETy.get .stat l y.toNat).kind).length
def fR (l : List Ev.Stat) (s : Ev.Stat) (xs : List Int) : Bool := xs.all fun y => !oL s (ETy.get .stat l y.toNat)
def tu (l : List Ev.Stat) (k : Nat) : Bool :=
 fR l (ETy.get .stat l k) (bC l k) && (bif (ETy.get .stat l k).kind == 2 || (ETy.get .stat l k).kind == 3 then !(eu l (bC l k) == 0) else (bC l k).length == 0)
def dZ (l : List Ev.Stat) : Nat → Nat → Bool
 | 0, _ => true
 | n + 1, k => tu l k && dZ l n (k + 1)
def cm (l : List Ev.Stat) : Bool := lS l && dZ l l.length 0
theorem Jy (l : List Ev.Stat) (pre : List Int) (x : Int) : eu l (pre ++ [x]) = eu l pre + (if a7 (ETy.get .stat l x.toNat).kind = true then 0 else 1) := by
 unfold eu
 rw [List.filter_append, List.length_append]
 cases h : a7 (ETy.get .stat l x.toNat).kind <;> simp [h]
theorem MH (l : List Ev.Stat) (pre : List Int) : eu l pre ≤ pre.length := List.length_filter_le _ _
theorem FR (l : List Ev.Stat) (s : Ev.Stat) (pre : List Int) (x : Int) : fR l s (pre ++ [x]) = (fR l s pre && !oL s (ETy.get .stat l x.toNat)) := by
 unfold fR; simp
theorem vk (l : List Ev.Stat) (e : Nat) : ∀ n k, (eF l e n k).length ≤ n
 | 0, _ => Nat.le_refl _
 | n + 1, k => by
   rw [eF]; split
   · have := vk l e n (endM l k); simp; omega
   · simp
theorem qH (l : List Ev.Stat) (i : Nat) : (bC l i).length ≤ l.length := vk _ _ _ _
theorem MX (l : List Ev.Stat) (s : Ev.Stat) (hl : l.length ≤ maxLen) (k : Nat) (lp : Nat) (pre : List Int) (y : Int) (Γ : Ctx) (hds : Γ.ds = []) (hy : 0 ≤ y ∧ y < (l.length : Int)) (hg : fR l s pre = true) (hlen : pre.length < l.length) :
 J Tryz.prog ⟨119, some lp⟩ (aB Tryz.f119) Γ (fun v ck => (v = .x (.b true) ∧ fR l s (pre ++ [y]) = true ∧ ck = (fun pre => [.cells [.pd (.lst .stat l)] 24, .cells [.pd (.bool false)] 4, .cells [.pd (.str s.name), SC.i s.kind, SC.i s.depth, .pd (.str s.initial), .pd (.lst .deed s.entry), .pd (.lst .deed s.leave)] 57, .cells [SC.i (pre.length : Int)] 3, .cells [SC.i (eu l pre : Int)] 3, .dead, .dead]) (pre ++ [y])) ∨ (v = .x (.b false) ∧ fR l s (pre ++ [y]) = false ∧ ck = (fun pre => [.cells [.pd (.lst .stat l)] 24, .cells [.pd (.bool false)] 4, .cells [.pd (.str s.name), SC.i s.kind, SC.i s.depth, .pd (.str s.initial), .pd (.lst .deed s.entry), .pd (.lst .deed s.leave)] 57, .cells [SC.i (pre.length : Int)] 3, .cells [SC.i (eu l pre : Int)] 3, .dead, .dead]) (pre ++ [y]))) [.code ([1, 1, 0, 1, 0, 0, 1, 1, 0, 0, 1, 1, 0, 1, 0] ++ [1])]
  { n := 62, fr := bJ 7 (.x (.i y)) (bJ 21 (.x (.i y)) [(1, .x (.c (.loc 0 0))), (2, .x (.c (.loc 1 0))), (11, .x (.l .stat l)), (12, .x (.i (l.length : Int))), (13, .x (.i (k : Int))), (4, .x (.c (.loc 2 0))), (5, .x (.c (.loc 3 0))), (6, .x (.c (.loc 4 0))), (20, .x (.c (.fn (.func 216) [] [.pd (.ref .int (k : Int) 0), .pd (.ref .stats l 0)])))]), ck := [.cells [.pd (.lst .stat l)] 24, .cells [.pd (.bool false)] 4, .cells [.pd (.str s.name), SC.i s.kind, SC.i s.depth, .pd (.str s.initial), .pd (.lst .deed s.entry), .pd (.lst .deed s.leave)] 57, .cells [SC.i (pre.length : Int)] 3, .cells [SC.i (eu l pre : Int)] 3, .dead, .dead], m := ([.cells [.pd (.lst .stat l)] 24, .cells [.pd (.bool false)] 4, .cells [.pd (.str s.name), SC.i s.kind, SC.i s.depth, .pd (.str s.initial), .pd (.lst .deed s.entry), .pd (.lst .deed s.leave)] 57, .cells [SC.i (pre.length : Int)] 3, .cells [SC.i (eu l pre : Int)] 3, .dead, .dead] : List Chunk).length } := by
 obtain ⟨x, rfl⟩ := Int.eq_ofNat_of_zero_le hy.1
 have hx : x < l.length := by omega
 have hm := hl
 have e1 : ((pre ++ [(x : Int)]).length : Int) = IntKind.wrap .i64 ((pre.length : Int) + 1) := by
  rw [ba (aK hlen hl)]; simp
 have e2 : ∀ b, a7 (ETy.get .stat l x).kind = b → (eu l (pre ++ [(x : Int)]) : Int) = (if b = true then (eu l pre : Int) else IntKind.wrap .i64 ((eu l pre : Int) + 1)) := fun b hb => by
  rw [ba (aK (Nat.lt_of_le_of_lt (MH l pre) hlen) hl), Jy, Int.toNat_natCast, hb]
  cases b <;> simp
 have e3 : fR l s (pre ++ [(x : Int)]) = !oL s (ETy.get .stat l x) := by rw [FR, hg, Int.toNat_natCast]; rfl
 generalize hc : (pre.length : Int) = c at *
 generalize hr : (eu l pre : Int) = r at *
 show J Tryz.prog ⟨119, some lp⟩ (aB Tryz.f119) Γ _ [.code [1, 1, 0, 1, 0, 0, 1, 1, 0, 0, 1, 1, 0, 1, 0, 1]] { n := 62, fr := [(1, .x (.c (.loc 0 0))), (2, .x (.c (.loc 1 0))), (11, .x (.l .stat l)), (12, .x (.i (l.length : Int))), (13, .x (.i (k : Int))), (4, .x (.c (.loc 2 0))), (5, .x (.c (.loc 3 0))), (6, .x (.c (.loc 4 0))), (20, .x (.c (.fn (.func 216) [] [.pd (.ref .int (k : Int) 0), .pd (.ref .stats l 0)]))), (21, .x (.i (x : Int))), (7, .x (.i (x : Int)))], ck := [.cells [.pd (.lst .stat l)] 24, .cells [.pd (.bool false)] 4, .cells [.pd (.str s.name), SC.i s.kind, SC.i s.depth, .pd (.str s.initial), .pd (.lst .deed s.entry), .pd (.lst .deed s.leave)] 57, .cells [SC.i c] 3, .cells [SC.i r] 3, .dead, .dead], m := 7 }
 refine J.goR (cfg := tT) o6 (fn := Rz Tryz.f119) (by kernel_rfl) 1000 (t := (.need (inRg x l.length) (.ite (!a7 (Stat.kind (ETy.get .stat l x))) (.need ((s.kind == (3 : Int)) = true → (0 : Int) ≤ (x : Int) ∧ (x : Int) < (l.length : Int)) (.need ((s.kind == (3 : Int)) = true ∧ a7 (Stat.kind (ETy.get .stat l x)) = false → (0 : Int) ≤ (x : Int) ∧ (x : Int) < (l.length : Int)) (.ite (s.kind == (3 : Int) && (a7 (Stat.kind (ETy.get .stat l x)) || Stat.kind (ETy.get .stat l x) == (4 : Int))) (.stop [.code [1, 1, 0, 1, 0, 0, 1, 1, 0, 0, 1, 1, 0, 1, 0, 1, 0, 1, 1, 1, 0, 1], .inBlock 3] { n := 62, fr := [(2, .x (.c (.loc 1 0)))], ck := [.cells [.pd (.lst .stat l)] 24, .cells [.pd (.bool false)] 4, .cells [.pd (.str s.name), .i s.kind, .i s.depth, .pd (.str s.initial), .pd (.lst .deed s.entry), .pd (.lst .deed s.leave)] 57, .cells [.i (IntKind.wrap .i64 (c + (1 : Int)))] 3, .cells [.i (IntKind.wrap .i64 (r + (1 : Int)))] 3, .dead, .dead], m := 7 }) (.stop [] { n := 62, fr := [(2, .x (.c (.loc 1 0)))], ck := [.cells [.pd (.lst .stat l)] 24, .cells [.pd (.bool false)] 4, .cells [.pd (.str s.name), .i s.kind, .i s.depth, .pd (.str s.initial), .pd (.lst .deed s.entry), .pd (.lst .deed s.leave)] 57, .cells [.i (IntKind.wrap .i64 (c + (1 : Int)))] 3, .cells [.i (IntKind.wrap .i64 (r + (1 : Int)))] 3, .dead, .dead], m := 7 })))) (.need ((s.kind == (3 : Int)) = true → (0 : Int) ≤ (x : Int) ∧ (x : Int) < (l.length : Int)) (.need ((s.kind == (3 : Int)) = true ∧ a7 (Stat.kind (ETy.get .stat l x)) = false → (0 : Int) ≤ (x : Int) ∧ (x : Int) < (l.length : Int)) (.ite (s.kind == (3 : Int) && (a7 (Stat.kind (ETy.get .stat l x)) || Stat.kind (ETy.get .stat l x) == (4 : Int))) (.stop [.code [1, 1, 0, 1, 0, 0, 1, 1, 0, 0, 1, 1, 0, 1, 0, 1, 0, 1, 1, 1, 0, 1], .inBlock 3] { n := 62, fr := [(2, .x (.c (.loc 1 0)))], ck := [.cells [.pd (.lst .stat l)] 24, .cells [.pd (.bool false)] 4, .cells [.pd (.str s.name), .i s.kind, .i s.depth, .pd (.str s.initial), .pd (.lst .deed s.entry), .pd (.lst .deed s.leave)] 57, .cells [.i (IntKind.wrap .i64 (c + (1 : Int)))] 3, .cells [.i r] 3, .dead, .dead], m := 7 }) (.stop [] { n := 62, fr := [(2, .x (.c (.loc 1 0)))], ck := [.cells [.pd (.lst .stat l)] 24, .cells [.pd (.bool false)] 4, .cells [.pd (.str s.name), .i s.kind, .i s.depth, .pd (.str s.initial), .pd (.lst .deed s.entry), .pd (.lst .deed s.leave)] 57, .cells [.i (IntKind.wrap .i64 (c + (1 : Int)))] 3, .cells [.i r] 3, .dead, .dead], m := 7 }))))))) (by kernel_rfl) ?_
 have hb : (0 : Int) ≤ (x : Int) ∧ (x : Int) < (l.length : Int) := ⟨by omega, by omega⟩
 have hck : ∀ b, a7 (ETy.get .stat l x).kind = b → (fun pre : List Int => ([.cells [.pd (.lst .stat l)] 24, .cells [.pd (.bool false)] 4, .cells [.pd (.str s.name), SC.i s.kind, SC.i s.depth, .pd (.str s.initial), .pd (.lst .deed s.entry), .pd (.lst .deed s.leave)] 57, .cells [SC.i (pre.length : Int)] 3, .cells [SC.i (eu l pre : Int)] 3, .dead, .dead] : List Chunk)) (pre ++ [(x : Int)]) = [.cells [.pd (.lst .stat l)] 24, .cells [.pd (.bool false)] 4, .cells [.pd (.str s.name), SC.i s.kind, SC.i s.depth, .pd (.str s.initial), .pd (.lst .deed s.entry), .pd (.lst .deed s.leave)] 57, .cells [SC.i (IntKind.wrap .i64 (c + 1))] 3, .cells [SC.i (if b = true then r else IntKind.wrap .i64 (r + 1))] 3, .dead, .dead] := fun b hb => by
  show [_, _, _, Chunk.cells [SC.i ((pre ++ [(x : Int)]).length : Int)] _, Chunk.cells [SC.i (eu l (pre ++ [(x : Int)]) : Int)] _, _, _] = _
  rw [e1, e2 b hb]
 refine ⟨hb, fun h1 => ⟨fun _ => hb, fun _ => hb, fun h2 => ?_, fun h2 => ?_⟩, fun h1 => ⟨fun _ => hb, fun _ => hb, fun h2 => ?_, fun h2 => ?_⟩⟩
 · refine J.roundRet hds (by kernel_rfl) (.inr ⟨rfl, by rw [e3]; exact congrArg not h2, ?_⟩)
   rw [hck false (by simpa using h1)]; rfl
 · refine J.roundEnd hds (.inl ⟨rfl, by rw [e3]; exact congrArg not h2, ?_⟩)
   rw [hck false (by simpa using h1)]; rfl
 · refine J.roundRet hds (by kernel_rfl) (.inr ⟨rfl, by rw [e3]; exact congrArg not h2, ?_⟩)
   rw [hck true (by simpa using h1)]; rfl
 · refine J.roundEnd hds (.inl ⟨rfl, by rw [e3]; exact congrArg not h2, ?_⟩)
   rw [hck true (by simpa using h1)]; rfl
theorem Qi (l : List Ev.Stat) (hl : l.length ≤ maxLen) : ∀ (n k : Nat) (Γ : Ctx), l.length - k = n → k ≤ l.length →
 J Tryz.prog 119 (aB Tryz.f119) Γ (Eq2 (.x (.b (dZ l n k))) []) [.code [1, 1, 0, 1, 0, 0], .inLoop [1, 1, 0, 1, 0, 0], .inBlock 0, .code [1, 1, 1]] ({ n := 62, fr := [(1, .x (.c (.loc 0 0))), (2, .x (.c (.loc 1 0))), (11, .p (.lst .stat l)), (12, .i l.length), (13, .i ((k : Int)))], ck := [.cells [.pd (.lst .stat l)] 24, .cells [.pd (.bool false)] 4] }) := by
 intro n
 induction n with
 | zero => ?_
 | succ n ih => ?_
 all_goals
  intro k Γ hn hk
  refine jg o6 Tryz.func119 (.ite (decide ((k : Int) < (l.length : Int))) (.need (inRg k l.length) (.stop [.code [1, 1, 0, 1, 0, 0, 1, 1, 0, 0, 1, 1, 0, 1, 0], .inBlock 2, .code [1, 1, 0, 1, 0, 0, 1, 1, 0, 0, 1, 1, 1], .inBlock 1, .code [1, 1, 0, 1, 0, 0, 1, 1, 1], .inLoop [1, 1, 0, 1, 0, 0], .inBlock 0, .code [1, 1, 1]] { n := 62, fr := [(1, .x (.c (.loc 0 0))), (2, .x (.c (.loc 1 0))), (11, .p (.lst .stat l)), (12, .i l.length), (13, .i k), (4, .x (.c (.loc 2 0))), (5, .x (.c (.loc 3 0))), (6, .x (.c (.loc 4 0))), (20, .x (.c (.fn (.func 216) [] [.loc 6 0, .loc 5 0])))], ck := [.cells [.pd (.lst .stat l)] 24, .cells [.pd (.bool false)] 4, .cells [.pd (.str (Stat.name (ETy.get .stat l k))), .i (Stat.kind (ETy.get .stat l k)), .i (Stat.depth (ETy.get .stat l k)), .pd (.str (Stat.initial (ETy.get .stat l k))), .pd (.lst .deed (Stat.entry (ETy.get .stat l k))), .pd (.lst .deed (Stat.leave (ETy.get .stat l k)))] 57, .cells [.i 0] 3, .cells [.i 0] 3, .cells [.pd (.lst .stat l)] 24, .cells [.i k] 3] })) (.ret (.p (.bool true)) [])) ?_
  refine ⟨fun hlt => ?_, fun hge => ?_⟩
 · have := of_decide_eq_true hlt; omega
 · exact ⟨rfl, rfl⟩
 · have hk' : k < l.length := by omega
   refine ⟨⟨by omega, by omega⟩, ?_⟩
   have hkm := qH l k
   have rest : ∀ (s : Ev.Stat), s = ETy.get .stat l k → J Tryz.prog 119 (aB Tryz.f119) Γ (Eq2 (.x (.b (dZ l (n + 1) k))) []) [.code [1, 1, 0, 1, 0, 0, 1, 1, 0, 0, 1, 1, 0, 1, 0], .inBlock 2, .code [1, 1, 0, 1, 0, 0, 1, 1, 0, 0, 1, 1, 1], .inBlock 1, .code [1, 1, 0, 1, 0, 0, 1, 1, 1], .inLoop [1, 1, 0, 1, 0, 0], .inBlock 0, .code [1, 1, 1]] { n := 62, fr := [(1, .x (.c (.loc 0 0))), (2, .x (.c (.loc 1 0))), (11, .x (.l .stat l)), (12, .x (.i (l.length : Int))), (13, .x (.i (k : Int))), (4, .x (.c (.loc 2 0))), (5, .x (.c (.loc 3 0))), (6, .x (.c (.loc 4 0))), (20, .x (.c (.fn (.func 216) [] [.pd (.ref .int (k : Int) 0), .pd (.ref .stats l 0)])))], ck := [.cells [.pd (.lst .stat l)] 24, .cells [.pd (.bool false)] 4, .cells [.pd (.str s.name), SC.i s.kind, SC.i s.depth, .pd (.str s.initial), .pd (.lst .deed s.entry), .pd (.lst .deed s.leave)] 57, .cells [SC.i 0] 3, .cells [SC.i 0] 3, .dead, .dead] } := by
    intro s hs
    have hbadK : ∀ pre, pre <+: bC l k → fR l s pre = false → dZ l (n + 1) k = false := fun pre hp hb => by
     obtain ⟨q, hq⟩ := hp
     have : fR l s (bC l k) = false := by
      rw [← hq]; unfold fR at hb ⊢; rw [List.all_append, hb]; rfl
     rw [dZ, tu, ← hs, this]; rfl
    refine J.range (ok := fun x => 0 ≤ x ∧ x < (l.length : Int)) (xs := bC l k) (g := 20) (s := 21) (d := 7) Tryz.func119 (by kernel_rfl) (by kernel_rfl) (by kernel_rfl) (by kernel_rfl) rfl (Go.Proofs.enters_of Tryz.func216 (by kernel_rfl) rfl) (by kernel_rfl) (xC l k hk' hl)
     (fun pre => fR l s pre = true) (fun pre => fR l s pre = false) rfl (fun pre => [.cells [.pd (.lst .stat l)] 24, .cells [.pd (.bool false)] 4, .cells [.pd (.str s.name), SC.i s.kind, SC.i s.depth, .pd (.str s.initial), .pd (.lst .deed s.entry), .pd (.lst .deed s.leave)] 57, .cells [SC.i (pre.length : Int)] 3, .cells [SC.i (eu l pre : Int)] 3, .dead, .dead]) (fun pre => [.cells [.pd (.lst .stat l)] 24, .cells [.pd (.bool false)] 4, .cells [.pd (.str s.name), SC.i s.kind, SC.i s.depth, .pd (.str s.initial), .pd (.lst .deed s.entry), .pd (.lst .deed s.leave)] 57, .cells [SC.i (pre.length : Int)] 3, .cells [SC.i (eu l pre : Int)] 3, .dead, .dead]) rfl (fun _ => rfl) (fun _ => rfl) (fun _ => rfl) (fun _ => rfl)
     (fun lp pre x Γ hds hx _ hgd hlen => MX l s hl k lp pre x Γ hds hx hgd (Nat.lt_of_lt_of_le hlen hkm)) (fun hgd Γ' => ?_) (fun pre hp hb => ⟨[.c (.pd (.bool false))], by kernel_rfl, ?_, by kernel_rfl⟩)
    · have hgd' : fR l s (bC l k) = true := hgd
      have hok : dZ l (n + 1) k = ((bif s.kind == 2 || s.kind == 3 then !((eu l (bC l k) : Int) == 0) else !decide (((bC l k).length : Int) > 0)) && dZ l n (k + 1)) := by
       rw [dZ, tu, ← hs, hgd', Bool.true_and]
       congr 1
       cases (s.kind == 2 || s.kind == 3)
       · rw [cond_false, cond_false, Bool.eq_iff_iff]; simp
       · rw [cond_true, cond_true, Bool.eq_iff_iff]; simp
      generalize ((bC l k).length : Int) = c at hok
      generalize (eu l (bC l k) : Int) = r at hok
      show J Tryz.prog 119 (aB Tryz.f119) Γ' _ _ { n := 62, fr := [(1, .x (.c (.loc 0 0))), (2, .x (.c (.loc 1 0))), (11, .x (.l .stat l)), (12, .x (.i (l.length : Int))), (13, .x (.i (k : Int))), (4, .x (.c (.loc 2 0))), (5, .x (.c (.loc 3 0))), (6, .x (.c (.loc 4 0))), (20, .x (.c (.fn (.func 216) [] [.pd (.ref .int (k : Int) 0), .pd (.ref .stats l 0)])))], ck := [.cells [.pd (.lst .stat l)] 24, .cells [.pd (.bool false)] 4, .cells [.pd (.str s.name), SC.i s.kind, SC.i s.depth, .pd (.str s.initial), .pd (.lst .deed s.entry), .pd (.lst .deed s.leave)] 57, .cells [SC.i c] 3, .cells [SC.i r] 3, .dead, .dead] }
      refine jg o6 Tryz.func119 (.ite (s.kind == (2 : Int)) (.ite (r == (0 : Int)) (.ret (.p (.bool false)) []) (.stop [.code [1, 1, 0, 1, 0, 0], .inLoop [1, 1, 0, 1, 0, 0], .inBlock 0, .code [1, 1, 1]] { n := 62, fr := [(1, .x (.c (.loc 0 0))), (2, .x (.c (.loc 1 0))), (11, .p (.lst .stat l)), (12, .i l.length), (13, .i (IntKind.wrap .i64 ((k : Int) + 1)))], ck := [.cells [.pd (.lst .stat l)] 24, .cells [.pd (.bool false)] 4] })) (.ite (s.kind == (3 : Int)) (.ite (r == (0 : Int)) (.ret (.p (.bool false)) []) (.stop [.code [1, 1, 0, 1, 0, 0], .inLoop [1, 1, 0, 1, 0, 0], .inBlock 0, .code [1, 1, 1]] { n := 62, fr := [(1, .x (.c (.loc 0 0))), (2, .x (.c (.loc 1 0))), (11, .p (.lst .stat l)), (12, .i l.length), (13, .i (IntKind.wrap .i64 ((k : Int) + 1)))], ck := [.cells [.pd (.lst .stat l)] 24, .cells [.pd (.bool false)] 4] })) (.ite (decide (c > (0 : Int))) (.ret (.p (.bool false)) []) (.stop [.code [1, 1, 0, 1, 0, 0], .inLoop [1, 1, 0, 1, 0, 0], .inBlock 0, .code [1, 1, 1]] { n := 62, fr := [(1, .x (.c (.loc 0 0))), (2, .x (.c (.loc 1 0))), (11, .p (.lst .stat l)), (12, .i l.length), (13, .i (IntKind.wrap .i64 ((k : Int) + 1)))], ck := [.cells [.pd (.lst .stat l)] 24, .cells [.pd (.bool false)] 4] })))) ?_
      have hrec := ih (k + 1) Γ' (by omega) (by omega)
      rw [ba (aK hk' hl)]
      refine ⟨fun h2 => ⟨fun h0 => ?_, fun h0 => ?_⟩, fun h2 => ⟨fun h3 => ⟨fun h0 => ?_, fun h0 => ?_⟩, fun h3 => ⟨fun h0 => ?_, fun h0 => ?_⟩⟩⟩
      · have e : dZ l (n + 1) k = false := by rw [hok, h2, h0]; rfl
        rw [e]; exact ⟨rfl, rfl⟩
      · have e : dZ l (n + 1) k = dZ l n (k + 1) := by rw [hok, h2, h0]; rfl
        rw [e]; exact hrec
      · have e : dZ l (n + 1) k = false := by rw [hok, h2, h3, h0]; rfl
        rw [e]; exact ⟨rfl, rfl⟩
      · have e : dZ l (n + 1) k = dZ l n (k + 1) := by rw [hok, h2, h3, h0]; rfl
        rw [e]; exact hrec
      · have e : dZ l (n + 1) k = false := by rw [hok, h2, h3, h0]; rfl
        rw [e]; exact ⟨rfl, rfl⟩
      · have e : dZ l (n + 1) k = dZ l n (k + 1) := by rw [hok, h2, h3, h0]; rfl
        rw [e]; exact hrec
    · show _ = SV.x (.b (dZ l (n + 1) k))
      rw [hbadK pre hp hb]; kernel_rfl
   exact J.freeze aX [5, 6] (by kernel_rfl) (rest (ETy.get .stat l k) rfl)
 · have := of_decide_eq_false hge; omega
theorem Dh (l : List Ev.Stat) (hl : l.length ≤ maxLen) : ag Tryz.prog 119 [.l .stat l] [] (.x (.b (cm l))) [] := by
 refine dg o6 Tryz.func119 (.need (l.length ≤ maxLen) (.ite (!lS l) (.ret (.p (.bool false)) []) (.stop [.code [1, 1, 0, 1, 0, 0], .inLoop [1, 1, 0, 1, 0, 0], .inBlock 0, .code [1, 1, 1]] { n := 62, fr := [(1, .x (.c (.loc 0 0))), (2, .x (.c (.loc 1 0))), (11, .p (.lst .stat l)), (12, .i l.length), (13, .i 0)], ck := [.cells [.pd (.lst .stat l)] 24, .cells [.pd (.bool false)] 4] }))) fun Γ => ?_
 refine ⟨hl, fun h => ?_, fun h => ?_⟩
 · have h' : lS l = false := by simpa using h
   unfold cm; rw [h']; exact ⟨rfl, rfl⟩
 · have h' : lS l = true := by simpa using h
   unfold cm; rw [h', Bool.true_and]
   exact Qi l hl l.length 0 Γ (by omega) (by omega)
def oz : Ent := (119, fun
 | [.c (.pd (.lst .stat l))], [] => some (some (l.length ≤ maxLen), .x (.c (.pd (.bool (cm l)))), [])
 | _, _ => none)
theorem uz : EntOk Tryz.prog oz := entOk fun vs ck => by
 unfold oz; dsimp only; split
 · rename_i l; exact entS fun hp => Dh l hp
 · exact entN
end Go.Proofs.YtlhgnjmdopjpeaaGreatDoor

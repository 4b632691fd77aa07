/- Contracts: trees of states: past, the end of a state, children handed out. Conditions: none. Contracts: a state's children, handed out one by one. Conditions: none. Contracts: trees of states: their shape. Conditions: none. Contracts: trees of states: tree.Right. Conditions: none. -/
import Derived.Test.YtlhgnjmdopjpeaaGreatDoorVg
import Derived.Test.YtlhgnjmdopjpeaaGreatDoorKb
import Derived.RangeFuncNested
import Derived.RangeFuncBound
import Derived.RangeFuncCalls
import Derived.RangeFuncLeaves
import Derived.Shelf.Abstract
import Derived.Shelf.RegionOpen
import Derived.WalkKit
import Derived.OwnWalkIn
import Derived.TacticsInMore
import Derived.LoopNIn
import Derived.LoopIn
namespace Go.Proofs.YtlhgnjmdopjpeaaGreatDoor
open Go Go.Ev
set_option maxRecDepth 100000
variable(l:List Ev.Stat)(i:Nat)(k:Int)
def bg:Bool:=k==5||k==6
def gI(d:Int):List Ev.Stat→Nat
 |[]=>0
 |s::r=>bif decide (s.depth>d)then gI d r+1 else 0
def endM:Nat:=i+1+gI (ETy.get .stat l i).depth (l.drop (i+1))
def eL(l:List Ev.Stat)(e:Nat):Nat→Nat→List Int
 |0,_=>[]
 |n+1,k=>if k<e then(k:Int)::eL l e n (endM l k)else[]
def bB:List Int:=eL l (endM l i) l.length (i+1)
theorem Hv:ah Tryz.prog 189 [.i k] [] (.x (.b (bg k))) []:=by
 refine dg aX Tryz.func189 (.ret (.p (.bool (k==(5:Int)||k==(6:Int)))) []) fun Γ=>?_
 exact⟨rfl,rfl⟩
def ve:Ent:=(189,fun
 |[.c (.pd (.int .i64 k))],[]=>some (none,.x (.c (.pd (.bool (bg k)))),[])
 |_,_=>none)
theorem Jk:EntOk Tryz.prog ve:=entOk fun vs ck=>by
 unfold ve;dsimp only;split
 ·rename_i k;exact entS fun hp=>Hv k
 ·exact entN
theorem Br(d:Int):∀l:List Ev.Stat,gI d l≤l.length
 |[]=>av _
 | s::r=>by
   have:=Br d r
   rw[gI];cases decide (s.depth>d) <;> simp <;> omega
theorem dV{i:Nat}(h:i<l.length):i<endM l i∧endM l i≤l.length:=by
 have:=Br (ETy.get .stat l i).depth (l.drop (i+1))
 rw[List.length_drop]at this
 unfold endM;omega
abbrev zTa1:List PI:=[.code [1,1,0,0,0],.inLoop [1,1,0,0,0],.inBlock 0,.code [1,1,1]]
theorem PQ(hi:i<l.length)(hl:l.length≤maxLen)(Γ:Ctx):∀(n k:Nat),l.length - k≤n→k≤l.length →
 J Tryz.prog 74 (ar Tryz.f74) Γ (Eq2 (.x (.i ((k+gI (ETy.get .stat l i).depth (l.drop k):Nat):Int))) []) zTa1 ({n:=28,fr:=[(0,.p (.lst .stat l)),(1,.i i),(4,.i 0),(5,.i ((k:Int)))],ck:=[]}):=by
 intro n
 induction n with
 |zero=>?_
 |succ n ih=>?_
 all_goals
  intro k hn hk
  refine jg aX Tryz.func74 (.need ((((4,12,true,gk true (decide ((k:Int)<(l.length:Int))) none).2).2).2→(0:Int)≤(k:Int)∧(k:Int)<(l.length:Int)) (.need ((((4,12,true,gk true (decide ((k:Int)<(l.length:Int))) none).2).2).2→(0:Int)≤(i:Int)∧(i:Int)<(l.length:Int)) (.ite (decide ((k:Int)<(l.length:Int))&&decide (Stat.depth (ETy.get .stat l k)>Stat.depth (ETy.get .stat l i))) (.stop zTa1 {n:=28,fr:=[(0,.p (.lst .stat l)),(1,.i i),(4,.i 0),(5,.i (IntKind.wrap .i64 ((k:Int)+1)))],ck:=[]}) (.ret (.i k) [])))) ?_
  refine⟨fun h=>⟨by omega,by have:=of_decide_eq_true h;omega⟩,fun h=>⟨by omega,by omega⟩,fun h=>?_,fun h=>?_⟩
  · simp only[af,decide_eq_true_eq]at h
    have hk':k<l.length:=by omega
    rw[bx (t:=.stat) (l:=l) hk',gI]
    have h2:decide ((ETy.get .stat l k).depth>(ETy.get .stat l i).depth)=true:=decide_eq_true h.2
    rw[h2,cond_true,aZ (aG hk' hl),show k+(gI (ETy.get .stat l i).depth (l.drop (k+1))+1)=k+1+gI (ETy.get .stat l i).depth (l.drop (k+1))by omega]
    first
    |(exfalso;omega)
    |exact ih (k+1) (by omega) (by omega)
  · by_cases hk':k<l.length
    · rw [bx (t:=.stat) (l:=l) hk',gI]
      have h2:decide ((ETy.get .stat l k).depth>(ETy.get .stat l i).depth)=false:=by
       cases h3:decide ((ETy.get .stat l k).depth>(ETy.get .stat l i).depth)
       ·rfl
       · rw[decide_eq_true (show((k:Int)<(l.length:Int))by omega)]at h
         have h4:(true&&decide ((ETy.get .stat l k).depth>(ETy.get .stat l i).depth))=false:=h
         rw[h3]at h4;cases h4
      rw[h2,cond_false];exact⟨rfl,rfl⟩
    ·rw[bS (l:=l) (by omega),gI];exact⟨rfl,rfl⟩
theorem yB(hi:i<l.length)(hl:l.length≤maxLen):ah Tryz.prog 74 [.l .stat l,.i (i:Int)] [] (.x (.i (endM l i:Nat))) []:=by
 refine dg aX Tryz.func74 (.stop zTa1 {n:=28,fr:=[(0,.p (.lst .stat l)),(1,.i i),(4,.i 0),(5,.i (IntKind.wrap .i64 ((i:Int)+1)))],ck:=[]}) fun Γ=>?_
 rw[aZ (by have:=aG hi hl;omega)]
 exact PQ l i hi hl Γ l.length (i+1) (by omega) (by omega)
end Go.Proofs.YtlhgnjmdopjpeaaGreatDoor
namespace Go.Proofs.YtlhgnjmdopjpeaaGreatDoor
open Go Go.Ev Go.RowKit Go.Shelf
attribute [local go_sem] Oper.semAt_some
set_option maxRecDepth 100000
theorem KV{V:Vn}{w:World}(h:HIn V.H w):WOk (entry [] V w) [] V w :=
 {ext:=Fr.refl _ _,imm:=h,hle:=HLe.refl _,frz:=fun _ h=>.inl h,agr:=fun _ _=>⟨rfl,rfl⟩,own:=fun i c hc=>(by simp at hc),base:=fun i c b hc=>(by simp at hc),inj:=fun i j c d b hc=>(by simp at hc)}
variable(l:List Ev.Stat)(i:Nat)
theorem qD(hi:i<l.length)(hl:l.length≤maxLen){V:Vn}{w:World}{u:Value}(hH:HIn V.H w)(hT:hZ Tryz.prog V.H)(hu:PR V.H (.lst .stat l) u) :
 Calls Tryz.prog 74 #[u,.int .i64 (i:Int)] w fun e w'=>e = .returned (.int .i64 (endM l i:Nat))∧Below w.heap.size w w':=by
 refine(yB l i hi hl w V [u,.int .i64 (i:Int)] (KV hH) hT (.cons hu (.cons (PR.int _ _) .nil))).mono fun e w' hq=>?_
 obtain⟨v,V',rfl,hr,hw⟩:=hq
 have hr':PR V'.H (.int .i64 (endM l i:Nat)) v:=hr
 cases hr'
 exact⟨rfl,hw.ext.os,hw.ext.tape,hw.ext.output,hw.ext.size,fun k hk=>hw.ext.block k hk fun⟨j,c,hc,_⟩=>by simp at hc⟩
theorem P9(n lp b1 o1 b2 o2 i:Nat)(l:List Ev.Stat)(hi:i<l.length)(hl:l.length≤maxLen)(V:Vn)(hT:hZ Tryz.prog V.H)(u:Value)(hu:PR V.H (.lst .stat l) u)
 (c1 c2:Array Value) (e1 e2:TypeId) (f1 f2:Nat×Nat) (hb1:V.H b1=some (.cells c1 e1 f1)) (hb2:V.H b2=some (.cells c2 e2 f2)) (hc1:c1[o1]?=some (.int .i64 (i:Int))) (hc2:c2[o2]?=some u)
 (J Jx:List Int→World→Prop) (hab:∀s A B,J s A→A.grownBy B none→J s B)
 (hY:∀pre x W,0≤x→x<(l.length:Int)→J pre W→pre.length<(bB l i).length→YieldAt Fence.wide (n - 1) Tryz.prog lp #[.int .i64 x] W fun e W' =>
  (e = .returned (.bool true)∧J (pre++[x]) W'∧KpH V.H W W')∨(e = .returned (.bool false)∧Jx (pre++[x]) W'))
 (W:World) (hH:HIn V.H W) (h0:J [] W) :
 CallsIn Fence.wide n Tryz.prog 216 #[.func (.yield lp) #[] #[],.pointer (some ⟨b1,o1,none⟩),.pointer (some ⟨b2,o2,none⟩)] W fun e W'=>(∃v,e = .returned v) ∧
  ((∃ys,ys=bB l i∧J ys W')∨(∃pre,pre <+: bB l i∧Jx pre W')):=by
 have rd1:∀{X:World},HIn V.H X→X.cell? ⟨b1,o1,none⟩=some (.int .i64 (i:Int)):=fun h=>by
  have:=h _ _ hb1
  simp only[World.cell?,this];exact hc1
 have rd2:∀{X:World},HIn V.H X→X.cell? ⟨b2,o2,none⟩=some u:=fun h=>by
  have:=h _ _ hb2
  simp only[World.cell?,this];exact hc2
 refine callsIn_of_wp Tryz.func216 rfl trivial ?_ rfl
 have r1:=rd1 hH
 have r2:=rd2 hH
 simp only[Tryz.ntmps216,List.size_toArray,ax,bJ,Nat.reduceAdd,Nat.reduceSub,Array.replicate_succ,Array.replicate_zero,List.push_toArray,List.append_toArray,cd,bO]
 have hg:∀{A B:World},Below A.heap.size A B→A.grownBy B none:=fun h=>⟨h.os,h.tape,h.output,h.size,fun k hk _=>h.block k hk⟩
 have hHB:∀{A B:World},HIn V.H A→Below A.heap.size A B→HIn V.H B:=fun h hb k o hk=>(hb.block k (Array.getElem?_eq_some_iff.1 (h k o hk)).1).trans (h k o hk)
 have hHK:∀{A B:World},HIn V.H A→KpH V.H A B→HIn V.H B:=fun h hb k o hk=>(hb.same k (by rw[hk];simp)).trans (h k o hk)
 have hwr:wrap64 ((i:Int)+1)=(i:Int)+1:=by
  have:=aG hi hl
  unfold wrap64;omega
 gi_wp2
 rw[hwr]
 gi_loopw [4] (fun p wr=>∃(pre:List Int) (k f:Nat),p = .int .i64 (k:Int)∧i<k∧k≤l.length∧bB l i=pre++eL l (endM l i) f k∧endM l i≤k+f∧HIn V.H wr∧J pre wr)
  (fun p _=>endM l i - (intOf p).toNat)
 case atStart =>
  have:=(dV l hi).2
  exact⟨[],i+1,l.length,by simp,by omega,by omega,rfl,by omega,hH,h0⟩
 case round =>
  obtain⟨pre,k,f,rfl,hk1,hk2,hx,hf,hH2,hJs⟩:=hrel
  have q1:=rd1 hH2
  have q2:=rd2 hH2
  by_cases hlt:k<endM l i
  · obtain⟨f,rfl⟩:∃f',f=f'+1:=⟨f - 1,by omega⟩
    have hx':bB l i=pre++(k:Int)::eL l (endM l i) f (endM l k):=by rw[hx,eL,if_pos hlt]
    have hkl:k<l.length:=bW hlt (dV l hi).2
    have hlen:pre.length<(bB l i).length:=by rw[hx'];simp
    gi_wp2
    refine⟨trivial,fun h=>(by cases h),?_⟩
    refine(callsIn_wide.2 (qD l i hi hl hH2 hT hu)).mono ?_
    rintro e w1 ⟨rfl,hw1⟩
    have hH3:=hHB hH2 hw1
    have hJ3:=hab _ _ _ hJs (hg hw1)
    have hlt':((k:Int)<((endM l i:Nat):Int)):=by omega
    obtain⟨fn,tmps,assign,body,hy,hR⟩:=hY pre (k:Int) w1 (by omega) (by omega) hJ3 hlen
    gi_wp2
    refine⟨fun h=>(by cases h),hR.mono ?_⟩
    rintro e W3 (⟨rfl,hJ4,hk4⟩ |⟨rfl,hJx4⟩)
    · have hH4:=hHK hH3 hk4
      have q3:=rd1 hH4
      have q4:=rd2 hH4
      have hek:=dV l hkl
      gi_wp2
      refine⟨trivial,fun h=>(by cases h),?_⟩
      refine(callsIn_wide.2 (qD l k hkl hl hH4 hT hu)).mono ?_
      rintro e w5 ⟨rfl,hw5⟩
      gi_wp2
      go_roundw
      case rel=>exact⟨pre++[(k:Int)],endM l k,f,rfl,by omega,hek.2,by rw[hx'];simp,by omega,hHB hH4 hw5,hab _ _ _ hJ4 (hg hw5)⟩
      case measure =>
       show endM l i - ((endM l k:Nat):Int).toNat<endM l i - ((k:Nat):Int).toNat
       rw[ai,ai];omega
    · gi_wp2
      refine bodyPost_ret (results_none rfl _ _ _) rfl ?_
      exact⟨⟨_,rfl⟩,.inr ⟨pre++[(k:Int)],⟨eL l (endM l i) f (endM l k),by rw[hx'];simp⟩,hJx4⟩⟩
  · have hx':bB l i=pre:=by
     rw[hx]
     cases f with
     |zero=>simp[eL]
     |succ f=>rw[eL,if_neg hlt,aO]
    have hlt':¬((k:Int)<((endM l i:Nat):Int)):=by omega
    gi_wp2
    refine⟨trivial,fun h=>(by cases h),?_⟩
    refine(callsIn_wide.2 (qD l i hi hl hH2 hT hu)).mono ?_
    rintro e w1 ⟨rfl,hw1⟩
    gi_wp2
    go_end0
    exact⟨⟨_,rfl⟩,.inl ⟨pre,hx'.symm,hab _ _ _ hJs (hg hw1)⟩⟩
theorem yb(hi:i<l.length)(hl:l.length≤maxLen):Iter Tryz.prog 216 [.pd (.ref .int (i:Int) 0),.pd (.ref .stats l 0)] (fun x=>0≤x∧x<(l.length:Int)) (bB l i):=by
 intro n V w lb hH hT hcaps
 cases hcaps with |cons h1 hcaps=>cases hcaps with |cons h2 hcaps =>
  cases hcaps
  have h1':PR V.H (.ref .int (i:Int) 0) _:=h1
  have h2':PR V.H (.ref .stats l 0) _:=h2
  cases h1' with |ref _ _ _ b1 o1 c1 e1 f1 hb1 hs1 g1 =>
  cases h2' with |ref _ _ _ b2 o2 c2 e2 f2 hb2 hs2 g2 =>
  have hc1:c1[o1+0]?=some (.int .i64 (i:Int)):=by
   have hlt:o1+0<c1.size:=by have:o1+1≤c1.size:=hs1;omega
   have h3:=g1 0 (.int .i64 (i:Int)) rfl c1[o1+0] (Array.getElem?_eq_getElem hlt)
   rw[Array.getElem?_eq_getElem hlt]
   generalize c1[o1+0]=x at h3 ⊢
   cases h3;rfl
  have hlt2:o2+0<c2.size:=by have:o2+1≤c2.size:=hs2;omega
  have hu:=g2 0 (.lst .stat l) rfl c2[o2+0] (Array.getElem?_eq_getElem hlt2)
  intro lp J Jx W hB hJ hJx hY h0
  have hHW:HIn V.H W:=fun k o hk=>(hB.block k (Array.getElem?_eq_some_iff.1 (hH k o hk)).1).trans (hH k o hk)
  refine(P9 n lp b1 (o1+0) b2 (o2+0) i l hi hl V hT _ hu c1 c2 e1 e2 f1 f2 hb1 hb2 hc1 (Array.getElem?_eq_getElem hlt2) (fun ys X=>∃zs,zs.map (·.1)=ys∧J zs X) (fun ys X=>∃zs,zs.map (·.1)=ys∧Jx zs X) (by rintro s A B ⟨zs,q1,q2⟩ hg;exact⟨zs,q1,hJ zs A B none q2 hg fun r e=>(by cases e)⟩) ?_ W hHW (by exact⟨[],rfl,h0⟩)).mono ?_
  · intro pre x X hx0 hx1 ⟨zs,q1,q2⟩ hlen
    obtain⟨fn,tmps,assign,body,hy,hR⟩:=hY zs ⟨x,hx0,hx1⟩ X q2 (by rw[←q1,aP]at hlen;exact hlen)
    refine⟨fn,tmps,assign,body,hy,hR.mono fun e X2 hq=>?_⟩
    rcases hq with⟨e1,e2,e3⟩ |⟨e1,e2⟩
    ·exact .inl ⟨e1,⟨_,by rw[bC,q1];rfl,e2⟩,e3⟩
    ·exact .inr ⟨e1,_,by rw[bC,q1];rfl,e2⟩
  · rintro e X2 ⟨hv,hq⟩
    refine⟨hv,?_⟩
    rcases hq with⟨ys,e1,zs,e2,e3⟩ |⟨pre,e1,zs,e2,e3⟩
    ·exact .inl ⟨zs,e2.trans e1,e3⟩
    ·exact .inr ⟨zs,by show zs.map (·.1) <+: _;rw[e2];exact e1,e3⟩
end Go.Proofs.YtlhgnjmdopjpeaaGreatDoor
namespace Go.Proofs.YtlhgnjmdopjpeaaGreatDoor
open Go Go.Ev
set_option maxRecDepth 100000
def te(a:Int)(s:Ev.Stat):Bool:=decide (s.depth<0)||decide (s.depth>IntKind.wrap .i64 (a+1))||decide (s.depth≥6)||decide (s.kind<1)||decide (s.kind>6)
def fQ:Int→Int→List Ev.Stat→Option Int
 |_,r,[]=>some r
 |a,r,s::q=>bif te a s then none else bif s.depth==0 then(bif s.kind != 2 then none else fQ s.depth (IntKind.wrap .i64 (r+1)) q)else fQ s.depth r q
def rB(n:Nat):Option Int→Bool
 |none=>false
 |some r=>decide (r≤4)&&decide ((n:Int)>0)&&decide ((n:Int)≤40)
variable(l:List Ev.Stat)
def l1:Bool:=rB l.length (fQ (-1) 0 l)
def jG:Nat→Int
 |0=>-1
 |k+1=>(ETy.get .stat l k).depth
abbrev zTc1:List PI:=[.code [1,1,0,1,0,0],.inLoop [1,1,0,1,0,0],.inBlock 0,.code [1,1,1]]
theorem QX (hl:l.length≤maxLen) (Γ:Ctx):∀(n k:Nat) (r:Int),l.length - k≤n→k≤l.length →
 J Tryz.prog 188 (ar Tryz.f188) Γ (Eq2 (.x (.b (rB l.length (fQ (jG l k) r (l.drop k))))) []) zTc1 ({n:=68,fr:=[(0,.p (.lst .stat l)),(2,.p (.bool false)),(3,.i r),(7,.p (.lst .stat l)),(8,.i l.length),(9,.i ((k:Int)))],ck:=[],kn:=[2]}):=by
 intro n
 induction n with
 |zero=>?_
 |succ n ih=>?_
 all_goals
  intro k r hn hk
  refine jg aX Tryz.func188 (let x3:Tree:=(.ret (.p (.bool false)) []);let x2:List PI:=zTc1;let x8:=(IntKind.wrap .i64 ((k:Int)+1));let x1:Tree:=(.ite (Stat.depth (ETy.get .stat l k)==(0:Int)) (.ite (Stat.kind (ETy.get .stat l k) != (2:Int)) x3 (.stop x2 {n:=68,fr:=[(0,.p (.lst .stat l)),(2,.p (.bool false)),(3,.i (IntKind.wrap .i64 (r+(1:Int)))),(7,.p (.lst .stat l)),(8,.i l.length),(9,.i x8)],ck:=[],kn:=[2]})) (.stop x2 {n:=68,fr:=[(0,.p (.lst .stat l)),(2,.p (.bool false)),(3,.i r),(7,.p (.lst .stat l)),(8,.i l.length),(9,.i x8)],ck:=[],kn:=[2]}));let x4:=(Stat.depth (ETy.get .stat l k)<(0:Int));let x5:=(Stat.depth (ETy.get .stat l k)≥(6:Int));let x6:=(Stat.kind (ETy.get .stat l k)<(1:Int));let x7:=(Stat.kind (ETy.get .stat l k)>(6:Int));.ite (decide ((k:Int)<(l.length:Int))) (.need (inRg k l.length) (.ite (decide ((k:Int)>0)) (.need ((0:Int)≤IntKind.wrap .i64 ((k:Int) - 1)∧IntKind.wrap .i64 ((k:Int) - 1)<(l.length:Int)) (.ite (decide x4||decide (Stat.depth (ETy.get .stat l k)>IntKind.wrap .i64 (Stat.depth (ETy.get .stat l ((IntKind.wrap .i64 ((k:Int) - 1)).toNat))+(1:Int)))||decide x5||decide x6||decide x7) x3 x1)) (.ite (decide x4||decide (Stat.depth (ETy.get .stat l k)>IntKind.wrap .i64 ((-1:Int)+1))||decide x5||decide x6||decide x7) x3 x1))) (.ret (.p (.bool (decide (r≤(4:Int))&&decide ((l.length:Int)>0)&&decide ((l.length:Int)≤40)))) [])) ?_
  conv=>zeta
  have tail:∀(hk':k<l.length) (b:Bool),b=te (jG l k) (ETy.get .stat l k)→(b=true→SV.x (.p (.bool false)) = .x (.b (rB l.length (fQ (jG l k) r (l.drop k))))∧([]:List Chunk)=[]):=fun hk' b hb h=>by
   rw[bx (t:=.stat) (l:=l) hk',fQ,←hb,h];exact⟨rfl,rfl⟩
  refine⟨fun hlt=>?_,fun hge=>?_⟩
  · have hk':k<l.length:=by have:=of_decide_eq_true hlt;omega
    have hm:=aG hk' hl
    have step:∀(b:Bool),b=te (jG l k) (ETy.get .stat l k)→b=false→fQ (jG l k) r (l.drop k)=bif (ETy.get .stat l k).depth==0 then(bif (ETy.get .stat l k).kind != 2 then none else fQ (ETy.get .stat l k).depth (IntKind.wrap .i64 (r+1)) (l.drop (k+1)))else fQ (ETy.get .stat l k).depth r (l.drop (k+1)):=fun b hb h=>by
     rw[bx (t:=.stat) (l:=l) hk',fQ,←hb,h];rfl
    rw[aZ hm]
    refine⟨by omega,fun hpos=>?_,fun hz=>?_⟩
    · have hp:0<k:=by have:=of_decide_eq_true hpos;omega
      obtain⟨j,rfl⟩:∃j,k=j+1:=⟨k - 1,by omega⟩
      have ew:IntKind.wrap .i64 (((j+1:Nat):Int) - 1)=(j:Int):=by rw[cg (by omega) (by omega)];omega
      rw[ew]
      refine⟨⟨by omega,by omega⟩,fun hb=>tail hk' _ rfl hb,fun hb=>?_⟩
      have e:=step _ rfl hb
      refine⟨fun h0=>⟨fun h2=>?_,fun h2=>?_⟩,fun h0=>?_⟩
      ·rw[e,h0,cond_true,h2];exact⟨rfl,rfl⟩
      · rw[e,h0,cond_true,h2,cond_false]
        first
        |(exfalso;omega)
        |exact ih (j+1+1) _ (by omega) (by omega)
      · rw[e,h0,cond_false]
        first
        |(exfalso;omega)
        |exact ih (j+1+1) _ (by omega) (by omega)
    · have hp:k=0:=by have:=of_decide_eq_false hz;omega
      subst hp
      refine⟨fun hb=>tail hk' _ rfl hb,fun hb=>?_⟩
      have e:=step _ rfl hb
      refine⟨fun h0=>⟨fun h2=>?_,fun h2=>?_⟩,fun h0=>?_⟩
      ·rw[e,h0,cond_true,h2];exact⟨rfl,rfl⟩
      · rw[e,h0,cond_true,h2,cond_false]
        first
        |(exfalso;omega)
        |exact ih (0+1) _ (by omega) (by omega)
      · rw[e,h0,cond_false]
        first
        |(exfalso;omega)
        |exact ih (0+1) _ (by omega) (by omega)
  ·rw[bS (l:=l) (by have:=of_decide_eq_false hge;omega)];exact⟨rfl,rfl⟩
theorem D2(hl:l.length≤maxLen):ah Tryz.prog 188 [.l .stat l] [] (.x (.b (l1 l))) []:=by
 refine dg aX Tryz.func188 (.stop zTc1 {n:=68,fr:=[(0,.p (.lst .stat l)),(2,.p (.bool false)),(3,.i 0),(7,.p (.lst .stat l)),(8,.i l.length),(9,.i 0)],ck:=[],kn:=[2]}) fun Γ=>?_
 exact QX l hl Γ l.length 0 0 (by omega) (by omega)
def uX:Ent:=(188,fun
 |[.c (.pd (.lst .stat l))],[]=>some (some (l.length≤maxLen),.x (.c (.pd (.bool (l1 l)))),[])
 |_,_=>none)
theorem Jg:EntOk Tryz.prog uX:=entOk fun vs ck=>by
 unfold uX;dsimp only;split
 ·rename_i l;exact entS fun hp=>D2 l hp
 ·exact entN
theorem Hu(i:Int):ah Tryz.prog 161 [.l .stat l,.i i] [] (.x (.c (.fn (.func 216) [] [.loc 1 0,.loc 0 0]))) [.cells [.pd (.lst .stat l)] 24,.cells [SC.i i] 3]:=by
 refine dg aX Tryz.func161 (.ret (.x (.c (.fn (.func 216) [] [.loc 1 0,.loc 0 0]))) [.cells [.pd (.lst .stat l)] 24,.cells [.i i] 3]) fun Γ=>?_
 exact⟨rfl,rfl⟩
def uE:Ent:=(161,fun
 |[.c (.pd (.lst .stat l)),.c (.pd (.int .i64 i))],[]=>some (none,.x (.c (.fn (.func 216) [] [.loc 1 0,.loc 0 0])),[.cells [.pd (.lst .stat l)] 24,.cells [.pd (.int .i64 i)] 3])
 |_,_=>none)
theorem BB:EntOk Tryz.prog uE:=entOk fun vs ck=>by
 unfold uE;dsimp only;split
 ·rename_i l i;exact entS fun hp=>Hu l i
 ·exact entN
def uq:Cfg:=⟨aU,[ve,uX,uE]⟩
theorem pf:ag Tryz.prog uq.tab:=(ag.cons Jk (ag.cons Jg (ag.cons BB ag.nil)))
variable(l:List Ev.Stat)(s:Ev.Stat)(pre:List Int)(x:Int)(xs:List Int)
def oU(x:Ev.Stat):Bool:=s.kind==3&&(bg x.kind||x.kind==4)
def eC:Nat:=(xs.filter fun y=>!bg (ETy.get .stat l y.toNat).kind).length
def fY:Bool:=xs.all fun y=>!oU s (ETy.get .stat l y.toNat)
def tH(k:Nat):Bool :=
 fY l (ETy.get .stat l k) (bB l k)&&(bif (ETy.get .stat l k).kind==2||(ETy.get .stat l k).kind==3 then !(eC l (bB l k)==0)else(bB l k).length==0)
def eu(l:List Ev.Stat):Nat→Nat→Bool
 |0,_=>true
 |n+1,k=>tH l k&&eu l n (k+1)
def cn:Bool:=l1 l&&eu l l.length 0
theorem Ke:eC l (pre++[x])=eC l pre+(if bg (ETy.get .stat l x.toNat).kind=true then 0 else 1):=by
 unfold eC
 rw[cc,au]
 cases h:bg (ETy.get .stat l x.toNat).kind <;> simp[h]
theorem Nr:eC l pre≤pre.length:=aY _ _
theorem GG:fY l s (pre++[x])=(fY l s pre && !oU s (ETy.get .stat l x.toNat)):=by
 unfold fY;simp
theorem vB(l:List Ev.Stat)(e:Nat):∀n k,(eL l e n k).length≤n
 |0,_=>av _
 | n+1,k=>by
   rw[eL];split
   ·have:=vB l e n (endM l k);simp;omega
   ·simp
theorem qS(i:Nat):(bB l i).length≤l.length:=vB _ _ _ _
theorem NJ(hl:l.length≤maxLen)(k:Nat)(lp:Nat)(pre:List Int)(y:Int)(Γ:Ctx)(hds:Γ.ds=[])(hy:0≤y∧y<(l.length:Int))(hg:fY l s pre=true)(hlen:pre.length<l.length) :
 J Tryz.prog ⟨119,some lp⟩ (ar Tryz.f119) Γ (fun v ck=>(v = .x (.b true)∧fY l s (pre++[y])=true∧ck=(fun pre=>[.cells [.pd (.lst .stat l)] 24,.cells [.pd (.bool false)] 4,.cells [.pd (.str s.name),SC.i s.kind,SC.i s.depth,.pd (.str s.initial),.pd (.lst .deed s.entry),.pd (.lst .deed s.leave)] 57,.cells [SC.i (pre.length:Int)] 3,.cells [SC.i (eC l pre:Int)] 3,.dead,.dead]) (pre++[y]))∨(v = .x (.b false)∧fY l s (pre++[y])=false∧ck=(fun pre=>[.cells [.pd (.lst .stat l)] 24,.cells [.pd (.bool false)] 4,.cells [.pd (.str s.name),SC.i s.kind,SC.i s.depth,.pd (.str s.initial),.pd (.lst .deed s.entry),.pd (.lst .deed s.leave)] 57,.cells [SC.i (pre.length:Int)] 3,.cells [SC.i (eC l pre:Int)] 3,.dead,.dead]) (pre++[y]))) [.code ([1,1,0,1,0,0,1,1,0,0,1,1,0,1,0]++[1])]
  {n:=62,fr:=bH 7 (.x (.i y)) (bH 21 (.x (.i y)) [(1,.x (.c (.loc 0 0))),(2,.x (.c (.loc 1 0))),(11,.x (.l .stat l)),(12,.x (.i (l.length:Int))),(13,.x (.i (k:Int))),(4,.x (.c (.loc 2 0))),(5,.x (.c (.loc 3 0))),(6,.x (.c (.loc 4 0))),(20,.x (.c (.fn (.func 216) [] [.pd (.ref .int (k:Int) 0),.pd (.ref .stats l 0)])))]),ck:=[.cells [.pd (.lst .stat l)] 24,.cells [.pd (.bool false)] 4,.cells [.pd (.str s.name),SC.i s.kind,SC.i s.depth,.pd (.str s.initial),.pd (.lst .deed s.entry),.pd (.lst .deed s.leave)] 57,.cells [SC.i (pre.length:Int)] 3,.cells [SC.i (eC l pre:Int)] 3,.dead,.dead],m:=([.cells [.pd (.lst .stat l)] 24,.cells [.pd (.bool false)] 4,.cells [.pd (.str s.name),SC.i s.kind,SC.i s.depth,.pd (.str s.initial),.pd (.lst .deed s.entry),.pd (.lst .deed s.leave)] 57,.cells [SC.i (pre.length:Int)] 3,.cells [SC.i (eC l pre:Int)] 3,.dead,.dead]:List Chunk).length}:=by
 obtain⟨x,rfl⟩:=aA hy.1
 have hx:x<l.length:=by omega
 have hm:=hl
 have e1:((pre++[(x:Int)]).length:Int)=IntKind.wrap .i64 ((pre.length:Int)+1):=by
  rw[aZ (aG hlen hl)];simp
 have e2:∀b,bg (ETy.get .stat l x).kind=b→(eC l (pre++[(x:Int)]):Int)=(if b=true then(eC l pre:Int)else IntKind.wrap .i64 ((eC l pre:Int)+1)):=fun b hb=>by
  rw[aZ (aG (Nat.lt_of_le_of_lt (Nr l pre) hlen) hl),Ke,ai,hb]
  cases b <;> simp
 have e3:fY l s (pre++[(x:Int)]) = !oU s (ETy.get .stat l x):=by rw[GG,hg,ai];rfl
 generalize hc:(pre.length:Int)=c at *
 generalize hr:(eC l pre:Int)=r at *
 show J Tryz.prog ⟨119,some lp⟩ (ar Tryz.f119) Γ _ [.code [1,1,0,1,0,0,1,1,0,0,1,1,0,1,0,1]] {n:=62,fr:=[(1,.x (.c (.loc 0 0))),(2,.x (.c (.loc 1 0))),(11,.x (.l .stat l)),(12,.x (.i (l.length:Int))),(13,.x (.i (k:Int))),(4,.x (.c (.loc 2 0))),(5,.x (.c (.loc 3 0))),(6,.x (.c (.loc 4 0))),(20,.x (.c (.fn (.func 216) [] [.pd (.ref .int (k:Int) 0),.pd (.ref .stats l 0)]))),(21,.x (.i (x:Int))),(7,.x (.i (x:Int)))],ck:=[.cells [.pd (.lst .stat l)] 24,.cells [.pd (.bool false)] 4,.cells [.pd (.str s.name),SC.i s.kind,SC.i s.depth,.pd (.str s.initial),.pd (.lst .deed s.entry),.pd (.lst .deed s.leave)] 57,.cells [SC.i c] 3,.cells [SC.i r] 3,.dead,.dead],m:=7}
 refine J.goR (cfg:=uq) pf (fn:=R9 Tryz.f119) (by kernel_rfl) 1000 (t:=(.need (inRg x l.length) (.ite (!bg (Stat.kind (ETy.get .stat l x))) (.need ((s.kind==(3:Int))=true→(0:Int)≤(x:Int)∧(x:Int)<(l.length:Int)) (.need ((s.kind==(3:Int))=true∧bg (Stat.kind (ETy.get .stat l x))=false→(0:Int)≤(x:Int)∧(x:Int)<(l.length:Int)) (.ite (s.kind==(3:Int)&&(bg (Stat.kind (ETy.get .stat l x))||Stat.kind (ETy.get .stat l x)==(4:Int))) (.stop [.code [1,1,0,1,0,0,1,1,0,0,1,1,0,1,0,1,0,1,1,1,0,1],.inBlock 3] {n:=62,fr:=[(2,.x (.c (.loc 1 0)))],ck:=[.cells [.pd (.lst .stat l)] 24,.cells [.pd (.bool false)] 4,.cells [.pd (.str s.name),.i s.kind,.i s.depth,.pd (.str s.initial),.pd (.lst .deed s.entry),.pd (.lst .deed s.leave)] 57,.cells [.i (IntKind.wrap .i64 (c+(1:Int)))] 3,.cells [.i (IntKind.wrap .i64 (r+(1:Int)))] 3,.dead,.dead],m:=7}) (.stop [] {n:=62,fr:=[(2,.x (.c (.loc 1 0)))],ck:=[.cells [.pd (.lst .stat l)] 24,.cells [.pd (.bool false)] 4,.cells [.pd (.str s.name),.i s.kind,.i s.depth,.pd (.str s.initial),.pd (.lst .deed s.entry),.pd (.lst .deed s.leave)] 57,.cells [.i (IntKind.wrap .i64 (c+(1:Int)))] 3,.cells [.i (IntKind.wrap .i64 (r+(1:Int)))] 3,.dead,.dead],m:=7})))) (.need ((s.kind==(3:Int))=true→(0:Int)≤(x:Int)∧(x:Int)<(l.length:Int)) (.need ((s.kind==(3:Int))=true∧bg (Stat.kind (ETy.get .stat l x))=false→(0:Int)≤(x:Int)∧(x:Int)<(l.length:Int)) (.ite (s.kind==(3:Int)&&(bg (Stat.kind (ETy.get .stat l x))||Stat.kind (ETy.get .stat l x)==(4:Int))) (.stop [.code [1,1,0,1,0,0,1,1,0,0,1,1,0,1,0,1,0,1,1,1,0,1],.inBlock 3] {n:=62,fr:=[(2,.x (.c (.loc 1 0)))],ck:=[.cells [.pd (.lst .stat l)] 24,.cells [.pd (.bool false)] 4,.cells [.pd (.str s.name),.i s.kind,.i s.depth,.pd (.str s.initial),.pd (.lst .deed s.entry),.pd (.lst .deed s.leave)] 57,.cells [.i (IntKind.wrap .i64 (c+(1:Int)))] 3,.cells [.i r] 3,.dead,.dead],m:=7}) (.stop [] {n:=62,fr:=[(2,.x (.c (.loc 1 0)))],ck:=[.cells [.pd (.lst .stat l)] 24,.cells [.pd (.bool false)] 4,.cells [.pd (.str s.name),.i s.kind,.i s.depth,.pd (.str s.initial),.pd (.lst .deed s.entry),.pd (.lst .deed s.leave)] 57,.cells [.i (IntKind.wrap .i64 (c+(1:Int)))] 3,.cells [.i r] 3,.dead,.dead],m:=7}))))))) (by kernel_rfl) ?_
 have hb:(0:Int)≤(x:Int)∧(x:Int)<(l.length:Int):=⟨by omega,by omega⟩
 have hck:∀b,bg (ETy.get .stat l x).kind=b→(fun pre:List Int=>([.cells [.pd (.lst .stat l)] 24,.cells [.pd (.bool false)] 4,.cells [.pd (.str s.name),SC.i s.kind,SC.i s.depth,.pd (.str s.initial),.pd (.lst .deed s.entry),.pd (.lst .deed s.leave)] 57,.cells [SC.i (pre.length:Int)] 3,.cells [SC.i (eC l pre:Int)] 3,.dead,.dead]:List Chunk)) (pre++[(x:Int)])=[.cells [.pd (.lst .stat l)] 24,.cells [.pd (.bool false)] 4,.cells [.pd (.str s.name),SC.i s.kind,SC.i s.depth,.pd (.str s.initial),.pd (.lst .deed s.entry),.pd (.lst .deed s.leave)] 57,.cells [SC.i (IntKind.wrap .i64 (c+1))] 3,.cells [SC.i (if b=true then r else IntKind.wrap .i64 (r+1))] 3,.dead,.dead]:=fun b hb=>by
  show[_,_,_,Chunk.cells [SC.i ((pre++[(x:Int)]).length:Int)] _,Chunk.cells [SC.i (eC l (pre++[(x:Int)]):Int)] _,_,_]=_
  rw[e1,e2 b hb]
 refine⟨hb,fun h1=>⟨fun _=>hb,fun _=>hb,fun h2=>?_,fun h2=>?_⟩,fun h1=>⟨fun _=>hb,fun _=>hb,fun h2=>?_,fun h2=>?_⟩⟩
 · refine J.roundRet hds (by kernel_rfl) (.inr ⟨rfl,by rw[e3];exact congrArg not h2,?_⟩)
   rw[hck false (by simpa using h1)];rfl
 · refine J.roundEnd hds (.inl ⟨rfl,by rw[e3];exact congrArg not h2,?_⟩)
   rw[hck false (by simpa using h1)];rfl
 · refine J.roundRet hds (by kernel_rfl) (.inr ⟨rfl,by rw[e3];exact congrArg not h2,?_⟩)
   rw[hck true (by simpa using h1)];rfl
 · refine J.roundEnd hds (.inl ⟨rfl,by rw[e3];exact congrArg not h2,?_⟩)
   rw[hck true (by simpa using h1)];rfl
theorem QT (hl:l.length≤maxLen):∀(n k:Nat) (Γ:Ctx),l.length - k=n→k≤l.length →
 J Tryz.prog 119 (ar Tryz.f119) Γ (Eq2 (.x (.b (eu l n k))) []) [.code [1,1,0,1,0,0],.inLoop [1,1,0,1,0,0],.inBlock 0,.code [1,1,1]] ({n:=62,fr:=[(1,.x (.c (.loc 0 0))),(2,.x (.c (.loc 1 0))),(11,.p (.lst .stat l)),(12,.i l.length),(13,.i ((k:Int)))],ck:=[.cells [.pd (.lst .stat l)] 24,.cells [.pd (.bool false)] 4]}):=by
 intro n
 induction n with
 |zero=>?_
 |succ n ih=>?_
 all_goals
  intro k Γ hn hk
  refine jg pf Tryz.func119 (.ite (decide ((k:Int)<(l.length:Int))) (.need (inRg k l.length) (.stop [.code [1,1,0,1,0,0,1,1,0,0,1,1,0,1,0],.inBlock 2,.code [1,1,0,1,0,0,1,1,0,0,1,1,1],.inBlock 1,.code [1,1,0,1,0,0,1,1,1],.inLoop [1,1,0,1,0,0],.inBlock 0,.code [1,1,1]] {n:=62,fr:=[(1,.x (.c (.loc 0 0))),(2,.x (.c (.loc 1 0))),(11,.p (.lst .stat l)),(12,.i l.length),(13,.i k),(4,.x (.c (.loc 2 0))),(5,.x (.c (.loc 3 0))),(6,.x (.c (.loc 4 0))),(20,.x (.c (.fn (.func 216) [] [.loc 6 0,.loc 5 0])))],ck:=[.cells [.pd (.lst .stat l)] 24,.cells [.pd (.bool false)] 4,.cells [.pd (.str (Stat.name (ETy.get .stat l k))),.i (Stat.kind (ETy.get .stat l k)),.i (Stat.depth (ETy.get .stat l k)),.pd (.str (Stat.initial (ETy.get .stat l k))),.pd (.lst .deed (Stat.entry (ETy.get .stat l k))),.pd (.lst .deed (Stat.leave (ETy.get .stat l k)))] 57,.cells [.i 0] 3,.cells [.i 0] 3,.cells [.pd (.lst .stat l)] 24,.cells [.i k] 3]})) (.ret (.p (.bool true)) [])) ?_
  refine⟨fun hlt=>?_,fun hge=>?_⟩
 ·have:=of_decide_eq_true hlt;omega
 ·exact⟨rfl,rfl⟩
 · have hk':k<l.length:=by omega
   refine⟨⟨by omega,by omega⟩,?_⟩
   have hkm:=qS l k
   have rest:∀(s:Ev.Stat),s=ETy.get .stat l k→J Tryz.prog 119 (ar Tryz.f119) Γ (Eq2 (.x (.b (eu l (n+1) k))) []) [.code [1,1,0,1,0,0,1,1,0,0,1,1,0,1,0],.inBlock 2,.code [1,1,0,1,0,0,1,1,0,0,1,1,1],.inBlock 1,.code [1,1,0,1,0,0,1,1,1],.inLoop [1,1,0,1,0,0],.inBlock 0,.code [1,1,1]] {n:=62,fr:=[(1,.x (.c (.loc 0 0))),(2,.x (.c (.loc 1 0))),(11,.x (.l .stat l)),(12,.x (.i (l.length:Int))),(13,.x (.i (k:Int))),(4,.x (.c (.loc 2 0))),(5,.x (.c (.loc 3 0))),(6,.x (.c (.loc 4 0))),(20,.x (.c (.fn (.func 216) [] [.pd (.ref .int (k:Int) 0),.pd (.ref .stats l 0)])))],ck:=[.cells [.pd (.lst .stat l)] 24,.cells [.pd (.bool false)] 4,.cells [.pd (.str s.name),SC.i s.kind,SC.i s.depth,.pd (.str s.initial),.pd (.lst .deed s.entry),.pd (.lst .deed s.leave)] 57,.cells [SC.i 0] 3,.cells [SC.i 0] 3,.dead,.dead]}:=by
    intro s hs
    have hbadK:∀pre,pre <+: bB l k→fY l s pre=false→eu l (n+1) k=false:=fun pre hp hb=>by
     obtain⟨q,hq⟩:=hp
     have:fY l s (bB l k)=false:=by
      rw[←hq];unfold fY at hb ⊢;rw[bz,hb];rfl
     rw[eu,tH,←hs,this];rfl
    refine J.range (ok:=fun x=>0≤x∧x<(l.length:Int)) (xs:=bB l k) (g:=20) (s:=21) (d:=7) Tryz.func119 (by kernel_rfl) (by kernel_rfl) (by kernel_rfl) (by kernel_rfl) rfl (Go.Proofs.enters_of Tryz.func216 (by kernel_rfl) rfl) (by kernel_rfl) (yb l k hk' hl)
     (fun pre=>fY l s pre=true) (fun pre=>fY l s pre=false) rfl (fun pre=>[.cells [.pd (.lst .stat l)] 24,.cells [.pd (.bool false)] 4,.cells [.pd (.str s.name),SC.i s.kind,SC.i s.depth,.pd (.str s.initial),.pd (.lst .deed s.entry),.pd (.lst .deed s.leave)] 57,.cells [SC.i (pre.length:Int)] 3,.cells [SC.i (eC l pre:Int)] 3,.dead,.dead]) (fun pre=>[.cells [.pd (.lst .stat l)] 24,.cells [.pd (.bool false)] 4,.cells [.pd (.str s.name),SC.i s.kind,SC.i s.depth,.pd (.str s.initial),.pd (.lst .deed s.entry),.pd (.lst .deed s.leave)] 57,.cells [SC.i (pre.length:Int)] 3,.cells [SC.i (eC l pre:Int)] 3,.dead,.dead]) rfl (fun _=>rfl) (fun _=>rfl) (fun _=>rfl) (fun _=>rfl)
     (fun lp pre x Γ hds hx _ hgd hlen=>NJ l s hl k lp pre x Γ hds hx hgd (bW hlen hkm)) (fun hgd Γ'=>?_) (fun pre hp hb=>⟨[.c (.pd (.bool false))],by kernel_rfl,?_,by kernel_rfl⟩)
    · have hgd':fY l s (bB l k)=true:=hgd
      have hok:eu l (n+1) k=((bif s.kind==2||s.kind==3 then !((eC l (bB l k):Int)==0)else !decide (((bB l k).length:Int)>0))&&eu l n (k+1)):=by
       rw[eu,tH,←hs,hgd',bb]
       congr 1
       cases (s.kind==2||s.kind==3)
       ·rw[cond_false,cond_false,aT];simp
       ·rw[cond_true,cond_true,aT];simp
      generalize ((bB l k).length:Int)=c at hok
      generalize (eC l (bB l k):Int)=r at hok
      show J Tryz.prog 119 (ar Tryz.f119) Γ' _ _ {n:=62,fr:=[(1,.x (.c (.loc 0 0))),(2,.x (.c (.loc 1 0))),(11,.x (.l .stat l)),(12,.x (.i (l.length:Int))),(13,.x (.i (k:Int))),(4,.x (.c (.loc 2 0))),(5,.x (.c (.loc 3 0))),(6,.x (.c (.loc 4 0))),(20,.x (.c (.fn (.func 216) [] [.pd (.ref .int (k:Int) 0),.pd (.ref .stats l 0)])))],ck:=[.cells [.pd (.lst .stat l)] 24,.cells [.pd (.bool false)] 4,.cells [.pd (.str s.name),SC.i s.kind,SC.i s.depth,.pd (.str s.initial),.pd (.lst .deed s.entry),.pd (.lst .deed s.leave)] 57,.cells [SC.i c] 3,.cells [SC.i r] 3,.dead,.dead]}
      refine jg pf Tryz.func119 (let x1:Tree:=(.stop [.code [1,1,0,1,0,0],.inLoop [1,1,0,1,0,0],.inBlock 0,.code [1,1,1]] {n:=62,fr:=[(1,.x (.c (.loc 0 0))),(2,.x (.c (.loc 1 0))),(11,.p (.lst .stat l)),(12,.i l.length),(13,.i (IntKind.wrap .i64 ((k:Int)+1)))],ck:=[.cells [.pd (.lst .stat l)] 24,.cells [.pd (.bool false)] 4]});let x2:Tree:=(.ite (r==(0:Int)) (.ret (.p (.bool false)) []) x1);.ite (s.kind==(2:Int)) x2 (.ite (s.kind==(3:Int)) x2 (.ite (decide (c>(0:Int))) (.ret (.p (.bool false)) []) x1))) ?_
      conv=>zeta
      have hrec:=ih (k+1) Γ' (by omega) (by omega)
      rw[aZ (aG hk' hl)]
      refine⟨fun h2=>⟨fun h0=>?_,fun h0=>?_⟩,fun h2=>⟨fun h3=>⟨fun h0=>?_,fun h0=>?_⟩,fun h3=>⟨fun h0=>?_,fun h0=>?_⟩⟩⟩
      · have e:eu l (n+1) k=false:=by rw[hok,h2,h0];rfl
        rw[e];exact⟨rfl,rfl⟩
      · have e:eu l (n+1) k=eu l n (k+1):=by rw[hok,h2,h0];rfl
        rw[e];exact hrec
      · have e:eu l (n+1) k=false:=by rw[hok,h2,h3,h0];rfl
        rw[e];exact⟨rfl,rfl⟩
      · have e:eu l (n+1) k=eu l n (k+1):=by rw[hok,h2,h3,h0];rfl
        rw[e];exact hrec
      · have e:eu l (n+1) k=false:=by rw[hok,h2,h3,h0];rfl
        rw[e];exact⟨rfl,rfl⟩
      · have e:eu l (n+1) k=eu l n (k+1):=by rw[hok,h2,h3,h0];rfl
        rw[e];exact hrec
    · show _=SV.x (.b (eu l (n+1) k))
      rw[hbadK pre hp hb];kernel_rfl
   exact J.freeze aU [5,6] (by kernel_rfl) (rest (ETy.get .stat l k) rfl)
 ·have:=of_decide_eq_false hge;omega
theorem D1(hl:l.length≤maxLen):ah Tryz.prog 119 [.l .stat l] [] (.x (.b (cn l))) []:=by
 refine dg pf Tryz.func119 (.need (l.length≤maxLen) (.ite (!l1 l) (.ret (.p (.bool false)) []) (.stop [.code [1,1,0,1,0,0],.inLoop [1,1,0,1,0,0],.inBlock 0,.code [1,1,1]] {n:=62,fr:=[(1,.x (.c (.loc 0 0))),(2,.x (.c (.loc 1 0))),(11,.p (.lst .stat l)),(12,.i l.length),(13,.i 0)],ck:=[.cells [.pd (.lst .stat l)] 24,.cells [.pd (.bool false)] 4]}))) fun Γ=>?_
 refine⟨hl,fun h=>?_,fun h=>?_⟩
 · have h':l1 l=false:=by simpa using h
   unfold cn;rw[h'];exact⟨rfl,rfl⟩
 · have h':l1 l=true:=by simpa using h
   unfold cn;rw[h',bb]
   exact QT l hl l.length 0 Γ (by omega) (by omega)
def oG:Ent:=(119,fun
 |[.c (.pd (.lst .stat l))],[]=>some (some (l.length≤maxLen),.x (.c (.pd (.bool (cn l)))),[])
 |_,_=>none)
theorem uQ:EntOk Tryz.prog oG:=entOk fun vs ck=>by
 unfold oG;dsimp only;split
 ·rename_i l;exact entS fun hp=>D1 l hp
 ·exact entN
end Go.Proofs.YtlhgnjmdopjpeaaGreatDoor

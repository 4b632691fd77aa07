/- Contracts: trees of states: past, the end of a state, children handed out. Conditions: none. Contracts: a state's children, handed out one by one. Conditions: none. Contracts: trees of states: their shape. Conditions: none. -/
import Derived.Test.YtgfifkhbfdacjaaGreatDoorVg
import Derived.Test.YtgfifkhbfdacjaaGreatDoorKb
import Derived.RangeFuncNested
import Derived.RangeFuncBound
import Derived.RangeFuncCalls
import Derived.RangeFuncLeaves
import Derived.Shelf.Abstract
import Derived.Shelf.RegionOpen
import Derived.WalkKit
import Derived.OwnWalkIn
import Derived.TacticsInMore
import Derived.LoopNIn
import Derived.LoopIn
namespace Go.Proofs.YtgfifkhbfdacjaaGreatDoor
open Go Go.Ev
set_option maxRecDepth 100000
variable (l:List Ev.Stat) (i:Nat) (k:Int)
def aM:Bool:=k==5||k==6
def fx (d:Int):List Ev.Stat→Nat
 | []=>0
 | s::r=>bif decide (s.depth>d) then fx d r+1 else 0
def endM:Nat:=i+1+fx (ETy.get .stat l i).depth (l.drop (i+1))
def dD (l:List Ev.Stat) (e:Nat):Nat→Nat→List Int
 | 0,_=>[]
 | n+1,k=>if k<e then (k:Int)::dD l e n (endM l k) else []
def ba:List Int:=dD l (endM l i) l.length (i+1)
theorem BN:ah Tryz.prog 139 [.i k] [] (.x (.b (aM k))) []:=by
 refine dg aW Tryz.func139 (.ret (.p (.bool (k==(5:Int)||k==(6:Int)))) []) fun Γ=>?_
 exact ⟨rfl,rfl⟩
def sJ:Ent:=(139,fun
 | [.c (.pd (.int .i64 k))],[]=>some (none,.x (.c (.pd (.bool (aM k)))),[])
 | _,_=>none)
theorem Gb:EntOk Tryz.prog sJ:=entOk fun vs ck=>by
 unfold sJ; dsimp only; split
 · rename_i k; exact entS fun hp=>BN k
 · exact entN
theorem xr (d:Int):∀ l:List Ev.Stat,fx d l≤l.length
 | []=>ar _
 | s::r=>by
   have:=xr d r
   rw [fx]; cases decide (s.depth>d) <;> simp <;> omega
theorem cN {i:Nat} (h:i<l.length):i<endM l i∧endM l i≤l.length:=by
 have:=xr (ETy.get .stat l i).depth (l.drop (i+1))
 rw [List.length_drop] at this
 unfold endM; omega
abbrev zTa1:List PI:=[.code [1,1,0,0,0],.inLoop [1,1,0,0,0],.inBlock 0,.code [1,1,1]]
theorem L0 (hi:i<l.length) (hl:l.length≤maxLen) (Γ:Ctx):∀ (n k:Nat),l.length - k≤n→k≤l.length →
 J Tryz.prog 101 (au Tryz.f101) Γ (Eq2 (.x (.i ((k+fx (ETy.get .stat l i).depth (l.drop k):Nat):Int))) []) zTa1 ({ n:=28,fr:=[(0,.p (.lst .stat l)),(1,.i i),(4,.i 0),(5,.i ((k:Int)))],ck:=[] }):=by
 intro n
 induction n with
 | zero=>?_
 | succ n ih=>?_
 all_goals
  intro k hn hk
  refine jg aW Tryz.func101 (.need ((((4,12,true,cV true (decide ((k:Int)<(l.length:Int))) none).2).2).2→(0:Int)≤(k:Int)∧(k:Int)<(l.length:Int)) (.need ((((4,12,true,cV true (decide ((k:Int)<(l.length:Int))) none).2).2).2→(0:Int)≤(i:Int)∧(i:Int)<(l.length:Int)) (.ite (decide ((k:Int)<(l.length:Int))&&decide (Stat.depth (ETy.get .stat l k)>Stat.depth (ETy.get .stat l i))) (.stop zTa1 { n:=28,fr:=[(0,.p (.lst .stat l)),(1,.i i),(4,.i 0),(5,.i (IntKind.wrap .i64 ((k:Int)+1)))],ck:=[] }) (.ret (.i k) [])))) ?_
  refine ⟨fun h=>⟨by omega,by have:=of_decide_eq_true h; omega⟩,fun h=>⟨by omega,by omega⟩,fun h=>?_,fun h=>?_⟩
  · simp only [af,decide_eq_true_eq] at h
    have hk':k<l.length:=by omega
    rw [bx (t:=.stat) (l:=l) hk',fx]
    have h2:decide ((ETy.get .stat l k).depth>(ETy.get .stat l i).depth)=true:=decide_eq_true h.2
    rw [h2,cond_true,aV (aC hk' hl),show k+(fx (ETy.get .stat l i).depth (l.drop (k+1))+1)=k+1+fx (ETy.get .stat l i).depth (l.drop (k+1)) by omega]
    first
    | (exfalso; omega)
    | exact ih (k+1) (by omega) (by omega)
  · by_cases hk':k<l.length
    · rw [bx (t:=.stat) (l:=l) hk',fx]
      have h2:decide ((ETy.get .stat l k).depth>(ETy.get .stat l i).depth)=false:=by
       cases h3:decide ((ETy.get .stat l k).depth>(ETy.get .stat l i).depth)
       · rfl
       · rw [decide_eq_true (show ((k:Int)<(l.length:Int)) by omega)] at h
         have h4:(true&&decide ((ETy.get .stat l k).depth>(ETy.get .stat l i).depth))=false:=h
         rw [h3] at h4; cases h4
      rw [h2,cond_false]; exact ⟨rfl,rfl⟩
    · rw [bL (l:=l) (by omega),fx]; exact ⟨rfl,rfl⟩
theorem uK (hi:i<l.length) (hl:l.length≤maxLen):ah Tryz.prog 101 [.l .stat l,.i (i:Int)] [] (.x (.i (endM l i:Nat))) []:=by
 refine dg aW Tryz.func101 (.stop zTa1 { n:=28,fr:=[(0,.p (.lst .stat l)),(1,.i i),(4,.i 0),(5,.i (IntKind.wrap .i64 ((i:Int)+1)))],ck:=[] }) fun Γ=>?_
 rw [aV (by have:=aC hi hl; omega)]
 exact L0 l i hi hl Γ l.length (i+1) (by omega) (by omega)
end Go.Proofs.YtgfifkhbfdacjaaGreatDoor
namespace Go.Proofs.YtgfifkhbfdacjaaGreatDoor
open Go Go.Ev Go.RowKit Go.Shelf
attribute [local go_sem] Oper.semAt_some
set_option maxRecDepth 100000
theorem EJ {V:Vn} {w:World} (h:HIn V.H w):WOk (entry [] V w) [] V w :=
 { ext:=Fr.refl _ _,imm:=h,hle:=HLe.refl _,frz:=fun _ h=>.inl h,agr:=fun _ _=>⟨rfl,rfl⟩,own:=fun i c hc=>(by simp at hc),base:=fun i c b hc=>(by simp at hc),inj:=fun i j c d b hc=>(by simp at hc) }
variable (l:List Ev.Stat) (i:Nat)
theorem oI (hi:i<l.length) (hl:l.length≤maxLen) {V:Vn} {w:World} {u:Value} (hH:HIn V.H w) (hT:fV Tryz.prog V.H) (hu:PR V.H (.lst .stat l) u) :
 Calls Tryz.prog 101 #[u,.int .i64 (i:Int)] w fun e w'=>e = .returned (.int .i64 (endM l i:Nat))∧Below w.heap.size w w':=by
 refine (uK l i hi hl w V [u,.int .i64 (i:Int)] (EJ hH) hT (.cons hu (.cons (PR.int _ _) .nil))).mono fun e w' hq=>?_
 obtain ⟨v,V',rfl,hr,hw⟩:=hq
 have hr':PR V'.H (.int .i64 (endM l i:Nat)) v:=hr
 cases hr'
 exact ⟨rfl,hw.ext.os,hw.ext.tape,hw.ext.output,hw.ext.size,fun k hk=>hw.ext.block k hk fun ⟨j,c,hc,_⟩=>by simp at hc⟩
theorem LD (n lp b1 o1 b2 o2 i:Nat) (l:List Ev.Stat) (hi:i<l.length) (hl:l.length≤maxLen) (V:Vn) (hT:fV Tryz.prog V.H) (u:Value) (hu:PR V.H (.lst .stat l) u)
 (c1 c2:Array Value) (e1 e2:TypeId) (f1 f2:Nat×Nat) (hb1:V.H b1=some (.cells c1 e1 f1)) (hb2:V.H b2=some (.cells c2 e2 f2)) (hc1:c1[o1]?=some (.int .i64 (i:Int))) (hc2:c2[o2]?=some u)
 (J Jx:List Int→World→Prop) (hab:∀ s A B,J s A→A.grownBy B none→J s B)
 (hY:∀ pre x W,0≤x→x<(l.length:Int)→J pre W→pre.length<(ba l i).length→YieldAt Fence.wide (n - 1) Tryz.prog lp #[.int .i64 x] W fun e W' =>
  (e = .returned (.bool true)∧J (pre++[x]) W'∧KpH V.H W W')∨(e = .returned (.bool false)∧Jx (pre++[x]) W'))
 (W:World) (hH:HIn V.H W) (h0:J [] W) :
 CallsIn Fence.wide n Tryz.prog 174 #[.func (.yield lp) #[] #[],.pointer (some ⟨b1,o1,none⟩),.pointer (some ⟨b2,o2,none⟩)] W fun e W'=>(∃ v,e = .returned v) ∧
  ((∃ ys,ys=ba l i∧J ys W')∨(∃ pre,pre <+: ba l i∧Jx pre W')):=by
 have rd1:∀ {X:World},HIn V.H X→X.cell? ⟨b1,o1,none⟩=some (.int .i64 (i:Int)):=fun h=>by
  have:=h _ _ hb1
  simp only [World.cell?,this]; exact hc1
 have rd2:∀ {X:World},HIn V.H X→X.cell? ⟨b2,o2,none⟩=some u:=fun h=>by
  have:=h _ _ hb2
  simp only [World.cell?,this]; exact hc2
 refine callsIn_of_wp Tryz.func174 rfl trivial ?_ rfl
 have r1:=rd1 hH
 have r2:=rd2 hH
 simp only [Tryz.ntmps174,List.size_toArray,aG,bG,Nat.reduceAdd,Nat.reduceSub,Array.replicate_succ,Array.replicate_zero,List.push_toArray,List.append_toArray,bX,bA]
 have hg:∀ {A B:World},Below A.heap.size A B→A.grownBy B none:=fun h=>⟨h.os,h.tape,h.output,h.size,fun k hk _=>h.block k hk⟩
 have hHB:∀ {A B:World},HIn V.H A→Below A.heap.size A B→HIn V.H B:=fun h hb k o hk=>(hb.block k (Array.getElem?_eq_some_iff.1 (h k o hk)).1).trans (h k o hk)
 have hHK:∀ {A B:World},HIn V.H A→KpH V.H A B→HIn V.H B:=fun h hb k o hk=>(hb.same k (by rw [hk]; simp)).trans (h k o hk)
 have hwr:wrap64 ((i:Int)+1)=(i:Int)+1:=by
  have:=aC hi hl
  unfold wrap64; omega
 gi_wp2
 rw [hwr]
 gi_loopw [4] (fun p wr=>∃ (pre:List Int) (k f:Nat),p = .int .i64 (k:Int)∧i<k∧k≤l.length∧ba l i=pre++dD l (endM l i) f k∧endM l i≤k+f∧HIn V.H wr∧J pre wr)
  (fun p _=>endM l i - (intOf p).toNat)
 case atStart =>
  have:=(cN l hi).2
  exact ⟨[],i+1,l.length,by simp,by omega,by omega,rfl,by omega,hH,h0⟩
 case round =>
  obtain ⟨pre,k,f,rfl,hk1,hk2,hx,hf,hH2,hJs⟩:=hrel
  have q1:=rd1 hH2
  have q2:=rd2 hH2
  by_cases hlt:k<endM l i
  · obtain ⟨f,rfl⟩:∃ f',f=f'+1:=⟨f - 1,by omega⟩
    have hx':ba l i=pre++(k:Int)::dD l (endM l i) f (endM l k):=by rw [hx,dD,if_pos hlt]
    have hkl:k<l.length:=bS hlt (cN l hi).2
    have hlen:pre.length<(ba l i).length:=by rw [hx']; simp
    gi_wp2
    refine ⟨trivial,fun h=>(by cases h),?_⟩
    refine (callsIn_wide.2 (oI l i hi hl hH2 hT hu)).mono ?_
    rintro e w1 ⟨rfl,hw1⟩
    have hH3:=hHB hH2 hw1
    have hJ3:=hab _ _ _ hJs (hg hw1)
    have hlt':((k:Int)<((endM l i:Nat):Int)):=by omega
    obtain ⟨fn,tmps,assign,body,hy,hR⟩:=hY pre (k:Int) w1 (by omega) (by omega) hJ3 hlen
    gi_wp2
    refine ⟨fun h=>(by cases h),hR.mono ?_⟩
    rintro e W3 (⟨rfl,hJ4,hk4⟩ | ⟨rfl,hJx4⟩)
    · have hH4:=hHK hH3 hk4
      have q3:=rd1 hH4
      have q4:=rd2 hH4
      have hek:=cN l hkl
      gi_wp2
      refine ⟨trivial,fun h=>(by cases h),?_⟩
      refine (callsIn_wide.2 (oI l k hkl hl hH4 hT hu)).mono ?_
      rintro e w5 ⟨rfl,hw5⟩
      gi_wp2
      go_roundw
      case rel=>exact ⟨pre++[(k:Int)],endM l k,f,rfl,by omega,hek.2,by rw [hx']; simp,by omega,hHB hH4 hw5,hab _ _ _ hJ4 (hg hw5)⟩
      case measure =>
       show endM l i - ((endM l k:Nat):Int).toNat<endM l i - ((k:Nat):Int).toNat
       rw [ai,ai]; omega
    · gi_wp2
      refine bodyPost_ret (results_none rfl _ _ _) rfl ?_
      exact ⟨⟨_,rfl⟩,.inr ⟨pre++[(k:Int)],⟨dD l (endM l i) f (endM l k),by rw [hx']; simp⟩,hJx4⟩⟩
  · have hx':ba l i=pre:=by
     rw [hx]
     cases f with
     | zero=>simp [dD]
     | succ f=>rw [dD,if_neg hlt,aH]
    have hlt':¬((k:Int)<((endM l i:Nat):Int)):=by omega
    gi_wp2
    refine ⟨trivial,fun h=>(by cases h),?_⟩
    refine (callsIn_wide.2 (oI l i hi hl hH2 hT hu)).mono ?_
    rintro e w1 ⟨rfl,hw1⟩
    gi_wp2
    go_end0
    exact ⟨⟨_,rfl⟩,.inl ⟨pre,hx'.symm,hab _ _ _ hJs (hg hw1)⟩⟩
theorem uN (hi:i<l.length) (hl:l.length≤maxLen):Iter Tryz.prog 174 [.pd (.ref .int (i:Int) 0),.pd (.ref .stats l 0)] (fun x=>0≤x∧x<(l.length:Int)) (ba l i):=by
 intro n V w lb hH hT hcaps
 cases hcaps with | cons h1 hcaps=>cases hcaps with | cons h2 hcaps =>
  cases hcaps
  have h1':PR V.H (.ref .int (i:Int) 0) _:=h1
  have h2':PR V.H (.ref .stats l 0) _:=h2
  cases h1' with | ref _ _ _ b1 o1 c1 e1 f1 hb1 hs1 g1 =>
  cases h2' with | ref _ _ _ b2 o2 c2 e2 f2 hb2 hs2 g2 =>
  have hc1:c1[o1+0]?=some (.int .i64 (i:Int)):=by
   have hlt:o1+0<c1.size:=by have:o1+1≤c1.size:=hs1; omega
   have h3:=g1 0 (.int .i64 (i:Int)) rfl c1[o1+0] (Array.getElem?_eq_getElem hlt)
   rw [Array.getElem?_eq_getElem hlt]
   generalize c1[o1+0]=x at h3 ⊢
   cases h3; rfl
  have hlt2:o2+0<c2.size:=by have:o2+1≤c2.size:=hs2; omega
  have hu:=g2 0 (.lst .stat l) rfl c2[o2+0] (Array.getElem?_eq_getElem hlt2)
  intro lp J Jx W hB hJ hJx hY h0
  have hHW:HIn V.H W:=fun k o hk=>(hB.block k (Array.getElem?_eq_some_iff.1 (hH k o hk)).1).trans (hH k o hk)
  refine (LD n lp b1 (o1+0) b2 (o2+0) i l hi hl V hT _ hu c1 c2 e1 e2 f1 f2 hb1 hb2 hc1 (Array.getElem?_eq_getElem hlt2) (fun ys X=>∃ zs,zs.map (·.1)=ys∧J zs X) (fun ys X=>∃ zs,zs.map (·.1)=ys∧Jx zs X) (by rintro s A B ⟨zs,q1,q2⟩ hg; exact ⟨zs,q1,hJ zs A B none q2 hg fun r e=>(by cases e)⟩) ?_ W hHW (by exact ⟨[],rfl,h0⟩)).mono ?_
  · intro pre x X hx0 hx1 ⟨zs,q1,q2⟩ hlen
    obtain ⟨fn,tmps,assign,body,hy,hR⟩:=hY zs ⟨x,hx0,hx1⟩ X q2 (by rw [← q1,aP] at hlen; exact hlen)
    refine ⟨fn,tmps,assign,body,hy,hR.mono fun e X2 hq=>?_⟩
    rcases hq with ⟨e1,e2,e3⟩ | ⟨e1,e2⟩
    · exact .inl ⟨e1,⟨_,by rw [bP,q1]; rfl,e2⟩,e3⟩
    · exact .inr ⟨e1,_,by rw [bP,q1]; rfl,e2⟩
  · rintro e X2 ⟨hv,hq⟩
    refine ⟨hv,?_⟩
    rcases hq with ⟨ys,e1,zs,e2,e3⟩ | ⟨pre,e1,zs,e2,e3⟩
    · exact .inl ⟨zs,e2.trans e1,e3⟩
    · exact .inr ⟨zs,by show zs.map (·.1) <+: _; rw [e2]; exact e1,e3⟩
end Go.Proofs.YtgfifkhbfdacjaaGreatDoor
namespace Go.Proofs.YtgfifkhbfdacjaaGreatDoor
open Go Go.Ev
set_option maxRecDepth 100000
def qh (a:Int) (s:Ev.Stat):Bool:=decide (s.depth<0)||decide (s.depth>IntKind.wrap .i64 (a+1))||decide (s.depth≥6)||decide (s.kind<1)||decide (s.kind>6)
def eL:Int→Int→List Ev.Stat→Option Int
 | _,r,[]=>some r
 | a,r,s::q=>bif qh a s then none else bif s.depth==0 then (bif s.kind != 2 then none else eL s.depth (IntKind.wrap .i64 (r+1)) q) else eL s.depth r q
def nD (n:Nat):Option Int→Bool
 | none=>false
 | some r=>decide (r≤4)&&decide ((n:Int)>0)&&decide ((n:Int)≤40)
variable (l:List Ev.Stat)
def j9:Bool:=nD l.length (eL (-1) 0 l)
def iz:Nat→Int
 | 0=>-1
 | k+1=>(ETy.get .stat l k).depth
abbrev zTc1:List PI:=[.code [1,1,0,1,0,0],.inLoop [1,1,0,1,0,0],.inBlock 0,.code [1,1,1]]
theorem MO (hl:l.length≤maxLen) (Γ:Ctx):∀ (n k:Nat) (r:Int),l.length - k≤n→k≤l.length →
 J Tryz.prog 137 (au Tryz.f137) Γ (Eq2 (.x (.b (nD l.length (eL (iz l k) r (l.drop k))))) []) zTc1 ({ n:=68,fr:=[(0,.p (.lst .stat l)),(2,.p (.bool false)),(3,.i r),(7,.p (.lst .stat l)),(8,.i l.length),(9,.i ((k:Int)))],ck:=[],kn:=[2] }):=by
 intro n
 induction n with
 | zero=>?_
 | succ n ih=>?_
 all_goals
  intro k r hn hk
  refine jg aW Tryz.func137 (let x3:Tree:=(.ret (.p (.bool false)) []); let x2:List PI:=zTc1; let x8:=(IntKind.wrap .i64 ((k:Int)+1)); let x1:Tree:=(.ite (Stat.depth (ETy.get .stat l k)==(0:Int)) (.ite (Stat.kind (ETy.get .stat l k) != (2:Int)) x3 (.stop x2 { n:=68,fr:=[(0,.p (.lst .stat l)),(2,.p (.bool false)),(3,.i (IntKind.wrap .i64 (r+(1:Int)))),(7,.p (.lst .stat l)),(8,.i l.length),(9,.i x8)],ck:=[],kn:=[2] })) (.stop x2 { n:=68,fr:=[(0,.p (.lst .stat l)),(2,.p (.bool false)),(3,.i r),(7,.p (.lst .stat l)),(8,.i l.length),(9,.i x8)],ck:=[],kn:=[2] })); let x4:=(Stat.depth (ETy.get .stat l k)<(0:Int)); let x5:=(Stat.depth (ETy.get .stat l k)≥(6:Int)); let x6:=(Stat.kind (ETy.get .stat l k)<(1:Int)); let x7:=(Stat.kind (ETy.get .stat l k)>(6:Int)); .ite (decide ((k:Int)<(l.length:Int))) (.need (inRg k l.length) (.ite (decide ((k:Int)>0)) (.need ((0:Int)≤IntKind.wrap .i64 ((k:Int) - 1)∧IntKind.wrap .i64 ((k:Int) - 1)<(l.length:Int)) (.ite (decide x4||decide (Stat.depth (ETy.get .stat l k)>IntKind.wrap .i64 (Stat.depth (ETy.get .stat l ((IntKind.wrap .i64 ((k:Int) - 1)).toNat))+(1:Int)))||decide x5||decide x6||decide x7) x3 x1)) (.ite (decide x4||decide (Stat.depth (ETy.get .stat l k)>IntKind.wrap .i64 ((-1:Int)+1))||decide x5||decide x6||decide x7) x3 x1))) (.ret (.p (.bool (decide (r≤(4:Int))&&decide ((l.length:Int)>0)&&decide ((l.length:Int)≤40)))) [])) ?_
  conv=>zeta
  have tail:∀ (hk':k<l.length) (b:Bool),b=qh (iz l k) (ETy.get .stat l k)→(b=true→SV.x (.p (.bool false)) = .x (.b (nD l.length (eL (iz l k) r (l.drop k))))∧([]:List Chunk)=[]):=fun hk' b hb h=>by
   rw [bx (t:=.stat) (l:=l) hk',eL,← hb,h]; exact ⟨rfl,rfl⟩
  refine ⟨fun hlt=>?_,fun hge=>?_⟩
  · have hk':k<l.length:=by have:=of_decide_eq_true hlt; omega
    have hm:=aC hk' hl
    have step:∀ (b:Bool),b=qh (iz l k) (ETy.get .stat l k)→b=false→eL (iz l k) r (l.drop k)=bif (ETy.get .stat l k).depth==0 then (bif (ETy.get .stat l k).kind != 2 then none else eL (ETy.get .stat l k).depth (IntKind.wrap .i64 (r+1)) (l.drop (k+1))) else eL (ETy.get .stat l k).depth r (l.drop (k+1)):=fun b hb h=>by
     rw [bx (t:=.stat) (l:=l) hk',eL,← hb,h]; rfl
    rw [aV hm]
    refine ⟨by omega,fun hpos=>?_,fun hz=>?_⟩
    · have hp:0<k:=by have:=of_decide_eq_true hpos; omega
      obtain ⟨j,rfl⟩:∃ j,k=j+1:=⟨k - 1,by omega⟩
      have ew:IntKind.wrap .i64 (((j+1:Nat):Int) - 1)=(j:Int):=by rw [cn (by omega) (by omega)]; omega
      rw [ew]
      refine ⟨⟨by omega,by omega⟩,fun hb=>tail hk' _ rfl hb,fun hb=>?_⟩
      have e:=step _ rfl hb
      refine ⟨fun h0=>⟨fun h2=>?_,fun h2=>?_⟩,fun h0=>?_⟩
      · rw [e,h0,cond_true,h2]; exact ⟨rfl,rfl⟩
      · rw [e,h0,cond_true,h2,cond_false]
        first
        | (exfalso; omega)
        | exact ih (j+1+1) _ (by omega) (by omega)
      · rw [e,h0,cond_false]
        first
        | (exfalso; omega)
        | exact ih (j+1+1) _ (by omega) (by omega)
    · have hp:k=0:=by have:=of_decide_eq_false hz; omega
      subst hp
      refine ⟨fun hb=>tail hk' _ rfl hb,fun hb=>?_⟩
      have e:=step _ rfl hb
      refine ⟨fun h0=>⟨fun h2=>?_,fun h2=>?_⟩,fun h0=>?_⟩
      · rw [e,h0,cond_true,h2]; exact ⟨rfl,rfl⟩
      · rw [e,h0,cond_true,h2,cond_false]
        first
        | (exfalso; omega)
        | exact ih (0+1) _ (by omega) (by omega)
      · rw [e,h0,cond_false]
        first
        | (exfalso; omega)
        | exact ih (0+1) _ (by omega) (by omega)
  · rw [bL (l:=l) (by have:=of_decide_eq_false hge; omega)]; exact ⟨rfl,rfl⟩
theorem yV (hl:l.length≤maxLen):ah Tryz.prog 137 [.l .stat l] [] (.x (.b (j9 l))) []:=by
 refine dg aW Tryz.func137 (.stop zTc1 { n:=68,fr:=[(0,.p (.lst .stat l)),(2,.p (.bool false)),(3,.i 0),(7,.p (.lst .stat l)),(8,.i l.length),(9,.i 0)],ck:=[],kn:=[2] }) fun Γ=>?_
 exact MO l hl Γ l.length 0 0 (by omega) (by omega)
def rI:Ent:=(137,fun
 | [.c (.pd (.lst .stat l))],[]=>some (some (l.length≤maxLen),.x (.c (.pd (.bool (j9 l)))),[])
 | _,_=>none)
theorem GZ:EntOk Tryz.prog rI:=entOk fun vs ck=>by
 unfold rI; dsimp only; split
 · rename_i l; exact entS fun hp=>yV l hp
 · exact entN
theorem Df (i:Int):ah Tryz.prog 138 [.l .stat l,.i i] [] (.x (.c (.fn (.func 174) [] [.loc 1 0,.loc 0 0]))) [.cells [.pd (.lst .stat l)] 24,.cells [SC.i i] 3]:=by
 refine dg aW Tryz.func138 (.ret (.x (.c (.fn (.func 174) [] [.loc 1 0,.loc 0 0]))) [.cells [.pd (.lst .stat l)] 24,.cells [.i i] 3]) fun Γ=>?_
 exact ⟨rfl,rfl⟩
def rD:Ent:=(138,fun
 | [.c (.pd (.lst .stat l)),.c (.pd (.int .i64 i))],[]=>some (none,.x (.c (.fn (.func 174) [] [.loc 1 0,.loc 0 0])),[.cells [.pd (.lst .stat l)] 24,.cells [.pd (.int .i64 i)] 3])
 | _,_=>none)
theorem xm:EntOk Tryz.prog rD:=entOk fun vs ck=>by
 unfold rD; dsimp only; split
 · rename_i l i; exact entS fun hp=>Df l i
 · exact entN
def sL:Cfg:=⟨aX,[sJ,rI,rD]⟩
theorem mP:ag Tryz.prog sL.tab:=(ag.cons Gb (ag.cons GZ (ag.cons xm ag.nil)))
end Go.Proofs.YtgfifkhbfdacjaaGreatDoor

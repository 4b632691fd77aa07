/- Plain: a chart's text, its lines, read. Conditions: none. Plain: what is read, its cases; the example. Conditions: none. The library's contracts of the shelf, laid at this dump by the kit's tools. Conditions: each one's own. -/
import Derived.Test.YtpfidgnkokidoaaGreatDoorWj
import Derived.Test.YtpfidgnkokidoaaGreatDoorId
import Derived.Shelf.Lays
import Derived.Shelf.Strings.Runes
import Derived.Shelf.Strings.AsciiSet
import Derived.Test.YtpfidgnkokidoaaGreatDoorProg
namespace Go.Proofs.YtpfidgnkokidoaaGreatDoor
open Go Go.Ev
set_option maxRecDepth 100000
/-! ### lines -/
def dC:Str→Str→List Str
 | cur,[]=>[cur]
 | cur,c::r=>bif c==10 then cur::dC [] r else dC (cur++[c]) r
variable {c:Chart} {n:Nat} (s:Str)
def uS:Bool:=s.getLast?==some 10
def jN:Str:=if uS s=true then s.dropLast else s
def dF:List Str:=dC [] (jN s)
theorem qp:∀ (s cur:Str),(10:UInt8) ∉ s→dC cur s=[cur++s]
 | [],cur,_=>by simp [dC]
 | c::r,cur,h=>by
   simp only [aN,not_or] at h
   have hc:(c==10)=false:=by simpa using fun e=>h.1 e.symm
   rw [dC,hc,cond_false,qp r _ h.2]; simp
theorem tq:∀ (a cur b:Str),(10:UInt8) ∉ a→dC cur (a++10::b)=(cur++a)::dC [] b
 | [],cur,b,_=>by simp [dC]
 | c::r,cur,b,h=>by
   simp only [aN,not_or] at h
   have hc:(c==10)=false:=by simpa using fun e=>h.1 e.symm
   rw [bC,dC,hc,cond_false,tq r _ b h.2]; simp
theorem p7:∀ (k:Nat) (s:Str),Lib.count s [10]=k→Lib.splitK [10] 0 k s=dC [] s
 | 0,s,h=>by
   rw [Lib.count_one] at h
   rw [qp s [] (List.count_eq_zero.1 h)]; rfl
 | k + 1,s,h=>by
   rcases lK s 10 with ⟨h1,_⟩ | ⟨a,r,rfl,h2,h3⟩
   · rw [Lib.count_miss h1] at h; omega
   · have h4:=Lib.count_hit (by simp) h3
     have e:(a++10::r).drop (a.length+1)=r:=by
      rw [← eX,er]; rfl
     rw [show ([10]:Str).length=1 from rfl,e] at h4
     rw [Lib.splitK,if_neg (by rw [h3]; simp),h3,bf,show ([10]:Str).length=1 from rfl,e,b5,eY,tq a [] r h2,p7 k r (by omega)]; rfl
theorem Cg:(Lib.splitB ⟨#[10]⟩ 0 (Lib.countB (bs s) ⟨#[10]⟩) (bs s)).map (·.data.toList)=dC [] s:=by
 rw [Lib.splitB_data]
 have e:(bs s).data.toList=s:=cE s
 rw [e]
 exact p7 _ s (by show Lib.count s [10]=Lib.count (bs s).data.toList _; rw [e])
theorem oM:∀ (s cur:Str),(dC cur s).length=s.countP (·==10)+1
 | [],cur=>rfl
 | c::r,cur=>by
   rw [dC,List.countP_cons]
   cases h:c==10
   · rw [cond_false,oM r]; simp
   · rw [cond_true,ah,oM r]; simp
theorem sw:(dC [] s).length≤s.length+1:=by
 rw [oM]; have:=List.countP_le_length (p:=(·==(10:UInt8))) (l:=s); omega
theorem tu:∀ (s cur:Str),∀ p∈dC cur s,p.length≤cur.length+s.length
 | [],cur,p,h=>by simp [dC] at h; subst h; simp
 | c :: r,cur,p,h=>by
   rw [dC] at h
   cases hc:c==10
   · rw [hc,cond_false] at h
     have:=tu r (cur++[c]) p h
     simp only [ag,ah,aj] at this ⊢; omega
   · rw [hc,cond_true] at h
     rcases aN.1 h with rfl | h
     · simp
     · have:=tu r [] p h
       simp only [aj,ah] at this ⊢; omega
theorem ka:(jN s).length≤s.length:=by
 unfold jN; split
 · rw [List.length_dropLast]; omega
 · exact aw _
theorem oo:(dF s).length≤s.length+1:=by
 have h1:=sw (jN s); have h2:=ka s
 show (dC [] (jN s)).length≤_; omega
theorem sj {s p:Str} (h:p∈dF s):p.length≤s.length:=by
 have h1:=tu (jN s) [] p h
 have h2:=ka s
 simp only [aj] at h1; omega
theorem B4:0<(dF s).length:=by
 show 0<(dC [] (jN s)).length
 rw [oM]; omega
/-! ### points -/
def df (a b:Int):Str:=Lib.itoa a++(if b<0 then [] else [43])++Lib.itoa b++[105]
def oW (p:Int×Int):Prop:=pIn p.1=true∧pIn p.2=true∧df p.1 p.2=s
open Classical in
noncomputable def ED:Option (Int×Int):=if h:∃ p,oW s p then some h.choose else none
def fv:Prop:=∃ p,oW s p
noncomputable def ptA:Int:=match ED s with | some p=>p.1 | none=>0
noncomputable def ptB:Int:=match ED s with | some p=>p.2 | none=>0
theorem j9 {s:Str} (h:fv s):oW s (ptA s,ptB s):=by
 have e:ED s=some h.choose:=dif_pos h
 unfold ptA ptB
 rw [e]
 exact h.choose_spec
/-! ### a line -/
noncomputable def jc (c:Chart) (d:Int) (w:List Str):Option Chart:=by
 classical exact if eG c d w 4=true∧(bb (an w 1)).2=0∧(bb (an w 2)).2=0∧fv (an w 3) then some { c with vars:=c.vars++[⟨an w 0,3,(bb (an w 1)).1,(bb (an w 2)).1,⟨3,ptA (an w 3),ptB (an w 3)⟩⟩] } else none
noncomputable def ct (c:Chart) (d:Int) (k:Str) (w:List Str):Option Chart :=
 if k=gl then jE c d w else if k=nJ then nH c d w else if k=jL then kj c d w else if k=jH then jc c d w
 else if k=mB then aM 1 1 c d w else if k=oU then aM 3 1 c d w else if k=mD then aM 4 1 c d w
 else if k=sZ then aM 2 2 c d w else if k=jX then aM 5 2 c d w else if k=pn then aM 6 2 c d w
 else if k=iz then iu c d w else if k=iW then ju c d w else if k=wOn then onC c d w else none
def rF (c:Chart) (l:Str):Option Chart :=
 if bE l=0∧(bq l).length=2∧an (bq l) 0=ir∧aO (an (bq l) 1)=true then some { c with name:=an (bq l) 1 } else none
noncomputable def dK (c:Chart) (k:Nat) (l:Str):Option Chart :=
 if gP l=true then (if k=0 then rF c l else ct c (bE l:Nat) (an (bq l) 0) ((bq l).drop 1)) else none
def c7:Chart:=⟨[],[],[],[],[]⟩
noncomputable def dq:Chart→Nat→List Str→Chart×Option Nat
 | c,_,[]=>(c,none)
 | c,k,l::r=>match dK c k l with
   | some c'=>dq c' (k+1) r
   | none=>(c7,some k)
noncomputable def aq:Chart×Int×Int:=if 6000<s.length then (c7,0,4) else match dq c7 0 (dF s) with
 | (c,none)=>(c,0,0)
 | (_,some k)=>(c7,(k:Int)+1,1)
def eL:Prop:=(aq s).2.2=0
/-! ### how much may stand in a chart that is read -/
structure Fit (c:Chart) (n:Nat):Prop where
 events:c.events.length≤n
 vars:c.vars.length≤n
 states:c.states.length≤n
 trans:c.trans.length≤n
 depth:∀ s∈c.states,0≤s.depth∧s.depth≤6000
theorem Fit.zero:Fit c7 0:=⟨aw _,aw _,aw _,aw _,by simp [c7]⟩
theorem Fit.le {m:Nat} (h:Fit c n) (hm:n≤m):Fit c m:=⟨bn h.1 hm,bn h.2 hm,bn h.3 hm,bn h.4 hm,h.5⟩
theorem cJ {α:Type} {p:Prop} {inst:Decidable p} {x y:α} (h:(if p then some x else none)=some y):p∧x=y:=by
 split at h
 · rename_i hp; exact ⟨hp,au h⟩
 · cases h
theorem Fit.last (h:Fit c n) {s :  Ev.Stat} (hs:c.states.getLast?=some s):0≤s.depth∧s.depth≤6000:=h.depth s (List.mem_of_getLast? hs)
theorem Fit.room (h:Fit c n):0≤iV c∧iV c≤6001:=by
 unfold iV
 cases hs:c.states.getLast? with
 | none=>simp
 | some s=>have:=h.last hs; simp only; omega
theorem Fit.put (h:Fit c n) {s s':Ev.Stat} (hs:c.states.getLast?=some s) (hd:s'.depth=s.depth):Fit { c with states:=c.states.dropLast++[s'] } n:=by
 have hl:c.states.length≠0:=by
  intro e; rw [b4] at e; rw [e] at hs; cases hs
 refine ⟨h.1,h.2,?_,h.4,?_⟩
 · have:=h.3; simp only [ag,List.length_dropLast,ah,aj]; omega
 · intro x hx
   simp only [aZ,aV] at hx
   rcases hx with hx | rfl
   · exact h.depth x (List.dropLast_subset _ hx)
   · rw [hd]; exact h.last hs
theorem Fit.line {c':Chart} {n k:Nat} {l:Str} (h:Fit c n) (hl:l.length≤6000) (e:dK c k l=some c'):Fit c' (n+1):=by
 have hl':=tl l
 unfold dK at e
 obtain ⟨_,e⟩:_∧_:=by
  by_cases hk:gP l=true
  · rw [if_pos hk] at e; exact ⟨hk,e⟩
  · rw [if_neg hk] at e; cases e
 split at e
 · unfold rF at e
   obtain ⟨_,rfl⟩:=cJ e
   exact ⟨bj h.1,bj h.2,bj h.3,bj h.4,h.5⟩
 · unfold ct at e
   have st:∀ (kind:Int) (m:Nat) (w:List Str),aM kind m c (bE l:Nat) w=some c'→Fit c' (n+1):=fun kind m w e=>by
    unfold aM at e
    obtain ⟨_,rfl⟩:=cJ e
    refine ⟨bj h.1,bj h.2,by have:=h.3; simp; omega,bj h.4,fun x hx=>?_⟩
    simp only [aZ,aV] at hx
    rcases hx with hx | rfl
    · exact h.depth x hx
    · simp only; omega
   generalize an (bq l) 0=k at e
   generalize (bq l).drop 1=w at e
   by_cases k0:k=gl
   · rw [if_pos k0] at e
     unfold jE at e; obtain ⟨_,rfl⟩:=cJ e
     exact ⟨by have:=h.1; simp; omega,bj h.2,bj h.3,bj h.4,h.5⟩
   rw [if_neg k0] at e
   by_cases k1:k=nJ
   · rw [if_pos k1] at e
     unfold nH at e; obtain ⟨_,rfl⟩:=cJ e
     exact ⟨bj h.1,by have:=h.2; simp; omega,bj h.3,bj h.4,h.5⟩
   rw [if_neg k1] at e
   by_cases k2:k=jL
   · rw [if_pos k2] at e
     unfold kj at e; obtain ⟨_,rfl⟩:=cJ e
     exact ⟨bj h.1,by have:=h.2; simp; omega,bj h.3,bj h.4,h.5⟩
   rw [if_neg k2] at e
   by_cases k3:k=jH
   · rw [if_pos k3] at e
     unfold jc at e; obtain ⟨_,rfl⟩:=cJ e
     exact ⟨bj h.1,by have:=h.2; simp; omega,bj h.3,bj h.4,h.5⟩
   rw [if_neg k3] at e
   by_cases k4:k=mB
   · rw [if_pos k4] at e
     exact st _ _ _ e
   rw [if_neg k4] at e
   by_cases k5:k=oU
   · rw [if_pos k5] at e
     exact st _ _ _ e
   rw [if_neg k5] at e
   by_cases k6:k=mD
   · rw [if_pos k6] at e
     exact st _ _ _ e
   rw [if_neg k6] at e
   by_cases k7:k=sZ
   · rw [if_pos k7] at e
     exact st _ _ _ e
   rw [if_neg k7] at e
   by_cases k8:k=jX
   · rw [if_pos k8] at e
     exact st _ _ _ e
   rw [if_neg k8] at e
   by_cases k9:k=pn
   · rw [if_pos k9] at e
     exact st _ _ _ e
   rw [if_neg k9] at e
   by_cases k10:k=iz
   · rw [if_pos k10] at e
     unfold iu at e
     split at e
     · rename_i s hs
       obtain ⟨_,rfl⟩:=cJ e
       exact (h.put (s':={ s with entry:=(aL (an w 0)).1 }) hs rfl).le (Nat.le_succ n)
     · cases e
   rw [if_neg k10] at e
   by_cases k11:k=iW
   · rw [if_pos k11] at e
     unfold ju at e
     split at e
     · rename_i s hs
       obtain ⟨_,rfl⟩:=cJ e
       exact (h.put (s':={ s with leave:=(aL (an w 0)).1 }) hs rfl).le (Nat.le_succ n)
     · cases e
   rw [if_neg k11] at e
   by_cases k12:k=wOn
   · rw [if_pos k12] at e
     unfold onC at e; obtain ⟨_,rfl⟩:=cJ e
     exact ⟨bj h.1,bj h.2,bj h.3,by have:=h.4; simp; omega,h.5⟩
   rw [if_neg k12] at e
   cases e
end Go.Proofs.YtpfidgnkokidoaaGreatDoor
namespace Go.Proofs.YtpfidgnkokidoaaGreatDoor
open Go Go.Ev
set_option maxRecDepth 100000
theorem pK:∀ (a:List Str) (c:Chart) (k:Nat) (b:List Str),dq c k (a++b)=match dq c k a with | (c',none)=>dq c' (k+a.length) b | x=>x
 | [],c,k,b=>rfl
 | l :: a,c,k,b=>by
   simp only [bC,dq]
   cases dK c k l with
   | none=>rfl
   | some c' =>
     simp only [pK a c' (k+1) b,ah,gR,Nat.add_comm 1]
theorem p8 (s:Str):(6000<s.length∧aq s=(c7,0,4))∨(¬6000<s.length∧((∃ c,dq c7 0 (dF s)=(c,none)∧aq s=(c,0,0))∨∃ k,(dq c7 0 (dF s)).2=some k∧aq s=(c7,(k:Int)+1,1))):=by
 by_cases h:6000<s.length
 · exact .inl ⟨h,by rw [aq,if_pos h]⟩
 · refine .inr ⟨h,?_⟩
   rcases e:dq c7 0 (dF s) with ⟨c,_ | k⟩
   · exact .inl ⟨c,rfl,by rw [aq,if_neg h,e]⟩
   · exact .inr ⟨k,rfl,by rw [aq,if_neg h,e]⟩
theorem kN {s:Str} (h:eL s):s.length≤6000∧dq c7 0 (dF s)=((aq s).1,none)∧aq s=((aq s).1,0,0):=by
 have h0:(aq s).2.2=0:=h
 rcases p8 s with ⟨_,e⟩ | ⟨h1,⟨c,e1,e⟩ | ⟨k,_,e⟩⟩
 · rw [e] at h0
   have h5:(4:Int)=0:=h0
   exact absurd h5 (by decide)
 · rw [e]; exact ⟨by omega,e1,rfl⟩
 · rw [e] at h0
   have h5:(1:Int)=0:=h0
   exact absurd h5 (by decide)
def ex1:Str:=[99,104,97,114,116,32,99,10,111,110,101,32,114,32,97,10,32,98,97,115,105,99,32,97,10,32,32,111,110,32,103,111,32,45,32,45,32,45,10]
def ex2:Str:=[99,104,97,114,116,32,99,10,32,98,97,115,105,99,32,97]
def exC:Chart:=⟨[99],[],[],[⟨[114],2,0,[97],[],[]⟩,⟨[97],1,1,[],[],[]⟩],[⟨1,[103,111],[],[],[]⟩]⟩
theorem Jv:dF ex2=[[99,104,97,114,116,32,99],[32,98,97,115,105,99,32,97]]:=by decide +kernel
theorem Gx:dK c7 0 [99,104,97,114,116,32,99]=some { c7 with name:=[99] }:=rfl
theorem NS:dK { c7 with name:=[99] } 1 [32,98,97,115,105,99,32,97]=none:=rfl
theorem Hu:aq ex2=(c7,2,1):=by
 unfold aq
 rw [if_neg (by decide),Jv]
 simp only [dq,Gx,NS]
 rfl
theorem Hv:dF ex1=[[99,104,97,114,116,32,99],[111,110,101,32,114,32,97],[32,98,97,115,105,99,32,97],[32,32,111,110,32,103,111,32,45,32,45,32,45]]:=by decide +kernel
def exA:Chart:=⟨[99],[],[],[⟨[114],2,0,[97],[],[]⟩],[]⟩
def exB:Chart:=⟨[99],[],[],[⟨[114],2,0,[97],[],[]⟩,⟨[97],1,1,[],[],[]⟩],[]⟩
theorem OT:dK { c7 with name:=[99] } 1 [111,110,101,32,114,32,97]=some exA:=rfl
theorem O8:dK exA 2 [32,98,97,115,105,99,32,97]=some exB:=rfl
theorem O7:dK exB 3 [32,32,111,110,32,103,111,32,45,32,45,32,45]=some exC:=by
 show onC exB 2 [[103,111],[45],[45],[45]]=some exC
 unfold onC
 rw [if_pos ⟨rfl,rfl,.inr rfl,.inl rfl,.inl rfl,.inl rfl⟩]
 have e:∀ {α:Type} (x:List α),(if an [[103,111],[45],[45],[45]] 1=dash then [] else x)=[]:=fun _=>if_pos rfl
 have e2:(if an [[103,111],[45],[45],[45]] 2=dash then [] else an [[103,111],[45],[45],[45]] 2)=[]:=if_pos rfl
 have e3:∀ {α:Type} (x:List α),(if an [[103,111],[45],[45],[45]] 3=dash then [] else x)=[]:=fun _=>if_pos rfl
 have e0:(if an [[103,111],[45],[45],[45]] 0=dash then [] else an [[103,111],[45],[45],[45]] 0)=[103,111]:=if_neg (by decide)
 rw [e,e2,e3,e0]; rfl
theorem Dj:aq ex1=(exC,0,0):=by
 unfold aq
 rw [if_neg (by decide),Hv]
 simp only [dq,Nat.reduceAdd,Gx,OT,O8,O7]
end Go.Proofs.YtpfidgnkokidoaaGreatDoor
namespace Go.Proofs
open Go.Shelf
def Tryz.lays152_ren:Go.Shelf.Ren:=⟨fun | 152=>153 | 137=>184 | 119=>185 | 224=>167 | 225=>166 | 217=>165 | 266=>191 | n=>n,fun | 9=>9 | 21=>21 | 3=>3 | 4=>4 | 5=>5 | 0=>0 | 46=>145 | n=>n,fun | n=>n⟩
theorem Tryz.lays152:Go.Proofs.Lays.n152 Tryz.prog Tryz.lays152_ren:={
 mixed:=by kernel_rfl
 f119:=Tryz.func185.trans (congrArg some (by kernel_rfl))
 f137:=Tryz.func184.trans (congrArg some (by kernel_rfl))
 f152:=Tryz.func153.trans (congrArg some (by kernel_rfl))
 f217:=Tryz.func165.trans (congrArg some (by kernel_rfl))
 f224:=Tryz.func167.trans (congrArg some (by kernel_rfl))
 f225:=Tryz.func166.trans (congrArg some (by kernel_rfl))
 f266:=Tryz.func191.trans (congrArg some (by kernel_rfl))
 t0:=Tryz.underlying0
 a0:=Tryz.isAgg0
 z0:=Tryz.sizeOf0
 v0:=Tryz.zeroValue0
 t3:=Tryz.underlying3
 a3:=Tryz.isAgg3
 z3:=Tryz.sizeOf3
 v3:=Tryz.zeroValue3
 t4:=Tryz.underlying4
 a4:=Tryz.isAgg4
 z4:=Tryz.sizeOf4
 v4:=Tryz.zeroValue4
 t5:=Tryz.underlying5
 a5:=Tryz.isAgg5
 z5:=Tryz.sizeOf5
 v5:=Tryz.zeroValue5
 t9:=Tryz.underlying9
 a9:=Tryz.isAgg9
 z9:=Tryz.sizeOf9
 v9:=Tryz.zeroValue9
 t21:=Tryz.underlying21
 a21:=Tryz.isAgg21
 z21:=Tryz.sizeOf21
 v21:=Tryz.zeroValue21
 t46:=Tryz.underlying145
 a46:=Tryz.isAgg145
 z46:=Tryz.sizeOf145
 v46:=Tryz.zeroValue145 }
def Tryz.lays227_ren:Go.Shelf.Ren:=⟨fun | 227=>146 | n=>n,fun | 9=>9 | 116=>190 | 4=>4 | 0=>0 | 3=>3 | 5=>5 | n=>n,fun | n=>n⟩
theorem Tryz.lays227:Go.Proofs.Lays.n227 Tryz.prog Tryz.lays227_ren:={
 mixed:=by kernel_rfl
 f227:=Tryz.func146.trans (congrArg some (by kernel_rfl))
 t0:=Tryz.underlying0
 a0:=Tryz.isAgg0
 z0:=Tryz.sizeOf0
 v0:=Tryz.zeroValue0
 t3:=Tryz.underlying3
 a3:=Tryz.isAgg3
 z3:=Tryz.sizeOf3
 v3:=Tryz.zeroValue3
 t4:=Tryz.underlying4
 a4:=Tryz.isAgg4
 z4:=Tryz.sizeOf4
 v4:=Tryz.zeroValue4
 t5:=Tryz.underlying5
 a5:=Tryz.isAgg5
 z5:=Tryz.sizeOf5
 v5:=Tryz.zeroValue5
 t9:=Tryz.underlying9
 a9:=Tryz.isAgg9
 z9:=Tryz.sizeOf9
 v9:=Tryz.zeroValue9
 t116:=Tryz.underlying190
 a116:=Tryz.isAgg190
 z116:=Tryz.sizeOf190 }
def Tryz.lays228_ren:Go.Shelf.Ren:=⟨fun | 228=>155 | n=>n,fun | 124=>194 | 5=>5 | 4=>4 | 0=>0 | 116=>190 | n=>n,fun | n=>n⟩
theorem Tryz.lays228:Go.Proofs.Lays.n228 Tryz.prog Tryz.lays228_ren:={
 mixed:=by kernel_rfl
 f228:=Tryz.func155.trans (congrArg some (by kernel_rfl))
 t0:=Tryz.underlying0
 a0:=Tryz.isAgg0
 z0:=Tryz.sizeOf0
 v0:=Tryz.zeroValue0
 t4:=Tryz.underlying4
 a4:=Tryz.isAgg4
 z4:=Tryz.sizeOf4
 v4:=Tryz.zeroValue4
 t5:=Tryz.underlying5
 a5:=Tryz.isAgg5
 z5:=Tryz.sizeOf5
 v5:=Tryz.zeroValue5
 t116:=Tryz.underlying190
 a116:=Tryz.isAgg190
 z116:=Tryz.sizeOf190
 t124:=Tryz.underlying194
 a124:=Tryz.isAgg194
 z124:=Tryz.sizeOf194
 v124:=Tryz.zeroValue194 }
open Go.RowKit Go.Lib in
theorem Tryz.strings_IndexRune_ascii (s:ByteArray) (r:Int) (w:World) (h0:0≤r) (h1:r<128) :
 Calls Tryz.prog 153 #[.string s,.int .i32 r] w fun e w'=>e = .returned (.int .i64 (Lib.indexByte s.data.toList r.toNat.toUInt8))∧w'=w:=Any.strings_IndexRune_ascii Tryz.lays152 s r w h0 h1
open Go.RowKit Go.Lib in
theorem Tryz.strings_makeASCIISet (hv116:∀ w,(zeroValue 190).run Tryz.prog w = .ok (.agg (Array.replicate 256 (.bool false))) w) (chars:ByteArray) (w:World) (hs:chars.size<4294967281) (hascii:∀ (j:Nat) b,chars.data.toList[j]?=some b→b.toNat<128) :
 Calls Tryz.prog 146 #[.string chars] w fun e w'=>e = .returned (.tuple #[.agg (Lib.setCells chars.data.toList),.bool true])∧w'=w.alloc (.cells (Lib.setCells chars.data.toList) 190):=Any.strings_makeASCIISet Tryz.lays227 hv116 (by kernel_rfl) chars w hs hascii
open Go.RowKit Go.Lib in
theorem Tryz.asciiSet_contains (b:Nat) (x:UInt8) (v:Bool) (w:World) (hc:w.cell? ⟨b,x.toNat,none⟩=some (.bool v)) :
 Calls Tryz.prog 155 #[.pointer (some ⟨b,0,none⟩),.int .u8 x.toNat] w fun e w'=>e = .returned (.bool v)∧w'=w:=Any.asciiSet_contains Tryz.lays228 b x v w hc
end Go.Proofs

/- Contracts: the document's Region, the law ConfMixed. Conditions: sizes. Lists of ints and of bytes among the laws' arguments. Conditions: none. Two lists of bytes, a byte, among the laws' arguments. Conditions: none. -/
import Derived.Test.YtcopfgbbjdefbaaGreatDoorDc
import Derived.Test.YtcopfgbbjdefbaaGreatDoorLx
import Derived.Test.YtcopfgbbjdefbaaGreatDoorTa
import Derived.OpenShut
namespace Go.Proofs.YtcopfgbbjdefbaaGreatDoor
open Go Go.Ev
set_option maxRecDepth 100000
abbrev zJ5De:=J Tryz.prog 5 (aw Tryz.f5)
abbrev zDe5:List PI:=[.code [1,0,0,0],.inLoop [1,0,0,0],.inBlock 0,.code [1,1]]
variable (l:List Ev.Stat) (p q:List Int) (m:Int) (c:Chart) (k:Nat) (n:Int) (r:Nat)
theorem Ho (hl:l.length≤maxLen) (Γ:Ctx):∀ (n i:Nat),i<l.length→i<n →
 J Tryz.prog 18 (aw Tryz.f18) Γ (Eq2 (.x (.i ((gP l n i:Nat):Int))) []) zDe5 ({ n:=13,fr:=[(0,.p (.lst .stat l)),(1,.i ((i:Int))),(4,.i 0)],ck:=[] }):=by
 intro n
 induction n with
 | zero=>intro i _ h; omega
 | succ n ih =>
   intro i hi hn
   have hb:=gu l i
   refine jg iQ Tryz.func18 (.need ((0:Int)≤(i:Int)∧(i:Int)<(l.length:Int)∧l.length≤maxLen) (.ite (decide (bm l i≥(0:Int))) (.need ((0:Int)≤(i:Int)∧(i:Int)<(l.length:Int)∧l.length≤maxLen) (.stop zDe5 { n:=13,fr:=[(0,.p (.lst .stat l)),(1,.i (bm l i)),(4,.i 0)],ck:=[] })) (.ret (.i i) []))) ?_
   refine ⟨⟨by omega,by omega,hl⟩,fun h=>⟨⟨by omega,by omega,hl⟩,?_⟩,fun h=>?_⟩
   · have h':bm l i≥0:=of_decide_eq_true h
     obtain ⟨q,hq⟩:=aF h'
     rw [gP,if_pos h',hq,aj]
     exact ih q (by omega) (by omega)
   · have h':¬bm l i≥0:=of_decide_eq_false h
     rw [gP,if_neg h']; exact ⟨rfl,rfl⟩
theorem Fm (i:Int) (h:0≤i∧i<(l.length:Int)∧l.length≤maxLen):ag Tryz.prog 18 [.l .stat l,.i i] [] (.x (.i ((gC l i.toNat:Nat):Int))) []:=by
 obtain ⟨k,rfl⟩:=aF h.1
 rw [aj]
 have key:ag Tryz.prog 18 [.l .stat l,.i (k:Int)] [] (.x (.i ((gC l k:Nat):Int))) []:=by
  refine dg iQ Tryz.func18 (.stop zDe5 { n:=13,fr:=[(0,.p (.lst .stat l)),(1,.i k),(4,.i 0)],ck:=[] }) fun Γ=>?_
  exact Ho l h.2.2 Γ l.length k (by omega) (by omega)
 exact key
def sU:Ent:=(18,fun
 | [.c (.pd (.lst .stat l)),.c (.pd (.int .i64 i))],[]=>some (some (0≤i∧i<(l.length:Int)∧l.length≤maxLen),.x (.c (.pd (.int .i64 ((gC l i.toNat:Nat):Int)))),[])
 | _,_=>none)
theorem Ey:EntOk Tryz.prog sU:=entOk fun vs ck=>by
 unfold sU; dsimp only; split
 · rename_i l i; exact entS fun hp=>Fm l i hp
 · exact entN
def mz:Cfg:=⟨bk,[mc,ko,pj,sU,xY,lJ]⟩
theorem kB:ah Tryz.prog mz.tab:=(ah.cons we (ah.cons uC (ah.cons Cv (ah.cons Ey (ah.cons HD (ah.cons wv ah.nil))))))
def iG:Nat:=((List.range r).filter fun k:Nat=>(ETy.get .stat l k).depth==0).length
theorem E4:iG l (r+1)=iG l r+(if ((ETy.get .stat l r).depth==0)=true then 1 else 0):=by
 unfold iG
 rw [dZ,bU,an,List.filter_cons]
 cases ((ETy.get .stat l r).depth==0) <;> rfl
theorem Ba:iG l r≤r:=by
 unfold iG
 exact au (bn _ _) (by simp)
def uz:Int:=IntKind.wrap .u8 ((BitVec.ofInt 8 (Int.fdiv m (2 ^ min (Int.tmod n 8).toNat 8)) &&& BitVec.ofInt 8 1).toNat:Int)
theorem Hn:0≤uz m n∧uz m n<2:=by
 unfold uz
 generalize Int.fdiv m (2 ^ min (Int.tmod n 8).toNat 8)=a
 have h:(BitVec.ofInt 8 a &&& BitVec.ofInt 8 1).toNat<2:=by
  rw [BitVec.toNat_and]
  exact Nat.lt_of_le_of_lt Nat.and_le_right (by decide)
 match (BitVec.ofInt 8 a &&& BitVec.ofInt 8 1).toNat,h with
 | 0,_=>decide
 | 1,_=>decide
def lR:Bool:=Nat.beq (0+(uz m n).toNat * 1) 0
def nF:List Int:=((List.range k).filter fun i:Nat=>inB (fB l (chM l (bif lR m ((iG l (gC l i):Nat):Int) then p else q))) (i:Int)).map fun i:Nat=>(i:Int)
theorem Dl:nF l p q m (k+1)=nF l p q m k++(if inB (fB l (chM l (bif lR m ((iG l (gC l k):Nat):Int) then p else q))) (k:Int)=true then [(k:Int)] else []):=by
 unfold nF
 rw [dZ,bU,bR,List.filter_cons]
 cases inB (fB l (chM l (bif lR m ((iG l (gC l k):Nat):Int) then p else q))) (k:Int) <;> rfl
theorem Hy:(nF l p q m k).length≤k:=by
 unfold nF
 rw [aL]
 exact au (bn _ _) (by simp)
abbrev zDe1 (a:Chart):Chunk:=.cells [.pd (.str a.name),.pd (.lst .str a.events),.pd (.lst .var a.vars),.pd (.lst .stat a.states),.pd (.lst .tran a.trans)] 27
abbrev zDe2:List PI:=[.code [1,1,1,1,0,1,0,0,1,1,0,0,1,1,1,0,1,0,0],.inLoop [1,1,1,1,0,1,0,0,1,1,0,0,1,1,1,0,1,0,0],.inBlock 2,.code [1,1,1,1,0,1,0,0,1,1,0,0,1,1,1,1],.inBlock 1,.code [1,1,1,1,0,1,0,0,1,1,1],.inLoop [1,1,1,1,0,1,0,0],.inBlock 0,.code [1,1,1,1,1]]
abbrev zDe3 (a:List Int) (b:List Int):Chunk:=.cells [.pd (.lst .byte a),.pd (.lst .byte b)] 38
abbrev zDe4:List PI:=[.code [1,1,1,1,0,1,0,0],.inLoop [1,1,1,1,0,1,0,0],.inBlock 0,.code [1,1,1,1,1]]
theorem mxi (t:Tre c.states) (p q:List Int) (hp:∀ b∈p,0≤b∧b≤255) (hq:∀ b∈q,0≤b∧b≤255) (m:Int) (i r n:Nat) (hn:n≤1000) (out:List Int) (ho:out.length≤1000) (Γ:Ctx) (Q:Out)
 (hcont:zJ5De Γ Q zDe4 ({ n:=60,fr:=[(2,.p (.int .u8 m)),(3,.x (.c (.loc 0 0))),(4,.x (.c (.loc 1 0))),(6,.p (.bool false)),(7,.x (.c (.own 2))),(19,.i c.states.length),(20,.i ((IntKind.wrap .i64 ((i:Int)+1))))],ck:=[zDe1 c,zDe3 p q,.own 3 .int (out++(if inB (fB c.states (chM c.states (bif lR m (n:Int) then p else q))) (i:Int)=true then [(i:Int)] else []))],kn:=[6] })) :
 zJ5De Γ Q zDe2 ({ n:=60,fr:=[(2,.p (.int .u8 m)),(3,.x (.c (.loc 0 0))),(4,.x (.c (.loc 1 0))),(6,.p (.bool false)),(7,.x (.c (.own 2))),(19,.i c.states.length),(20,.i i),(8,.i i),(10,.i ((n:Int))),(27,.i ((r:Int))),(28,.i ((r:Int)))],ck:=[zDe1 c,zDe3 p q,.own 3 .int out],kn:=[6] }):=by
 refine jg kB Tryz.func5 (let x1:=(↑(BitVec.toNat (BitVec.ofInt 8 (Int.fdiv m ((2:Int) ^ min ((Int.tmod (n:Int) (8:Int)).toNat) 8)) &&& BitVec.ofInt 8 (1:Int))):Int); let x2:List Chunk:=[zDe1 c,zDe3 p q,.own 3 .int out]; let x6:List Nat:=[1,1,1,1,0,1,0,0,1,1,0,0,1,1,1,0,1,0,0]; let x10:List Nat:=[1,1,1,1,0,1,0,0]; let x3:List PI:=[.code x6,.inLoop x6,.inBlock 2,.code [1,1,1,1,0,1,0,0,1,1,0,0,1,1,1,1],.inBlock 1,.code [1,1,1,1,0,1,0,0,1,1,1],.inLoop x10,.inBlock 0,.code [1,1,1,1,1]]; let x11:Nat×SV:=(3,.x (.c (.loc 0 0))); let x12:Nat×SV:=(4,.x (.c (.loc 1 0))); let x9:Nat×SV:=(19,.i c.states.length); let x4:List (Nat×SV):=[(2,.p (.int .u8 m)),x11,x12,(6,.p (.bool false)),(7,.x (.c (.own 2))),x9,(20,.i (IntKind.wrap .i64 ((i:Int)+1)))]; let x5:List PI:=[.code x10,.inLoop x10,.inBlock 0,.code [1,1,1,1,1]]; let x7:=(0+(IntKind.wrap .u8 x1).toNat * 1); let x8:=(IntKind.wrap .i64 ((r:Int)+1)); .ite (decide ((r:Int)<(r:Int))) (.need (inRg r c.states.length) (.ite (Stat.depth (ETy.get .stat c.states r)==(0:Int)) (.stop x3 { n:=60,fr:=[(2,.p (.int .u8 m)),x11,x12,(6,.p (.bool false)),(7,.x (.c (.own 2))),x9,(20,.i i),(8,.i i),(10,.i (IntKind.wrap .i64 ((n:Int)+1))),(27,.i r),(28,.i x8)],ck:=x2,kn:=[6] }) (.stop x3 { n:=60,fr:=[(2,.p (.int .u8 m)),x11,x12,(6,.p (.bool false)),(7,.x (.c (.own 2))),x9,(20,.i i),(8,.i i),(10,.i n),(27,.i r),(28,.i x8)],ck:=x2,kn:=[6] }))) (.need ((8:Int)≠(0:Int)) (.need ((0:Int)≤Int.tmod (n:Int) (8:Int)) (.need ((0:Int)≤IntKind.wrap .u8 x1∧IntKind.wrap .u8 x1<(↑(2:Nat):Int)) (.need (Holds none∧0+(IntKind.wrap .u8 x1).toNat * 1<2) (.need (Tre c.states∧∀ (b:ETy.den .byte),(b∈bif Nat.beq x7 0 then (p,q).1 else (p,q).2)→(0:ETy.den .byte)≤b∧b≤(255:ETy.den .byte)) (.ite (inB (fB c.states (chM c.states (bif Nat.beq x7 0 then (p,q).1 else (p,q).2))) (i:Int)) (.need (room ((out++[(i:Int)]).length) 8) (.stop x5 { n:=60,fr:=x4,ck:=[zDe1 c,zDe3 p q,.own 3 .int (out++[(i:Int)])] })) (.stop x5 { n:=60,fr:=x4,ck:=x2 })))))))) ?_
 conv=>zeta
 refine ⟨fun hlt=>?_,fun _=>?_⟩
 · have:=of_decide_eq_true hlt; omega
 · have hb2:=Hn m (n:Int)
   refine ⟨by decide,Int.tmod_nonneg _ (by omega),hb2,⟨trivial,?_⟩,⟨t,?_⟩,fun hb=>?_,fun hb=>?_⟩
   · show 0+(uz m (n:Int)).toNat * 1<2
     omega
   · intro b hb
     have hb':b∈(bif lR m (n:Int) then p else q):=hb
     cases hs:lR m (n:Int) with
     | true=>rw [hs] at hb'; exact hp b hb'
     | false=>rw [hs] at hb'; exact hq b hb'
   · have hb':inB (fB c.states (chM c.states (bif lR m (n:Int) then p else q))) (i:Int)=true:=hb
     rw [if_pos hb'] at hcont
     exact ⟨⟨by rw [an]; show (_+1) * 8≤_; omega,by rw [an]; show _+1≤_; unfold maxLen; omega⟩,J.kn [6] hcont⟩
   · have hb':inB (fB c.states (chM c.states (bif lR m (n:Int) then p else q))) (i:Int)=false:=hb
     rw [if_neg (by rw [hb']; decide),aN] at hcont
     exact J.kn [6] hcont
theorem Fl (p q:List Int) (m:Int) (i r:Nat) (hr:r≤c.states.length) (hm:c.states.length≤1000) (out:List Int) (Γ:Ctx) (Q:Out)
 (hend:zJ5De Γ Q zDe2 ({ n:=60,fr:=[(2,.p (.int .u8 m)),(3,.x (.c (.loc 0 0))),(4,.x (.c (.loc 1 0))),(6,.p (.bool false)),(7,.x (.c (.own 2))),(19,.i c.states.length),(20,.i i),(8,.i i),(10,.i (((iG c.states r:Nat):Int))),(27,.i ((r:Int))),(28,.i ((r:Int)))],ck:=[zDe1 c,zDe3 p q,.own 3 .int out],kn:=[6] })):∀ (n k:Nat),r - k≤n→k≤r →
 zJ5De Γ Q zDe2 ({ n:=60,fr:=[(2,.p (.int .u8 m)),(3,.x (.c (.loc 0 0))),(4,.x (.c (.loc 1 0))),(6,.p (.bool false)),(7,.x (.c (.own 2))),(19,.i c.states.length),(20,.i i),(8,.i i),(10,.i (((iG c.states k:Nat):Int))),(27,.i ((r:Int))),(28,.i ((k:Int)))],ck:=[zDe1 c,zDe3 p q,.own 3 .int out],kn:=[6] }):=by
 have hml:r≤maxLen:=by unfold maxLen; omega
 intro nn
 induction nn with
 | zero=>?_
 | succ nn ih=>?_
 all_goals
  intro k hn hk
  by_cases hk':k<r
  · have hc:=E4 c.states k
    have hcl:=Ba c.states k
    generalize hcn:iG c.states k=n at hc hcl
    refine jg kB Tryz.func5 (let x1:=(↑(BitVec.toNat (BitVec.ofInt 8 (Int.fdiv m ((2:Int) ^ min ((Int.tmod (n:Int) (8:Int)).toNat) 8)) &&& BitVec.ofInt 8 (1:Int))):Int); let x2:List Chunk:=[zDe1 c,zDe3 p q,.own 3 .int out]; let x6:List Nat:=[1,1,1,1,0,1,0,0,1,1,0,0,1,1,1,0,1,0,0]; let x10:List Nat:=[1,1,1,1,0,1,0,0]; let x3:List PI:=[.code x6,.inLoop x6,.inBlock 2,.code [1,1,1,1,0,1,0,0,1,1,0,0,1,1,1,1],.inBlock 1,.code [1,1,1,1,0,1,0,0,1,1,1],.inLoop x10,.inBlock 0,.code [1,1,1,1,1]]; let x11:Nat×SV:=(3,.x (.c (.loc 0 0))); let x12:Nat×SV:=(4,.x (.c (.loc 1 0))); let x9:Nat×SV:=(19,.i c.states.length); let x4:List (Nat×SV):=[(2,.p (.int .u8 m)),x11,x12,(6,.p (.bool false)),(7,.x (.c (.own 2))),x9,(20,.i (IntKind.wrap .i64 ((i:Int)+1)))]; let x5:List PI:=[.code x10,.inLoop x10,.inBlock 0,.code [1,1,1,1,1]]; let x7:=(0+(IntKind.wrap .u8 x1).toNat * 1); let x8:=(IntKind.wrap .i64 ((k:Int)+1)); .ite (decide ((k:Int)<(r:Int))) (.need (inRg k c.states.length) (.ite (Stat.depth (ETy.get .stat c.states k)==(0:Int)) (.stop x3 { n:=60,fr:=[(2,.p (.int .u8 m)),x11,x12,(6,.p (.bool false)),(7,.x (.c (.own 2))),x9,(20,.i i),(8,.i i),(10,.i (IntKind.wrap .i64 ((n:Int)+1))),(27,.i r),(28,.i x8)],ck:=x2,kn:=[6] }) (.stop x3 { n:=60,fr:=[(2,.p (.int .u8 m)),x11,x12,(6,.p (.bool false)),(7,.x (.c (.own 2))),x9,(20,.i i),(8,.i i),(10,.i n),(27,.i r),(28,.i x8)],ck:=x2,kn:=[6] }))) (.need ((8:Int)≠(0:Int)) (.need ((0:Int)≤Int.tmod (n:Int) (8:Int)) (.need ((0:Int)≤IntKind.wrap .u8 x1∧IntKind.wrap .u8 x1<(↑(2:Nat):Int)) (.need (Holds none∧0+(IntKind.wrap .u8 x1).toNat * 1<2) (.need (Tre c.states∧∀ (b:ETy.den .byte),(b∈bif Nat.beq x7 0 then (p,q).1 else (p,q).2)→(0:ETy.den .byte)≤b∧b≤(255:ETy.den .byte)) (.ite (inB (fB c.states (chM c.states (bif Nat.beq x7 0 then (p,q).1 else (p,q).2))) (i:Int)) (.need (room ((out++[(i:Int)]).length) 8) (.stop x5 { n:=60,fr:=x4,ck:=[zDe1 c,zDe3 p q,.own 3 .int (out++[(i:Int)])] })) (.stop x5 { n:=60,fr:=x4,ck:=x2 })))))))) ?_
    conv=>zeta
    refine ⟨fun hlt=>⟨⟨by omega,by omega⟩,fun hb=>?_,fun hb=>?_⟩,fun hge=>?_⟩
    · rw [if_pos (by exact hb)] at hc
      rw [aZ (aE hk' hml),aZ (aE (show n<r by omega) hml),← hc]
      first
      | (exfalso; omega)
      | exact ih (k+1) (by omega) (by omega)
    · have hb':((ETy.get .stat c.states k).depth==0)=false:=hb
      rw [if_neg (by rw [hb']; decide)] at hc
      have hc2:iG c.states (k+1)=n:=hc
      rw [aZ (aE hk' hml),← hc2]
      first
      | (exfalso; omega)
      | exact ih (k+1) (by omega) (by omega)
    · have:=of_decide_eq_false hge; omega
  · have hke:k=r:=by omega
    subst hke
    exact hend
theorem uD (l:List Ev.Stat):∀ (n i:Nat),gP l n i≤i
 | 0,_=>ar _
 | n+1,i=>by
   rw [gP]
   have hb:=gu l i
   by_cases h:bm l i≥0
   · rw [if_pos h]; exact au (uD l n _) (by omega)
   · rw [if_neg h]; exact ar _
theorem Ih (hv:Valid c) (p q:List Int) (hp:∀ b∈p,0≤b∧b≤255) (hq:∀ b∈q,0≤b∧b≤255) (m:Int) (hfin:cW c.states (nF c.states p q m c.states.length)=true) (Γ:Ctx):∀ (n i:Nat),c.states.length - i≤n→i≤c.states.length →
 zJ5De Γ (Eq2 (.x (.b true)) []) zDe4 ({ n:=60,fr:=[(2,.p (.int .u8 m)),(3,.x (.c (.loc 0 0))),(4,.x (.c (.loc 1 0))),(6,.p (.bool false)),(7,.x (.c (.own 2))),(19,.i c.states.length),(20,.i ((i:Int)))],ck:=[zDe1 c,zDe3 p q,.own 3 .int (nF c.states p q m i)],kn:=[6] }):=by
 have t:=hv.tre
 have hst:=(iK c).1 hv.few
 have hml:c.states.length≤maxLen:=by unfold maxLen; omega
 intro n
 induction n with
 | zero=>?_
 | succ n ih=>?_
 all_goals
  intro i hn hi
  have hol:=Hy c.states p q m i
  have ht:=Dl c.states p q m i
  generalize hout:nF c.states p q m i=out at hol ht
  refine jg kB Tryz.func5 (.ite (decide ((i:Int)<(c.states.length:Int))) (.need ((0:Int)≤(i:Int)∧(i:Int)<(c.states.length:Int)∧c.states.length≤maxLen) (.stop zDe2 { n:=60,fr:=[(2,.p (.int .u8 m)),(3,.x (.c (.loc 0 0))),(4,.x (.c (.loc 1 0))),(6,.p (.bool false)),(7,.x (.c (.own 2))),(19,.i c.states.length),(20,.i i),(8,.i i),(10,.i 0),(27,.i (↑(gC c.states i):Int)),(28,.i 0)],ck:=[zDe1 c,zDe3 p q,.own 3 .int out],kn:=[6] })) (.need (Valid c∧cW c.states out=true) (.ret (.p (.bool true)) []))) ?_
  refine ⟨fun hlt=>?_,fun hge=>?_⟩
  · have hi':i<c.states.length:=by have:=of_decide_eq_true hlt; omega
    have hrg:gC c.states i≤i:=uD _ _ _
    have hcl:=Ba c.states (gC c.states i)
    refine ⟨⟨by omega,by omega,hml⟩,?_⟩
    generalize gC c.states i=r at hrg hcl ht
    refine J.kn [6] (Fl c p q m i r (by omega) (by omega) out Γ _ (mxi c t p q hp hq m i r _ (by omega) out (by omega) Γ _ ?_) r 0 (by omega) (by omega))
    rw [← ht,aZ (aE hi' hml)]
    first
    | (exfalso; omega)
    | exact ih (i+1) (by omega) (by omega)
  · have hie:i=c.states.length:=by have:=of_decide_eq_false hge; omega
    subst hie
    rw [hout] at hfin
    exact ⟨⟨hv,hfin⟩,rfl,rfl⟩
theorem CY (p q:List Int) (m:Int) (h:qG c) (hp:∀ b∈p,0≤b∧b≤255) (hq:∀ b∈q,0≤b∧b≤255):ag Tryz.prog 5 [.e .chart c,.agg [.pd (.lst .byte p),.pd (.lst .byte q)],.c (.pd (.int .u8 m))] [] (.x (.b true)) []:=by
 have hb:=IQ h
 refine dg kB Tryz.func5 (.ite false (.ret (.p (.bool false)) []) (.need (∀ (s:ETy.den .stat),s∈c.states→s.entry.length≤4398046511104∧s.leave.length≤4398046511104) (.ite (!cv c==(0:Int)) (.ret (.p (.bool true)) []) (.stop zDe4 { n:=60,fr:=[(2,.p (.int .u8 m)),(3,.x (.c (.loc 0 0))),(4,.x (.c (.loc 1 0))),(6,.p (.bool false)),(7,.p (.v (Value.slice none 0 0))),(19,.i c.states.length),(20,.i 0)],ck:=[zDe1 c,zDe3 p q],kn:=[6] })))) fun Γ=>?_
 refine ⟨fun h0=>absurd h0 (by decide),fun _=>⟨hb,fun _=>⟨rfl,rfl⟩,fun h1=>?_⟩⟩
 have h1':(!cv c==0)=false:=h1
 have h2:(cv c==0)=true:=by simpa using h1'
 have hv:=(hX c).1 (eq_of_beq h2)
 have t:=hv.tre
 have hL:∀ b:Bool,Lgl c.states (fB c.states (chM c.states (bif b then p else q))):=fun b=>by
  cases b with
  | true=>exact pJ t (pW t hp)
  | false=>exact pJ t (pW t hq)
 have hfin:=(Bd t.shp _).2 (Cc t hL fun r=>lR m ((iG c.states r:Nat):Int))
 refine J.nilOwn 7 3 .int rfl (by kernel_rfl) ?_
 exact Ih c hv p q hp hq m hfin Γ c.states.length 0 (by omega) (by omega)
end Go.Proofs.YtcopfgbbjdefbaaGreatDoor
namespace Go.Proofs.YtcopfgbbjdefbaaGreatDoor
open Go Go.Ev Go.RowKit Go.ChangeShapes Go.WideShapes Go.ChangeAt
set_option maxRecDepth 100000
section
variable {Hh:Type} {enc:TypeId×Value→Hh} {W:World} {base:Nat} {spare:Nat→Bool} {held:Bool}
theorem xg (n:Nat) (cs:List Value) (y:DataW Hh×List MemPlace) (h:DataW.trod enc Tryz.prog W base spare held n 5 cs=some y):∃ r:Int,All2 (PR (HW W)) (ETy.byte.enc r) cs∧(0≤r∧r≤255):=by
 obtain ⟨k,h1,_,h2⟩:=DataW.trod_int Tryz.underlying5 h
 simp only [Lit.wf,af,decide_eq_true_eq] at h2
 have e1:IntKind.u8.min=0:=by decide
 have e2:IntKind.u8.max=255:=by decide
 rw [e1,e2] at h2
 exact ⟨k,by rw [h1]; exact .cons (.int _ k) .nil,h2⟩
end
end Go.Proofs.YtcopfgbbjdefbaaGreatDoor
namespace Go.Proofs.YtcopfgbbjdefbaaGreatDoor
open Go Go.Ev Go.RowKit Go.ChangeShapes Go.WideShapes Go.ChangeAt
set_option maxRecDepth 100000
section
variable {Hh:Type} {enc:TypeId×Value→Hh} {W:World} {base:Nat} {spare:Nat→Bool} {held:Bool}
theorem Jv {v:Value} {d:DataW Hh} {ps:List MemPlace} {b0:Nat} (h:DataW.Trod enc Tryz.prog W base spare held 5 v d ps) (hv:Value.okWide Tryz.prog W .any b0 5 v) :
 ∃ n:Int,SX.R (VW W) (.c (.pd (.int .u8 n))) v∧0≤n∧n≤255:=by
 have hv':Cell.okWide Tryz.prog W .any b0 5 v:=by simpa only [Value.okWide,Tryz.underlying5] using hv
 obtain ⟨fuel,hf⟩:=h
 have hc:v.cells.toList=[v]:=by
  have hv2:=hv'
  simp only [Cell.okWide,Tryz.underlying5,Cell.ok] at hv2
  cases v <;> first | rfl | exact hv2.elim
 rw [hc] at hf
 obtain ⟨n,h1,_,h2⟩:=DataW.trod_int Tryz.underlying5 hf
 simp only [dt,and_true] at h1
 subst h1
 simp only [Lit.wf,af,decide_eq_true_eq] at h2
 have e1:IntKind.u8.min=0:=by decide
 have e2:IntKind.u8.max=255:=by decide
 rw [e1,e2] at h2
 exact ⟨n,.int _ n,h2.1,h2.2⟩
theorem Ck {cs:Array Value} (h:cs.size=2):∃ a b,cs=#[a,b]:=by
 obtain ⟨l⟩:=cs
 match l,h with
 | [a,b],_=>exact ⟨a,b,rfl⟩
theorem yC {v:Value} {d:DataW Hh} {ps:List MemPlace} {b0:Nat} (h:DataW.Trod enc Tryz.prog W base spare held 38 v d ps) (hv:Value.okWide Tryz.prog W .any b0 38 v) :
 ∃ l r:List Int,SX.R (VW W) (.agg [.pd (.lst .byte l),.pd (.lst .byte r)]) v∧(∀ b∈l,0≤b∧b≤255)∧∀ b∈r,0≤b∧b≤255:=by
 simp only [Value.okWide,Tryz.underlying38] at hv
 obtain ⟨cs,rfl,hsz,ts,hts,_,hcs⟩:=hv
 have ets:ts=[35,35]:=by
  have e:Tryz.prog.cellTypes Tryz.prog.depth 38=some [35,35]:=by kernel_rfl
  rw [e] at hts; exact (dq hts).symm
 subst ets
 have c26:Tryz.prog.cellsOf 38=2:=by kernel_rfl
 rw [c26] at hsz
 obtain ⟨v1,v2,rfl⟩:=Ck hsz
 obtain ⟨u1,hu1,ok1⟩:=hcs 0 v1 rfl
 obtain ⟨u2,hu2,ok2⟩:=hcs 1 v2 rfl
 have e1:u1=35:=by simpa using hu1.symm
 have e2:u2=35:=by simpa using hu2.symm
 subst e1; subst e2
 obtain ⟨fuel,hf⟩:=h
 obtain ⟨xs,m,_,hx,hl,hlen,hf⟩:=DataW.trod_array Tryz.underlying38 hf
 have l2:xs.length=2:=hlen
 have h0:=hf 0 (by omega)
 have h1:=hf 1 (by omega)
 match xs,l2 with
 | [y0,y1],_ =>
 have c23:Tryz.prog.cellsOf 35=1:=by kernel_rfl
 rw [c23] at h0 h1
 replace h0:DataW.trod enc Tryz.prog W base spare held m 35 [v1]=some y0:=h0
 replace h1:DataW.trod enc Tryz.prog W base spare held m 35 [v2]=some y1:=h1
 obtain ⟨l,q1,q2,_⟩:=mY .byte (Q:=fun b:Int=>0≤b∧b≤255) Tryz.underlying35 (by kernel_rfl) xg h0 ⟨_,_,ok1⟩
 obtain ⟨r,r1,r2,_⟩:=mY .byte (Q:=fun b:Int=>0≤b∧b≤255) Tryz.underlying35 (by kernel_rfl) xg h1 ⟨_,_,ok2⟩
 exact ⟨l,r,⟨[v1,v2],rfl,.cons q1 (.cons r1 .nil)⟩,q2,r2⟩
end
end Go.Proofs.YtcopfgbbjdefbaaGreatDoor

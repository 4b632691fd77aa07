/- Contracts: the layer's example holds. Conditions: none. Contracts: the layer's copied, Made. Conditions: sizes. Lists of ints and of bytes among the laws' arguments. Conditions: none. Lists of lists of bytes, lists of what histories remember, among the laws' arguments. Conditions: none. Contracts: the law MovesRight. Conditions: sizes. -/
import Derived.Test.YtgfifkhbfdacjaaGreatDoorEq
import Derived.Test.YtgfifkhbfdacjaaGreatDoorEl
import Derived.Test.YtgfifkhbfdacjaaGreatDoorEi
import Derived.Test.YtgfifkhbfdacjaaGreatDoorVl
import Derived.Test.YtgfifkhbfdacjaaGreatDoorLx
import Derived.Test.YtgfifkhbfdacjaaGreatDoorKb
import Derived.Test.YtgfifkhbfdacjaaGreatDoorSo
import Derived.Test.YtgfifkhbfdacjaaGreatDoorEh
namespace Go.Proofs.YtgfifkhbfdacjaaGreatDoor
open Go Go.Ev
set_option maxRecDepth 100000
theorem wK {V:Vn} {a:Str} {b:List Str} {d:List Ev.Stat} {e:List Tran} {u:Value} (h:SX.R V (.agg [.pd (.str a),.pd (.lst .str b),.pd (.v (.slice none 0 0)),.pd (.lst .stat d),.pd (.lst .tran e)]) u):SX.R V (.e .chart ⟨a,b,[],d,e⟩) u:=by
 obtain ⟨us,e,hu⟩:=h
 refine ⟨us,e,?_⟩
 cases hu with | cons h0 hu=>cases hu with | cons h1 hu=>cases hu with | cons h2 hu=>cases hu with | cons h3 hu=>cases hu with | cons h4 hu =>
  cases hu
  exact .cons h0 (.cons h1 (.cons (n8 h2) (.cons h3 (.cons h4 .nil))))
variable (a:Str) (b:List Str) (d:List Ev.Stat) (e:List Tran) (ps:List Past)
theorem Dx (l left:List Int) (h:d.length≤2199023255552):ah Tryz.prog 18 [.agg [.pd (.str a),.pd (.lst .str b),.pd (.v (.slice none 0 0)),.pd (.lst .stat d),.pd (.lst .tran e)],.l .int l,.l .int left,.l .past []] [] (.x (.c (.pd (.lst .past (qy ⟨a,b,[],d,e⟩ l left))))) [] :=
 ah.sub (fun V vs hv=>by
  cases hv with | cons h1 hv=>exact .cons (wK h1) hv) (Ha ⟨a,b,[],d,e⟩ l left ⟨by simp,h⟩)
def r5:Ent:=(18,fun
 | [.agg [.pd (.str a),.pd (.lst .str b),.pd (.v (.slice none 0 0)),.pd (.lst .stat d),.pd (.lst .tran e)],.c (.pd (.lst .int l)),.c (.pd (.lst .int left)),.c (.pd (.lst .past []))],[]=>some (some (d.length≤2199023255552∧qy ⟨a,b,[],d,e⟩ l left=[⟨5,[4]⟩]),.x (.c (.pd (.lst .past [⟨5,[4]⟩]))),[])
 | _,_=>none)
theorem E9:EntOk Tryz.prog r5:=entOk fun vs ck=>by
 unfold r5; dsimp only; split
 · rename_i a b d e l left; exact entS fun hp=>by rw [← hp.2]; exact Dx a b d e l left hp.1
 · exact entN
theorem uS (t:Int) (ps:List Past) (h:d.length≤2199023255552):ah Tryz.prog 15 [.agg [.pd (.str a),.pd (.lst .str b),.pd (.v (.slice none 0 0)),.pd (.lst .stat d),.pd (.lst .tran e)],.i t,.l .past ps] [] (.x (.c (.pd (.lst .int (jv ⟨a,b,[],d,e⟩ t ps))))) [] :=
 ah.sub (fun V vs hv=>by
  cases hv with | cons h1 hv=>exact .cons (wK h1) hv) (Iu ⟨a,b,[],d,e⟩ t ps ⟨by simp,h⟩)
def rV:Ent:=(15,fun
 | [.agg [.pd (.str a),.pd (.lst .str b),.pd (.v (.slice none 0 0)),.pd (.lst .stat d),.pd (.lst .tran e)],.c (.pd (.int .i64 t)),.c (.pd (.lst .past (p::q)))],[]=>some (some (d.length≤2199023255552∧jv ⟨a,b,[],d,e⟩ t (p::q)=[2,4]),.x (.c (.pd (.lst .int [2,4]))),[])
 | _,_=>none)
theorem Ez:EntOk Tryz.prog rV:=entOk fun vs ck=>by
 unfold rV; dsimp only; split
 · rename_i a b d e t p q; exact entS fun hp=>by rw [← hp.2]; exact uS a b d e t (p::q) hp.1
 · exact entN
def rn:Ent:=(15,fun
 | [.agg [.pd (.str a),.pd (.lst .str b),.pd (.v (.slice none 0 0)),.pd (.lst .stat d),.pd (.lst .tran e)],.c (.pd (.int .i64 t)),.c (.pd (.lst .past []))],[]=>some (some (d.length≤2199023255552∧jv ⟨a,b,[],d,e⟩ t []=[1]),.x (.c (.pd (.lst .int [1]))),[])
 | _,_=>none)
theorem GH:EntOk Tryz.prog rn:=entOk fun vs ck=>by
 unfold rn; dsimp only; split
 · rename_i a b d e t; exact entS fun hp=>by rw [← hp.2]; exact uS a b d e t [] hp.1
 · exact entN
def Of:Cfg:=⟨aX,[vJ,r5,rV,rn,oE]⟩
theorem FA:ag Tryz.prog Of.tab:=(ag.cons Jn (ag.cons E9 (ag.cons Ez (ag.cons GH (ag.cons u7 ag.nil)))))
def exC:Chart:=⟨[99],[[103,111]],[],[⟨[114],2,0,[97],[],[]⟩,⟨[97],1,1,[],[],[]⟩,⟨[98],2,1,[99],[],[]⟩,⟨[99],1,2,[],[],[]⟩,⟨[100],1,2,[],[],[]⟩,⟨[104],6,1,[97],[],[]⟩],[⟨1,[103,111],[],[104],[]⟩]⟩
theorem xc:bx exC=0:=by
 refine (iT _).2 ⟨by decide,by decide,by decide,by decide,by decide,by decide,fun k hk=>?_,fun k hk=>absurd hk (Nat.not_lt_zero _),fun k hk=>?_,fun k hk=>?_⟩
 · have hk':k<6:=hk
   rcases (show k=0∨k=1∨k=2∨k=3∨k=4∨k=5 by omega) with rfl | rfl | rfl | rfl | rfl | rfl <;> decide
 · have hk':k<6:=hk
   rcases (show k=0∨k=1∨k=2∨k=3∨k=4∨k=5 by omega) with rfl | rfl | rfl | rfl | rfl | rfl <;> decide
 · have hk':k<1:=hk
   have:k=0:=by omega
   subst this; decide
theorem Oc:qy exC [0,2,4] [0,2,4]=[⟨5,[4]⟩]:=by
 have e:(bx exC==0&&dL exC.states [0,2,4])=true:=by rw [xc]; kernel_rfl
 have e2:Cb exC.states [0,2,4] [0,2,4]=[⟨5,[4]⟩]:=by kernel_rfl
 unfold qy
 rw [e,if_pos rfl]
 exact e2
theorem KG (r:List Int) (h1:bB (b6 exC.states) none ps=true) (h2:rO exC.states (ETy.get .tran exC.trans 0) ps=r):jv exC 0 ps=r:=by
 have e:kp exC 0 ps=false:=by
  unfold kp
  rw [xc,h1]; kernel_rfl
 unfold jv
 rw [e,if_neg (by decide)]
 exact h2
theorem B8:ah Tryz.prog 9 [] [] (.x (.b true)) []:=by
 refine ah.of Tryz.func9 (by kernel_rfl) (by kernel_rfl) fun Γ=>?_
 refine (kY (a:=[]) (fn:=Tryz.f9) (fz:=999) FA Tryz.func9 20 (ps:=[6≤2199023255552∧jv exC 0 []=[1],6≤2199023255552∧jv exC 0 [⟨5,[4]⟩]=[2,4],true=true→(0:Int)≤0∧(0:Int)<(1:Nat),6≤2199023255552∧qy exC [0,2,4] [0,2,4]=[⟨5,[4]⟩],exW=exW]) (by kernel_rfl) ?_ ⟨rfl,rfl⟩).1
 exact ⟨⟨by decide,KG _ _ (by kernel_rfl) (by kernel_rfl)⟩,⟨by decide,KG _ _ (by kernel_rfl) (by kernel_rfl)⟩,fun _=>⟨by decide,by decide⟩,⟨by decide,Oc⟩,rfl,trivial⟩
def rS:Ent:=(9,fun
 | [],[]=>some (none,.x (.c (.pd (.bool true))),[])
 | _,_=>none)
theorem Gx:EntOk Tryz.prog rS:=entOk fun vs ck=>by
 unfold rS; dsimp only; split
 · exact entS fun hp=>B8
 · exact entN
end Go.Proofs.YtgfifkhbfdacjaaGreatDoor
namespace Go.Proofs.YtgfifkhbfdacjaaGreatDoor
open Go Go.Ev
set_option maxRecDepth 100000
def r9:Cfg:=⟨aX,[]⟩
theorem ot:ag Tryz.prog r9.tab:=ag.nil
theorem JB {l:List Past} {i:Nat} (h:i<l.length):l.set i ⟨(ETy.get .past l i).state,[]++(ETy.get .past l i).set⟩=l:=by
 have e:(⟨(ETy.get .past l i).state,[]++(ETy.get .past l i).set⟩:Past)=ETy.get .past l i:=rfl
 rw [e,ETy.get_eq (t:=.past) (List.getElem?_eq_getElem h)]
 exact List.set_getElem_self h
abbrev zEk2:List PI:=[.code [1,1,0,1,0,0],.inLoop [1,1,0,1,0,0],.inBlock 0,.code [1,1,1]]
abbrev zEk3:List PI:=[.ops [1,1,0,1,0,0,1,1,0,0,1] 11,.inBlock 1,.code [1,1,0,1,0,0,1,1,1],.inLoop [1,1,0,1,0,0],.inBlock 0,.code [1,1,1]]
variable (c:Chart) (l:List Past)
theorem Mw (Γ:Ctx) (hm:l.length≤maxLen) (h:∀ p∈l,room p.set.length 8):∀ (n i:Nat),l.length - i≤n→i≤l.length →
 J Tryz.prog 12 (au Tryz.f12) Γ (Eq2 (.x (.c (.own 0))) [.own 40 .past l]) zEk2 ({ n:=26,fr:=[(2,.p (.v (Value.slice none 0 0))),(3,.x (.c (.own 0))),(9,.i (↑(([]++l).length):Int)),(10,.i ((i:Int)))],ck:=[.own 40 .past l] }):=by
 intro n
 induction n with
 | zero=>?_
 | succ n ih=>?_
 all_goals
  intro i hn hi
  refine jg ot Tryz.func12 (.ite (decide ((i:Int)<(↑(([]++l).length):Int))) (.need (inRg i l.length) (.need (i<l.length) (.need (room (([]++Past.set (ETy.get .past l i)).length) 8) (.need (inRg i l.length) (.stop zEk3 { n:=26,fr:=[(2,.p (.v (Value.slice none 0 0))),(3,.x (.c (.own 0))),(9,.i (↑(([]++l).length):Int)),(10,.i i),(21,.x (.c (.own 1))),(23,.x (.c (.oat 0 i 2 1)))],ck:=[.own 40 .past l,.own 3 .int ([]++Past.set (ETy.get .past l i))] }))))) (.ret (.x (.c (.own 0))) [.own 40 .past l])) ?_
  refine ⟨fun hlt=>?_,fun _=>⟨rfl,rfl⟩⟩
  have hi':i<l.length:=by have:=of_decide_eq_true hlt; exact Int.ofNat_lt.1 this
  have hr:=h (ETy.get .past l i) (by rw [ETy.get_eq (t:=.past) (List.getElem?_eq_getElem hi')]; exact bf hi')
  refine ⟨⟨by omega,by omega⟩,hi',hr,⟨by omega,by omega⟩,?_⟩
  have hz:J Tryz.prog 12 (au Tryz.f12) Γ (Eq2 (.x (.c (.own 0))) [.own 40 .past l]) zEk3 ({ n:=26,fr:=[(2,.p (.v (Value.slice none 0 0))),(3,.x (.c (.own 0))),(9,.i (↑(([]++l).length):Int)),(10,.i i),(21,.p (.lst .int (([]++(ETy.get .past l i).set)))),(23,.x (.c (.oat 0 i 2 1)))],ck:=[.own 40 .past l,.dead] }):=by
   refine jg ot Tryz.func12 (.need (i<l.length) (.stop zEk2 { n:=26,fr:=[(2,.p (.v (Value.slice none 0 0))),(3,.x (.c (.own 0))),(9,.i (↑(([]++l).length):Int)),(10,.i (IntKind.wrap .i64 ((i:Int)+1)))],ck:=[.own 40 .past (List.set l i { state:=Past.state (ETy.get .past l i),set:=[]++Past.set (ETy.get .past l i) })] })) ?_
   refine ⟨hi',?_⟩
   rw [aU (aB hi' hm),JB hi']
   first
   | (exfalso; omega)
   | exact ih (i+1) (by omega) (by omega)
  exact J.freeze aX [1] (by kernel_rfl) hz
theorem Lh (h:room l.length 32∧∀ p∈l,room p.set.length 8):ah Tryz.prog 12 [.l .past l] [] (.x (.c (.own 0))) [.own 40 .past l]:=by
 refine dg ot Tryz.func12 (.need (room (([]++l).length) 32) (.stop zEk2 { n:=26,fr:=[(2,.p (.v (Value.slice none 0 0))),(3,.x (.c (.own 0))),(9,.i (↑(([]++l).length):Int)),(10,.i 0)],ck:=[.own 40 .past ([]++l)] })) fun Γ=>?_
 exact ⟨h.1,Mw l Γ h.1.2 h.2 l.length 0 (by omega) (by omega)⟩
theorem Hv (h:room l.length 32∧∀ p∈l,room p.set.length 8):ah Tryz.prog 12 [.l .past l] [] (.x (.c (.pd (.lst .past l)))) []:=ah.chop (ck':=[]) (ah.frz aX [0] (Lh l h) rfl rfl)
def we:Ent:=(12,fun
 | [.c (.pd (.lst .past l))],[]=>some (some (room (List.length l) 32∧∀ p:Past,p∈l→room (Past.set p).length 8),.x (.c (.pd (.lst .past l))),[])
 | _,_=>none)
theorem Ko:EntOk Tryz.prog we:=entOk fun vs ck=>by
 unfold we; dsimp only; split
 · rename_i l; exact entS fun hp=>Hv l hp
 · exact entN
/-! ### Made -/
def qT:Cfg:=⟨aX,[rz,vZ]⟩
theorem o5:ag Tryz.prog qT.tab:=(ag.cons FV (ag.cons Hx ag.nil))
abbrev zEk1 (a:Chart):Chunk:=.cells [.pd (.str a.name),.pd (.lst .str a.events),.pd (.lst .var a.vars),.pd (.lst .stat a.states),.pd (.lst .tran a.trans)] 27
theorem Jw (ps:List (List Int)) (out:List Past) (s:List Int) (i:Nat) (Γ:Ctx) (Q:Out) (hs:s.length≤1000∧∀ y∈s,0≤y∧y<(c.states.length:Int)) (hm:c.states.length≤1000)
 (hcont:J Tryz.prog 14 (au Tryz.f14) Γ Q zEk2 ({ n:=51,fr:=[(1,.p (.lst ETy.bytes ps)),(2,.x (.c (.loc 0 0))),(4,.p (.v (Value.slice none 0 0))),(5,.p (.lst .past ((nX c.states s (K5 c.states s (Int.tmod (i:Int) 3)) out)))),(12,.i ps.length),(13,.i ((IntKind.wrap .i64 ((i:Int)+1))))],ck:=[zEk1 c] })):∀ (n k:Nat),s.length - k≤n→k≤s.length→∀ left,left=(s.take k).filter (fun k=>decide ((ETy.get .stat c.states k.toNat).depth≥Int.tmod (i:Int) 3)) →
 J Tryz.prog 14 (au Tryz.f14) Γ Q [.code [1,1,0,1,0,0,1,1,0,0,1,1,1,1,0,1,0,0],.inLoop [1,1,0,1,0,0,1,1,0,0,1,1,1,1,0,1,0,0],.inBlock 2,.code [1,1,0,1,0,0,1,1,0,0,1,1,1,1,1],.inBlock 1,.code [1,1,0,1,0,0,1,1,1],.inLoop [1,1,0,1,0,0],.inBlock 0,.code [1,1,1]] ({ n:=51,fr:=[(7,.p (.lst .int s)),(1,.p (.lst ETy.bytes ps)),(2,.x (.c (.loc 0 0))),(4,.p (.v (Value.slice none 0 0))),(5,.p (.lst .past out)),(12,.i ps.length),(13,.i i),(6,.i i),(8,.x (.c (.own 1))),(24,.p (.lst .int s)),(25,.i ((s.length:Int))),(26,.i ((k:Int)))],ck:=[zEk1 c,.own 3 .int left] }):=by
 have hml:s.length≤maxLen:=by unfold maxLen; omega
 intro n
 induction n with
 | zero=>?_
 | succ n ih=>?_
 all_goals
  intro k hn hk left hl
  refine jg o5 Tryz.func14 (let x3:List Nat:=[1,1,0,1,0,0,1,1,0,0,1,1,1,1,0,1,0,0]; let x1:List PI:=[.code x3,.inLoop x3,.inBlock 2,.code [1,1,0,1,0,0,1,1,0,0,1,1,1,1,1],.inBlock 1,.code [1,1,0,1,0,0,1,1,1],.inLoop [1,1,0,1,0,0],.inBlock 0,.code [1,1,1]]; let x2:List (Nat×SV):=[(7,.p (.lst .int s)),(1,.p (.lst ETy.bytes ps)),(2,.x (.c (.loc 0 0))),(4,.p (.v (Value.slice none 0 0))),(5,.p (.lst .past out)),(12,.i ps.length),(13,.i i),(6,.i i),(8,.x (.c (.own 1))),(24,.p (.lst .int s)),(25,.i s.length),(26,.i (IntKind.wrap .i64 ((k:Int)+1)))]; .ite (decide ((k:Int)<(s.length:Int))) (.need (inRg k s.length) (.need ((0:Int)≤ETy.get .int s k∧ETy.get .int s k<(c.states.length:Int)) (.need ((3:Int)≠(0:Int)) (.ite (decide (Stat.depth (ETy.get .stat c.states ((ETy.get .int s k).toNat))≥Int.tmod (i:Int) (3:Int))) (.need (room ((left++[ETy.get .int s k]).length) 8) (.stop x1 { n:=51,fr:=x2,ck:=[zEk1 c,.own 3 .int (left++[ETy.get .int s k])] })) (.stop x1 { n:=51,fr:=x2,ck:=[zEk1 c,.own 3 .int left] }))))) (.need (c.states.length≤1000∧s.length≤1000∧∀ (y:ETy.den .int),y∈s→(0:ETy.den .int)≤y∧y<(c.states.length:Int)) (.stop zEk2 { n:=51,fr:=[(1,.p (.lst ETy.bytes ps)),(2,.x (.c (.loc 0 0))),(4,.p (.v (Value.slice none 0 0))),(5,.p (.lst .past (nX c.states s left out))),(12,.i ps.length),(13,.i (IntKind.wrap .i64 ((i:Int)+1)))],ck:=[zEk1 c] }))) ?_
  conv=>zeta
  refine ⟨fun hlt=>?_,fun hge=>?_⟩
  · have hk':k<s.length:=by have:=of_decide_eq_true hlt; omega
    have hy:=hs.2 (ETy.get .int s k) (by rw [ETy.get_eq (t:=.int) (List.getElem?_eq_getElem hk')]; exact bf hk')
    have ht:=iw s (fun k=>decide ((ETy.get .stat c.states k.toNat).depth≥Int.tmod (i:Int) 3)) hk'
    have hsl:left.length≤1000:=by
     rw [hl]
     have:=a7 (fun k:Int=>decide ((ETy.get .stat c.states k.toNat).depth≥Int.tmod (i:Int) 3)) (s.take k)
     have:=List.length_take_le k s
     omega
    refine ⟨⟨by omega,by omega⟩,hy,by decide,fun hb=>?_,fun hb=>?_⟩
    · have hb':decide ((ETy.get .stat c.states (ETy.get .int s k).toNat).depth≥Int.tmod (i:Int) 3)=true:=hb
      rw [if_pos hb',← hl] at ht
      refine ⟨room_le (by rw [an,dc]; omega) (by omega),?_⟩
      rw [aU (aB hk' hml)]
      first
      | (exfalso; omega)
      | exact ih (k+1) (by omega) (by omega) _ ht.symm
    · have hb':decide ((ETy.get .stat c.states (ETy.get .int s k).toNat).depth≥Int.tmod (i:Int) 3)=false:=hb
      rw [if_neg (by rw [hb']; decide),aF,← hl] at ht
      rw [aU (aB hk' hml)]
      first
      | (exfalso; omega)
      | exact ih (k+1) (by omega) (by omega) _ ht.symm
  · have e:s.take k=s:=aQ (by have:=of_decide_eq_false hge; omega)
    rw [e] at hl
    subst hl
    exact ⟨⟨hm,hs⟩,hcont⟩
theorem M7 (ps:List (List Int)) (t:Tre c.states) (hp:∀ p∈ps,∀ b∈p,0≤b∧b≤255) (Γ:Ctx) (hm:ps.length≤maxLen):∀ (n i:Nat),ps.length - i≤n→i≤ps.length→∀ out:List Past,
 J Tryz.prog 14 (au Tryz.f14) Γ (Eq2 (.x (.c (.pd (.lst .past (sT c.states i (ps.drop i) out))))) []) zEk2 ({ n:=51,fr:=[(1,.p (.lst ETy.bytes ps)),(2,.x (.c (.loc 0 0))),(4,.p (.v (Value.slice none 0 0))),(5,.p (.lst .past out)),(12,.i ps.length),(13,.i ((i:Int)))],ck:=[zEk1 c] }):=by
 intro n
 induction n with
 | zero=>?_
 | succ n ih=>?_
 all_goals
  intro i hn hi out
  refine jg o5 Tryz.func14 (let x1:=(gD c.states (chM c.states (ETy.get ETy.bytes ps i))); let x2:List Nat:=[1,1,0,1,0,0,1,1,0,0,1,1,1,1,0,1,0,0]; .ite (decide ((i:Int)<(ps.length:Int))) (.ite (decide ((i:Int)>5)) (.ret (.p (.lst .past out)) []) (.need (inRg i ps.length) (.need (Tre c.states∧∀ (b:ETy.den .byte),b∈ETy.get ETy.bytes ps i→(0:ETy.den .byte)≤b∧b≤(255:ETy.den .byte)) (.stop [.code x2,.inLoop x2,.inBlock 2,.code [1,1,0,1,0,0,1,1,0,0,1,1,1,1,1],.inBlock 1,.code [1,1,0,1,0,0,1,1,1],.inLoop [1,1,0,1,0,0],.inBlock 0,.code [1,1,1]] { n:=51,fr:=[(7,.p (.lst .int x1)),(1,.p (.lst ETy.bytes ps)),(2,.x (.c (.loc 0 0))),(4,.p (.v (Value.slice none 0 0))),(5,.p (.lst .past out)),(12,.i ps.length),(13,.i i),(6,.i i),(8,.p (.v (Value.slice none 0 0))),(24,.p (.lst .int x1)),(25,.i (↑(x1.length):Int)),(26,.i 0)],ck:=[zEk1 c] })))) (.ret (.p (.lst .past out)) [])) ?_
  conv=>zeta
  refine ⟨fun hlt=>?_,fun hge=>?_⟩
  · have hi':i<ps.length:=by have:=of_decide_eq_true hlt; omega
    have ed:ps.drop i=ETy.get .bytes ps i::ps.drop (i+1):=bt (t:=.bytes) (l:=ps) hi'
    have hb:=hp (ETy.get .bytes ps i) (by rw [ETy.get_eq (t:=.bytes) (List.getElem?_eq_getElem hi')]; exact bf hi')
    rw [ed,sT]
    refine ⟨fun h5=>?_,fun h5=>⟨⟨by omega,by omega⟩,⟨t,hb⟩,?_⟩⟩
    · rw [if_pos (by have:=of_decide_eq_true h5; omega)]; exact ⟨rfl,rfl⟩
    · have hg:=(tR t.shp _).2 (np t (ni t hb))
      have hin:=yb hg
      have hlen:=HB t hb
      have hfew:=t.shp.few
      rw [if_neg (by have:=of_decide_eq_false h5; omega)]
      refine J.nilOwn 8 3 .int rfl (by kernel_rfl) ?_
      refine Jw c ps out (gD c.states (chM c.states (ETy.get .bytes ps i))) i Γ _ ⟨by omega,hin.1⟩ (by omega) ?_ (gD c.states (chM c.states (ETy.get .bytes ps i))).length 0 (by omega) (by omega) [] (by simp)
      rw [aU (aB hi' hm),show Int.tmod (i:Int) 3=((i % 3:Nat):Int) from rfl]
      first
      | (exfalso; omega)
      | exact ih (i+1) (by omega) (by omega) _
  · rw [bH (l:=ps) (by have:=of_decide_eq_false hge; omega)]; exact ⟨rfl,rfl⟩
theorem MF (ps:List (List Int)) (h:Tre c.states∧∀ p∈ps,∀ b∈p,0≤b∧b≤255):ah Tryz.prog 14 [.e .chart c,.l .bytes ps] [] (.x (.c (.pd (.lst .past (mdM c.states ps))))) []:=by
 refine dg o5 Tryz.func14 (.stop zEk2 { n:=51,fr:=[(1,.p (.lst ETy.bytes ps)),(2,.x (.c (.loc 0 0))),(4,.p (.v (Value.slice none 0 0))),(5,.p (.v (Value.slice none 0 0))),(12,.i ps.length),(13,.i 0)],ck:=[zEk1 c] }) fun Γ=>?_
 refine J.nilLst 5 .past rfl ?_
 exact J.len 1 rfl fun hm=>M7 c ps h.1 h.2 Γ hm ps.length 0 (by omega) (by omega) []
def rj:Ent:=(14,fun
 | [.agg [.pd (.str a),.pd (.lst .str b),.pd (.lst .var c),.pd (.lst .stat d),.pd (.lst .tran e)],.c (.pd (.lst .bytes ps))],[]=>some (some (Tre d∧∀ p:List Int,p∈ps→∀ b∈p,(0:Int)≤b∧b≤255),.x (.c (.pd (.lst .past (mdM d ps)))),[])
 | _,_=>none)
theorem Hb:EntOk Tryz.prog rj:=entOk fun vs ck=>by
 unfold rj; dsimp only; split
 · rename_i a b c d e ps; exact entS fun hp=>MF ⟨a,b,c,d,e⟩ ps hp
 · exact entN
end Go.Proofs.YtgfifkhbfdacjaaGreatDoor
namespace Go.Proofs.YtgfifkhbfdacjaaGreatDoor
open Go Go.Ev Go.RowKit Go.ChangeShapes Go.WideShapes Go.ChangeAt
set_option maxRecDepth 100000
section
variable {Hh:Type} {enc:TypeId×Value→Hh} {W:World} {base:Nat} {spare:Nat→Bool} {held:Bool}
theorem Oi (n:Nat) (cs:List Value) (y:DataW Hh×List MemPlace) (h:DataW.trod enc Tryz.prog W base spare held n 3 cs=some y):∃ r:Int,All2 (PR (HW W)) (ETy.int.enc r) cs∧True:=by
 obtain ⟨k,h1,_⟩:=DataW.trod_int Tryz.underlying3 h
 exact ⟨k,by rw [h1]; exact .cons (.int _ k) .nil,trivial⟩
theorem Nt (n:Nat) (cs:List Value) (y:DataW Hh×List MemPlace) (h:DataW.trod enc Tryz.prog W base spare held n 5 cs=some y):∃ r:Int,All2 (PR (HW W)) (ETy.byte.enc r) cs∧(0≤r∧r≤255):=by
 obtain ⟨k,h1,_,h2⟩:=DataW.trod_int Tryz.underlying5 h
 simp only [Lit.wf,af,decide_eq_true_eq] at h2
 have e1:IntKind.u8.min=0:=by decide
 have e2:IntKind.u8.max=255:=by decide
 rw [e1,e2] at h2
 exact ⟨k,by rw [h1]; exact .cons (.int _ k) .nil,h2⟩
end
end Go.Proofs.YtgfifkhbfdacjaaGreatDoor
namespace Go.Proofs.YtgfifkhbfdacjaaGreatDoor
open Go Go.Ev Go.RowKit Go.ChangeShapes Go.WideShapes Go.ChangeAt
set_option maxRecDepth 100000
def nx (p:Past):Prop:=p.set.length * 8≤ft
section
variable {Hh:Type} {enc:TypeId×Value→Hh} {W:World} {base:Nat} {spare:Nat→Bool} {held:Bool}
theorem M5 (n:Nat) (cs:List Value) (y:DataW Hh×List MemPlace) (h:DataW.trod enc Tryz.prog W base spare held n 43 cs=some y):∃ r:List Int,All2 (PR (HW W)) (ETy.bytes.enc r) cs∧((y.1.weights Tryz.prog 43).all (·≤reachBytes)=true→∀ b∈r,0≤b∧b≤255):=by
 obtain ⟨l,v,rfl,hp,hq⟩:=df .byte (Q:=fun b:Int=>0≤b∧b≤255) Tryz.underlying43 (by kernel_rfl) (fun n cs y h=>by
  obtain ⟨r,h1,h2⟩:=Nt n cs y h
  exact ⟨r,h1,fun _=>h2⟩) h
 exact ⟨l,.cons hp .nil,fun hw=>(hq hw).1⟩
theorem DG {v:Value} {d:DataW Hh} {ps:List MemPlace} {b0:Nat} (h:DataW.Trod enc Tryz.prog W base spare held 29 v d ps) (hv:Value.okWide Tryz.prog W .any b0 29 v) :
 ∃ l:List (List Int),SX.R (VW W) (.c (.pd (.lst .bytes l))) v∧((d.weights Tryz.prog 29).all (·≤reachBytes)=true→l.length * 24≤ft∧∀ p∈l,∀ b∈p,0≤b∧b≤255):=by
 have hv':Cell.okWide Tryz.prog W .any b0 29 v:=by simpa only [Value.okWide,Tryz.underlying29] using hv
 obtain ⟨fuel,hf⟩:=h
 have hc:v.cells.toList=[v]:=by
  have hv2:=hv'
  simp only [Cell.okWide,Tryz.underlying29,Cell.ok] at hv2
  cases v <;> first | rfl | exact hv2.elim
 rw [hc] at hf
 obtain ⟨l,w,hw,h1,h3⟩:=df .bytes (Q:=fun r:List Int=>∀ b∈r,0≤b∧b≤255) Tryz.underlying29 (by kernel_rfl) M5 hf
 simp only [eJ,and_true] at hw
 subst hw
 have hb:Tryz.prog.bytesOf 43=24:=by kernel_rfl
 rw [hb] at h3
 refine ⟨l,h1,fun hw=>?_⟩
 have h4:=h3 hw
 have h5:=h4.2
 unfold reachBytes at h5
 exact ⟨show l.length * 24≤140737488355328 by omega,h4.1⟩
theorem NR (n:Nat) (cs:List Value) (y:DataW Hh×List MemPlace) (h:DataW.trod enc Tryz.prog W base spare held n 40 cs=some y):∃ r:Past,All2 (PR (HW W)) (ETy.past.enc r) cs∧((y.1.weights Tryz.prog 40).all (·≤reachBytes)=true→nx r):=by
 obtain ⟨xs,m,_,hy,hl,hlen,hf⟩:=DataW.trod_struct Tryz.underlying40 h
 have lx:xs.length=2:=hlen
 match xs,lx with
 | [y0,y1],_ =>
 have c0:Tryz.prog.cellsOf 40=2:=by kernel_rfl
 rw [c0] at hl
 have g0:DataW.trod enc Tryz.prog W base spare held m 3 (List.take (Tryz.prog.cellsOf 3) (List.drop 0 cs))=some y0:=hf 0 _ rfl
 have e0:Tryz.prog.cellsOf 3=1:=by kernel_rfl
 rw [e0] at g0
 obtain ⟨v0,h0⟩:=gW Tryz.underlying3 g0
 have g1:DataW.trod enc Tryz.prog W base spare held m 36 (List.take (Tryz.prog.cellsOf 36) (List.drop 1 cs))=some y1:=hf 1 _ rfl
 have e1:Tryz.prog.cellsOf 36=1:=by kernel_rfl
 rw [e1] at g1
 obtain ⟨v1,w1,h1,p1,q1⟩:=df .int (Q:=fun _:Int=>True) Tryz.underlying36 (by kernel_rfl) (fun n cs y h=>by
  obtain ⟨r,h1,_⟩:=Oi n cs y h
  exact ⟨r,h1,fun _=>trivial⟩) g1
 have hq:(y.1.weights Tryz.prog 40).all (·≤reachBytes)=true→nx ⟨v0,v1⟩:=by
  intro hw
  rw [hy] at hw
  have hw2:(y0.1.weights Tryz.prog 3++(y1.1.weights Tryz.prog 36++[])).all (·≤reachBytes)=true:=by
   simpa [DataW.weights,Tryz.underlying40,DataW.weightsEach] using hw
  simp only [bD,aF,af] at hw2
  obtain ⟨z0,z1⟩:=hw2
  have x1:=q1 z1
  rw [show Tryz.prog.bytesOf 3=8 by kernel_rfl] at x1
  have k1:=x1.2
  unfold reachBytes at k1
  exact show v1.length * 8≤140737488355328 by omega
 match cs,hl with
 | [u0,u1],_ =>
   simp at h0 h1
   subst h0
   subst h1
   exact ⟨⟨v0,v1⟩,.cons (.int _ v0) (.cons p1 (.nil)),hq⟩
theorem GE {v:Value} {d:DataW Hh} {ps:List MemPlace} {b0:Nat} (h:DataW.Trod enc Tryz.prog W base spare held 28 v d ps) (hv:Value.okWide Tryz.prog W .any b0 28 v) :
 ∃ l:List Past,SX.R (VW W) (.c (.pd (.lst .past l))) v∧((d.weights Tryz.prog 28).all (·≤reachBytes)=true→l.length * 32≤ft∧∀ p∈l,nx p):=by
 have hv':Cell.okWide Tryz.prog W .any b0 28 v:=by simpa only [Value.okWide,Tryz.underlying28] using hv
 obtain ⟨fuel,hf⟩:=h
 have hc:v.cells.toList=[v]:=by
  have hv2:=hv'
  simp only [Cell.okWide,Tryz.underlying28,Cell.ok] at hv2
  cases v <;> first | rfl | exact hv2.elim
 rw [hc] at hf
 obtain ⟨l,w,hw,h1,h3⟩:=df .past (Q:=nx) Tryz.underlying28 (by kernel_rfl) NR hf
 simp only [eJ,and_true] at hw
 subst hw
 have hb:Tryz.prog.bytesOf 40=32:=by kernel_rfl
 rw [hb] at h3
 refine ⟨l,h1,fun hw=>?_⟩
 have h4:=h3 hw
 have h5:=h4.2
 unfold reachBytes at h5
 exact ⟨show l.length * 32≤140737488355328 by omega,h4.1⟩
end
end Go.Proofs.YtgfifkhbfdacjaaGreatDoor
namespace Go.Proofs.YtgfifkhbfdacjaaGreatDoor
open Go Go.Ev
set_option maxRecDepth 100000
def EM:Cfg:=⟨aX,[l9,l1,rS,lM,we,kS,vX,rj]⟩
theorem Fb:ag Tryz.prog EM.tab:=(ag.cons iW (ag.cons iP (ag.cons Gx (ag.cons ye (ag.cons Ko (ag.cons mX (ag.cons I0 (ag.cons Hb ag.nil))))))))
theorem D4 {ps:List Past} (h:ps.length * 32≤ft∧∀ p∈ps,nx p):room ps.length 32∧∀ p∈ps,room p.set.length 8:=by
 have hr:ft≤140737488355328:=by decide
 refine ⟨⟨by omega,by unfold maxLen; omega⟩,fun p hp=>?_⟩
 have:=h.2 p hp
 unfold nx at this
 exact ⟨by omega,by unfold maxLen; omega⟩
theorem F8 (c:Chart) (ps:List Past) (pk:List (List Int)) (h:pa c) (hps:ps.length * 32≤ft∧∀ p∈ps,nx p) (hpk:∀ p∈pk,∀ b∈p,0≤b∧b≤255):ah Tryz.prog 3 [.e .chart c,.l .past ps,.l .bytes pk] [] (.x (.b true)) []:=by
 have hz:=Lf h
 have hb:=N6 h
 have hsz:c.vars.length≤2199023255552∧c.states.length≤2199023255552:=⟨hz.1,by omega⟩
 have hr:=D4 hps
 refine dg Fb Tryz.func3 (let x1:=(c.vars.length≤2199023255552∧c.states.length≤2199023255552); let x2:=(bx c==(0:Int)&&bB (b6 c.states) none ps); .ite false (.ret (.p (.bool false)) []) (.need (∀ (s:ETy.den .stat),s∈c.states→s.entry.length≤4398046511104∧s.leave.length≤4398046511104) (.ite (!bx c==(0:Int)) (.need (room ps.length 32∧∀ (p:Past),p∈ps→room ((Past.set p).length) 8) (.need x1 (.ret (.p (.bool !x2)) []))) (.need (room ps.length 32∧∀ (p:Past),p∈ps→room ((Past.set p).length) 8) (.need x1 (.need (Tre c.states) (.need ((x2==bB (fB c.states) none ps)=true) (.need (Tre c.states∧∀ (p:List Int),p∈pk→∀ (b:Int),b∈p→(0:Int)≤b∧b≤(255:Int)) (.need x1 (.ret (.p (.bool (true&&(bx c==(0:Int)&&bB (b6 c.states) none (mdM c.states pk))))) [])))))))))) fun Γ=>?_
 conv=>zeta
 refine ⟨fun h0=>absurd h0 (by decide),fun _=>⟨hb,fun h1=>⟨hr,hsz,?_,rfl⟩,fun h1=>?_⟩⟩
 · have h1':(!bx c==0)=true:=h1
   have h2:(bx c==0)=false:=by simpa using h1'
   exact congrArg (fun b=>SV.x (.c (.pd (.bool b)))) (show (!(bx c==0&&bB (b6 c.states) none ps))=true from by rw [h2]; rfl)
 · have h1':(!bx c==0)=false:=h1
   have h2:(bx c==0)=true:=by simpa using h1'
   have hv:=(iT c).1 (eq_of_beq h2)
   have t:=hv.tre
   have hm:=rW t hpk
   refine ⟨hr,hsz,t,?_,⟨t,hpk⟩,hsz,?_,rfl⟩
   · show ((bx c==0&&bB (b6 c.states) none ps)==bB (fB c.states) none ps)=true
     rw [h2,GD t]; simp
   · exact congrArg (fun b=>SV.x (.c (.pd (.bool b)))) (show (true&&(bx c==0&&bB (b6 c.states) none (mdM c.states pk)))=true from by rw [h2,hm]; rfl)
end Go.Proofs.YtgfifkhbfdacjaaGreatDoor

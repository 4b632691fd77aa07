/- Contracts: the layer's copied, Made. Conditions: sizes. Lists of ints and of bytes among the laws' arguments. Conditions: none. Lists of lists of bytes, lists of what histories remember, among the laws' arguments. Conditions: none. Contracts: the document's Targets, Enter, Leaves, Without. Conditions: sizes. Contracts: the law MovesEnter. Conditions: sizes. Numbers among the law's arguments. Conditions: none. -/
import Derived.Test.YtgfifkhbfdacjaaGreatDoorEi
import Derived.Test.YtgfifkhbfdacjaaGreatDoorEr
import Derived.Test.YtgfifkhbfdacjaaGreatDoorVl
import Derived.Test.YtgfifkhbfdacjaaGreatDoorLx
import Derived.Test.YtgfifkhbfdacjaaGreatDoorKb
import Derived.Test.YtgfifkhbfdacjaaGreatDoorSo
import Derived.Test.YtgfifkhbfdacjaaGreatDoorSk
namespace Go.Proofs.YtgfifkhbfdacjaaGreatDoor
open Go Go.Ev
set_option maxRecDepth 100000
def ra:Cfg:=⟨aW,[]⟩
theorem oy:ag Tryz.prog ra.tab:=ag.nil
theorem IF {l:List Past} {i:Nat} (h:i<l.length):l.set i ⟨(ETy.get .past l i).state,[]++(ETy.get .past l i).set⟩=l:=by
 have e:(⟨(ETy.get .past l i).state,[]++(ETy.get .past l i).set⟩:Past)=ETy.get .past l i:=rfl
 rw [e,ETy.get_eq (t:=.past) (List.getElem?_eq_getElem h)]
 exact List.set_getElem_self h
abbrev zEk2:List PI:=[.code [1,1,0,1,0,0],.inLoop [1,1,0,1,0,0],.inBlock 0,.code [1,1,1]]
abbrev zEk3:List PI:=[.ops [1,1,0,1,0,0,1,1,0,0,1] 11,.inBlock 1,.code [1,1,0,1,0,0,1,1,1],.inLoop [1,1,0,1,0,0],.inBlock 0,.code [1,1,1]]
variable (c:Chart) (l:List Past)
theorem La (Γ:Ctx) (hm:l.length≤maxLen) (h:∀ p∈l,room p.set.length 8):∀ (n i:Nat),l.length - i≤n→i≤l.length →
 J Tryz.prog 12 (av Tryz.f12) Γ (Eq2 (.x (.c (.own 0))) [.own 40 .past l]) zEk2 ({ n:=26,fr:=[(2,.p (.v (Value.slice none 0 0))),(3,.x (.c (.own 0))),(9,.i (↑(([]++l).length):Int)),(10,.i ((i:Int)))],ck:=[.own 40 .past l] }):=by
 intro n
 induction n with
 | zero=>?_
 | succ n ih=>?_
 all_goals
  intro i hn hi
  refine jg oy Tryz.func12 (.ite (decide ((i:Int)<(↑(([]++l).length):Int))) (.need (inRg i l.length) (.need (i<l.length) (.need (room (([]++Past.set (ETy.get .past l i)).length) 8) (.need (inRg i l.length) (.stop zEk3 { n:=26,fr:=[(2,.p (.v (Value.slice none 0 0))),(3,.x (.c (.own 0))),(9,.i (↑(([]++l).length):Int)),(10,.i i),(21,.x (.c (.own 1))),(23,.x (.c (.oat 0 i 2 1)))],ck:=[.own 40 .past l,.own 3 .int ([]++Past.set (ETy.get .past l i))] }))))) (.ret (.x (.c (.own 0))) [.own 40 .past l])) ?_
  refine ⟨fun hlt=>?_,fun _=>⟨rfl,rfl⟩⟩
  have hi':i<l.length:=by have:=of_decide_eq_true hlt; exact Int.ofNat_lt.1 this
  have hr:=h (ETy.get .past l i) (by rw [ETy.get_eq (t:=.past) (List.getElem?_eq_getElem hi')]; exact bb hi')
  refine ⟨⟨by omega,by omega⟩,hi',hr,⟨by omega,by omega⟩,?_⟩
  have hz:J Tryz.prog 12 (av Tryz.f12) Γ (Eq2 (.x (.c (.own 0))) [.own 40 .past l]) zEk3 ({ n:=26,fr:=[(2,.p (.v (Value.slice none 0 0))),(3,.x (.c (.own 0))),(9,.i (↑(([]++l).length):Int)),(10,.i i),(21,.p (.lst .int (([]++(ETy.get .past l i).set)))),(23,.x (.c (.oat 0 i 2 1)))],ck:=[.own 40 .past l,.dead] }):=by
   refine jg oy Tryz.func12 (.need (i<l.length) (.stop zEk2 { n:=26,fr:=[(2,.p (.v (Value.slice none 0 0))),(3,.x (.c (.own 0))),(9,.i (↑(([]++l).length):Int)),(10,.i (IntKind.wrap .i64 ((i:Int)+1)))],ck:=[.own 40 .past (List.set l i { state:=Past.state (ETy.get .past l i),set:=[]++Past.set (ETy.get .past l i) })] })) ?_
   refine ⟨hi',?_⟩
   rw [aU (aB hi' hm),IF hi']
   first
   | (exfalso; omega)
   | exact ih (i+1) (by omega) (by omega)
  exact J.freeze aW [1] (by kernel_rfl) hz
theorem K3 (h:room l.length 32∧∀ p∈l,room p.set.length 8):ah Tryz.prog 12 [.l .past l] [] (.x (.c (.own 0))) [.own 40 .past l]:=by
 refine dg oy Tryz.func12 (.need (room (([]++l).length) 32) (.stop zEk2 { n:=26,fr:=[(2,.p (.v (Value.slice none 0 0))),(3,.x (.c (.own 0))),(9,.i (↑(([]++l).length):Int)),(10,.i 0)],ck:=[.own 40 .past ([]++l)] })) fun Γ=>?_
 exact ⟨h.1,La l Γ h.1.2 h.2 l.length 0 (by omega) (by omega)⟩
theorem IQ (h:room l.length 32∧∀ p∈l,room p.set.length 8):ah Tryz.prog 12 [.l .past l] [] (.x (.c (.pd (.lst .past l)))) []:=ah.chop (ck':=[]) (ah.frz aW [0] (K3 l h) rfl rfl)
def vM:Ent:=(12,fun
 | [.c (.pd (.lst .past l))],[]=>some (some (room (List.length l) 32∧∀ p:Past,p∈l→room (Past.set p).length 8),.x (.c (.pd (.lst .past l))),[])
 | _,_=>none)
theorem IV:EntOk Tryz.prog vM:=entOk fun vs ck=>by
 unfold vM; dsimp only; split
 · rename_i l; exact entS fun hp=>IQ l hp
 · exact entN
/-! ### Made -/
def rY:Cfg:=⟨aW,[rG,vY]⟩
theorem oI:ag Tryz.prog rY.tab:=(ag.cons He (ag.cons Hp ag.nil))
abbrev zEk1 (a:Chart):Chunk:=.cells [.pd (.str a.name),.pd (.lst .str a.events),.pd (.lst .var a.vars),.pd (.lst .stat a.states),.pd (.lst .tran a.trans)] 27
theorem HT (ps:List (List Int)) (out:List Past) (s:List Int) (i:Nat) (Γ:Ctx) (Q:Out) (hs:s.length≤1000∧∀ y∈s,0≤y∧y<(c.states.length:Int)) (hm:c.states.length≤1000)
 (hcont:J Tryz.prog 14 (av Tryz.f14) Γ Q zEk2 ({ n:=51,fr:=[(1,.p (.lst ETy.bytes ps)),(2,.x (.c (.loc 0 0))),(4,.p (.v (Value.slice none 0 0))),(5,.p (.lst .past ((oK c.states s (KJ c.states s (Int.tmod (i:Int) 3)) out)))),(12,.i ps.length),(13,.i ((IntKind.wrap .i64 ((i:Int)+1))))],ck:=[zEk1 c] })):∀ (n k:Nat),s.length - k≤n→k≤s.length→∀ left,left=(s.take k).filter (fun k=>decide ((ETy.get .stat c.states k.toNat).depth≥Int.tmod (i:Int) 3)) →
 J Tryz.prog 14 (av Tryz.f14) Γ Q [.code [1,1,0,1,0,0,1,1,0,0,1,1,1,1,0,1,0,0],.inLoop [1,1,0,1,0,0,1,1,0,0,1,1,1,1,0,1,0,0],.inBlock 2,.code [1,1,0,1,0,0,1,1,0,0,1,1,1,1,1],.inBlock 1,.code [1,1,0,1,0,0,1,1,1],.inLoop [1,1,0,1,0,0],.inBlock 0,.code [1,1,1]] ({ n:=51,fr:=[(7,.p (.lst .int s)),(1,.p (.lst ETy.bytes ps)),(2,.x (.c (.loc 0 0))),(4,.p (.v (Value.slice none 0 0))),(5,.p (.lst .past out)),(12,.i ps.length),(13,.i i),(6,.i i),(8,.x (.c (.own 1))),(24,.p (.lst .int s)),(25,.i ((s.length:Int))),(26,.i ((k:Int)))],ck:=[zEk1 c,.own 3 .int left] }):=by
 have hml:s.length≤maxLen:=by unfold maxLen; omega
 intro n
 induction n with
 | zero=>?_
 | succ n ih=>?_
 all_goals
  intro k hn hk left hl
  refine jg oI Tryz.func14 (let x3:List Nat:=[1,1,0,1,0,0,1,1,0,0,1,1,1,1,0,1,0,0]; let x1:List PI:=[.code x3,.inLoop x3,.inBlock 2,.code [1,1,0,1,0,0,1,1,0,0,1,1,1,1,1],.inBlock 1,.code [1,1,0,1,0,0,1,1,1],.inLoop [1,1,0,1,0,0],.inBlock 0,.code [1,1,1]]; let x2:List (Nat×SV):=[(7,.p (.lst .int s)),(1,.p (.lst ETy.bytes ps)),(2,.x (.c (.loc 0 0))),(4,.p (.v (Value.slice none 0 0))),(5,.p (.lst .past out)),(12,.i ps.length),(13,.i i),(6,.i i),(8,.x (.c (.own 1))),(24,.p (.lst .int s)),(25,.i s.length),(26,.i (IntKind.wrap .i64 ((k:Int)+1)))]; .ite (decide ((k:Int)<(s.length:Int))) (.need (inRg k s.length) (.need ((0:Int)≤ETy.get .int s k∧ETy.get .int s k<(c.states.length:Int)) (.need ((3:Int)≠(0:Int)) (.ite (decide (Stat.depth (ETy.get .stat c.states ((ETy.get .int s k).toNat))≥Int.tmod (i:Int) (3:Int))) (.need (room ((left++[ETy.get .int s k]).length) 8) (.stop x1 { n:=51,fr:=x2,ck:=[zEk1 c,.own 3 .int (left++[ETy.get .int s k])] })) (.stop x1 { n:=51,fr:=x2,ck:=[zEk1 c,.own 3 .int left] }))))) (.need (c.states.length≤1000∧s.length≤1000∧∀ (y:ETy.den .int),y∈s→(0:ETy.den .int)≤y∧y<(c.states.length:Int)) (.stop zEk2 { n:=51,fr:=[(1,.p (.lst ETy.bytes ps)),(2,.x (.c (.loc 0 0))),(4,.p (.v (Value.slice none 0 0))),(5,.p (.lst .past (oK c.states s left out))),(12,.i ps.length),(13,.i (IntKind.wrap .i64 ((i:Int)+1)))],ck:=[zEk1 c] }))) ?_
  conv=>zeta
  refine ⟨fun hlt=>?_,fun hge=>?_⟩
  · have hk':k<s.length:=by have:=of_decide_eq_true hlt; omega
    have hy:=hs.2 (ETy.get .int s k) (by rw [ETy.get_eq (t:=.int) (List.getElem?_eq_getElem hk')]; exact bb hk')
    have ht:=iy s (fun k=>decide ((ETy.get .stat c.states k.toNat).depth≥Int.tmod (i:Int) 3)) hk'
    have hsl:left.length≤1000:=by
     rw [hl]
     have:=a6 (fun k:Int=>decide ((ETy.get .stat c.states k.toNat).depth≥Int.tmod (i:Int) 3)) (s.take k)
     have:=List.length_take_le k s
     omega
    refine ⟨⟨by omega,by omega⟩,hy,by decide,fun hb=>?_,fun hb=>?_⟩
    · have hb':decide ((ETy.get .stat c.states (ETy.get .int s k).toNat).depth≥Int.tmod (i:Int) 3)=true:=hb
      rw [if_pos hb',← hl] at ht
      refine ⟨room_le (by rw [an,db]; omega) (by omega),?_⟩
      rw [aU (aB hk' hml)]
      first
      | (exfalso; omega)
      | exact ih (k+1) (by omega) (by omega) _ ht.symm
    · have hb':decide ((ETy.get .stat c.states (ETy.get .int s k).toNat).depth≥Int.tmod (i:Int) 3)=false:=hb
      rw [if_neg (by rw [hb']; decide),aG,← hl] at ht
      rw [aU (aB hk' hml)]
      first
      | (exfalso; omega)
      | exact ih (k+1) (by omega) (by omega) _ ht.symm
  · have e:s.take k=s:=aQ (by have:=of_decide_eq_false hge; omega)
    rw [e] at hl
    subst hl
    exact ⟨⟨hm,hs⟩,hcont⟩
theorem Ll (ps:List (List Int)) (t:Tre c.states) (hp:∀ p∈ps,∀ b∈p,0≤b∧b≤255) (Γ:Ctx) (hm:ps.length≤maxLen):∀ (n i:Nat),ps.length - i≤n→i≤ps.length→∀ out:List Past,
 J Tryz.prog 14 (av Tryz.f14) Γ (Eq2 (.x (.c (.pd (.lst .past (sU c.states i (ps.drop i) out))))) []) zEk2 ({ n:=51,fr:=[(1,.p (.lst ETy.bytes ps)),(2,.x (.c (.loc 0 0))),(4,.p (.v (Value.slice none 0 0))),(5,.p (.lst .past out)),(12,.i ps.length),(13,.i ((i:Int)))],ck:=[zEk1 c] }):=by
 intro n
 induction n with
 | zero=>?_
 | succ n ih=>?_
 all_goals
  intro i hn hi out
  refine jg oI Tryz.func14 (let x1:=(gB c.states (chM c.states (ETy.get ETy.bytes ps i))); let x2:List Nat:=[1,1,0,1,0,0,1,1,0,0,1,1,1,1,0,1,0,0]; .ite (decide ((i:Int)<(ps.length:Int))) (.ite (decide ((i:Int)>5)) (.ret (.p (.lst .past out)) []) (.need (inRg i ps.length) (.need (Tre c.states∧∀ (b:ETy.den .byte),b∈ETy.get ETy.bytes ps i→(0:ETy.den .byte)≤b∧b≤(255:ETy.den .byte)) (.stop [.code x2,.inLoop x2,.inBlock 2,.code [1,1,0,1,0,0,1,1,0,0,1,1,1,1,1],.inBlock 1,.code [1,1,0,1,0,0,1,1,1],.inLoop [1,1,0,1,0,0],.inBlock 0,.code [1,1,1]] { n:=51,fr:=[(7,.p (.lst .int x1)),(1,.p (.lst ETy.bytes ps)),(2,.x (.c (.loc 0 0))),(4,.p (.v (Value.slice none 0 0))),(5,.p (.lst .past out)),(12,.i ps.length),(13,.i i),(6,.i i),(8,.p (.v (Value.slice none 0 0))),(24,.p (.lst .int x1)),(25,.i (↑(x1.length):Int)),(26,.i 0)],ck:=[zEk1 c] })))) (.ret (.p (.lst .past out)) [])) ?_
  conv=>zeta
  refine ⟨fun hlt=>?_,fun hge=>?_⟩
  · have hi':i<ps.length:=by have:=of_decide_eq_true hlt; omega
    have ed:ps.drop i=ETy.get .bytes ps i::ps.drop (i+1):=br (t:=.bytes) (l:=ps) hi'
    have hb:=hp (ETy.get .bytes ps i) (by rw [ETy.get_eq (t:=.bytes) (List.getElem?_eq_getElem hi')]; exact bb hi')
    rw [ed,sU]
    refine ⟨fun h5=>?_,fun h5=>⟨⟨by omega,by omega⟩,⟨t,hb⟩,?_⟩⟩
    · rw [if_pos (by have:=of_decide_eq_true h5; omega)]; exact ⟨rfl,rfl⟩
    · have hg:=(uK t.shp _).2 (nu t (mN t hb))
      have hin:=xB hg
      have hlen:=Kq t hb
      have hfew:=t.shp.few
      rw [if_neg (by have:=of_decide_eq_false h5; omega)]
      refine J.nilOwn 8 3 .int rfl (by kernel_rfl) ?_
      refine HT c ps out (gB c.states (chM c.states (ETy.get .bytes ps i))) i Γ _ ⟨by omega,hin.1⟩ (by omega) ?_ (gB c.states (chM c.states (ETy.get .bytes ps i))).length 0 (by omega) (by omega) [] (by simp)
      rw [aU (aB hi' hm),show Int.tmod (i:Int) 3=((i % 3:Nat):Int) from rfl]
      first
      | (exfalso; omega)
      | exact ih (i+1) (by omega) (by omega) _
  · rw [bE (l:=ps) (by have:=of_decide_eq_false hge; omega)]; exact ⟨rfl,rfl⟩
theorem Lr (ps:List (List Int)) (h:Tre c.states∧∀ p∈ps,∀ b∈p,0≤b∧b≤255):ah Tryz.prog 14 [.e .chart c,.l .bytes ps] [] (.x (.c (.pd (.lst .past (mdM c.states ps))))) []:=by
 refine dg oI Tryz.func14 (.stop zEk2 { n:=51,fr:=[(1,.p (.lst ETy.bytes ps)),(2,.x (.c (.loc 0 0))),(4,.p (.v (Value.slice none 0 0))),(5,.p (.v (Value.slice none 0 0))),(12,.i ps.length),(13,.i 0)],ck:=[zEk1 c] }) fun Γ=>?_
 refine J.nilLst 5 .past rfl ?_
 exact J.len 1 rfl fun hm=>Ll c ps h.1 h.2 Γ hm ps.length 0 (by omega) (by omega) []
def rj:Ent:=(14,fun
 | [.agg [.pd (.str a),.pd (.lst .str b),.pd (.lst .var c),.pd (.lst .stat d),.pd (.lst .tran e)],.c (.pd (.lst .bytes ps))],[]=>some (some (Tre d∧∀ p:List Int,p∈ps→∀ b∈p,(0:Int)≤b∧b≤255),.x (.c (.pd (.lst .past (mdM d ps)))),[])
 | _,_=>none)
theorem Gu:EntOk Tryz.prog rj:=entOk fun vs ck=>by
 unfold rj; dsimp only; split
 · rename_i a b c d e ps; exact entS fun hp=>Lr ⟨a,b,c,d,e⟩ ps hp
 · exact entN
end Go.Proofs.YtgfifkhbfdacjaaGreatDoor
namespace Go.Proofs.YtgfifkhbfdacjaaGreatDoor
open Go Go.Ev Go.RowKit Go.ChangeShapes Go.WideShapes Go.ChangeAt
set_option maxRecDepth 100000
section
variable {Hh:Type} {enc:TypeId×Value→Hh} {W:World} {base:Nat} {spare:Nat→Bool} {held:Bool}
theorem Mo (n:Nat) (cs:List Value) (y:DataW Hh×List MemPlace) (h:DataW.trod enc Tryz.prog W base spare held n 5 cs=some y):∃ r:Int,All2 (PR (HW W)) (ETy.byte.enc r) cs∧(0≤r∧r≤255):=by
 obtain ⟨k,h1,_,h2⟩:=DataW.trod_int Tryz.underlying5 h
 simp only [Lit.wf,af,decide_eq_true_eq] at h2
 have e1:IntKind.u8.min=0:=by decide
 have e2:IntKind.u8.max=255:=by decide
 rw [e1,e2] at h2
 exact ⟨k,by rw [h1]; exact .cons (.int _ k) .nil,h2⟩
end
end Go.Proofs.YtgfifkhbfdacjaaGreatDoor
namespace Go.Proofs.YtgfifkhbfdacjaaGreatDoor
open Go Go.Ev Go.RowKit Go.ChangeShapes Go.WideShapes Go.ChangeAt
set_option maxRecDepth 100000
section
variable {Hh:Type} {enc:TypeId×Value→Hh} {W:World} {base:Nat} {spare:Nat→Bool} {held:Bool}
theorem M7 (n:Nat) (cs:List Value) (y:DataW Hh×List MemPlace) (h:DataW.trod enc Tryz.prog W base spare held n 43 cs=some y):∃ r:List Int,All2 (PR (HW W)) (ETy.bytes.enc r) cs∧((y.1.weights Tryz.prog 43).all (·≤reachBytes)=true→∀ b∈r,0≤b∧b≤255):=by
 obtain ⟨l,v,rfl,hp,hq⟩:=dL .byte (Q:=fun b:Int=>0≤b∧b≤255) Tryz.underlying43 (by kernel_rfl) (fun n cs y h=>by
  obtain ⟨r,h1,h2⟩:=Mo n cs y h
  exact ⟨r,h1,fun _=>h2⟩) h
 exact ⟨l,.cons hp .nil,fun hw=>(hq hw).1⟩
theorem C8 {v:Value} {d:DataW Hh} {ps:List MemPlace} {b0:Nat} (h:DataW.Trod enc Tryz.prog W base spare held 29 v d ps) (hv:Value.okWide Tryz.prog W .any b0 29 v) :
 ∃ l:List (List Int),SX.R (VW W) (.c (.pd (.lst .bytes l))) v∧((d.weights Tryz.prog 29).all (·≤reachBytes)=true→l.length * 24≤iC∧∀ p∈l,∀ b∈p,0≤b∧b≤255):=by
 have hv':Cell.okWide Tryz.prog W .any b0 29 v:=by simpa only [Value.okWide,Tryz.underlying29] using hv
 obtain ⟨fuel,hf⟩:=h
 have hc:v.cells.toList=[v]:=by
  have hv2:=hv'
  simp only [Cell.okWide,Tryz.underlying29,Cell.ok] at hv2
  cases v <;> first | rfl | exact hv2.elim
 rw [hc] at hf
 obtain ⟨l,w,hw,h1,h3⟩:=dL .bytes (Q:=fun r:List Int=>∀ b∈r,0≤b∧b≤255) Tryz.underlying29 (by kernel_rfl) M7 hf
 simp only [eJ,and_true] at hw
 subst hw
 have hb:Tryz.prog.bytesOf 43=24:=by kernel_rfl
 rw [hb] at h3
 refine ⟨l,h1,fun hw=>?_⟩
 have h4:=h3 hw
 have h5:=h4.2
 unfold reachBytes at h5
 exact ⟨show l.length * 24≤140737488355328 by omega,h4.1⟩
end
end Go.Proofs.YtgfifkhbfdacjaaGreatDoor
namespace Go.Proofs.YtgfifkhbfdacjaaGreatDoor
open Go Go.Ev
set_option maxRecDepth 100000
structure TrOk (c:Chart) (t:Int):Prop where
 t0:0≤t
 t1:t<(c.trans.length:Int)
 few:c.states.length≤1000
 to:0≤ar c.states (ETy.get .tran c.trans t.toNat).dst∧ar c.states (ETy.get .tran c.trans t.toNat).dst<(c.states.length:Int)
 src:0≤(ETy.get .tran c.trans t.toNat).src∧(ETy.get .tran c.trans t.toNat).src<(c.states.length:Int)
def sQ:Cfg:=⟨aW,[jw,gG]⟩
theorem oa:ag Tryz.prog sQ.tab:=(ag.cons kJ (ag.cons fZ ag.nil))
abbrev zEu1 (a:Chart):List Chunk:=[.cells [.pd (.str a.name),.pd (.lst .str a.events),.pd (.lst .var a.vars),.pd (.lst .stat a.states),.pd (.lst .tran a.trans)] 27]
abbrev zEu2:List PI:=[.code [1,1,1,0,1,0,0],.inLoop [1,1,1,0,1,0,0],.inBlock 0,.code [1,1,1,1]]
variable (c:Chart) (t:Int) (ps:List Past)
theorem LP (hc:c.states.length≤maxLen) (hr:0≤ar c.states (ETy.get .tran c.trans t.toNat).dst∧ar c.states (ETy.get .tran c.trans t.toNat).dst<(c.states.length:Int)) (Γ:Ctx) (hm:ps.length≤maxLen):∀ (n k:Nat),ps.length - k≤n→k≤ps.length →
 J Tryz.prog 44 (av Tryz.f44) Γ (Eq2 (.x (.c (.pd (.lst .int (match (ps.drop k).find? (fun p=>p.state==ar c.states (ETy.get .tran c.trans t.toNat).dst) with | some p=>p.set | none=>[ar c.states (ETy.get .stat c.states (ar c.states (ETy.get .tran c.trans t.toNat).dst).toNat).initial]))))) []) zEu2 ({ n:=54,fr:=[(7,.i (ar c.states (Tran.dst (ETy.get .tran c.trans (Int.toNat t))))),(2,.p (.lst .past ps)),(3,.x (.c (.loc 0 0))),(6,.p (.v (Value.slice none 0 0))),(8,.i ((k:Int)))],ck:=(zEu1 c) }):=by
 intro n
 induction n with
 | zero=>?_
 | succ n ih=>?_
 all_goals
  intro k hn hk
  refine jg oa Tryz.func44 (let x1:=(Tran.dst (ETy.get .tran c.trans (Int.toNat t))); .ite (decide ((k:Int)<(ps.length:Int))) (.need (inRg k ps.length) (.ite (Past.state (ETy.get .past ps k)==ar c.states x1) (.need (inRg k ps.length) (.ret (.p (.lst .int (Past.set (ETy.get .past ps k)))) [])) (.stop zEu2 { n:=54,fr:=[(7,.i (ar c.states x1)),(2,.p (.lst .past ps)),(3,.x (.c (.loc 0 0))),(6,.p (.v (Value.slice none 0 0))),(8,.i (IntKind.wrap .i64 ((k:Int)+1)))],ck:=(zEu1 c) }))) (.need ((0:Int)≤ar c.states x1∧ar c.states x1<(c.states.length:Int)) (.need (c.states.length≤maxLen) (.ret (.p (.lst .int [ar c.states (Stat.initial (ETy.get .stat c.states ((ar c.states x1).toNat)))])) [])))) ?_
  conv=>zeta
  refine ⟨fun hlt=>?_,fun hge=>⟨hr,hc,?_⟩⟩
  · have hk':k<ps.length:=by have:=of_decide_eq_true hlt; omega
    rw [um hk']
    refine ⟨⟨by omega,by omega⟩,fun hb=>?_,fun hb=>?_⟩
    · rw [if_pos (by exact hb)]
      exact ⟨⟨by omega,by omega⟩,rfl,rfl⟩
    · have hb':((ETy.get .past ps k).state==ar c.states (ETy.get .tran c.trans t.toNat).dst)=false:=hb
      rw [if_neg (by rw [hb']; decide),aU (aB hk' hm)]
      first
      | (exfalso; omega)
      | exact ih (k+1) (by omega) (by omega)
  · rw [bE (l:=ps) (by have:=of_decide_eq_false hge; omega)]
    exact ⟨rfl,rfl⟩
theorem Fi (h:TrOk c t):ah Tryz.prog 44 [.e .chart c,.i t,.l .past ps] [] (.x (.c (.pd (.lst .int (jS c.states ps (ar c.states (ETy.get .tran c.trans t.toNat).dst)))))) []:=by
 have hm:c.states.length≤maxLen:=by have:=h.few; unfold maxLen; omega
 by_cases hp:aM (ETy.get .stat c.states (ar c.states (ETy.get .tran c.trans t.toNat).dst).toNat).kind=true
 · refine dg oa Tryz.func44 (let x1:=(Tran.dst (ETy.get .tran c.trans (Int.toNat t))); .need ((0:Int)≤t∧t<(c.trans.length:Int)) (.need (c.states.length≤maxLen) (.need ((0:Int)≤ar c.states x1∧ar c.states x1<(c.states.length:Int)) (.ite (!aM (Stat.kind (ETy.get .stat c.states ((ar c.states x1).toNat)))) (.ret (.x (.c (.own 0))) [.own 3 .int [ar c.states x1]]) (.stop zEu2 { n:=54,fr:=[(7,.i (ar c.states x1)),(2,.p (.lst .past ps)),(3,.x (.c (.loc 0 0))),(6,.p (.v (Value.slice none 0 0))),(8,.i 0)],ck:=(zEu1 c) }))))) fun Γ=>?_
   conv=>zeta
   unfold jS
   rw [if_pos hp]
   refine ⟨⟨h.t0,h.t1⟩,hm,h.to,fun hb=>?_,fun _=>?_⟩
   · rw [hp] at hb; exact absurd hb (by decide)
   · exact J.len 2 rfl fun hl=>LP c t ps hm h.to Γ hl ps.length 0 (by omega) (by omega)
 · have e:jS c.states ps (ar c.states (ETy.get .tran c.trans t.toNat).dst)=[ar c.states (ETy.get .tran c.trans t.toNat).dst]:=by unfold jS; rw [if_neg hp]
   rw [e]
   have own:ah Tryz.prog 44 [.e .chart c,.i t,.l .past ps] [] (.x (.c (.own 0))) [.own 3 .int [ar c.states (ETy.get .tran c.trans t.toNat).dst]]:=by
    refine dg oa Tryz.func44 (let x1:=(Tran.dst (ETy.get .tran c.trans (Int.toNat t))); .need ((0:Int)≤t∧t<(c.trans.length:Int)) (.need (c.states.length≤maxLen) (.need ((0:Int)≤ar c.states x1∧ar c.states x1<(c.states.length:Int)) (.ite (!aM (Stat.kind (ETy.get .stat c.states ((ar c.states x1).toNat)))) (.ret (.x (.c (.own 0))) [.own 3 .int [ar c.states x1]]) (.stop zEu2 { n:=54,fr:=[(7,.i (ar c.states x1)),(2,.p (.lst .past ps)),(3,.x (.c (.loc 0 0))),(6,.p (.v (Value.slice none 0 0))),(8,.i 0)],ck:=(zEu1 c) }))))) fun Γ=>?_
    conv=>zeta
    refine ⟨⟨h.t0,h.t1⟩,hm,h.to,fun _=>⟨rfl,rfl⟩,fun hb=>?_⟩
    rw [Bool.eq_false_iff.2 hp] at hb; exact absurd hb (by decide)
   exact ah.chop (ck':=[]) (ah.frz aW [0] own rfl rfl)
def vU:Ent:=(44,fun
 | [.agg [.pd (.str a),.pd (.lst .str b),.pd (.lst .var c),.pd (.lst .stat d),.pd (.lst .tran e)],.c (.pd (.int .i64 t)),.c (.pd (.lst .past ps))],[]=>some (some (TrOk ⟨a,b,c,d,e⟩ t),.x (.c (.pd (.lst .int (jS d ps (ar d (ETy.get .tran e t.toNat).dst))))),[])
 | _,_=>none)
theorem HC:EntOk Tryz.prog vU:=entOk fun vs ck=>by
 unfold vU; dsimp only; split
 · rename_i a b c d e t ps; exact entS fun hp=>Fi ⟨a,b,c,d,e⟩ t ps hp
 · exact entN
/-! ### Without -/
/-! ### Leaves -/
/-! ### Enter -/
def yU:Cfg:=⟨aW,[vU,rz,rA,jw]⟩
theorem uL:ag Tryz.prog yU.tab:=(ag.cons HC (ag.cons wY (ag.cons Eo (ag.cons kJ ag.nil))))
theorem JC (h:Valid c∧(0≤t∧t<(c.trans.length:Int))):ah Tryz.prog 17 [.e .chart c,.i t,.l .past ps] [] (.x (.c (.pd (.lst .int (fG c.states (ETy.get .tran c.trans t.toNat) ps))))) []:=by
 obtain ⟨v,ht⟩:=h
 have hst:=(mM c).1 v.few
 have hmc:c.states.length≤maxLen:=by unfold maxLen; omega
 by_cases hz:(ETy.get .tran c.trans t.toNat).dst=[]
 · have e:fG c.states (ETy.get .tran c.trans t.toNat) ps=[]:=by unfold fG; rw [hz]; rfl
   rw [e]
   refine ah.ret (ret:=.x (.c (.pd (.v (.slice none 0 0))))) ?_ fun V v hv=>lF hv
   refine dg uL Tryz.func17 (let x1:=(ETy.get .tran c.trans (Int.toNat t)); let x2:=(ar c.states (Tran.dst x1)); let x3:=((0:Int)≤t∧t<(c.trans.length:Int)); let x4:=(c.states.length:Int); .need x3 (.ite (aD (Tran.dst x1)==(0:Int)) (.ret (.p (.v (Value.slice none 0 0))) []) (.need x3 (.need x3 (.need (c.states.length≤maxLen) (.need ((0:Int)≤Tran.src x1∧Tran.src x1<x4∧(0:Int)≤ar c.states (Tran.dst x1)∧ar c.states (Tran.dst x1)<x4∧c.states.length≤maxLen) (.need (TrOk c t) (.need (c.states.length≤1000∧(0:Int)≤fO c.states ((Tran.src x1).toNat) (x2.toNat)∧fO c.states ((Tran.src x1).toNat) (x2.toNat)<x4) (.ret (.p (.lst .int (na c.states (fh c.states (jS c.states ps x2)) ((fO c.states ((Tran.src x1).toNat) (x2.toNat)).toNat)))) []))))))))) fun Γ=>?_
   conv=>zeta
   refine ⟨ht,fun _=>⟨rfl,rfl⟩,fun hb=>?_⟩
   rw [hz] at hb; exact absurd hb (by decide)
 · obtain ⟨tg,d,e1,e2,e3,e4,e5,e6,e7,e8⟩:=A6 v (i:=t.toNat) (by omega) hz
   have hsrc:0≤(ETy.get .tran c.trans t.toNat).src∧(ETy.get .tran c.trans t.toNat).src<(c.states.length:Int):=by
    have:=cN c.states e4
    rcases e8 with e | e <;> omega
   have edom:fO c.states (ETy.get .tran c.trans t.toNat).src.toNat (ar c.states (ETy.get .tran c.trans t.toNat).dst).toNat=(d:Int):=by
    rw [← e3]
    obtain ⟨q,hq⟩:=ax hsrc.1
    rw [hq,e1,ai,ai]
    exact (Bf v.tree (by omega) e2).symm
   have e:fG c.states (ETy.get .tran c.trans t.toNat) ps=na c.states (fh c.states (jS c.states ps (ar c.states (ETy.get .tran c.trans t.toNat).dst))) (fO c.states (ETy.get .tran c.trans t.toNat).src.toNat (ar c.states (ETy.get .tran c.trans t.toNat).dst).toNat).toNat:=by
    unfold fG; rw [if_neg (by simpa using hz),edom,e3,ai]; exact M1 v.tre _ e4
   rw [e]
   refine dg uL Tryz.func17 (let x1:=(ETy.get .tran c.trans (Int.toNat t)); let x2:=(ar c.states (Tran.dst x1)); let x3:=((0:Int)≤t∧t<(c.trans.length:Int)); let x4:=(c.states.length:Int); .need x3 (.ite (aD (Tran.dst x1)==(0:Int)) (.ret (.p (.v (Value.slice none 0 0))) []) (.need x3 (.need x3 (.need (c.states.length≤maxLen) (.need ((0:Int)≤Tran.src x1∧Tran.src x1<x4∧(0:Int)≤ar c.states (Tran.dst x1)∧ar c.states (Tran.dst x1)<x4∧c.states.length≤maxLen) (.need (TrOk c t) (.need (c.states.length≤1000∧(0:Int)≤fO c.states ((Tran.src x1).toNat) (x2.toNat)∧fO c.states ((Tran.src x1).toNat) (x2.toNat)<x4) (.ret (.p (.lst .int (na c.states (fh c.states (jS c.states ps x2)) ((fO c.states ((Tran.src x1).toNat) (x2.toNat)).toNat)))) []))))))))) fun Γ=>?_
   conv=>zeta
   refine ⟨ht,fun hb=>?_,fun _=>⟨ht,ht,hmc,⟨hsrc.1,hsrc.2,by omega,by omega,hmc⟩,⟨ht.1,ht.2,by omega,⟨by omega,by omega⟩,hsrc⟩,⟨by omega,by omega,by omega⟩,rfl,rfl⟩⟩
   exfalso
   have hb':(aD (ETy.get .tran c.trans t.toNat).dst==0)=true:=hb
   have:=eq_of_beq hb'
   unfold aD at this
   exact hz (bm (by omega))
def pn:Ent:=(17,fun
 | [.agg [.pd (.str a),.pd (.lst .str b),.pd (.lst .var c),.pd (.lst .stat d),.pd (.lst .tran e)],.c (.pd (.int .i64 t)),.c (.pd (.lst .past ps))],[]=>some (some (Valid ⟨a,b,c,d,e⟩∧(0≤t∧t<(e.length:Int))),.x (.c (.pd (.lst .int (fG d (ETy.get .tran e t.toNat) ps)))),[])
 | _,_=>none)
theorem CO:EntOk Tryz.prog pn:=entOk fun vs ck=>by
 unfold pn; dsimp only; split
 · rename_i a b c d e t ps; exact entS fun hp=>JC ⟨a,b,c,d,e⟩ t ps hp
 · exact entN
end Go.Proofs.YtgfifkhbfdacjaaGreatDoor
namespace Go.Proofs.YtgfifkhbfdacjaaGreatDoor
open Go Go.Ev
set_option maxRecDepth 100000
variable {c:Chart} {t:Int} {l:List Ev.Stat} {ps:List Past}
theorem Mu (t:Tre l) {p:Past} (h:b7 l p=true):p.set.length≤1000:=by
 have hf:=t.shp.few
 unfold b7 at h
 split at h
 · cases h
 · rename_i hn
   split at h
   · simp only [af] at h
     have:=eq_of_beq h.1.1
     omega
   · rw [af] at h
     simp only [aL,decide_eq_true_eq,aI,not_or,Int.not_lt,Int.not_le,ge_iff_le] at hn
     have hi:p.state.toNat<l.length:=by omega
     obtain ⟨u,e1,_,e3,_⟩:=pM t hi (by simpa using hn.2)
     have:=NO t p.set e3
     rw [e1,ai] at h
     rw [eq_of_beq h.2] at this
     omega
theorem FY (t:Tre l) {pk:List (List Int)} (hpk:∀ p∈pk,∀ b∈p,0≤b∧b≤255):room (mdM l pk).length 32∧∀ p∈mdM l pk,room p.set.length 8:=by
 have hr:=mQ t hpk
 have h1:=(DS hr).1
 have hf:=t.shp.few
 exact ⟨room_le (by omega) (by omega),fun p hp=>room_le (aw (Mu t ((lU hr).2.2 p hp)) (by omega)) (by omega)⟩
theorem Ie (h1:(!bF c==0||decide (t<0)||decide (t≥(c.trans.length:Int)))=true):dn c t ps=[]:=by
 have:fE c t ps=true:=by
  unfold fE
  cases ha:bF c==0 <;> cases hb:decide (t<0) <;> cases hc:decide (t≥(c.trans.length:Int)) <;> simp [ha,hb,hc] at h1 ⊢
 unfold dn; rw [if_pos this]
theorem Ee (c:Chart) (t:Int):dn c t [⟨-1,[]⟩]=[]:=by
 have:fE c t [⟨-1,[]⟩]=true:=by
  unfold fE
  have e:b4 (b7 c.states) none [⟨-1,[]⟩]=false:=by
   rw [jJ]
   have:b7 c.states ⟨-1,[]⟩=false:=by
    unfold b7
    rw [if_pos (by simp)]
   rw [this]; rfl
  rw [e]; simp
 unfold dn; rw [if_pos this]
theorem OV (h1:(!bF c==0||decide (t<0)||decide (t≥(c.trans.length:Int)))=false):bF c=0∧0≤t∧t<(c.trans.length:Int):=by
 cases ha:bF c==0 <;> cases hb:decide (t<0) <;> cases hc:decide (t≥(c.trans.length:Int)) <;> simp [ha,hb,hc] at h1
 have h2:=of_decide_eq_false hb
 have h3:=of_decide_eq_false hc
 exact ⟨eq_of_beq ha,by omega,by omega⟩
theorem GP (h:bF c=0∧0≤t∧t<(c.trans.length:Int)) (hps:b4 (b7 c.states) none ps=true):dn c t ps=fG c.states (ETy.get .tran c.trans t.toNat) ps:=by
 unfold dn
 cases hb:fE c t ps
 · rw [if_neg (by decide)]
 · rw [if_pos rfl]
   unfold fE at hb
   rw [h.1,hps] at hb
   have h2:decide (t<0)=false:=decide_eq_false (by omega)
   have h3:decide (t≥(c.trans.length:Int))=false:=decide_eq_false (by omega)
   rw [h2,h3] at hb
   unfold fG
   rw [if_pos (by simpa using hb)]
def Fk:Cfg:=⟨aW,[oW,o8,sj,lC,vM,pN,pn,rj,n5]⟩
theorem FT:ag Tryz.prog Fk.tab:=(ag.cons kR (ag.cons kV (ag.cons Fb (ag.cons xu (ag.cons IV (ag.cons B4 (ag.cons CO (ag.cons Gu (ag.cons uM ag.nil)))))))))
theorem EF (c:Chart) (t:Int) (pk:List (List Int)) (h:oS c) (hpk:∀ p∈pk,∀ b∈p,0≤b∧b≤255):ah Tryz.prog 4 [.e .chart c,.i t,.l .bytes pk] [] (.x (.b true)) []:=by
 have hz:=Nc h
 have hb:=NN h
 have hsz:c.vars.length≤2199023255552∧c.states.length≤2199023255552:=⟨hz.1,by omega⟩
 refine dg FT Tryz.func4 (let x1:=(c.vars.length≤2199023255552∧c.states.length≤2199023255552); .ite false (.ret (.p (.bool false)) []) (.need (∀ (s:ETy.den .stat),s∈c.states→s.entry.length≤4398046511104∧s.leave.length≤4398046511104) (.ite (!bF c==(0:Int)||decide (t<(0:Int))||decide (t≥(c.trans.length:Int))) (.need x1 (.ret (.p (.bool ((↑((dn c t []).length):Int)==0))) [])) (.need (Tre c.states∧∀ (p:List Int),p∈pk→∀ (b:Int),b∈p→(0:Int)≤b∧b≤(255:Int)) (.need (room ((mdM c.states pk).length) 32∧∀ (p:Past),p∈mdM c.states pk→room ((Past.set p).length) 8) (.need x1 (.need (Valid c∧(0:Int)≤t∧t<(c.trans.length:Int)) (.need ((dn c t (mdM c.states pk)==fG c.states (ETy.get .tran c.trans (Int.toNat t)) (mdM c.states pk))=true) (.need x1 (.ret (.p (.bool (true&&(↑(List.length (dn c t [{ state:=(-1:Int),set:=[] }])):Int)==0))) [])))))))))) fun Γ=>?_
 conv=>zeta
 refine ⟨fun h0=>absurd h0 (by decide),fun _=>⟨hb,fun h1=>⟨hsz,?_,rfl⟩,fun h1=>?_⟩⟩
 · exact congrArg (fun b=>SV.x (.c (.pd (.bool b)))) (show (((dn c t []).length:Int)==0)=true from by rw [Ie h1]; rfl)
 · have ht:=OV h1
   have hv:=(iR c).1 ht.1
   have tt:=hv.tre
   refine ⟨⟨tt,hpk⟩,FY tt hpk,hsz,⟨hv,ht.2⟩,?_,hsz,?_,rfl⟩
   · show (dn c t (mdM c.states pk)==fG c.states (ETy.get .tran c.trans t.toNat) (mdM c.states pk))=true
     rw [GP ht (mQ tt hpk)]; simp
   · exact congrArg (fun b=>SV.x (.c (.pd (.bool b)))) (show (true&&(((dn c t [⟨-1,[]⟩]).length:Int)==0))=true from by rw [Ee]; rfl)
end Go.Proofs.YtgfifkhbfdacjaaGreatDoor
namespace Go.Proofs.YtgfifkhbfdacjaaGreatDoor
open Go Go.Ev Go.RowKit Go.ChangeShapes Go.WideShapes Go.ChangeAt
set_option maxRecDepth 100000
theorem Mv {Hh:Type} {enc:TypeId×Value→Hh} {W:World} {base:Nat} {spare:Nat→Bool} {held:Bool} {v:Value} {d:DataW Hh} {ps:List MemPlace} {b0:Nat} (h:DataW.Trod enc Tryz.prog W base spare held 3 v d ps) (hv:Value.okWide Tryz.prog W .any b0 3 v) :
 ∃ n:Int,SX.R (VW W) (.c (.pd (.int .i64 n))) v∧-9223372036854775808≤n∧n≤9223372036854775807:=by
 have hv':Cell.okWide Tryz.prog W .any b0 3 v:=by simpa only [Value.okWide,Tryz.underlying3] using hv
 obtain ⟨fuel,hf⟩:=h
 have hc:v.cells.toList=[v]:=by
  have hv2:=hv'
  simp only [Cell.okWide,Tryz.underlying3,Cell.ok] at hv2
  cases v <;> first | rfl | exact hv2.elim
 rw [hc] at hf
 obtain ⟨n,h1,_,h2⟩:=DataW.trod_int Tryz.underlying3 hf
 simp only [eJ,and_true] at h1
 subst h1
 simp only [Lit.wf,af,decide_eq_true_eq] at h2
 have e1:IntKind.i64.min = -9223372036854775808:=by decide
 have e2:IntKind.i64.max=9223372036854775807:=by decide
 rw [e1,e2] at h2
 exact ⟨n,.int _ n,h2.1,h2.2⟩
end Go.Proofs.YtgfifkhbfdacjaaGreatDoor

/- Contracts: the layer's copied, Made. Conditions: sizes. Lists of ints and of bytes among the laws' arguments. Conditions: none. Lists of lists of bytes, lists of what histories remember, among the laws' arguments. Conditions: none. Contracts: the document's Targets, Enter, Leaves, Without. Conditions: sizes. Contracts: the law MovesEnter. Conditions: sizes. Contracts: the law MovesLegal. Conditions: sizes. Numbers among the law's arguments. Conditions: none. -/
import Derived.Test.YtgfifkhbfdacjaaGreatDoorEi
import Derived.Test.YtgfifkhbfdacjaaGreatDoorEr
import Derived.Test.YtgfifkhbfdacjaaGreatDoorVl
import Derived.Test.YtgfifkhbfdacjaaGreatDoorLx
import Derived.Test.YtgfifkhbfdacjaaGreatDoorKb
import Derived.Test.YtgfifkhbfdacjaaGreatDoorSo
import Derived.Test.YtgfifkhbfdacjaaGreatDoorSk
namespace Go.Proofs.YtgfifkhbfdacjaaGreatDoor
open Go Go.Ev
set_option maxRecDepth 100000
/-! ### Made -/
def rX:Cfg:=⟨aZ,[oo,v8]⟩
theorem o6:ag Tryz.prog rX.tab:=(ag.cons vn (ag.cons JT ag.nil))
abbrev zEk1 (a:Chart):Chunk:=.cells [.pd (.str a.name),.pd (.lst .str a.events),.pd (.lst .var a.vars),.pd (.lst .stat a.states),.pd (.lst .tran a.trans)] 27
abbrev zEk2:List PI:=[.code [1,1,0,1,0,0],.inLoop [1,1,0,1,0,0],.inBlock 0,.code [1,1,1]]
theorem Js (c:Chart) (ps:List (List Int)) (out:List Past) (s:List Int) (i:Nat) (Γ:Ctx) (Q:Out) (hs:s.length≤1000∧∀ y∈s,0≤y∧y<(c.states.length:Int)) (hm:c.states.length≤1000)
 (hcont:J Tryz.prog 14 (au Tryz.f14) Γ Q zEk2 ({ n:=51,fr:=[(1,.p (.lst ETy.bytes ps)),(2,.x (.c (.loc 0 0))),(4,.p (.v (Value.slice none 0 0))),(5,.p (.lst .past ((oX c.states s (KC c.states s (Int.tmod (i:Int) 3)) out)))),(12,.i ps.length),(13,.i ((IntKind.wrap .i64 ((i:Int)+1))))],ck:=[zEk1 c] })):∀ (n k:Nat),s.length - k≤n→k≤s.length→∀ left,left=(s.take k).filter (fun k=>decide ((ETy.get .stat c.states k.toNat).depth≥Int.tmod (i:Int) 3)) →
 J Tryz.prog 14 (au Tryz.f14) Γ Q [.code [1,1,0,1,0,0,1,1,0,0,1,1,1,1,0,1,0,0],.inLoop [1,1,0,1,0,0,1,1,0,0,1,1,1,1,0,1,0,0],.inBlock 2,.code [1,1,0,1,0,0,1,1,0,0,1,1,1,1,1],.inBlock 1,.code [1,1,0,1,0,0,1,1,1],.inLoop [1,1,0,1,0,0],.inBlock 0,.code [1,1,1]] ({ n:=51,fr:=[(7,.p (.lst .int s)),(1,.p (.lst ETy.bytes ps)),(2,.x (.c (.loc 0 0))),(4,.p (.v (Value.slice none 0 0))),(5,.p (.lst .past out)),(12,.i ps.length),(13,.i i),(6,.i i),(8,.x (.c (.own 1))),(24,.p (.lst .int s)),(25,.i ((s.length:Int))),(26,.i ((k:Int)))],ck:=[zEk1 c,.own 3 .int left] }):=by
 have hml:s.length≤maxLen:=by unfold maxLen; omega
 intro n
 induction n with
 | zero=>?_
 | succ n ih=>?_
 all_goals
  intro k hn hk left hl
  refine jg o6 Tryz.func14 (let x3:List Nat:=[1,1,0,1,0,0,1,1,0,0,1,1,1,1,0,1,0,0]; let x1:List PI:=[.code x3,.inLoop x3,.inBlock 2,.code [1,1,0,1,0,0,1,1,0,0,1,1,1,1,1],.inBlock 1,.code [1,1,0,1,0,0,1,1,1],.inLoop [1,1,0,1,0,0],.inBlock 0,.code [1,1,1]]; let x2:List (Nat×SV):=[(7,.p (.lst .int s)),(1,.p (.lst ETy.bytes ps)),(2,.x (.c (.loc 0 0))),(4,.p (.v (Value.slice none 0 0))),(5,.p (.lst .past out)),(12,.i ps.length),(13,.i i),(6,.i i),(8,.x (.c (.own 1))),(24,.p (.lst .int s)),(25,.i s.length),(26,.i (IntKind.wrap .i64 ((k:Int)+1)))]; .ite (decide ((k:Int)<(s.length:Int))) (.need (inRg k s.length) (.need ((0:Int)≤ETy.get .int s k∧ETy.get .int s k<(c.states.length:Int)) (.need ((3:Int)≠(0:Int)) (.ite (decide (Stat.depth (ETy.get .stat c.states ((ETy.get .int s k).toNat))≥Int.tmod (i:Int) (3:Int))) (.need (room ((left++[ETy.get .int s k]).length) 8) (.stop x1 { n:=51,fr:=x2,ck:=[zEk1 c,.own 3 .int (left++[ETy.get .int s k])] })) (.stop x1 { n:=51,fr:=x2,ck:=[zEk1 c,.own 3 .int left] }))))) (.need (c.states.length≤1000∧s.length≤1000∧∀ (y:ETy.den .int),y∈s→(0:ETy.den .int)≤y∧y<(c.states.length:Int)) (.stop zEk2 { n:=51,fr:=[(1,.p (.lst ETy.bytes ps)),(2,.x (.c (.loc 0 0))),(4,.p (.v (Value.slice none 0 0))),(5,.p (.lst .past (oX c.states s left out))),(12,.i ps.length),(13,.i (IntKind.wrap .i64 ((i:Int)+1)))],ck:=[zEk1 c] }))) ?_
  conv=>zeta
  refine ⟨fun hlt=>?_,fun hge=>?_⟩
  · have hk':k<s.length:=by have:=of_decide_eq_true hlt; omega
    have hy:=hs.2 (ETy.get .int s k) (by rw [ETy.get_eq (t:=.int) (List.getElem?_eq_getElem hk')]; exact aY hk')
    have ht:=gA s (fun k=>decide ((ETy.get .stat c.states k.toNat).depth≥Int.tmod (i:Int) 3)) hk'
    have hsl:left.length≤1000:=by
     rw [hl]
     have:=a7 (fun k:Int=>decide ((ETy.get .stat c.states k.toNat).depth≥Int.tmod (i:Int) 3)) (s.take k)
     have:=eC k s
     omega
    refine ⟨⟨by omega,by omega⟩,hy,by decide,fun hb=>?_,fun hb=>?_⟩
    · have hb':decide ((ETy.get .stat c.states (ETy.get .int s k).toNat).depth≥Int.tmod (i:Int) 3)=true:=hb
      rw [if_pos hb',← hl] at ht
      refine ⟨room_le (by rw [an,cA]; omega) (by omega),?_⟩
      rw [aW (aA hk' hml)]
      first
      | (exfalso; omega)
      | exact ih (k+1) (by omega) (by omega) _ ht.symm
    · have hb':decide ((ETy.get .stat c.states (ETy.get .int s k).toNat).depth≥Int.tmod (i:Int) 3)=false:=hb
      rw [if_neg (by rw [hb']; decide),aG,← hl] at ht
      rw [aW (aA hk' hml)]
      first
      | (exfalso; omega)
      | exact ih (k+1) (by omega) (by omega) _ ht.symm
  · have e:s.take k=s:=aP (by have:=of_decide_eq_false hge; omega)
    rw [e] at hl
    subst hl
    exact ⟨⟨hm,hs⟩,hcont⟩
theorem Lk (c:Chart) (ps:List (List Int)) (t:Tre c.states) (hp:∀ p∈ps,∀ b∈p,0≤b∧b≤255) (Γ:Ctx) (hm:ps.length≤maxLen):∀ (n i:Nat),ps.length - i≤n→i≤ps.length→∀ out:List Past,
 J Tryz.prog 14 (au Tryz.f14) Γ (Eq2 (.x (.c (.pd (.lst .past (tA c.states i (ps.drop i) out))))) []) zEk2 ({ n:=51,fr:=[(1,.p (.lst ETy.bytes ps)),(2,.x (.c (.loc 0 0))),(4,.p (.v (Value.slice none 0 0))),(5,.p (.lst .past out)),(12,.i ps.length),(13,.i ((i:Int)))],ck:=[zEk1 c] }):=by
 intro n
 induction n with
 | zero=>?_
 | succ n ih=>?_
 all_goals
  intro i hn hi out
  refine jg o6 Tryz.func14 (let x1:=(cZ c.states (chM c.states (ETy.get ETy.bytes ps i))); let x2:List Nat:=[1,1,0,1,0,0,1,1,0,0,1,1,1,1,0,1,0,0]; .ite (decide ((i:Int)<(ps.length:Int))) (.ite (decide ((i:Int)>5)) (.ret (.p (.lst .past out)) []) (.need (inRg i ps.length) (.need (Tre c.states∧∀ (b:ETy.den .byte),b∈ETy.get ETy.bytes ps i→(0:ETy.den .byte)≤b∧b≤(255:ETy.den .byte)) (.stop [.code x2,.inLoop x2,.inBlock 2,.code [1,1,0,1,0,0,1,1,0,0,1,1,1,1,1],.inBlock 1,.code [1,1,0,1,0,0,1,1,1],.inLoop [1,1,0,1,0,0],.inBlock 0,.code [1,1,1]] { n:=51,fr:=[(7,.p (.lst .int x1)),(1,.p (.lst ETy.bytes ps)),(2,.x (.c (.loc 0 0))),(4,.p (.v (Value.slice none 0 0))),(5,.p (.lst .past out)),(12,.i ps.length),(13,.i i),(6,.i i),(8,.p (.v (Value.slice none 0 0))),(24,.p (.lst .int x1)),(25,.i (↑(x1.length):Int)),(26,.i 0)],ck:=[zEk1 c] })))) (.ret (.p (.lst .past out)) [])) ?_
  conv=>zeta
  refine ⟨fun hlt=>?_,fun hge=>?_⟩
  · have hi':i<ps.length:=by have:=of_decide_eq_true hlt; omega
    have ed:ps.drop i=ETy.get .bytes ps i::ps.drop (i+1):=bz (t:=.bytes) (l:=ps) hi'
    have hb:=hp (ETy.get .bytes ps i) (by rw [ETy.get_eq (t:=.bytes) (List.getElem?_eq_getElem hi')]; exact aY hi')
    rw [ed,tA]
    refine ⟨fun h5=>?_,fun h5=>⟨⟨by omega,by omega⟩,⟨t,hb⟩,?_⟩⟩
    · rw [if_pos (by have:=of_decide_eq_true h5; omega)]; exact ⟨rfl,rfl⟩
    · have hg:=(lV t.shp _).2 (kP t (kR t hb))
      have hin:=rO hg
      have hlen:=xi t hb
      have hfew:=t.shp.few
      rw [if_neg (by have:=of_decide_eq_false h5; omega)]
      refine J.nilOwn 8 3 .int rfl (by kernel_rfl) ?_
      refine Js c ps out (cZ c.states (chM c.states (ETy.get .bytes ps i))) i Γ _ ⟨by omega,hin.1⟩ (by omega) ?_ (cZ c.states (chM c.states (ETy.get .bytes ps i))).length 0 (by omega) (by omega) [] (by simp)
      rw [aW (aA hi' hm),show Int.tmod (i:Int) 3=((i % 3:Nat):Int) from rfl]
      first
      | (exfalso; omega)
      | exact ih (i+1) (by omega) (by omega) _
  · rw [bN (l:=ps) (by have:=of_decide_eq_false hge; omega)]; exact ⟨rfl,rfl⟩
theorem No (c:Chart) (ps:List (List Int)) (h:Tre c.states∧∀ p∈ps,∀ b∈p,0≤b∧b≤255):ah Tryz.prog 14 [.e .chart c,.l .bytes ps] [] (.x (.c (.pd (.lst .past (mdM c.states ps))))) []:=by
 refine dg o6 Tryz.func14 (.stop zEk2 { n:=51,fr:=[(1,.p (.lst ETy.bytes ps)),(2,.x (.c (.loc 0 0))),(4,.p (.v (Value.slice none 0 0))),(5,.p (.v (Value.slice none 0 0))),(12,.i ps.length),(13,.i 0)],ck:=[zEk1 c] }) fun Γ=>?_
 refine J.nilLst 5 .past rfl ?_
 exact J.len 1 rfl fun hm=>Lk c ps h.1 h.2 Γ hm ps.length 0 (by omega) (by omega) []
def rW:Ent:=(14,fun
 | [.agg [.pd (.str a),.pd (.lst .str b),.pd (.lst .var c),.pd (.lst .stat d),.pd (.lst .tran e)],.c (.pd (.lst .bytes ps))],[]=>some (some (Tre d∧∀ p:List Int,p∈ps→∀ b∈p,(0:Int)≤b∧b≤255),.x (.c (.pd (.lst .past (mdM d ps)))),[])
 | _,_=>none)
theorem Ec:EntOk Tryz.prog rW:=entOk fun vs ck=>by
 unfold rW; dsimp only; split
 · rename_i a b c d e ps; exact entS fun hp=>No ⟨a,b,c,d,e⟩ ps hp
 · exact entN
end Go.Proofs.YtgfifkhbfdacjaaGreatDoor
namespace Go.Proofs.YtgfifkhbfdacjaaGreatDoor
open Go Go.Ev Go.RowKit Go.ChangeShapes Go.WideShapes Go.ChangeAt
set_option maxRecDepth 100000
section
variable {Hh:Type} {enc:TypeId×Value→Hh} {W:World} {base:Nat} {spare:Nat→Bool} {held:Bool}
theorem Ll (n:Nat) (cs:List Value) (y:DataW Hh×List MemPlace) (h:DataW.trod enc Tryz.prog W base spare held n 5 cs=some y):∃ r:Int,All2 (PR (HW W)) (ETy.byte.enc r) cs∧(0≤r∧r≤255):=by
 obtain ⟨k,h1,_,h2⟩:=DataW.trod_int Tryz.underlying5 h
 simp only [Lit.wf,af,decide_eq_true_eq] at h2
 have e1:IntKind.u8.min=0:=by decide
 have e2:IntKind.u8.max=255:=by decide
 rw [e1,e2] at h2
 exact ⟨k,by rw [h1]; exact .cons (.int _ k) .nil,h2⟩
end
end Go.Proofs.YtgfifkhbfdacjaaGreatDoor
namespace Go.Proofs.YtgfifkhbfdacjaaGreatDoor
open Go Go.Ev Go.RowKit Go.ChangeShapes Go.WideShapes Go.ChangeAt
set_option maxRecDepth 100000
section
variable {Hh:Type} {enc:TypeId×Value→Hh} {W:World} {base:Nat} {spare:Nat→Bool} {held:Bool}
theorem L2 (n:Nat) (cs:List Value) (y:DataW Hh×List MemPlace) (h:DataW.trod enc Tryz.prog W base spare held n 43 cs=some y):∃ r:List Int,All2 (PR (HW W)) (ETy.bytes.enc r) cs∧((y.1.weights Tryz.prog 43).all (·≤reachBytes)=true→∀ b∈r,0≤b∧b≤255):=by
 obtain ⟨l,v,rfl,hp,hq⟩:=dN .byte (Q:=fun b:Int=>0≤b∧b≤255) Tryz.underlying43 (by kernel_rfl) (fun n cs y h=>by
  obtain ⟨r,h1,h2⟩:=Ll n cs y h
  exact ⟨r,h1,fun _=>h2⟩) h
 exact ⟨l,.cons hp .nil,fun hw=>(hq hw).1⟩
theorem BK {v:Value} {d:DataW Hh} {ps:List MemPlace} {b0:Nat} (h:DataW.Trod enc Tryz.prog W base spare held 29 v d ps) (hv:Value.okWide Tryz.prog W .any b0 29 v) :
 ∃ l:List (List Int),SX.R (VW W) (.c (.pd (.lst .bytes l))) v∧((d.weights Tryz.prog 29).all (·≤reachBytes)=true→l.length * 24≤iE∧∀ p∈l,∀ b∈p,0≤b∧b≤255):=by
 have hv':Cell.okWide Tryz.prog W .any b0 29 v:=by simpa only [Value.okWide,Tryz.underlying29] using hv
 obtain ⟨fuel,hf⟩:=h
 have hc:v.cells.toList=[v]:=by
  have hv2:=hv'
  simp only [Cell.okWide,Tryz.underlying29,Cell.ok] at hv2
  cases v <;> first | rfl | exact hv2.elim
 rw [hc] at hf
 obtain ⟨l,w,hw,h1,h3⟩:=dN .bytes (Q:=fun r:List Int=>∀ b∈r,0≤b∧b≤255) Tryz.underlying29 (by kernel_rfl) L2 hf
 simp only [eM,and_true] at hw
 subst hw
 have hb:Tryz.prog.bytesOf 43=24:=by kernel_rfl
 rw [hb] at h3
 refine ⟨l,h1,fun hw=>?_⟩
 have h4:=h3 hw
 have h5:=h4.2
 unfold reachBytes at h5
 exact ⟨show l.length * 24≤140737488355328 by omega,h4.1⟩
end
end Go.Proofs.YtgfifkhbfdacjaaGreatDoor
namespace Go.Proofs.YtgfifkhbfdacjaaGreatDoor
open Go Go.Ev
set_option maxRecDepth 100000
/-! ### Without -/
def yH:Cfg:=⟨aZ,[mh]⟩
theorem uo:ag Tryz.prog yH.tab:=(ag.cons jD ag.nil)
theorem DS {i:Nat} (f:Nat→Bool):(((List.range (i+1)).filter f).map fun k:Nat=>(k:Int))=(((List.range i).filter f).map fun k:Nat=>(k:Int))++(if f i=true then [(i:Int)] else []):=by
 rw [dH,bP,bJ,List.filter_cons]
 cases f i <;> rfl
variable (c:Chart) (s left enter:List Int) (t d:Int) (i:Nat)
theorem Gy (f:Nat→Bool):(((List.range i).filter f).map fun k:Nat=>(k:Int)).length≤i:=by
 rw [aQ]
 exact ax (a7 _ _) (by simp)
def woF:Bool:=inB enter (i:Int)||inB s (i:Int) && !inB left (i:Int)
abbrev zEu1 (a:Chart):Chunk:=.cells [.pd (.str a.name),.pd (.lst .str a.events),.pd (.lst .var a.vars),.pd (.lst .stat a.states),.pd (.lst .tran a.trans)] 27
abbrev zEu3:List PI:=[.code [1,1,0,1,0,0],.inLoop [1,1,0,1,0,0],.inBlock 0,.code [1,1,1]]
theorem My (hm:c.states.length≤1000) (Γ:Ctx):∀ (n i:Nat),c.states.length - i≤n→i≤c.states.length →
 J Tryz.prog 25 (au Tryz.f25) Γ (Eq2 (.x (.c (.own 0))) [.own 3 .int (fQ c.states s left enter)]) zEu3 ({ n:=37,fr:=[(1,.p (.lst .int s)),(2,.p (.lst .int left)),(3,.p (.lst .int enter)),(4,.x (.c (.loc 0 0))),(8,.p (.v (Value.slice none 0 0))),(9,.x (.c (.own 1))),(10,.i ((i:Int)))],ck:=[zEu1 c,.own 3 .int (((List.range i).filter (woF s left enter)).map fun k:Nat=>(k:Int))] }):=by
 have hml:c.states.length≤maxLen:=by unfold maxLen; omega
 intro n
 induction n with
 | zero=>?_
 | succ n ih=>?_
 all_goals
  intro i hn hi
  have hol:=Gy i (woF s left enter)
  have ht:=DS (i:=i) (woF s left enter)
  generalize hout:(((List.range i).filter (woF s left enter)).map fun k:Nat=>(k:Int))=out at hol ht
  refine jg uo Tryz.func25 (let x1:List (Nat×SV):=[(1,.p (.lst .int s)),(2,.p (.lst .int left)),(3,.p (.lst .int enter)),(4,.x (.c (.loc 0 0))),(8,.p (.v (Value.slice none 0 0))),(9,.x (.c (.own 1))),(10,.i (IntKind.wrap .i64 ((i:Int)+1)))]; let x2:List PI:=zEu3; .ite (decide ((i:Int)<(c.states.length:Int))) (.ite (inB enter (i:Int)||inB s (i:Int) && !inB left (i:Int)) (.need (room ((out++[(i:Int)]).length) 8) (.stop x2 { n:=37,fr:=x1,ck:=[zEu1 c,.own 3 .int (out++[(i:Int)])] })) (.stop x2 { n:=37,fr:=x1,ck:=[zEu1 c,.own 3 .int out] })) (.ret (.x (.c (.own 0))) [.own 3 .int out])) ?_
  conv=>zeta
  refine ⟨fun hlt=>?_,fun hge=>?_⟩
  · have hi':i<c.states.length:=by have:=of_decide_eq_true hlt; omega
    refine ⟨fun hb=>?_,fun hb=>?_⟩
    · have hb':woF s left enter i=true:=hb
      rw [if_pos hb'] at ht
      refine ⟨room_le (by rw [an,cA]; omega) (by omega),?_⟩
      rw [aW (aA hi' hml),← ht]
      first
      | (exfalso; omega)
      | exact ih (i+1) (by omega) (by omega)
    · have hb':woF s left enter i=false:=hb
      rw [if_neg (by rw [hb']; decide),aG] at ht
      rw [aW (aA hi' hml),← ht]
      first
      | (exfalso; omega)
      | exact ih (i+1) (by omega) (by omega)
  · have hie:i=c.states.length:=by have:=of_decide_eq_false hge; omega
    subst hie
    rw [← hout]; exact ⟨rfl,rfl⟩
theorem N0 (hm:c.states.length≤1000):ah Tryz.prog 25 [.e .chart c,.l .int s,.l .int left,.l .int enter] [] (.x (.c (.own 0))) [.own 3 .int (fQ c.states s left enter)]:=by
 refine dg uo Tryz.func25 (.stop zEu3 { n:=37,fr:=[(1,.p (.lst .int s)),(2,.p (.lst .int left)),(3,.p (.lst .int enter)),(4,.x (.c (.loc 0 0))),(8,.p (.v (Value.slice none 0 0))),(9,.p (.v (Value.slice none 0 0))),(10,.i 0)],ck:=[zEu1 c] }) fun Γ=>?_
 refine J.nilOwn 9 3 .int rfl (by kernel_rfl) ?_
 exact My c s left enter hm Γ c.states.length 0 (by omega) (by omega)
theorem Mc (hm:c.states.length≤1000):ah Tryz.prog 25 [.e .chart c,.l .int s,.l .int left,.l .int enter] [] (.x (.c (.pd (.lst .int (fQ c.states s left enter))))) []:=ah.chop (ck':=[]) (ah.frz aZ [0] (N0 c s left enter hm) rfl rfl)
def vQ:Ent:=(25,fun
 | [.agg [.pd (.str a),.pd (.lst .str b),.pd (.lst .var c),.pd (.lst .stat d),.pd (.lst .tran e)],.c (.pd (.lst .int s)),.c (.pd (.lst .int l)),.c (.pd (.lst .int n))],[]=>some (some (d.length≤1000),.x (.c (.pd (.lst .int (fQ d s l n)))),[])
 | _,_=>none)
theorem KA:EntOk Tryz.prog vQ:=entOk fun vs ck=>by
 unfold vQ; dsimp only; split
 · rename_i a b c d e s l n; exact entS fun hp=>Mc ⟨a,b,c,d,e⟩ s l n hp
 · exact entN
/-! ### Leaves -/
def oy:Cfg:=⟨aZ,[r6,nC,kY]⟩
theorem lR:ag Tryz.prog oy.tab:=(ag.cons yd (ag.cons nd (ag.cons m0 ag.nil)))
def lvF (l:List Ev.Stat) (d:Int) (k:Int):Bool:=dB l d k.toNat
abbrev zEu2:List PI:=[.code [1,1,1,1,0,1,0,0],.inLoop [1,1,1,1,0,1,0,0],.inBlock 0,.code [1,1,1,1,1]]
theorem Lh (hd:eS c.states (ETy.get .tran c.trans t.toNat).src.toNat (av c.states (ETy.get .tran c.trans t.toNat).dst).toNat=d) (hm:c.states.length≤1000) (hs:s.length≤1000∧∀ y∈s,0≤y∧y<(c.states.length:Int)) (Γ:Ctx):∀ (n i:Nat),s.length - i≤n→i≤s.length →
 J Tryz.prog 23 (au Tryz.f23) Γ (Eq2 (.x (.c (.own 0))) [.own 3 .int (s.filter (lvF c.states d))]) zEu2 ({ n:=58,fr:=[(8,.i (eS c.states ((Tran.src (ETy.get .tran c.trans (Int.toNat t))).toNat) ((av c.states (Tran.dst (ETy.get .tran c.trans (Int.toNat t)))).toNat))),(1,.p (.lst .int s)),(3,.x (.c (.loc 0 0))),(6,.p (.v (Value.slice none 0 0))),(7,.x (.c (.own 1))),(9,.i ((i:Int)))],ck:=[zEu1 c,.own 3 .int ((s.take i).filter (lvF c.states d))] }):=by
 have hml:s.length≤maxLen:=by unfold maxLen; omega
 intro n
 induction n with
 | zero=>?_
 | succ n ih=>?_
 all_goals
  intro i hn hi
  have hol:((s.take i).filter (lvF c.states d)).length≤1000:=by
   have:=a7 (lvF c.states d) (s.take i)
   have:=eC i s
   omega
  by_cases hi':i<s.length
  · have ht:=gA s (lvF c.states d) hi'
    have hy:=hs.2 (ETy.get .int s i) (by rw [ETy.get_eq (t:=.int) (List.getElem?_eq_getElem hi')]; exact aY hi')
    generalize hout:(s.take i).filter (lvF c.states d)=out at hol ht
    refine jg lR Tryz.func23 (let x4:=(ETy.get .tran c.trans (Int.toNat t)); let x1:=(eS c.states ((Tran.src x4).toNat) ((av c.states (Tran.dst x4)).toNat)); let x2:List (Nat×SV):=[(8,.i x1),(1,.p (.lst .int s)),(3,.x (.c (.loc 0 0))),(6,.p (.v (Value.slice none 0 0))),(7,.x (.c (.own 1))),(9,.i (IntKind.wrap .i64 ((i:Int)+1)))]; let x3:List PI:=zEu2; .ite (decide ((i:Int)<(s.length:Int))) (.need (inRg i s.length) (.need ((0:Int)≤ETy.get .int s i∧ETy.get .int s i<(c.states.length:Int)∧c.states.length≤maxLen) (.ite (dB c.states x1 ((ETy.get .int s i).toNat)) (.need (inRg i s.length) (.need (room ((out++[ETy.get .int s i]).length) 8) (.stop x3 { n:=58,fr:=x2,ck:=[zEu1 c,.own 3 .int (out++[ETy.get .int s i])] }))) (.stop x3 { n:=58,fr:=x2,ck:=[zEu1 c,.own 3 .int out] })))) (.ret (.x (.c (.own 0))) [.own 3 .int out])) ?_
    conv=>zeta
    refine ⟨fun _=>⟨⟨by omega,by omega⟩,⟨hy.1,hy.2,by unfold maxLen; omega⟩,fun hb=>?_,fun hb=>?_⟩,fun hge=>?_⟩
    · have hb':lvF c.states d (ETy.get .int s i)=true:=by rw [← hd]; exact hb
      rw [if_pos hb'] at ht
      refine ⟨⟨by omega,by omega⟩,room_le (by rw [an,cA]; omega) (by omega),?_⟩
      rw [aW (aA hi' hml),← ht]
      first
      | (exfalso; omega)
      | exact ih (i+1) (by omega) (by omega)
    · have hb':lvF c.states d (ETy.get .int s i)=false:=by rw [← hd]; exact hb
      rw [if_neg (by rw [hb']; decide),aG] at ht
      rw [aW (aA hi' hml),← ht]
      first
      | (exfalso; omega)
      | exact ih (i+1) (by omega) (by omega)
    · have:=of_decide_eq_false hge; omega
  · have hie:i=s.length:=by omega
    subst hie
    rw [List.take_length] at hol ⊢
    generalize hout:s.filter (lvF c.states d)=out at hol
    have hgo:∀ i:Nat,i=s.length→J Tryz.prog 23 (au Tryz.f23) Γ (Eq2 (.x (.c (.own 0))) [.own 3 .int out]) zEu2 ({ n:=58,fr:=[(8,.i (eS c.states ((Tran.src (ETy.get .tran c.trans (Int.toNat t))).toNat) ((av c.states (Tran.dst (ETy.get .tran c.trans (Int.toNat t)))).toNat))),(1,.p (.lst .int s)),(3,.x (.c (.loc 0 0))),(6,.p (.v (Value.slice none 0 0))),(7,.x (.c (.own 1))),(9,.i ((i:Int)))],ck:=[zEu1 c,.own 3 .int out] }):=fun i hi=>by
     refine jg lR Tryz.func23 (let x4:=(ETy.get .tran c.trans (Int.toNat t)); let x1:=(eS c.states ((Tran.src x4).toNat) ((av c.states (Tran.dst x4)).toNat)); let x2:List (Nat×SV):=[(8,.i x1),(1,.p (.lst .int s)),(3,.x (.c (.loc 0 0))),(6,.p (.v (Value.slice none 0 0))),(7,.x (.c (.own 1))),(9,.i (IntKind.wrap .i64 ((i:Int)+1)))]; let x3:List PI:=zEu2; .ite (decide ((i:Int)<(s.length:Int))) (.need (inRg i s.length) (.need ((0:Int)≤ETy.get .int s i∧ETy.get .int s i<(c.states.length:Int)∧c.states.length≤maxLen) (.ite (dB c.states x1 ((ETy.get .int s i).toNat)) (.need (inRg i s.length) (.need (room ((out++[ETy.get .int s i]).length) 8) (.stop x3 { n:=58,fr:=x2,ck:=[zEu1 c,.own 3 .int (out++[ETy.get .int s i])] }))) (.stop x3 { n:=58,fr:=x2,ck:=[zEu1 c,.own 3 .int out] })))) (.ret (.x (.c (.own 0))) [.own 3 .int out])) ?_
     conv=>zeta
     exact ⟨fun hlt=>by have:=of_decide_eq_true hlt; omega,fun _=>⟨rfl,rfl⟩⟩
    exact hgo s.length rfl
theorem HP (h:Valid c∧(0≤t∧t<(c.trans.length:Int))∧(s.length≤1000∧∀ y∈s,0≤y∧y<(c.states.length:Int))):ah Tryz.prog 23 [.e .chart c,.l .int s,.i t] [] (.x (.c (.pd (.lst .int (gv c.states (ETy.get .tran c.trans t.toNat) s))))) []:=by
 obtain ⟨v,ht,hs⟩:=h
 have hst:=(lI c).1 v.few
 have hmc:c.states.length≤maxLen:=by unfold maxLen; omega
 by_cases hz:(ETy.get .tran c.trans t.toNat).dst=[]
 · have e:gv c.states (ETy.get .tran c.trans t.toNat) s=[]:=by unfold gv; rw [hz]; rfl
   rw [e]
   refine ah.ret (ret:=.x (.c (.pd (.v (.slice none 0 0))))) ?_ fun V v hv=>lN hv
   refine dg lR Tryz.func23 (let x1:=(ETy.get .tran c.trans (Int.toNat t)); let x2:=((0:Int)≤t∧t<(c.trans.length:Int)); let x3:=(Value.slice none 0 0); .need x2 (.ite (aC (Tran.dst x1)==(0:Int)) (.ret (.p (.v x3)) []) (.need x2 (.need x2 (.need (c.states.length≤maxLen) (.need ((0:Int)≤Tran.src x1∧Tran.src x1<(c.states.length:Int)∧(0:Int)≤av c.states (Tran.dst x1)∧av c.states (Tran.dst x1)<(c.states.length:Int)∧c.states.length≤maxLen) (.stop zEu2 { n:=58,fr:=[(8,.i (eS c.states ((Tran.src x1).toNat) ((av c.states (Tran.dst x1)).toNat))),(1,.p (.lst .int s)),(3,.x (.c (.loc 0 0))),(6,.p (.v x3)),(7,.p (.v x3)),(9,.i 0)],ck:=[zEu1 c] }))))))) fun Γ=>?_
   conv=>zeta
   refine ⟨ht,fun _=>⟨rfl,rfl⟩,fun hb=>?_⟩
   rw [hz] at hb; exact absurd hb (by decide)
 · obtain ⟨tg,d,e1,e2,e3,e4,e5,e6,e7,e8⟩:=tu v (i:=t.toNat) (by omega) hz
   have hsrc:0≤(ETy.get .tran c.trans t.toNat).src∧(ETy.get .tran c.trans t.toNat).src<(c.states.length:Int):=by
    have:=cH c.states e4
    rcases e8 with e | e <;> omega
   have edom:eS c.states (ETy.get .tran c.trans t.toNat).src.toNat (av c.states (ETy.get .tran c.trans t.toNat).dst).toNat=di c.states (ETy.get .tran c.trans t.toNat).src (av c.states (ETy.get .tran c.trans t.toNat).dst):=by
    obtain ⟨q,hq⟩:=aB hsrc.1
    rw [hq,e1,ai,ai]
    exact (Be v.tree (by omega) e2).symm
   have e:gv c.states (ETy.get .tran c.trans t.toNat) s=s.filter (lvF c.states (di c.states (ETy.get .tran c.trans t.toNat).src (av c.states (ETy.get .tran c.trans t.toNat).dst))):=by
    unfold gv; rw [if_neg (by simpa using hz)]; rfl
   rw [e]
   have own:ah Tryz.prog 23 [.e .chart c,.l .int s,.i t] [] (.x (.c (.own 0))) [.own 3 .int (s.filter (lvF c.states (di c.states (ETy.get .tran c.trans t.toNat).src (av c.states (ETy.get .tran c.trans t.toNat).dst))))]:=by
    refine dg lR Tryz.func23 (let x1:=(ETy.get .tran c.trans (Int.toNat t)); let x2:=((0:Int)≤t∧t<(c.trans.length:Int)); let x3:=(Value.slice none 0 0); .need x2 (.ite (aC (Tran.dst x1)==(0:Int)) (.ret (.p (.v x3)) []) (.need x2 (.need x2 (.need (c.states.length≤maxLen) (.need ((0:Int)≤Tran.src x1∧Tran.src x1<(c.states.length:Int)∧(0:Int)≤av c.states (Tran.dst x1)∧av c.states (Tran.dst x1)<(c.states.length:Int)∧c.states.length≤maxLen) (.stop zEu2 { n:=58,fr:=[(8,.i (eS c.states ((Tran.src x1).toNat) ((av c.states (Tran.dst x1)).toNat))),(1,.p (.lst .int s)),(3,.x (.c (.loc 0 0))),(6,.p (.v x3)),(7,.p (.v x3)),(9,.i 0)],ck:=[zEu1 c] }))))))) fun Γ=>?_
    conv=>zeta
    refine ⟨ht,fun hb=>?_,fun _=>⟨ht,ht,hmc,⟨hsrc.1,hsrc.2,by omega,by omega,hmc⟩,?_⟩⟩
    · exfalso
      have hb':(aC (ETy.get .tran c.trans t.toNat).dst==0)=true:=hb
      have:=eq_of_beq hb'
      unfold aC at this
      exact hz (bm (by omega))
    · refine J.nilOwn 7 3 .int rfl (by kernel_rfl) ?_
      exact Lh c s t _ edom (by omega) hs Γ s.length 0 (by omega) (by omega)
   exact ah.chop (ck':=[]) (ah.frz aZ [0] own rfl rfl)
def sn:Ent:=(23,fun
 | [.agg [.pd (.str a),.pd (.lst .str b),.pd (.lst .var c),.pd (.lst .stat d),.pd (.lst .tran e)],.c (.pd (.lst .int s)),.c (.pd (.int .i64 t))],[]=>some (some (Valid ⟨a,b,c,d,e⟩∧(0≤t∧t<(e.length:Int))∧(s.length≤1000∧∀ y∈s,0≤y∧y<(d.length:Int))),.x (.c (.pd (.lst .int (gv d (ETy.get .tran e t.toNat) s)))),[])
 | _,_=>none)
theorem FT:EntOk Tryz.prog sn:=entOk fun vs ck=>by
 unfold sn; dsimp only; split
 · rename_i a b c d e s t; exact entS fun hp=>HP ⟨a,b,c,d,e⟩ s t hp
 · exact entN
/-! ### Enter -/
end Go.Proofs.YtgfifkhbfdacjaaGreatDoor
namespace Go.Proofs.YtgfifkhbfdacjaaGreatDoor
open Go Go.Ev
set_option maxRecDepth 100000
theorem OE {c:Chart} {t:Int} (h1:(!bH c==0||decide (t<0)||decide (t≥(c.trans.length:Int)))=false):bH c=0∧0≤t∧t<(c.trans.length:Int):=by
 cases ha:bH c==0 <;> cases hb:decide (t<0) <;> cases hc:decide (t≥(c.trans.length:Int)) <;> simp [ha,hb,hc] at h1
 have h2:=of_decide_eq_false hb
 have h3:=of_decide_eq_false hc
 exact ⟨eq_of_beq ha,by omega,by omega⟩
theorem EJ {c:Chart} {t:Int} {ps:List Past} (h:bH c=0∧0≤t∧t<(c.trans.length:Int)) (hps:b5 (cf c.states) none ps=true):dC c t ps=gP c.states (ETy.get .tran c.trans t.toNat) ps:=by
 unfold dC
 cases hb:iD c t ps
 · rw [if_neg (by decide)]
 · rw [if_pos rfl]
   unfold iD at hb
   rw [h.1,hps] at hb
   have h2:decide (t<0)=false:=decide_eq_false (by omega)
   have h3:decide (t≥(c.trans.length:Int))=false:=decide_eq_false (by omega)
   rw [h2,h3] at hb
   unfold gP
   rw [if_pos (by simpa using hb)]
end Go.Proofs.YtgfifkhbfdacjaaGreatDoor
namespace Go.Proofs.YtgfifkhbfdacjaaGreatDoor
open Go Go.Ev
set_option maxRecDepth 100000
def yS:Cfg:=⟨aZ,[oH,oZ,sE,l6,pL,rW,oo,mh,sn,vQ,pO]⟩
theorem vq:ag Tryz.prog yS.tab:=(ag.cons kU (ag.cons k6 (ag.cons Ff (ag.cons yy (ag.cons DD (ag.cons Ec (ag.cons vn (ag.cons jD (ag.cons FT (ag.cons KA (ag.cons Dq ag.nil)))))))))))
abbrev zEw1:List PI:=[.code [1,1,1,1,1,1,1,1,1,0,1,0,0],.inLoop [1,1,1,1,1,1,1,1,1,0,1,0,0],.inBlock 0,.code [1,1,1,1,1,1,1,1,1,1]]
abbrev zEw2 (a:Chart):List Chunk:=[.cells [.pd (.str a.name),.pd (.lst .str a.events),.pd (.lst .var a.vars),.pd (.lst .stat a.states),.pd (.lst .tran a.trans)] 27]
theorem Nn (c:Chart) (t:Int) (s lv en:List Int) (pk:List (List Int)) (hbad:∀ y∈en,y∈s→y∈lv) (hm:c.states.length≤1000) (tt:Tre c.states) (hg:c6 c.states (fQ c.states s lv en)=true) (Γ:Ctx) (he:en.length≤maxLen):∀ (n i:Nat),en.length - i≤n→i≤en.length →
 J Tryz.prog 6 (au Tryz.f6) Γ (Eq2 (.x (.b true)) []) zEw1 ({ n:=80,fr:=[(10,.p (.lst .int en)),(3,.x (.c (.loc 0 0))),(6,.p (.bool false)),(8,.p (.lst .int s)),(9,.p (.lst .int lv)),(57,.p (.lst .int en)),(58,.i ((en.length:Int))),(59,.i ((i:Int)))],ck:=(zEw2 c) }):=by
 intro n
 induction n with
 | zero=>?_
 | succ n ih=>?_
 all_goals
  intro i hn hi
  refine jg vq Tryz.func6 (.ite (decide ((i:Int)<(en.length:Int))) (.need (inRg i en.length) (.ite (inB s (ETy.get .int en i) && !inB lv (ETy.get .int en i)) (.ret (.p (.bool false)) []) (.stop zEw1 { n:=80,fr:=[(10,.p (.lst .int en)),(3,.x (.c (.loc 0 0))),(6,.p (.bool false)),(8,.p (.lst .int s)),(9,.p (.lst .int lv)),(57,.p (.lst .int en)),(58,.i en.length),(59,.i (IntKind.wrap .i64 ((i:Int)+1)))],ck:=(zEw2 c) }))) (.need (c.states.length≤1000) (.need (Tre c.states) (.ret (.p (.bool (c6 c.states (fQ c.states s lv en)))) [])))) ?_
  refine ⟨fun hlt=>?_,fun _=>⟨hm,tt,?_,rfl⟩⟩
  · have hi':i<en.length:=by have:=of_decide_eq_true hlt; omega
    refine ⟨⟨by omega,by omega⟩,fun hb=>?_,fun hb=>?_⟩
    · exfalso
      have hb':(inB s (ETy.get .int en i) && !inB lv (ETy.get .int en i))=true:=hb
      rw [af] at hb'
      have h1:=hbad (ETy.get .int en i) (by rw [ETy.get_eq (t:=.int) (List.getElem?_eq_getElem hi')]; exact aY hi') ((cu _ _).1 hb'.1)
      rw [(cu _ _).2 h1] at hb'
      exact absurd hb'.2 (by decide)
    · rw [aW (aA hi' he)]
      first
      | (exfalso; omega)
      | exact ih (i+1) (by omega) (by omega)
  · exact congrArg (fun b=>SV.x (.c (.pd (.bool b)))) hg
theorem FU (c:Chart) (t:Int) (pk:List (List Int)) (h:oL c) (hpk:∀ p∈pk,∀ b∈p,0≤b∧b≤255):ah Tryz.prog 6 [.e .chart c,.i t,.l .bytes pk] [] (.x (.b true)) []:=by
 have hz:=MB h
 have hb:=Oq h
 have hsz:c.vars.length≤2199023255552∧c.states.length≤2199023255552:=⟨hz.1,by omega⟩
 refine dg vq Tryz.func6 (let x10:=(chM c.states (ETy.get ETy.bytes pk 0)); let x1:=(cZ c.states x10); let x2:=(dC c t (mdM c.states pk)); let x3:List PI:=zEw1; let x4:=((0:Int)≤t∧t<(c.trans.length:Int)); let x5:List Chunk:=(zEw2 c); let x6:=(ETy.get .tran c.trans (Int.toNat t)); let x7:=(cZ c.states (chM c.states [])); let x8:=(c.vars.length≤2199023255552∧c.states.length≤2199023255552); let x9:Tree:=(.ret (.p (.bool true)) []); .ite false (.ret (.p (.bool false)) []) (.need (∀ (s:ETy.den .stat),s∈c.states→s.entry.length≤4398046511104∧s.leave.length≤4398046511104) (.ite (!bH c==(0:Int)||decide (t<(0:Int))||decide (t≥(c.trans.length:Int))) x9 (.ite (decide ((pk.length:Int)>0)) (.need (inRg 0 pk.length) (.need (Tre c.states∧∀ (b:ETy.den .byte),b∈ETy.get ETy.bytes pk 0→(0:ETy.den .byte)≤b∧b≤(255:ETy.den .byte)) (.need x4 (.ite (!inB x1 (Tran.src x6)) x9 (.need (Valid c∧x4∧x1.length≤1000∧∀ (y:ETy.den .int),y∈cZ c.states x10→(0:ETy.den .int)≤y∧y<(c.states.length:Int)) (.need (Tre c.states∧∀ (p:List Int),p∈pk→∀ (b:Int),b∈p→(0:Int)≤b∧b≤(255:Int)) (.need x8 (.stop x3 { n:=80,fr:=[(10,.p (.lst .int x2)),(3,.x (.c (.loc 0 0))),(6,.p (.bool false)),(8,.p (.lst .int x1)),(9,.p (.lst .int (gv c.states x6 x1))),(57,.p (.lst .int x2)),(58,.i (↑(x2.length):Int)),(59,.i 0)],ck:=x5 })))))))) (.need (Tre c.states∧∀ (b:ETy.den .byte),b∈[]→(0:ETy.den .byte)≤b∧b≤(255:ETy.den .byte)) (.need x4 (.ite (!inB x7 (Tran.src x6)) x9 (.need (Valid c∧x4∧x7.length≤1000∧∀ (y:ETy.den .int),y∈cZ c.states (chM c.states [])→(0:ETy.den .int)≤y∧y<(c.states.length:Int)) (.need (Tre c.states∧∀ (p:List Int),p∈pk→∀ (b:Int),b∈p→(0:Int)≤b∧b≤(255:Int)) (.need x8 (.stop x3 { n:=80,fr:=[(10,.p (.lst .int x2)),(3,.x (.c (.loc 0 0))),(6,.p (.bool false)),(8,.p (.lst .int x7)),(9,.p (.lst .int (gv c.states x6 x7))),(57,.p (.lst .int x2)),(58,.i (↑(x2.length):Int)),(59,.i 0)],ck:=x5 }))))))))))) fun Γ=>?_
 conv=>zeta
 refine ⟨fun h0=>absurd h0 (by decide),fun _=>⟨hb,fun _=>⟨rfl,rfl⟩,fun h1=>?_⟩⟩
 have ht:=OE h1
 have hv:=(iV c).1 ht.1
 have tt:=hv.tre
 have hst:=(lI c).1 hv.few
 have hti:t.toNat<c.trans.length:=by omega
 have all:∀ p:List Int,(∀ b∈p,0≤b∧b≤255)→((!inB (cZ c.states (chM c.states p)) (ETy.get .tran c.trans t.toNat).src)=false→(Valid c∧(0≤t∧t<(c.trans.length:Int))∧(cZ c.states (chM c.states p)).length≤1000∧∀ y∈cZ c.states (chM c.states p),0≤y∧y<(c.states.length:Int)) ∧
  J Tryz.prog 6 (au Tryz.f6) Γ (Eq2 (.x (.b true)) []) zEw1 ({ n:=80,fr:=[(10,.p (.lst .int ((dC c t (mdM c.states pk))))),(3,.x (.c (.loc 0 0))),(6,.p (.bool false)),(8,.p (.lst .int ((cZ c.states (chM c.states p))))),(9,.p (.lst .int ((gv c.states (ETy.get .tran c.trans t.toNat) (cZ c.states (chM c.states p)))))),(57,.p (.lst .int ((dC c t (mdM c.states pk))))),(58,.i (((dC c t (mdM c.states pk)).length:Int))),(59,.i (0))],ck:=(zEw2 c) })):=fun p hp hin=>by
  have hL:=kP tt (kR tt hp)
  have hg:=(lV tt.shp _).2 hL
  have hlen:=xi tt hp
  have hrg:=(rO hg).1
  have hsrc:(ETy.get .tran c.trans t.toNat).src∈cZ c.states (chM c.states p):=by
   rw [c9] at hin; exact (cu _ _).1 hin
  generalize cZ c.states (chM c.states p)=s at hL hg hlen hrg hsrc
  refine ⟨⟨hv,ht.2,by omega,hrg⟩,?_⟩
  have hps:=rB tt hpk
  obtain ⟨g1,g2,g3⟩:=Jt hv hti hL hsrc hps
  rw [EJ ht hps]
  generalize gP c.states (ETy.get .tran c.trans t.toNat) (mdM c.states pk)=en at g1 g2 g3
  refine J.len 57 rfl fun he=>?_
  exact Nn c t s _ en pk g2 (by omega) tt ((lV tt.shp _).2 g1) Γ he en.length 0 (by omega) (by omega)
 refine ⟨fun hp=>⟨⟨by omega,of_decide_eq_true hp⟩,⟨tt,?_⟩,ht.2,fun _=>⟨rfl,rfl⟩,fun hin=>?_⟩,fun _=>⟨⟨tt,fun b hb=>by cases hb⟩,ht.2,fun _=>⟨rfl,rfl⟩,fun hin=>?_⟩⟩
 · have hp':0<pk.length:=by have:=of_decide_eq_true hp; omega
   exact hpk _ (by rw [ETy.get_eq (t:=.bytes) (List.getElem?_eq_getElem hp')]; exact aY hp')
 · have hp':0<pk.length:=by have:=of_decide_eq_true hp; omega
   have:=all (ETy.get .bytes pk 0) (hpk _ (by rw [ETy.get_eq (t:=.bytes) (List.getElem?_eq_getElem hp')]; exact aY hp')) hin
   exact ⟨this.1,⟨tt,hpk⟩,hsz,this.2⟩
 · have:=all [] (fun b hb=>by cases hb) hin
   exact ⟨this.1,⟨tt,hpk⟩,hsz,this.2⟩
end Go.Proofs.YtgfifkhbfdacjaaGreatDoor
namespace Go.Proofs.YtgfifkhbfdacjaaGreatDoor
open Go Go.Ev Go.RowKit Go.ChangeShapes Go.WideShapes Go.ChangeAt
set_option maxRecDepth 100000
theorem M1 {Hh:Type} {enc:TypeId×Value→Hh} {W:World} {base:Nat} {spare:Nat→Bool} {held:Bool} {v:Value} {d:DataW Hh} {ps:List MemPlace} {b0:Nat} (h:DataW.Trod enc Tryz.prog W base spare held 3 v d ps) (hv:Value.okWide Tryz.prog W .any b0 3 v) :
 ∃ n:Int,SX.R (VW W) (.c (.pd (.int .i64 n))) v∧-9223372036854775808≤n∧n≤9223372036854775807:=by
 have hv':Cell.okWide Tryz.prog W .any b0 3 v:=by simpa only [Value.okWide,Tryz.underlying3] using hv
 obtain ⟨fuel,hf⟩:=h
 have hc:v.cells.toList=[v]:=by
  have hv2:=hv'
  simp only [Cell.okWide,Tryz.underlying3,Cell.ok] at hv2
  cases v <;> first | rfl | exact hv2.elim
 rw [hc] at hf
 obtain ⟨n,h1,_,h2⟩:=DataW.trod_int Tryz.underlying3 hf
 simp only [eM,and_true] at h1
 subst h1
 simp only [Lit.wf,af,decide_eq_true_eq] at h2
 have e1:IntKind.i64.min = -9223372036854775808:=by decide
 have e2:IntKind.i64.max=9223372036854775807:=by decide
 rw [e1,e2] at h2
 exact ⟨n,.int _ n,h2.1,h2.2⟩
end Go.Proofs.YtgfifkhbfdacjaaGreatDoor

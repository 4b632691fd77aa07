/- Contracts: the layer's copied, Made. Conditions: sizes. Lists of ints and of bytes among the laws' arguments. Conditions: none. Lists of lists of bytes, lists of what histories remember, among the laws' arguments. Conditions: none. Contracts: the law MovesEnter. Conditions: sizes. Contracts: the law MovesChild. Conditions: sizes. Numbers among the law's arguments. Conditions: none. -/
import Derived.Test.YtgfifkhbfdacjaaGreatDoorEi
import Derived.Test.YtgfifkhbfdacjaaGreatDoorEr
import Derived.Test.YtgfifkhbfdacjaaGreatDoorVl
import Derived.Test.YtgfifkhbfdacjaaGreatDoorLx
import Derived.Test.YtgfifkhbfdacjaaGreatDoorKb
import Derived.Test.YtgfifkhbfdacjaaGreatDoorSo
import Derived.Test.YtgfifkhbfdacjaaGreatDoorSk
namespace Go.Proofs.YtgfifkhbfdacjaaGreatDoor
open Go Go.Ev
set_option maxRecDepth 100000
/-! ### Made -/
def rh:Cfg:=⟨aX,[rq,vE]⟩
theorem oD:ag Tryz.prog rh.tab:=(ag.cons Gz (ag.cons Ih ag.nil))
abbrev zEk1 (a:Chart):Chunk:=.cells [.pd (.str a.name),.pd (.lst .str a.events),.pd (.lst .var a.vars),.pd (.lst .stat a.states),.pd (.lst .tran a.trans)] 27
abbrev zEk2:List PI:=[.code [1,1,0,1,0,0],.inLoop [1,1,0,1,0,0],.inBlock 0,.code [1,1,1]]
theorem I0 (c:Chart) (ps:List (List Int)) (out:List Past) (s:List Int) (i:Nat) (Γ:Ctx) (Q:Out) (hs:s.length≤1000∧∀ y∈s,0≤y∧y<(c.states.length:Int)) (hm:c.states.length≤1000)
 (hcont:J Tryz.prog 14 (au Tryz.f14) Γ Q zEk2 ({ n:=51,fr:=[(1,.p (.lst ETy.bytes ps)),(2,.x (.c (.loc 0 0))),(4,.p (.v (Value.slice none 0 0))),(5,.p (.lst .past ((nZ c.states s (KD c.states s (Int.tmod (i:Int) 3)) out)))),(12,.i ps.length),(13,.i ((IntKind.wrap .i64 ((i:Int)+1))))],ck:=[zEk1 c] })):∀ (n k:Nat),s.length - k≤n→k≤s.length→∀ left,left=(s.take k).filter (fun k=>decide ((ETy.get .stat c.states k.toNat).depth≥Int.tmod (i:Int) 3)) →
 J Tryz.prog 14 (au Tryz.f14) Γ Q [.code [1,1,0,1,0,0,1,1,0,0,1,1,1,1,0,1,0,0],.inLoop [1,1,0,1,0,0,1,1,0,0,1,1,1,1,0,1,0,0],.inBlock 2,.code [1,1,0,1,0,0,1,1,0,0,1,1,1,1,1],.inBlock 1,.code [1,1,0,1,0,0,1,1,1],.inLoop [1,1,0,1,0,0],.inBlock 0,.code [1,1,1]] ({ n:=51,fr:=[(7,.p (.lst .int s)),(1,.p (.lst ETy.bytes ps)),(2,.x (.c (.loc 0 0))),(4,.p (.v (Value.slice none 0 0))),(5,.p (.lst .past out)),(12,.i ps.length),(13,.i i),(6,.i i),(8,.x (.c (.own 1))),(24,.p (.lst .int s)),(25,.i ((s.length:Int))),(26,.i ((k:Int)))],ck:=[zEk1 c,.own 3 .int left] }):=by
 have hml:s.length≤maxLen:=by unfold maxLen; omega
 intro n
 induction n with
 | zero=>?_
 | succ n ih=>?_
 all_goals
  intro k hn hk left hl
  refine jg oD Tryz.func14 (let x3:List Nat:=[1,1,0,1,0,0,1,1,0,0,1,1,1,1,0,1,0,0]; let x1:List PI:=[.code x3,.inLoop x3,.inBlock 2,.code [1,1,0,1,0,0,1,1,0,0,1,1,1,1,1],.inBlock 1,.code [1,1,0,1,0,0,1,1,1],.inLoop [1,1,0,1,0,0],.inBlock 0,.code [1,1,1]]; let x2:List (Nat×SV):=[(7,.p (.lst .int s)),(1,.p (.lst ETy.bytes ps)),(2,.x (.c (.loc 0 0))),(4,.p (.v (Value.slice none 0 0))),(5,.p (.lst .past out)),(12,.i ps.length),(13,.i i),(6,.i i),(8,.x (.c (.own 1))),(24,.p (.lst .int s)),(25,.i s.length),(26,.i (IntKind.wrap .i64 ((k:Int)+1)))]; .ite (decide ((k:Int)<(s.length:Int))) (.need (inRg k s.length) (.need ((0:Int)≤ETy.get .int s k∧ETy.get .int s k<(c.states.length:Int)) (.need ((3:Int)≠(0:Int)) (.ite (decide (Stat.depth (ETy.get .stat c.states ((ETy.get .int s k).toNat))≥Int.tmod (i:Int) (3:Int))) (.need (room ((left++[ETy.get .int s k]).length) 8) (.stop x1 { n:=51,fr:=x2,ck:=[zEk1 c,.own 3 .int (left++[ETy.get .int s k])] })) (.stop x1 { n:=51,fr:=x2,ck:=[zEk1 c,.own 3 .int left] }))))) (.need (c.states.length≤1000∧s.length≤1000∧∀ (y:ETy.den .int),y∈s→(0:ETy.den .int)≤y∧y<(c.states.length:Int)) (.stop zEk2 { n:=51,fr:=[(1,.p (.lst ETy.bytes ps)),(2,.x (.c (.loc 0 0))),(4,.p (.v (Value.slice none 0 0))),(5,.p (.lst .past (nZ c.states s left out))),(12,.i ps.length),(13,.i (IntKind.wrap .i64 ((i:Int)+1)))],ck:=[zEk1 c] }))) ?_
  conv=>zeta
  refine ⟨fun hlt=>?_,fun hge=>?_⟩
  · have hk':k<s.length:=by have:=of_decide_eq_true hlt; omega
    have hy:=hs.2 (ETy.get .int s k) (by rw [ETy.get_eq (t:=.int) (List.getElem?_eq_getElem hk')]; exact a8 hk')
    have ht:=iu s (fun k=>decide ((ETy.get .stat c.states k.toNat).depth≥Int.tmod (i:Int) 3)) hk'
    have hsl:left.length≤1000:=by
     rw [hl]
     have:=a6 (fun k:Int=>decide ((ETy.get .stat c.states k.toNat).depth≥Int.tmod (i:Int) 3)) (s.take k)
     have:=List.length_take_le k s
     omega
    refine ⟨⟨by omega,by omega⟩,hy,by decide,fun hb=>?_,fun hb=>?_⟩
    · have hb':decide ((ETy.get .stat c.states (ETy.get .int s k).toNat).depth≥Int.tmod (i:Int) 3)=true:=hb
      rw [if_pos hb',← hl] at ht
      refine ⟨room_le (by rw [an,dc]; omega) (by omega),?_⟩
      rw [aV (aC hk' hml)]
      first
      | (exfalso; omega)
      | exact ih (k+1) (by omega) (by omega) _ ht.symm
    · have hb':decide ((ETy.get .stat c.states (ETy.get .int s k).toNat).depth≥Int.tmod (i:Int) 3)=false:=hb
      rw [if_neg (by rw [hb']; decide),aH,← hl] at ht
      rw [aV (aC hk' hml)]
      first
      | (exfalso; omega)
      | exact ih (k+1) (by omega) (by omega) _ ht.symm
  · have e:s.take k=s:=aQ (by have:=of_decide_eq_false hge; omega)
    rw [e] at hl
    subst hl
    exact ⟨⟨hm,hs⟩,hcont⟩
theorem MH (c:Chart) (ps:List (List Int)) (t:Tre c.states) (hp:∀ p∈ps,∀ b∈p,0≤b∧b≤255) (Γ:Ctx) (hm:ps.length≤maxLen):∀ (n i:Nat),ps.length - i≤n→i≤ps.length→∀ out:List Past,
 J Tryz.prog 14 (au Tryz.f14) Γ (Eq2 (.x (.c (.pd (.lst .past (s5 c.states i (ps.drop i) out))))) []) zEk2 ({ n:=51,fr:=[(1,.p (.lst ETy.bytes ps)),(2,.x (.c (.loc 0 0))),(4,.p (.v (Value.slice none 0 0))),(5,.p (.lst .past out)),(12,.i ps.length),(13,.i ((i:Int)))],ck:=[zEk1 c] }):=by
 intro n
 induction n with
 | zero=>?_
 | succ n ih=>?_
 all_goals
  intro i hn hi out
  refine jg oD Tryz.func14 (let x1:=(gE c.states (chM c.states (ETy.get ETy.bytes ps i))); let x2:List Nat:=[1,1,0,1,0,0,1,1,0,0,1,1,1,1,0,1,0,0]; .ite (decide ((i:Int)<(ps.length:Int))) (.ite (decide ((i:Int)>5)) (.ret (.p (.lst .past out)) []) (.need (inRg i ps.length) (.need (Tre c.states∧∀ (b:ETy.den .byte),b∈ETy.get ETy.bytes ps i→(0:ETy.den .byte)≤b∧b≤(255:ETy.den .byte)) (.stop [.code x2,.inLoop x2,.inBlock 2,.code [1,1,0,1,0,0,1,1,0,0,1,1,1,1,1],.inBlock 1,.code [1,1,0,1,0,0,1,1,1],.inLoop [1,1,0,1,0,0],.inBlock 0,.code [1,1,1]] { n:=51,fr:=[(7,.p (.lst .int x1)),(1,.p (.lst ETy.bytes ps)),(2,.x (.c (.loc 0 0))),(4,.p (.v (Value.slice none 0 0))),(5,.p (.lst .past out)),(12,.i ps.length),(13,.i i),(6,.i i),(8,.p (.v (Value.slice none 0 0))),(24,.p (.lst .int x1)),(25,.i (↑(x1.length):Int)),(26,.i 0)],ck:=[zEk1 c] })))) (.ret (.p (.lst .past out)) [])) ?_
  conv=>zeta
  refine ⟨fun hlt=>?_,fun hge=>?_⟩
  · have hi':i<ps.length:=by have:=of_decide_eq_true hlt; omega
    have ed:ps.drop i=ETy.get .bytes ps i::ps.drop (i+1):=bx (t:=.bytes) (l:=ps) hi'
    have hb:=hp (ETy.get .bytes ps i) (by rw [ETy.get_eq (t:=.bytes) (List.getElem?_eq_getElem hi')]; exact a8 hi')
    rw [ed,s5]
    refine ⟨fun h5=>?_,fun h5=>⟨⟨by omega,by omega⟩,⟨t,hb⟩,?_⟩⟩
    · rw [if_pos (by have:=of_decide_eq_true h5; omega)]; exact ⟨rfl,rfl⟩
    · have hg:=(uV t.shp _).2 (mK t (ni t hb))
      have hin:=yK hg
      have hlen:=Ik t hb
      have hfew:=t.shp.few
      rw [if_neg (by have:=of_decide_eq_false h5; omega)]
      refine J.nilOwn 8 3 .int rfl (by kernel_rfl) ?_
      refine I0 c ps out (gE c.states (chM c.states (ETy.get .bytes ps i))) i Γ _ ⟨by omega,hin.1⟩ (by omega) ?_ (gE c.states (chM c.states (ETy.get .bytes ps i))).length 0 (by omega) (by omega) [] (by simp)
      rw [aV (aC hi' hm),show Int.tmod (i:Int) 3=((i % 3:Nat):Int) from rfl]
      first
      | (exfalso; omega)
      | exact ih (i+1) (by omega) (by omega) _
  · rw [bL (l:=ps) (by have:=of_decide_eq_false hge; omega)]; exact ⟨rfl,rfl⟩
theorem Mq (c:Chart) (ps:List (List Int)) (h:Tre c.states∧∀ p∈ps,∀ b∈p,0≤b∧b≤255):ah Tryz.prog 14 [.e .chart c,.l .bytes ps] [] (.x (.c (.pd (.lst .past (mdM c.states ps))))) []:=by
 refine dg oD Tryz.func14 (.stop zEk2 { n:=51,fr:=[(1,.p (.lst ETy.bytes ps)),(2,.x (.c (.loc 0 0))),(4,.p (.v (Value.slice none 0 0))),(5,.p (.v (Value.slice none 0 0))),(12,.i ps.length),(13,.i 0)],ck:=[zEk1 c] }) fun Γ=>?_
 refine J.nilLst 5 .past rfl ?_
 exact J.len 1 rfl fun hm=>MH c ps h.1 h.2 Γ hm ps.length 0 (by omega) (by omega) []
def sI:Ent:=(14,fun
 | [.agg [.pd (.str a),.pd (.lst .str b),.pd (.lst .var c),.pd (.lst .stat d),.pd (.lst .tran e)],.c (.pd (.lst .bytes ps))],[]=>some (some (Tre d∧∀ p:List Int,p∈ps→∀ b∈p,(0:Int)≤b∧b≤255),.x (.c (.pd (.lst .past (mdM d ps)))),[])
 | _,_=>none)
theorem D4:EntOk Tryz.prog sI:=entOk fun vs ck=>by
 unfold sI; dsimp only; split
 · rename_i a b c d e ps; exact entS fun hp=>Mq ⟨a,b,c,d,e⟩ ps hp
 · exact entN
end Go.Proofs.YtgfifkhbfdacjaaGreatDoor
namespace Go.Proofs.YtgfifkhbfdacjaaGreatDoor
open Go Go.Ev Go.RowKit Go.ChangeShapes Go.WideShapes Go.ChangeAt
set_option maxRecDepth 100000
section
variable {Hh:Type} {enc:TypeId×Value→Hh} {W:World} {base:Nat} {spare:Nat→Bool} {held:Bool}
theorem MT (n:Nat) (cs:List Value) (y:DataW Hh×List MemPlace) (h:DataW.trod enc Tryz.prog W base spare held n 5 cs=some y):∃ r:Int,All2 (PR (HW W)) (ETy.byte.enc r) cs∧(0≤r∧r≤255):=by
 obtain ⟨k,h1,_,h2⟩:=DataW.trod_int Tryz.underlying5 h
 simp only [Lit.wf,af,decide_eq_true_eq] at h2
 have e1:IntKind.u8.min=0:=by decide
 have e2:IntKind.u8.max=255:=by decide
 rw [e1,e2] at h2
 exact ⟨k,by rw [h1]; exact .cons (.int _ k) .nil,h2⟩
end
end Go.Proofs.YtgfifkhbfdacjaaGreatDoor
namespace Go.Proofs.YtgfifkhbfdacjaaGreatDoor
open Go Go.Ev Go.RowKit Go.ChangeShapes Go.WideShapes Go.ChangeAt
set_option maxRecDepth 100000
section
variable {Hh:Type} {enc:TypeId×Value→Hh} {W:World} {base:Nat} {spare:Nat→Bool} {held:Bool}
theorem Lr (n:Nat) (cs:List Value) (y:DataW Hh×List MemPlace) (h:DataW.trod enc Tryz.prog W base spare held n 43 cs=some y):∃ r:List Int,All2 (PR (HW W)) (ETy.bytes.enc r) cs∧((y.1.weights Tryz.prog 43).all (·≤reachBytes)=true→∀ b∈r,0≤b∧b≤255):=by
 obtain ⟨l,v,rfl,hp,hq⟩:=dJ .byte (Q:=fun b:Int=>0≤b∧b≤255) Tryz.underlying43 (by kernel_rfl) (fun n cs y h=>by
  obtain ⟨r,h1,h2⟩:=MT n cs y h
  exact ⟨r,h1,fun _=>h2⟩) h
 exact ⟨l,.cons hp .nil,fun hw=>(hq hw).1⟩
theorem Cu {v:Value} {d:DataW Hh} {ps:List MemPlace} {b0:Nat} (h:DataW.Trod enc Tryz.prog W base spare held 29 v d ps) (hv:Value.okWide Tryz.prog W .any b0 29 v) :
 ∃ l:List (List Int),SX.R (VW W) (.c (.pd (.lst .bytes l))) v∧((d.weights Tryz.prog 29).all (·≤reachBytes)=true→l.length * 24≤iC∧∀ p∈l,∀ b∈p,0≤b∧b≤255):=by
 have hv':Cell.okWide Tryz.prog W .any b0 29 v:=by simpa only [Value.okWide,Tryz.underlying29] using hv
 obtain ⟨fuel,hf⟩:=h
 have hc:v.cells.toList=[v]:=by
  have hv2:=hv'
  simp only [Cell.okWide,Tryz.underlying29,Cell.ok] at hv2
  cases v <;> first | rfl | exact hv2.elim
 rw [hc] at hf
 obtain ⟨l,w,hw,h1,h3⟩:=dJ .bytes (Q:=fun r:List Int=>∀ b∈r,0≤b∧b≤255) Tryz.underlying29 (by kernel_rfl) Lr hf
 simp only [eE,and_true] at hw
 subst hw
 have hb:Tryz.prog.bytesOf 43=24:=by kernel_rfl
 rw [hb] at h3
 refine ⟨l,h1,fun hw=>?_⟩
 have h4:=h3 hw
 have h5:=h4.2
 unfold reachBytes at h5
 exact ⟨show l.length * 24≤140737488355328 by omega,h4.1⟩
end
end Go.Proofs.YtgfifkhbfdacjaaGreatDoor
namespace Go.Proofs.YtgfifkhbfdacjaaGreatDoor
open Go Go.Ev
set_option maxRecDepth 100000
theorem Ko {c:Chart} {t:Int} (h1:(!bD c==0||decide (t<0)||decide (t≥(c.trans.length:Int)))=false):bD c=0∧0≤t∧t<(c.trans.length:Int):=by
 cases ha:bD c==0 <;> cases hb:decide (t<0) <;> cases hc:decide (t≥(c.trans.length:Int)) <;> simp [ha,hb,hc] at h1
 have h2:=of_decide_eq_false hb
 have h3:=of_decide_eq_false hc
 exact ⟨eq_of_beq ha,by omega,by omega⟩
theorem FB {c:Chart} {t:Int} {ps:List Past} (h:bD c=0∧0≤t∧t<(c.trans.length:Int)) (hps:b8 (cj c.states) none ps=true):fv c t ps=kU c.states (ETy.get .tran c.trans t.toNat) ps:=by
 unfold fv
 cases hb:iB c t ps
 · rw [if_neg (by decide)]
 · rw [if_pos rfl]
   unfold iB at hb
   rw [h.1,hps] at hb
   have h2:decide (t<0)=false:=decide_eq_false (by omega)
   have h3:decide (t≥(c.trans.length:Int))=false:=decide_eq_false (by omega)
   rw [h2,h3] at hb
   unfold kU
   rw [if_pos (by simpa using hb)]
end Go.Proofs.YtgfifkhbfdacjaaGreatDoor
namespace Go.Proofs.YtgfifkhbfdacjaaGreatDoor
open Go Go.Ev
set_option maxRecDepth 100000
def kI (l:List Ev.Stat) (n:Str):Nat→Int
 | 0=>-1
 | i+1=>if ((ETy.get .stat l i).name==n)=true then (i:Int) else kI l n i
theorem BH {l:List Ev.Stat} (t:Tre l) {n:Str} {tg:Nat} (hp:ay l n=(tg:Int)) (h2:tg<l.length):kI l n l.length=(tg:Int):=by
 have hn:(ETy.get .stat l tg).name=n:=by
  rcases gb l n with ⟨e,_⟩ | ⟨k,e,hk,hn⟩
  · rw [hp] at e; omega
  · rw [hp] at e
    have:tg=k:=by omega
    subst this; exact hn
 have key:∀ m:Nat,m≤l.length→kI l n m=if tg<m then (tg:Int) else -1:=by
  intro m
  induction m with
  | zero=>intro _; rfl
  | succ m ih =>
    intro hm
    rw [kI]
    by_cases hb:((ETy.get .stat l m).name==n)=true
    · have:m=tg:=mT t.names (by omega) h2 ((eq_of_beq hb).trans hn.symm)
      subst this
      rw [if_pos hb,if_pos (by omega)]
    · rw [if_neg hb,ih (by omega)]
      by_cases hmt:m=tg
      · subst hmt; exact absurd (by simp [hn]) hb
      · by_cases hlt:tg<m
        · rw [if_pos hlt,if_pos (by omega)]
        · rw [if_neg hlt,if_neg (by omega)]
 rw [key _ (ar _),if_pos h2]
def sa:Cfg:=⟨aX,[oj,oe,ri,lK,pr,sI,gr,iG,qX,nT,pe]⟩
theorem nW:ag Tryz.prog sa.tab:=(ag.cons kP (ag.cons kN (ag.cons Fs (ag.cons xy (ag.cons Db (ag.cons D4 (ag.cons fG (ag.cons gd (ag.cons yo (ag.cons uP (ag.cons Dw ag.nil)))))))))))
abbrev zEx1 (a:Chart):List Chunk:=[.cells [.pd (.str a.name),.pd (.lst .str a.events),.pd (.lst .var a.vars),.pd (.lst .stat a.states),.pd (.lst .tran a.trans)] 27]
abbrev zEx2:List PI:=[.code [1,1,1,1,0,1,0,0],.inLoop [1,1,1,1,0,1,0,0],.inBlock 0,.code [1,1,1,1,1]]
theorem KR (c:Chart) (t:Int) (pk:List (List Int)) (ht:0≤t∧t<(c.trans.length:Int)) (hm:c.states.length≤maxLen) (Γ:Ctx) (Q:Out)
 (hend:J Tryz.prog 8 (au Tryz.f8) Γ Q zEx2 ({ n:=91,fr:=[(1,.i t),(2,.p (.lst ETy.bytes pk)),(3,.x (.c (.loc 0 0))),(6,.p (.bool false)),(7,.i ((kI c.states (ETy.get .tran c.trans t.toNat).dst c.states.length))),(37,.i c.states.length),(38,.i ((c.states.length:Int)))],ck:=(zEx1 c) })):∀ (n i:Nat),c.states.length - i≤n→i≤c.states.length →
 J Tryz.prog 8 (au Tryz.f8) Γ Q zEx2 ({ n:=91,fr:=[(1,.i t),(2,.p (.lst ETy.bytes pk)),(3,.x (.c (.loc 0 0))),(6,.p (.bool false)),(7,.i ((kI c.states (ETy.get .tran c.trans t.toNat).dst i))),(37,.i c.states.length),(38,.i ((i:Int)))],ck:=(zEx1 c) }):=by
 intro n
 induction n with
 | zero=>?_
 | succ n ih=>?_
 all_goals
  intro i hn hi
  by_cases hi':i<c.states.length
  · have hs:kI c.states (ETy.get .tran c.trans t.toNat).dst (i+1)=if ((ETy.get .stat c.states i).name==(ETy.get .tran c.trans t.toNat).dst)=true then (i:Int) else kI c.states (ETy.get .tran c.trans t.toNat).dst i:=rfl
    generalize hto:kI c.states (ETy.get .tran c.trans t.toNat).dst i=to2 at hs
    refine jg nW Tryz.func8 (let x1:List Chunk:=(zEx1 c); let x2:=(ETy.get .tran c.trans (Int.toNat t)); let x3:=(c.states.length:Int); let x4:=(Stat.kind (ETy.get .stat c.states (Int.toNat to2))); let x5:List PI:=zEx2; let x6:=((0:Int)≤t∧t<(c.trans.length:Int)); let x7:=(IntKind.wrap .i64 ((i:Int)+1)); .ite (decide ((i:Int)<x3)) (.need (inRg i c.states.length) (.need x6 (.ite (Stat.name (ETy.get .stat c.states i)==Tran.dst x2) (.stop x5 { n:=91,fr:=[(1,.i t),(2,.p (.lst ETy.bytes pk)),(3,.x (.c (.loc 0 0))),(6,.p (.bool false)),(7,.i i),(37,.i c.states.length),(38,.i x7)],ck:=x1 }) (.stop x5 { n:=91,fr:=[(1,.i t),(2,.p (.lst ETy.bytes pk)),(3,.x (.c (.loc 0 0))),(6,.p (.bool false)),(7,.i to2),(37,.i c.states.length),(38,.i x7)],ck:=x1 })))) (.need x6 (.need ((0:Int)≤Tran.src x2∧Tran.src x2<x3∧(0:Int)≤to2∧to2<x3∧c.states.length≤maxLen) (.need ((0:Int)≤to2∧to2<x3) (.need (aM x4=false→(0:Int)≤to2∧to2<x3∧c.states.length≤maxLen) (.ite (aM x4||aN c.states (Int.toNat to2) != iI c.states ((Tran.src x2).toNat) (Int.toNat to2)) (.ret (.p (.bool true)) []) (.need (Tre c.states∧∀ (p:List Int),p∈pk→∀ (b:Int),b∈p→(0:Int)≤b∧b≤(255:Int)) (.need (c.vars.length≤2199023255552∧c.states.length≤2199023255552) (.need (c.states.length≤1000∧(0:Int)≤to2∧to2<x3∧aM x4=false) (.ret (.p (.bool (fv c t (mdM c.states pk)==ic c.states to2))) [])))))))))) ?_
    conv=>zeta
    refine ⟨fun _=>⟨⟨by omega,by omega⟩,ht,fun hb=>?_,fun hb=>?_⟩,fun hge=>?_⟩
    · rw [if_pos (by exact hb)] at hs
      rw [aV (aC hi' hm),← hs]
      first
      | (exfalso; omega)
      | exact ih (i+1) (by omega) (by omega)
    · have hb':((ETy.get .stat c.states i).name==(ETy.get .tran c.trans t.toNat).dst)=false:=hb
      rw [if_neg (by rw [hb']; decide)] at hs
      rw [aV (aC hi' hm),← hs]
      first
      | (exfalso; omega)
      | exact ih (i+1) (by omega) (by omega)
    · have:=of_decide_eq_false hge; omega
  · have hie:i=c.states.length:=by omega
    subst hie
    exact hend
theorem Fe (c:Chart) (t:Int) (pk:List (List Int)) (h:oU c) (hpk:∀ p∈pk,∀ b∈p,0≤b∧b≤255):ah Tryz.prog 8 [.e .chart c,.i t,.l .bytes pk] [] (.x (.b true)) []:=by
 have hz:=KO h
 have hb:=Nb h
 have hsz:c.vars.length≤2199023255552∧c.states.length≤2199023255552:=⟨hz.1,by omega⟩
 refine dg nW Tryz.func8 (.ite false (.ret (.p (.bool false)) []) (.need (∀ (s:ETy.den .stat),s∈c.states→s.entry.length≤4398046511104∧s.leave.length≤4398046511104) (.need ((!bD c==(0:Int)||decide (t<(0:Int))||decide (t≥(c.trans.length:Int)))=false→(0:Int)≤t∧t<(c.trans.length:Int)) (.ite (!bD c==(0:Int)||decide (t<(0:Int))||decide (t≥(c.trans.length:Int))||Tran.dst (ETy.get .tran c.trans (Int.toNat t))==[]) (.ret (.p (.bool true)) []) (.stop zEx2 { n:=91,fr:=[(1,.i t),(2,.p (.lst ETy.bytes pk)),(3,.x (.c (.loc 0 0))),(6,.p (.bool false)),(7,.i (-1:Int)),(37,.i c.states.length),(38,.i 0)],ck:=(zEx1 c),kn:=[6] }))))) fun Γ=>?_
 refine ⟨fun h0=>absurd h0 (by decide),fun _=>⟨hb,fun h1=>(Ko h1).2,fun _=>⟨rfl,rfl⟩,fun h1=>?_⟩⟩
 have h1':(!bD c==0||decide (t<0)||decide (t≥(c.trans.length:Int))||(ETy.get .tran c.trans t.toNat).dst==[])=false:=h1
 rw [av] at h1'
 have ht:=Ko h1'.1
 have hv:=(iX c).1 ht.1
 have tt:=hv.tre
 have hst:=(nd c).1 hv.few
 have hmc:c.states.length≤maxLen:=by unfold maxLen; omega
 have hti:t.toNat<c.trans.length:=by omega
 have hd0:(ETy.get .tran c.trans t.toNat).dst≠[]:=by
  intro e
  rw [e] at h1'; exact absurd h1'.2 (by decide)
 obtain ⟨tg,d,e1,e2,e3,e4,e5,e6,e7,e8⟩:=Bo hv hti hd0
 have hsrc:0≤(ETy.get .tran c.trans t.toNat).src∧(ETy.get .tran c.trans t.toNat).src<(c.states.length:Int):=by
  have:=cN c.states e4
  rcases e8 with e | e <;> omega
 refine J.kn [] (KR c t pk ht.2 hmc Γ _ ?_ c.states.length 0 (by omega) (by omega))
 rw [BH tt e1 e2]
 have hgo:∀ (n:Nat) (to2:Int),n=c.states.length→to2=(tg:Int)→J Tryz.prog 8 (au Tryz.f8) Γ (Eq2 (.x (.b true)) []) zEx2 ({ n:=91,fr:=[(1,.i t),(2,.p (.lst ETy.bytes pk)),(3,.x (.c (.loc 0 0))),(6,.p (.bool false)),(7,.i to2),(37,.i c.states.length),(38,.i ((n:Int)))],ck:=(zEx1 c) }):=fun n to2 hn hto=>by
  refine jg nW Tryz.func8 (let x1:List Chunk:=(zEx1 c); let x2:=(ETy.get .tran c.trans (Int.toNat t)); let x3:=(c.states.length:Int); let x4:=(Stat.kind (ETy.get .stat c.states (Int.toNat to2))); let x5:List PI:=zEx2; let x6:=((0:Int)≤t∧t<(c.trans.length:Int)); let x7:=(IntKind.wrap .i64 ((n:Int)+1)); .ite (decide ((n:Int)<x3)) (.need (inRg n c.states.length) (.need x6 (.ite (Stat.name (ETy.get .stat c.states n)==Tran.dst x2) (.stop x5 { n:=91,fr:=[(1,.i t),(2,.p (.lst ETy.bytes pk)),(3,.x (.c (.loc 0 0))),(6,.p (.bool false)),(7,.i n),(37,.i c.states.length),(38,.i x7)],ck:=x1 }) (.stop x5 { n:=91,fr:=[(1,.i t),(2,.p (.lst ETy.bytes pk)),(3,.x (.c (.loc 0 0))),(6,.p (.bool false)),(7,.i to2),(37,.i c.states.length),(38,.i x7)],ck:=x1 })))) (.need x6 (.need ((0:Int)≤Tran.src x2∧Tran.src x2<x3∧(0:Int)≤to2∧to2<x3∧c.states.length≤maxLen) (.need ((0:Int)≤to2∧to2<x3) (.need (aM x4=false→(0:Int)≤to2∧to2<x3∧c.states.length≤maxLen) (.ite (aM x4||aN c.states (Int.toNat to2) != iI c.states ((Tran.src x2).toNat) (Int.toNat to2)) (.ret (.p (.bool true)) []) (.need (Tre c.states∧∀ (p:List Int),p∈pk→∀ (b:Int),b∈p→(0:Int)≤b∧b≤(255:Int)) (.need (c.vars.length≤2199023255552∧c.states.length≤2199023255552) (.need (c.states.length≤1000∧(0:Int)≤to2∧to2<x3∧aM x4=false) (.ret (.p (.bool (fv c t (mdM c.states pk)==ic c.states to2))) [])))))))))) ?_
  conv=>zeta
  subst hto
  refine ⟨fun hlt=>by have:=of_decide_eq_true hlt; omega,fun _=>⟨ht.2,⟨hsrc.1,hsrc.2,by omega,by omega,hmc⟩,⟨by omega,by omega⟩,fun _=>⟨by omega,by omega,hmc⟩,fun _=>⟨rfl,rfl⟩,fun hb2=>?_⟩⟩
  have hb2':(aM (ETy.get .stat c.states tg).kind||aN c.states tg != iI c.states (ETy.get .tran c.trans t.toNat).src.toNat tg)=false:=hb2
  rw [av] at hb2'
  have hpar:aN c.states tg=iI c.states (ETy.get .tran c.trans t.toNat).src.toNat tg:=by simpa using hb2'.2
  have hup:upM c.states tg=(d:Int):=by
   rw [← dZ tt.shp e2,hpar,← e3,e1]
   obtain ⟨q,hq⟩:=aA hsrc.1
   rw [hq,ai]
   exact (Bl hv.tree (by omega) e2).symm
  refine ⟨⟨tt,hpk⟩,hsz,⟨by omega,by omega,by omega,hb2'.1⟩,?_,rfl⟩
  have e:(fv c t (mdM c.states pk)==ic c.states (tg:Int))=true:=by
   rw [FB ht (r9 tt hpk)]
   unfold kU By
   rw [if_neg (by simpa using hd0),e3,e1,ai,ai,hb2'.1,if_neg (by decide),Aq tt e4 e2 e5 hup]
   simp
  exact congrArg (fun b=>SV.x (.c (.pd (.bool b)))) e
 exact hgo _ _ rfl rfl
end Go.Proofs.YtgfifkhbfdacjaaGreatDoor
namespace Go.Proofs.YtgfifkhbfdacjaaGreatDoor
open Go Go.Ev Go.RowKit Go.ChangeShapes Go.WideShapes Go.ChangeAt
set_option maxRecDepth 100000
theorem Mx {Hh:Type} {enc:TypeId×Value→Hh} {W:World} {base:Nat} {spare:Nat→Bool} {held:Bool} {v:Value} {d:DataW Hh} {ps:List MemPlace} {b0:Nat} (h:DataW.Trod enc Tryz.prog W base spare held 3 v d ps) (hv:Value.okWide Tryz.prog W .any b0 3 v) :
 ∃ n:Int,SX.R (VW W) (.c (.pd (.int .i64 n))) v∧-9223372036854775808≤n∧n≤9223372036854775807:=by
 have hv':Cell.okWide Tryz.prog W .any b0 3 v:=by simpa only [Value.okWide,Tryz.underlying3] using hv
 obtain ⟨fuel,hf⟩:=h
 have hc:v.cells.toList=[v]:=by
  have hv2:=hv'
  simp only [Cell.okWide,Tryz.underlying3,Cell.ok] at hv2
  cases v <;> first | rfl | exact hv2.elim
 rw [hc] at hf
 obtain ⟨n,h1,_,h2⟩:=DataW.trod_int Tryz.underlying3 hf
 simp only [eE,and_true] at h1
 subst h1
 simp only [Lit.wf,af,decide_eq_true_eq] at h2
 have e1:IntKind.i64.min = -9223372036854775808:=by decide
 have e2:IntKind.i64.max=9223372036854775807:=by decide
 rw [e1,e2] at h2
 exact ⟨n,.int _ n,h2.1,h2.2⟩
end Go.Proofs.YtgfifkhbfdacjaaGreatDoor

/- Contracts: moves.Record on an empty list. Conditions: sizes. What a transition leaves and enters; what is made by choices (plain). Conditions: a valid chart. Contracts: moves.Enter. Conditions: sizes. Contracts: the layer's example holds. Conditions: none. -/
import Derived.Test.YtgfifkhbfdacjaaGreatDoorEi
import Derived.Test.YtgfifkhbfdacjaaGreatDoorEg
import Derived.Test.YtgfifkhbfdacjaaGreatDoorLx
import Derived.Test.YtgfifkhbfdacjaaGreatDoorEa
import Derived.Test.YtgfifkhbfdacjaaGreatDoorCr
import Derived.Test.YtgfifkhbfdacjaaGreatDoorNh
import Derived.Test.YtgfifkhbfdacjaaGreatDoorEq
namespace Go.Proofs.YtgfifkhbfdacjaaGreatDoor
open Go Go.Ev
set_option maxRecDepth 100000
def yO:Cfg:=⟨aW,[]⟩
theorem uS:ag Tryz.prog yO.tab:=ag.nil
theorem EI:ah Tryz.prog 46 [.l .past []] [] (.x (.c (.pd (.v (.slice none 0 0))))) []:=by
 refine dg uS Tryz.func46 (.stop [.code [1,1,0,1,0,0],.inLoop [1,1,0,1,0,0],.inBlock 0,.code [1,1,1]] { n:=23,fr:=[(2,.p (.v (Value.slice none 0 0))),(3,.p (.v (Value.slice none 0 0))),(6,.p (.lst .past [])),(7,.i (↑(0:Nat):Int)),(8,.i 0)],ck:=[] }) fun Γ=>?_
 refine jg uS Tryz.func46 (.ite false (.need ((0:Int)≤0∧(0:Int)<(↑(0:Nat):Int)) (.stop [.code [1,1,0,1,0,0,1,1,0,0,1],.inBlock 1,.code [1,1,0,1,0,0,1,1,1],.inLoop [1,1,0,1,0,0],.inBlock 0,.code [1,1,1]] { n:=23,fr:=[(2,.p (.v (Value.slice none 0 0))),(3,.p (.v (Value.slice none 0 0))),(6,.p (.lst .past [])),(7,.i (↑(0:Nat):Int)),(8,.i 0),(5,.x (.c (.loc 0 0)))],ck:=[.cells [.i (Past.state { state:=(0:Int),set:=[] }),.pd (.lst .int [])] 40] })) (.ret (.p (.v (Value.slice none 0 0))) [])) ?_
 exact ⟨fun h=>absurd h (by decide),fun _=>⟨rfl,rfl⟩⟩
def vX:Ent:=(46,fun
 | [.c (.pd (.lst .past []))],[]=>some (none,.x (.c (.pd (.v (.slice none 0 0)))),[])
 | _,_=>none)
theorem Kt:EntOk Tryz.prog vX:=entOk fun vs ck=>by
 unfold vX; dsimp only; split
 · exact entS fun hp=>EI
 · exact entN
def xQ:Cfg:=⟨aW,[mE,pL,vX]⟩
theorem vk:ag Tryz.prog xQ.tab:=(ag.cons sg (ag.cons DL (ag.cons Kt ag.nil)))
def xt:Cfg:=⟨aW,[iY,jC,tE,nR,mq,eBs,vZ]⟩
theorem tT:ag Tryz.prog xt.tab:=(ag.cons iT (ag.cons kL (ag.cons s5 (ag.cons ug (ag.cons si (ag.cons Ox (ag.cons Ji ag.nil)))))))
variable (l:List Ev.Stat) (s:List Int) (c:Chart) (left:List Int) (i:Nat) (u:Int) (n:Nat)
def n9 (i:Nat) (k:Int):Bool:=(ETy.get .stat l i).kind==5&&bj l k==u||(ETy.get .stat l i).kind==6&&eC l k&&gu l u k
def lf:Option Past:=if (aM (ETy.get .stat l i).kind&&(inB left (bj l (i:Int))&&inB s (bj l (i:Int))))=true then some ⟨(i:Int),s.filter (n9 l (bj l (i:Int)) i)⟩ else none
def Co:List Past:=(List.range l.length).filterMap (lf l s left)
def qL (l left:List Int):List Past:=if (bF c==0&&dP c.states l)=true then Co c.states l left else []
def qA:List Past:=(List.range n).filterMap (lf l s left)
theorem Fj:qA l s left (n+1)=qA l s left n++(match lf l s left n with | some p=>[p] | none=>[]):=by
 unfold qA
 rw [dC,List.filterMap_append]
 cases h:lf l s left n <;> simp [h]
theorem HK:(qA l s left n).length≤n:=by
 unfold qA
 exact aw (List.length_filterMap_le _ _) (by simp)
theorem Me:∀ p∈qA l s left n,0≤p.state∧p.state<(n:Int):=by
 intro p hp
 obtain ⟨i,hi,h⟩:=eO.1 hp
 unfold lf at h
 by_cases hb:(aM (ETy.get .stat l i).kind&&(inB left (bj l (i:Int))&&inB s (bj l (i:Int))))=true
 · rw [if_pos hb] at h
   simp only [aa] at h
   subst h
   have:=bw.1 hi
   exact ⟨Int.natCast_nonneg i,Int.ofNat_lt.2 this⟩
 · rw [if_neg hb] at h; cases h
abbrev zEo1 (a:Chart):Chunk:=.cells [.pd (.str a.name),.pd (.lst .str a.events),.pd (.lst .var a.vars),.pd (.lst .stat a.states),.pd (.lst .tran a.trans)] 27
abbrev zEo2:List PI:=[.code [1,1,1,0,1,0,0],.inLoop [1,1,1,0,1,0,0],.inBlock 0,.code [1,1,1,1]]
theorem Gx (l left:List Int) (out:List Past) (i:Nat) (u:Int) (Γ:Ctx) (Q:Out) (hi:i<c.states.length) (hl:l.length≤1000∧∀ y∈l,0≤y∧y<(c.states.length:Int)) (hm:c.states.length≤1000) (ho:out.length≤1000) (hos:∀ p∈out,0≤p.state∧p.state<(i:Int))
 (hcont:J Tryz.prog 18 (av Tryz.f18) Γ Q zEo2 ({ n:=117,fr:=[(1,.p (.lst .int l)),(2,.p (.lst .int left)),(4,.x (.c (.loc 0 0))),(8,.p (.v (Value.slice none 0 0))),(9,.x (.c (.own 1))),(31,.p (.lst .stat c.states)),(32,.i c.states.length),(33,.i ((IntKind.wrap .i64 ((i:Int)+1))))],ck:=[zEo1 c,.own 40 .past (out++[⟨(i:Int),l.filter (n9 c.states u i)⟩])] })):∀ (n k:Nat),l.length - k≤n→k≤l.length→∀ set,set=(l.take k).filter (n9 c.states u i) →
 J Tryz.prog 18 (av Tryz.f18) Γ Q [.code [1,1,1,0,1,0,0,1,1,0,0,1,1,1,1,1,0,1,0,0],.inLoop [1,1,1,0,1,0,0,1,1,0,0,1,1,1,1,1,0,1,0,0],.inBlock 2,.code [1,1,1,0,1,0,0,1,1,0,0,1,1,1,1,1,1],.inBlock 1,.code [1,1,1,0,1,0,0,1,1,1],.inLoop [1,1,1,0,1,0,0],.inBlock 0,.code [1,1,1,1]] ({ n:=117,fr:=[(1,.p (.lst .int l)),(2,.p (.lst .int left)),(4,.x (.c (.loc 0 0))),(8,.p (.v (Value.slice none 0 0))),(9,.x (.c (.own 1))),(31,.p (.lst .stat c.states)),(32,.i c.states.length),(33,.i i),(11,.x (.c (.loc 2 0))),(10,.i i),(12,.i u),(13,.x (.c (.loc 3 0))),(58,.p (.lst .int l)),(59,.i l.length),(60,.i ((k:Int)))],ck:=[zEo1 c,.own 40 .past out,.cells [.pd (.str (ETy.get .stat c.states i).name),SC.i (ETy.get .stat c.states i).kind,SC.i (ETy.get .stat c.states i).depth,.pd (.str (ETy.get .stat c.states i).initial),.pd (.lst .deed (ETy.get .stat c.states i).entry),.pd (.lst .deed (ETy.get .stat c.states i).leave)] 56,.cells [SC.i i,.own 4] 40,.own 3 .int set] }):=by
 have hml:l.length≤maxLen:=by unfold maxLen; omega
 have hmc:c.states.length≤maxLen:=by unfold maxLen; omega
 intro n
 induction n with
 | zero=>?_
 | succ n ih=>?_
 all_goals
  intro k hn hk set hs
  refine jg tT Tryz.func18 (let x1:=(ETy.get .stat c.states i); let x8:Nat×SV:=(2,.p (.lst .int left)); let x10:Nat×SV:=(4,.x (.c (.loc 0 0))); let x5:Nat×SV:=(8,.p (.v (Value.slice none 0 0))); let x7:Nat×SV:=(31,.p (.lst .stat c.states)); let x9:Nat×SV:=(32,.i c.states.length); let x2:List (Nat×SV):=[(1,.p (.lst .int l)),x8,x10,x5,(9,.x (.c (.own 1))),x7,x9,(33,.i i),(11,.x (.c (.loc 2 0))),(10,.i i),(12,.i u),(13,.x (.c (.loc 3 0))),(58,.p (.lst .int l)),(59,.i l.length),(60,.i (IntKind.wrap .i64 ((k:Int)+1)))]; let x6:List Nat:=[1,1,1,0,1,0,0,1,1,0,0,1,1,1,1,1,0,1,0,0]; let x3:List PI:=[.code x6,.inLoop x6,.inBlock 2,.code [1,1,1,0,1,0,0,1,1,0,0,1,1,1,1,1,1],.inBlock 1,.code [1,1,1,0,1,0,0,1,1,1],.inLoop [1,1,1,0,1,0,0],.inBlock 0,.code [1,1,1,1]]; let x4:=(Stat.kind x1==(5:Int)&&bj c.states (ETy.get .int l k)==u); .ite (decide ((k:Int)<(l.length:Int))) (.need (inRg k l.length) (.need ((Stat.kind x1==(5:Int))=true→c.states.length≤maxLen) (.need (x4=false∧(Stat.kind x1==(6:Int))=true→(0:Int)≤ETy.get .int l k∧ETy.get .int l k<(c.states.length:Int)) (.need (x4=false∧(Stat.kind x1==(6:Int)&&eC c.states (ETy.get .int l k))=true→c.states.length≤maxLen) (.ite (Stat.kind x1==(5:Int)&&bj c.states (ETy.get .int l k)==u||Stat.kind x1==(6:Int)&&eC c.states (ETy.get .int l k)&&gu c.states u (ETy.get .int l k)) (.need (room ((set++[ETy.get .int l k]).length) 8) (.stop x3 { n:=117,fr:=x2,ck:=[zEo1 c,.own 40 .past out,.cells [.pd (.str (Stat.name x1)),.i (Stat.kind x1),.i (Stat.depth x1),.pd (.str (Stat.initial x1)),.pd (.lst .deed (Stat.entry x1)),.pd (.lst .deed (Stat.leave x1))] 56,.cells [.i i,.own 4] 40,.own 3 .int (set++[ETy.get .int l k])] })) (.stop x3 { n:=117,fr:=x2,ck:=[zEo1 c,.own 40 .past out,.cells [.pd (.str (Stat.name x1)),.i (Stat.kind x1),.i (Stat.depth x1),.pd (.str (Stat.initial x1)),.pd (.lst .deed (Stat.entry x1)),.pd (.lst .deed (Stat.leave x1))] 56,.cells [.i i,.own 4] 40,.own 3 .int set] })))))) (.need (out.length≤1000∧((0:Int)≤(i:Int)∧(i:Int)≤1000)∧∀ (p:ETy.den .past),p∈out→(0:Int)≤Past.state p∧Past.state p<(i:Int)) (.ite false (.need (inRg out.length out.length) (.stop [.ops [1,1,1,0,1,0,0,1,1,0,0,1,1,1,1,1,1,1,1,0] 4,.inBlock 1,.code [1,1,1,0,1,0,0,1,1,1],.inLoop [1,1,1,0,1,0,0],.inBlock 0,.code [1,1,1,1]] { n:=117,fr:=[(1,.p (.lst .int l)),x8,x10,x5,(9,.x (.c (.own 1))),x7,x9,(33,.i i),(108,.x (.agg [.i i,.own 2])),(109,.x (.c (.oat 1 out.length 2 0)))],ck:=[zEo1 c,.own 40 .past out,.own 3 .int set] })) (.need (40=(40:TypeId)∧40=(40:TypeId)∧(out.length:Int)=(out.length:Int)∧room (out.length+1) 32) (.stop zEo2 { n:=117,fr:=[(1,.p (.lst .int l)),x8,x10,x5,(9,.x (.c (.own 1))),x7,x9,(33,.i (IntKind.wrap .i64 ((i:Int)+1)))],ck:=[zEo1 c,.own 40 .past (out++[{ state:=(i:Int),set:=set }])] }))))) ?_
  conv=>zeta
  refine ⟨fun hlt=>?_,fun hge=>?_⟩
  · have hk':k<l.length:=by have:=of_decide_eq_true hlt; omega
    have hy:=hl.2 (ETy.get .int l k) (by rw [ETy.get_eq (t:=.int) (List.getElem?_eq_getElem hk')]; exact bb hk')
    have ht:=iy l (n9 c.states u i) hk'
    have hsl:set.length≤1000:=by
     rw [hs]
     have:=a6 (n9 c.states u i) (l.take k)
     have:=List.length_take_le k l
     omega
    refine ⟨⟨by omega,by omega⟩,fun _=>hmc,fun _=>⟨hy.1,hy.2⟩,fun _=>hmc,fun hb=>?_,fun hb=>?_⟩
    · have hb':n9 c.states u i (ETy.get .int l k)=true:=hb
      rw [hb',if_pos rfl,← hs] at ht
      refine ⟨room_le (by rw [an,db]; omega) (by omega),?_⟩
      rw [aU (aB hk' hml)]
      first
      | (exfalso; omega)
      | exact ih (k+1) (by omega) (by omega) _ ht.symm
    · have hb':n9 c.states u i (ETy.get .int l k)=false:=hb
      rw [hb',if_neg (by decide),aG,← hs] at ht
      rw [aU (aB hk' hml)]
      first
      | (exfalso; omega)
      | exact ih (k+1) (by omega) (by omega) _ ht.symm
  · have e:l.take k=l:=aQ (by have:=of_decide_eq_false hge; omega)
    rw [e] at hs
    subst hs
    exact ⟨⟨ho,⟨by omega,by omega⟩,hos⟩,fun h=>(by cases h),fun _=>⟨⟨rfl,rfl,rfl,room_le (by omega) (by omega)⟩,hcont⟩⟩
theorem HH (l left:List Int) (Γ:Ctx) (hl:l.length≤1000∧∀ y∈l,0≤y∧y<(c.states.length:Int)) (hm:c.states.length≤1000):∀ (n i:Nat),c.states.length - i≤n→i≤c.states.length→∀ out,out=qA c.states l left i →
 J Tryz.prog 18 (av Tryz.f18) Γ (Eq2 (.x (.c (.own 0))) [.own 40 .past (Co c.states l left)]) zEo2 ({ n:=117,fr:=[(1,.p (.lst .int l)),(2,.p (.lst .int left)),(4,.x (.c (.loc 0 0))),(8,.p (.v (Value.slice none 0 0))),(9,.x (.c (.own 1))),(31,.p (.lst .stat c.states)),(32,.i c.states.length),(33,.i ((i:Int)))],ck:=[zEo1 c,.own 40 .past out] }):=by
 have hmc:c.states.length≤maxLen:=by unfold maxLen; omega
 intro n
 induction n with
 | zero=>?_
 | succ n ih=>?_
 all_goals
  intro i hn hi out ho
  have hol:out.length≤i:=by rw [ho]; exact HK _ _ _ _
  have hos:∀ p∈out,0≤p.state∧p.state<(i:Int):=by rw [ho]; exact Me _ _ _ _
  have ht:=Fj c.states l left i
  rw [← ho] at ht
  refine jg tT Tryz.func18 (let x5:=(Value.slice none 0 0); let x1:Tree:=(.stop zEo2 { n:=117,fr:=[(1,.p (.lst .int l)),(2,.p (.lst .int left)),(4,.x (.c (.loc 0 0))),(8,.p (.v x5)),(9,.x (.c (.own 1))),(31,.p (.lst .stat c.states)),(32,.i c.states.length),(33,.i (IntKind.wrap .i64 ((i:Int)+1)))],ck:=[zEo1 c,.own 40 .past out] }); let x2:=(ETy.get .stat c.states i); let x3:=(bj c.states (i:Int)); let x4:List Nat:=[1,1,1,0,1,0,0,1,1,0,0,1,1,1,1,1,0,1,0,0]; .ite (decide ((i:Int)<(c.states.length:Int))) (.need (inRg i c.states.length) (.ite (!aM (Stat.kind x2)) x1 (.need (c.states.length≤maxLen) (.ite (!inB left x3 || !inB l x3) x1 (.stop [.code x4,.inLoop x4,.inBlock 2,.code [1,1,1,0,1,0,0,1,1,0,0,1,1,1,1,1,1],.inBlock 1,.code [1,1,1,0,1,0,0,1,1,1],.inLoop [1,1,1,0,1,0,0],.inBlock 0,.code [1,1,1,1]] { n:=117,fr:=[(1,.p (.lst .int l)),(2,.p (.lst .int left)),(4,.x (.c (.loc 0 0))),(8,.p (.v x5)),(9,.x (.c (.own 1))),(31,.p (.lst .stat c.states)),(32,.i c.states.length),(33,.i i),(11,.x (.c (.loc 2 0))),(10,.i i),(12,.i x3),(13,.x (.c (.loc 3 0))),(58,.p (.lst .int l)),(59,.i l.length),(60,.i 0)],ck:=[zEo1 c,.own 40 .past out,.cells [.pd (.str (Stat.name x2)),.i (Stat.kind x2),.i (Stat.depth x2),.pd (.str (Stat.initial x2)),.pd (.lst .deed (Stat.entry x2)),.pd (.lst .deed (Stat.leave x2))] 56,.cells [.i i,.pd (.v x5)] 40] }))))) (.ret (.x (.c (.own 0))) [.own 40 .past out])) ?_
  conv=>zeta
  refine ⟨fun hlt=>?_,fun hge=>?_⟩
  · have hi':i<c.states.length:=by have:=of_decide_eq_true hlt; omega
    have hw:IntKind.wrap .i64 ((i:Int)+1)=((i+1:Nat):Int):=aU (aB hi' hmc)
    refine ⟨⟨by omega,by omega⟩,fun hb=>?_,fun hb=>⟨hmc,fun hb2=>?_,fun hb2=>?_⟩⟩
    · have hb':aM (ETy.get .stat c.states i).kind=false:=by have h:(!aM (ETy.get .stat c.states i).kind)=true:=hb; simpa using h
      have e:lf c.states l left i=none:=by unfold lf; rw [hb']; rfl
      rw [e,aG] at ht
      rw [hw]
      first
      | (exfalso; omega)
      | exact ih (i+1) (by omega) (by omega) _ ht.symm
    · have hb2':(!inB left (bj c.states (i:Int)) || !inB l (bj c.states (i:Int)))=true:=hb2
      have e:lf c.states l left i=none:=by
       unfold lf
       have:(inB left (bj c.states (i:Int))&&inB l (bj c.states (i:Int)))=false:=by
        cases h1:inB left (bj c.states (i:Int)) <;> cases h2:inB l (bj c.states (i:Int)) <;> simp [h1,h2] at hb2' ⊢
       rw [this,cK]; rfl
      rw [e,aG] at ht
      rw [hw]
      first
      | (exfalso; omega)
      | exact ih (i+1) (by omega) (by omega) _ ht.symm
    · have hb':aM (ETy.get .stat c.states i).kind=true:=by have h:(!aM (ETy.get .stat c.states i).kind)=false:=hb; simpa using h
      have hb2':(!inB left (bj c.states (i:Int)) || !inB l (bj c.states (i:Int)))=false:=hb2
      have e:lf c.states l left i=some ⟨(i:Int),l.filter (n9 c.states (bj c.states (i:Int)) i)⟩:=by
       unfold lf
       have:(inB left (bj c.states (i:Int))&&inB l (bj c.states (i:Int)))=true:=by
        cases h1:inB left (bj c.states (i:Int)) <;> cases h2:inB l (bj c.states (i:Int)) <;> simp [h1,h2] at hb2' ⊢
       rw [this,hb']; rfl
      rw [e] at ht
      refine J.nilCk 3 1 3 .int rfl rfl (by kernel_rfl) ?_
      refine Gx c l left out i (bj c.states (i:Int)) Γ _ hi' hl hm (by omega) hos ?_ l.length 0 (by omega) (by omega) [] (by simp)
      rw [hw]
      first
      | (exfalso; omega)
      | exact ih (i+1) (by omega) (by omega) _ ht.symm
  · have e:i=c.states.length:=by have:=of_decide_eq_false hge; omega
    subst e
    rw [ho]; exact ⟨rfl,rfl⟩
abbrev zEo3 (a:List Int) (b:List Int) (c:Chart):ST:={ n:=117,fr:=[(1,.p (.lst .int a)),(2,.p (.lst .int b)),(4,.x (.c (.loc 0 0))),(8,.p (.v (Value.slice none 0 0))),(9,.p (.v (Value.slice none 0 0))),(31,.p (.lst .stat c.states)),(32,.i c.states.length),(33,.i 0)],ck:=[zEo1 c] }
theorem HE (l left:List Int) (h:c.vars.length≤2199023255552∧c.states.length≤2199023255552) (hg:(bF c==0&&dP c.states l)=false):ah Tryz.prog 18 [.e .chart c,.l .int l,.l .int left,.l .past []] [] (.x (.c (.pd (.v (.slice none 0 0))))) []:=by
 refine dg vk Tryz.func18 (.need (c.vars.length≤2199023255552∧c.states.length≤2199023255552) (.need ((!(bF c==(0:Int)&&b4 (b7 c.states) none []))=false→c.vars.length≤2199023255552∧c.states.length≤2199023255552) (.ite (!(bF c==(0:Int)&&b4 (b7 c.states) none []) || !(bF c==(0:Int)&&dP c.states l)) (.ret (.p (.v (Value.slice none 0 0))) []) (.stop zEo2 (zEo3 l left c))))) fun Γ=>?_
 have e:b4 (b7 c.states) none []=true:=rfl
 refine ⟨h,fun _=>h,fun _=>⟨rfl,rfl⟩,fun hb=>?_⟩
 exfalso
 have hb':(!(bF c==0&&b4 (b7 c.states) none []) || !(bF c==0&&dP c.states l))=false:=hb
 rw [e,hg] at hb'
 cases h1:(bF c==0) <;> rw [h1] at hb' <;> cases hb'
theorem Kd (l left:List Int) (h:c.vars.length≤2199023255552∧c.states.length≤2199023255552) (hg:(bF c==0&&dP c.states l)=true):ah Tryz.prog 18 [.e .chart c,.l .int l,.l .int left,.l .past []] [] (.x (.c (.own 0))) [.own 40 .past (Co c.states l left)]:=by
 have hg2:=hg
 rw [af] at hg2
 have v:=(iR c).1 (eq_of_beq hg2.1)
 have hst:=(mM c).1 v.few
 have hin:=xB hg2.2
 refine dg vk Tryz.func18 (.need (c.vars.length≤2199023255552∧c.states.length≤2199023255552) (.need ((!(bF c==(0:Int)&&b4 (b7 c.states) none []))=false→c.vars.length≤2199023255552∧c.states.length≤2199023255552) (.ite (!(bF c==(0:Int)&&b4 (b7 c.states) none []) || !(bF c==(0:Int)&&dP c.states l)) (.ret (.p (.v (Value.slice none 0 0))) []) (.stop zEo2 (zEo3 l left c))))) fun Γ=>?_
 have e:b4 (b7 c.states) none []=true:=rfl
 refine ⟨h,fun _=>h,fun hb=>?_,fun _=>?_⟩
 · exfalso
   have hb':(!(bF c==0&&b4 (b7 c.states) none []) || !(bF c==0&&dP c.states l))=true:=hb
   rw [e,hg,hg2.1] at hb'
   cases hb'
 · refine J.nilOwn 9 40 .past rfl (by kernel_rfl) ?_
   exact HH c l left Γ ⟨by omega,hin.1⟩ (by omega) c.states.length 0 (by omega) (by omega) [] rfl
theorem EP (l left:List Int) (h:c.vars.length≤2199023255552∧c.states.length≤2199023255552):ah Tryz.prog 18 [.e .chart c,.l .int l,.l .int left,.l .past []] [] (.x (.c (.pd (.lst .past (qL c l left))))) []:=by
 unfold qL
 by_cases hg:(bF c==0&&dP c.states l)=true
 · rw [if_pos hg]
   exact ah.chop (ck':=[]) (ah.frz aW [0] (Kd c l left h hg) rfl rfl)
 · rw [if_neg hg]
   exact ah.ret (HE c l left h (Bool.eq_false_iff.2 hg)) fun V v hv=>lF hv
end Go.Proofs.YtgfifkhbfdacjaaGreatDoor
namespace Go.Proofs.YtgfifkhbfdacjaaGreatDoor
open Go Go.Ev
set_option maxRecDepth 100000
variable (l:List Ev.Stat) (ps:List Past)
def KJ (s:List Int) (d:Int):List Int:=s.filter fun k=>decide ((ETy.get .stat l k.toNat).depth≥d)
def sU (l:List Ev.Stat):Nat→List (List Int)→List Past→List Past
 | _,[],out=>out
 | i,p::r,out=>if 5<i then out else sU l (i+1) r (oK l (gB l (chM l p)) (KJ l (gB l (chM l p)) ((i % 3:Nat):Int)) out)
def mdM (ps:List (List Int)):List Past:=sU l 0 ps []
def jS (tg:Int):List Int:=if aM (ETy.get .stat l tg.toNat).kind=true then (match dH ps tg with
 | some p=>p.set
 | none=>[ar l (ETy.get .stat l tg.toNat).initial]) else [tg]
def fG (tr:Tran) (ps:List Past):List Int:=if (tr.dst==[])=true then [] else dnM l (jS l ps (ar l tr.dst)) (dx l tr.src (ar l tr.dst)).toNat
theorem A3 {l:List Ev.Stat} (t:Tre l):∀ (ps:List (List Int)) (i:Nat) (out:List Past),(∀ p∈ps,∀ b∈p,0≤b∧b≤255)→b4 (b7 l) none out=true→b4 (b7 l) none (sU l i ps out)=true
 | [],_,_,_,h=>h
 | p :: r,i,out,hp,h=>by
   rw [sU]
   by_cases hi:5<i
   · rw [if_pos hi]; exact h
   · rw [if_neg hi]
     exact A3 t r _ _ (fun q hq=>hp q (aH _ hq)) (Gd t (nu t (mN t (hp p aC))) h)
theorem mQ {l:List Ev.Stat} (t:Tre l) {ps:List (List Int)} (hp:∀ p∈ps,∀ b∈p,0≤b∧b≤255):b4 (b7 l) none (mdM l ps)=true:=A3 t ps 0 [] hp rfl
theorem DS {l:List Ev.Stat} {ps:List Past} (h:b4 (b7 l) none ps=true):ps.length≤l.length∧∀ p∈ps,0≤p.state∧p.state<(l.length:Int)∧aM (knd l p.state.toNat)=true:=by
 obtain ⟨h1,_,h3⟩:=lU h
 have hin:∀ p∈ps,0≤p.state∧p.state<(l.length:Int)∧aM (knd l p.state.toNat)=true:=fun p hp=>by
  have h4:=h3 p hp
  unfold b7 at h4
  by_cases h0:(decide (p.state<0)||decide (p.state≥(l.length:Int)) || !aM (ETy.get .stat l p.state.toNat).kind)=true
  · rw [if_pos h0] at h4; cases h4
  · cases ha:decide (p.state<0) with
    | true=>rw [ha] at h0; exact absurd rfl h0
    | false =>
      cases hb:decide (p.state≥(l.length:Int)) with
      | true=>rw [ha,hb] at h0; exact absurd rfl h0
      | false =>
        rw [ha,hb] at h0
        have:=of_decide_eq_false ha
        have:=of_decide_eq_false hb
        exact ⟨by omega,by omega,by simpa using h0⟩
 refine ⟨?_,hin⟩
 have hm:(ps.map fun p:Past=>p.state).Pairwise (· < ·):=List.pairwise_map.2 h1
 have:=nA (n:=l.length) hm fun y hy=>by
  obtain ⟨p,hp,rfl⟩:=aT.1 hy
  have:=hin p hp
  exact ⟨this.1,this.2.1⟩
 rwa [aP] at this
/-! ### transitions -/
theorem G9 {l:List Ev.Stat} (t:Tre l) (j:Int):∀ (n:Nat) (k:Int),k<(l.length:Int)→0≤gA l j n k→∃ d:Nat,gA l j n k=(d:Int)∧d<l.length∧knd l d=2∧(d:Int)<j∧j<((endM l d:Nat):Int)∧(k=(d:Int)∨((d:Int)<k∧k<((endM l d:Nat):Int)))
 | 0,k,_,h=>by rw [gA] at h; omega
 | n + 1,k,hk,h=>by
   rw [gA] at h ⊢
   by_cases h0:k<0
   · rw [if_pos h0] at h; omega
   · rw [if_neg h0] at h ⊢
     obtain ⟨q,rfl⟩:=ax (show 0≤k by omega)
     have hq:q<l.length:=by omega
     by_cases hb:((ETy.get .stat l (q:Int).toNat).kind==2&&decide (j>(q:Int))&&decide (j<((endM l (q:Int).toNat:Nat):Int)))=true
     · rw [if_pos hb]
       rw [af,af,decide_eq_true_eq,decide_eq_true_eq,ai] at hb
       exact ⟨q,rfl,hq,eq_of_beq hb.1.1,by omega,hb.2,.inl rfl⟩
     · rw [if_neg hb] at h ⊢
       rw [ai] at h ⊢
       have hup:=kT l (ETy.get .stat l q).depth q
       rcases jG l q with ⟨e,_⟩ | ⟨p,e,hpq,_⟩
       · rw [e] at h
         cases n with
         | zero=>rw [gA] at h; omega
         | succ n=>rw [gA,if_pos (by omega)] at h; omega
       · rw [e] at h ⊢
         obtain ⟨d,h1,h2,h3,h4,h5,h6⟩:=G9 t j n (p:Int) (by omega) h
         refine ⟨d,h1,h2,h3,h4,h5,.inr ?_⟩
         have hk2:=(cV t.shp hq).1 e
         rcases h6 with h6 | h6
         · have:p=d:=by omega
           subst this; omega
         · have:=jx l h2 (q:=p) (by omega) (by omega)
           omega
theorem A6 {c:Chart} (v:Valid c) {i:Nat} (hi:i<c.trans.length) (hd:(ETy.get .tran c.trans i).dst≠[]):∃ tg d:Nat,ar c.states (ETy.get .tran c.trans i).dst=(tg:Int)∧tg<c.states.length∧dx c.states (ETy.get .tran c.trans i).src (ar c.states (ETy.get .tran c.trans i).dst)=(d:Int)∧d<c.states.length∧knd c.states d=2∧d<tg∧tg<endM c.states d ∧
 ((ETy.get .tran c.trans i).src=(d:Int)∨((d:Int)<(ETy.get .tran c.trans i).src∧(ETy.get .tran c.trans i).src<((endM c.states d:Nat):Int))):=by
 have t:=v.tre
 have hz:=(rE c i _ _).1 (v.trans i hi)
 have h0:=hz.2.2.2
 have hto:=JY v hi hd
 unfold eM at h0
 rw [if_pos (by simpa using hd),if_neg (by rw [decide_eq_false (by omega)]; decide)] at h0
 have hdm:0≤dx c.states (ETy.get .tran c.trans i).src (ar c.states (ETy.get .tran c.trans i).dst):=by
  by_cases h:decide (dx c.states (ETy.get .tran c.trans i).src (ar c.states (ETy.get .tran c.trans i).dst)<0)=true
  · rw [if_pos h] at h0; exact absurd h0 (by decide)
  · have:=of_decide_eq_false (b3 _ ▸ h); omega
 rcases kD c.states (ETy.get .tran c.trans i).dst with ⟨e,_⟩ | ⟨tg,e,hl,_⟩
 · omega
 · rw [e] at hdm ⊢
   unfold dx at hdm ⊢
   by_cases hh:(bW c.states (ETy.get .tran c.trans i).src&&bW c.states (tg:Int))=true
   · rw [if_pos hh] at hdm ⊢
     have hs:(ETy.get .tran c.trans i).src<(c.states.length:Int):=by
      have hb:=hz.1
      unfold fT at hb
      simp only [az,decide_eq_false_iff_not] at hb
      omega
     obtain ⟨d,h1,h2,h3,h4,h5,h6⟩:=G9 t _ _ _ hs hdm
     exact ⟨tg,d,rfl,hl,h1,h2,h3,by omega,by omega,h6⟩
   · rw [if_neg hh] at hdm; omega
end Go.Proofs.YtgfifkhbfdacjaaGreatDoor
namespace Go.Proofs.YtgfifkhbfdacjaaGreatDoor
open Go Go.Ev
set_option maxRecDepth 100000
def G1:Cfg:=⟨aW,[]⟩
theorem Gh:ag Tryz.prog G1.tab:=ag.nil
theorem LJ (p:Past) (t:Int):ah Tryz.prog 40 [.e .past p,.p (.ref .int t 0)] [] (.x (.b (p.state==t))) []:=by
 refine dg Gh Tryz.func40 (.ret (.p (.bool (Past.state p==t))) []) fun Γ=>⟨rfl,rfl⟩
def eE1:Ent:=(40,fun
 | [.agg [.pd (.int .i64 a),.pd (.lst .int b)],.c (.pd (.ref .int t 0))],[]=>some (none,.x (.c (.pd (.bool (a==t)))),[])
 | _,_=>none)
theorem NQ:EntOk Tryz.prog eE1:=entOk fun vs ck=>by
 unfold eE1; dsimp only; split
 · rename_i a b t; exact entS fun hp=>LJ ⟨a,b⟩ t
 · exact entN
def w9:Cfg:=⟨aW,[eE1]⟩
theorem uE:ag Tryz.prog w9.tab:=(ag.cons NQ ag.nil)
abbrev zEl1:List PI:=[.code [1,0,1,0,0],.inLoop [1,0,1,0,0],.inBlock 0,.code [1,1]]
variable (c:Chart) (t:Int) (l ps:List Past)
theorem JD (t:Int) (Γ:Ctx) (hl:l.length≤maxLen)  : ∀ (n k:Nat),l.length - k≤n→k≤l.length →
 J Tryz.prog 39 (av Tryz.f39) Γ (Eq2 (.x (.i (aE (fun p:Past=>p.state==t) (l.drop k) k))) []) zEl1 ({ n:=19,fr:=[(0,.p (.lst .past l)),(1,.x (.c (.fn (.func 40) [] [.pd (.ref .int t 0)]))),(4,.i 0),(7,.i l.length),(8,.i k)],ck:=[] }):=by
 intro n
 induction n with
 | zero=>?_
 | succ n ih=>?_
 all_goals
  intro k hn hk
  refine jg uE Tryz.func39 (.ite (decide ((k:Int)<(l.length:Int))) (.need (inRg k l.length) (.ite (Past.state (ETy.get .past l k)==t) (.ret (.i k) []) (.stop zEl1 { n:=19,fr:=[(0,.p (.lst .past l)),(1,.x (.c (.fn (.func 40) [] [.pd (.ref .int t 0)]))),(4,.i 0),(7,.i l.length),(8,.i (IntKind.wrap .i64 ((k:Int)+1)))],ck:=[] }))) (.ret (.i (-1:Int)) [])) ?_
  refine ⟨fun hlt=>?_,fun hge=>?_⟩
  · have hk':k<l.length:=by have:=of_decide_eq_true hlt; omega
    rw [br (t:=.past) (l:=l) hk']
    refine ⟨by omega,?_⟩
    generalize ETy.get .past l k=v
    refine ⟨fun hb=>⟨?_,rfl⟩,fun hb=>?_⟩
    · have hb':((v:Past).state==t)=true:=hb
      simp only [aE,hb',cond_true]
    · have hb':((v:Past).state==t)=false:=hb
      simp only [aE,hb',cond_false]; (rw [aU (aB hk' hl)]; first | (exfalso; omega) | exact ih (k+1) (by omega) (by omega))
  · rw [bE (l:=l) (by have:=of_decide_eq_false hge; omega)]
    exact ⟨rfl,rfl⟩
theorem IT (t:Int):ah Tryz.prog 39 [.l .past (l),SX.c (SC.fn (Fn.func 40) [] [RC.pd (PD.ref ETy.int t 0)])] [] (.x (.i (aE (fun p:Past=>p.state==t) l 0))) []:=by
 refine dg uE Tryz.func39 (.stop zEl1 { n:=19,fr:=[(0,.p (.lst .past l)),(1,.x (.c (.fn (.func 40) [] [.pd (.ref .int t 0)]))),(4,.i 0),(7,.i l.length),(8,.i 0)],ck:=[] }) fun Γ=>?_
 exact J.len 0 rfl fun hl=>JD l t Γ hl l.length 0 (by omega) (by omega)
def Dp:Ent:=(39,fun
 | [.c (.pd (.lst .past l)),.c (.fn (.func 40) [] [.pd (.ref .int t 0)])],[]=>some (none,.x (.c (.pd (.int .i64 (aE (fun p:Past=>p.state==t) l 0)))),[])
 | _,_=>none)
theorem Lz:EntOk Tryz.prog Dp:=entOk fun vs ck=>by
 unfold Dp; dsimp only; split
 · rename_i l t; exact entS fun hp=>IT l t
 · exact entN
def xx:Cfg:=⟨aW,[mE,ka,mJ,iY,Dp,sO]⟩
theorem uN:ag Tryz.prog xx.tab:=(ag.cons sg (ag.cons kh (ag.cons rH (ag.cons iT (ag.cons Lz (ag.cons xp ag.nil))))))
def fE:Bool:=decide (t<0)||decide (t≥(c.trans.length:Int))||(ETy.get .tran c.trans t.toNat).dst==[] || !(bF c==0&&b4 (b7 c.states) none ps)
def dn:List Int:=if fE c t ps=true then [] else fG c.states (ETy.get .tran c.trans t.toNat) ps
theorem mR (t:Int):∀ (ps:List Past) (k:Int),(aE (fun p:Past=>p.state==t) ps k = -1∧dH ps t=none)∨∃ j:Nat,j<ps.length∧aE (fun p:Past=>p.state==t) ps k=k+(j:Int)∧dH ps t=some (ETy.get .past ps j)
 | [],k=>.inl ⟨rfl,rfl⟩
 | p :: r,k=>by
   cases hb:p.state==t
   · have e1:dH (p::r) t=dH r t:=by unfold dH; rw [List.find?_cons,hb]
     have e2:aE (fun p:Past=>p.state==t) (p::r) k=aE (fun p:Past=>p.state==t) r (k+1):=by simp only [aE,hb,cond_false]
     rcases mR t r (k+1) with ⟨h1,h2⟩ | ⟨j,h1,h2,h3⟩
     · exact .inl ⟨by rw [e2,h1],by rw [e1,h2]⟩
     · exact .inr ⟨j+1,by simp; omega,by rw [e2,h2]; omega,by rw [e1,h3]; rfl⟩
   · have e1:dH (p::r) t=some p:=by unfold dH; rw [List.find?_cons,hb]
     exact .inr ⟨0,by simp,by simp only [aE,hb,cond_true]; omega,by rw [e1]; rfl⟩
theorem Cd {a b:Bool} (h:(a||b)=false):a=false∧b=false:=by rwa [az] at h
theorem KF {t:Int} {n:Nat} (h:(decide (t<0)||decide (t≥(n:Int)))=false):0≤t∧t<(n:Int):=by
 have h1:=Cd h
 have:=of_decide_eq_false h1.1
 have:=of_decide_eq_false h1.2
 omega
theorem MI (hz:c.vars.length≤2199023255552∧c.states.length≤2199023255552) (h:fE c t ps=true):ah Tryz.prog 15 [.e .chart c,.i t,.l .past ps] [] (.x (.c (.pd (.v (.slice none 0 0))))) []:=by
 refine dg uN Tryz.func15 (let x1:=(ETy.get .tran c.trans (Int.toNat t)); let x3:=(ar c.states (Tran.dst x1)); let x2:=(Tre c.states∧(0:Int)≤dx c.states (Tran.src x1) x3∧dx c.states (Tran.src x1) x3<(c.states.length:Int)); let x4:=((0:Int)≤ar c.states (Tran.dst x1)∧ar c.states (Tran.dst x1)<(c.states.length:Int)); let x5:=(c.trans.length:Int); let x6:=((dx c.states (Tran.src x1) x3).toNat); let x7:=[ar c.states (Tran.dst x1)]; let x8:=(ETy.get .stat c.states (x3.toNat)); .need ((decide (t<(0:Int))||decide (t≥x5))=false→(0:Int)≤t∧t<x5) (.need ((decide (t<(0:Int))||decide (t≥x5)||Tran.dst x1==[])=false→c.vars.length≤2199023255552∧c.states.length≤2199023255552) (.ite (decide (t<(0:Int))||decide (t≥x5)||Tran.dst x1==[] || !(bF c==(0:Int)&&b4 (b7 c.states) none ps)) (.ret (.p (.v (Value.slice none 0 0))) []) (.need ((0:Int)≤t∧t<x5) (.need ((0:Int)≤t∧t<x5) (.need (c.states.length≤maxLen) (.need x4 (.ite (aM (Stat.kind x8)) (.need x4 (.need ((0:Int)≤0∧(0:Int)<(↑(List.length x7):Int)) (.need (0<List.length x7) (.ite (decide (aE (fun p=>Past.state p==ar c.states (Tran.dst x1)) ps (0:Int)≥0)) (.need ((0:Int)≤aE (fun p=>Past.state p==ar c.states (Tran.dst x1)) ps (0:Int)∧aE (fun p=>Past.state p==ar c.states (Tran.dst x1)) ps (0:Int)<(ps.length:Int)) (.need x2 (.ret (.p (.lst .int (dnM c.states (Past.set (ETy.get .past ps ((aE (fun p=>Past.state p==ar c.states (Tran.dst x1)) ps (0:Int)).toNat))) x6))) []))) (.need x2 (.ret (.p (.lst .int (dnM c.states [ar c.states (Stat.initial x8)] x6))) [])))))) (.need x2 (.ret (.p (.lst .int (dnM c.states x7 x6))) [])))))))))) fun Γ=>?_
 conv=>zeta
 refine ⟨fun h1=>KF h1,fun _=>hz,fun _=>⟨rfl,rfl⟩,fun h1=>?_⟩
 have h1':fE c t ps=false:=h1
 rw [h] at h1'; cases h1'
theorem N3 (hz:c.vars.length≤2199023255552∧c.states.length≤2199023255552) (h:fE c t ps=false):ah Tryz.prog 15 [.e .chart c,.i t,.l .past ps] [] (.x (.c (.pd (.lst .int (fG c.states (ETy.get .tran c.trans t.toNat) ps))))) []:=by
 have h0:=h
 unfold fE at h0
 have h1:=Cd h0
 have h2:=Cd h1.1
 have hin:=KF h2.1
 have h3:(bF c==0&&b4 (b7 c.states) none ps)=true:=by simpa using h1.2
 rw [af] at h3
 have v:=(iR c).1 (eq_of_beq h3.1)
 have hst:=(mM c).1 v.few
 have hmc:c.states.length≤maxLen:=by unfold maxLen; omega
 have hi:t.toNat<c.trans.length:=by omega
 obtain ⟨tg,d,e1,e2,e3,e4,_⟩:=A6 v hi (by intro e; rw [e] at h2; exact absurd h2.2 (by decide))
 refine dg uN Tryz.func15 (let x1:=(ETy.get .tran c.trans (Int.toNat t)); let x3:=(ar c.states (Tran.dst x1)); let x2:=(Tre c.states∧(0:Int)≤dx c.states (Tran.src x1) x3∧dx c.states (Tran.src x1) x3<(c.states.length:Int)); let x4:=((0:Int)≤ar c.states (Tran.dst x1)∧ar c.states (Tran.dst x1)<(c.states.length:Int)); let x5:=(c.trans.length:Int); let x6:=((dx c.states (Tran.src x1) x3).toNat); let x7:=[ar c.states (Tran.dst x1)]; let x8:=(ETy.get .stat c.states (x3.toNat)); .need ((decide (t<(0:Int))||decide (t≥x5))=false→(0:Int)≤t∧t<x5) (.need ((decide (t<(0:Int))||decide (t≥x5)||Tran.dst x1==[])=false→c.vars.length≤2199023255552∧c.states.length≤2199023255552) (.ite (decide (t<(0:Int))||decide (t≥x5)||Tran.dst x1==[] || !(bF c==(0:Int)&&b4 (b7 c.states) none ps)) (.ret (.p (.v (Value.slice none 0 0))) []) (.need ((0:Int)≤t∧t<x5) (.need ((0:Int)≤t∧t<x5) (.need (c.states.length≤maxLen) (.need x4 (.ite (aM (Stat.kind x8)) (.need x4 (.need ((0:Int)≤0∧(0:Int)<(↑(List.length x7):Int)) (.need (0<List.length x7) (.ite (decide (aE (fun p=>Past.state p==ar c.states (Tran.dst x1)) ps (0:Int)≥0)) (.need ((0:Int)≤aE (fun p=>Past.state p==ar c.states (Tran.dst x1)) ps (0:Int)∧aE (fun p=>Past.state p==ar c.states (Tran.dst x1)) ps (0:Int)<(ps.length:Int)) (.need x2 (.ret (.p (.lst .int (dnM c.states (Past.set (ETy.get .past ps ((aE (fun p=>Past.state p==ar c.states (Tran.dst x1)) ps (0:Int)).toNat))) x6))) []))) (.need x2 (.ret (.p (.lst .int (dnM c.states [ar c.states (Stat.initial x8)] x6))) [])))))) (.need x2 (.ret (.p (.lst .int (dnM c.states x7 x6))) [])))))))))) fun Γ=>?_
 conv=>zeta
 unfold fG jS
 rw [e3,e1,h2.2,if_neg (by decide),ai,ai]
 refine ⟨fun _=>hin,fun _=>hz,fun h5=>?_,fun _=>⟨hin,hin,hmc,⟨by omega,by omega⟩,fun hp=>?_,fun hp=>?_⟩⟩
 · exfalso
   have h5':(decide (t<0)||decide (t≥(c.trans.length:Int))||false || !(bF c==0&&b4 (b7 c.states) none ps))=true:=h5
   rw [← h2.2,h0] at h5'; cases h5'
 · rw [if_pos (by exact hp)]
   refine ⟨⟨by omega,by omega⟩,⟨by omega,Int.one_pos⟩,Nat.one_pos,fun hf=>?_,fun hf=>?_⟩
   · rcases mR (tg:Int) ps 0 with ⟨f1,f2⟩ | ⟨j,f1,f2,f3⟩
     · rw [f1] at hf; exact absurd hf (by decide)
     · rw [f2,f3,Int.zero_add,ai]
       exact ⟨⟨by omega,by omega⟩,⟨v.tre,by omega,by omega⟩,rfl,rfl⟩
   · rcases mR (tg:Int) ps 0 with ⟨f1,f2⟩ | ⟨j,f1,f2,f3⟩
     · rw [f2]
       exact ⟨⟨v.tre,by omega,by omega⟩,rfl,rfl⟩
     · rw [f2] at hf
       exact absurd (of_decide_eq_false hf) (by omega)
 · rw [if_neg (by rw [show aM (ETy.get .stat c.states tg).kind=false from hp]; decide)]
   exact ⟨⟨v.tre,by omega,by omega⟩,rfl,rfl⟩
theorem wD (hz:c.vars.length≤2199023255552∧c.states.length≤2199023255552):ah Tryz.prog 15 [.e .chart c,.i t,.l .past ps] [] (.x (.c (.pd (.lst .int (dn c t ps))))) []:=by
 unfold dn
 by_cases h:fE c t ps=true
 · rw [if_pos h]
   exact ah.ret (MI c t ps hz h) fun V v hv=>lF hv
 · rw [if_neg h]
   exact N3 c t ps hz (Bool.eq_false_iff.2 h)
def pN:Ent:=(15,fun
 | [.agg [.pd (.str a),.pd (.lst .str b),.pd (.lst .var c),.pd (.lst .stat d),.pd (.lst .tran e)],.c (.pd (.int .i64 t)),.c (.pd (.lst .past ps))],[]=>some (some (c.length≤2199023255552∧d.length≤2199023255552),.x (.c (.pd (.lst .int (dn ⟨a,b,c,d,e⟩ t ps)))),[])
 | _,_=>none)
theorem B4:EntOk Tryz.prog pN:=entOk fun vs ck=>by
 unfold pN; dsimp only; split
 · rename_i a b c d e t ps; exact entS fun hp=>wD ⟨a,b,c,d,e⟩ t ps hp
 · exact entN
end Go.Proofs.YtgfifkhbfdacjaaGreatDoor
namespace Go.Proofs.YtgfifkhbfdacjaaGreatDoor
open Go Go.Ev
set_option maxRecDepth 100000
theorem xK {V:Vn} {a:Str} {b:List Str} {d:List Ev.Stat} {e:List Tran} {u:Value} (h:SX.R V (.agg [.pd (.str a),.pd (.lst .str b),.pd (.v (.slice none 0 0)),.pd (.lst .stat d),.pd (.lst .tran e)]) u):SX.R V (.e .chart ⟨a,b,[],d,e⟩) u:=by
 obtain ⟨us,e,hu⟩:=h
 refine ⟨us,e,?_⟩
 cases hu with | cons h0 hu=>cases hu with | cons h1 hu=>cases hu with | cons h2 hu=>cases hu with | cons h3 hu=>cases hu with | cons h4 hu =>
  cases hu
  exact .cons h0 (.cons h1 (.cons (lF h2) (.cons h3 (.cons h4 .nil))))
variable (a:Str) (b:List Str) (d:List Ev.Stat) (e:List Tran) (ps:List Past)
theorem B8 (l left:List Int) (h:d.length≤2199023255552):ah Tryz.prog 18 [.agg [.pd (.str a),.pd (.lst .str b),.pd (.v (.slice none 0 0)),.pd (.lst .stat d),.pd (.lst .tran e)],.l .int l,.l .int left,.l .past []] [] (.x (.c (.pd (.lst .past (qL ⟨a,b,[],d,e⟩ l left))))) [] :=
 ah.sub (fun V vs hv=>by
  cases hv with | cons h1 hv=>exact .cons (xK h1) hv) (EP ⟨a,b,[],d,e⟩ l left ⟨by simp,h⟩)
def sd:Ent:=(18,fun
 | [.agg [.pd (.str a),.pd (.lst .str b),.pd (.v (.slice none 0 0)),.pd (.lst .stat d),.pd (.lst .tran e)],.c (.pd (.lst .int l)),.c (.pd (.lst .int left)),.c (.pd (.lst .past []))],[]=>some (some (d.length≤2199023255552∧qL ⟨a,b,[],d,e⟩ l left=[⟨5,[4]⟩]),.x (.c (.pd (.lst .past [⟨5,[4]⟩]))),[])
 | _,_=>none)
theorem EU:EntOk Tryz.prog sd:=entOk fun vs ck=>by
 unfold sd; dsimp only; split
 · rename_i a b d e l left; exact entS fun hp=>by rw [← hp.2]; exact B8 a b d e l left hp.1
 · exact entN
theorem uJ (t:Int) (ps:List Past) (h:d.length≤2199023255552):ah Tryz.prog 15 [.agg [.pd (.str a),.pd (.lst .str b),.pd (.v (.slice none 0 0)),.pd (.lst .stat d),.pd (.lst .tran e)],.i t,.l .past ps] [] (.x (.c (.pd (.lst .int (dn ⟨a,b,[],d,e⟩ t ps))))) [] :=
 ah.sub (fun V vs hv=>by
  cases hv with | cons h1 hv=>exact .cons (xK h1) hv) (wD ⟨a,b,[],d,e⟩ t ps ⟨by simp,h⟩)
def sk:Ent:=(15,fun
 | [.agg [.pd (.str a),.pd (.lst .str b),.pd (.v (.slice none 0 0)),.pd (.lst .stat d),.pd (.lst .tran e)],.c (.pd (.int .i64 t)),.c (.pd (.lst .past (p::q)))],[]=>some (some (d.length≤2199023255552∧dn ⟨a,b,[],d,e⟩ t (p::q)=[2,4]),.x (.c (.pd (.lst .int [2,4]))),[])
 | _,_=>none)
theorem GF:EntOk Tryz.prog sk:=entOk fun vs ck=>by
 unfold sk; dsimp only; split
 · rename_i a b d e t p q; exact entS fun hp=>by rw [← hp.2]; exact uJ a b d e t (p::q) hp.1
 · exact entN
def qZ:Ent:=(15,fun
 | [.agg [.pd (.str a),.pd (.lst .str b),.pd (.v (.slice none 0 0)),.pd (.lst .stat d),.pd (.lst .tran e)],.c (.pd (.int .i64 t)),.c (.pd (.lst .past []))],[]=>some (some (d.length≤2199023255552∧dn ⟨a,b,[],d,e⟩ t []=[1]),.x (.c (.pd (.lst .int [1]))),[])
 | _,_=>none)
theorem Fz:EntOk Tryz.prog qZ:=entOk fun vs ck=>by
 unfold qZ; dsimp only; split
 · rename_i a b d e t; exact entS fun hp=>by rw [← hp.2]; exact uJ a b d e t [] hp.1
 · exact entN
def Oc:Cfg:=⟨aW,[wv,sd,sk,qZ,n5]⟩
theorem Hc:ag Tryz.prog Oc.tab:=(ag.cons Hi (ag.cons EU (ag.cons GF (ag.cons Fz (ag.cons uM ag.nil)))))
def exC:Chart:=⟨[99],[[103,111]],[],[⟨[114],2,0,[97],[],[]⟩,⟨[97],1,1,[],[],[]⟩,⟨[98],2,1,[99],[],[]⟩,⟨[99],1,2,[],[],[]⟩,⟨[100],1,2,[],[],[]⟩,⟨[104],6,1,[97],[],[]⟩],[⟨1,[103,111],[],[104],[]⟩]⟩
theorem yk:bF exC=0:=by
 refine (iR _).2 ⟨by decide,by decide,by decide,by decide,by decide,by decide,fun k hk=>?_,fun k hk=>absurd hk (Nat.not_lt_zero _),fun k hk=>?_,fun k hk=>?_⟩
 · have hk':k<6:=hk
   rcases (show k=0∨k=1∨k=2∨k=3∨k=4∨k=5 by omega) with rfl | rfl | rfl | rfl | rfl | rfl <;> decide
 · have hk':k<6:=hk
   rcases (show k=0∨k=1∨k=2∨k=3∨k=4∨k=5 by omega) with rfl | rfl | rfl | rfl | rfl | rfl <;> decide
 · have hk':k<1:=hk
   have:k=0:=by omega
   subst this; decide
theorem NG:qL exC [0,2,4] [0,2,4]=[⟨5,[4]⟩]:=by
 have e:(bF exC==0&&dP exC.states [0,2,4])=true:=by rw [yk]; kernel_rfl
 have e2:Co exC.states [0,2,4] [0,2,4]=[⟨5,[4]⟩]:=by kernel_rfl
 unfold qL
 rw [e,if_pos rfl]
 exact e2
theorem KD (r:List Int) (h1:b4 (b7 exC.states) none ps=true) (h2:fG exC.states (ETy.get .tran exC.trans 0) ps=r):dn exC 0 ps=r:=by
 have e:fE exC 0 ps=false:=by
  unfold fE
  rw [yk,h1]; kernel_rfl
 unfold dn
 rw [e,if_neg (by decide)]
 exact h2
theorem DF:ah Tryz.prog 9 [] [] (.x (.b true)) []:=by
 refine ah.of Tryz.func9 (by kernel_rfl) (by kernel_rfl) fun Γ=>?_
 refine (kY (a:=[]) (fn:=Tryz.f9) (fz:=999) Hc Tryz.func9 20 (ps:=[6≤2199023255552∧dn exC 0 []=[1],6≤2199023255552∧dn exC 0 [⟨5,[4]⟩]=[2,4],true=true→(0:Int)≤0∧(0:Int)<(1:Nat),6≤2199023255552∧qL exC [0,2,4] [0,2,4]=[⟨5,[4]⟩],exW=exW]) (by kernel_rfl) ?_ ⟨rfl,rfl⟩).1
 exact ⟨⟨by decide,KD _ _ (by kernel_rfl) (by kernel_rfl)⟩,⟨by decide,KD _ _ (by kernel_rfl) (by kernel_rfl)⟩,fun _=>⟨by decide,by decide⟩,⟨by decide,NG⟩,rfl,trivial⟩
def sj:Ent:=(9,fun
 | [],[]=>some (none,.x (.c (.pd (.bool true))),[])
 | _,_=>none)
theorem Fb:EntOk Tryz.prog sj:=entOk fun vs ck=>by
 unfold sj; dsimp only; split
 · exact entS fun hp=>DF
 · exact entN
end Go.Proofs.YtgfifkhbfdacjaaGreatDoor

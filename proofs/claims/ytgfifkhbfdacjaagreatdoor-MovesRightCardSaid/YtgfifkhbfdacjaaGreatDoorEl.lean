/- Contracts: moves.Record on an empty list. Conditions: sizes. What a transition leaves and enters; what is made by choices (plain). Conditions: a valid chart. Contracts: moves.Enter. Conditions: sizes. -/
import Derived.Test.YtgfifkhbfdacjaaGreatDoorEi
import Derived.Test.YtgfifkhbfdacjaaGreatDoorEh
import Derived.Test.YtgfifkhbfdacjaaGreatDoorLx
import Derived.Test.YtgfifkhbfdacjaaGreatDoorEa
import Derived.Test.YtgfifkhbfdacjaaGreatDoorCr
import Derived.Test.YtgfifkhbfdacjaaGreatDoorNh
namespace Go.Proofs.YtgfifkhbfdacjaaGreatDoor
open Go Go.Ev
set_option maxRecDepth 100000
def wS:Cfg:=⟨aX,[]⟩
theorem uf:ag Tryz.prog wS.tab:=ag.nil
theorem Fj:ah Tryz.prog 46 [.l .past []] [] (.x (.c (.pd (.v (.slice none 0 0))))) []:=by
 refine dg uf Tryz.func46 (.stop [.code [1,1,0,1,0,0],.inLoop [1,1,0,1,0,0],.inBlock 0,.code [1,1,1]] { n:=23,fr:=[(2,.p (.v (Value.slice none 0 0))),(3,.p (.v (Value.slice none 0 0))),(6,.p (.lst .past [])),(7,.i (↑(0:Nat):Int)),(8,.i 0)],ck:=[] }) fun Γ=>?_
 refine jg uf Tryz.func46 (.ite false (.need ((0:Int)≤0∧(0:Int)<(↑(0:Nat):Int)) (.stop [.code [1,1,0,1,0,0,1,1,0,0,1],.inBlock 1,.code [1,1,0,1,0,0,1,1,1],.inLoop [1,1,0,1,0,0],.inBlock 0,.code [1,1,1]] { n:=23,fr:=[(2,.p (.v (Value.slice none 0 0))),(3,.p (.v (Value.slice none 0 0))),(6,.p (.lst .past [])),(7,.i (↑(0:Nat):Int)),(8,.i 0),(5,.x (.c (.loc 0 0)))],ck:=[.cells [.i (Past.state { state:=(0:Int),set:=[] }),.pd (.lst .int [])] 40] })) (.ret (.p (.v (Value.slice none 0 0))) [])) ?_
 exact ⟨fun h=>absurd h (by decide),fun _=>⟨rfl,rfl⟩⟩
def wc:Ent:=(46,fun
 | [.c (.pd (.lst .past []))],[]=>some (none,.x (.c (.pd (.v (.slice none 0 0)))),[])
 | _,_=>none)
theorem IF:EntOk Tryz.prog wc:=entOk fun vs ck=>by
 unfold wc; dsimp only; split
 · exact entS fun hp=>Fj
 · exact entN
def yx:Cfg:=⟨aX,[kS,pe,wc]⟩
theorem u9:ag Tryz.prog yx.tab:=(ag.cons mX (ag.cons Cv (ag.cons IF ag.nil)))
def wY:Cfg:=⟨aX,[jb,jH,tw,n1,mE,eBs,wg]⟩
theorem uk:ag Tryz.prog wY.tab:=(ag.cons iV (ag.cons kG (ag.cons tv (ag.cons uu (ag.cons rm (ag.cons N0 (ag.cons Jq ag.nil)))))))
variable (l:List Ev.Stat) (s:List Int) (c:Chart) (left:List Int) (i:Nat) (u:Int) (n:Nat)
def oI (i:Nat) (k:Int):Bool:=(ETy.get .stat l i).kind==5&&bk l k==u||(ETy.get .stat l i).kind==6&&eD l k&&gx l u k
def ln:Option Past:=if (aM (ETy.get .stat l i).kind&&(inB left (bk l (i:Int))&&inB s (bk l (i:Int))))=true then some ⟨(i:Int),s.filter (oI l (bk l (i:Int)) i)⟩ else none
def Cb:List Past:=(List.range l.length).filterMap (ln l s left)
def qy (l left:List Int):List Past:=if (bx c==0&&dL c.states l)=true then Cb c.states l left else []
def qx:List Past:=(List.range n).filterMap (ln l s left)
theorem GG:qx l s left (n+1)=qx l s left n++(match ln l s left n with | some p=>[p] | none=>[]):=by
 unfold qx
 rw [dC,List.filterMap_append]
 cases h:ln l s left n <;> simp [h]
theorem Ik:(qx l s left n).length≤n:=by
 unfold qx
 exact av (List.length_filterMap_le _ _) (by simp)
theorem Mz:∀ p∈qx l s left n,0≤p.state∧p.state<(n:Int):=by
 intro p hp
 obtain ⟨i,hi,h⟩:=eT.1 hp
 unfold ln at h
 by_cases hb:(aM (ETy.get .stat l i).kind&&(inB left (bk l (i:Int))&&inB s (bk l (i:Int))))=true
 · rw [if_pos hb] at h
   simp only [aa] at h
   subst h
   have:=br.1 hi
   exact ⟨Int.natCast_nonneg i,Int.ofNat_lt.2 this⟩
 · rw [if_neg hb] at h; cases h
abbrev zEo1 (a:Chart):Chunk:=.cells [.pd (.str a.name),.pd (.lst .str a.events),.pd (.lst .var a.vars),.pd (.lst .stat a.states),.pd (.lst .tran a.trans)] 27
abbrev zEo2:List PI:=[.code [1,1,1,0,1,0,0],.inLoop [1,1,1,0,1,0,0],.inBlock 0,.code [1,1,1,1]]
theorem EH (l left:List Int) (out:List Past) (i:Nat) (u:Int) (Γ:Ctx) (Q:Out) (hi:i<c.states.length) (hl:l.length≤1000∧∀ y∈l,0≤y∧y<(c.states.length:Int)) (hm:c.states.length≤1000) (ho:out.length≤1000) (hos:∀ p∈out,0≤p.state∧p.state<(i:Int))
 (hcont:J Tryz.prog 18 (au Tryz.f18) Γ Q zEo2 ({ n:=117,fr:=[(1,.p (.lst .int l)),(2,.p (.lst .int left)),(4,.x (.c (.loc 0 0))),(8,.p (.v (Value.slice none 0 0))),(9,.x (.c (.own 1))),(31,.p (.lst .stat c.states)),(32,.i c.states.length),(33,.i ((IntKind.wrap .i64 ((i:Int)+1))))],ck:=[zEo1 c,.own 40 .past (out++[⟨(i:Int),l.filter (oI c.states u i)⟩])] })):∀ (n k:Nat),l.length - k≤n→k≤l.length→∀ set,set=(l.take k).filter (oI c.states u i) →
 J Tryz.prog 18 (au Tryz.f18) Γ Q [.code [1,1,1,0,1,0,0,1,1,0,0,1,1,1,1,1,0,1,0,0],.inLoop [1,1,1,0,1,0,0,1,1,0,0,1,1,1,1,1,0,1,0,0],.inBlock 2,.code [1,1,1,0,1,0,0,1,1,0,0,1,1,1,1,1,1],.inBlock 1,.code [1,1,1,0,1,0,0,1,1,1],.inLoop [1,1,1,0,1,0,0],.inBlock 0,.code [1,1,1,1]] ({ n:=117,fr:=[(1,.p (.lst .int l)),(2,.p (.lst .int left)),(4,.x (.c (.loc 0 0))),(8,.p (.v (Value.slice none 0 0))),(9,.x (.c (.own 1))),(31,.p (.lst .stat c.states)),(32,.i c.states.length),(33,.i i),(11,.x (.c (.loc 2 0))),(10,.i i),(12,.i u),(13,.x (.c (.loc 3 0))),(58,.p (.lst .int l)),(59,.i l.length),(60,.i ((k:Int)))],ck:=[zEo1 c,.own 40 .past out,.cells [.pd (.str (ETy.get .stat c.states i).name),SC.i (ETy.get .stat c.states i).kind,SC.i (ETy.get .stat c.states i).depth,.pd (.str (ETy.get .stat c.states i).initial),.pd (.lst .deed (ETy.get .stat c.states i).entry),.pd (.lst .deed (ETy.get .stat c.states i).leave)] 56,.cells [SC.i i,.own 4] 40,.own 3 .int set] }):=by
 have hml:l.length≤maxLen:=by unfold maxLen; omega
 have hmc:c.states.length≤maxLen:=by unfold maxLen; omega
 intro n
 induction n with
 | zero=>?_
 | succ n ih=>?_
 all_goals
  intro k hn hk set hs
  refine jg uk Tryz.func18 (let x1:=(ETy.get .stat c.states i); let x8:Nat×SV:=(2,.p (.lst .int left)); let x10:Nat×SV:=(4,.x (.c (.loc 0 0))); let x5:Nat×SV:=(8,.p (.v (Value.slice none 0 0))); let x7:Nat×SV:=(31,.p (.lst .stat c.states)); let x9:Nat×SV:=(32,.i c.states.length); let x2:List (Nat×SV):=[(1,.p (.lst .int l)),x8,x10,x5,(9,.x (.c (.own 1))),x7,x9,(33,.i i),(11,.x (.c (.loc 2 0))),(10,.i i),(12,.i u),(13,.x (.c (.loc 3 0))),(58,.p (.lst .int l)),(59,.i l.length),(60,.i (IntKind.wrap .i64 ((k:Int)+1)))]; let x6:List Nat:=[1,1,1,0,1,0,0,1,1,0,0,1,1,1,1,1,0,1,0,0]; let x3:List PI:=[.code x6,.inLoop x6,.inBlock 2,.code [1,1,1,0,1,0,0,1,1,0,0,1,1,1,1,1,1],.inBlock 1,.code [1,1,1,0,1,0,0,1,1,1],.inLoop [1,1,1,0,1,0,0],.inBlock 0,.code [1,1,1,1]]; let x4:=(Stat.kind x1==(5:Int)&&bk c.states (ETy.get .int l k)==u); .ite (decide ((k:Int)<(l.length:Int))) (.need (inRg k l.length) (.need ((Stat.kind x1==(5:Int))=true→c.states.length≤maxLen) (.need (x4=false∧(Stat.kind x1==(6:Int))=true→(0:Int)≤ETy.get .int l k∧ETy.get .int l k<(c.states.length:Int)) (.need (x4=false∧(Stat.kind x1==(6:Int)&&eD c.states (ETy.get .int l k))=true→c.states.length≤maxLen) (.ite (Stat.kind x1==(5:Int)&&bk c.states (ETy.get .int l k)==u||Stat.kind x1==(6:Int)&&eD c.states (ETy.get .int l k)&&gx c.states u (ETy.get .int l k)) (.need (room ((set++[ETy.get .int l k]).length) 8) (.stop x3 { n:=117,fr:=x2,ck:=[zEo1 c,.own 40 .past out,.cells [.pd (.str (Stat.name x1)),.i (Stat.kind x1),.i (Stat.depth x1),.pd (.str (Stat.initial x1)),.pd (.lst .deed (Stat.entry x1)),.pd (.lst .deed (Stat.leave x1))] 56,.cells [.i i,.own 4] 40,.own 3 .int (set++[ETy.get .int l k])] })) (.stop x3 { n:=117,fr:=x2,ck:=[zEo1 c,.own 40 .past out,.cells [.pd (.str (Stat.name x1)),.i (Stat.kind x1),.i (Stat.depth x1),.pd (.str (Stat.initial x1)),.pd (.lst .deed (Stat.entry x1)),.pd (.lst .deed (Stat.leave x1))] 56,.cells [.i i,.own 4] 40,.own 3 .int set] })))))) (.need (out.length≤1000∧((0:Int)≤(i:Int)∧(i:Int)≤1000)∧∀ (p:ETy.den .past),p∈out→(0:Int)≤Past.state p∧Past.state p<(i:Int)) (.ite false (.need (inRg out.length out.length) (.stop [.ops [1,1,1,0,1,0,0,1,1,0,0,1,1,1,1,1,1,1,1,0] 4,.inBlock 1,.code [1,1,1,0,1,0,0,1,1,1],.inLoop [1,1,1,0,1,0,0],.inBlock 0,.code [1,1,1,1]] { n:=117,fr:=[(1,.p (.lst .int l)),x8,x10,x5,(9,.x (.c (.own 1))),x7,x9,(33,.i i),(108,.x (.agg [.i i,.own 2])),(109,.x (.c (.oat 1 out.length 2 0)))],ck:=[zEo1 c,.own 40 .past out,.own 3 .int set] })) (.need (40=(40:TypeId)∧40=(40:TypeId)∧(out.length:Int)=(out.length:Int)∧room (out.length+1) 32) (.stop zEo2 { n:=117,fr:=[(1,.p (.lst .int l)),x8,x10,x5,(9,.x (.c (.own 1))),x7,x9,(33,.i (IntKind.wrap .i64 ((i:Int)+1)))],ck:=[zEo1 c,.own 40 .past (out++[{ state:=(i:Int),set:=set }])] }))))) ?_
  conv=>zeta
  refine ⟨fun hlt=>?_,fun hge=>?_⟩
  · have hk':k<l.length:=by have:=of_decide_eq_true hlt; omega
    have hy:=hl.2 (ETy.get .int l k) (by rw [ETy.get_eq (t:=.int) (List.getElem?_eq_getElem hk')]; exact bf hk')
    have ht:=iw l (oI c.states u i) hk'
    have hsl:set.length≤1000:=by
     rw [hs]
     have:=a7 (oI c.states u i) (l.take k)
     have:=List.length_take_le k l
     omega
    refine ⟨⟨by omega,by omega⟩,fun _=>hmc,fun _=>⟨hy.1,hy.2⟩,fun _=>hmc,fun hb=>?_,fun hb=>?_⟩
    · have hb':oI c.states u i (ETy.get .int l k)=true:=hb
      rw [hb',if_pos rfl,← hs] at ht
      refine ⟨room_le (by rw [an,dc]; omega) (by omega),?_⟩
      rw [aU (aB hk' hml)]
      first
      | (exfalso; omega)
      | exact ih (k+1) (by omega) (by omega) _ ht.symm
    · have hb':oI c.states u i (ETy.get .int l k)=false:=hb
      rw [hb',if_neg (by decide),aF,← hs] at ht
      rw [aU (aB hk' hml)]
      first
      | (exfalso; omega)
      | exact ih (k+1) (by omega) (by omega) _ ht.symm
  · have e:l.take k=l:=aQ (by have:=of_decide_eq_false hge; omega)
    rw [e] at hs
    subst hs
    exact ⟨⟨ho,⟨by omega,by omega⟩,hos⟩,fun h=>(by cases h),fun _=>⟨⟨rfl,rfl,rfl,room_le (by omega) (by omega)⟩,hcont⟩⟩
theorem Ib (l left:List Int) (Γ:Ctx) (hl:l.length≤1000∧∀ y∈l,0≤y∧y<(c.states.length:Int)) (hm:c.states.length≤1000):∀ (n i:Nat),c.states.length - i≤n→i≤c.states.length→∀ out,out=qx c.states l left i →
 J Tryz.prog 18 (au Tryz.f18) Γ (Eq2 (.x (.c (.own 0))) [.own 40 .past (Cb c.states l left)]) zEo2 ({ n:=117,fr:=[(1,.p (.lst .int l)),(2,.p (.lst .int left)),(4,.x (.c (.loc 0 0))),(8,.p (.v (Value.slice none 0 0))),(9,.x (.c (.own 1))),(31,.p (.lst .stat c.states)),(32,.i c.states.length),(33,.i ((i:Int)))],ck:=[zEo1 c,.own 40 .past out] }):=by
 have hmc:c.states.length≤maxLen:=by unfold maxLen; omega
 intro n
 induction n with
 | zero=>?_
 | succ n ih=>?_
 all_goals
  intro i hn hi out ho
  have hol:out.length≤i:=by rw [ho]; exact Ik _ _ _ _
  have hos:∀ p∈out,0≤p.state∧p.state<(i:Int):=by rw [ho]; exact Mz _ _ _ _
  have ht:=GG c.states l left i
  rw [← ho] at ht
  refine jg uk Tryz.func18 (let x5:=(Value.slice none 0 0); let x1:Tree:=(.stop zEo2 { n:=117,fr:=[(1,.p (.lst .int l)),(2,.p (.lst .int left)),(4,.x (.c (.loc 0 0))),(8,.p (.v x5)),(9,.x (.c (.own 1))),(31,.p (.lst .stat c.states)),(32,.i c.states.length),(33,.i (IntKind.wrap .i64 ((i:Int)+1)))],ck:=[zEo1 c,.own 40 .past out] }); let x2:=(ETy.get .stat c.states i); let x3:=(bk c.states (i:Int)); let x4:List Nat:=[1,1,1,0,1,0,0,1,1,0,0,1,1,1,1,1,0,1,0,0]; .ite (decide ((i:Int)<(c.states.length:Int))) (.need (inRg i c.states.length) (.ite (!aM (Stat.kind x2)) x1 (.need (c.states.length≤maxLen) (.ite (!inB left x3 || !inB l x3) x1 (.stop [.code x4,.inLoop x4,.inBlock 2,.code [1,1,1,0,1,0,0,1,1,0,0,1,1,1,1,1,1],.inBlock 1,.code [1,1,1,0,1,0,0,1,1,1],.inLoop [1,1,1,0,1,0,0],.inBlock 0,.code [1,1,1,1]] { n:=117,fr:=[(1,.p (.lst .int l)),(2,.p (.lst .int left)),(4,.x (.c (.loc 0 0))),(8,.p (.v x5)),(9,.x (.c (.own 1))),(31,.p (.lst .stat c.states)),(32,.i c.states.length),(33,.i i),(11,.x (.c (.loc 2 0))),(10,.i i),(12,.i x3),(13,.x (.c (.loc 3 0))),(58,.p (.lst .int l)),(59,.i l.length),(60,.i 0)],ck:=[zEo1 c,.own 40 .past out,.cells [.pd (.str (Stat.name x2)),.i (Stat.kind x2),.i (Stat.depth x2),.pd (.str (Stat.initial x2)),.pd (.lst .deed (Stat.entry x2)),.pd (.lst .deed (Stat.leave x2))] 56,.cells [.i i,.pd (.v x5)] 40] }))))) (.ret (.x (.c (.own 0))) [.own 40 .past out])) ?_
  conv=>zeta
  refine ⟨fun hlt=>?_,fun hge=>?_⟩
  · have hi':i<c.states.length:=by have:=of_decide_eq_true hlt; omega
    have hw:IntKind.wrap .i64 ((i:Int)+1)=((i+1:Nat):Int):=aU (aB hi' hmc)
    refine ⟨⟨by omega,by omega⟩,fun hb=>?_,fun hb=>⟨hmc,fun hb2=>?_,fun hb2=>?_⟩⟩
    · have hb':aM (ETy.get .stat c.states i).kind=false:=by have h:(!aM (ETy.get .stat c.states i).kind)=true:=hb; simpa using h
      have e:ln c.states l left i=none:=by unfold ln; rw [hb']; rfl
      rw [e,aF] at ht
      rw [hw]
      first
      | (exfalso; omega)
      | exact ih (i+1) (by omega) (by omega) _ ht.symm
    · have hb2':(!inB left (bk c.states (i:Int)) || !inB l (bk c.states (i:Int)))=true:=hb2
      have e:ln c.states l left i=none:=by
       unfold ln
       have:(inB left (bk c.states (i:Int))&&inB l (bk c.states (i:Int)))=false:=by
        cases h1:inB left (bk c.states (i:Int)) <;> cases h2:inB l (bk c.states (i:Int)) <;> simp [h1,h2] at hb2' ⊢
       rw [this,cE]; rfl
      rw [e,aF] at ht
      rw [hw]
      first
      | (exfalso; omega)
      | exact ih (i+1) (by omega) (by omega) _ ht.symm
    · have hb':aM (ETy.get .stat c.states i).kind=true:=by have h:(!aM (ETy.get .stat c.states i).kind)=false:=hb; simpa using h
      have hb2':(!inB left (bk c.states (i:Int)) || !inB l (bk c.states (i:Int)))=false:=hb2
      have e:ln c.states l left i=some ⟨(i:Int),l.filter (oI c.states (bk c.states (i:Int)) i)⟩:=by
       unfold ln
       have:(inB left (bk c.states (i:Int))&&inB l (bk c.states (i:Int)))=true:=by
        cases h1:inB left (bk c.states (i:Int)) <;> cases h2:inB l (bk c.states (i:Int)) <;> simp [h1,h2] at hb2' ⊢
       rw [this,hb']; rfl
      rw [e] at ht
      refine J.nilCk 3 1 3 .int rfl rfl (by kernel_rfl) ?_
      refine EH c l left out i (bk c.states (i:Int)) Γ _ hi' hl hm (by omega) hos ?_ l.length 0 (by omega) (by omega) [] (by simp)
      rw [hw]
      first
      | (exfalso; omega)
      | exact ih (i+1) (by omega) (by omega) _ ht.symm
  · have e:i=c.states.length:=by have:=of_decide_eq_false hge; omega
    subst e
    rw [ho]; exact ⟨rfl,rfl⟩
abbrev zEo3 (a:List Int) (b:List Int) (c:Chart):ST:={ n:=117,fr:=[(1,.p (.lst .int a)),(2,.p (.lst .int b)),(4,.x (.c (.loc 0 0))),(8,.p (.v (Value.slice none 0 0))),(9,.p (.v (Value.slice none 0 0))),(31,.p (.lst .stat c.states)),(32,.i c.states.length),(33,.i 0)],ck:=[zEo1 c] }
theorem J8 (l left:List Int) (h:c.vars.length≤2199023255552∧c.states.length≤2199023255552) (hg:(bx c==0&&dL c.states l)=false):ah Tryz.prog 18 [.e .chart c,.l .int l,.l .int left,.l .past []] [] (.x (.c (.pd (.v (.slice none 0 0))))) []:=by
 refine dg u9 Tryz.func18 (.need (c.vars.length≤2199023255552∧c.states.length≤2199023255552) (.need ((!(bx c==(0:Int)&&bB (b6 c.states) none []))=false→c.vars.length≤2199023255552∧c.states.length≤2199023255552) (.ite (!(bx c==(0:Int)&&bB (b6 c.states) none []) || !(bx c==(0:Int)&&dL c.states l)) (.ret (.p (.v (Value.slice none 0 0))) []) (.stop zEo2 (zEo3 l left c))))) fun Γ=>?_
 have e:bB (b6 c.states) none []=true:=rfl
 refine ⟨h,fun _=>h,fun _=>⟨rfl,rfl⟩,fun hb=>?_⟩
 exfalso
 have hb':(!(bx c==0&&bB (b6 c.states) none []) || !(bx c==0&&dL c.states l))=false:=hb
 rw [e,hg] at hb'
 cases h1:(bx c==0) <;> rw [h1] at hb' <;> cases hb'
theorem Ju (l left:List Int) (h:c.vars.length≤2199023255552∧c.states.length≤2199023255552) (hg:(bx c==0&&dL c.states l)=true):ah Tryz.prog 18 [.e .chart c,.l .int l,.l .int left,.l .past []] [] (.x (.c (.own 0))) [.own 40 .past (Cb c.states l left)]:=by
 have hg2:=hg
 rw [af] at hg2
 have v:=(iT c).1 (eq_of_beq hg2.1)
 have hst:=(qu c).1 v.few
 have hin:=yb hg2.2
 refine dg u9 Tryz.func18 (.need (c.vars.length≤2199023255552∧c.states.length≤2199023255552) (.need ((!(bx c==(0:Int)&&bB (b6 c.states) none []))=false→c.vars.length≤2199023255552∧c.states.length≤2199023255552) (.ite (!(bx c==(0:Int)&&bB (b6 c.states) none []) || !(bx c==(0:Int)&&dL c.states l)) (.ret (.p (.v (Value.slice none 0 0))) []) (.stop zEo2 (zEo3 l left c))))) fun Γ=>?_
 have e:bB (b6 c.states) none []=true:=rfl
 refine ⟨h,fun _=>h,fun hb=>?_,fun _=>?_⟩
 · exfalso
   have hb':(!(bx c==0&&bB (b6 c.states) none []) || !(bx c==0&&dL c.states l))=true:=hb
   rw [e,hg,hg2.1] at hb'
   cases hb'
 · refine J.nilOwn 9 40 .past rfl (by kernel_rfl) ?_
   exact Ib c l left Γ ⟨by omega,hin.1⟩ (by omega) c.states.length 0 (by omega) (by omega) [] rfl
theorem Ha (l left:List Int) (h:c.vars.length≤2199023255552∧c.states.length≤2199023255552):ah Tryz.prog 18 [.e .chart c,.l .int l,.l .int left,.l .past []] [] (.x (.c (.pd (.lst .past (qy c l left))))) []:=by
 unfold qy
 by_cases hg:(bx c==0&&dL c.states l)=true
 · rw [if_pos hg]
   exact ah.chop (ck':=[]) (ah.frz aX [0] (Ju c l left h hg) rfl rfl)
 · rw [if_neg hg]
   exact ah.ret (J8 c l left h (Bool.eq_false_iff.2 hg)) fun V v hv=>n8 hv
end Go.Proofs.YtgfifkhbfdacjaaGreatDoor
namespace Go.Proofs.YtgfifkhbfdacjaaGreatDoor
open Go Go.Ev
set_option maxRecDepth 100000
variable (l:List Ev.Stat) (ps:List Past)
def K5 (s:List Int) (d:Int):List Int:=s.filter fun k=>decide ((ETy.get .stat l k.toNat).depth≥d)
def sT (l:List Ev.Stat):Nat→List (List Int)→List Past→List Past
 | _,[],out=>out
 | i,p::r,out=>if 5<i then out else sT l (i+1) r (nX l (gD l (chM l p)) (K5 l (gD l (chM l p)) ((i % 3:Nat):Int)) out)
def mdM (ps:List (List Int)):List Past:=sT l 0 ps []
def K3 (tg:Int):List Int:=if aM (ETy.get .stat l tg.toNat).kind=true then (match dQ ps tg with
 | some p=>p.set
 | none=>[aA l (ETy.get .stat l tg.toNat).initial]) else [tg]
def rO (tr:Tran) (ps:List Past):List Int:=if (tr.dst==[])=true then [] else dnM l (K3 l ps (aA l tr.dst)) (dx l tr.src (aA l tr.dst)).toNat
theorem AZ {l:List Ev.Stat} (t:Tre l):∀ (ps:List (List Int)) (i:Nat) (out:List Past),(∀ p∈ps,∀ b∈p,0≤b∧b≤255)→bB (b6 l) none out=true→bB (b6 l) none (sT l i ps out)=true
 | [],_,_,_,h=>h
 | p :: r,i,out,hp,h=>by
   rw [sT]
   by_cases hi:5<i
   · rw [if_pos hi]; exact h
   · rw [if_neg hi]
     exact AZ t r _ _ (fun q hq=>hp q (aH _ hq)) (F2 t (np t (ni t (hp p aC))) h)
theorem rW {l:List Ev.Stat} (t:Tre l) {ps:List (List Int)} (hp:∀ p∈ps,∀ b∈p,0≤b∧b≤255):bB (b6 l) none (mdM l ps)=true:=AZ t ps 0 [] hp rfl
/-! ### transitions -/
theorem Fa {l:List Ev.Stat} (t:Tre l) (j:Int):∀ (n:Nat) (k:Int),k<(l.length:Int)→0≤gE l j n k→∃ d:Nat,gE l j n k=(d:Int)∧d<l.length∧knd l d=2∧(d:Int)<j∧j<((endM l d:Nat):Int)∧(k=(d:Int)∨((d:Int)<k∧k<((endM l d:Nat):Int)))
 | 0,k,_,h=>by rw [gE] at h; omega
 | n + 1,k,hk,h=>by
   rw [gE] at h ⊢
   by_cases h0:k<0
   · rw [if_pos h0] at h; omega
   · rw [if_neg h0] at h ⊢
     obtain ⟨q,rfl⟩:=az (show 0≤k by omega)
     have hq:q<l.length:=by omega
     by_cases hb:((ETy.get .stat l (q:Int).toNat).kind==2&&decide (j>(q:Int))&&decide (j<((endM l (q:Int).toNat:Nat):Int)))=true
     · rw [if_pos hb]
       rw [af,af,decide_eq_true_eq,decide_eq_true_eq,ai] at hb
       exact ⟨q,rfl,hq,eq_of_beq hb.1.1,by omega,hb.2,.inl rfl⟩
     · rw [if_neg hb] at h ⊢
       rw [ai] at h ⊢
       have hup:=kT l (ETy.get .stat l q).depth q
       rcases jA l q with ⟨e,_⟩ | ⟨p,e,hpq,_⟩
       · rw [e] at h
         cases n with
         | zero=>rw [gE] at h; omega
         | succ n=>rw [gE,if_pos (by omega)] at h; omega
       · rw [e] at h ⊢
         obtain ⟨d,h1,h2,h3,h4,h5,h6⟩:=Fa t j n (p:Int) (by omega) h
         refine ⟨d,h1,h2,h3,h4,h5,.inr ?_⟩
         have hk2:=(cV t.shp hq).1 e
         rcases h6 with h6 | h6
         · have:p=d:=by omega
           subst this; omega
         · have:=jI l h2 (q:=p) (by omega) (by omega)
           omega
theorem LV {c:Chart} (v:Valid c) {i:Nat} (hi:i<c.trans.length) (hd:(ETy.get .tran c.trans i).dst≠[]):∃ tg d:Nat,aA c.states (ETy.get .tran c.trans i).dst=(tg:Int)∧tg<c.states.length∧dx c.states (ETy.get .tran c.trans i).src (aA c.states (ETy.get .tran c.trans i).dst)=(d:Int)∧d<c.states.length∧knd c.states d=2∧d<tg∧tg<endM c.states d ∧
 ((ETy.get .tran c.trans i).src=(d:Int)∨((d:Int)<(ETy.get .tran c.trans i).src∧(ETy.get .tran c.trans i).src<((endM c.states d:Nat):Int))):=by
 have t:=v.tre
 have hz:=(se c i _ _).1 (v.trans i hi)
 have h0:=hz.2.2.2
 have hto:=JL v hi hd
 unfold eH at h0
 rw [if_pos (by simpa using hd),if_neg (by rw [decide_eq_false (by omega)]; decide)] at h0
 have hdm:0≤dx c.states (ETy.get .tran c.trans i).src (aA c.states (ETy.get .tran c.trans i).dst):=by
  by_cases h:decide (dx c.states (ETy.get .tran c.trans i).src (aA c.states (ETy.get .tran c.trans i).dst)<0)=true
  · rw [if_pos h] at h0; exact absurd h0 (by decide)
  · have:=of_decide_eq_false (b5 _ ▸ h); omega
 rcases kL c.states (ETy.get .tran c.trans i).dst with ⟨e,_⟩ | ⟨tg,e,hl,_⟩
 · omega
 · rw [e] at hdm ⊢
   unfold dx at hdm ⊢
   by_cases hh:(bW c.states (ETy.get .tran c.trans i).src&&bW c.states (tg:Int))=true
   · rw [if_pos hh] at hdm ⊢
     have hs:(ETy.get .tran c.trans i).src<(c.states.length:Int):=by
      have hb:=hz.1
      unfold fO at hb
      simp only [aw,decide_eq_false_iff_not] at hb
      omega
     obtain ⟨d,h1,h2,h3,h4,h5,h6⟩:=Fa t _ _ _ hs hdm
     exact ⟨tg,d,rfl,hl,h1,h2,h3,by omega,by omega,h6⟩
   · rw [if_neg hh] at hdm; omega
end Go.Proofs.YtgfifkhbfdacjaaGreatDoor
namespace Go.Proofs.YtgfifkhbfdacjaaGreatDoor
open Go Go.Ev
set_option maxRecDepth 100000
def Gr:Cfg:=⟨aX,[]⟩
theorem E7:ag Tryz.prog Gr.tab:=ag.nil
theorem MS (p:Past) (t:Int):ah Tryz.prog 40 [.e .past p,.p (.ref .int t 0)] [] (.x (.b (p.state==t))) []:=by
 refine dg E7 Tryz.func40 (.ret (.p (.bool (Past.state p==t))) []) fun Γ=>⟨rfl,rfl⟩
def eE1:Ent:=(40,fun
 | [.agg [.pd (.int .i64 a),.pd (.lst .int b)],.c (.pd (.ref .int t 0))],[]=>some (none,.x (.c (.pd (.bool (a==t)))),[])
 | _,_=>none)
theorem NY:EntOk Tryz.prog eE1:=entOk fun vs ck=>by
 unfold eE1; dsimp only; split
 · rename_i a b t; exact entS fun hp=>MS ⟨a,b⟩ t
 · exact entN
def yl:Cfg:=⟨aX,[eE1]⟩
theorem uN:ag Tryz.prog yl.tab:=(ag.cons NY ag.nil)
abbrev zEl1:List PI:=[.code [1,0,1,0,0],.inLoop [1,0,1,0,0],.inBlock 0,.code [1,1]]
variable (c:Chart) (t:Int) (l ps:List Past)
theorem H7 (t:Int) (Γ:Ctx) (hl:l.length≤maxLen)  : ∀ (n k:Nat),l.length - k≤n→k≤l.length →
 J Tryz.prog 39 (au Tryz.f39) Γ (Eq2 (.x (.i (aE (fun p:Past=>p.state==t) (l.drop k) k))) []) zEl1 ({ n:=19,fr:=[(0,.p (.lst .past l)),(1,.x (.c (.fn (.func 40) [] [.pd (.ref .int t 0)]))),(4,.i 0),(7,.i l.length),(8,.i k)],ck:=[] }):=by
 intro n
 induction n with
 | zero=>?_
 | succ n ih=>?_
 all_goals
  intro k hn hk
  refine jg uN Tryz.func39 (.ite (decide ((k:Int)<(l.length:Int))) (.need (inRg k l.length) (.ite (Past.state (ETy.get .past l k)==t) (.ret (.i k) []) (.stop zEl1 { n:=19,fr:=[(0,.p (.lst .past l)),(1,.x (.c (.fn (.func 40) [] [.pd (.ref .int t 0)]))),(4,.i 0),(7,.i l.length),(8,.i (IntKind.wrap .i64 ((k:Int)+1)))],ck:=[] }))) (.ret (.i (-1:Int)) [])) ?_
  refine ⟨fun hlt=>?_,fun hge=>?_⟩
  · have hk':k<l.length:=by have:=of_decide_eq_true hlt; omega
    rw [bt (t:=.past) (l:=l) hk']
    refine ⟨by omega,?_⟩
    generalize ETy.get .past l k=v
    refine ⟨fun hb=>⟨?_,rfl⟩,fun hb=>?_⟩
    · have hb':((v:Past).state==t)=true:=hb
      simp only [aE,hb',cond_true]
    · have hb':((v:Past).state==t)=false:=hb
      simp only [aE,hb',cond_false]; (rw [aU (aB hk' hl)]; first | (exfalso; omega) | exact ih (k+1) (by omega) (by omega))
  · rw [bH (l:=l) (by have:=of_decide_eq_false hge; omega)]
    exact ⟨rfl,rfl⟩
theorem IK (t:Int):ah Tryz.prog 39 [.l .past (l),SX.c (SC.fn (Fn.func 40) [] [RC.pd (PD.ref ETy.int t 0)])] [] (.x (.i (aE (fun p:Past=>p.state==t) l 0))) []:=by
 refine dg uN Tryz.func39 (.stop zEl1 { n:=19,fr:=[(0,.p (.lst .past l)),(1,.x (.c (.fn (.func 40) [] [.pd (.ref .int t 0)]))),(4,.i 0),(7,.i l.length),(8,.i 0)],ck:=[] }) fun Γ=>?_
 exact J.len 0 rfl fun hl=>H7 l t Γ hl l.length 0 (by omega) (by omega)
def CH:Ent:=(39,fun
 | [.c (.pd (.lst .past l)),.c (.fn (.func 40) [] [.pd (.ref .int t 0)])],[]=>some (none,.x (.c (.pd (.int .i64 (aE (fun p:Past=>p.state==t) l 0)))),[])
 | _,_=>none)
theorem Lo:EntOk Tryz.prog CH:=entOk fun vs ck=>by
 unfold CH; dsimp only; split
 · rename_i l t; exact entS fun hp=>IK l t
 · exact entN
def xJ:Cfg:=⟨aX,[kS,j7,mh,jb,CH,r4]⟩
theorem uU:ag Tryz.prog xJ.tab:=(ag.cons mX (ag.cons jX (ag.cons qY (ag.cons iV (ag.cons Lo (ag.cons wM ag.nil))))))
def kp:Bool:=decide (t<0)||decide (t≥(c.trans.length:Int))||(ETy.get .tran c.trans t.toNat).dst==[] || !(bx c==0&&bB (b6 c.states) none ps)
def jv:List Int:=if kp c t ps=true then [] else rO c.states (ETy.get .tran c.trans t.toNat) ps
theorem m0 (t:Int):∀ (ps:List Past) (k:Int),(aE (fun p:Past=>p.state==t) ps k = -1∧dQ ps t=none)∨∃ j:Nat,j<ps.length∧aE (fun p:Past=>p.state==t) ps k=k+(j:Int)∧dQ ps t=some (ETy.get .past ps j)
 | [],k=>.inl ⟨rfl,rfl⟩
 | p :: r,k=>by
   cases hb:p.state==t
   · have e1:dQ (p::r) t=dQ r t:=by unfold dQ; rw [List.find?_cons,hb]
     have e2:aE (fun p:Past=>p.state==t) (p::r) k=aE (fun p:Past=>p.state==t) r (k+1):=by simp only [aE,hb,cond_false]
     rcases m0 t r (k+1) with ⟨h1,h2⟩ | ⟨j,h1,h2,h3⟩
     · exact .inl ⟨by rw [e2,h1],by rw [e1,h2]⟩
     · exact .inr ⟨j+1,by simp; omega,by rw [e2,h2]; omega,by rw [e1,h3]; rfl⟩
   · have e1:dQ (p::r) t=some p:=by unfold dQ; rw [List.find?_cons,hb]
     exact .inr ⟨0,by simp,by simp only [aE,hb,cond_true]; omega,by rw [e1]; rfl⟩
theorem BU {a b:Bool} (h:(a||b)=false):a=false∧b=false:=by rwa [aw] at h
theorem KN {t:Int} {n:Nat} (h:(decide (t<0)||decide (t≥(n:Int)))=false):0≤t∧t<(n:Int):=by
 have h1:=BU h
 have:=of_decide_eq_false h1.1
 have:=of_decide_eq_false h1.2
 omega
theorem MO (hz:c.vars.length≤2199023255552∧c.states.length≤2199023255552) (h:kp c t ps=true):ah Tryz.prog 15 [.e .chart c,.i t,.l .past ps] [] (.x (.c (.pd (.v (.slice none 0 0))))) []:=by
 refine dg uU Tryz.func15 (let x1:=(ETy.get .tran c.trans (Int.toNat t)); let x3:=(aA c.states (Tran.dst x1)); let x2:=(Tre c.states∧(0:Int)≤dx c.states (Tran.src x1) x3∧dx c.states (Tran.src x1) x3<(c.states.length:Int)); let x4:=((0:Int)≤aA c.states (Tran.dst x1)∧aA c.states (Tran.dst x1)<(c.states.length:Int)); let x5:=(c.trans.length:Int); let x6:=((dx c.states (Tran.src x1) x3).toNat); let x7:=[aA c.states (Tran.dst x1)]; let x8:=(ETy.get .stat c.states (x3.toNat)); .need ((decide (t<(0:Int))||decide (t≥x5))=false→(0:Int)≤t∧t<x5) (.need ((decide (t<(0:Int))||decide (t≥x5)||Tran.dst x1==[])=false→c.vars.length≤2199023255552∧c.states.length≤2199023255552) (.ite (decide (t<(0:Int))||decide (t≥x5)||Tran.dst x1==[] || !(bx c==(0:Int)&&bB (b6 c.states) none ps)) (.ret (.p (.v (Value.slice none 0 0))) []) (.need ((0:Int)≤t∧t<x5) (.need ((0:Int)≤t∧t<x5) (.need (c.states.length≤maxLen) (.need x4 (.ite (aM (Stat.kind x8)) (.need x4 (.need ((0:Int)≤0∧(0:Int)<(↑(List.length x7):Int)) (.need (0<List.length x7) (.ite (decide (aE (fun p=>Past.state p==aA c.states (Tran.dst x1)) ps (0:Int)≥0)) (.need ((0:Int)≤aE (fun p=>Past.state p==aA c.states (Tran.dst x1)) ps (0:Int)∧aE (fun p=>Past.state p==aA c.states (Tran.dst x1)) ps (0:Int)<(ps.length:Int)) (.need x2 (.ret (.p (.lst .int (dnM c.states (Past.set (ETy.get .past ps ((aE (fun p=>Past.state p==aA c.states (Tran.dst x1)) ps (0:Int)).toNat))) x6))) []))) (.need x2 (.ret (.p (.lst .int (dnM c.states [aA c.states (Stat.initial x8)] x6))) [])))))) (.need x2 (.ret (.p (.lst .int (dnM c.states x7 x6))) [])))))))))) fun Γ=>?_
 conv=>zeta
 refine ⟨fun h1=>KN h1,fun _=>hz,fun _=>⟨rfl,rfl⟩,fun h1=>?_⟩
 have h1':kp c t ps=false:=h1
 rw [h] at h1'; cases h1'
theorem NK (hz:c.vars.length≤2199023255552∧c.states.length≤2199023255552) (h:kp c t ps=false):ah Tryz.prog 15 [.e .chart c,.i t,.l .past ps] [] (.x (.c (.pd (.lst .int (rO c.states (ETy.get .tran c.trans t.toNat) ps))))) []:=by
 have h0:=h
 unfold kp at h0
 have h1:=BU h0
 have h2:=BU h1.1
 have hin:=KN h2.1
 have h3:(bx c==0&&bB (b6 c.states) none ps)=true:=by simpa using h1.2
 rw [af] at h3
 have v:=(iT c).1 (eq_of_beq h3.1)
 have hst:=(qu c).1 v.few
 have hmc:c.states.length≤maxLen:=by unfold maxLen; omega
 have hi:t.toNat<c.trans.length:=by omega
 obtain ⟨tg,d,e1,e2,e3,e4,_⟩:=LV v hi (by intro e; rw [e] at h2; exact absurd h2.2 (by decide))
 refine dg uU Tryz.func15 (let x1:=(ETy.get .tran c.trans (Int.toNat t)); let x3:=(aA c.states (Tran.dst x1)); let x2:=(Tre c.states∧(0:Int)≤dx c.states (Tran.src x1) x3∧dx c.states (Tran.src x1) x3<(c.states.length:Int)); let x4:=((0:Int)≤aA c.states (Tran.dst x1)∧aA c.states (Tran.dst x1)<(c.states.length:Int)); let x5:=(c.trans.length:Int); let x6:=((dx c.states (Tran.src x1) x3).toNat); let x7:=[aA c.states (Tran.dst x1)]; let x8:=(ETy.get .stat c.states (x3.toNat)); .need ((decide (t<(0:Int))||decide (t≥x5))=false→(0:Int)≤t∧t<x5) (.need ((decide (t<(0:Int))||decide (t≥x5)||Tran.dst x1==[])=false→c.vars.length≤2199023255552∧c.states.length≤2199023255552) (.ite (decide (t<(0:Int))||decide (t≥x5)||Tran.dst x1==[] || !(bx c==(0:Int)&&bB (b6 c.states) none ps)) (.ret (.p (.v (Value.slice none 0 0))) []) (.need ((0:Int)≤t∧t<x5) (.need ((0:Int)≤t∧t<x5) (.need (c.states.length≤maxLen) (.need x4 (.ite (aM (Stat.kind x8)) (.need x4 (.need ((0:Int)≤0∧(0:Int)<(↑(List.length x7):Int)) (.need (0<List.length x7) (.ite (decide (aE (fun p=>Past.state p==aA c.states (Tran.dst x1)) ps (0:Int)≥0)) (.need ((0:Int)≤aE (fun p=>Past.state p==aA c.states (Tran.dst x1)) ps (0:Int)∧aE (fun p=>Past.state p==aA c.states (Tran.dst x1)) ps (0:Int)<(ps.length:Int)) (.need x2 (.ret (.p (.lst .int (dnM c.states (Past.set (ETy.get .past ps ((aE (fun p=>Past.state p==aA c.states (Tran.dst x1)) ps (0:Int)).toNat))) x6))) []))) (.need x2 (.ret (.p (.lst .int (dnM c.states [aA c.states (Stat.initial x8)] x6))) [])))))) (.need x2 (.ret (.p (.lst .int (dnM c.states x7 x6))) [])))))))))) fun Γ=>?_
 conv=>zeta
 unfold rO K3
 rw [e3,e1,h2.2,if_neg (by decide),ai,ai]
 refine ⟨fun _=>hin,fun _=>hz,fun h5=>?_,fun _=>⟨hin,hin,hmc,⟨by omega,by omega⟩,fun hp=>?_,fun hp=>?_⟩⟩
 · exfalso
   have h5':(decide (t<0)||decide (t≥(c.trans.length:Int))||false || !(bx c==0&&bB (b6 c.states) none ps))=true:=h5
   rw [← h2.2,h0] at h5'; cases h5'
 · rw [if_pos (by exact hp)]
   refine ⟨⟨by omega,by omega⟩,⟨by omega,Int.one_pos⟩,Nat.one_pos,fun hf=>?_,fun hf=>?_⟩
   · rcases m0 (tg:Int) ps 0 with ⟨f1,f2⟩ | ⟨j,f1,f2,f3⟩
     · rw [f1] at hf; exact absurd hf (by decide)
     · rw [f2,f3,Int.zero_add,ai]
       exact ⟨⟨by omega,by omega⟩,⟨v.tre,by omega,by omega⟩,rfl,rfl⟩
   · rcases m0 (tg:Int) ps 0 with ⟨f1,f2⟩ | ⟨j,f1,f2,f3⟩
     · rw [f2]
       exact ⟨⟨v.tre,by omega,by omega⟩,rfl,rfl⟩
     · rw [f2] at hf
       exact absurd (of_decide_eq_false hf) (by omega)
 · rw [if_neg (by rw [show aM (ETy.get .stat c.states tg).kind=false from hp]; decide)]
   exact ⟨⟨v.tre,by omega,by omega⟩,rfl,rfl⟩
theorem Iu (hz:c.vars.length≤2199023255552∧c.states.length≤2199023255552):ah Tryz.prog 15 [.e .chart c,.i t,.l .past ps] [] (.x (.c (.pd (.lst .int (jv c t ps))))) []:=by
 unfold jv
 by_cases h:kp c t ps=true
 · rw [if_pos h]
   exact ah.ret (MO c t ps hz h) fun V v hv=>n8 hv
 · rw [if_neg h]
   exact NK c t ps hz (Bool.eq_false_iff.2 h)
end Go.Proofs.YtgfifkhbfdacjaaGreatDoor

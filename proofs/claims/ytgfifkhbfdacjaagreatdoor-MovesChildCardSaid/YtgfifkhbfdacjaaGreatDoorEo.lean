/- Contracts: moves.Record on an empty list. Conditions: sizes. -/
import Derived.Test.YtgfifkhbfdacjaaGreatDoorEi
import Derived.Test.YtgfifkhbfdacjaaGreatDoorEg
import Derived.Test.YtgfifkhbfdacjaaGreatDoorLx
namespace Go.Proofs.YtgfifkhbfdacjaaGreatDoor
open Go Go.Ev
set_option maxRecDepth 100000
def xg:Cfg:=⟨aX,[]⟩
theorem uf:ag Tryz.prog xg.tab:=ag.nil
theorem Gj:ah Tryz.prog 46 [.l .past []] [] (.x (.c (.pd (.v (.slice none 0 0))))) []:=by
 refine dg uf Tryz.func46 (.stop [.code [1,1,0,1,0,0],.inLoop [1,1,0,1,0,0],.inBlock 0,.code [1,1,1]] { n:=23,fr:=[(2,.p (.v (Value.slice none 0 0))),(3,.p (.v (Value.slice none 0 0))),(6,.p (.lst .past [])),(7,.i (↑(0:Nat):Int)),(8,.i 0)],ck:=[] }) fun Γ=>?_
 refine jg uf Tryz.func46 (.ite false (.need ((0:Int)≤0∧(0:Int)<(↑(0:Nat):Int)) (.stop [.code [1,1,0,1,0,0,1,1,0,0,1],.inBlock 1,.code [1,1,0,1,0,0,1,1,1],.inLoop [1,1,0,1,0,0],.inBlock 0,.code [1,1,1]] { n:=23,fr:=[(2,.p (.v (Value.slice none 0 0))),(3,.p (.v (Value.slice none 0 0))),(6,.p (.lst .past [])),(7,.i (↑(0:Nat):Int)),(8,.i 0),(5,.x (.c (.loc 0 0)))],ck:=[.cells [.i (Past.state { state:=(0:Int),set:=[] }),.pd (.lst .int [])] 40] })) (.ret (.p (.v (Value.slice none 0 0))) [])) ?_
 exact ⟨fun h=>absurd h (by decide),fun _=>⟨rfl,rfl⟩⟩
def vU:Ent:=(46,fun
 | [.c (.pd (.lst .past []))],[]=>some (none,.x (.c (.pd (.v (.slice none 0 0)))),[])
 | _,_=>none)
theorem JD:EntOk Tryz.prog vU:=entOk fun vs ck=>by
 unfold vU; dsimp only; split
 · exact entS fun hp=>Gj
 · exact entN
def xA:Cfg:=⟨aX,[mi,pF,vU]⟩
theorem u9:ag Tryz.prog xA.tab:=(ag.cons qR (ag.cons B5 (ag.cons JD ag.nil)))
def xw:Cfg:=⟨aX,[ji,jB,sV,nX,mG,eBs,vZ]⟩
theorem tQ:ag Tryz.prog xw.tab:=(ag.cons iS (ag.cons kG (ag.cons sS (ag.cons tR (ag.cons sn (ag.cons NZ (ag.cons Jj ag.nil)))))))
variable (l:List Ev.Stat) (s:List Int) (c:Chart) (left:List Int) (i:Nat) (u:Int) (n:Nat)
def oo (i:Nat) (k:Int):Bool:=(ETy.get .stat l i).kind==5&&bg l k==u||(ETy.get .stat l i).kind==6&&eD l k&&gA l u k
def lf:Option Past:=if (aM (ETy.get .stat l i).kind&&(inB left (bg l (i:Int))&&inB s (bg l (i:Int))))=true then some ⟨(i:Int),s.filter (oo l (bg l (i:Int)) i)⟩ else none
def BO:List Past:=(List.range l.length).filterMap (lf l s left)
def qI (l left:List Int):List Past:=if (bD c==0&&dK c.states l)=true then BO c.states l left else []
def qt:List Past:=(List.range n).filterMap (lf l s left)
theorem EH:qt l s left (n+1)=qt l s left n++(match lf l s left n with | some p=>[p] | none=>[]):=by
 unfold qt
 rw [dB,List.filterMap_append]
 cases h:lf l s left n <;> simp [h]
theorem I1:(qt l s left n).length≤n:=by
 unfold qt
 exact aw (List.length_filterMap_le _ _) (by simp)
theorem Mg:∀ p∈qt l s left n,0≤p.state∧p.state<(n:Int):=by
 intro p hp
 obtain ⟨i,hi,h⟩:=eM.1 hp
 unfold lf at h
 by_cases hb:(aM (ETy.get .stat l i).kind&&(inB left (bg l (i:Int))&&inB s (bg l (i:Int))))=true
 · rw [if_pos hb] at h
   simp only [aa] at h
   subst h
   have:=bB.1 hi
   exact ⟨Int.natCast_nonneg i,Int.ofNat_lt.2 this⟩
 · rw [if_neg hb] at h; cases h
abbrev zEo1 (a:Chart):Chunk:=.cells [.pd (.str a.name),.pd (.lst .str a.events),.pd (.lst .var a.vars),.pd (.lst .stat a.states),.pd (.lst .tran a.trans)] 27
abbrev zEo2:List PI:=[.code [1,1,1,0,1,0,0],.inLoop [1,1,1,0,1,0,0],.inBlock 0,.code [1,1,1,1]]
theorem DV (l left:List Int) (out:List Past) (i:Nat) (u:Int) (Γ:Ctx) (Q:Out) (hi:i<c.states.length) (hl:l.length≤1000∧∀ y∈l,0≤y∧y<(c.states.length:Int)) (hm:c.states.length≤1000) (ho:out.length≤1000) (hos:∀ p∈out,0≤p.state∧p.state<(i:Int))
 (hcont:J Tryz.prog 18 (au Tryz.f18) Γ Q zEo2 ({ n:=117,fr:=[(1,.p (.lst .int l)),(2,.p (.lst .int left)),(4,.x (.c (.loc 0 0))),(8,.p (.v (Value.slice none 0 0))),(9,.x (.c (.own 1))),(31,.p (.lst .stat c.states)),(32,.i c.states.length),(33,.i ((IntKind.wrap .i64 ((i:Int)+1))))],ck:=[zEo1 c,.own 40 .past (out++[⟨(i:Int),l.filter (oo c.states u i)⟩])] })):∀ (n k:Nat),l.length - k≤n→k≤l.length→∀ set,set=(l.take k).filter (oo c.states u i) →
 J Tryz.prog 18 (au Tryz.f18) Γ Q [.code [1,1,1,0,1,0,0,1,1,0,0,1,1,1,1,1,0,1,0,0],.inLoop [1,1,1,0,1,0,0,1,1,0,0,1,1,1,1,1,0,1,0,0],.inBlock 2,.code [1,1,1,0,1,0,0,1,1,0,0,1,1,1,1,1,1],.inBlock 1,.code [1,1,1,0,1,0,0,1,1,1],.inLoop [1,1,1,0,1,0,0],.inBlock 0,.code [1,1,1,1]] ({ n:=117,fr:=[(1,.p (.lst .int l)),(2,.p (.lst .int left)),(4,.x (.c (.loc 0 0))),(8,.p (.v (Value.slice none 0 0))),(9,.x (.c (.own 1))),(31,.p (.lst .stat c.states)),(32,.i c.states.length),(33,.i i),(11,.x (.c (.loc 2 0))),(10,.i i),(12,.i u),(13,.x (.c (.loc 3 0))),(58,.p (.lst .int l)),(59,.i l.length),(60,.i ((k:Int)))],ck:=[zEo1 c,.own 40 .past out,.cells [.pd (.str (ETy.get .stat c.states i).name),SC.i (ETy.get .stat c.states i).kind,SC.i (ETy.get .stat c.states i).depth,.pd (.str (ETy.get .stat c.states i).initial),.pd (.lst .deed (ETy.get .stat c.states i).entry),.pd (.lst .deed (ETy.get .stat c.states i).leave)] 56,.cells [SC.i i,.own 4] 40,.own 3 .int set] }):=by
 have hml:l.length≤maxLen:=by unfold maxLen; omega
 have hmc:c.states.length≤maxLen:=by unfold maxLen; omega
 intro n
 induction n with
 | zero=>?_
 | succ n ih=>?_
 all_goals
  intro k hn hk set hs
  refine jg tQ Tryz.func18 (let x1:=(ETy.get .stat c.states i); let x8:Nat×SV:=(2,.p (.lst .int left)); let x10:Nat×SV:=(4,.x (.c (.loc 0 0))); let x5:Nat×SV:=(8,.p (.v (Value.slice none 0 0))); let x7:Nat×SV:=(31,.p (.lst .stat c.states)); let x9:Nat×SV:=(32,.i c.states.length); let x2:List (Nat×SV):=[(1,.p (.lst .int l)),x8,x10,x5,(9,.x (.c (.own 1))),x7,x9,(33,.i i),(11,.x (.c (.loc 2 0))),(10,.i i),(12,.i u),(13,.x (.c (.loc 3 0))),(58,.p (.lst .int l)),(59,.i l.length),(60,.i (IntKind.wrap .i64 ((k:Int)+1)))]; let x6:List Nat:=[1,1,1,0,1,0,0,1,1,0,0,1,1,1,1,1,0,1,0,0]; let x3:List PI:=[.code x6,.inLoop x6,.inBlock 2,.code [1,1,1,0,1,0,0,1,1,0,0,1,1,1,1,1,1],.inBlock 1,.code [1,1,1,0,1,0,0,1,1,1],.inLoop [1,1,1,0,1,0,0],.inBlock 0,.code [1,1,1,1]]; let x4:=(Stat.kind x1==(5:Int)&&bg c.states (ETy.get .int l k)==u); .ite (decide ((k:Int)<(l.length:Int))) (.need (inRg k l.length) (.need ((Stat.kind x1==(5:Int))=true→c.states.length≤maxLen) (.need (x4=false∧(Stat.kind x1==(6:Int))=true→(0:Int)≤ETy.get .int l k∧ETy.get .int l k<(c.states.length:Int)) (.need (x4=false∧(Stat.kind x1==(6:Int)&&eD c.states (ETy.get .int l k))=true→c.states.length≤maxLen) (.ite (Stat.kind x1==(5:Int)&&bg c.states (ETy.get .int l k)==u||Stat.kind x1==(6:Int)&&eD c.states (ETy.get .int l k)&&gA c.states u (ETy.get .int l k)) (.need (room ((set++[ETy.get .int l k]).length) 8) (.stop x3 { n:=117,fr:=x2,ck:=[zEo1 c,.own 40 .past out,.cells [.pd (.str (Stat.name x1)),.i (Stat.kind x1),.i (Stat.depth x1),.pd (.str (Stat.initial x1)),.pd (.lst .deed (Stat.entry x1)),.pd (.lst .deed (Stat.leave x1))] 56,.cells [.i i,.own 4] 40,.own 3 .int (set++[ETy.get .int l k])] })) (.stop x3 { n:=117,fr:=x2,ck:=[zEo1 c,.own 40 .past out,.cells [.pd (.str (Stat.name x1)),.i (Stat.kind x1),.i (Stat.depth x1),.pd (.str (Stat.initial x1)),.pd (.lst .deed (Stat.entry x1)),.pd (.lst .deed (Stat.leave x1))] 56,.cells [.i i,.own 4] 40,.own 3 .int set] })))))) (.need (out.length≤1000∧((0:Int)≤(i:Int)∧(i:Int)≤1000)∧∀ (p:ETy.den .past),p∈out→(0:Int)≤Past.state p∧Past.state p<(i:Int)) (.ite false (.need (inRg out.length out.length) (.stop [.ops [1,1,1,0,1,0,0,1,1,0,0,1,1,1,1,1,1,1,1,0] 4,.inBlock 1,.code [1,1,1,0,1,0,0,1,1,1],.inLoop [1,1,1,0,1,0,0],.inBlock 0,.code [1,1,1,1]] { n:=117,fr:=[(1,.p (.lst .int l)),x8,x10,x5,(9,.x (.c (.own 1))),x7,x9,(33,.i i),(108,.x (.agg [.i i,.own 2])),(109,.x (.c (.oat 1 out.length 2 0)))],ck:=[zEo1 c,.own 40 .past out,.own 3 .int set] })) (.need (40=(40:TypeId)∧40=(40:TypeId)∧(out.length:Int)=(out.length:Int)∧room (out.length+1) 32) (.stop zEo2 { n:=117,fr:=[(1,.p (.lst .int l)),x8,x10,x5,(9,.x (.c (.own 1))),x7,x9,(33,.i (IntKind.wrap .i64 ((i:Int)+1)))],ck:=[zEo1 c,.own 40 .past (out++[{ state:=(i:Int),set:=set }])] }))))) ?_
  conv=>zeta
  refine ⟨fun hlt=>?_,fun hge=>?_⟩
  · have hk':k<l.length:=by have:=of_decide_eq_true hlt; omega
    have hy:=hl.2 (ETy.get .int l k) (by rw [ETy.get_eq (t:=.int) (List.getElem?_eq_getElem hk')]; exact a8 hk')
    have ht:=iu l (oo c.states u i) hk'
    have hsl:set.length≤1000:=by
     rw [hs]
     have:=a6 (oo c.states u i) (l.take k)
     have:=List.length_take_le k l
     omega
    refine ⟨⟨by omega,by omega⟩,fun _=>hmc,fun _=>⟨hy.1,hy.2⟩,fun _=>hmc,fun hb=>?_,fun hb=>?_⟩
    · have hb':oo c.states u i (ETy.get .int l k)=true:=hb
      rw [hb',if_pos rfl,← hs] at ht
      refine ⟨room_le (by rw [an,dc]; omega) (by omega),?_⟩
      rw [aV (aC hk' hml)]
      first
      | (exfalso; omega)
      | exact ih (k+1) (by omega) (by omega) _ ht.symm
    · have hb':oo c.states u i (ETy.get .int l k)=false:=hb
      rw [hb',if_neg (by decide),aH,← hs] at ht
      rw [aV (aC hk' hml)]
      first
      | (exfalso; omega)
      | exact ih (k+1) (by omega) (by omega) _ ht.symm
  · have e:l.take k=l:=aQ (by have:=of_decide_eq_false hge; omega)
    rw [e] at hs
    subst hs
    exact ⟨⟨ho,⟨by omega,by omega⟩,hos⟩,fun h=>(by cases h),fun _=>⟨⟨rfl,rfl,rfl,room_le (by omega) (by omega)⟩,hcont⟩⟩
theorem JC (l left:List Int) (Γ:Ctx) (hl:l.length≤1000∧∀ y∈l,0≤y∧y<(c.states.length:Int)) (hm:c.states.length≤1000):∀ (n i:Nat),c.states.length - i≤n→i≤c.states.length→∀ out,out=qt c.states l left i →
 J Tryz.prog 18 (au Tryz.f18) Γ (Eq2 (.x (.c (.own 0))) [.own 40 .past (BO c.states l left)]) zEo2 ({ n:=117,fr:=[(1,.p (.lst .int l)),(2,.p (.lst .int left)),(4,.x (.c (.loc 0 0))),(8,.p (.v (Value.slice none 0 0))),(9,.x (.c (.own 1))),(31,.p (.lst .stat c.states)),(32,.i c.states.length),(33,.i ((i:Int)))],ck:=[zEo1 c,.own 40 .past out] }):=by
 have hmc:c.states.length≤maxLen:=by unfold maxLen; omega
 intro n
 induction n with
 | zero=>?_
 | succ n ih=>?_
 all_goals
  intro i hn hi out ho
  have hol:out.length≤i:=by rw [ho]; exact I1 _ _ _ _
  have hos:∀ p∈out,0≤p.state∧p.state<(i:Int):=by rw [ho]; exact Mg _ _ _ _
  have ht:=EH c.states l left i
  rw [← ho] at ht
  refine jg tQ Tryz.func18 (let x5:=(Value.slice none 0 0); let x1:Tree:=(.stop zEo2 { n:=117,fr:=[(1,.p (.lst .int l)),(2,.p (.lst .int left)),(4,.x (.c (.loc 0 0))),(8,.p (.v x5)),(9,.x (.c (.own 1))),(31,.p (.lst .stat c.states)),(32,.i c.states.length),(33,.i (IntKind.wrap .i64 ((i:Int)+1)))],ck:=[zEo1 c,.own 40 .past out] }); let x2:=(ETy.get .stat c.states i); let x3:=(bg c.states (i:Int)); let x4:List Nat:=[1,1,1,0,1,0,0,1,1,0,0,1,1,1,1,1,0,1,0,0]; .ite (decide ((i:Int)<(c.states.length:Int))) (.need (inRg i c.states.length) (.ite (!aM (Stat.kind x2)) x1 (.need (c.states.length≤maxLen) (.ite (!inB left x3 || !inB l x3) x1 (.stop [.code x4,.inLoop x4,.inBlock 2,.code [1,1,1,0,1,0,0,1,1,0,0,1,1,1,1,1,1],.inBlock 1,.code [1,1,1,0,1,0,0,1,1,1],.inLoop [1,1,1,0,1,0,0],.inBlock 0,.code [1,1,1,1]] { n:=117,fr:=[(1,.p (.lst .int l)),(2,.p (.lst .int left)),(4,.x (.c (.loc 0 0))),(8,.p (.v x5)),(9,.x (.c (.own 1))),(31,.p (.lst .stat c.states)),(32,.i c.states.length),(33,.i i),(11,.x (.c (.loc 2 0))),(10,.i i),(12,.i x3),(13,.x (.c (.loc 3 0))),(58,.p (.lst .int l)),(59,.i l.length),(60,.i 0)],ck:=[zEo1 c,.own 40 .past out,.cells [.pd (.str (Stat.name x2)),.i (Stat.kind x2),.i (Stat.depth x2),.pd (.str (Stat.initial x2)),.pd (.lst .deed (Stat.entry x2)),.pd (.lst .deed (Stat.leave x2))] 56,.cells [.i i,.pd (.v x5)] 40] }))))) (.ret (.x (.c (.own 0))) [.own 40 .past out])) ?_
  conv=>zeta
  refine ⟨fun hlt=>?_,fun hge=>?_⟩
  · have hi':i<c.states.length:=by have:=of_decide_eq_true hlt; omega
    have hw:IntKind.wrap .i64 ((i:Int)+1)=((i+1:Nat):Int):=aV (aC hi' hmc)
    refine ⟨⟨by omega,by omega⟩,fun hb=>?_,fun hb=>⟨hmc,fun hb2=>?_,fun hb2=>?_⟩⟩
    · have hb':aM (ETy.get .stat c.states i).kind=false:=by have h:(!aM (ETy.get .stat c.states i).kind)=true:=hb; simpa using h
      have e:lf c.states l left i=none:=by unfold lf; rw [hb']; rfl
      rw [e,aH] at ht
      rw [hw]
      first
      | (exfalso; omega)
      | exact ih (i+1) (by omega) (by omega) _ ht.symm
    · have hb2':(!inB left (bg c.states (i:Int)) || !inB l (bg c.states (i:Int)))=true:=hb2
      have e:lf c.states l left i=none:=by
       unfold lf
       have:(inB left (bg c.states (i:Int))&&inB l (bg c.states (i:Int)))=false:=by
        cases h1:inB left (bg c.states (i:Int)) <;> cases h2:inB l (bg c.states (i:Int)) <;> simp [h1,h2] at hb2' ⊢
       rw [this,cI]; rfl
      rw [e,aH] at ht
      rw [hw]
      first
      | (exfalso; omega)
      | exact ih (i+1) (by omega) (by omega) _ ht.symm
    · have hb':aM (ETy.get .stat c.states i).kind=true:=by have h:(!aM (ETy.get .stat c.states i).kind)=false:=hb; simpa using h
      have hb2':(!inB left (bg c.states (i:Int)) || !inB l (bg c.states (i:Int)))=false:=hb2
      have e:lf c.states l left i=some ⟨(i:Int),l.filter (oo c.states (bg c.states (i:Int)) i)⟩:=by
       unfold lf
       have:(inB left (bg c.states (i:Int))&&inB l (bg c.states (i:Int)))=true:=by
        cases h1:inB left (bg c.states (i:Int)) <;> cases h2:inB l (bg c.states (i:Int)) <;> simp [h1,h2] at hb2' ⊢
       rw [this,hb']; rfl
      rw [e] at ht
      refine J.nilCk 3 1 3 .int rfl rfl (by kernel_rfl) ?_
      refine DV c l left out i (bg c.states (i:Int)) Γ _ hi' hl hm (by omega) hos ?_ l.length 0 (by omega) (by omega) [] (by simp)
      rw [hw]
      first
      | (exfalso; omega)
      | exact ih (i+1) (by omega) (by omega) _ ht.symm
  · have e:i=c.states.length:=by have:=of_decide_eq_false hge; omega
    subst e
    rw [ho]; exact ⟨rfl,rfl⟩
abbrev zEo3 (a:List Int) (b:List Int) (c:Chart):ST:={ n:=117,fr:=[(1,.p (.lst .int a)),(2,.p (.lst .int b)),(4,.x (.c (.loc 0 0))),(8,.p (.v (Value.slice none 0 0))),(9,.p (.v (Value.slice none 0 0))),(31,.p (.lst .stat c.states)),(32,.i c.states.length),(33,.i 0)],ck:=[zEo1 c] }
theorem Il (l left:List Int) (h:c.vars.length≤2199023255552∧c.states.length≤2199023255552) (hg:(bD c==0&&dK c.states l)=false):ah Tryz.prog 18 [.e .chart c,.l .int l,.l .int left,.l .past []] [] (.x (.c (.pd (.v (.slice none 0 0))))) []:=by
 refine dg u9 Tryz.func18 (.need (c.vars.length≤2199023255552∧c.states.length≤2199023255552) (.need ((!(bD c==(0:Int)&&b8 (cj c.states) none []))=false→c.vars.length≤2199023255552∧c.states.length≤2199023255552) (.ite (!(bD c==(0:Int)&&b8 (cj c.states) none []) || !(bD c==(0:Int)&&dK c.states l)) (.ret (.p (.v (Value.slice none 0 0))) []) (.stop zEo2 (zEo3 l left c))))) fun Γ=>?_
 have e:b8 (cj c.states) none []=true:=rfl
 refine ⟨h,fun _=>h,fun _=>⟨rfl,rfl⟩,fun hb=>?_⟩
 exfalso
 have hb':(!(bD c==0&&b8 (cj c.states) none []) || !(bD c==0&&dK c.states l))=false:=hb
 rw [e,hg] at hb'
 cases h1:(bD c==0) <;> rw [h1] at hb' <;> cases hb'
theorem JT (l left:List Int) (h:c.vars.length≤2199023255552∧c.states.length≤2199023255552) (hg:(bD c==0&&dK c.states l)=true):ah Tryz.prog 18 [.e .chart c,.l .int l,.l .int left,.l .past []] [] (.x (.c (.own 0))) [.own 40 .past (BO c.states l left)]:=by
 have hg2:=hg
 rw [af] at hg2
 have v:=(iX c).1 (eq_of_beq hg2.1)
 have hst:=(nd c).1 v.few
 have hin:=yK hg2.2
 refine dg u9 Tryz.func18 (.need (c.vars.length≤2199023255552∧c.states.length≤2199023255552) (.need ((!(bD c==(0:Int)&&b8 (cj c.states) none []))=false→c.vars.length≤2199023255552∧c.states.length≤2199023255552) (.ite (!(bD c==(0:Int)&&b8 (cj c.states) none []) || !(bD c==(0:Int)&&dK c.states l)) (.ret (.p (.v (Value.slice none 0 0))) []) (.stop zEo2 (zEo3 l left c))))) fun Γ=>?_
 have e:b8 (cj c.states) none []=true:=rfl
 refine ⟨h,fun _=>h,fun hb=>?_,fun _=>?_⟩
 · exfalso
   have hb':(!(bD c==0&&b8 (cj c.states) none []) || !(bD c==0&&dK c.states l))=true:=hb
   rw [e,hg,hg2.1] at hb'
   cases hb'
 · refine J.nilOwn 9 40 .past rfl (by kernel_rfl) ?_
   exact JC c l left Γ ⟨by omega,hin.1⟩ (by omega) c.states.length 0 (by omega) (by omega) [] rfl
theorem Fb (l left:List Int) (h:c.vars.length≤2199023255552∧c.states.length≤2199023255552):ah Tryz.prog 18 [.e .chart c,.l .int l,.l .int left,.l .past []] [] (.x (.c (.pd (.lst .past (qI c l left))))) []:=by
 unfold qI
 by_cases hg:(bD c==0&&dK c.states l)=true
 · rw [if_pos hg]
   exact ah.chop (ck':=[]) (ah.frz aX [0] (JT c l left h hg) rfl rfl)
 · rw [if_neg hg]
   exact ah.ret (Il c l left h (Bool.eq_false_iff.2 hg)) fun V v hv=>oc hv
end Go.Proofs.YtgfifkhbfdacjaaGreatDoor

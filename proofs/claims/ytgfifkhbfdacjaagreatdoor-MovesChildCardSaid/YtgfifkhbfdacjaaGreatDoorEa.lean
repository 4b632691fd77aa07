/- Contracts: moves: past, leaf, leaves, whether targets stand within a state; tree.End. Conditions: sizes. A configuration behind a transition is legal; what histories remember is right (plain). Conditions: a valid chart. What histories remember: right, recorded, made (plain). Conditions: a valid chart. -/
import Derived.Test.YtgfifkhbfdacjaaGreatDoorCa
import Derived.Test.YtgfifkhbfdacjaaGreatDoorVl
import Derived.Test.YtgfifkhbfdacjaaGreatDoorCe
import Derived.Test.YtgfifkhbfdacjaaGreatDoorKb
namespace Go.Proofs.YtgfifkhbfdacjaaGreatDoor
open Go Go.Ev
set_option maxRecDepth 100000
abbrev zJ146Ed:=J Tryz.prog 146 (au Tryz.f146)
variable (c:Chart) (l:List Int) (a i k e:Int) (ks s ts:List Int)
theorem BK:ah Tryz.prog 38 [.i k] [] (.x (.b (aM k))) []:=by
 refine dg aW Tryz.func38 (.ret (.p (.bool (k==(5:Int)||k==(6:Int)))) []) fun Γ=>?_
 exact ⟨rfl,rfl⟩
def ji:Ent:=(38,fun
 | [.c (.pd (.int .i64 k))],[]=>some (none,.x (.c (.pd (.bool (aM k)))),[])
 | _,_=>none)
theorem iS:EntOk Tryz.prog ji:=entOk fun vs ck=>by
 unfold ji; dsimp only; split
 · rename_i k; exact entS fun hp=>BK k
 · exact entN
def D3:Cfg:=⟨aX,[pG,qQ]⟩
theorem Ef:ag Tryz.prog D3.tab:=(ag.cons qu (ag.cons yg ag.nil))
theorem F8 (l:List Ev.Stat) (i:Int) (h:bU l i=true∧l.length≤maxLen):ah Tryz.prog 147 [.l .stat l,.i i] [] (.x (.i ((endM l i.toNat:Nat):Int))) []:=by
 have hi:=pI h.1
 refine dg Ef Tryz.func147 (.need (l.length≤maxLen) (.ite (!bU l i) (.ret (.i (-1:Int)) []) (.need ((0:Int)≤i∧i<(l.length:Int)∧l.length≤maxLen) (.ret (.i (↑(endM l (Int.toNat i)):Int)) [])))) fun Γ=>?_
 refine ⟨h.2,fun hb=>?_,fun _=>⟨⟨hi.1,hi.2,h.2⟩,rfl,rfl⟩⟩
 have hb':(!bU l i)=true:=hb
 rw [h.1] at hb'; cases hb'
def vM:Ent:=(147,fun
 | [.c (.pd (.lst .stat l)),.c (.pd (.int .i64 i))],[]=>some (some (bU l i=true∧l.length≤maxLen),.x (.c (.pd (.int .i64 ((endM l i.toNat:Nat):Int)))),[])
 | _,_=>none)
theorem Jl:EntOk Tryz.prog vM:=entOk fun vs ck=>by
 unfold vM; dsimp only; split
 · rename_i l i; exact entS fun hp=>F8 l i hp
 · exact entN
theorem Cs (h:0≤i∧i<(c.states.length:Int)):ah Tryz.prog 49 [.e .chart c,.i i] [] (.x (.b (eD c.states i))) []:=by
 refine dg aW Tryz.func49 (.need ((0:Int)≤i∧i<(c.states.length:Int)) (.need ((Stat.kind (ETy.get .stat c.states (Int.toNat i))==(1:Int))=false→(0:Int)≤i∧i<(c.states.length:Int)) (.ret (.p (.bool (Stat.kind (ETy.get .stat c.states (Int.toNat i))==(1:Int)||Stat.kind (ETy.get .stat c.states (Int.toNat i))==(4:Int)))) []))) fun Γ=>?_
 exact ⟨h,fun _=>h,rfl,rfl⟩
def nX:Ent:=(49,fun
 | [.agg [.pd (.str a),.pd (.lst .str b),.pd (.lst .var c),.pd (.lst .stat d),.pd (.lst .tran e)],.c (.pd (.int .i64 i))],[]=>some (some (0≤i∧i<(d.length:Int)),.x (.c (.pd (.bool (eD d i)))),[])
 | _,_=>none)
theorem tR:EntOk Tryz.prog nX:=entOk fun vs ck=>by
 unfold nX; dsimp only; split
 · rename_i a b c d e i; exact entS fun hp=>Cs ⟨a,b,c,d,e⟩ i hp
 · exact entN
def wJ:Cfg:=⟨aX,[nX]⟩
theorem tU:ag Tryz.prog wJ.tab:=(ag.cons tR ag.nil)
theorem wK (l:List Ev.Stat) (s:List Int) (k:Nat) (hk:k<s.length):b9 l (s.take (k+1))=b9 l (s.take k)++(if eD l (ETy.get .int s k)=true then [ETy.get .int s k] else []):=by
 unfold b9
 rw [ETy.get_eq (t:=.int) (List.getElem?_eq_getElem hk),aT hk,bR]
 cases h:eD l s[k] <;> simp [h]
abbrev zEd1 (a:Chart):Chunk:=.cells [.pd (.str a.name),.pd (.lst .str a.events),.pd (.lst .var a.vars),.pd (.lst .stat a.states),.pd (.lst .tran a.trans)] 27
abbrev zEd3:List PI:=[.code [1,1,0,1,0,0],.inLoop [1,1,0,1,0,0],.inBlock 0,.code [1,1,1]]
theorem Hf (hl:s.length≤1000) (hs:∀ y∈s,0≤y∧y<(c.states.length:Int)) (Γ:Ctx):∀ (n k:Nat),s.length - k≤n→k≤s.length →
 J Tryz.prog 145 (au Tryz.f145) Γ (Eq2 (.x (.c (.own 0))) [.own 3 .int (b9 c.states s)]) zEd3 ({ n:=23,fr:=[(2,.x (.c (.loc 0 0))),(4,.p (.v (Value.slice none 0 0))),(5,.x (.c (.own 1))),(8,.p (.lst .int s)),(9,.i s.length),(10,.i ((k:Int)))],ck:=[zEd1 c,.own 3 .int (b9 c.states (s.take k))] }):=by
 have hm:s.length≤maxLen:=by unfold maxLen; omega
 intro n
 induction n with
 | zero=>?_
 | succ n ih=>?_
 all_goals
  intro k hn hk
  have hol:(b9 c.states (s.take k)).length≤k:=aw (a6 _ _) (by rw [bk]; omega)
  have htk:=wK c.states s k
  generalize hout:b9 c.states (s.take k)=out at hol htk
  refine jg tU Tryz.func145 (let x1:List (Nat×SV):=[(2,.x (.c (.loc 0 0))),(4,.p (.v (Value.slice none 0 0))),(5,.x (.c (.own 1))),(8,.p (.lst .int s)),(9,.i s.length),(10,.i (IntKind.wrap .i64 ((k:Int)+1)))]; let x2:List PI:=zEd3; .ite (decide ((k:Int)<(s.length:Int))) (.need (inRg k s.length) (.need ((0:Int)≤ETy.get .int s k∧ETy.get .int s k<(c.states.length:Int)) (.ite (eD c.states (ETy.get .int s k)) (.need (room ((out++[ETy.get .int s k]).length) 8) (.stop x2 { n:=23,fr:=x1,ck:=[zEd1 c,.own 3 .int (out++[ETy.get .int s k])] })) (.stop x2 { n:=23,fr:=x1,ck:=[zEd1 c,.own 3 .int out] })))) (.ret (.x (.c (.own 0))) [.own 3 .int out])) ?_
  conv=>zeta
  refine ⟨fun hlt=>?_,fun hge=>?_⟩
  · have hk':k<s.length:=by have:=of_decide_eq_true hlt; omega
    have ht:=htk hk'
    have hy:=hs (ETy.get .int s k) (by rw [ETy.get_eq (t:=.int) (List.getElem?_eq_getElem hk')]; exact a8 hk')
    refine ⟨⟨by omega,by omega⟩,hy,fun hb=>?_,fun hb=>?_⟩
    · rw [if_pos (by exact hb)] at ht
      refine ⟨⟨by rw [an]; show (_+1) * 8≤_; omega,by rw [an]; show _+1≤_; unfold maxLen; omega⟩,?_⟩
      rw [aV (aC hk' hm),← ht]
      first
      | (exfalso; omega)
      | exact ih (k+1) (by omega) (by omega)
    · have hb':eD c.states (ETy.get .int s k)=false:=hb
      rw [if_neg (by rw [hb']; decide),aH] at ht
      rw [aV (aC hk' hm),← ht]
      first
      | (exfalso; omega)
      | exact ih (k+1) (by omega) (by omega)
  · have hke:k=s.length:=by have:=of_decide_eq_false hge; omega
    subst hke
    rw [aQ (ar _)] at hout
    rw [← hout]; exact ⟨rfl,rfl⟩
theorem yF (h:s.length≤1000∧∀ y∈s,0≤y∧y<(c.states.length:Int)):ah Tryz.prog 145 [.e .chart c,.l .int s] [] (.x (.c (.own 0))) [.own 3 .int (b9 c.states s)]:=by
 refine dg tU Tryz.func145 (.stop zEd3 { n:=23,fr:=[(2,.x (.c (.loc 0 0))),(4,.p (.v (Value.slice none 0 0))),(5,.p (.v (Value.slice none 0 0))),(8,.p (.lst .int s)),(9,.i s.length),(10,.i 0)],ck:=[zEd1 c] }) fun Γ=>?_
 refine J.nilOwn 5 3 .int rfl (by kernel_rfl) ?_
 exact Hf c s h.1 h.2 Γ s.length 0 (by omega) (by omega)
theorem vr (h:s.length≤1000∧∀ y∈s,0≤y∧y<(c.states.length:Int)):ah Tryz.prog 145 [.e .chart c,.l .int s] [] (.x (.c (.pd (.lst .int (b9 c.states s))))) []:=ah.chop (ck':=[]) (ah.frz aX [0] (yF c s h) rfl rfl)
def nj:Ent:=(145,fun
 | [.agg [.pd (.str a),.pd (.lst .str b),.pd (.lst .var c),.pd (.lst .stat d),.pd (.lst .tran e)],.c (.pd (.lst .int s))],[]=>some (some (s.length≤1000∧∀ y∈s,0≤y∧y<(d.length:Int)),.x (.c (.pd (.lst .int (b9 d s)))),[])
 | _,_=>none)
theorem Au:EntOk Tryz.prog nj:=entOk fun vs ck=>by
 unfold nj; dsimp only; split
 · rename_i a b c d e s; exact entS fun hp=>vr ⟨a,b,c,d,e⟩ s hp
 · exact entN
theorem LC (t k e:Int):ah Tryz.prog 149 [.i t,.p (.ref .int k 0),.p (.ref .int e 0)] [] (.x (.b (decide (t≥k)&&decide (t<e)))) []:=by
 refine dg aW Tryz.func149 (.ret (.p (.bool (decide (t≥k)&&decide (t<e)))) []) fun Γ=>?_
 exact ⟨rfl,rfl⟩
def eMw:Ent:=(149,fun
 | [.c (.pd (.int .i64 t)),.c (.pd (.ref .int k 0)),.c (.pd (.ref .int e 0))],[]=>some (none,.x (.c (.pd (.bool (decide (t≥k)&&decide (t<e))))),[])
 | _,_=>none)
theorem Ni:EntOk Tryz.prog eMw:=entOk fun vs ck=>by
 unfold eMw; dsimp only; split
 · rename_i t k e; exact entS fun hp=>LC t k e
 · exact entN
def yu:Cfg:=⟨aX,[eMw]⟩
theorem uw:ag Tryz.prog yu.tab:=(ag.cons Ni ag.nil)
abbrev zEd4:List PI:=[.code [1,0,1,0,0],.inLoop [1,0,1,0,0],.inBlock 0,.code [1,1]]
theorem HO (Γ:Ctx) (hl:l.length≤maxLen):∀ (n k:Nat),l.length - k≤n→k≤l.length →
 J Tryz.prog 184 (au Tryz.f184) Γ (Eq2 (.x (.i (aE (fun t:Int=>decide (t≥a)&&decide (t<e)) (l.drop k) k))) []) zEd4 ({ n:=19,fr:=[(0,.p (.lst .int l)),(1,.x (.c (.fn (.func 149) [] [.pd (.ref .int a 0),.pd (.ref .int e 0)]))),(4,.i 0),(7,.i l.length),(8,.i k)],ck:=[] }):=by
 intro n
 induction n with
 | zero=>?_
 | succ n ih=>?_
 all_goals
  intro k hn hk
  refine jg uw Tryz.func184 (.ite (decide ((k:Int)<(l.length:Int))) (.need (inRg k l.length) (.ite (decide (ETy.get .int l k≥a)&&decide (ETy.get .int l k<e)) (.ret (.i k) []) (.stop zEd4 { n:=19,fr:=[(0,.p (.lst .int l)),(1,.x (.c (.fn (.func 149) [] [.pd (.ref .int a 0),.pd (.ref .int e 0)]))),(4,.i 0),(7,.i l.length),(8,.i (IntKind.wrap .i64 ((k:Int)+1)))],ck:=[] }))) (.ret (.i (-1:Int)) [])) ?_
  refine ⟨fun hlt=>?_,fun hge=>⟨?_,rfl⟩⟩
  · have hk':k<l.length:=by have:=of_decide_eq_true hlt; omega
    rw [bx (t:=.int) hk']
    refine ⟨by omega,?_⟩
    generalize ETy.get .int l k=v
    refine ⟨fun hb=>⟨?_,rfl⟩,fun hb=>?_⟩
    · simp only [aE,hb,cond_true]
    · simp only [aE,hb,cond_false]
      rw [aV (aC hk' hl)]
      first
      | (exfalso; omega)
      | exact ih (k+1) (by omega) (by omega)
  · rw [bL (by have:=of_decide_eq_false hge; omega)]; rfl
theorem JO:ah Tryz.prog 184 [.l .int l,.c (.fn (.func 149) [] [.pd (.ref .int a 0),.pd (.ref .int e 0)])] [] (.x (.i (aE (fun t:Int=>decide (t≥a)&&decide (t<e)) l 0))) []:=by
 refine dg uw Tryz.func184 (.stop zEd4 { n:=19,fr:=[(0,.p (.lst .int l)),(1,.x (.c (.fn (.func 149) [] [.pd (.ref .int a 0),.pd (.ref .int e 0)]))),(4,.i 0),(7,.i l.length),(8,.i 0)],ck:=[] }) fun Γ=>?_
 exact J.len 0 rfl fun hl=>HO l a e Γ hl l.length 0 (by omega) (by omega)
def CY:Ent:=(184,fun
 | [.c (.pd (.lst .int l)),.c (.fn (.func 149) [] [.pd (.ref .int a 0),.pd (.ref .int e 0)])],[]=>some (none,.x (.c (.pd (.int .i64 (aE (fun t:Int=>decide (t≥a)&&decide (t<e)) l 0)))),[])
 | _,_=>none)
theorem LR:EntOk Tryz.prog CY:=entOk fun vs ck=>by
 unfold CY; dsimp only; split
 · rename_i l a e; exact entS fun hp=>JO l a e
 · exact entN
def FA:Cfg:=⟨aX,[CY]⟩
theorem ET:ag Tryz.prog FA.tab:=(ag.cons LR ag.nil)
theorem HG:ah Tryz.prog 148 [.l .int l,.c (.fn (.func 149) [] [.pd (.ref .int a 0),.pd (.ref .int e 0)])] [] (.x (.b (l.any fun t:Int=>decide (t≥a)&&decide (t<e)))) []:=by
 refine dg ET Tryz.func148 (.ret (.p (.bool (decide (aE (fun t=>decide (t≥a)&&decide (t<e)) l (0:Int)≥0)))) []) fun Γ=>⟨?_,rfl⟩
 rw [iy _ _ _ (by omega)]
def CP:Ent:=(148,fun
 | [.c (.pd (.lst .int l)),.c (.fn (.func 149) [] [.pd (.ref .int a 0),.pd (.ref .int e 0)])],[]=>some (none,.x (.c (.pd (.bool (l.any fun t:Int=>decide (t≥a)&&decide (t<e))))),[])
 | _,_=>none)
theorem KY:EntOk Tryz.prog CP:=entOk fun vs ck=>by
 unfold CP; dsimp only; split
 · rename_i l a e; exact entS fun hp=>HG l a e
 · exact entN
/-! ### the ways -/
def mE:Cfg:=⟨aX,[ko,vM,CP]⟩
theorem j0:ag Tryz.prog mE.tab:=(ag.cons jZ (ag.cons Jl (ag.cons KY ag.nil)))
theorem EU:ah Tryz.prog 103 [.e .chart c,.i i,.l .int ts] [] (.x (.c (.fn (.func 146) [] [.loc 0 0,.loc 1 0,.loc 2 0]))) [Chunk.cells [SC.pd (PD.str c.name),SC.pd (PD.lst .str c.events),SC.pd (PD.lst .var c.vars),SC.pd (PD.lst .stat c.states),SC.pd (PD.lst .tran c.trans)] 27,.cells [.pd (.int .i64 i)] 3,.cells [.pd (.lst .int ts)] 36]:=by
 refine dg j0 Tryz.func103 (.ret (.x (.c (.fn (.func 146) [] [.loc 0 0,.loc 1 0,.loc 2 0]))) [zEd1 c,.cells [.i i] 3,.cells [.pd (.lst .int ts)] 36]) fun Γ=>?_
 exact ⟨rfl,rfl⟩
theorem J.undead {P:Program} {f:Go.Sy.Md} {root:Code} {Γ:Ctx} {Q:Out} {todo:List PI} {st:ST} (hm:st.m=0) (hk:J P f root Γ Q todo { st with ck:=[] }):J P f root Γ Q todo st:=fun hT V a w r =>
 hk hT V a w { size:=r.size,defers:=r.defers,slots:=r.slots,wok:=r.wok.sub (fun x c h=>by simp at h),few:=⟨r.few.1,by rw [hm]; exact aS _⟩ }
theorem iu (B:Int→Bool) {k:Nat} (hk:k<ks.length):(ks.take (k+1)).filter B=(ks.take k).filter B++(if B (ETy.get .int ks k)=true then [ETy.get .int ks k] else []):=by
 rw [ETy.get_eq (t:=.int) (List.getElem?_eq_getElem hk),aT hk,bR]
 cases h:B ks[k] <;> simp [h]
theorem Ae (B:Int→Bool) {k:Nat} (hk:k<ks.length) (hb:B (ETy.get .int ks k)=true):((ks.take k).filter B).length<(ks.filter B).length∧((ks.take k).filter B++[ETy.get .int ks k]) <+: ks.filter B:=by
 have h1:=iu ks B hk
 rw [if_pos hb] at h1
 have h2:ks.filter B=(ks.take (k+1)).filter B++(ks.drop (k+1)).filter B:=by rw [← bR,cz]
 rw [h2,h1]
 refine ⟨by rw [an,an]; simp; omega,List.prefix_append _ _⟩
abbrev zEd2:List PI:=[.code [1,0,0],.inLoop [1,0,0],.inBlock 0]
theorem KX (i:Int) (ts ks:List Int) (lp n0:Nat) (H0:Mem) (JJ Jx:List Int→World→Prop) (R:Ending→World→Prop) (hl:c.states.length≤maxLen) (hkl:ks.length≤1000)
 (hks:∀ y∈ks,bU c.states y=true∧0≤y∧y<(c.states.length:Int))
 (hJ:∀ s A B,JJ s A→A.grownBy B none→JJ s B) (hfin:∀ w v,JJ (ks.filter fun k=>dz c.states ts k) w→R (.returned v) w) (hbad:∀ pre w v,pre <+: (ks.filter fun k=>dz c.states ts k)→Jx pre w→R (.returned v) w)
 (hY:∀ pre x W,(0≤x∧x<(c.states.length:Int))→JJ pre W→pre.length<(ks.filter fun k=>dz c.states ts k).length→∃ n,YieldAt Fence.wide n Tryz.prog lp #[.int .i64 x] W fun e W'=>(e = .returned (.bool true)∧JJ (pre++[x]) W'∧KpX H0 n0 W W')∨(e = .returned (.bool false)∧Jx (pre++[x]) W')) :
 ∀ (n k:Nat),ks.length - k≤n→k≤ks.length→∀ Γ,Seg H0 n0 Γ (JJ ((ks.take k).filter fun k=>dz c.states ts k))→Γ.alt=R →
  zJ146Ed Γ (fun _ _=>(ks.take k).filter (fun k=>dz c.states ts k)=ks.filter fun k=>dz c.states ts k) zEd2 ({ n:=31,fr:=[(0,.p (.v (Value.func (Fn.yield lp) #[] #[]))),(1,.p (.ref .chart c 0)),(3,.p (.ref .ints ts 0)),(11,.p (.lst .int ks)),(12,.i ((ks.length:Int))),(13,.i ((k:Int)))],ck:=[] }):=by
 have hm:ks.length≤maxLen:=by unfold maxLen; omega
 intro n
 induction n with
 | zero=>?_
 | succ n ih=>?_
 all_goals
  intro k hn hk Γ S hR
  refine jg j0 Tryz.func146 (.ite (decide ((k:Int)<(ks.length:Int))) (.need (inRg k ks.length) (.need (bU c.states (ETy.get .int ks k)=true∧c.states.length≤maxLen) (.stop [.ops [1,0,0,1,1,0,0,1,1,0] 6,.code [1,0,0,1,1,0,0,1,1,1],.inBlock 1,.code [1,0,0,1,1,1],.inLoop [1,0,0],.inBlock 0] { n:=31,fr:=[(0,.p (.v (Value.func (Fn.yield lp) #[] #[]))),(1,.p (.ref .chart c 0)),(3,.p (.ref .ints ts 0)),(11,.p (.lst .int ks)),(12,.i ks.length),(13,.i k),(24,.p (.bool (List.any ts fun t=>decide (t≥ETy.get .int ks k)&&decide (t<(↑(endM c.states ((ETy.get .int ks k).toNat)):Int))))),(25,.grd 24 true (.p (.v (Value.func (Fn.yield lp) #[] #[])))),(26,.grd 24 true (.i (ETy.get .int ks k)))],ck:=[] }))) (.ret (.tup []) [])) ?_
  refine ⟨fun hlt=>?_,fun hge=>?_⟩
  · have hk':k<ks.length:=by have:=of_decide_eq_true hlt; omega
    have hmem:ETy.get .int ks k∈ks:=by rw [ETy.get_eq (t:=.int) (List.getElem?_eq_getElem hk')]; exact a8 hk'
    have hy:=hks _ hmem
    have ht:=iu ks (fun k=>dz c.states ts k) hk'
    refine ⟨⟨by omega,by omega⟩,⟨hy.1,hl⟩,?_⟩
    have hm2:=Ae ks (fun k=>dz c.states ts k) hk'
    have ew:(ts.any fun t=>decide (t≥ETy.get .int ks k)&&decide (t<((endM c.states (ETy.get .int ks k).toNat:Nat):Int)))=dz c.states ts (ETy.get .int ks k):=rfl
    rw [ew]
    cases hb:dz c.states ts (ETy.get .int ks k)
    · refine J.off 2 6 (by kernel_rfl) (?_:zJ146Ed Γ _ [.ops [1,0,0,1,1,0,0,1,1,0] 8,.code [1,0,0,1,1,0,0,1,1,1],.inBlock 1,.code [1,0,0,1,1,1],.inLoop [1,0,0],.inBlock 0] ({ n:=31,fr:=[(0,.p (.v (Value.func (Fn.yield lp) #[] #[]))),(1,.p (.ref .chart c 0)),(3,.p (.ref .ints ts 0)),(11,.p (.lst .int ks)),(12,.i ks.length),(13,.i k),(24,.p (.bool false)),(25,.grd 24 true (.p (.v (Value.func (Fn.yield lp) #[] #[])))),(26,.grd 24 true (.i (ETy.get .int ks k))),(27,.grd 24 true (.p (.bool false))),(28,.grd 24 true (.p (.bool false)))],ck:=[] }))
      refine jg j0 Tryz.func146 (.ite false (.ret (.tup []) []) (.stop zEd2 { n:=31,fr:=[(0,.p (.v (Value.func (Fn.yield lp) #[] #[]))),(1,.p (.ref .chart c 0)),(3,.p (.ref .ints ts 0)),(11,.p (.lst .int ks)),(12,.i ks.length),(13,.i (IntKind.wrap .i64 ((k:Int)+1)))],ck:=[] })) ?_
      refine ⟨fun h=>absurd h (by decide),fun _=>?_⟩
      rw [hb,if_neg (by decide),aH] at ht
      rw [aV (aC hk' hm),← ht]
      rw [← ht] at S
      first
      | (exfalso; omega)
      | exact ih (k+1) (by omega) (by omega) Γ S hR
    · have hp:=hm2 hb
      rw [if_pos hb] at ht
      refine J.settleA 24 true (by kernel_rfl) ?_
      refine J.yieldX (g:=25) (xa:=26) (d:=27) (lp:=lp) (x:=ETy.get .int ks k) (q':=(ks.take (k+1)).filter (fun k=>dz c.states ts k)=ks.filter fun k=>dz c.states ts k) (It:=JJ ((ks.take (k+1)).filter fun k=>dz c.states ts k))
       (If:=Jx ((ks.take k).filter (fun k=>dz c.states ts k)++[ETy.get .int ks k])) S (by kernel_rfl) (by kernel_rfl) rfl rfl (by kernel_rfl) (by kernel_rfl) (hJ _) (fun W hW=>?_) (fun w w' v h1 h2 h3=>?_) (fun Γ' S' ha=>?_) ?_
      · rw [ht]; exact hY _ _ W hy.2 hW hp.1
      · rw [hR]; exact hfin w' v (hJ _ _ _ (by rw [← h3]; exact h1) h2)
      · show zJ146Ed Γ' _ [.ops [1,0,0,1,1,0,0,1,1,0] 7,.code [1,0,0,1,1,0,0,1,1,1],.inBlock 1,.code [1,0,0,1,1,1],.inLoop [1,0,0],.inBlock 0] ({ n:=31,fr:=[(0,.p (.v (Value.func (Fn.yield lp) #[] #[]))),(1,.p (.ref .chart c 0)),(3,.p (.ref .ints ts 0)),(11,.p (.lst .int ks)),(12,.i ks.length),(13,.i k),(24,.p (.bool true)),(25,.x (.c (.pd (.v (.func (.yield lp) #[] #[]))))),(26,.i ((ETy.get .int ks k))),(27,.p (.bool true))],ck:=[] })
        refine jg j0 Tryz.func146 (.ite false (.ret (.tup []) []) (.stop zEd2 { n:=31,fr:=[(0,.p (.v (Value.func (Fn.yield lp) #[] #[]))),(1,.p (.ref .chart c 0)),(3,.p (.ref .ints ts 0)),(11,.p (.lst .int ks)),(12,.i ks.length),(13,.i (IntKind.wrap .i64 ((k:Int)+1)))],ck:=[] })) ?_
        refine ⟨fun h=>absurd h (by decide),fun _=>?_⟩
        rw [aV (aC hk' hm)]
        first
        | (exfalso; omega)
        | exact ih (k+1) (by omega) (by omega) Γ' S' (ha.trans hR)
      · exact noX (n:=2) (t:=29) (pc:=[1,0,0,1,1,0,0,1,1,1]) [(24,true)] Tryz.func146 rfl (by kernel_rfl) (by kernel_rfl) (by kernel_rfl) (by kernel_rfl) (fun w v h=>by rw [hR]; exact hbad _ w v hp.2 h)
  · have hke:k=ks.length:=by have:=of_decide_eq_false hge; omega
    subst hke
    rw [aQ (ar _)]
    exact rfl
theorem DP (i:Nat) (ts:List Int) (t:Tre c.states) (hi:i<c.states.length):vN true Tryz.prog 146 [.pd (.ref .chart c 0),.pd (.ref .int (i:Int) 0),.pd (.ref .ints ts 0)] (fun x=>0≤x∧x<(c.states.length:Int)) ((ba c.states i).filter fun k=>dz c.states ts k):=by
 have hf:=t.shp.few
 have hkl:=ki c.states i
 have hl:c.states.length≤maxLen:=by unfold maxLen; omega
 have hks:∀ y∈ba c.states i,bU c.states y=true∧0≤y∧y<(c.states.length:Int):=fun y hy=>by
  obtain ⟨m,rfl,hm,_⟩:=fF t hi hy
  exact ⟨by rw [fu t.right hm],by omega,by omega⟩
 refine On Tryz.func146 (by kernel_rfl) (by kernel_rfl) fun lp n0 H0 JJ Jx Γ hJ hJx hfin hbad hY S=>?_
 refine jg j0 Tryz.func146 (.need (bU c.states (i:Int)=true) (.stop zEd2 { n:=31,fr:=[(0,.p (.v (Value.func (Fn.yield lp) #[] #[]))),(1,.p (.ref .chart c 0)),(3,.p (.ref .ints ts 0)),(11,.x (.c (.own 0))),(12,.i (↑((ba c.states i).length):Int)),(13,.i 0)],ck:=[.own 3 .int (ba c.states i)] })) ?_
 refine ⟨by rw [fu t.right hi],?_⟩
 show zJ146Ed Γ _ zEd2 ({ n:=31,fr:=[(0,.p (.v (Value.func (Fn.yield lp) #[] #[]))),(1,.p (.ref .chart c 0)),(3,.p (.ref .ints ts 0)),(11,.x (.c (.own 0))),(12,.i (((ba c.states i).length:Int))),(13,.i (0))],ck:=[.own 3 .int (ba c.states i)] })
 generalize ba c.states i=ks at hkl hks hfin hbad hY ⊢
 have h2:zJ146Ed Γ (fun _ _=>(ks.filter fun k=>dz c.states ts k)=[]) zEd2 ({ n:=31,fr:=[(0,.p (.v (Value.func (Fn.yield lp) #[] #[]))),(1,.p (.ref .chart c 0)),(3,.p (.ref .ints ts 0)),(11,.p (.lst .int ks)),(12,.i ((ks.length:Int))),(13,.i (0))],ck:=[.dead] }) :=
  J.undead rfl (J.mono (fun v ck h=>h.symm) (KX c i ts ks lp n0 H0 JJ Jx Γ.alt hl (by omega) hks hJ hfin hbad hY ks.length 0 (by omega) (by omega) Γ S rfl))
 exact J.freeze aX [0] (by kernel_rfl) h2
end Go.Proofs.YtgfifkhbfdacjaaGreatDoor
namespace Go.Proofs.YtgfifkhbfdacjaaGreatDoor
open Go Go.Ev
set_option maxRecDepth 100000
def NT (l:List Ev.Stat) (ch:Nat→Int):Prop:=∀ k,k<l.length→knd l k=2→∃ q:Nat,ch k=(q:Int)∧q<l.length∧upM l q=(k:Int)∧aM (knd l q)=false
variable {l:List Ev.Stat}
theorem NT.kid {ch:Nat→Int} (h:NT l ch):Kid l ch:=fun k hk h2=>by
 obtain ⟨q,a,b,c,_⟩:=h k hk h2
 exact ⟨q,a,b,c⟩
theorem uq (t:Tre l) {s:List Int} (h:Lgl l s) {u:Nat} (hu:u<l.length) (hus:(u:Int)∈s) {ts:List Int} (hts:∀ x:Int,x∈ts↔x∈s∧eD l x=true∧(u:Int)<x∧x<((endM l u:Nat):Int)) {p:Nat} (hp:p<l.length) (hps:(p:Int)∈s) (hpu:u≤p∧p<endM l u) (hk:knd l p=2) :
 ∃ q:Nat,fP l ts p=(q:Int)∧(q:Int)∈s∧upM l q=(p:Int)∧q<l.length:=by
 have hep:endM l p≤endM l u:=by
  by_cases he:p=u
  · subst he; exact ar _
  · exact gK l hu (by omega) hpu.2
 obtain ⟨q,hq,hqu,hqs,hone⟩:=h.one p hp hps hk
 have hqb:=(cv t.shp hq).1 hqu
 have way:∀ m:Nat,m<l.length→upM l m=(p:Int)→(dz l ts (m:Int)=true↔m=q):=fun m hm hmu=>by
  have hmb:=(cv t.shp hm).1 hmu
  unfold dz
  rw [br]
  constructor
  · rintro ⟨x,hx,hb⟩
    rw [af,decide_eq_true_eq,decide_eq_true_eq,ai] at hb
    obtain ⟨hxs,_,_,_⟩:=(hts x).1 hx
    obtain ⟨k,rfl,hkl,_⟩:=h.rng x hxs
    refine hone m hm hmu ?_
    by_cases hkm:k=m
    · rw [← hkm]; exact hxs
    · exact FW t h m _ k hkl (ar _) hxs (by omega) (by omega)
  · rintro rfl
    obtain ⟨k,h1,h2,h3,h4⟩:=mZ t h _ m hm (ar _) hqs
    have h5:=cN l hm
    have h6:=gK l hp hmb.1 hmb.2.1
    refine ⟨(k:Int),(hts _).2 ⟨h2,h3,by omega,by omega⟩,?_⟩
    rw [af,decide_eq_true_eq,decide_eq_true_eq,ai]
    omega
 refine ⟨q,?_,hqs,hqu,hq⟩
 unfold fP
 cases hf:(ba l p).find? fun y=>dz l ts y with
 | none =>
   have:=List.find?_eq_none.1 hf (q:Int) ((dA t.shp hp _).2 ⟨q,rfl,hq,hqu⟩)
   exact absurd ((way q hq hqu).2 rfl) this
 | some y =>
   obtain ⟨m,rfl,hm,hmu⟩:=(dA t.shp hp y).1 (List.mem_of_find?_eq_some hf)
   rw [(way m hm hmu).1 (List.find?_some hf)]
theorem wL (t:Tre l) {s:List Int} (h:Lgl l s) {u:Nat} (hu:u<l.length) (hus:(u:Int)∈s) {ts:List Int} (hts:∀ x:Int,x∈ts↔x∈s∧eD l x=true∧(u:Int)<x∧x<((endM l u:Nat):Int)) (j:Nat):Rchd l (fP l ts) u j↔j<l.length∧(j:Int)∈s∧u≤j∧j<endM l u:=by
 have he:=cN l hu
 constructor
 · intro hE
   induction hE with
   | self=>exact ⟨hu,hus,ar _,he.1⟩
   | @step p j h1 h2 h3 h4 ih =>
     have hb:=(cv t.shp h2).1 h3
     have hep:endM l p≤endM l u:=by
      by_cases hp:p=u
      · subst hp; exact ar _
      · exact gK l hu (by omega) ih.2.2.2
     refine ⟨h2,?_,by omega,by omega⟩
     rcases h4 with h4 | ⟨h4,h5⟩
     · exact h.both p ih.1 ih.2.1 h4 j h2 h3
     · obtain ⟨q,e,hqs,_⟩:=uq t h hu hus hts ih.1 ih.2.1 ⟨ih.2.2.1,ih.2.2.2⟩ h4
       rw [← h5,e]; exact hqs
 · rintro ⟨hj,hjs,h1,h2⟩
   have key:∀ (n j:Nat),j≤n→j<l.length→(j:Int)∈s→u≤j→j<endM l u→Rchd l (fP l ts) u j:=by
    intro n
    induction n with
    | zero =>
      intro j hn hj hjs h1 h2
      have:j=u:=by omega
      subst this; exact .self
    | succ n ih =>
      intro j hn hj hjs h1 h2
      by_cases hju:j=u
      · subst hju; exact .self
      · obtain ⟨h3,h4⟩:=(mI l hj hju).1 ⟨by omega,h2⟩
        obtain ⟨p,hp⟩:=aA h3
        have hb:=(cv t.shp hj).1 hp
        have hps:=h.par j p hj hjs hp
        have hE:=ih p (by omega) (by omega) hps (by omega) (by omega)
        refine .step hE hj hp ?_
        rcases t.both hj hp with h5 | h5
        · obtain ⟨q,e,hqs,hqu,hq⟩:=uq t h hu hus hts (by omega) hps ⟨by omega,by omega⟩ h5
          obtain ⟨q',_,_,_,hone⟩:=h.one p (by omega) hps h5
          have e1:=hone q hq hqu hqs
          have e2:=hone j hj hp hjs
          exact .inr ⟨h5,by rw [e,e1,e2]⟩
        · exact .inl h5.1
   exact key j j (ar _) hj hjs h1 h2
theorem BW (t:Tre l) {s:List Int} (h:Lgl l s) {u:Nat} (hu:u<l.length) (hus:(u:Int)∈s) (hk:knd l u=2∨knd l u=3) {ts:List Int} (hs:ts.Pairwise (· < ·)) (hts:∀ x:Int,x∈ts↔x∈s∧eD l x=true∧(u:Int)<x∧x<((endM l u:Nat):Int)) :
 b9 l (dnM l ts u)=ts∧0<ts.length:=by
 constructor
 · unfold b9
   refine iV ((pt t (iW t ts) _ u hu).1.filter _) hs fun y=>?_
   rw [aB]
   unfold dnM
   rw [FZ t (iW t ts) hu,hts]
   constructor
   · rintro ⟨⟨j,rfl,hne,hE⟩,hl⟩
     have:=(wL t h hu hus hts j).1 hE
     exact ⟨this.2.1,hl,by omega,by omega⟩
   · rintro ⟨h1,h2,h3,h4⟩
     obtain ⟨j,rfl,hj,_⟩:=h.rng y h1
     exact ⟨⟨j,rfl,by omega,(wL t h hu hus hts j).2 ⟨hj,h1,by omega,by omega⟩⟩,h2⟩
 · obtain ⟨k,h1,h2,h3,h4⟩:=mZ t h _ u hu (ar _) hus
   refine List.length_pos_of_mem ((hts (k:Int)).2 ⟨h2,h3,?_⟩)
   rcases h4 with rfl | h4
   · unfold eD at h3
     rw [ai,aO,beq_iff_eq,beq_iff_eq] at h3
     have h3':knd l k=1∨knd l k=4:=h3
     omega
   · omega
end Go.Proofs.YtgfifkhbfdacjaaGreatDoor
namespace Go.Proofs.YtgfifkhbfdacjaaGreatDoor
open Go Go.Ev
set_option maxRecDepth 100000
def cj (l:List Ev.Stat) (p:Past):Bool :=
 if (decide (p.state<0)||decide (p.state≥(l.length:Int)) || !aM (ETy.get .stat l p.state.toNat).kind)=true then false
 else if ((ETy.get .stat l p.state.toNat).kind==5)=true then (p.set.length==1)&&inB (ba l (upM l p.state.toNat).toNat) (ETy.get .int p.set 0) && !aM (ETy.get .stat l (ETy.get .int p.set 0).toNat).kind
 else decide (0<p.set.length)&&b9 l (dnM l p.set (upM l p.state.toNat).toNat)==p.set
def qC (q:Option Int) (n:Int):Bool:=match q with
 | none=>true
 | some k=>decide (k<n)
def b8 (f:Past→Bool) (q:Option Int) (l:List Past):Bool:=match l with
 | []=>true
 | p::r=>qC q p.state&&f p&&b8 f (some p.state) r
variable (ps:List Past) {l:List Ev.Stat}
def dN (i:Int):Option Past:=ps.find? fun p=>p.state==i
def mV (l:List Ev.Stat) (s:List Int) (i:Nat):List Int:=s.filter fun k=>(ETy.get .stat l i).kind==5&&aN l k.toNat==aN l i||(ETy.get .stat l i).kind==6&&(inB (b9 l s) k&&eQ l (aN l i) k.toNat)
def fq (l:List Ev.Stat) (s left:List Int) (ps:List Past) (i:Nat):Option Past :=
 if aM (ETy.get .stat l i).kind=true then (if (inB left (aN l i)&&inB s (aN l i))=true then some ⟨(i:Int),mV l s i⟩ else dN ps (i:Int)) else none
def nZ (l:List Ev.Stat) (s left:List Int) (ps:List Past):List Past:=(List.range l.length).filterMap (fq l s left ps)
theorem ti (t:Tre l) {i:Nat} (hi:i<l.length) (hp:aM (knd l i)=true):∃ u:Nat,upM l i=(u:Int)∧u<i∧u<l.length∧knd l u=2:=by
 have hd:dep l i≠0:=fun h0=>by
  have:=t.reg hi h0
  rw [this] at hp; cases hp
 obtain ⟨u,hu⟩:∃ u:Nat,upM l i=(u:Int):=by
  rcases jv l i with ⟨_,h⟩ | ⟨u,hu,_⟩
  · exfalso
    have h1:=t.shp.lo i hi
    have h0:=t.shp.d0
    rcases Nat.eq_zero_or_pos i with rfl | hp
    · exact hd h0
    · have:=h 0 hp; omega
  · exact ⟨u,hu⟩
 have hk:=(cv t.shp hi).1 hu
 refine ⟨u,hu,hk.1,by omega,?_⟩
 rcases t.both hi hu with h | ⟨_,h⟩
 · exact h
 · exfalso
   have hp':(knd l i==5||knd l i==6)=true:=hp
   rw [aO] at hp'
   rcases hp' with h2 | h2
   · have:=eq_of_beq h2; omega
   · have:=eq_of_beq h2; omega
theorem Cn {a:List Int} {n:Nat} (h:a.Pairwise (· < ·)) (hb:∀ y∈a,0≤y∧y<(n:Int)):a.length≤n:=by
 have e:a=((List.range n).filter fun j:Nat=>inB a (j:Int)).map fun j:Nat=>(j:Int):=by
  refine iV h (k8 _ _) fun y=>?_
  rw [aU]
  constructor
  · intro hy
    obtain ⟨h1,h2⟩:=hb y hy
    obtain ⟨k,rfl⟩:=aA h1
    exact ⟨k,by rw [aB,bB,eg]; exact ⟨by omega,hy⟩,rfl⟩
  · rintro ⟨k,hk,rfl⟩
    rw [aB,bB,eg] at hk
    exact hk.2
 rw [e,aP]
 exact aw (a6 _ _) (by simp)
theorem lZ (f:Past→Bool) (q:Option Int) (p:Past) (r:List Past):b8 f q (p::r)=(qC q p.state&&f p&&b8 f (some p.state) r):=rfl
theorem ue {f:Past→Bool}:∀ {ps:List Past} {q:Option Int},ps.Pairwise (fun a b=>a.state<b.state)→(∀ n,q=some n→∀ p∈ps,n<p.state)→(∀ p∈ps,f p=true)→b8 f q ps=true
 | [],_,_,_,_=>rfl
 | p::r,q,h1,h2,h3=>by
   have hp:=cf.1 h1
   rw [lZ,h3 p az,ue hp.2 (fun n e x hx=>by cases e; exact hp.1 x hx) fun x hx=>h3 x (aL _ hx),cT,cT]
   cases q with
   | none=>rfl
   | some n=>exact decide_eq_true (h2 n rfl p az)
theorem uJ {f:Past→Bool}:∀ {ps:List Past} {q:Option Int},b8 f q ps=true→ps.Pairwise (fun a b=>a.state<b.state)∧(∀ n,q=some n→∀ p∈ps,n<p.state)∧∀ p∈ps,f p=true
 | [],q,_=>⟨.nil,fun _ _ _ h=>(by cases h),fun _ h=>(by cases h)⟩
 | p :: r,q,h=>by
   rw [lZ,af,af] at h
   obtain ⟨h1,h2,h3⟩:=uJ h.2
   have hp:∀ x∈r,p.state<x.state:=h2 _ rfl
   refine ⟨cf.2 ⟨hp,h1⟩,fun n e x hx=>?_,fun x hx=>?_⟩
   · subst e
     have hn:n<p.state:=of_decide_eq_true h.1.1
     rcases aF.1 hx with rfl | hx
     · exact hn
     · have:=hp x hx; omega
   · rcases aF.1 hx with rfl | hx
     · exact h.1.2
     · exact h3 x hx
theorem qG {ps:List Past} {i:Int} {p:Past} (h:dN ps i=some p):p∈ps∧p.state=i:=⟨List.mem_of_find?_eq_some h,eq_of_beq (List.find?_some (p:=fun p:Past=>p.state==i) h)⟩
theorem AN (t:Tre l) {s:List Int} (h:Lgl l s) {i:Nat} (hi:i<l.length) (hk:knd l i=5) (hus:aN l i∈s):∃ q:Nat,mV l s i=[(q:Int)]∧q<l.length∧upM l q=upM l i∧aM (knd l q)=false:=by
 obtain ⟨u,hu,hui,hul,hk2⟩:=ti t hi (by rw [hk]; rfl)
 rw [dZ t.shp hi,hu] at hus
 obtain ⟨q,h1,h2,h3,h4⟩:=h.one u hul hus hk2
 obtain ⟨q',e,_,hq⟩:=h.rng _ h3
 have:q=q':=by omega
 subst this
 refine ⟨q,?_,h1,by rw [h2,hu],hq⟩
 have hk':(ETy.get .stat l i).kind=5:=hk
 unfold mV
 rw [dZ t.shp hi,hu,hk']
 refine iV (h.inc.filter _) (eY _ _) fun y=>?_
 rw [aB,aY]
 constructor
 · rintro ⟨hy,hb⟩
   obtain ⟨m,rfl,hm,_⟩:=h.rng y hy
   rw [ai,dZ t.shp hm] at hb
   have hb':upM l m=(u:Int):=by simpa using hb
   rw [h4 m hm hb' hy]
 · rintro rfl
   refine ⟨h3,?_⟩
   rw [ai,dZ t.shp h1,h2]; simp
theorem Jf (t:Tre l) {s:List Int} (h:Lgl l s) {i u:Nat} (hi:i<l.length) (hk:knd l i=6) (hu:upM l i=(u:Int)) (x:Int):x∈mV l s i↔x∈s∧eD l x=true∧(u:Int)<x∧x<((endM l u:Nat):Int):=by
 have hk':(ETy.get .stat l i).kind=6:=hk
 unfold mV
 rw [dZ t.shp hi,hu,hk',aB]
 constructor
 · rintro ⟨hx,hb⟩
   obtain ⟨m,rfl,hm,_⟩:=h.rng x hx
   rw [ai,rA t.shp hm] at hb
   have hb':(inB (b9 l s) (m:Int)&&(decide (u<m)&&decide (m<endM l u)))=true:=by simpa using hb
   rw [af,af,eg] at hb'
   have h1:=(aB.1 hb'.1).2
   have h2:=of_decide_eq_true hb'.2.1
   have h3:=of_decide_eq_true hb'.2.2
   exact ⟨hx,h1,by omega,by omega⟩
 · rintro ⟨hx,hb,h1,h2⟩
   obtain ⟨m,rfl,hm,_⟩:=h.rng x hx
   have hin:inB (b9 l s) (m:Int)=true:=(eg _ _).2 (aB.2 ⟨hx,hb⟩)
   refine ⟨hx,?_⟩
   rw [ai,rA t.shp hm,decide_eq_true (show u<m by omega),decide_eq_true (show m<endM l u by omega),hin]
   rfl
theorem L9 (t:Tre l) {s left:List Int} (h:Lgl l s) {ps:List Past} (hps:b8 (cj l) none ps=true) {i:Nat} (hi:i<l.length) {p:Past} (hp:fq l s left ps i=some p):p.state=(i:Int)∧cj l p=true:=by
 unfold fq at hp
 by_cases hpm:aM (ETy.get .stat l i).kind=true
 · rw [if_pos hpm] at hp
   by_cases hb:(inB left (aN l i)&&inB s (aN l i))=true
   · rw [if_pos hb] at hp
     simp only [aa] at hp
     subst hp
     refine ⟨rfl,?_⟩
     rw [af] at hb
     have hus:=(eg _ _).1 hb.2
     obtain ⟨u,hu,hui,hul,hk2⟩:=ti t hi hpm
     unfold cj
     simp only [ai]
     rw [hpm,if_neg (by rw [decide_eq_false (by omega),decide_eq_false (by omega)]; decide),hu,ai]
     by_cases h5:((ETy.get .stat l i).kind==5)=true
     · rw [if_pos h5]
       obtain ⟨q,e,hq,hqu,hqp⟩:=AN t h hi (eq_of_beq h5) hus
       rw [e]
       have hqk:inB (ba l u) (q:Int)=true:=(eg _ _).2 ((dA t.shp hul _).2 ⟨q,rfl,hq,by rw [hqu,hu]⟩)
       have e2:ETy.get .int [(q:Int)] 0=(q:Int):=rfl
       rw [e2,hqk,ai,show aM (ETy.get .stat l q).kind=false from hqp]; rfl
     · rw [if_neg h5]
       have h6:knd l i=6:=by
        have hpm':((ETy.get .stat l i).kind==5||(ETy.get .stat l i).kind==6)=true:=hpm
        rw [aO] at hpm'
        rcases hpm' with h | h
        · exact absurd h h5
        · exact eq_of_beq h
       rw [dZ t.shp hi,hu] at hus
       have hd:=BW t h hul hus (.inl hk2) (ts:=mV l s i) (h.inc.filter _) (Jf t h hi h6 hu)
       rw [hd.1,decide_eq_true hd.2]; simp
   · rw [if_neg hb] at hp
     obtain ⟨h1,h2⟩:=qG hp
     exact ⟨h2,(uJ hps).2.2 p h1⟩
 · rw [if_neg hpm] at hp; cases hp
theorem Fw (t:Tre l) {s left:List Int} (h:Lgl l s) {ps:List Past} (hps:b8 (cj l) none ps=true):b8 (cj l) none (nZ l s left ps)=true:=by
 have key : ∀ n,n≤l.length→(((List.range n).filterMap (fq l s left ps)).Pairwise fun a b=>a.state<b.state)∧∀ p∈(List.range n).filterMap (fq l s left ps),p.state<(n:Int)∧cj l p=true:=by
  intro n
  induction n with
  | zero=>intro _; exact ⟨.nil,fun p hp=>by cases hp⟩
  | succ n ih =>
    intro hn
    obtain ⟨i1,i2⟩:=ih (by omega)
    rw [dB,List.filterMap_append]
    cases hr:fq l s left ps n with
    | none =>
      have e:[n].filterMap (fq l s left ps)=[]:=by simp [hr]
      rw [e,aH]
      exact ⟨i1,fun p hp=>by have:=i2 p hp; exact ⟨by omega,this.2⟩⟩
    | some p =>
      have e:[n].filterMap (fq l s left ps)=[p]:=by simp [hr]
      obtain ⟨h1,h2⟩:=L9 t h hps (by omega) hr
      rw [e]
      refine ⟨List.pairwise_append.2 ⟨i1,eY _ _,fun a ha b hb=>?_⟩,fun x hx=>?_⟩
      · rw [aY] at hb
        subst hb
        have:=(i2 a ha).1; omega
      · rcases bK.1 hx with hx | hx
        · have:=i2 x hx; exact ⟨by omega,this.2⟩
        · rw [aY] at hx
          subst hx
          exact ⟨by omega,h2⟩
 obtain ⟨h1,h2⟩:=key l.length (ar _)
 exact ue h1 (fun _ e=>by cases e) fun p hp=>(h2 p hp).2
end Go.Proofs.YtgfifkhbfdacjaaGreatDoor

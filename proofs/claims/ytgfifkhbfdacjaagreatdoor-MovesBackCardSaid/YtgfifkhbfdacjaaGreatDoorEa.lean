/- Contracts: moves: past, leaf, leaves, whether targets stand within a state; tree.End. Conditions: sizes. A configuration behind a transition is legal; what histories remember is right (plain). Conditions: a valid chart. What histories remember: right, recorded, made (plain). Conditions: a valid chart. -/
import Derived.Test.YtgfifkhbfdacjaaGreatDoorNh
import Derived.Test.YtgfifkhbfdacjaaGreatDoorVl
import Derived.Test.YtgfifkhbfdacjaaGreatDoorCe
import Derived.Test.YtgfifkhbfdacjaaGreatDoorKb
namespace Go.Proofs.YtgfifkhbfdacjaaGreatDoor
open Go Go.Ev
set_option maxRecDepth 100000
abbrev zJ146Ed:=J Tryz.prog 146 (au Tryz.f146)
variable (c:Chart) (l:List Int) (a i k e:Int) (ks s ts:List Int)
theorem A4:ah Tryz.prog 38 [.i k] [] (.x (.b (aO k))) []:=by
 refine dg aR Tryz.func38 (.ret (.p (.bool (k==(5:Int)||k==(6:Int)))) []) fun Γ=>?_
 exact ⟨rfl,rfl⟩
def iU:Ent:=(38,fun
 | [.c (.pd (.int .i64 k))],[]=>some (none,.x (.c (.pd (.bool (aO k)))),[])
 | _,_=>none)
theorem iy:EntOk Tryz.prog iU:=entOk fun vs ck=>by
 unfold iU; dsimp only; split
 · rename_i k; exact entS fun hp=>A4 k
 · exact entN
def Fv:Cfg:=⟨aY,[o8,rH]⟩
theorem FA:ag Tryz.prog Fv.tab:=(ag.cons p9 (ag.cons v7 ag.nil))
theorem ET (l:List Ev.Stat) (i:Int) (h:bR l i=true∧l.length≤maxLen):ah Tryz.prog 147 [.l .stat l,.i i] [] (.x (.i ((endM l i.toNat:Nat):Int))) []:=by
 have hi:=o3 h.1
 refine dg FA Tryz.func147 (.need (l.length≤maxLen) (.ite (!bR l i) (.ret (.i (-1:Int)) []) (.need ((0:Int)≤i∧i<(l.length:Int)∧l.length≤maxLen) (.ret (.i (↑(endM l (Int.toNat i)):Int)) [])))) fun Γ=>?_
 refine ⟨h.2,fun hb=>?_,fun _=>⟨⟨hi.1,hi.2,h.2⟩,rfl,rfl⟩⟩
 have hb':(!bR l i)=true:=hb
 rw [h.1] at hb'; cases hb'
def uZ:Ent:=(147,fun
 | [.c (.pd (.lst .stat l)),.c (.pd (.int .i64 i))],[]=>some (some (bR l i=true∧l.length≤maxLen),.x (.c (.pd (.int .i64 ((endM l i.toNat:Nat):Int)))),[])
 | _,_=>none)
theorem HK:EntOk Tryz.prog uZ:=entOk fun vs ck=>by
 unfold uZ; dsimp only; split
 · rename_i l i; exact entS fun hp=>ET l i hp
 · exact entN
theorem Bf (h:0≤i∧i<(c.states.length:Int)):ah Tryz.prog 49 [.e .chart c,.i i] [] (.x (.b (er c.states i))) []:=by
 refine dg aR Tryz.func49 (.need ((0:Int)≤i∧i<(c.states.length:Int)) (.need ((Stat.kind (ETy.get .stat c.states (Int.toNat i))==(1:Int))=false→(0:Int)≤i∧i<(c.states.length:Int)) (.ret (.p (.bool (Stat.kind (ETy.get .stat c.states (Int.toNat i))==(1:Int)||Stat.kind (ETy.get .stat c.states (Int.toNat i))==(4:Int)))) []))) fun Γ=>?_
 exact ⟨h,fun _=>h,rfl,rfl⟩
def nu:Ent:=(49,fun
 | [.agg [.pd (.str a),.pd (.lst .str b),.pd (.lst .var c),.pd (.lst .stat d),.pd (.lst .tran e)],.c (.pd (.int .i64 i))],[]=>some (some (0≤i∧i<(d.length:Int)),.x (.c (.pd (.bool (er d i)))),[])
 | _,_=>none)
theorem tu:EntOk Tryz.prog nu:=entOk fun vs ck=>by
 unfold nu; dsimp only; split
 · rename_i a b c d e i; exact entS fun hp=>Bf ⟨a,b,c,d,e⟩ i hp
 · exact entN
def wg:Cfg:=⟨aY,[nu]⟩
theorem tV:ag Tryz.prog wg.tab:=(ag.cons tu ag.nil)
theorem xc (l:List Ev.Stat) (s:List Int) (k:Nat) (hk:k<s.length):dc l (s.take (k+1))=dc l (s.take k)++(if er l (ETy.get .int s k)=true then [ETy.get .int s k] else []):=by
 unfold dc
 rw [ETy.get_eq (t:=.int) (List.getElem?_eq_getElem hk),aU hk,b5]
 cases h:er l s[k] <;> simp [h]
abbrev zEd1 (a:Chart):Chunk:=.cells [.pd (.str a.name),.pd (.lst .str a.events),.pd (.lst .var a.vars),.pd (.lst .stat a.states),.pd (.lst .tran a.trans)] 27
abbrev zEd3:List PI:=[.code [1,1,0,1,0,0],.inLoop [1,1,0,1,0,0],.inBlock 0,.code [1,1,1]]
theorem H5 (hl:s.length≤1000) (hs:∀ y∈s,0≤y∧y<(c.states.length:Int)) (Γ:Ctx):∀ (n k:Nat),s.length - k≤n→k≤s.length →
 J Tryz.prog 145 (au Tryz.f145) Γ (Eq2 (.x (.c (.own 0))) [.own 3 .int (dc c.states s)]) zEd3 ({ n:=23,fr:=[(2,.x (.c (.loc 0 0))),(4,.p (.v (Value.slice none 0 0))),(5,.x (.c (.own 1))),(8,.p (.lst .int s)),(9,.i s.length),(10,.i ((k:Int)))],ck:=[zEd1 c,.own 3 .int (dc c.states (s.take k))] }):=by
 have hm:s.length≤maxLen:=by unfold maxLen; omega
 intro n
 induction n with
 | zero=>?_
 | succ n ih=>?_
 all_goals
  intro k hn hk
  have hol:(dc c.states (s.take k)).length≤k:=av (br _ _) (by rw [bj]; omega)
  have htk:=xc c.states s k
  generalize hout:dc c.states (s.take k)=out at hol htk
  refine jg tV Tryz.func145 (let x1:List (Nat×SV):=[(2,.x (.c (.loc 0 0))),(4,.p (.v (Value.slice none 0 0))),(5,.x (.c (.own 1))),(8,.p (.lst .int s)),(9,.i s.length),(10,.i (IntKind.wrap .i64 ((k:Int)+1)))]; let x2:List PI:=zEd3; .ite (decide ((k:Int)<(s.length:Int))) (.need (inRg k s.length) (.need ((0:Int)≤ETy.get .int s k∧ETy.get .int s k<(c.states.length:Int)) (.ite (er c.states (ETy.get .int s k)) (.need (room ((out++[ETy.get .int s k]).length) 8) (.stop x2 { n:=23,fr:=x1,ck:=[zEd1 c,.own 3 .int (out++[ETy.get .int s k])] })) (.stop x2 { n:=23,fr:=x1,ck:=[zEd1 c,.own 3 .int out] })))) (.ret (.x (.c (.own 0))) [.own 3 .int out])) ?_
  conv=>zeta
  refine ⟨fun hlt=>?_,fun hge=>?_⟩
  · have hk':k<s.length:=by have:=of_decide_eq_true hlt; omega
    have ht:=htk hk'
    have hy:=hs (ETy.get .int s k) (by rw [ETy.get_eq (t:=.int) (List.getElem?_eq_getElem hk')]; exact bo hk')
    refine ⟨⟨by omega,by omega⟩,hy,fun hb=>?_,fun hb=>?_⟩
    · rw [if_pos (by exact hb)] at ht
      refine ⟨⟨by rw [ar]; show (_+1) * 8≤_; omega,by rw [ar]; show _+1≤_; unfold maxLen; omega⟩,?_⟩
      rw [aX (aE hk' hm),← ht]
      first
      | (exfalso; omega)
      | exact ih (k+1) (by omega) (by omega)
    · have hb':er c.states (ETy.get .int s k)=false:=hb
      rw [if_neg (by rw [hb']; decide),aL] at ht
      rw [aX (aE hk' hm),← ht]
      first
      | (exfalso; omega)
      | exact ih (k+1) (by omega) (by omega)
  · have hke:k=s.length:=by have:=of_decide_eq_false hge; omega
    subst hke
    rw [aW (aq _)] at hout
    rw [← hout]; exact ⟨rfl,rfl⟩
theorem wC (h:s.length≤1000∧∀ y∈s,0≤y∧y<(c.states.length:Int)):ah Tryz.prog 145 [.e .chart c,.l .int s] [] (.x (.c (.own 0))) [.own 3 .int (dc c.states s)]:=by
 refine dg tV Tryz.func145 (.stop zEd3 { n:=23,fr:=[(2,.x (.c (.loc 0 0))),(4,.p (.v (Value.slice none 0 0))),(5,.p (.v (Value.slice none 0 0))),(8,.p (.lst .int s)),(9,.i s.length),(10,.i 0)],ck:=[zEd1 c] }) fun Γ=>?_
 refine J.nilOwn 5 3 .int rfl (by kernel_rfl) ?_
 exact H5 c s h.1 h.2 Γ s.length 0 (by omega) (by omega)
theorem um (h:s.length≤1000∧∀ y∈s,0≤y∧y<(c.states.length:Int)):ah Tryz.prog 145 [.e .chart c,.l .int s] [] (.x (.c (.pd (.lst .int (dc c.states s))))) []:=ah.chop (ck':=[]) (ah.frz aY [0] (wC c s h) rfl rfl)
def mA:Ent:=(145,fun
 | [.agg [.pd (.str a),.pd (.lst .str b),.pd (.lst .var c),.pd (.lst .stat d),.pd (.lst .tran e)],.c (.pd (.lst .int s))],[]=>some (some (s.length≤1000∧∀ y∈s,0≤y∧y<(d.length:Int)),.x (.c (.pd (.lst .int (dc d s)))),[])
 | _,_=>none)
theorem xO:EntOk Tryz.prog mA:=entOk fun vs ck=>by
 unfold mA; dsimp only; split
 · rename_i a b c d e s; exact entS fun hp=>um ⟨a,b,c,d,e⟩ s hp
 · exact entN
theorem KA (t k e:Int):ah Tryz.prog 149 [.i t,.p (.ref .int k 0),.p (.ref .int e 0)] [] (.x (.b (decide (t≥k)&&decide (t<e)))) []:=by
 refine dg aR Tryz.func149 (.ret (.p (.bool (decide (t≥k)&&decide (t<e)))) []) fun Γ=>?_
 exact ⟨rfl,rfl⟩
def eMw:Ent:=(149,fun
 | [.c (.pd (.int .i64 t)),.c (.pd (.ref .int k 0)),.c (.pd (.ref .int e 0))],[]=>some (none,.x (.c (.pd (.bool (decide (t≥k)&&decide (t<e))))),[])
 | _,_=>none)
theorem Lv:EntOk Tryz.prog eMw:=entOk fun vs ck=>by
 unfold eMw; dsimp only; split
 · rename_i t k e; exact entS fun hp=>KA t k e
 · exact entN
def vT:Cfg:=⟨aY,[eMw]⟩
theorem s7:ag Tryz.prog vT.tab:=(ag.cons Lv ag.nil)
abbrev zEd4:List PI:=[.code [1,0,1,0,0],.inLoop [1,0,1,0,0],.inBlock 0,.code [1,1]]
theorem GH (Γ:Ctx) (hl:l.length≤maxLen):∀ (n k:Nat),l.length - k≤n→k≤l.length →
 J Tryz.prog 184 (au Tryz.f184) Γ (Eq2 (.x (.i (aC (fun t:Int=>decide (t≥a)&&decide (t<e)) (l.drop k) k))) []) zEd4 ({ n:=19,fr:=[(0,.p (.lst .int l)),(1,.x (.c (.fn (.func 149) [] [.pd (.ref .int a 0),.pd (.ref .int e 0)]))),(4,.i 0),(7,.i l.length),(8,.i k)],ck:=[] }):=by
 intro n
 induction n with
 | zero=>?_
 | succ n ih=>?_
 all_goals
  intro k hn hk
  refine jg s7 Tryz.func184 (.ite (decide ((k:Int)<(l.length:Int))) (.need (inRg k l.length) (.ite (decide (ETy.get .int l k≥a)&&decide (ETy.get .int l k<e)) (.ret (.i k) []) (.stop zEd4 { n:=19,fr:=[(0,.p (.lst .int l)),(1,.x (.c (.fn (.func 149) [] [.pd (.ref .int a 0),.pd (.ref .int e 0)]))),(4,.i 0),(7,.i l.length),(8,.i (IntKind.wrap .i64 ((k:Int)+1)))],ck:=[] }))) (.ret (.i (-1:Int)) [])) ?_
  refine ⟨fun hlt=>?_,fun hge=>⟨?_,rfl⟩⟩
  · have hk':k<l.length:=by have:=of_decide_eq_true hlt; omega
    rw [bD (t:=.int) hk']
    refine ⟨by omega,?_⟩
    generalize ETy.get .int l k=v
    refine ⟨fun hb=>⟨?_,rfl⟩,fun hb=>?_⟩
    · simp only [aC,hb,cond_true]
    · simp only [aC,hb,cond_false]
      rw [aX (aE hk' hl)]
      first
      | (exfalso; omega)
      | exact ih (k+1) (by omega) (by omega)
  · rw [bO (by have:=of_decide_eq_false hge; omega)]; rfl
theorem Ic:ah Tryz.prog 184 [.l .int l,.c (.fn (.func 149) [] [.pd (.ref .int a 0),.pd (.ref .int e 0)])] [] (.x (.i (aC (fun t:Int=>decide (t≥a)&&decide (t<e)) l 0))) []:=by
 refine dg s7 Tryz.func184 (.stop zEd4 { n:=19,fr:=[(0,.p (.lst .int l)),(1,.x (.c (.fn (.func 149) [] [.pd (.ref .int a 0),.pd (.ref .int e 0)]))),(4,.i 0),(7,.i l.length),(8,.i 0)],ck:=[] }) fun Γ=>?_
 exact J.len 0 rfl fun hl=>GH l a e Γ hl l.length 0 (by omega) (by omega)
def Bw:Ent:=(184,fun
 | [.c (.pd (.lst .int l)),.c (.fn (.func 149) [] [.pd (.ref .int a 0),.pd (.ref .int e 0)])],[]=>some (none,.x (.c (.pd (.int .i64 (aC (fun t:Int=>decide (t≥a)&&decide (t<e)) l 0)))),[])
 | _,_=>none)
theorem Kk:EntOk Tryz.prog Bw:=entOk fun vs ck=>by
 unfold Bw; dsimp only; split
 · rename_i l a e; exact entS fun hp=>Ic l a e
 · exact entN
def C4:Cfg:=⟨aY,[Bw]⟩
theorem DR:ag Tryz.prog C4.tab:=(ag.cons Kk ag.nil)
theorem Gf:ah Tryz.prog 148 [.l .int l,.c (.fn (.func 149) [] [.pd (.ref .int a 0),.pd (.ref .int e 0)])] [] (.x (.b (l.any fun t:Int=>decide (t≥a)&&decide (t<e)))) []:=by
 refine dg DR Tryz.func148 (.ret (.p (.bool (decide (aC (fun t=>decide (t≥a)&&decide (t<e)) l (0:Int)≥0)))) []) fun Γ=>⟨?_,rfl⟩
 rw [hP _ _ _ (by omega)]
def Bx:Ent:=(148,fun
 | [.c (.pd (.lst .int l)),.c (.fn (.func 149) [] [.pd (.ref .int a 0),.pd (.ref .int e 0)])],[]=>some (none,.x (.c (.pd (.bool (l.any fun t:Int=>decide (t≥a)&&decide (t<e))))),[])
 | _,_=>none)
theorem Jr:EntOk Tryz.prog Bx:=entOk fun vs ck=>by
 unfold Bx; dsimp only; split
 · rename_i l a e; exact entS fun hp=>Gf l a e
 · exact entN
/-! ### the ways -/
def lY:Cfg:=⟨aY,[jD,uZ,Bx]⟩
theorem jV:ag Tryz.prog lY.tab:=(ag.cons jR (ag.cons HK (ag.cons Jr ag.nil)))
theorem Fy:ah Tryz.prog 103 [.e .chart c,.i i,.l .int ts] [] (.x (.c (.fn (.func 146) [] [.loc 0 0,.loc 1 0,.loc 2 0]))) [Chunk.cells [SC.pd (PD.str c.name),SC.pd (PD.lst .str c.events),SC.pd (PD.lst .var c.vars),SC.pd (PD.lst .stat c.states),SC.pd (PD.lst .tran c.trans)] 27,.cells [.pd (.int .i64 i)] 3,.cells [.pd (.lst .int ts)] 36]:=by
 refine dg jV Tryz.func103 (.ret (.x (.c (.fn (.func 146) [] [.loc 0 0,.loc 1 0,.loc 2 0]))) [zEd1 c,.cells [.i i] 3,.cells [.pd (.lst .int ts)] 36]) fun Γ=>?_
 exact ⟨rfl,rfl⟩
theorem J.undead {P:Program} {f:Go.Sy.Md} {root:Code} {Γ:Ctx} {Q:Out} {todo:List PI} {st:ST} (hm:st.m=0) (hk:J P f root Γ Q todo { st with ck:=[] }):J P f root Γ Q todo st:=fun hT V a w r =>
 hk hT V a w { size:=r.size,defers:=r.defers,slots:=r.slots,wok:=r.wok.sub (fun x c h=>by simp at h),few:=⟨r.few.1,by rw [hm]; exact aQ _⟩ }
theorem lP (B:Int→Bool) {k:Nat} (hk:k<ks.length):(ks.take (k+1)).filter B=(ks.take k).filter B++(if B (ETy.get .int ks k)=true then [ETy.get .int ks k] else []):=by
 rw [ETy.get_eq (t:=.int) (List.getElem?_eq_getElem hk),aU hk,b5]
 cases h:B ks[k] <;> simp [h]
theorem yj (B:Int→Bool) {k:Nat} (hk:k<ks.length) (hb:B (ETy.get .int ks k)=true):((ks.take k).filter B).length<(ks.filter B).length∧((ks.take k).filter B++[ETy.get .int ks k]) <+: ks.filter B:=by
 have h1:=lP ks B hk
 rw [if_pos hb] at h1
 have h2:ks.filter B=(ks.take (k+1)).filter B++(ks.drop (k+1)).filter B:=by rw [← b5,cq]
 rw [h2,h1]
 refine ⟨by rw [ar,ar]; simp; omega,List.prefix_append _ _⟩
abbrev zEd2:List PI:=[.code [1,0,0],.inLoop [1,0,0],.inBlock 0]
theorem Kv (i:Int) (ts ks:List Int) (lp n0:Nat) (H0:Mem) (JJ Jx:List Int→World→Prop) (R:Ending→World→Prop) (hl:c.states.length≤maxLen) (hkl:ks.length≤1000)
 (hks:∀ y∈ks,bR c.states y=true∧0≤y∧y<(c.states.length:Int))
 (hJ:∀ s A B,JJ s A→A.grownBy B none→JJ s B) (hfin:∀ w v,JJ (ks.filter fun k=>dw c.states ts k) w→R (.returned v) w) (hbad:∀ pre w v,pre <+: (ks.filter fun k=>dw c.states ts k)→Jx pre w→R (.returned v) w)
 (hY:∀ pre x W,(0≤x∧x<(c.states.length:Int))→JJ pre W→pre.length<(ks.filter fun k=>dw c.states ts k).length→∃ n,YieldAt Fence.wide n Tryz.prog lp #[.int .i64 x] W fun e W'=>(e = .returned (.bool true)∧JJ (pre++[x]) W'∧KpX H0 n0 W W')∨(e = .returned (.bool false)∧Jx (pre++[x]) W')) :
 ∀ (n k:Nat),ks.length - k≤n→k≤ks.length→∀ Γ,Seg H0 n0 Γ (JJ ((ks.take k).filter fun k=>dw c.states ts k))→Γ.alt=R →
  zJ146Ed Γ (fun _ _=>(ks.take k).filter (fun k=>dw c.states ts k)=ks.filter fun k=>dw c.states ts k) zEd2 ({ n:=31,fr:=[(0,.p (.v (Value.func (Fn.yield lp) #[] #[]))),(1,.p (.ref .chart c 0)),(3,.p (.ref .ints ts 0)),(11,.p (.lst .int ks)),(12,.i ((ks.length:Int))),(13,.i ((k:Int)))],ck:=[] }):=by
 have hm:ks.length≤maxLen:=by unfold maxLen; omega
 intro n
 induction n with
 | zero=>?_
 | succ n ih=>?_
 all_goals
  intro k hn hk Γ S hR
  refine jg jV Tryz.func146 (.ite (decide ((k:Int)<(ks.length:Int))) (.need (inRg k ks.length) (.need (bR c.states (ETy.get .int ks k)=true∧c.states.length≤maxLen) (.stop [.ops [1,0,0,1,1,0,0,1,1,0] 6,.code [1,0,0,1,1,0,0,1,1,1],.inBlock 1,.code [1,0,0,1,1,1],.inLoop [1,0,0],.inBlock 0] { n:=31,fr:=[(0,.p (.v (Value.func (Fn.yield lp) #[] #[]))),(1,.p (.ref .chart c 0)),(3,.p (.ref .ints ts 0)),(11,.p (.lst .int ks)),(12,.i ks.length),(13,.i k),(24,.p (.bool (List.any ts fun t=>decide (t≥ETy.get .int ks k)&&decide (t<(↑(endM c.states ((ETy.get .int ks k).toNat)):Int))))),(25,.grd 24 true (.p (.v (Value.func (Fn.yield lp) #[] #[])))),(26,.grd 24 true (.i (ETy.get .int ks k)))],ck:=[] }))) (.ret (.tup []) [])) ?_
  refine ⟨fun hlt=>?_,fun hge=>?_⟩
  · have hk':k<ks.length:=by have:=of_decide_eq_true hlt; omega
    have hmem:ETy.get .int ks k∈ks:=by rw [ETy.get_eq (t:=.int) (List.getElem?_eq_getElem hk')]; exact bo hk'
    have hy:=hks _ hmem
    have ht:=lP ks (fun k=>dw c.states ts k) hk'
    refine ⟨⟨by omega,by omega⟩,⟨hy.1,hl⟩,?_⟩
    have hm2:=yj ks (fun k=>dw c.states ts k) hk'
    have ew:(ts.any fun t=>decide (t≥ETy.get .int ks k)&&decide (t<((endM c.states (ETy.get .int ks k).toNat:Nat):Int)))=dw c.states ts (ETy.get .int ks k):=rfl
    rw [ew]
    cases hb:dw c.states ts (ETy.get .int ks k)
    · refine J.off 2 6 (by kernel_rfl) (?_:zJ146Ed Γ _ [.ops [1,0,0,1,1,0,0,1,1,0] 8,.code [1,0,0,1,1,0,0,1,1,1],.inBlock 1,.code [1,0,0,1,1,1],.inLoop [1,0,0],.inBlock 0] ({ n:=31,fr:=[(0,.p (.v (Value.func (Fn.yield lp) #[] #[]))),(1,.p (.ref .chart c 0)),(3,.p (.ref .ints ts 0)),(11,.p (.lst .int ks)),(12,.i ks.length),(13,.i k),(24,.p (.bool false)),(25,.grd 24 true (.p (.v (Value.func (Fn.yield lp) #[] #[])))),(26,.grd 24 true (.i (ETy.get .int ks k))),(27,.grd 24 true (.p (.bool false))),(28,.grd 24 true (.p (.bool false)))],ck:=[] }))
      refine jg jV Tryz.func146 (.ite false (.ret (.tup []) []) (.stop zEd2 { n:=31,fr:=[(0,.p (.v (Value.func (Fn.yield lp) #[] #[]))),(1,.p (.ref .chart c 0)),(3,.p (.ref .ints ts 0)),(11,.p (.lst .int ks)),(12,.i ks.length),(13,.i (IntKind.wrap .i64 ((k:Int)+1)))],ck:=[] })) ?_
      refine ⟨fun h=>absurd h (by decide),fun _=>?_⟩
      rw [hb,if_neg (by decide),aL] at ht
      rw [aX (aE hk' hm),← ht]
      rw [← ht] at S
      first
      | (exfalso; omega)
      | exact ih (k+1) (by omega) (by omega) Γ S hR
    · have hp:=hm2 hb
      rw [if_pos hb] at ht
      refine J.settleA 24 true (by kernel_rfl) ?_
      refine J.yieldX (g:=25) (xa:=26) (d:=27) (lp:=lp) (x:=ETy.get .int ks k) (q':=(ks.take (k+1)).filter (fun k=>dw c.states ts k)=ks.filter fun k=>dw c.states ts k) (It:=JJ ((ks.take (k+1)).filter fun k=>dw c.states ts k))
       (If:=Jx ((ks.take k).filter (fun k=>dw c.states ts k)++[ETy.get .int ks k])) S (by kernel_rfl) (by kernel_rfl) rfl rfl (by kernel_rfl) (by kernel_rfl) (hJ _) (fun W hW=>?_) (fun w w' v h1 h2 h3=>?_) (fun Γ' S' ha=>?_) ?_
      · rw [ht]; exact hY _ _ W hy.2 hW hp.1
      · rw [hR]; exact hfin w' v (hJ _ _ _ (by rw [← h3]; exact h1) h2)
      · show zJ146Ed Γ' _ [.ops [1,0,0,1,1,0,0,1,1,0] 7,.code [1,0,0,1,1,0,0,1,1,1],.inBlock 1,.code [1,0,0,1,1,1],.inLoop [1,0,0],.inBlock 0] ({ n:=31,fr:=[(0,.p (.v (Value.func (Fn.yield lp) #[] #[]))),(1,.p (.ref .chart c 0)),(3,.p (.ref .ints ts 0)),(11,.p (.lst .int ks)),(12,.i ks.length),(13,.i k),(24,.p (.bool true)),(25,.x (.c (.pd (.v (.func (.yield lp) #[] #[]))))),(26,.i ((ETy.get .int ks k))),(27,.p (.bool true))],ck:=[] })
        refine jg jV Tryz.func146 (.ite false (.ret (.tup []) []) (.stop zEd2 { n:=31,fr:=[(0,.p (.v (Value.func (Fn.yield lp) #[] #[]))),(1,.p (.ref .chart c 0)),(3,.p (.ref .ints ts 0)),(11,.p (.lst .int ks)),(12,.i ks.length),(13,.i (IntKind.wrap .i64 ((k:Int)+1)))],ck:=[] })) ?_
        refine ⟨fun h=>absurd h (by decide),fun _=>?_⟩
        rw [aX (aE hk' hm)]
        first
        | (exfalso; omega)
        | exact ih (k+1) (by omega) (by omega) Γ' S' (ha.trans hR)
      · exact noX (n:=2) (t:=29) (pc:=[1,0,0,1,1,0,0,1,1,1]) [(24,true)] Tryz.func146 rfl (by kernel_rfl) (by kernel_rfl) (by kernel_rfl) (by kernel_rfl) (fun w v h=>by rw [hR]; exact hbad _ w v hp.2 h)
  · have hke:k=ks.length:=by have:=of_decide_eq_false hge; omega
    subst hke
    rw [aW (aq _)]
    exact rfl
theorem FB (i:Nat) (ts:List Int) (t:Tre c.states) (hi:i<c.states.length):uM true Tryz.prog 146 [.pd (.ref .chart c 0),.pd (.ref .int (i:Int) 0),.pd (.ref .ints ts 0)] (fun x=>0≤x∧x<(c.states.length:Int)) ((bb c.states i).filter fun k=>dw c.states ts k):=by
 have hf:=t.shp.few
 have hkl:=jW c.states i
 have hl:c.states.length≤maxLen:=by unfold maxLen; omega
 have hks:∀ y∈bb c.states i,bR c.states y=true∧0≤y∧y<(c.states.length:Int):=fun y hy=>by
  obtain ⟨m,rfl,hm,_⟩:=qz t hi hy
  exact ⟨by rw [fh t.right hm],by omega,by omega⟩
 refine ML Tryz.func146 (by kernel_rfl) (by kernel_rfl) fun lp n0 H0 JJ Jx Γ hJ hJx hfin hbad hY S=>?_
 refine jg jV Tryz.func146 (.need (bR c.states (i:Int)=true) (.stop zEd2 { n:=31,fr:=[(0,.p (.v (Value.func (Fn.yield lp) #[] #[]))),(1,.p (.ref .chart c 0)),(3,.p (.ref .ints ts 0)),(11,.x (.c (.own 0))),(12,.i (↑((bb c.states i).length):Int)),(13,.i 0)],ck:=[.own 3 .int (bb c.states i)] })) ?_
 refine ⟨by rw [fh t.right hi],?_⟩
 show zJ146Ed Γ _ zEd2 ({ n:=31,fr:=[(0,.p (.v (Value.func (Fn.yield lp) #[] #[]))),(1,.p (.ref .chart c 0)),(3,.p (.ref .ints ts 0)),(11,.x (.c (.own 0))),(12,.i (((bb c.states i).length:Int))),(13,.i (0))],ck:=[.own 3 .int (bb c.states i)] })
 generalize bb c.states i=ks at hkl hks hfin hbad hY ⊢
 have h2:zJ146Ed Γ (fun _ _=>(ks.filter fun k=>dw c.states ts k)=[]) zEd2 ({ n:=31,fr:=[(0,.p (.v (Value.func (Fn.yield lp) #[] #[]))),(1,.p (.ref .chart c 0)),(3,.p (.ref .ints ts 0)),(11,.p (.lst .int ks)),(12,.i ((ks.length:Int))),(13,.i (0))],ck:=[.dead] }) :=
  J.undead rfl (J.mono (fun v ck h=>h.symm) (Kv c i ts ks lp n0 H0 JJ Jx Γ.alt hl (by omega) hks hJ hfin hbad hY ks.length 0 (by omega) (by omega) Γ S rfl))
 exact J.freeze aY [0] (by kernel_rfl) h2
end Go.Proofs.YtgfifkhbfdacjaaGreatDoor
namespace Go.Proofs.YtgfifkhbfdacjaaGreatDoor
open Go Go.Ev
set_option maxRecDepth 100000
def L3 (l:List Ev.Stat) (ch:Nat→Int):Prop:=∀ k,k<l.length→knd l k=2→∃ q:Nat,ch k=(q:Int)∧q<l.length∧upM l q=(k:Int)∧aO (knd l q)=false
variable {l:List Ev.Stat}
theorem L3.kid {ch:Nat→Int} (h:L3 l ch):Kid l ch:=fun k hk h2=>by
 obtain ⟨q,a,b,c,_⟩:=h k hk h2
 exact ⟨q,a,b,c⟩
theorem qY (t:Tre l) {d j p:Nat} (hj:j<l.length) (hu:upM l j=(p:Int)):(d<j∧j<endM l d)↔(p=d∨(d<p∧p<endM l d)):=by
 by_cases hjd:j=d
 · subst hjd
   have:=((cB t.shp hj).1 hu).1
   exact ⟨fun h=>by omega,fun h=>by omega⟩
 · rw [jj l hj hjd,hu]
   exact ⟨fun h=>by omega,fun h=>by omega⟩
theorem tQ (t:Tre l) {s:List Int} (h:Lgl l s) {u:Nat} (hu:u<l.length) (hus:(u:Int)∈s) {ts:List Int} (hts:∀ x:Int,x∈ts↔x∈s∧er l x=true∧(u:Int)<x∧x<((endM l u:Nat):Int)) {p:Nat} (hp:p<l.length) (hps:(p:Int)∈s) (hpu:u≤p∧p<endM l u) (hk:knd l p=2) :
 ∃ q:Nat,gn l ts p=(q:Int)∧(q:Int)∈s∧upM l q=(p:Int)∧q<l.length:=by
 have hep:endM l p≤endM l u:=by
  by_cases he:p=u
  · subst he; exact aq _
  · exact gB l hu (by omega) hpu.2
 obtain ⟨q,hq,hqu,hqs,hone⟩:=h.one p hp hps hk
 have hqb:=(cB t.shp hq).1 hqu
 have way:∀ m:Nat,m<l.length→upM l m=(p:Int)→(dw l ts (m:Int)=true↔m=q):=fun m hm hmu=>by
  have hmb:=(cB t.shp hm).1 hmu
  unfold dw
  rw [bn]
  constructor
  · rintro ⟨x,hx,hb⟩
    rw [af,decide_eq_true_eq,decide_eq_true_eq,ai] at hb
    obtain ⟨hxs,_,_,_⟩:=(hts x).1 hx
    obtain ⟨k,rfl,hkl,_⟩:=h.rng x hxs
    refine hone m hm hmu ?_
    by_cases hkm:k=m
    · rw [← hkm]; exact hxs
    · exact Df t h m _ k hkl (aq _) hxs (by omega) (by omega)
  · rintro rfl
    obtain ⟨k,h1,h2,h3,h4⟩:=mF t h _ m hm (aq _) hqs
    have h5:=c7 l hm
    have h6:=gB l hp hmb.1 hmb.2.1
    refine ⟨(k:Int),(hts _).2 ⟨h2,h3,by omega,by omega⟩,?_⟩
    rw [af,decide_eq_true_eq,decide_eq_true_eq,ai]
    omega
 refine ⟨q,?_,hqs,hqu,hq⟩
 unfold gn
 cases hf:(bb l p).find? fun y=>dw l ts y with
 | none =>
   have:=List.find?_eq_none.1 hf (q:Int) ((dW t.shp hp _).2 ⟨q,rfl,hq,hqu⟩)
   exact absurd ((way q hq hqu).2 rfl) this
 | some y =>
   obtain ⟨m,rfl,hm,hmu⟩:=(dW t.shp hp y).1 (List.mem_of_find?_eq_some hf)
   rw [(way m hm hmu).1 (List.find?_some hf)]
theorem my (t:Tre l) {s:List Int} (h:Lgl l s) {u:Nat} (hu:u<l.length) (hus:(u:Int)∈s) {ts:List Int} (hts:∀ x:Int,x∈ts↔x∈s∧er l x=true∧(u:Int)<x∧x<((endM l u:Nat):Int)) (j:Nat):Rchd l (gn l ts) u j↔j<l.length∧(j:Int)∈s∧u≤j∧j<endM l u:=by
 have he:=c7 l hu
 constructor
 · intro hE
   induction hE with
   | self=>exact ⟨hu,hus,aq _,he.1⟩
   | @step p j h1 h2 h3 h4 ih =>
     have hb:=(cB t.shp h2).1 h3
     have hep:endM l p≤endM l u:=by
      by_cases hp:p=u
      · subst hp; exact aq _
      · exact gB l hu (by omega) ih.2.2.2
     refine ⟨h2,?_,by omega,by omega⟩
     rcases h4 with h4 | ⟨h4,h5⟩
     · exact h.both p ih.1 ih.2.1 h4 j h2 h3
     · obtain ⟨q,e,hqs,_⟩:=tQ t h hu hus hts ih.1 ih.2.1 ⟨ih.2.2.1,ih.2.2.2⟩ h4
       rw [← h5,e]; exact hqs
 · rintro ⟨hj,hjs,h1,h2⟩
   have key:∀ (n j:Nat),j≤n→j<l.length→(j:Int)∈s→u≤j→j<endM l u→Rchd l (gn l ts) u j:=by
    intro n
    induction n with
    | zero =>
      intro j hn hj hjs h1 h2
      have:j=u:=by omega
      subst this; exact .self
    | succ n ih =>
      intro j hn hj hjs h1 h2
      by_cases hju:j=u
      · subst hju; exact .self
      · obtain ⟨h3,h4⟩:=(jj l hj hju).1 ⟨by omega,h2⟩
        obtain ⟨p,hp⟩:=aD h3
        have hb:=(cB t.shp hj).1 hp
        have hps:=h.par j p hj hjs hp
        have hE:=ih p (by omega) (by omega) hps (by omega) (by omega)
        refine .step hE hj hp ?_
        rcases t.both hj hp with h5 | h5
        · obtain ⟨q,e,hqs,hqu,hq⟩:=tQ t h hu hus hts (by omega) hps ⟨by omega,by omega⟩ h5
          obtain ⟨q',_,_,_,hone⟩:=h.one p (by omega) hps h5
          have e1:=hone q hq hqu hqs
          have e2:=hone j hj hp hjs
          exact .inr ⟨h5,by rw [e,e1,e2]⟩
        · exact .inl h5.1
   exact key j j (aq _) hj hjs h1 h2
theorem rz (t:Tre l) {s:List Int} (h:Lgl l s) {u:Nat} (hu:u<l.length) (hus:(u:Int)∈s) (hk:knd l u=2∨knd l u=3) {ts:List Int} (hs:ts.Pairwise (· < ·)) (hts:∀ x:Int,x∈ts↔x∈s∧er l x=true∧(u:Int)<x∧x<((endM l u:Nat):Int)) :
 dc l (dnM l ts u)=ts∧0<ts.length:=by
 constructor
 · unfold dc
   refine k6 ((rN t (iz t ts) _ u hu).1.filter _) hs fun y=>?_
   rw [aA]
   unfold dnM
   rw [C3 t (iz t ts) hu,hts]
   constructor
   · rintro ⟨⟨j,rfl,hne,hE⟩,hl⟩
     have:=(my t h hu hus hts j).1 hE
     exact ⟨this.2.1,hl,by omega,by omega⟩
   · rintro ⟨h1,h2,h3,h4⟩
     obtain ⟨j,rfl,hj,_⟩:=h.rng y h1
     exact ⟨⟨j,rfl,by omega,(my t h hu hus hts j).2 ⟨hj,h1,by omega,by omega⟩⟩,h2⟩
 · obtain ⟨k,h1,h2,h3,h4⟩:=mF t h _ u hu (aq _) hus
   refine List.length_pos_of_mem ((hts (k:Int)).2 ⟨h2,h3,?_⟩)
   rcases h4 with rfl | h4
   · unfold er at h3
     rw [ai,aM,beq_iff_eq,beq_iff_eq] at h3
     have h3':knd l k=1∨knd l k=4:=h3
     omega
   · omega
end Go.Proofs.YtgfifkhbfdacjaaGreatDoor
namespace Go.Proofs.YtgfifkhbfdacjaaGreatDoor
open Go Go.Ev
set_option maxRecDepth 100000
def cw (l:List Ev.Stat) (p:Past):Bool :=
 if (decide (p.state<0)||decide (p.state≥(l.length:Int)) || !aO (ETy.get .stat l p.state.toNat).kind)=true then false
 else if ((ETy.get .stat l p.state.toNat).kind==5)=true then (p.set.length==1)&&inB (bb l (upM l p.state.toNat).toNat) (ETy.get .int p.set 0) && !aO (ETy.get .stat l (ETy.get .int p.set 0).toNat).kind
 else decide (0<p.set.length)&&dc l (dnM l p.set (upM l p.state.toNat).toNat)==p.set
def pR (q:Option Int) (n:Int):Bool:=match q with
 | none=>true
 | some k=>decide (k<n)
def cb (f:Past→Bool) (q:Option Int) (l:List Past):Bool:=match l with
 | []=>true
 | p::r=>pR q p.state&&f p&&cb f (some p.state) r
variable (ps:List Past) {l:List Ev.Stat}
def gP (i:Int):Option Past:=ps.find? fun p=>p.state==i
def j1 (l:List Ev.Stat) (s:List Int) (i:Nat):List Int:=s.filter fun k=>(ETy.get .stat l i).kind==5&&a7 l k.toNat==a7 l i||(ETy.get .stat l i).kind==6&&(inB (dc l s) k&&c9 l (a7 l i) k.toNat)
def jl (l:List Ev.Stat) (s left:List Int) (ps:List Past) (i:Nat):Option Past :=
 if aO (ETy.get .stat l i).kind=true then (if (inB left (a7 l i)&&inB s (a7 l i))=true then some ⟨(i:Int),j1 l s i⟩ else gP ps (i:Int)) else none
def j4 (l:List Ev.Stat) (s left:List Int) (ps:List Past):List Past:=(List.range l.length).filterMap (jl l s left ps)
theorem kv (t:Tre l) {i:Nat} (hi:i<l.length) (hp:aO (knd l i)=true):∃ u:Nat,upM l i=(u:Int)∧u<i∧u<l.length∧knd l u=2:=by
 have hd:dep l i≠0:=fun h0=>by
  have:=t.reg hi h0
  rw [this] at hp; cases hp
 obtain ⟨u,hu⟩:∃ u:Nat,upM l i=(u:Int):=by
  rcases kY l i with ⟨_,h⟩ | ⟨u,hu,_⟩
  · exfalso
    have h1:=t.shp.lo i hi
    have h0:=t.shp.d0
    rcases Nat.eq_zero_or_pos i with rfl | hp
    · exact hd h0
    · have:=h 0 hp; omega
  · exact ⟨u,hu⟩
 have hk:=(cB t.shp hi).1 hu
 refine ⟨u,hu,hk.1,by omega,?_⟩
 rcases t.both hi hu with h | ⟨_,h⟩
 · exact h
 · exfalso
   have hp':(knd l i==5||knd l i==6)=true:=hp
   rw [aM] at hp'
   rcases hp' with h2 | h2
   · have:=eq_of_beq h2; omega
   · have:=eq_of_beq h2; omega
theorem Ck {a:List Int} {n:Nat} (h:a.Pairwise (· < ·)) (hb:∀ y∈a,0≤y∧y<(n:Int)):a.length≤n:=by
 have e:a=((List.range n).filter fun j:Nat=>inB a (j:Int)).map fun j:Nat=>(j:Int):=by
  refine k6 h (oh _ _) fun y=>?_
  rw [aT]
  constructor
  · intro hy
    obtain ⟨h1,h2⟩:=hb y hy
    obtain ⟨k,rfl⟩:=aD h1
    exact ⟨k,by rw [aA,bz,cO]; exact ⟨by omega,hy⟩,rfl⟩
  · rintro ⟨k,hk,rfl⟩
    rw [aA,bz,cO] at hk
    exact hk.2
 rw [e,aN]
 exact av (br _ _) (by simp)
theorem lR (f:Past→Bool) (q:Option Int) (p:Past) (r:List Past):cb f q (p::r)=(pR q p.state&&f p&&cb f (some p.state) r):=rfl
theorem s5 {f:Past→Bool}:∀ {ps:List Past} {q:Option Int},ps.Pairwise (fun a b=>a.state<b.state)→(∀ n,q=some n→∀ p∈ps,n<p.state)→(∀ p∈ps,f p=true)→cb f q ps=true
 | [],_,_,_,_=>rfl
 | p::r,q,h1,h2,h3=>by
   have hp:=cy.1 h1
   rw [lR,h3 p ax,s5 hp.2 (fun n e x hx=>by cases e; exact hp.1 x hx) fun x hx=>h3 x (aI _ hx),cR,cR]
   cases q with
   | none=>rfl
   | some n=>exact decide_eq_true (h2 n rfl p ax)
theorem tH {f:Past→Bool}:∀ {ps:List Past} {q:Option Int},cb f q ps=true→ps.Pairwise (fun a b=>a.state<b.state)∧(∀ n,q=some n→∀ p∈ps,n<p.state)∧∀ p∈ps,f p=true
 | [],q,_=>⟨.nil,fun _ _ _ h=>(by cases h),fun _ h=>(by cases h)⟩
 | p :: r,q,h=>by
   rw [lR,af,af] at h
   obtain ⟨h1,h2,h3⟩:=tH h.2
   have hp:∀ x∈r,p.state<x.state:=h2 _ rfl
   refine ⟨cy.2 ⟨hp,h1⟩,fun n e x hx=>?_,fun x hx=>?_⟩
   · subst e
     have hn:n<p.state:=of_decide_eq_true h.1.1
     rcases aJ.1 hx with rfl | hx
     · exact hn
     · have:=hp x hx; omega
   · rcases aJ.1 hx with rfl | hx
     · exact h.1.2
     · exact h3 x hx
theorem xJ {ps:List Past} {i:Int} {p:Past} (h:gP ps i=some p):p∈ps∧p.state=i:=⟨List.mem_of_find?_eq_some h,eq_of_beq (List.find?_some (p:=fun p:Past=>p.state==i) h)⟩
theorem ye (t:Tre l) {s:List Int} (h:Lgl l s) {i:Nat} (hi:i<l.length) (hk:knd l i=5) (hus:a7 l i∈s):∃ q:Nat,j1 l s i=[(q:Int)]∧q<l.length∧upM l q=upM l i∧aO (knd l q)=false:=by
 obtain ⟨u,hu,hui,hul,hk2⟩:=kv t hi (by rw [hk]; rfl)
 rw [dK t.shp hi,hu] at hus
 obtain ⟨q,h1,h2,h3,h4⟩:=h.one u hul hus hk2
 obtain ⟨q',e,_,hq⟩:=h.rng _ h3
 have:q=q':=by omega
 subst this
 refine ⟨q,?_,h1,by rw [h2,hu],hq⟩
 have hk':(ETy.get .stat l i).kind=5:=hk
 unfold j1
 rw [dK t.shp hi,hu,hk']
 refine k6 (h.inc.filter _) (eR _ _) fun y=>?_
 rw [aA,aV]
 constructor
 · rintro ⟨hy,hb⟩
   obtain ⟨m,rfl,hm,_⟩:=h.rng y hy
   rw [ai,dK t.shp hm] at hb
   have hb':upM l m=(u:Int):=by simpa using hb
   rw [h4 m hm hb' hy]
 · rintro rfl
   refine ⟨h3,?_⟩
   rw [ai,dK t.shp h1,h2]; simp
theorem vN (t:Tre l) {s:List Int} (h:Lgl l s) {i u:Nat} (hi:i<l.length) (hk:knd l i=6) (hu:upM l i=(u:Int)) (x:Int):x∈j1 l s i↔x∈s∧er l x=true∧(u:Int)<x∧x<((endM l u:Nat):Int):=by
 have hk':(ETy.get .stat l i).kind=6:=hk
 unfold j1
 rw [dK t.shp hi,hu,hk',aA]
 constructor
 · rintro ⟨hx,hb⟩
   obtain ⟨m,rfl,hm,_⟩:=h.rng x hx
   rw [ai,nn t.shp hm] at hb
   have hb':(inB (dc l s) (m:Int)&&(decide (u<m)&&decide (m<endM l u)))=true:=by simpa using hb
   rw [af,af,cO] at hb'
   have h1:=(aA.1 hb'.1).2
   have h2:=of_decide_eq_true hb'.2.1
   have h3:=of_decide_eq_true hb'.2.2
   exact ⟨hx,h1,by omega,by omega⟩
 · rintro ⟨hx,hb,h1,h2⟩
   obtain ⟨m,rfl,hm,_⟩:=h.rng x hx
   have hin:inB (dc l s) (m:Int)=true:=(cO _ _).2 (aA.2 ⟨hx,hb⟩)
   refine ⟨hx,?_⟩
   rw [ai,nn t.shp hm,decide_eq_true (show u<m by omega),decide_eq_true (show m<endM l u by omega),hin]
   rfl
theorem Kx (t:Tre l) {s left:List Int} (h:Lgl l s) {ps:List Past} (hps:cb (cw l) none ps=true) {i:Nat} (hi:i<l.length) {p:Past} (hp:jl l s left ps i=some p):p.state=(i:Int)∧cw l p=true:=by
 unfold jl at hp
 by_cases hpm:aO (ETy.get .stat l i).kind=true
 · rw [if_pos hpm] at hp
   by_cases hb:(inB left (a7 l i)&&inB s (a7 l i))=true
   · rw [if_pos hb] at hp
     simp only [aa] at hp
     subst hp
     refine ⟨rfl,?_⟩
     rw [af] at hb
     have hus:=(cO _ _).1 hb.2
     obtain ⟨u,hu,hui,hul,hk2⟩:=kv t hi hpm
     unfold cw
     simp only [ai]
     rw [hpm,if_neg (by rw [decide_eq_false (by omega),decide_eq_false (by omega)]; decide),hu,ai]
     by_cases h5:((ETy.get .stat l i).kind==5)=true
     · rw [if_pos h5]
       obtain ⟨q,e,hq,hqu,hqp⟩:=ye t h hi (eq_of_beq h5) hus
       rw [e]
       have hqk:inB (bb l u) (q:Int)=true:=(cO _ _).2 ((dW t.shp hul _).2 ⟨q,rfl,hq,by rw [hqu,hu]⟩)
       have e2:ETy.get .int [(q:Int)] 0=(q:Int):=rfl
       rw [e2,hqk,ai,show aO (ETy.get .stat l q).kind=false from hqp]; rfl
     · rw [if_neg h5]
       have h6:knd l i=6:=by
        have hpm':((ETy.get .stat l i).kind==5||(ETy.get .stat l i).kind==6)=true:=hpm
        rw [aM] at hpm'
        rcases hpm' with h | h
        · exact absurd h h5
        · exact eq_of_beq h
       rw [dK t.shp hi,hu] at hus
       have hd:=rz t h hul hus (.inl hk2) (ts:=j1 l s i) (h.inc.filter _) (vN t h hi h6 hu)
       rw [hd.1,decide_eq_true hd.2]; simp
   · rw [if_neg hb] at hp
     obtain ⟨h1,h2⟩:=xJ hp
     exact ⟨h2,(tH hps).2.2 p h1⟩
 · rw [if_neg hpm] at hp; cases hp
theorem C8 (t:Tre l) {s left:List Int} (h:Lgl l s) {ps:List Past} (hps:cb (cw l) none ps=true):cb (cw l) none (j4 l s left ps)=true:=by
 have key : ∀ n,n≤l.length→(((List.range n).filterMap (jl l s left ps)).Pairwise fun a b=>a.state<b.state)∧∀ p∈(List.range n).filterMap (jl l s left ps),p.state<(n:Int)∧cw l p=true:=by
  intro n
  induction n with
  | zero=>intro _; exact ⟨.nil,fun p hp=>by cases hp⟩
  | succ n ih =>
    intro hn
    obtain ⟨i1,i2⟩:=ih (by omega)
    rw [eA,List.filterMap_append]
    cases hr:jl l s left ps n with
    | none =>
      have e:[n].filterMap (jl l s left ps)=[]:=by simp [hr]
      rw [e,aL]
      exact ⟨i1,fun p hp=>by have:=i2 p hp; exact ⟨by omega,this.2⟩⟩
    | some p =>
      have e:[n].filterMap (jl l s left ps)=[p]:=by simp [hr]
      obtain ⟨h1,h2⟩:=Kx t h hps (by omega) hr
      rw [e]
      refine ⟨List.pairwise_append.2 ⟨i1,eR _ _,fun a ha b hb=>?_⟩,fun x hx=>?_⟩
      · rw [aV] at hb
        subst hb
        have:=(i2 a ha).1; omega
      · rcases bJ.1 hx with hx | hx
        · have:=i2 x hx; exact ⟨by omega,this.2⟩
        · rw [aV] at hx
          subst hx
          exact ⟨by omega,h2⟩
 obtain ⟨h1,h2⟩:=key l.length (aq _)
 exact s5 h1 (fun _ e=>by cases e) fun p hp=>(h2 p hp).2
end Go.Proofs.YtgfifkhbfdacjaaGreatDoor

/- Contracts: slices.Contains on ints; conf: over. Conditions: a valid chart, a legal list. -/
import Derived.Test.YtcopfgbbjdefbaaGreatDoorCv
namespace Go.Proofs.YtcopfgbbjdefbaaGreatDoor
open Go Go.Ev
set_option maxRecDepth 100000
abbrev zCy1:List PI:=[.code [1,0,1,0,0],.inLoop [1,0,1,0,0],.inBlock 0,.code [1,1]]
variable (c:Chart) (l s:List Int) (i k:Int)
theorem IQ (s:Int) (Γ:Ctx) (hl:l.length≤maxLen):∀ (n k:Nat),l.length - k≤n→k≤l.length →
 J Tryz.prog 119 (aw Tryz.f119) Γ (Eq2 (.x (.i (aG (fun x:Int=>s==x) (l.drop k) k))) []) zCy1 ({ n:=19,fr:=[(0,.p (.lst .int l)),(1,.i s),(4,.i 0),(7,.i l.length),(8,.i k)],ck:=[] }):=by
 intro n
 induction n with
 | zero=>?_
 | succ n ih=>?_
 all_goals
  intro k hn hk
  refine jg aV Tryz.func119 (.ite (decide ((k:Int)<(l.length:Int))) (.need (inRg k l.length) (.ite (s==ETy.get .int l k) (.ret (.i k) []) (.stop zCy1 { n:=19,fr:=[(0,.p (.lst .int l)),(1,.i s),(4,.i 0),(7,.i l.length),(8,.i (IntKind.wrap .i64 ((k:Int)+1)))],ck:=[] }))) (.ret (.i (-1:Int)) [])) ?_
  refine ⟨fun hlt=>?_,fun hge=>⟨?_,rfl⟩⟩
  · have hk':k<l.length:=by have:=of_decide_eq_true hlt; omega
    rw [bI (t:=.int) hk']
    refine ⟨by omega,?_⟩
    generalize ETy.get .int l k=v
    refine ⟨fun hb=>⟨?_,rfl⟩,fun hb=>?_⟩
    · simp only [aG,hb,cond_true]
    · simp only [aG,hb,cond_false]
      rw [aZ (aC hk' hl)]
      first
      | (exfalso; omega)
      | exact ih (k+1) (by omega) (by omega)
  · rw [bT (by have:=of_decide_eq_false hge; omega)]; rfl
theorem Iy (s:Int):ah Tryz.prog 119 [.l .int l,.i s] [] (.x (.i (aG (fun x:Int=>s==x) l 0))) []:=by
 refine dg aV Tryz.func119 (.stop zCy1 { n:=19,fr:=[(0,.p (.lst .int l)),(1,.i s),(4,.i 0),(7,.i l.length),(8,.i 0)],ck:=[] }) fun Γ=>?_
 exact J.len 0 rfl fun hl=>IQ l s Γ hl l.length 0 (by omega) (by omega)
def C0:Ent:=(119,fun
 | [.c (.pd (.lst .int l)),.c (.pd (.int .i64 s))],[]=>some (none,.x (.c (.pd (.int .i64 (aG (fun x:Int=>s==x) l 0)))),[])
 | _,_=>none)
theorem Kb:EntOk Tryz.prog C0:=entOk fun vs ck=>by
 unfold C0; dsimp only; split
 · rename_i l s; exact entS fun hp=>Iy l s
 · exact entN
def Do:Cfg:=⟨aX,[C0]⟩
theorem Dt:ag Tryz.prog Do.tab:=(ag.cons Kb ag.nil)
theorem KX (s:Int):(l.any fun x=>s==x)=inB l s:=by
 unfold inB
 congr 1; funext x
 cases h:x==s
 · simp only [beq_eq_false_iff_ne,ne_eq] at h ⊢; exact fun e=>h e.symm
 · rw [eq_of_beq h]; simp
theorem IB (s:Int):ah Tryz.prog 62 [.l .int l,.i s] [] (.x (.b (inB l s))) []:=by
 rw [← KX]
 refine dg Dt Tryz.func62 (.ret (.p (.bool (decide (aG (fun x=>s==x) l (0:Int)≥0)))) []) fun Γ=>⟨?_,rfl⟩
 rw [gg _ _ _ (by omega)]
def xW:Ent:=(62,fun
 | [.c (.pd (.lst .int l)),.c (.pd (.int .i64 s))],[]=>some (none,.x (.c (.pd (.bool (inB l s)))),[])
 | _,_=>none)
theorem AA:EntOk Tryz.prog xW:=entOk fun vs ck=>by
 unfold xW; dsimp only; split
 · rename_i l s; exact entS fun hp=>IB l s
 · exact entN
def wB:Cfg:=⟨aX,[xW,mo]⟩
theorem tG:ag Tryz.prog wB.tab:=(ag.cons AA (ag.cons oN ag.nil))
/-! ### what over asks of each child -/
def D9:Cfg:=⟨aX,[xW]⟩
theorem ET:ag Tryz.prog D9.tab:=(ag.cons AA ag.nil)
theorem Ld (h:0≤k∧k<(c.states.length:Int)):ah Tryz.prog 64 [.i k,.p (.ref .chart c 0),.p (.ref .ints s 0)] [] (.x (.b ((ETy.get .stat c.states k.toNat).kind==4&&inB s k))) []:=by
 refine dg ET Tryz.func64 (.need ((0:Int)≤k∧k<(c.states.length:Int)) (.ret (.p (.bool (Stat.kind (ETy.get .stat c.states (Int.toNat k))==(4:Int)&&inB s k))) [])) fun Γ=>?_
 exact ⟨h,rfl,rfl⟩
def eO1:Ent:=(64,fun
 | [.c (.pd (.int .i64 k)),.c (.pd (.ref .chart c 0)),.c (.pd (.ref .ints s 0))],[]=>some (some (0≤k∧k<(c.states.length:Int)),.x (.c (.pd (.bool ((ETy.get .stat c.states k.toNat).kind==4&&inB s k)))),[])
 | _,_=>none)
theorem LQ:EntOk Tryz.prog eO1:=entOk fun vs ck=>by
 unfold eO1; dsimp only; split
 · rename_i k c s; exact entS fun hp=>Ld c s k hp
 · exact entN
def xo:Cfg:=⟨aX,[eO1]⟩
theorem ta:ag Tryz.prog xo.tab:=(ag.cons LQ ag.nil)
theorem Ie (hin:∀ y∈l,0≤y∧y<(c.states.length:Int)) (Γ:Ctx) (hl:l.length≤maxLen):∀ (n k:Nat),l.length - k≤n→k≤l.length →
 J Tryz.prog 120 (aw Tryz.f120) Γ (Eq2 (.x (.i (aG (fun k:Int=>(ETy.get .stat c.states k.toNat).kind==4&&inB s k) (l.drop k) k))) []) zCy1 ({ n:=19,fr:=[(0,.p (.lst .int l)),(1,.x (.c (.fn (.func 64) [] [.pd (.ref .chart c 0),.pd (.ref .ints s 0)]))),(4,.i 0),(7,.i l.length),(8,.i k)],ck:=[] }):=by
 intro n
 induction n with
 | zero=>?_
 | succ n ih=>?_
 all_goals
  intro k hn hk
  refine jg ta Tryz.func120 (.ite (decide ((k:Int)<(l.length:Int))) (.need (inRg k l.length) (.need ((0:Int)≤ETy.get .int l k∧ETy.get .int l k<(c.states.length:Int)) (.ite (Stat.kind (ETy.get .stat c.states ((ETy.get .int l k).toNat))==(4:Int)&&inB s (ETy.get .int l k)) (.ret (.i k) []) (.stop zCy1 { n:=19,fr:=[(0,.p (.lst .int l)),(1,.x (.c (.fn (.func 64) [] [.pd (.ref .chart c 0),.pd (.ref .ints s 0)]))),(4,.i 0),(7,.i l.length),(8,.i (IntKind.wrap .i64 ((k:Int)+1)))],ck:=[] })))) (.ret (.i (-1:Int)) [])) ?_
  refine ⟨fun hlt=>?_,fun hge=>⟨?_,rfl⟩⟩
  · have hk':k<l.length:=by have:=of_decide_eq_true hlt; omega
    have hy:=hin (ETy.get .int l k) (by rw [ETy.get_eq (t:=.int) (List.getElem?_eq_getElem hk')]; exact bf hk')
    rw [bI (t:=.int) hk']
    refine ⟨by omega,hy,?_⟩
    generalize ETy.get .int l k=v
    refine ⟨fun hb=>⟨?_,rfl⟩,fun hb=>?_⟩
    · simp only [aG,hb,cond_true]
    · simp only [aG,hb,cond_false]
      rw [aZ (aC hk' hl)]
      first
      | (exfalso; omega)
      | exact ih (k+1) (by omega) (by omega)
  · rw [bT (by have:=of_decide_eq_false hge; omega)]; rfl
theorem I2 (hin:∀ y∈l,0≤y∧y<(c.states.length:Int)):ah Tryz.prog 120 [.l .int l,.c (.fn (.func 64) [] [.pd (.ref .chart c 0),.pd (.ref .ints s 0)])] [] (.x (.i (aG (fun k:Int=>(ETy.get .stat c.states k.toNat).kind==4&&inB s k) l 0))) []:=by
 refine dg ta Tryz.func120 (.stop zCy1 { n:=19,fr:=[(0,.p (.lst .int l)),(1,.x (.c (.fn (.func 64) [] [.pd (.ref .chart c 0),.pd (.ref .ints s 0)]))),(4,.i 0),(7,.i l.length),(8,.i 0)],ck:=[] }) fun Γ=>?_
 exact J.len 0 rfl fun hl=>Ie c l s hin Γ hl l.length 0 (by omega) (by omega)
def CP:Ent:=(120,fun
 | [.c (.pd (.lst .int l)),.c (.fn (.func 64) [] [.pd (.ref .chart c 0),.pd (.ref .ints s 0)])],[]=>some (some (∀ y∈l,0≤y∧y<(c.states.length:Int)),.x (.c (.pd (.int .i64 (aG (fun k:Int=>(ETy.get .stat c.states k.toNat).kind==4&&inB s k) l 0)))),[])
 | _,_=>none)
theorem KH:EntOk Tryz.prog CP:=entOk fun vs ck=>by
 unfold CP; dsimp only; split
 · rename_i l c s; exact entS fun hp=>I2 c l s hp
 · exact entN
def EM:Cfg:=⟨aX,[CP]⟩
theorem D7:ag Tryz.prog EM.tab:=(ag.cons KH ag.nil)
theorem Iu (hin:∀ y∈l,0≤y∧y<(c.states.length:Int)):ah Tryz.prog 63 [.l .int l,.c (.fn (.func 64) [] [.pd (.ref .chart c 0),.pd (.ref .ints s 0)])] [] (.x (.b (l.any fun k:Int=>(ETy.get .stat c.states k.toNat).kind==4&&inB s k))) []:=by
 refine dg D7 Tryz.func63 (.need (∀ (y:ETy.den .int),y∈l→(0:ETy.den .int)≤y∧y<(c.states.length:Int)) (.ret (.p (.bool (decide (aG (fun k=>Stat.kind (ETy.get .stat c.states (Int.toNat k))==(4:Int)&&inB s k) l (0:Int)≥0)))) [])) fun Γ=>⟨hin,?_,rfl⟩
 rw [gg _ _ _ (by omega)]
def BL:Ent:=(63,fun
 | [.c (.pd (.lst .int l)),.c (.fn (.func 64) [] [.pd (.ref .chart c 0),.pd (.ref .ints s 0)])],[]=>some (some (∀ y∈l,0≤y∧y<(c.states.length:Int)),.x (.c (.pd (.bool (l.any fun k:Int=>(ETy.get .stat c.states k.toNat).kind==4&&inB s k)))),[])
 | _,_=>none)
theorem JN:EntOk Tryz.prog BL:=entOk fun vs ck=>by
 unfold BL; dsimp only; split
 · rename_i l c s; exact entS fun hp=>Iu c l s hp
 · exact entN
def ovM (l:List Ev.Stat) (s:List Int) (i:Int):Bool:=fN l s (l.length+1) i
def iZ:Prop:=ah Tryz.prog 41 [.e .chart c,.l .int s,.i k] [] (.x (.b (ovM c.states s k))) []
def BH:Ent:=(41,fun
 | [.agg [.pd (.str a),.pd (.lst .str b),.pd (.lst .var c),.pd (.lst .stat d),.pd (.lst .tran e)],.c (.pd (.lst .int s)),.c (.pd (.int .i64 k))],[]=>some (some (iZ ⟨a,b,c,d,e⟩ s k),.x (.c (.pd (.bool (ovM d s k)))),[])
 | _,_=>none)
theorem KB:EntOk Tryz.prog BH:=entOk fun vs ck=>by
 unfold BH; dsimp only; split
 · rename_i a b c d e s k; exact entS fun hp=>hp
 · exact entN
def DT:Cfg:=⟨aX,[BH]⟩
theorem ES:ag Tryz.prog DT.tab:=(ag.cons KB ag.nil)
theorem JH (h:iZ c s k):ah Tryz.prog 65 [.i k,.p (.ref .chart c 0),.p (.ref .ints s 0)] [] (.x (.b (!ovM c.states s k))) []:=by
 refine dg ES Tryz.func65 (.need (iZ c s k) (.ret (.p (.bool !ovM c.states s k)) [])) fun Γ=>?_
 exact ⟨h,rfl,rfl⟩
def eO2:Ent:=(65,fun
 | [.c (.pd (.int .i64 k)),.c (.pd (.ref .chart c 0)),.c (.pd (.ref .ints s 0))],[]=>some (some (iZ c s k),.x (.c (.pd (.bool (!ovM c.states s k)))),[])
 | _,_=>none)
theorem Ms:EntOk Tryz.prog eO2:=entOk fun vs ck=>by
 unfold eO2; dsimp only; split
 · rename_i k c s; exact entS fun hp=>JH c s k hp
 · exact entN
def vZ:Cfg:=⟨aX,[eO2]⟩
theorem td:ag Tryz.prog vZ.tab:=(ag.cons Ms ag.nil)
theorem He (hin:∀ y∈l,iZ c s y) (Γ:Ctx) (hl:l.length≤maxLen):∀ (n k:Nat),l.length - k≤n→k≤l.length →
 J Tryz.prog 120 (aw Tryz.f120) Γ (Eq2 (.x (.i (aG (fun k:Int=>!ovM c.states s k) (l.drop k) k))) []) zCy1 ({ n:=19,fr:=[(0,.p (.lst .int l)),(1,.x (.c (.fn (.func 65) [] [.pd (.ref .chart c 0),.pd (.ref .ints s 0)]))),(4,.i 0),(7,.i l.length),(8,.i k)],ck:=[] }):=by
 intro n
 induction n with
 | zero=>?_
 | succ n ih=>?_
 all_goals
  intro k hn hk
  refine jg td Tryz.func120 (.ite (decide ((k:Int)<(l.length:Int))) (.need (inRg k l.length) (.need (iZ c s (ETy.get .int l k)) (.ite (!ovM c.states s (ETy.get .int l k)) (.ret (.i k) []) (.stop zCy1 { n:=19,fr:=[(0,.p (.lst .int l)),(1,.x (.c (.fn (.func 65) [] [.pd (.ref .chart c 0),.pd (.ref .ints s 0)]))),(4,.i 0),(7,.i l.length),(8,.i (IntKind.wrap .i64 ((k:Int)+1)))],ck:=[] })))) (.ret (.i (-1:Int)) [])) ?_
  refine ⟨fun hlt=>?_,fun hge=>⟨?_,rfl⟩⟩
  · have hk':k<l.length:=by have:=of_decide_eq_true hlt; omega
    have hy:=hin (ETy.get .int l k) (by rw [ETy.get_eq (t:=.int) (List.getElem?_eq_getElem hk')]; exact bf hk')
    rw [bI (t:=.int) hk']
    refine ⟨by omega,hy,?_⟩
    generalize ETy.get .int l k=v
    refine ⟨fun hb=>⟨?_,rfl⟩,fun hb=>?_⟩
    · simp only [aG,hb,cond_true]
    · simp only [aG,hb,cond_false]
      rw [aZ (aC hk' hl)]
      first
      | (exfalso; omega)
      | exact ih (k+1) (by omega) (by omega)
  · rw [bT (by have:=of_decide_eq_false hge; omega)]; rfl
theorem IM (hin:∀ y∈l,iZ c s y):ah Tryz.prog 120 [.l .int l,.c (.fn (.func 65) [] [.pd (.ref .chart c 0),.pd (.ref .ints s 0)])] [] (.x (.i (aG (fun k:Int=>!ovM c.states s k) l 0))) []:=by
 refine dg td Tryz.func120 (.stop zCy1 { n:=19,fr:=[(0,.p (.lst .int l)),(1,.x (.c (.fn (.func 65) [] [.pd (.ref .chart c 0),.pd (.ref .ints s 0)]))),(4,.i 0),(7,.i l.length),(8,.i 0)],ck:=[] }) fun Γ=>?_
 exact J.len 0 rfl fun hl=>He c l s hin Γ hl l.length 0 (by omega) (by omega)
def BU:Ent:=(120,fun
 | [.c (.pd (.lst .int l)),.c (.fn (.func 65) [] [.pd (.ref .chart c 0),.pd (.ref .ints s 0)])],[]=>some (some (∀ y∈l,iZ c s y),.x (.c (.pd (.int .i64 (aG (fun k:Int=>!ovM c.states s k) l 0)))),[])
 | _,_=>none)
theorem Kf:EntOk Tryz.prog BU:=entOk fun vs ck=>by
 unfold BU; dsimp only; split
 · rename_i l c s; exact entS fun hp=>IM c l s hp
 · exact entN
def Fl:Cfg:=⟨aX,[BU]⟩
theorem DL:ag Tryz.prog Fl.tab:=(ag.cons Kf ag.nil)
theorem It (hin:∀ y∈l,iZ c s y):ah Tryz.prog 63 [.l .int l,.c (.fn (.func 65) [] [.pd (.ref .chart c 0),.pd (.ref .ints s 0)])] [] (.x (.b (l.any fun k:Int=>!ovM c.states s k))) []:=by
 refine dg DL Tryz.func63 (.need (∀ (y:ETy.den .int),y∈l→iZ c s y) (.ret (.p (.bool (decide (aG (fun k=>!ovM c.states s k) l (0:Int)≥0)))) [])) fun Γ=>⟨hin,?_,rfl⟩
 rw [gg _ _ _ (by omega)]
def BB:Ent:=(63,fun
 | [.c (.pd (.lst .int l)),.c (.fn (.func 65) [] [.pd (.ref .chart c 0),.pd (.ref .ints s 0)])],[]=>some (some (∀ y∈l,iZ c s y),.x (.c (.pd (.bool (l.any fun k:Int=>!ovM c.states s k)))),[])
 | _,_=>none)
theorem KD:EntOk Tryz.prog BB:=entOk fun vs ck=>by
 unfold BB; dsimp only; split
 · rename_i l c s; exact entS fun hp=>It c l s hp
 · exact entN
def E8:Cfg:=⟨aX,[BL]⟩
theorem Fy:ag Tryz.prog E8.tab:=(ag.cons JN ag.nil)
def FV:Cfg:=⟨aX,[BB]⟩
theorem Ep:ag Tryz.prog FV.tab:=(ag.cons KD ag.nil)
theorem oH {f g:Int→Bool}:∀ {l:List Int},(∀ y∈l,f y=g y)→l.any f=l.any g
 | [],_=>rfl
 | a::r,h=>by rw [b7,b7,h a (az ..),oH fun y hy=>h y (aJ _ hy)]
theorem tl {l:List Ev.Stat} (t:Tre l) (s:List Int):∀ (n m k:Nat),k<l.length→l.length - k<n→l.length - k<m→fN l s n (k:Int)=fN l s m (k:Int)
 | 0,_,_,_,h,_=>by omega
 | _+1,0,_,_,_,h=>by omega
 | n+1,m+1,k,hk,hn,hm=>by
   rw [fN,fN,ai]
   have e:(bg l k).any (fun k=>!fN l s n k)=(bg l k).any (fun k=>!fN l s m k):=oH fun y hy=>by
    obtain ⟨q,rfl,e2,e3,_,_⟩:=cD t hk hy
    rw [tl t s n m q e2 (by omega) (by omega)]
   rw [e]
theorem MJ {l:List Ev.Stat} (t:Tre l) (s:List Int) {k:Nat} (hk:k<l.length):ovM l s (k:Int)=(if (!inB s (k:Int))=true then false
 else if ((ETy.get .stat l k).kind==2)=true then (bg l k).any fun k=>(ETy.get .stat l k.toNat).kind==4&&inB s k
 else if ((ETy.get .stat l k).kind==3)=true then !(bg l k).any fun k=>!ovM l s k else false):=by
 unfold ovM
 rw [fN,ai]
 have e:(bg l k).any (fun k=>!fN l s l.length k)=(bg l k).any (fun k=>!fN l s (l.length+1) k):=oH fun y hy=>by
  obtain ⟨q,rfl,e2,e3,_,_⟩:=cD t hk hy
  rw [tl t s l.length (l.length+1) q e2 (by omega) (by omega)]
 rw [e]
theorem Mq (l:List Ev.Stat) (s:List Int) {i:Int} (h:inB s i=false):ovM l s i=false:=by
 unfold ovM
 rw [fN,if_pos (by rw [h]; rfl)]
abbrev zCy2:List PI:=[.ops [1,1,1,0,1,0,1,1,1,0,0] 2,.code [1,1,1,0,1,0,1,1,1,0,1],.inBlock 0,.code [1,1,1,1]]
abbrev zCy3:List PI:=[.ops [1,1,1,0,1,0,1,0,0] 2,.code [1,1,1,0,1,0,1,0,1],.inBlock 0,.code [1,1,1,1]]
abbrev zCy4 (a:Chart):Chunk:=.cells [.pd (.str a.name),.pd (.lst .str a.events),.pd (.lst .var a.vars),.pd (.lst .stat a.states),.pd (.lst .tran a.trans)] 27
abbrev zCy5:List (Nat×SV):=[(6,.p (.bool false)),(24,.x (.c (.own 2))),(25,.x (.c (.fn (.func 64) [] [.loc 0 0,.loc 1 0])))]
abbrev zCy6:List (Nat×SV):=[(6,.p (.bool false)),(29,.x (.c (.own 2))),(30,.x (.c (.fn (.func 65) [] [.loc 0 0,.loc 1 0])))]
theorem Mw (t:Tre c.states) (s:List Int):∀ (n k:Nat),k<c.states.length→c.states.length - k≤n→iZ c s (k:Int):=by
 have no:∀ {b:Bool},b=false→¬b=true:=fun h e=>by rw [h] at e; cases e
 intro n
 induction n with
 | zero=>intro k hk hn; omega
 | succ n ih =>
   intro k hk hn
   have e:=MJ t s hk
   have key:∀ kk:Int,kk=(k:Int)→ah Tryz.prog 41 [.e .chart c,.l .int s,.i kk] [] (.x (.b (ovM c.states s (k:Int)))) []:=by
    intro kk hkk
    refine dg tG Tryz.func41 (let x1:List Chunk:=[zCy4 c,.cells [.pd (.lst .int s)] 29,.own 3 .int (bg c.states (Int.toNat kk))]; let x2:=(ETy.get .stat c.states (Int.toNat kk)); .ite (!inB s kk) (.ret (.p (.bool false)) []) (.need (cj c.states kk=true) (.need ((0:Int)≤kk∧kk<(c.states.length:Int)) (.ite (Stat.kind x2==(2:Int)) (.stop zCy3 { n:=33,fr:=zCy5,ck:=x1,kn:=[6] }) (.ite (Stat.kind x2==(3:Int)) (.stop zCy2 { n:=33,fr:=zCy6,ck:=x1,kn:=[6] }) (.ret (.p (.bool false)) [])))))) fun Γ=>?_
    conv=>zeta
    subst hkk
    rw [ai]
    refine ⟨fun h1=>?_,fun h1=>⟨gD t.right hk,⟨by omega,by omega⟩,fun h2=>?_,fun h2=>⟨fun h3=>?_,fun h3=>?_⟩⟩⟩
    · rw [if_pos h1] at e
      rw [e]; exact ⟨rfl,rfl⟩
    · rw [if_neg (no h1),if_pos h2] at e
      rw [e]
      have rest:∀ ks:List Int,ks=bg c.states k→J Tryz.prog 41 (aw Tryz.f41) Γ (Eq2 (.x (.b (ks.any fun k=>(ETy.get .stat c.states k.toNat).kind==4&&inB s k))) []) zCy3 ({ n:=33,fr:=[(6,.p (.bool false)),(24,.p (.lst .int ks)),(25,.x (.c (.fn (.func 64) [] [.pd (.ref .chart c 0),.pd (.ref .ints s 0)])))],ck:=[.dead,.dead,.dead],kn:=[6] }):=fun ks hks=>by
       refine jg Fy Tryz.func41 (.need (∀ (y:ETy.den .int),y∈ks→(0:ETy.den .int)≤y∧y<(c.states.length:Int)) (.ret (.p (.bool (List.any ks fun k=>Stat.kind (ETy.get .stat c.states (Int.toNat k))==(4:Int)&&inB s k))) [])) ?_
       refine ⟨fun y hy=>?_,rfl,rfl⟩
       rw [hks] at hy
       obtain ⟨q,rfl,e2,e3,_,_⟩:=cD t hk hy
       exact ⟨Int.natCast_nonneg q,Int.ofNat_lt.2 e2⟩
      exact J.freeze aX [0,1,2] (by kernel_rfl) (rest _ rfl)
    · rw [if_neg (no h1),if_neg (no h2),if_pos h3] at e
      rw [e]
      have rest:∀ ks:List Int,ks=bg c.states k→J Tryz.prog 41 (aw Tryz.f41) Γ (Eq2 (.x (.b (!ks.any fun k=>!ovM c.states s k))) []) zCy2 ({ n:=33,fr:=[(6,.p (.bool false)),(29,.p (.lst .int ks)),(30,.x (.c (.fn (.func 65) [] [.pd (.ref .chart c 0),.pd (.ref .ints s 0)])))],ck:=[.dead,.dead,.dead],kn:=[6] }):=fun ks hks=>by
       refine jg Ep Tryz.func41 (.need (∀ (y:ETy.den .int),y∈ks→iZ c s y) (.ret (.p (.bool !List.any ks fun k=>!ovM c.states s k)) [])) ?_
       refine ⟨fun y hy=>?_,rfl,rfl⟩
       rw [hks] at hy
       obtain ⟨q,rfl,e2,e3,_,_⟩:=cD t hk hy
       exact ih q e2 (by omega)
      exact J.freeze aX [0,1,2] (by kernel_rfl) (rest _ rfl)
    · rw [if_neg (no h1),if_neg (no h2),if_neg (no h3)] at e
      rw [e]; exact ⟨rfl,rfl⟩
   exact key _ rfl
theorem DP (h:Tre c.states∧∀ y∈s,0≤y∧y<(c.states.length:Int)):ah Tryz.prog 41 [.e .chart c,.l .int s,.i i] [] (.x (.b (ovM c.states s i))) []:=by
 cases hb:inB s i
 · rw [Mq c.states s hb]
   refine dg tG Tryz.func41 (let x1:List Chunk:=[zCy4 c,.cells [.pd (.lst .int s)] 29,.own 3 .int (bg c.states (Int.toNat i))]; let x2:=(ETy.get .stat c.states (Int.toNat i)); .ite (!inB s i) (.ret (.p (.bool false)) []) (.need (cj c.states i=true) (.need ((0:Int)≤i∧i<(c.states.length:Int)) (.ite (Stat.kind x2==(2:Int)) (.stop zCy3 { n:=33,fr:=zCy5,ck:=x1,kn:=[6] }) (.ite (Stat.kind x2==(3:Int)) (.stop zCy2 { n:=33,fr:=zCy6,ck:=x1,kn:=[6] }) (.ret (.p (.bool false)) [])))))) fun Γ=>?_
   conv=>zeta
   refine ⟨fun _=>⟨rfl,rfl⟩,fun h1=>?_⟩
   rw [hb] at h1; cases h1
 · have hi:=h.2 i ((gi _ _).1 hb)
   obtain ⟨k,rfl⟩:=aD hi.1
   exact Mw c h.1 s c.states.length k (by omega) (by omega)
def uX:Ent:=(41,fun
 | [.agg [.pd (.str a),.pd (.lst .str b),.pd (.lst .var c),.pd (.lst .stat d),.pd (.lst .tran e)],.c (.pd (.lst .int s)),.c (.pd (.int .i64 k))],[]=>some (some (Tre d∧∀ y∈s,0≤y∧y<(d.length:Int)),.x (.c (.pd (.bool (ovM d s k)))),[])
 | _,_=>none)
theorem Hp:EntOk Tryz.prog uX:=entOk fun vs ck=>by
 unfold uX; dsimp only; split
 · rename_i a b c d e s k; exact entS fun hp=>DP ⟨a,b,c,d,e⟩ s k hp
 · exact entN
def F2:Cfg:=⟨aX,[uX,kb]⟩
theorem Dj:ag Tryz.prog F2.tab:=(ag.cons Hp (ag.cons mS ag.nil))
theorem Bi (h:c.vars.length≤2199023255552∧c.states.length≤2199023255552):ah Tryz.prog 28 [.e .chart c,.l .int s,.i i] [] (.x (.b ((bj c==0&&bb c.states s)&&ovM c.states s i))) []:=by
 refine dg Dj Tryz.func28 (.need (c.vars.length≤2199023255552∧c.states.length≤2199023255552) (.need ((bj c==(0:Int)&&bb c.states s)=true→Tre c.states∧∀ (y:ETy.den .int),y∈s→(0:ETy.den .int)≤y∧y<(c.states.length:Int)) (.ret (.p (.bool (bj c==(0:Int)&&bb c.states s&&ovM c.states s i))) []))) fun Γ=>?_
 refine ⟨h,fun hg=>?_,rfl,rfl⟩
 have hg':(bj c==0&&bb c.states s)=true:=hg
 rw [af] at hg'
 exact ⟨((c8 c).1 (eq_of_beq hg'.1)).tre,(n5 hg'.2).1⟩
def qV:Ent:=(28,fun
 | [.agg [.pd (.str a),.pd (.lst .str b),.pd (.lst .var c),.pd (.lst .stat d),.pd (.lst .tran e)],.c (.pd (.lst .int s)),.c (.pd (.int .i64 k))],[]=>some (some (c.length≤2199023255552∧d.length≤2199023255552),.x (.c (.pd (.bool ((bj ⟨a,b,c,d,e⟩==0&&bb d s)&&ovM d s k)))),[])
 | _,_=>none)
theorem FU:EntOk Tryz.prog qV:=entOk fun vs ck=>by
 unfold qV; dsimp only; split
 · rename_i a b c d e s k; exact entS fun hp=>Bi ⟨a,b,c,d,e⟩ s k hp
 · exact entN
end Go.Proofs.YtcopfgbbjdefbaaGreatDoor

/- Contracts: words.Line. Conditions: sizes. Contracts of the program's functions on names and cells. Conditions: none. Contracts of the program's functions on kinds. Conditions: none. -/
import Derived.Test.YtgfifkhbfdacjaaGreatDoorKb
namespace Go.Proofs.YtgfifkhbfdacjaaGreatDoor
open Go Go.Ev
set_option maxRecDepth 100000
def C7:Ent:=(62,fun
 | [.c (.pd (.str s))],[]=>some (some (s.length≤2097152∧GR s=true),.tup [.c (.pd (.int .i64 ((cW s:Nat):Int))),.c (.own 0),.c (.pd (.int .i64 0))],[.own 9 .str (jo s)])
 | _,_=>none)
theorem ME:EntOk Tryz.prog C7:=entOk fun vs ck=>by
 unfold C7; dsimp only; split
 · rename_i s; exact entS fun hp=>LO s hp.1 hp.2
 · exact entN
abbrev zFa2:List PI:=[.code [1,1,0,1,0,0],.inLoop [1,1,0,1,0,0],.inBlock 0,.code [1,1,1]]
variable (l:List Cell) (s:Str) (Γ:Ctx)
theorem En (h0:jJ s=false):∀ (n k:Nat),s.length - k≤n→k≤s.length→(∀ j,j<k→kr (s.getD j 0)=false) →
 J Tryz.prog 63 (au Tryz.f63) Γ (Eq2 (.x (.b (a7 s))) []) zFa2 ({ n:=56,fr:=[(0,.p (.str s)),(2,.p (.bool false)),(23,.i (aD s)),(24,.i k)],ck:=[],kn:=[2] }):=by
 have hlen:s.length≤12:=by simp [jJ,aD] at h0; omega
 intro n
 induction n with
 | zero=>?_
 | succ n ih=>?_
 all_goals
  intro k hn hk hb
  refine jg aW Tryz.func63 (let x1:=(↑((List.getD s k (0:UInt8)).toNat):Int); let x2:Tree:=(.ret (.p (.bool false)) []); .ite (decide ((k:Int)<aD s)) (.need ((0:Int)≤(k:Int)∧(k:Int)<aD s) (.ite ((decide (x1<97)||decide (x1>122))&&(decide (x1<48)||decide (x1>57))&&x1 != 95) x2 (.stop zFa2 { n:=56,fr:=[(0,.p (.str s)),(2,.p (.bool false)),(23,.i (aD s)),(24,.i (IntKind.wrap .i64 ((k:Int)+1)))],ck:=[],kn:=[2] }))) (.ite (s==[116,114,117,101]) x2 (.ite (s==[102,97,108,115,101]) x2 (.ite (s==[105,110]) x2 (.ite (s==[114,101]) x2 (.ite (s==[105,109]) x2 (.ret (.p (.bool true)) []))))))) ?_
  conv=>zeta
  have hend:¬k<s.length→s.any kr=false:=fun h=>oz fun j hj=>hb j (by omega)
  refine ⟨fun hlt=>⟨?_,fun hbad=>⟨?_,rfl⟩,fun hok=>?_⟩,fun hge=>?_⟩
  · have:=of_decide_eq_true hlt; simp only [aD] at this ⊢; omega
  · have:=of_decide_eq_true hlt; simp only [aD] at this
    have hbad':kr (s.getD k 0)=true:=hbad
    simp only [a7,xe (by omega) hbad']; simp
  · have:=of_decide_eq_true hlt; simp only [aD] at this
    first
    | (exfalso; omega)
    | (rw [aV (by omega)]
       exact ih (k+1) (by omega) (by omega) fun j hj=>if e:j=k then by rw [e]; exact hok else hb j (by omega))
  · have:=of_decide_eq_false hge; simp only [aD] at this
    have hany:=hend (by omega)
    refine ⟨fun h1=>⟨?_,rfl⟩,fun h1=>⟨fun h2=>⟨?_,rfl⟩,fun h2=>⟨fun h3=>⟨?_,rfl⟩,fun h3=>⟨fun h4=>⟨?_,rfl⟩,fun h4=>⟨fun h5=>⟨?_,rfl⟩,fun h5=>⟨?_,rfl⟩⟩⟩⟩⟩⟩ <;>
     simp [a7,h0,hany,nP, *]
theorem Gw:ah Tryz.prog 63 [.s s] [] (.x (.b (a7 s))) []:=by
 refine dg aW Tryz.func63 (let x1:=(↑((List.getD s 0 (0:UInt8)).toNat):Int); let x2:=(aD s>(12:Int)); .need ((s==[]||decide x2)=false→(0:Int)≤0∧(0:Int)<aD s) (.need ((s==[]||decide x2||decide (x1<97))=false→(0:Int)≤0∧(0:Int)<aD s) (.ite (s==[]||decide x2||decide (x1<97)||decide (x1>122)) (.ret (.p (.bool false)) []) (.stop zFa2 { n:=56,fr:=[(0,.p (.str s)),(2,.p (.bool false)),(23,.i (aD s)),(24,.i 0)],ck:=[],kn:=[2] })))) fun Γ=>?_
 conv=>zeta
 have hpos:(s==[]||decide (aD s>12))=false→0≤(0:Int)∧0<aD s:=by
  intro h
  cases s with
  | nil=>simp at h
  | cons c r=>simp [aD]
 refine ⟨hpos,fun h=>hpos ?_,fun h=>⟨?_,rfl⟩,fun h=>?_⟩
 · simp only [av] at h ⊢; exact h.1
 · have h':jJ s=true:=h
   simp [a7,h']
 · exact En s _ h s.length 0 (by omega) (by omega) (fun j hj=>by omega)
def jI:Ent:=(63,fun
 | [.c (.pd (.str s))],[]=>some (none,.x (.c (.pd (.bool (a7 s)))),[])
 | _,_=>none)
theorem iO:EntOk Tryz.prog jI:=entOk fun vs ck=>by
 unfold jI; dsimp only; split
 · rename_i s; exact entS fun hp=>Gw s
 · exact entN
def A0:Cfg:=⟨aX,[jI]⟩
theorem BZ:ag Tryz.prog A0.tab:=(ag.cons iO ag.nil)
theorem BP (op a:Int) (s:Str):ah Tryz.prog 219 [.agg [.i op,.i a,.pd (.str s)]] [] (.x (.i (cH op a s))) []:=by
 refine dg BZ Tryz.func219 (let x1:Tree:=(.ret (.i (-1:Int)) []); let x2:Tree:=(.ite (a != (0:Int) || !a7 s) x1 (.ret (.i 0) [])); .ite (op==(1:Int)) (.ite (decide (a<(0:Int))||decide (a>(1099511627776:Int)) || !s==[]) x1 (.ret (.i 0) [])) (.ite (op==(2:Int)) (.ite (decide (a<(0:Int))||decide (a>(1048576:Int)) || !s==[]) x1 (.ret (.i 0) [])) (.ite (op==(5:Int)) x2 (.ite (op==(6:Int)) x2 (.ite (decide (op<(3:Int))||decide (op>(23:Int))||a != (0:Int) || !s==[]) x1 (.ite (decide (op≤(4:Int))) (.ret (.i 0) []) (.ite (decide (op≤(10:Int))) (.ret (.i 1) []) (.ret (.i 2) [])))))))) fun Γ=>?_
 conv=>zeta
 (repeat' (first | intro h | constructor)) <;> simp only [cH, *,cond_true,cond_false]
def rT:Ent:=(219,fun
 | [.agg [.pd (.int .i64 op),.pd (.int .i64 a),.pd (.str s)]],[]=>some (none,.x (.c (.pd (.int .i64 (cH op a s)))),[])
 | _,_=>none)
theorem Gn:EntOk Tryz.prog rT:=entOk fun vs ck=>by
 unfold rT; dsimp only; split
 · rename_i op a s; exact entS fun hp=>BP op a s
 · exact entN
def qJ:Cfg:=⟨aX,[rT]⟩
theorem pS:ag Tryz.prog qJ.tab:=(ag.cons Gn ag.nil)
abbrev zFa1:List PI:=[.code [1,1,1,0,1,0,0],.inLoop [1,1,1,0,1,0,0],.inBlock 0,.code [1,1,1,1]]
theorem B1 (hl:l.length≤32):∀ (n k:Nat) (m:Int),l.length - k≤n→k≤l.length→0≤m→m≤k →
 J Tryz.prog 181 (au Tryz.f181) Γ (Eq2 (.x (.b (cr (l.drop k) m))) []) zFa1 ({ n:=32,fr:=[(2,.p (.bool false)),(3,.i m),(10,.p (.lst .cell l)),(11,.i l.length),(12,.i k)],ck:=[],kn:=[2] }):=by
 intro n
 induction n with
 | zero=>?_
 | succ n ih=>?_
 all_goals
  intro k m hn hk h0 hm
  refine jg pS Tryz.func181 (let x1:=(Cell.name (ETy.get .cell l k)); let x2:=(Cell.op (ETy.get .cell l k)); let x3:=(Cell.a (ETy.get .cell l k)); .ite (decide ((k:Int)<(l.length:Int))) (.need (inRg k l.length) (.ite (decide (cH x2 x3 x1<(0:Int))||decide (cH x2 x3 x1>m)) (.ret (.p (.bool false)) []) (.stop zFa1 { n:=32,fr:=[(2,.p (.bool false)),(3,.i (IntKind.wrap .i64 (m+IntKind.wrap .i64 ((1:Int) - cH x2 x3 x1)))),(10,.p (.lst .cell l)),(11,.i l.length),(12,.i (IntKind.wrap .i64 ((k:Int)+1)))],ck:=[],kn:=[2] }))) (.ret (.p (.bool (m==(1:Int)))) [])) ?_
  conv=>zeta
  refine ⟨fun hlt=>⟨?_,?_⟩,fun hge=>⟨?_,rfl⟩⟩
  · have:=of_decide_eq_true hlt; omega
  · have hk':k<l.length:=by have:=of_decide_eq_true hlt; omega
    rw [bx (t:=.cell) hk']
    generalize ETy.get .cell l k=c
    refine ⟨fun hb=>⟨?_,rfl⟩,fun hb=>?_⟩
    · have hb':(decide (bm c<0)||decide (bm c>m))=true:=hb
      simp only [cr,hb',cond_true]
    · have hb':(decide (bm c<0)||decide (bm c>m))=false:=hb
      have hw:0≤bm c∧bm c≤m:=by
       simp only [av,decide_eq_false_iff_not] at hb'
       omega
      simp only [cr,hb',cond_false]
      show J Tryz.prog 181 (au Tryz.f181) Γ _ zFa1 ({ n:=32,fr:=[(2,.p (.bool false)),(3,.i (IntKind.wrap .i64 (m+IntKind.wrap .i64 (1 - bm c)))),(10,.p (.lst .cell l)),(11,.i l.length),(12,.i (IntKind.wrap .i64 ((k:Int)+1)))],ck:=[],kn:=[2] })
      rw [cn (n:=1 - bm c) (by omega) (by omega),cn (by omega) (by omega),aV (by omega)]
      first
      | (exfalso; omega)
      | exact ih (k+1) (m+(1 - bm c)) (by omega) (by omega) (by omega) (by omega)
  · rw [bL (by have:=of_decide_eq_false hge; omega)]; rfl
theorem Du:ah Tryz.prog 181 [.l .cell l] [] (.x (.b (dP l))) []:=by
 refine dg pS Tryz.func181 (.ite (decide ((l.length:Int)>32)) (.ret (.p (.bool false)) []) (.stop zFa1 { n:=32,fr:=[(2,.p (.bool false)),(3,.i 0),(10,.p (.lst .cell l)),(11,.i l.length),(12,.i 0)],ck:=[],kn:=[2] })) fun Γ=>?_
 refine ⟨fun h=>⟨by simp only [dP,h]; rfl,rfl⟩,fun h=>?_⟩
 have hl:l.length≤32:=by have:=of_decide_eq_false h; omega
 simp only [dP,h]
 exact B1 l Γ hl l.length 0 0 (by omega) (by omega) (by omega) (by omega)
def oy:Ent:=(181,fun
 | [.c (.pd (.lst .cell l))],[]=>some (none,.x (.c (.pd (.bool (dP l)))),[])
 | _,_=>none)
theorem tV:EntOk Tryz.prog oy:=entOk fun vs ck=>by
 unfold oy; dsimp only; split
 · rename_i l; exact entS fun hp=>Du l
 · exact entN
end Go.Proofs.YtgfifkhbfdacjaaGreatDoor
namespace Go.Proofs.YtgfifkhbfdacjaaGreatDoor
open Go Go.Ev
set_option maxRecDepth 100000
abbrev zFb1:List Chunk:=[.own 229 .krow [{ low:=(7:Int),high:=(7:Int),left:=(1:Int),right:=(0:Int),out:=(1:Int) },{ low:=(7:Int),high:=(7:Int),left:=(3:Int),right:=(0:Int),out:=(3:Int) },{ low:=(8:Int),high:=(8:Int),left:=(2:Int),right:=(0:Int),out:=(2:Int) },{ low:=(9:Int),high:=(10:Int),left:=(3:Int),right:=(0:Int),out:=(1:Int) },{ low:=(11:Int),high:=(15:Int),left:=(1:Int),right:=(1:Int),out:=(1:Int) },{ low:=(11:Int),high:=(13:Int),left:=(3:Int),right:=(3:Int),out:=(3:Int) },{ low:=(16:Int),high:=(21:Int),left:=(1:Int),right:=(1:Int),out:=(2:Int) },{ low:=(16:Int),high:=(17:Int),left:=(2:Int),right:=(2:Int),out:=(2:Int) },{ low:=(16:Int),high:=(17:Int),left:=(3:Int),right:=(3:Int),out:=(2:Int) },{ low:=(22:Int),high:=(23:Int),left:=(2:Int),right:=(2:Int),out:=(2:Int) }]]
theorem ED:ah Tryz.prog 221 [] [] (.x (.c (.own 0))) [.own 229 .krow pn]:=by
 refine dg aW Tryz.func221 (.ret (.x (.c (.own 0))) zFb1) fun Γ=>?_
 exact ⟨rfl,rfl⟩
def wa:Ent:=(221,fun
 | [],[]=>some (none,.x (.c (.own 0)),[.own 229 .krow pn])
 | _,_=>none)
theorem J6:EntOk Tryz.prog wa:=entOk fun vs ck=>by
 unfold wa; dsimp only; split
 · exact entS fun hp=>ED
 · exact entN
def AX:Cfg:=⟨aX,[wa]⟩
theorem BX:ag Tryz.prog AX.tab:=(ag.cons J6 ag.nil)
abbrev zFb2:List PI:=[.code [1,0,1,0,0],.inLoop [1,0,1,0,0],.inBlock 0,.code [1,1]]
variable (l:List Str) (op:Int) (vs:List Var) (c:Cell) (s:Str) (Γ:Ctx)
theorem Er (l r:Int) (ks:List KRow) (Γ:Ctx) (hl:ks.length≤100):∀ (n k:Nat),ks.length - k≤n→k≤ks.length →
 J Tryz.prog 183 (au Tryz.f183) Γ (Eq2 (.x (.i (ir op l r (ks.drop k)))) []) zFb2 ({ n:=40,fr:=[(0,.i op),(1,.i l),(2,.i r),(6,.i 0),(9,.x (.c (.own 0))),(10,.i ks.length),(11,.i k)],ck:=[.own 229 .krow ks] }):=by
 intro n
 induction n with
 | zero=>?_
 | succ n ih=>?_
 all_goals
  intro k hn hk
  refine jg aW Tryz.func183 (.ite (decide ((k:Int)<(ks.length:Int))) (.need (inRg k ks.length) (.need (k<ks.length) (.ite (decide (op≥KRow.low (ETy.get .krow ks k))&&decide (op≤KRow.high (ETy.get .krow ks k))&&l==KRow.left (ETy.get .krow ks k)&&r==KRow.right (ETy.get .krow ks k)) (.ret (.i (KRow.out (ETy.get .krow ks k))) []) (.stop zFb2 { n:=40,fr:=[(0,.i op),(1,.i l),(2,.i r),(6,.i 0),(9,.x (.c (.own 0))),(10,.i ks.length),(11,.i (IntKind.wrap .i64 ((k:Int)+1)))],ck:=[.own 229 .krow ks] })))) (.ret (.i 0) [])) ?_
  refine ⟨fun hlt=>?_,fun hge=>⟨?_,rfl⟩⟩
  · have hk':k<ks.length:=by have:=of_decide_eq_true hlt; omega
    rw [bx (t:=.krow) hk']
    refine ⟨by omega,hk',?_⟩
    generalize ETy.get .krow ks k=c
    refine ⟨fun hb=>⟨?_,rfl⟩,fun hb=>?_⟩
    · have hb':vI op l r c=true:=hb
      simp only [ir,hb',cond_true]
    · have hb':vI op l r c=false:=hb
      simp only [ir,hb',cond_false]
      rw [aV (by omega)]
      first
      | (exfalso; omega)
      | exact ih (k+1) (by omega) (by omega)
  · rw [bL (by have:=of_decide_eq_false hge; omega)]; rfl
theorem GW (l r:Int):ah Tryz.prog 183 [.i op,.i l,.i r] [] (.x (.i (cO op l r))) []:=by
 refine dg BX Tryz.func183 (.stop zFb2 { n:=40,fr:=[(0,.i op),(1,.i l),(2,.i r),(6,.i 0),(9,.x (.c (.own 0))),(10,.i (↑(10:Nat):Int)),(11,.i 0)],ck:=zFb1 }) fun Γ=>?_
 exact Er op l r pn Γ (by decide) pn.length 0 (by omega) (by omega)
def wo:Ent:=(183,fun
 | [.c (.pd (.int .i64 op)),.c (.pd (.int .i64 l)),.c (.pd (.int .i64 r))],[]=>some (none,.x (.c (.pd (.int .i64 (cO op l r)))),[])
 | _,_=>none)
theorem Kb:EntOk Tryz.prog wo:=entOk fun vs ck=>by
 unfold wo; dsimp only; split
 · rename_i op l r; exact entS fun hp=>GW op l r
 · exact entN
theorem qb {α:Type} (p:α→Bool):∀ (l:List α) (i:Int),0≤i→(aE p l i≥0↔l.any p=true)
 | [],i,_=>by simp [aE]
 | x::r,i,h=>by
   have ih:=qb p r (i+1) (by omega)
   unfold aE
   rw [cE]
   cases hp:p x
   · simpa using ih
   · simpa using h
theorem iy {α:Type} (p:α→Bool) (l:List α) (i:Int) (h:0≤i):decide (aE p l i≥0)=l.any p:=by
 have:=qb p l i h
 cases hl:l.any p
 · rw [hl] at this; exact decide_eq_false (fun h2=>by simp at this; omega)
 · rw [hl] at this; exact decide_eq_true (this.2 rfl)
theorem LQ (v:Var) (c:Cell):ah Tryz.prog 220 [.e .var v,.p (.ref .cell c 0)] [] (.x (.b (v.name==c.name))) []:=by
 refine dg aW Tryz.func220 (.ret (.p (.bool (v.name==c.name))) []) fun Γ=>⟨rfl,rfl⟩
def eCl:Ent:=(220,fun
 | [.agg [.pd (.str a),.pd (.int .i64 b),.pd (.int .i64 d),.pd (.int .i64 e),.pd (.int .i64 f),.pd (.int .i64 g),.pd (.int .i64 h)],.c (.pd (.ref .cell c 0))],[]=>some (none,.x (.c (.pd (.bool (a==c.name)))),[])
 | _,_=>none)
theorem M6:EntOk Tryz.prog eCl:=entOk fun vs ck=>by
 unfold eCl; dsimp only; split
 · rename_i a b d e f g h c; exact entS fun hp=>LQ ⟨a,b,d,e,⟨f,g,h⟩⟩ c
 · exact entN
def DI:Cfg:=⟨aX,[eCl]⟩
theorem xD:ag Tryz.prog DI.tab:=(ag.cons M6 ag.nil)
theorem MV (hl:vs.length≤maxLen):∀ (n k:Nat),vs.length - k≤n→k≤vs.length →
 J Tryz.prog 178 (au Tryz.f178) Γ (Eq2 (.x (.i (aE (fun v:Var=>v.name==c.name) (vs.drop k) k))) []) zFb2 ({ n:=19,fr:=[(0,.p (.lst .var vs)),(1,.x (.c (.fn (.func 220) [] [.pd (.ref .cell c 0)]))),(4,.i 0),(7,.i vs.length),(8,.i k)],ck:=[] }):=by
 intro n
 induction n with
 | zero=>?_
 | succ n ih=>?_
 all_goals
  intro k hn hk
  refine jg xD Tryz.func178 (.ite (decide ((k:Int)<(vs.length:Int))) (.need (inRg k vs.length) (.ite (Var.name (ETy.get .var vs k)==c.name) (.ret (.i k) []) (.stop zFb2 { n:=19,fr:=[(0,.p (.lst .var vs)),(1,.x (.c (.fn (.func 220) [] [.pd (.ref .cell c 0)]))),(4,.i 0),(7,.i vs.length),(8,.i (IntKind.wrap .i64 ((k:Int)+1)))],ck:=[] }))) (.ret (.i (-1:Int)) [])) ?_
  refine ⟨fun hlt=>?_,fun hge=>⟨?_,rfl⟩⟩
  · have hk':k<vs.length:=by have:=of_decide_eq_true hlt; omega
    rw [bx (t:=.var) hk']
    refine ⟨by omega,?_⟩
    generalize ETy.get .var vs k=v
    refine ⟨fun hb=>⟨?_,rfl⟩,fun hb=>?_⟩
    · simp only [aE,hb,cond_true]
    · simp only [aE,hb,cond_false]
      rw [aV (aC hk' hl)]
      first
      | (exfalso; omega)
      | exact ih (k+1) (by omega) (by omega)
  · rw [bL (by have:=of_decide_eq_false hge; omega)]; rfl
theorem Ma:ah Tryz.prog 178 [.l .var vs,.c (.fn (.func 220) [] [.pd (.ref .cell c 0)])] [] (.x (.i (aE (fun v:Var=>v.name==c.name) vs 0))) []:=by
 refine dg xD Tryz.func178 (.stop zFb2 { n:=19,fr:=[(0,.p (.lst .var vs)),(1,.x (.c (.fn (.func 220) [] [.pd (.ref .cell c 0)]))),(4,.i 0),(7,.i vs.length),(8,.i 0)],ck:=[] }) fun Γ=>?_
 exact J.len 0 rfl fun hl=>MV vs c Γ hl vs.length 0 (by omega) (by omega)
def eIx:Ent:=(178,fun
 | [.c (.pd (.lst .var vs)),.c (.fn (.func 220) [] [.pd (.ref .cell c 0)])],[]=>some (none,.x (.c (.pd (.int .i64 (aE (fun v:Var=>v.name==c.name) vs 0)))),[])
 | _,_=>none)
theorem Nq:EntOk Tryz.prog eIx:=entOk fun vs ck=>by
 unfold eIx; dsimp only; split
 · rename_i vs c; exact entS fun hp=>Ma vs c
 · exact entN
theorem My (hl:l.length≤maxLen):∀ (n k:Nat),l.length - k≤n→k≤l.length →
 J Tryz.prog 217 (au Tryz.f217) Γ (Eq2 (.x (.i (aE (fun x=>s==x) (l.drop k) k))) []) zFb2 ({ n:=19,fr:=[(0,.p (.lst .str l)),(1,.p (.str s)),(4,.i 0),(7,.i l.length),(8,.i k)],ck:=[] }):=by
 intro n
 induction n with
 | zero=>?_
 | succ n ih=>?_
 all_goals
  intro k hn hk
  refine jg aW Tryz.func217 (.ite (decide ((k:Int)<(l.length:Int))) (.need (inRg k l.length) (.ite (s==ETy.get .str l k) (.ret (.i k) []) (.stop zFb2 { n:=19,fr:=[(0,.p (.lst .str l)),(1,.p (.str s)),(4,.i 0),(7,.i l.length),(8,.i (IntKind.wrap .i64 ((k:Int)+1)))],ck:=[] }))) (.ret (.i (-1:Int)) [])) ?_
  refine ⟨fun hlt=>?_,fun hge=>⟨?_,rfl⟩⟩
  · have hk':k<l.length:=by have:=of_decide_eq_true hlt; omega
    rw [bx (t:=.str) hk']
    refine ⟨by omega,?_⟩
    generalize ETy.get .str l k=v
    refine ⟨fun hb=>⟨?_,rfl⟩,fun hb=>?_⟩
    · simp only [aE,hb,cond_true]
    · simp only [aE,hb,cond_false]
      rw [aV (aC hk' hl)]
      first
      | (exfalso; omega)
      | exact ih (k+1) (by omega) (by omega)
  · rw [bL (by have:=of_decide_eq_false hge; omega)]; rfl
theorem KZ:ah Tryz.prog 217 [.l .str l,.s s] [] (.x (.i (aE (fun x=>s==x) l 0))) []:=by
 refine dg aW Tryz.func217 (.stop zFb2 { n:=19,fr:=[(0,.p (.lst .str l)),(1,.p (.str s)),(4,.i 0),(7,.i l.length),(8,.i 0)],ck:=[] }) fun Γ=>?_
 exact J.len 0 rfl fun hl=>My l s Γ hl l.length 0 (by omega) (by omega)
def eSi:Ent:=(217,fun
 | [.c (.pd (.lst .str l)),.c (.pd (.str s))],[]=>some (none,.x (.c (.pd (.int .i64 (aE (fun x=>s==x) l 0)))),[])
 | _,_=>none)
theorem Ns:EntOk Tryz.prog eSi:=entOk fun vs ck=>by
 unfold eSi; dsimp only; split
 · rename_i l s; exact entS fun hp=>KZ l s
 · exact entN
def Kl:Cfg:=⟨aX,[eSi]⟩
theorem IU:ag Tryz.prog Kl.tab:=(ag.cons Ns ag.nil)
theorem Lu:ah Tryz.prog 177 [.l .str l,.s s] [] (.x (.b (l.any fun x=>s==x))) []:=by
 refine dg IU Tryz.func177 (.ret (.p (.bool (decide (aE (fun x=>s==x) l (0:Int)≥0)))) []) fun Γ=>⟨?_,rfl⟩
 rw [iy _ _ _ (by omega)]
def eSc:Ent:=(177,fun
 | [.c (.pd (.lst .str l)),.c (.pd (.str s))],[]=>some (none,.x (.c (.pd (.bool (l.any fun x=>s==x)))),[])
 | _,_=>none)
theorem yD:EntOk Tryz.prog eSc:=entOk fun vs ck=>by
 unfold eSc; dsimp only; split
 · rename_i l s; exact entS fun hp=>Lu l s
 · exact entN
def Kf:Cfg:=⟨aX,[eIx,eSc]⟩
theorem HU:ag Tryz.prog Kf.tab:=(ag.cons Nq (ag.cons yD ag.nil))
theorem js {α:Type} (p:α→Bool):∀ (l:List α) (i:Nat),(aE p l i = -1∧l.find? p=none)∨∃ k x,aE p l i=((i+k:Nat):Int)∧l[k]?=some x∧l.find? p=some x
 | [],i=>.inl ⟨rfl,rfl⟩
 | x :: r,i=>by
   simp only [aE,List.find?_cons]
   cases hp:p x
   · rcases js p r (i+1) with ⟨h1,h2⟩ | ⟨k,y,h1,h2,h3⟩
     · exact .inl ⟨h1,h2⟩
     · exact .inr ⟨k+1,y,by simp only [cond_false]; rw [show (i:Int)+1=((i+1:Nat):Int) from rfl,h1]; omega,by simpa using h2,h3⟩
   · exact .inr ⟨0,x,by simp,by simp,rfl⟩
theorem Gq (vs:List Var) (ss:List Str):ah Tryz.prog 182 [.e .cell c,.l .var vs,.l .str ss] [] (cq (bW c vs ss)) []:=by
 refine dg HU Tryz.func182 (.ite (c.op==(1:Int)) (.ret (.tup [.i 1,.i 0]) []) (.ite (c.op==(2:Int)) (.ret (.tup [.i 3,.i 0]) []) (.ite (c.op==(5:Int)) (.ite (decide (aE (fun v=>v.name==c.name) vs (0:Int)<0)) (.ret (.tup [.i 0,.i 2]) []) (.need ((0:Int)≤aE (fun v=>v.name==c.name) vs (0:Int)∧aE (fun v=>v.name==c.name) vs (0:Int)<(vs.length:Int)) (.ite (decide (Var.kind (ETy.get .var vs ((aE (fun v=>v.name==c.name) vs (0:Int)).toNat))≥(1:Int))&&decide (Var.kind (ETy.get .var vs ((aE (fun v=>v.name==c.name) vs (0:Int)).toNat))≤(3:Int))) (.ret (.tup [.i (Var.kind (ETy.get .var vs ((aE (fun v=>v.name==c.name) vs (0:Int)).toNat))),.i 0]) []) (.ret (.tup [.i 0,.i 8]) [])))) (.ite (c.op==(6:Int)) (.ite (!List.any ss fun x=>c.name==x) (.ret (.tup [.i 0,.i 2]) []) (.ret (.tup [.i 2,.i 0]) [])) (.ret (.tup [.i 2,.i 0]) []))))) fun Γ=>?_
 have hsw:(ss.any fun x=>c.name==x)=ss.any fun s=>s==c.name:=by congr 1; funext x; exact BEq.comm
 refine ⟨fun h1=>⟨by simp only [bW,h1,cond_true,cq],rfl⟩,fun h1=>⟨fun h2=>⟨by simp only [bW,h1,h2,cond_true,cond_false,cq],rfl⟩,fun h2=>⟨fun h5=>?_,fun h5=>⟨fun h6=>⟨fun h=>⟨?_,rfl⟩,fun h=>⟨?_,rfl⟩⟩,fun h6=>⟨by simp only [bW,h1,h2,h5,h6,cond_false,cq],rfl⟩⟩⟩⟩⟩
 · show _∧_
   rcases js (fun v:Var=>v.name==c.name) vs 0 with ⟨g1,g2⟩ | ⟨k,x,g1,g2,g3⟩
   · simp only [Int.natCast_zero] at g1
     rw [g1]
     exact ⟨fun _=>⟨by simp only [bW,h1,h2,h5,ie,g2,cond_true,cond_false,cq],rfl⟩,fun h=>by simp at h⟩
   · simp only [Int.natCast_zero,bb] at g1
     have hk:=(List.getElem?_eq_some_iff.1 g2).1
     rw [g1]
     refine ⟨fun h=>by have:=of_decide_eq_true h; omega,fun _=>⟨by omega,?_⟩⟩
     rw [ai,ETy.get_eq (t:=.var) g2]
     exact ⟨fun h=>⟨by simp only [bW,h1,h2,h5,ie,g3,h,cond_true,cond_false,cq],rfl⟩,fun h=>⟨by simp only [bW,h1,h2,h5,ie,g3,h,cond_true,cond_false,cq],rfl⟩⟩
 · rw [hsw] at h; simp only [bW,h1,h2,h5,h6,h,cond_true,cond_false,cq]
 · rw [hsw] at h; simp only [bW,h1,h2,h5,h6,h,cond_true,cond_false,cq]
def wi:Ent:=(182,fun
 | [.agg [.pd (.int .i64 a),.pd (.int .i64 b),.pd (.str d)],.c (.pd (.lst .var vs)),.c (.pd (.lst .str ss))],[]=>some (none,cq (bW ⟨a,b,d⟩ vs ss),[])
 | _,_=>none)
theorem I8:EntOk Tryz.prog wi:=entOk fun vs ck=>by
 unfold wi; dsimp only; split
 · rename_i a b d vs ss; exact entS fun hp=>Gq ⟨a,b,d⟩ vs ss
 · exact entN
end Go.Proofs.YtgfifkhbfdacjaaGreatDoor

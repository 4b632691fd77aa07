/- Contracts: words.Line. Conditions: sizes. Contracts of the program's functions on names and cells. Conditions: none. Contracts of the program's functions on kinds. Conditions: none. -/
import Derived.Test.YtlhgnjmdopjpeaaGreatDoorKb
namespace Go.Proofs.YtlhgnjmdopjpeaaGreatDoor
open Go Go.Ev
set_option maxRecDepth 100000
def EZ:Ent:=(44,fun
 |[.c (.pd (.str s))],[]=>some (some (s.length≤2097152∧I4 s=true),.tup [.c (.pd (.int .i64 ((dF s:Nat):Int))),.c (.own 0),.c (.pd (.int .i64 0))],[.own 9 .str (kv s)])
 |_,_=>none)
theorem OO:EntOk Tryz.prog EZ:=entOk fun vs ck=>by
 unfold EZ;dsimp only;split
 ·rename_i s;exact entS fun hp=>Pw s hp.1 hp.2
 ·exact entN
abbrev zFa2:List PI:=[.code [1,1,0,1,0,0],.inLoop [1,1,0,1,0,0],.inBlock 0,.code [1,1,1]]
variable(l:List Cell)(s:Str)(Γ:Ctx)
theorem Jc(h0:lq s=false):∀(n k:Nat),s.length - k≤n→k≤s.length→(∀j,j<k→lY (s.getD j 0)=false) →
 J Tryz.prog 45 (aB Tryz.f45) Γ (Eq2 (.x (.b (a8 s))) []) zFa2 ({n:=56,fr:=[(0,.p (.str s)),(2,.p (.bool false)),(23,.i (aD s)),(24,.i k)],ck:=[],kn:=[2]}):=by
 have hlen:s.length≤12:=by simp[lq,aD]at h0;omega
 intro n
 induction n with
 |zero=>?_
 |succ n ih=>?_
 all_goals
  intro k hn hk hb
  refine jg aV Tryz.func45 (let x1:=(↑((List.getD s k (0:UInt8)).toNat):Int);let x2:Tree:=(.ret (.p (.bool false)) []);.ite (decide ((k:Int)<aD s)) (.need ((0:Int)≤(k:Int)∧(k:Int)<aD s) (.ite ((decide (x1<97)||decide (x1>122))&&(decide (x1<48)||decide (x1>57))&&x1 != 95) x2 (.stop zFa2 {n:=56,fr:=[(0,.p (.str s)),(2,.p (.bool false)),(23,.i (aD s)),(24,.i (IntKind.wrap .i64 ((k:Int)+1)))],ck:=[],kn:=[2]}))) (.ite (s==[116,114,117,101]) x2 (.ite (s==[102,97,108,115,101]) x2 (.ite (s==[105,110]) x2 (.ite (s==[114,101]) x2 (.ite (s==[105,109]) x2 (.ret (.p (.bool true)) []))))))) ?_
  conv=>zeta
  have hend:¬k<s.length→s.any lY=false:=fun h=>qP fun j hj=>hb j (by omega)
  refine⟨fun hlt=>⟨?_,fun hbad=>⟨?_,rfl⟩,fun hok=>?_⟩,fun hge=>?_⟩
  ·have:=of_decide_eq_true hlt;simp only[aD]at this ⊢;omega
  · have:=of_decide_eq_true hlt;simp only[aD]at this
    have hbad':lY (s.getD k 0)=true:=hbad
    simp only[a8,Al (by omega) hbad'];simp
  · have:=of_decide_eq_true hlt;simp only[aD]at this
    first
    |(exfalso;omega)
    | (rw[ba (by omega)]
       exact ih (k+1) (by omega) (by omega) fun j hj=>if e:j=k then by rw[e];exact hok else hb j (by omega))
  · have:=of_decide_eq_false hge;simp only[aD]at this
    have hany:=hend (by omega)
    refine⟨fun h1=>⟨?_,rfl⟩,fun h1=>⟨fun h2=>⟨?_,rfl⟩,fun h2=>⟨fun h3=>⟨?_,rfl⟩,fun h3=>⟨fun h4=>⟨?_,rfl⟩,fun h4=>⟨fun h5=>⟨?_,rfl⟩,fun h5=>⟨?_,rfl⟩⟩⟩⟩⟩⟩ <;>
     simp[a8,h0,hany,rC, *]
theorem Jd:ag Tryz.prog 45 [.s s] [] (.x (.b (a8 s))) []:=by
 refine dg aV Tryz.func45 (let x1:=(↑((List.getD s 0 (0:UInt8)).toNat):Int);let x2:=(aD s>(12:Int));.need ((s==[]||decide x2)=false→(0:Int)≤0∧(0:Int)<aD s) (.need ((s==[]||decide x2||decide (x1<97))=false→(0:Int)≤0∧(0:Int)<aD s) (.ite (s==[]||decide x2||decide (x1<97)||decide (x1>122)) (.ret (.p (.bool false)) []) (.stop zFa2 {n:=56,fr:=[(0,.p (.str s)),(2,.p (.bool false)),(23,.i (aD s)),(24,.i 0)],ck:=[],kn:=[2]})))) fun Γ=>?_
 conv=>zeta
 have hpos:(s==[]||decide (aD s>12))=false→0≤(0:Int)∧0<aD s:=by
  intro h
  cases s with
  |nil=>simp at h
  |cons c r=>simp[aD]
 refine⟨hpos,fun h=>hpos ?_,fun h=>⟨?_,rfl⟩,fun h=>?_⟩
 ·simp only[an]at h ⊢;exact h.1
 · have h':lq s=true:=h
   simp[a8,h']
 ·exact Jc s _ h s.length 0 (by omega) (by omega) (fun j hj=>by omega)
def k8:Ent:=(45,fun
 |[.c (.pd (.str s))],[]=>some (none,.x (.c (.pd (.bool (a8 s)))),[])
 |_,_=>none)
theorem jV:EntOk Tryz.prog k8:=entOk fun vs ck=>by
 unfold k8;dsimp only;split
 ·rename_i s;exact entS fun hp=>Jd s
 ·exact entN
def Du:Cfg:=⟨aX,[k8]⟩
theorem Et:ah Tryz.prog Du.tab:=(ah.cons jV ah.nil)
theorem GP(op a:Int)(s:Str):ag Tryz.prog 173 [.agg [.i op,.i a,.pd (.str s)]] [] (.x (.i (cT op a s))) []:=by
 refine dg Et Tryz.func173 (let x1:Tree:=(.ret (.i (-1:Int)) []);let x2:Tree:=(.ite (a != (0:Int) || !a8 s) x1 (.ret (.i 0) []));.ite (op==(1:Int)) (.ite (decide (a<(0:Int))||decide (a>(1099511627776:Int)) || !s==[]) x1 (.ret (.i 0) [])) (.ite (op==(2:Int)) (.ite (decide (a<(0:Int))||decide (a>(1048576:Int)) || !s==[]) x1 (.ret (.i 0) [])) (.ite (op==(5:Int)) x2 (.ite (op==(6:Int)) x2 (.ite (decide (op<(3:Int))||decide (op>(23:Int))||a != (0:Int) || !s==[]) x1 (.ite (decide (op≤(4:Int))) (.ret (.i 0) []) (.ite (decide (op≤(10:Int))) (.ret (.i 1) []) (.ret (.i 2) [])))))))) fun Γ=>?_
 conv=>zeta
 (repeat' (first |intro h |constructor)) <;> simp only[cT, *,cond_true,cond_false]
def uP:Ent:=(173,fun
 |[.agg [.pd (.int .i64 op),.pd (.int .i64 a),.pd (.str s)]],[]=>some (none,.x (.c (.pd (.int .i64 (cT op a s)))),[])
 |_,_=>none)
theorem ID:EntOk Tryz.prog uP:=entOk fun vs ck=>by
 unfold uP;dsimp only;split
 ·rename_i op a s;exact entS fun hp=>GP op a s
 ·exact entN
def s8:Cfg:=⟨aX,[uP]⟩
theorem sB:ah Tryz.prog s8.tab:=(ah.cons ID ah.nil)
abbrev zFa1:List PI:=[.code [1,1,1,0,1,0,0],.inLoop [1,1,1,0,1,0,0],.inBlock 0,.code [1,1,1,1]]
theorem Gm(hl:l.length≤32):∀(n k:Nat) (m:Int),l.length - k≤n→k≤l.length→0≤m→m≤k →
 J Tryz.prog 105 (aB Tryz.f105) Γ (Eq2 (.x (.b (cq (l.drop k) m))) []) zFa1 ({n:=32,fr:=[(2,.p (.bool false)),(3,.i m),(10,.p (.lst .cell l)),(11,.i l.length),(12,.i k)],ck:=[],kn:=[2]}):=by
 intro n
 induction n with
 |zero=>?_
 |succ n ih=>?_
 all_goals
  intro k m hn hk h0 hm
  refine jg sB Tryz.func105 (let x1:=(Cell.name (ETy.get .cell l k));let x2:=(Cell.op (ETy.get .cell l k));let x3:=(Cell.a (ETy.get .cell l k));.ite (decide ((k:Int)<(l.length:Int))) (.need (inRg k l.length) (.ite (decide (cT x2 x3 x1<(0:Int))||decide (cT x2 x3 x1>m)) (.ret (.p (.bool false)) []) (.stop zFa1 {n:=32,fr:=[(2,.p (.bool false)),(3,.i (IntKind.wrap .i64 (m+IntKind.wrap .i64 ((1:Int) - cT x2 x3 x1)))),(10,.p (.lst .cell l)),(11,.i l.length),(12,.i (IntKind.wrap .i64 ((k:Int)+1)))],ck:=[],kn:=[2]}))) (.ret (.p (.bool (m==(1:Int)))) [])) ?_
  conv=>zeta
  refine⟨fun hlt=>⟨?_,?_⟩,fun hge=>⟨?_,rfl⟩⟩
  ·have:=of_decide_eq_true hlt;omega
  · have hk':k<l.length:=by have:=of_decide_eq_true hlt;omega
    rw[bK (t:=.cell) hk']
    generalize ETy.get .cell l k=c
    refine⟨fun hb=>⟨?_,rfl⟩,fun hb=>?_⟩
    · have hb':(decide (aT c<0)||decide (aT c>m))=true:=hb
      simp only[cq,hb',cond_true]
    · have hb':(decide (aT c<0)||decide (aT c>m))=false:=hb
      have hw:0≤aT c∧aT c≤m:=by
       simp only[an,decide_eq_false_iff_not]at hb'
       omega
      simp only[cq,hb',cond_false]
      show J Tryz.prog 105 (aB Tryz.f105) Γ _ zFa1 ({n:=32,fr:=[(2,.p (.bool false)),(3,.i (IntKind.wrap .i64 (m+IntKind.wrap .i64 (1 - aT c)))),(10,.p (.lst .cell l)),(11,.i l.length),(12,.i (IntKind.wrap .i64 ((k:Int)+1)))],ck:=[],kn:=[2]})
      rw[cj (n:=1 - aT c) (by omega) (by omega),cj (by omega) (by omega),ba (by omega)]
      first
      |(exfalso;omega)
      |exact ih (k+1) (m+(1 - aT c)) (by omega) (by omega) (by omega) (by omega)
  ·rw[bZ (by have:=of_decide_eq_false hge;omega)];rfl
theorem Gn:ag Tryz.prog 105 [.l .cell l] [] (.x (.b (dD l))) []:=by
 refine dg sB Tryz.func105 (.ite (decide ((l.length:Int)>32)) (.ret (.p (.bool false)) []) (.stop zFa1 {n:=32,fr:=[(2,.p (.bool false)),(3,.i 0),(10,.p (.lst .cell l)),(11,.i l.length),(12,.i 0)],ck:=[],kn:=[2]})) fun Γ=>?_
 refine⟨fun h=>⟨by simp only[dD,h];rfl,rfl⟩,fun h=>?_⟩
 have hl:l.length≤32:=by have:=of_decide_eq_false h;omega
 simp only[dD,h]
 exact Gm l Γ hl l.length 0 0 (by omega) (by omega) (by omega) (by omega)
def oy:Ent:=(105,fun
 |[.c (.pd (.lst .cell l))],[]=>some (none,.x (.c (.pd (.bool (dD l)))),[])
 |_,_=>none)
theorem qi:EntOk Tryz.prog oy:=entOk fun vs ck=>by
 unfold oy;dsimp only;split
 ·rename_i l;exact entS fun hp=>Gn l
 ·exact entN
abbrev zFb1:List Chunk:=[.own 297 .krow [{low:=(7:Int),high:=(7:Int),left:=(1:Int),right:=(0:Int),out:=(1:Int)},{low:=(7:Int),high:=(7:Int),left:=(3:Int),right:=(0:Int),out:=(3:Int)},{low:=(8:Int),high:=(8:Int),left:=(2:Int),right:=(0:Int),out:=(2:Int)},{low:=(9:Int),high:=(10:Int),left:=(3:Int),right:=(0:Int),out:=(1:Int)},{low:=(11:Int),high:=(15:Int),left:=(1:Int),right:=(1:Int),out:=(1:Int)},{low:=(11:Int),high:=(13:Int),left:=(3:Int),right:=(3:Int),out:=(3:Int)},{low:=(16:Int),high:=(21:Int),left:=(1:Int),right:=(1:Int),out:=(2:Int)},{low:=(16:Int),high:=(17:Int),left:=(2:Int),right:=(2:Int),out:=(2:Int)},{low:=(16:Int),high:=(17:Int),left:=(3:Int),right:=(3:Int),out:=(2:Int)},{low:=(22:Int),high:=(23:Int),left:=(2:Int),right:=(2:Int),out:=(2:Int)}]]
theorem JG:ag Tryz.prog 299 [] [] (.x (.c (.own 0))) [.own 297 .krow r7]:=by
 refine dg aV Tryz.func299 (.ret (.x (.c (.own 0))) zFb1) fun Γ=>?_
 exact⟨rfl,rfl⟩
def yP:Ent:=(299,fun
 |[],[]=>some (none,.x (.c (.own 0)),[.own 297 .krow r7])
 |_,_=>none)
theorem Lk:EntOk Tryz.prog yP:=entOk fun vs ck=>by
 unfold yP;dsimp only;split
 ·exact entS fun hp=>JG
 ·exact entN
def Dx:Cfg:=⟨aX,[yP]⟩
theorem Ez:ah Tryz.prog Dx.tab:=(ah.cons Lk ah.nil)
abbrev zFb2:List PI:=[.code [1,0,1,0,0],.inLoop [1,0,1,0,0],.inBlock 0,.code [1,1]]
variable(l:List Str)(op:Int)(vs:List Var)(c:Cell)(s:Str)(Γ:Ctx)
theorem I6(l r:Int)(ks:List KRow)(Γ:Ctx)(hl:ks.length≤100):∀(n k:Nat),ks.length - k≤n→k≤ks.length →
 J Tryz.prog 259 (aB Tryz.f259) Γ (Eq2 (.x (.i (jJ op l r (ks.drop k)))) []) zFb2 ({n:=40,fr:=[(0,.i op),(1,.i l),(2,.i r),(6,.i 0),(9,.x (.c (.own 0))),(10,.i ks.length),(11,.i k)],ck:=[.own 297 .krow ks]}):=by
 intro n
 induction n with
 |zero=>?_
 |succ n ih=>?_
 all_goals
  intro k hn hk
  refine jg aV Tryz.func259 (.ite (decide ((k:Int)<(ks.length:Int))) (.need (inRg k ks.length) (.need (k<ks.length) (.ite (decide (op≥KRow.low (ETy.get .krow ks k))&&decide (op≤KRow.high (ETy.get .krow ks k))&&l==KRow.left (ETy.get .krow ks k)&&r==KRow.right (ETy.get .krow ks k)) (.ret (.i (KRow.out (ETy.get .krow ks k))) []) (.stop zFb2 {n:=40,fr:=[(0,.i op),(1,.i l),(2,.i r),(6,.i 0),(9,.x (.c (.own 0))),(10,.i ks.length),(11,.i (IntKind.wrap .i64 ((k:Int)+1)))],ck:=[.own 297 .krow ks]})))) (.ret (.i 0) [])) ?_
  refine⟨fun hlt=>?_,fun hge=>⟨?_,rfl⟩⟩
  · have hk':k<ks.length:=by have:=of_decide_eq_true hlt;omega
    rw[bK (t:=.krow) hk']
    refine⟨by omega,hk',?_⟩
    generalize ETy.get .krow ks k=c
    refine⟨fun hb=>⟨?_,rfl⟩,fun hb=>?_⟩
    · have hb':yY op l r c=true:=hb
      simp only[jJ,hb',cond_true]
    · have hb':yY op l r c=false:=hb
      simp only[jJ,hb',cond_false]
      rw[ba (by omega)]
      first
      |(exfalso;omega)
      |exact ih (k+1) (by omega) (by omega)
  ·rw[bZ (by have:=of_decide_eq_false hge;omega)];rfl
theorem I7(l r:Int):ag Tryz.prog 259 [.i op,.i l,.i r] [] (.x (.i (dp op l r))) []:=by
 refine dg Ez Tryz.func259 (.stop zFb2 {n:=40,fr:=[(0,.i op),(1,.i l),(2,.i r),(6,.i 0),(9,.x (.c (.own 0))),(10,.i (↑(10:Nat):Int)),(11,.i 0)],ck:=zFb1}) fun Γ=>?_
 exact I6 op l r r7 Γ (by decide) r7.length 0 (by omega) (by omega)
def yI:Ent:=(259,fun
 |[.c (.pd (.int .i64 op)),.c (.pd (.int .i64 l)),.c (.pd (.int .i64 r))],[]=>some (none,.x (.c (.pd (.int .i64 (dp op l r)))),[])
 |_,_=>none)
theorem Ld:EntOk Tryz.prog yI:=entOk fun vs ck=>by
 unfold yI;dsimp only;split
 ·rename_i op l r;exact entS fun hp=>I7 op l r
 ·exact entN
theorem sL{α:Type}(p:α→Bool):∀(l:List α) (i:Int),0≤i→(ax p l i≥0↔l.any p=true)
 |[],i,_=>by simp[ax]
 | x::r,i,h=>by
   have ih:=sL p r (i+1) (by omega)
   unfold ax
   rw[cM]
   cases hp:p x
   ·simpa using ih
   ·simpa using h
theorem iI{α:Type}(p:α→Bool)(l:List α)(i:Int)(h:0≤i):decide (ax p l i≥0)=l.any p:=by
 have:=sL p l i h
 cases hl:l.any p
 ·rw[hl]at this;exact decide_eq_false (fun h2=>by simp at this;omega)
 ·rw[hl]at this;exact decide_eq_true (this.2 rfl)
theorem Ol(v:Var)(c:Cell):ag Tryz.prog 298 [.e .var v,.p (.ref .cell c 0)] [] (.x (.b (v.name==c.name))) []:=by
 refine dg aV Tryz.func298 (.ret (.p (.bool (v.name==c.name))) []) fun Γ=>⟨rfl,rfl⟩
def eCl:Ent:=(298,fun
 |[.agg [.pd (.str a),.pd (.int .i64 b),.pd (.int .i64 d),.pd (.int .i64 e),.pd (.int .i64 f),.pd (.int .i64 g),.pd (.int .i64 h)],.c (.pd (.ref .cell c 0))],[]=>some (none,.x (.c (.pd (.bool (a==c.name)))),[])
 |_,_=>none)
theorem QT:EntOk Tryz.prog eCl:=entOk fun vs ck=>by
 unfold eCl;dsimp only;split
 ·rename_i a b d e f g h c;exact entS fun hp=>Ol ⟨a,b,d,e,⟨f,g,h⟩⟩ c
 ·exact entN
def Eg:Cfg:=⟨aX,[eCl]⟩
theorem AC:ah Tryz.prog Eg.tab:=(ah.cons QT ah.nil)
theorem Pr(hl:vs.length≤maxLen):∀(n k:Nat),vs.length - k≤n→k≤vs.length →
 J Tryz.prog 112 (aB Tryz.f112) Γ (Eq2 (.x (.i (ax (fun v:Var=>v.name==c.name) (vs.drop k) k))) []) zFb2 ({n:=19,fr:=[(0,.p (.lst .var vs)),(1,.x (.c (.fn (.func 298) [] [.pd (.ref .cell c 0)]))),(4,.i 0),(7,.i vs.length),(8,.i k)],ck:=[]}):=by
 intro n
 induction n with
 |zero=>?_
 |succ n ih=>?_
 all_goals
  intro k hn hk
  refine jg AC Tryz.func112 (.ite (decide ((k:Int)<(vs.length:Int))) (.need (inRg k vs.length) (.ite (Var.name (ETy.get .var vs k)==c.name) (.ret (.i k) []) (.stop zFb2 {n:=19,fr:=[(0,.p (.lst .var vs)),(1,.x (.c (.fn (.func 298) [] [.pd (.ref .cell c 0)]))),(4,.i 0),(7,.i vs.length),(8,.i (IntKind.wrap .i64 ((k:Int)+1)))],ck:=[]}))) (.ret (.i (-1:Int)) [])) ?_
  refine⟨fun hlt=>?_,fun hge=>⟨?_,rfl⟩⟩
  · have hk':k<vs.length:=by have:=of_decide_eq_true hlt;omega
    rw[bK (t:=.var) hk']
    refine⟨by omega,?_⟩
    generalize ETy.get .var vs k=v
    refine⟨fun hb=>⟨?_,rfl⟩,fun hb=>?_⟩
    ·simp only[ax,hb,cond_true]
    · simp only[ax,hb,cond_false]
      rw[ba (aK hk' hl)]
      first
      |(exfalso;omega)
      |exact ih (k+1) (by omega) (by omega)
  ·rw[bZ (by have:=of_decide_eq_false hge;omega)];rfl
theorem Pt:ag Tryz.prog 112 [.l .var vs,.c (.fn (.func 298) [] [.pd (.ref .cell c 0)])] [] (.x (.i (ax (fun v:Var=>v.name==c.name) vs 0))) []:=by
 refine dg AC Tryz.func112 (.stop zFb2 {n:=19,fr:=[(0,.p (.lst .var vs)),(1,.x (.c (.fn (.func 298) [] [.pd (.ref .cell c 0)]))),(4,.i 0),(7,.i vs.length),(8,.i 0)],ck:=[]}) fun Γ=>?_
 exact J.len 0 rfl fun hl=>Pr vs c Γ hl vs.length 0 (by omega) (by omega)
def eIx:Ent:=(112,fun
 |[.c (.pd (.lst .var vs)),.c (.fn (.func 298) [] [.pd (.ref .cell c 0)])],[]=>some (none,.x (.c (.pd (.int .i64 (ax (fun v:Var=>v.name==c.name) vs 0)))),[])
 |_,_=>none)
theorem Q3:EntOk Tryz.prog eIx:=entOk fun vs ck=>by
 unfold eIx;dsimp only;split
 ·rename_i vs c;exact entS fun hp=>Pt vs c
 ·exact entN
theorem Qo(hl:l.length≤maxLen):∀(n k:Nat),l.length - k≤n→k≤l.length →
 J Tryz.prog 176 (aB Tryz.f176) Γ (Eq2 (.x (.i (ax (fun x=>s==x) (l.drop k) k))) []) zFb2 ({n:=19,fr:=[(0,.p (.lst .str l)),(1,.p (.str s)),(4,.i 0),(7,.i l.length),(8,.i k)],ck:=[]}):=by
 intro n
 induction n with
 |zero=>?_
 |succ n ih=>?_
 all_goals
  intro k hn hk
  refine jg aV Tryz.func176 (.ite (decide ((k:Int)<(l.length:Int))) (.need (inRg k l.length) (.ite (s==ETy.get .str l k) (.ret (.i k) []) (.stop zFb2 {n:=19,fr:=[(0,.p (.lst .str l)),(1,.p (.str s)),(4,.i 0),(7,.i l.length),(8,.i (IntKind.wrap .i64 ((k:Int)+1)))],ck:=[]}))) (.ret (.i (-1:Int)) [])) ?_
  refine⟨fun hlt=>?_,fun hge=>⟨?_,rfl⟩⟩
  · have hk':k<l.length:=by have:=of_decide_eq_true hlt;omega
    rw[bK (t:=.str) hk']
    refine⟨by omega,?_⟩
    generalize ETy.get .str l k=v
    refine⟨fun hb=>⟨?_,rfl⟩,fun hb=>?_⟩
    ·simp only[ax,hb,cond_true]
    · simp only[ax,hb,cond_false]
      rw[ba (aK hk' hl)]
      first
      |(exfalso;omega)
      |exact ih (k+1) (by omega) (by omega)
  ·rw[bZ (by have:=of_decide_eq_false hge;omega)];rfl
theorem Qp:ag Tryz.prog 176 [.l .str l,.s s] [] (.x (.i (ax (fun x=>s==x) l 0))) []:=by
 refine dg aV Tryz.func176 (.stop zFb2 {n:=19,fr:=[(0,.p (.lst .str l)),(1,.p (.str s)),(4,.i 0),(7,.i l.length),(8,.i 0)],ck:=[]}) fun Γ=>?_
 exact J.len 0 rfl fun hl=>Qo l s Γ hl l.length 0 (by omega) (by omega)
def eSi:Ent:=(176,fun
 |[.c (.pd (.lst .str l)),.c (.pd (.str s))],[]=>some (none,.x (.c (.pd (.int .i64 (ax (fun x=>s==x) l 0)))),[])
 |_,_=>none)
theorem Re:EntOk Tryz.prog eSi:=entOk fun vs ck=>by
 unfold eSi;dsimp only;split
 ·rename_i l s;exact entS fun hp=>Qp l s
 ·exact entN
def NS:Cfg:=⟨aX,[eSi]⟩
theorem KM:ah Tryz.prog NS.tab:=(ah.cons Re ah.nil)
theorem Qm:ag Tryz.prog 111 [.l .str l,.s s] [] (.x (.b (l.any fun x=>s==x))) []:=by
 refine dg KM Tryz.func111 (.ret (.p (.bool (decide (ax (fun x=>s==x) l (0:Int)≥0)))) []) fun Γ=>⟨?_,rfl⟩
 rw[iI _ _ _ (by omega)]
def eSc:Ent:=(111,fun
 |[.c (.pd (.lst .str l)),.c (.pd (.str s))],[]=>some (none,.x (.c (.pd (.bool (l.any fun x=>s==x)))),[])
 |_,_=>none)
theorem uE:EntOk Tryz.prog eSc:=entOk fun vs ck=>by
 unfold eSc;dsimp only;split
 ·rename_i l s;exact entS fun hp=>Qm l s
 ·exact entN
def NK:Cfg:=⟨aX,[eIx,eSc]⟩
theorem KE:ah Tryz.prog NK.tab:=(ah.cons Q3 (ah.cons uE ah.nil))
theorem hU{α:Type}(p:α→Bool):∀(l:List α) (i:Nat),(ax p l i = -1∧l.find? p=none)∨∃k x,ax p l i=((i+k:Nat):Int)∧l[k]?=some x∧l.find? p=some x
 |[],i=>.inl ⟨rfl,rfl⟩
 | x :: r,i=>by
   simp only[ax,List.find?_cons]
   cases hp:p x
   · rcases hU p r (i+1)with⟨h1,h2⟩ |⟨k,y,h1,h2,h3⟩
     ·exact .inl ⟨h1,h2⟩
     ·exact .inr ⟨k+1,y,by simp only[cond_false];rw[show(i:Int)+1=((i+1:Nat):Int)from rfl,h1];omega,by simpa using h2,h3⟩
   ·exact .inr ⟨0,x,by simp,by simp,rfl⟩
theorem I2(vs:List Var)(ss:List Str):ag Tryz.prog 258 [.e .cell c,.l .var vs,.l .str ss] [] (cH (b8 c vs ss)) []:=by
 refine dg KE Tryz.func258 (.ite (c.op==(1:Int)) (.ret (.tup [.i 1,.i 0]) []) (.ite (c.op==(2:Int)) (.ret (.tup [.i 3,.i 0]) []) (.ite (c.op==(5:Int)) (.ite (decide (ax (fun v=>v.name==c.name) vs (0:Int)<0)) (.ret (.tup [.i 0,.i 2]) []) (.need ((0:Int)≤ax (fun v=>v.name==c.name) vs (0:Int)∧ax (fun v=>v.name==c.name) vs (0:Int)<(vs.length:Int)) (.ite (decide (Var.kind (ETy.get .var vs ((ax (fun v=>v.name==c.name) vs (0:Int)).toNat))≥(1:Int))&&decide (Var.kind (ETy.get .var vs ((ax (fun v=>v.name==c.name) vs (0:Int)).toNat))≤(3:Int))) (.ret (.tup [.i (Var.kind (ETy.get .var vs ((ax (fun v=>v.name==c.name) vs (0:Int)).toNat))),.i 0]) []) (.ret (.tup [.i 0,.i 8]) [])))) (.ite (c.op==(6:Int)) (.ite (!List.any ss fun x=>c.name==x) (.ret (.tup [.i 0,.i 2]) []) (.ret (.tup [.i 2,.i 0]) [])) (.ret (.tup [.i 2,.i 0]) []))))) fun Γ=>?_
 have hsw:(ss.any fun x=>c.name==x)=ss.any fun s=>s==c.name:=by congr 1;funext x;exact BEq.comm
 refine⟨fun h1=>⟨by simp only[b8,h1,cond_true,cH],rfl⟩,fun h1=>⟨fun h2=>⟨by simp only[b8,h1,h2,cond_true,cond_false,cH],rfl⟩,fun h2=>⟨fun h5=>?_,fun h5=>⟨fun h6=>⟨fun h=>⟨?_,rfl⟩,fun h=>⟨?_,rfl⟩⟩,fun h6=>⟨by simp only[b8,h1,h2,h5,h6,cond_false,cH],rfl⟩⟩⟩⟩⟩
 · show _∧_
   rcases hU (fun v:Var=>v.name==c.name) vs 0 with⟨g1,g2⟩ |⟨k,x,g1,g2,g3⟩
   · simp only[dc]at g1
     rw[g1]
     exact⟨fun _=>⟨by simp only[b8,h1,h2,h5,jq,g2,cond_true,cond_false,cH],rfl⟩,fun h=>by simp at h⟩
   · simp only[dc,aY]at g1
     have hk:=(List.getElem?_eq_some_iff.1 g2).1
     rw[g1]
     refine⟨fun h=>by have:=of_decide_eq_true h;omega,fun _=>⟨by omega,?_⟩⟩
     rw[ai,ETy.get_eq (t:=.var) g2]
     exact⟨fun h=>⟨by simp only[b8,h1,h2,h5,jq,g3,h,cond_true,cond_false,cH],rfl⟩,fun h=>⟨by simp only[b8,h1,h2,h5,jq,g3,h,cond_true,cond_false,cH],rfl⟩⟩
 ·rw[hsw]at h;simp only[b8,h1,h2,h5,h6,h,cond_true,cond_false,cH]
 ·rw[hsw]at h;simp only[b8,h1,h2,h5,h6,h,cond_true,cond_false,cH]
def yH:Ent:=(258,fun
 |[.agg [.pd (.int .i64 a),.pd (.int .i64 b),.pd (.str d)],.c (.pd (.lst .var vs)),.c (.pd (.lst .str ss))],[]=>some (none,cH (b8 ⟨a,b,d⟩ vs ss),[])
 |_,_=>none)
theorem Lb:EntOk Tryz.prog yH:=entOk fun vs ck=>by
 unfold yH;dsimp only;split
 ·rename_i a b d vs ss;exact entS fun hp=>I2 ⟨a,b,d⟩ vs ss
 ·exact entN
end Go.Proofs.YtlhgnjmdopjpeaaGreatDoor

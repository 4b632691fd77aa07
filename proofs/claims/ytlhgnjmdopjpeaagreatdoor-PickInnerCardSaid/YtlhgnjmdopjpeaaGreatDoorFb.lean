/- Contracts: words.Line. Conditions: sizes. Contracts of the program's functions on names and cells. Conditions: none. Contracts of the program's functions on kinds. Conditions: none. -/
import Derived.Test.YtlhgnjmdopjpeaaGreatDoorKb
namespace Go.Proofs.YtlhgnjmdopjpeaaGreatDoor
open Go Go.Ev
set_option maxRecDepth 100000
def FS:Ent:=(44,fun
 |[.c (.pd (.str s))],[]=>some (some (s.length≤2097152∧JM s=true),.tup [.c (.pd (.int .i64 ((dJ s:Nat):Int))),.c (.own 0),.c (.pd (.int .i64 0))],[.own 9 .str (kF s)])
 |_,_=>none)
theorem Pw:EntOk Tryz.prog FS:=entOk fun vs ck=>by
 unfold FS;dsimp only;split
 ·rename_i s;exact entS fun hp=>Qb s hp.1 hp.2
 ·exact entN
abbrev zFa2:List PI:=[.code [1,1,0,1,0,0],.inLoop [1,1,0,1,0,0],.inBlock 0,.code [1,1,1]]
variable(l:List Cell)(s:Str)(Γ:Ctx)
theorem JT(h0:lE s=false):∀(n k:Nat),s.length - k≤n→k≤s.length→(∀j,j<k→l9 (s.getD j 0)=false) →
 J Tryz.prog 45 (ar Tryz.f45) Γ (Eq2 (.x (.b (bk s))) []) zFa2 ({n:=56,fr:=[(0,.p (.str s)),(2,.p (.bool false)),(23,.i (aE s)),(24,.i k)],ck:=[],kn:=[2]}):=by
 have hlen:s.length≤12:=by simp[lE,aE]at h0;omega
 intro n
 induction n with
 |zero=>?_
 |succ n ih=>?_
 all_goals
  intro k hn hk hb
  refine jg aX Tryz.func45 (let x1:=(↑((List.getD s k (0:UInt8)).toNat):Int);let x2:Tree:=(.ret (.p (.bool false)) []);.ite (decide ((k:Int)<aE s)) (.need ((0:Int)≤(k:Int)∧(k:Int)<aE s) (.ite ((decide (x1<97)||decide (x1>122))&&(decide (x1<48)||decide (x1>57))&&x1 != 95) x2 (.stop zFa2 {n:=56,fr:=[(0,.p (.str s)),(2,.p (.bool false)),(23,.i (aE s)),(24,.i (IntKind.wrap .i64 ((k:Int)+1)))],ck:=[],kn:=[2]}))) (.ite (s==[116,114,117,101]) x2 (.ite (s==[102,97,108,115,101]) x2 (.ite (s==[105,110]) x2 (.ite (s==[114,101]) x2 (.ite (s==[105,109]) x2 (.ret (.p (.bool true)) []))))))) ?_
  conv=>zeta
  have hend:¬k<s.length→s.any l9=false:=fun h=>qY fun j hj=>hb j (by omega)
  refine⟨fun hlt=>⟨?_,fun hbad=>⟨?_,rfl⟩,fun hok=>?_⟩,fun hge=>?_⟩
  ·have:=of_decide_eq_true hlt;simp only[aE]at this ⊢;omega
  · have:=of_decide_eq_true hlt;simp only[aE]at this
    have hbad':l9 (s.getD k 0)=true:=hbad
    simp only[bk,AQ (by omega) hbad'];simp
  · have:=of_decide_eq_true hlt;simp only[aE]at this
    first
    |(exfalso;omega)
    | (rw[aZ (by omega)]
       exact ih (k+1) (by omega) (by omega) fun j hj=>if e:j=k then by rw[e];exact hok else hb j (by omega))
  · have:=of_decide_eq_false hge;simp only[aE]at this
    have hany:=hend (by omega)
    refine⟨fun h1=>⟨?_,rfl⟩,fun h1=>⟨fun h2=>⟨?_,rfl⟩,fun h2=>⟨fun h3=>⟨?_,rfl⟩,fun h3=>⟨fun h4=>⟨?_,rfl⟩,fun h4=>⟨fun h5=>⟨?_,rfl⟩,fun h5=>⟨?_,rfl⟩⟩⟩⟩⟩⟩ <;>
     simp[bk,h0,hany,rI, *]
theorem JU:ah Tryz.prog 45 [.s s] [] (.x (.b (bk s))) []:=by
 refine dg aX Tryz.func45 (let x1:=(↑((List.getD s 0 (0:UInt8)).toNat):Int);let x2:=(aE s>(12:Int));.need ((s==[]||decide x2)=false→(0:Int)≤0∧(0:Int)<aE s) (.need ((s==[]||decide x2||decide (x1<97))=false→(0:Int)≤0∧(0:Int)<aE s) (.ite (s==[]||decide x2||decide (x1<97)||decide (x1>122)) (.ret (.p (.bool false)) []) (.stop zFa2 {n:=56,fr:=[(0,.p (.str s)),(2,.p (.bool false)),(23,.i (aE s)),(24,.i 0)],ck:=[],kn:=[2]})))) fun Γ=>?_
 conv=>zeta
 have hpos:(s==[]||decide (aE s>12))=false→0≤(0:Int)∧0<aE s:=by
  intro h
  cases s with
  |nil=>simp at h
  |cons c r=>simp[aE]
 refine⟨hpos,fun h=>hpos ?_,fun h=>⟨?_,rfl⟩,fun h=>?_⟩
 ·simp only[al]at h ⊢;exact h.1
 · have h':lE s=true:=h
   simp[bk,h']
 ·exact JT s _ h s.length 0 (by omega) (by omega) (fun j hj=>by omega)
def ll:Ent:=(45,fun
 |[.c (.pd (.str s))],[]=>some (none,.x (.c (.pd (.bool (bk s)))),[])
 |_,_=>none)
theorem jZ:EntOk Tryz.prog ll:=entOk fun vs ck=>by
 unfold ll;dsimp only;split
 ·rename_i s;exact entS fun hp=>JU s
 ·exact entN
def Ee:Cfg:=⟨aU,[ll]⟩
theorem Fl:ag Tryz.prog Ee.tab:=(ag.cons jZ ag.nil)
theorem HF(op a:Int)(s:Str):ah Tryz.prog 173 [.agg [.i op,.i a,.pd (.str s)]] [] (.x (.i (cV op a s))) []:=by
 refine dg Fl Tryz.func173 (let x1:Tree:=(.ret (.i (-1:Int)) []);let x2:Tree:=(.ite (a != (0:Int) || !bk s) x1 (.ret (.i 0) []));.ite (op==(1:Int)) (.ite (decide (a<(0:Int))||decide (a>(1099511627776:Int)) || !s==[]) x1 (.ret (.i 0) [])) (.ite (op==(2:Int)) (.ite (decide (a<(0:Int))||decide (a>(1048576:Int)) || !s==[]) x1 (.ret (.i 0) [])) (.ite (op==(5:Int)) x2 (.ite (op==(6:Int)) x2 (.ite (decide (op<(3:Int))||decide (op>(23:Int))||a != (0:Int) || !s==[]) x1 (.ite (decide (op≤(4:Int))) (.ret (.i 0) []) (.ite (decide (op≤(10:Int))) (.ret (.i 1) []) (.ret (.i 2) [])))))))) fun Γ=>?_
 conv=>zeta
 (repeat' (first |intro h |constructor)) <;> simp only[cV, *,cond_true,cond_false]
def vg:Ent:=(173,fun
 |[.agg [.pd (.int .i64 op),.pd (.int .i64 a),.pd (.str s)]],[]=>some (none,.x (.c (.pd (.int .i64 (cV op a s)))),[])
 |_,_=>none)
theorem Jm:EntOk Tryz.prog vg:=entOk fun vs ck=>by
 unfold vg;dsimp only;split
 ·rename_i op a s;exact entS fun hp=>HF op a s
 ·exact entN
def tj:Cfg:=⟨aU,[vg]⟩
theorem sK:ag Tryz.prog tj.tab:=(ag.cons Jm ag.nil)
abbrev zFa1:List PI:=[.code [1,1,1,0,1,0,0],.inLoop [1,1,1,0,1,0,0],.inBlock 0,.code [1,1,1,1]]
theorem G9(hl:l.length≤32):∀(n k:Nat) (m:Int),l.length - k≤n→k≤l.length→0≤m→m≤k →
 J Tryz.prog 105 (ar Tryz.f105) Γ (Eq2 (.x (.b (cv (l.drop k) m))) []) zFa1 ({n:=32,fr:=[(2,.p (.bool false)),(3,.i m),(10,.p (.lst .cell l)),(11,.i l.length),(12,.i k)],ck:=[],kn:=[2]}):=by
 intro n
 induction n with
 |zero=>?_
 |succ n ih=>?_
 all_goals
  intro k m hn hk h0 hm
  refine jg sK Tryz.func105 (let x1:=(Cell.name (ETy.get .cell l k));let x2:=(Cell.op (ETy.get .cell l k));let x3:=(Cell.a (ETy.get .cell l k));.ite (decide ((k:Int)<(l.length:Int))) (.need (inRg k l.length) (.ite (decide (cV x2 x3 x1<(0:Int))||decide (cV x2 x3 x1>m)) (.ret (.p (.bool false)) []) (.stop zFa1 {n:=32,fr:=[(2,.p (.bool false)),(3,.i (IntKind.wrap .i64 (m+IntKind.wrap .i64 ((1:Int) - cV x2 x3 x1)))),(10,.p (.lst .cell l)),(11,.i l.length),(12,.i (IntKind.wrap .i64 ((k:Int)+1)))],ck:=[],kn:=[2]}))) (.ret (.p (.bool (m==(1:Int)))) [])) ?_
  conv=>zeta
  refine⟨fun hlt=>⟨?_,?_⟩,fun hge=>⟨?_,rfl⟩⟩
  ·have:=of_decide_eq_true hlt;omega
  · have hk':k<l.length:=by have:=of_decide_eq_true hlt;omega
    rw[bx (t:=.cell) hk']
    generalize ETy.get .cell l k=c
    refine⟨fun hb=>⟨?_,rfl⟩,fun hb=>?_⟩
    · have hb':(decide (aV c<0)||decide (aV c>m))=true:=hb
      simp only[cv,hb',cond_true]
    · have hb':(decide (aV c<0)||decide (aV c>m))=false:=hb
      have hw:0≤aV c∧aV c≤m:=by
       simp only[al,decide_eq_false_iff_not]at hb'
       omega
      simp only[cv,hb',cond_false]
      show J Tryz.prog 105 (ar Tryz.f105) Γ _ zFa1 ({n:=32,fr:=[(2,.p (.bool false)),(3,.i (IntKind.wrap .i64 (m+IntKind.wrap .i64 (1 - aV c)))),(10,.p (.lst .cell l)),(11,.i l.length),(12,.i (IntKind.wrap .i64 ((k:Int)+1)))],ck:=[],kn:=[2]})
      rw[cg (n:=1 - aV c) (by omega) (by omega),cg (by omega) (by omega),aZ (by omega)]
      first
      |(exfalso;omega)
      |exact ih (k+1) (m+(1 - aV c)) (by omega) (by omega) (by omega) (by omega)
  ·rw[bS (by have:=of_decide_eq_false hge;omega)];rfl
theorem Ha:ah Tryz.prog 105 [.l .cell l] [] (.x (.b (dH l))) []:=by
 refine dg sK Tryz.func105 (.ite (decide ((l.length:Int)>32)) (.ret (.p (.bool false)) []) (.stop zFa1 {n:=32,fr:=[(2,.p (.bool false)),(3,.i 0),(10,.p (.lst .cell l)),(11,.i l.length),(12,.i 0)],ck:=[],kn:=[2]})) fun Γ=>?_
 refine⟨fun h=>⟨by simp only[dH,h];rfl,rfl⟩,fun h=>?_⟩
 have hl:l.length≤32:=by have:=of_decide_eq_false h;omega
 simp only[dH,h]
 exact G9 l Γ hl l.length 0 0 (by omega) (by omega) (by omega) (by omega)
def oF:Ent:=(105,fun
 |[.c (.pd (.lst .cell l))],[]=>some (none,.x (.c (.pd (.bool (dH l)))),[])
 |_,_=>none)
theorem qp:EntOk Tryz.prog oF:=entOk fun vs ck=>by
 unfold oF;dsimp only;split
 ·rename_i l;exact entS fun hp=>Ha l
 ·exact entN
abbrev zFb1:List Chunk:=[.own 297 .krow [{low:=(7:Int),high:=(7:Int),left:=(1:Int),right:=(0:Int),out:=(1:Int)},{low:=(7:Int),high:=(7:Int),left:=(3:Int),right:=(0:Int),out:=(3:Int)},{low:=(8:Int),high:=(8:Int),left:=(2:Int),right:=(0:Int),out:=(2:Int)},{low:=(9:Int),high:=(10:Int),left:=(3:Int),right:=(0:Int),out:=(1:Int)},{low:=(11:Int),high:=(15:Int),left:=(1:Int),right:=(1:Int),out:=(1:Int)},{low:=(11:Int),high:=(13:Int),left:=(3:Int),right:=(3:Int),out:=(3:Int)},{low:=(16:Int),high:=(21:Int),left:=(1:Int),right:=(1:Int),out:=(2:Int)},{low:=(16:Int),high:=(17:Int),left:=(2:Int),right:=(2:Int),out:=(2:Int)},{low:=(16:Int),high:=(17:Int),left:=(3:Int),right:=(3:Int),out:=(2:Int)},{low:=(22:Int),high:=(23:Int),left:=(2:Int),right:=(2:Int),out:=(2:Int)}]]
theorem Km:ah Tryz.prog 299 [] [] (.x (.c (.own 0))) [.own 297 .krow sf]:=by
 refine dg aX Tryz.func299 (.ret (.x (.c (.own 0))) zFb1) fun Γ=>?_
 exact⟨rfl,rfl⟩
def Aq:Ent:=(299,fun
 |[],[]=>some (none,.x (.c (.own 0)),[.own 297 .krow sf])
 |_,_=>none)
theorem LZ:EntOk Tryz.prog Aq:=entOk fun vs ck=>by
 unfold Aq;dsimp only;split
 ·exact entS fun hp=>Km
 ·exact entN
def Eh:Cfg:=⟨aU,[Aq]⟩
theorem Fs:ag Tryz.prog Eh.tab:=(ag.cons LZ ag.nil)
abbrev zFb2:List PI:=[.code [1,0,1,0,0],.inLoop [1,0,1,0,0],.inBlock 0,.code [1,1]]
variable(l:List Str)(op:Int)(vs:List Var)(c:Cell)(s:Str)(Γ:Ctx)
theorem JN(l r:Int)(ks:List KRow)(Γ:Ctx)(hl:ks.length≤100):∀(n k:Nat),ks.length - k≤n→k≤ks.length →
 J Tryz.prog 259 (ar Tryz.f259) Γ (Eq2 (.x (.i (jL op l r (ks.drop k)))) []) zFb2 ({n:=40,fr:=[(0,.i op),(1,.i l),(2,.i r),(6,.i 0),(9,.x (.c (.own 0))),(10,.i ks.length),(11,.i k)],ck:=[.own 297 .krow ks]}):=by
 intro n
 induction n with
 |zero=>?_
 |succ n ih=>?_
 all_goals
  intro k hn hk
  refine jg aX Tryz.func259 (.ite (decide ((k:Int)<(ks.length:Int))) (.need (inRg k ks.length) (.need (k<ks.length) (.ite (decide (op≥KRow.low (ETy.get .krow ks k))&&decide (op≤KRow.high (ETy.get .krow ks k))&&l==KRow.left (ETy.get .krow ks k)&&r==KRow.right (ETy.get .krow ks k)) (.ret (.i (KRow.out (ETy.get .krow ks k))) []) (.stop zFb2 {n:=40,fr:=[(0,.i op),(1,.i l),(2,.i r),(6,.i 0),(9,.x (.c (.own 0))),(10,.i ks.length),(11,.i (IntKind.wrap .i64 ((k:Int)+1)))],ck:=[.own 297 .krow ks]})))) (.ret (.i 0) [])) ?_
  refine⟨fun hlt=>?_,fun hge=>⟨?_,rfl⟩⟩
  · have hk':k<ks.length:=by have:=of_decide_eq_true hlt;omega
    rw[bx (t:=.krow) hk']
    refine⟨by omega,hk',?_⟩
    generalize ETy.get .krow ks k=c
    refine⟨fun hb=>⟨?_,rfl⟩,fun hb=>?_⟩
    · have hb':AB op l r c=true:=hb
      simp only[jL,hb',cond_true]
    · have hb':AB op l r c=false:=hb
      simp only[jL,hb',cond_false]
      rw[aZ (by omega)]
      first
      |(exfalso;omega)
      |exact ih (k+1) (by omega) (by omega)
  ·rw[bS (by have:=of_decide_eq_false hge;omega)];rfl
theorem JO(l r:Int):ah Tryz.prog 259 [.i op,.i l,.i r] [] (.x (.i (dq op l r))) []:=by
 refine dg Fs Tryz.func259 (.stop zFb2 {n:=40,fr:=[(0,.i op),(1,.i l),(2,.i r),(6,.i 0),(9,.x (.c (.own 0))),(10,.i (↑(10:Nat):Int)),(11,.i 0)],ck:=zFb1}) fun Γ=>?_
 exact JN op l r sf Γ (by decide) sf.length 0 (by omega) (by omega)
def Ai:Ent:=(259,fun
 |[.c (.pd (.int .i64 op)),.c (.pd (.int .i64 l)),.c (.pd (.int .i64 r))],[]=>some (none,.x (.c (.pd (.int .i64 (dq op l r)))),[])
 |_,_=>none)
theorem LR:EntOk Tryz.prog Ai:=entOk fun vs ck=>by
 unfold Ai;dsimp only;split
 ·rename_i op l r;exact entS fun hp=>JO op l r
 ·exact entN
theorem sV{α:Type}(p:α→Bool):∀(l:List α) (i:Int),0≤i→(ay p l i≥0↔l.any p=true)
 |[],i,_=>by simp[ay]
 | x::r,i,h=>by
   have ih:=sV p r (i+1) (by omega)
   unfold ay
   rw[cr]
   cases hp:p x
   ·simpa using ih
   ·simpa using h
theorem iO{α:Type}(p:α→Bool)(l:List α)(i:Int)(h:0≤i):decide (ay p l i≥0)=l.any p:=by
 have:=sV p l i h
 cases hl:l.any p
 ·rw[hl]at this;exact decide_eq_false (fun h2=>by simp at this;omega)
 ·rw[hl]at this;exact decide_eq_true (this.2 rfl)
theorem O9(v:Var)(c:Cell):ah Tryz.prog 298 [.e .var v,.p (.ref .cell c 0)] [] (.x (.b (v.name==c.name))) []:=by
 refine dg aX Tryz.func298 (.ret (.p (.bool (v.name==c.name))) []) fun Γ=>⟨rfl,rfl⟩
def eCl:Ent:=(298,fun
 |[.agg [.pd (.str a),.pd (.int .i64 b),.pd (.int .i64 d),.pd (.int .i64 e),.pd (.int .i64 f),.pd (.int .i64 g),.pd (.int .i64 h)],.c (.pd (.ref .cell c 0))],[]=>some (none,.x (.c (.pd (.bool (a==c.name)))),[])
 |_,_=>none)
theorem Ru:EntOk Tryz.prog eCl:=entOk fun vs ck=>by
 unfold eCl;dsimp only;split
 ·rename_i a b d e f g h c;exact entS fun hp=>O9 ⟨a,b,d,e,⟨f,g,h⟩⟩ c
 ·exact entN
def Fa:Cfg:=⟨aU,[eCl]⟩
theorem A3:ag Tryz.prog Fa.tab:=(ag.cons Ru ag.nil)
theorem P6(hl:vs.length≤maxLen):∀(n k:Nat),vs.length - k≤n→k≤vs.length →
 J Tryz.prog 112 (ar Tryz.f112) Γ (Eq2 (.x (.i (ay (fun v:Var=>v.name==c.name) (vs.drop k) k))) []) zFb2 ({n:=19,fr:=[(0,.p (.lst .var vs)),(1,.x (.c (.fn (.func 298) [] [.pd (.ref .cell c 0)]))),(4,.i 0),(7,.i vs.length),(8,.i k)],ck:=[]}):=by
 intro n
 induction n with
 |zero=>?_
 |succ n ih=>?_
 all_goals
  intro k hn hk
  refine jg A3 Tryz.func112 (.ite (decide ((k:Int)<(vs.length:Int))) (.need (inRg k vs.length) (.ite (Var.name (ETy.get .var vs k)==c.name) (.ret (.i k) []) (.stop zFb2 {n:=19,fr:=[(0,.p (.lst .var vs)),(1,.x (.c (.fn (.func 298) [] [.pd (.ref .cell c 0)]))),(4,.i 0),(7,.i vs.length),(8,.i (IntKind.wrap .i64 ((k:Int)+1)))],ck:=[]}))) (.ret (.i (-1:Int)) [])) ?_
  refine⟨fun hlt=>?_,fun hge=>⟨?_,rfl⟩⟩
  · have hk':k<vs.length:=by have:=of_decide_eq_true hlt;omega
    rw[bx (t:=.var) hk']
    refine⟨by omega,?_⟩
    generalize ETy.get .var vs k=v
    refine⟨fun hb=>⟨?_,rfl⟩,fun hb=>?_⟩
    ·simp only[ay,hb,cond_true]
    · simp only[ay,hb,cond_false]
      rw[aZ (aG hk' hl)]
      first
      |(exfalso;omega)
      |exact ih (k+1) (by omega) (by omega)
  ·rw[bS (by have:=of_decide_eq_false hge;omega)];rfl
theorem P7:ah Tryz.prog 112 [.l .var vs,.c (.fn (.func 298) [] [.pd (.ref .cell c 0)])] [] (.x (.i (ay (fun v:Var=>v.name==c.name) vs 0))) []:=by
 refine dg A3 Tryz.func112 (.stop zFb2 {n:=19,fr:=[(0,.p (.lst .var vs)),(1,.x (.c (.fn (.func 298) [] [.pd (.ref .cell c 0)]))),(4,.i 0),(7,.i vs.length),(8,.i 0)],ck:=[]}) fun Γ=>?_
 exact J.len 0 rfl fun hl=>P6 vs c Γ hl vs.length 0 (by omega) (by omega)
def eIx:Ent:=(112,fun
 |[.c (.pd (.lst .var vs)),.c (.fn (.func 298) [] [.pd (.ref .cell c 0)])],[]=>some (none,.x (.c (.pd (.int .i64 (ay (fun v:Var=>v.name==c.name) vs 0)))),[])
 |_,_=>none)
theorem RF:EntOk Tryz.prog eIx:=entOk fun vs ck=>by
 unfold eIx;dsimp only;split
 ·rename_i vs c;exact entS fun hp=>P7 vs c
 ·exact entN
theorem QY(hl:l.length≤maxLen):∀(n k:Nat),l.length - k≤n→k≤l.length →
 J Tryz.prog 176 (ar Tryz.f176) Γ (Eq2 (.x (.i (ay (fun x=>s==x) (l.drop k) k))) []) zFb2 ({n:=19,fr:=[(0,.p (.lst .str l)),(1,.p (.str s)),(4,.i 0),(7,.i l.length),(8,.i k)],ck:=[]}):=by
 intro n
 induction n with
 |zero=>?_
 |succ n ih=>?_
 all_goals
  intro k hn hk
  refine jg aX Tryz.func176 (.ite (decide ((k:Int)<(l.length:Int))) (.need (inRg k l.length) (.ite (s==ETy.get .str l k) (.ret (.i k) []) (.stop zFb2 {n:=19,fr:=[(0,.p (.lst .str l)),(1,.p (.str s)),(4,.i 0),(7,.i l.length),(8,.i (IntKind.wrap .i64 ((k:Int)+1)))],ck:=[]}))) (.ret (.i (-1:Int)) [])) ?_
  refine⟨fun hlt=>?_,fun hge=>⟨?_,rfl⟩⟩
  · have hk':k<l.length:=by have:=of_decide_eq_true hlt;omega
    rw[bx (t:=.str) hk']
    refine⟨by omega,?_⟩
    generalize ETy.get .str l k=v
    refine⟨fun hb=>⟨?_,rfl⟩,fun hb=>?_⟩
    ·simp only[ay,hb,cond_true]
    · simp only[ay,hb,cond_false]
      rw[aZ (aG hk' hl)]
      first
      |(exfalso;omega)
      |exact ih (k+1) (by omega) (by omega)
  ·rw[bS (by have:=of_decide_eq_false hge;omega)];rfl
theorem QZ:ah Tryz.prog 176 [.l .str l,.s s] [] (.x (.i (ay (fun x=>s==x) l 0))) []:=by
 refine dg aX Tryz.func176 (.stop zFb2 {n:=19,fr:=[(0,.p (.lst .str l)),(1,.p (.str s)),(4,.i 0),(7,.i l.length),(8,.i 0)],ck:=[]}) fun Γ=>?_
 exact J.len 0 rfl fun hl=>QY l s Γ hl l.length 0 (by omega) (by omega)
def eSi:Ent:=(176,fun
 |[.c (.pd (.lst .str l)),.c (.pd (.str s))],[]=>some (none,.x (.c (.pd (.int .i64 (ay (fun x=>s==x) l 0)))),[])
 |_,_=>none)
theorem RP:EntOk Tryz.prog eSi:=entOk fun vs ck=>by
 unfold eSi;dsimp only;split
 ·rename_i l s;exact entS fun hp=>QZ l s
 ·exact entN
def OF:Cfg:=⟨aU,[eSi]⟩
theorem Lr:ag Tryz.prog OF.tab:=(ag.cons RP ag.nil)
theorem QW:ah Tryz.prog 111 [.l .str l,.s s] [] (.x (.b (l.any fun x=>s==x))) []:=by
 refine dg Lr Tryz.func111 (.ret (.p (.bool (decide (ay (fun x=>s==x) l (0:Int)≥0)))) []) fun Γ=>⟨?_,rfl⟩
 rw[iO _ _ _ (by omega)]
def eSc:Ent:=(111,fun
 |[.c (.pd (.lst .str l)),.c (.pd (.str s))],[]=>some (none,.x (.c (.pd (.bool (l.any fun x=>s==x)))),[])
 |_,_=>none)
theorem uW:EntOk Tryz.prog eSc:=entOk fun vs ck=>by
 unfold eSc;dsimp only;split
 ·rename_i l s;exact entS fun hp=>QW l s
 ·exact entN
def Ox:Cfg:=⟨aU,[eIx,eSc]⟩
theorem Lj:ag Tryz.prog Ox.tab:=(ag.cons RF (ag.cons uW ag.nil))
theorem ij{α:Type}(p:α→Bool):∀(l:List α) (i:Nat),(ay p l i = -1∧l.find? p=none)∨∃k x,ay p l i=((i+k:Nat):Int)∧l[k]?=some x∧l.find? p=some x
 |[],i=>.inl ⟨rfl,rfl⟩
 | x :: r,i=>by
   simp only[ay,List.find?_cons]
   cases hp:p x
   · rcases ij p r (i+1)with⟨h1,h2⟩ |⟨k,y,h1,h2,h3⟩
     ·exact .inl ⟨h1,h2⟩
     ·exact .inr ⟨k+1,y,by simp only[cond_false];rw[show(i:Int)+1=((i+1:Nat):Int)from rfl,h1];omega,by simpa using h2,h3⟩
   ·exact .inr ⟨0,x,by simp,by simp,rfl⟩
theorem JK(vs:List Var)(ss:List Str):ah Tryz.prog 258 [.e .cell c,.l .var vs,.l .str ss] [] (cL (b6 c vs ss)) []:=by
 refine dg Lj Tryz.func258 (.ite (c.op==(1:Int)) (.ret (.tup [.i 1,.i 0]) []) (.ite (c.op==(2:Int)) (.ret (.tup [.i 3,.i 0]) []) (.ite (c.op==(5:Int)) (.ite (decide (ay (fun v=>v.name==c.name) vs (0:Int)<0)) (.ret (.tup [.i 0,.i 2]) []) (.need ((0:Int)≤ay (fun v=>v.name==c.name) vs (0:Int)∧ay (fun v=>v.name==c.name) vs (0:Int)<(vs.length:Int)) (.ite (decide (Var.kind (ETy.get .var vs ((ay (fun v=>v.name==c.name) vs (0:Int)).toNat))≥(1:Int))&&decide (Var.kind (ETy.get .var vs ((ay (fun v=>v.name==c.name) vs (0:Int)).toNat))≤(3:Int))) (.ret (.tup [.i (Var.kind (ETy.get .var vs ((ay (fun v=>v.name==c.name) vs (0:Int)).toNat))),.i 0]) []) (.ret (.tup [.i 0,.i 8]) [])))) (.ite (c.op==(6:Int)) (.ite (!List.any ss fun x=>c.name==x) (.ret (.tup [.i 0,.i 2]) []) (.ret (.tup [.i 2,.i 0]) [])) (.ret (.tup [.i 2,.i 0]) []))))) fun Γ=>?_
 have hsw:(ss.any fun x=>c.name==x)=ss.any fun s=>s==c.name:=by congr 1;funext x;exact BEq.comm
 refine⟨fun h1=>⟨by simp only[b6,h1,cond_true,cL],rfl⟩,fun h1=>⟨fun h2=>⟨by simp only[b6,h1,h2,cond_true,cond_false,cL],rfl⟩,fun h2=>⟨fun h5=>?_,fun h5=>⟨fun h6=>⟨fun h=>⟨?_,rfl⟩,fun h=>⟨?_,rfl⟩⟩,fun h6=>⟨by simp only[b6,h1,h2,h5,h6,cond_false,cL],rfl⟩⟩⟩⟩⟩
 · show _∧_
   rcases ij (fun v:Var=>v.name==c.name) vs 0 with⟨g1,g2⟩ |⟨k,x,g1,g2,g3⟩
   · simp only[dd]at g1
     rw[g1]
     exact⟨fun _=>⟨by simp only[b6,h1,h2,h5,ju,g2,cond_true,cond_false,cL],rfl⟩,fun h=>by simp at h⟩
   · simp only[dd,ba]at g1
     have hk:=(List.getElem?_eq_some_iff.1 g2).1
     rw[g1]
     refine⟨fun h=>by have:=of_decide_eq_true h;omega,fun _=>⟨by omega,?_⟩⟩
     rw[ai,ETy.get_eq (t:=.var) g2]
     exact⟨fun h=>⟨by simp only[b6,h1,h2,h5,ju,g3,h,cond_true,cond_false,cL],rfl⟩,fun h=>⟨by simp only[b6,h1,h2,h5,ju,g3,h,cond_true,cond_false,cL],rfl⟩⟩
 ·rw[hsw]at h;simp only[b6,h1,h2,h5,h6,h,cond_true,cond_false,cL]
 ·rw[hsw]at h;simp only[b6,h1,h2,h5,h6,h,cond_true,cond_false,cL]
def Ah:Ent:=(258,fun
 |[.agg [.pd (.int .i64 a),.pd (.int .i64 b),.pd (.str d)],.c (.pd (.lst .var vs)),.c (.pd (.lst .str ss))],[]=>some (none,cL (b6 ⟨a,b,d⟩ vs ss),[])
 |_,_=>none)
theorem LQ:EntOk Tryz.prog Ah:=entOk fun vs ck=>by
 unfold Ah;dsimp only;split
 ·rename_i a b d vs ss;exact entS fun hp=>JK ⟨a,b,d⟩ vs ss
 ·exact entN
end Go.Proofs.YtlhgnjmdopjpeaaGreatDoor

/- Contracts: words.Line. Conditions: sizes. Contracts of the program's functions on names and cells. Conditions: none. Contracts of the program's functions on kinds. Conditions: none. -/
import Derived.Test.YtgfifkhbfdacjaaGreatDoorKb
namespace Go.Proofs.YtgfifkhbfdacjaaGreatDoor
open Go Go.Ev
set_option maxRecDepth 100000
def Cc:Ent:=(62,fun
 | [.c (.pd (.str s))],[]=>some (some (s.length≤2097152∧Ex s=true),.tup [.c (.pd (.int .i64 ((c7 s:Nat):Int))),.c (.own 0),.c (.pd (.int .i64 0))],[.own 9 .str (jr s)])
 | _,_=>none)
theorem L1:EntOk Tryz.prog Cc:=entOk fun vs ck=>by
 unfold Cc; dsimp only; split
 · rename_i s; exact entS fun hp=>M9 s hp.1 hp.2
 · exact entN
abbrev zFa2:List PI:=[.code [1,1,0,1,0,0],.inLoop [1,1,0,1,0,0],.inBlock 0,.code [1,1,1]]
variable (l:List Cell) (s:Str) (Γ:Ctx)
theorem Fg (h0:jP s=false):∀ (n k:Nat),s.length - k≤n→k≤s.length→(∀ j,j<k→kC (s.getD j 0)=false) →
 J Tryz.prog 63 (au Tryz.f63) Γ (Eq2 (.x (.b (bf s))) []) zFa2 ({ n:=56,fr:=[(0,.p (.str s)),(2,.p (.bool false)),(23,.i (aC s)),(24,.i k)],ck:=[],kn:=[2] }):=by
 have hlen:s.length≤12:=by simp [jP,aC] at h0; omega
 intro n
 induction n with
 | zero=>?_
 | succ n ih=>?_
 all_goals
  intro k hn hk hb
  refine jg a6 Tryz.func63 (let x1:=(↑((List.getD s k (0:UInt8)).toNat):Int); let x2:Tree:=(.ret (.p (.bool false)) []); .ite (decide ((k:Int)<aC s)) (.need ((0:Int)≤(k:Int)∧(k:Int)<aC s) (.ite ((decide (x1<97)||decide (x1>122))&&(decide (x1<48)||decide (x1>57))&&x1 != 95) x2 (.stop zFa2 { n:=56,fr:=[(0,.p (.str s)),(2,.p (.bool false)),(23,.i (aC s)),(24,.i (IntKind.wrap .i64 ((k:Int)+1)))],ck:=[],kn:=[2] }))) (.ite (s==[116,114,117,101]) x2 (.ite (s==[102,97,108,115,101]) x2 (.ite (s==[105,110]) x2 (.ite (s==[114,101]) x2 (.ite (s==[105,109]) x2 (.ret (.p (.bool true)) []))))))) ?_
  conv=>zeta
  have hend:¬k<s.length→s.any kC=false:=fun h=>oC fun j hj=>hb j (by omega)
  refine ⟨fun hlt=>⟨?_,fun hbad=>⟨?_,rfl⟩,fun hok=>?_⟩,fun hge=>?_⟩
  · have:=of_decide_eq_true hlt; simp only [aC] at this ⊢; omega
  · have:=of_decide_eq_true hlt; simp only [aC] at this
    have hbad':kC (s.getD k 0)=true:=hbad
    simp only [bf,yh (by omega) hbad']; simp
  · have:=of_decide_eq_true hlt; simp only [aC] at this
    first
    | (exfalso; omega)
    | (rw [aW (by omega)]
       exact ih (k+1) (by omega) (by omega) fun j hj=>if e:j=k then by rw [e]; exact hok else hb j (by omega))
  · have:=of_decide_eq_false hge; simp only [aC] at this
    have hany:=hend (by omega)
    refine ⟨fun h1=>⟨?_,rfl⟩,fun h1=>⟨fun h2=>⟨?_,rfl⟩,fun h2=>⟨fun h3=>⟨?_,rfl⟩,fun h3=>⟨fun h4=>⟨?_,rfl⟩,fun h4=>⟨fun h5=>⟨?_,rfl⟩,fun h5=>⟨?_,rfl⟩⟩⟩⟩⟩⟩ <;>
     simp [bf,h0,hany,nU, *]
theorem EN:ah Tryz.prog 63 [.s s] [] (.x (.b (bf s))) []:=by
 refine dg a6 Tryz.func63 (let x1:=(↑((List.getD s 0 (0:UInt8)).toNat):Int); let x2:=(aC s>(12:Int)); .need ((s==[]||decide x2)=false→(0:Int)≤0∧(0:Int)<aC s) (.need ((s==[]||decide x2||decide (x1<97))=false→(0:Int)≤0∧(0:Int)<aC s) (.ite (s==[]||decide x2||decide (x1<97)||decide (x1>122)) (.ret (.p (.bool false)) []) (.stop zFa2 { n:=56,fr:=[(0,.p (.str s)),(2,.p (.bool false)),(23,.i (aC s)),(24,.i 0)],ck:=[],kn:=[2] })))) fun Γ=>?_
 conv=>zeta
 have hpos:(s==[]||decide (aC s>12))=false→0≤(0:Int)∧0<aC s:=by
  intro h
  cases s with
  | nil=>simp at h
  | cons c r=>simp [aC]
 refine ⟨hpos,fun h=>hpos ?_,fun h=>⟨?_,rfl⟩,fun h=>?_⟩
 · simp only [ay] at h ⊢; exact h.1
 · have h':jP s=true:=h
   simp [bf,h']
 · exact Fg s _ h s.length 0 (by omega) (by omega) (fun j hj=>by omega)
def jQ:Ent:=(63,fun
 | [.c (.pd (.str s))],[]=>some (none,.x (.c (.pd (.bool (bf s)))),[])
 | _,_=>none)
theorem iL:EntOk Tryz.prog jQ:=entOk fun vs ck=>by
 unfold jQ; dsimp only; split
 · rename_i s; exact entS fun hp=>EN s
 · exact entN
def A4:Cfg:=⟨aZ,[jQ]⟩
theorem Cj:ag Tryz.prog A4.tab:=(ag.cons iL ag.nil)
theorem Cx (op a:Int) (s:Str):ah Tryz.prog 219 [.agg [.i op,.i a,.pd (.str s)]] [] (.x (.i (cN op a s))) []:=by
 refine dg Cj Tryz.func219 (let x1:Tree:=(.ret (.i (-1:Int)) []); let x2:Tree:=(.ite (a != (0:Int) || !bf s) x1 (.ret (.i 0) [])); .ite (op==(1:Int)) (.ite (decide (a<(0:Int))||decide (a>(1099511627776:Int)) || !s==[]) x1 (.ret (.i 0) [])) (.ite (op==(2:Int)) (.ite (decide (a<(0:Int))||decide (a>(1048576:Int)) || !s==[]) x1 (.ret (.i 0) [])) (.ite (op==(5:Int)) x2 (.ite (op==(6:Int)) x2 (.ite (decide (op<(3:Int))||decide (op>(23:Int))||a != (0:Int) || !s==[]) x1 (.ite (decide (op≤(4:Int))) (.ret (.i 0) []) (.ite (decide (op≤(10:Int))) (.ret (.i 1) []) (.ret (.i 2) [])))))))) fun Γ=>?_
 conv=>zeta
 (repeat' (first | intro h | constructor)) <;> simp only [cN, *,cond_true,cond_false]
def sL:Ent:=(219,fun
 | [.agg [.pd (.int .i64 op),.pd (.int .i64 a),.pd (.str s)]],[]=>some (none,.x (.c (.pd (.int .i64 (cN op a s)))),[])
 | _,_=>none)
theorem Hg:EntOk Tryz.prog sL:=entOk fun vs ck=>by
 unfold sL; dsimp only; split
 · rename_i op a s; exact entS fun hp=>Cx op a s
 · exact entN
def qS:Cfg:=⟨aZ,[sL]⟩
theorem qb:ag Tryz.prog qS.tab:=(ag.cons Hg ag.nil)
abbrev zFa1:List PI:=[.code [1,1,1,0,1,0,0],.inLoop [1,1,1,0,1,0,0],.inBlock 0,.code [1,1,1,1]]
theorem Ci (hl:l.length≤32):∀ (n k:Nat) (m:Int),l.length - k≤n→k≤l.length→0≤m→m≤k →
 J Tryz.prog 181 (au Tryz.f181) Γ (Eq2 (.x (.b (cq (l.drop k) m))) []) zFa1 ({ n:=32,fr:=[(2,.p (.bool false)),(3,.i m),(10,.p (.lst .cell l)),(11,.i l.length),(12,.i k)],ck:=[],kn:=[2] }):=by
 intro n
 induction n with
 | zero=>?_
 | succ n ih=>?_
 all_goals
  intro k m hn hk h0 hm
  refine jg qb Tryz.func181 (let x1:=(Cell.name (ETy.get .cell l k)); let x2:=(Cell.op (ETy.get .cell l k)); let x3:=(Cell.a (ETy.get .cell l k)); .ite (decide ((k:Int)<(l.length:Int))) (.need (inRg k l.length) (.ite (decide (cN x2 x3 x1<(0:Int))||decide (cN x2 x3 x1>m)) (.ret (.p (.bool false)) []) (.stop zFa1 { n:=32,fr:=[(2,.p (.bool false)),(3,.i (IntKind.wrap .i64 (m+IntKind.wrap .i64 ((1:Int) - cN x2 x3 x1)))),(10,.p (.lst .cell l)),(11,.i l.length),(12,.i (IntKind.wrap .i64 ((k:Int)+1)))],ck:=[],kn:=[2] }))) (.ret (.p (.bool (m==(1:Int)))) [])) ?_
  conv=>zeta
  refine ⟨fun hlt=>⟨?_,?_⟩,fun hge=>⟨?_,rfl⟩⟩
  · have:=of_decide_eq_true hlt; omega
  · have hk':k<l.length:=by have:=of_decide_eq_true hlt; omega
    rw [bz (t:=.cell) hk']
    generalize ETy.get .cell l k=c
    refine ⟨fun hb=>⟨?_,rfl⟩,fun hb=>?_⟩
    · have hb':(decide (bo c<0)||decide (bo c>m))=true:=hb
      simp only [cq,hb',cond_true]
    · have hb':(decide (bo c<0)||decide (bo c>m))=false:=hb
      have hw:0≤bo c∧bo c≤m:=by
       simp only [ay,decide_eq_false_iff_not] at hb'
       omega
      simp only [cq,hb',cond_false]
      show J Tryz.prog 181 (au Tryz.f181) Γ _ zFa1 ({ n:=32,fr:=[(2,.p (.bool false)),(3,.i (IntKind.wrap .i64 (m+IntKind.wrap .i64 (1 - bo c)))),(10,.p (.lst .cell l)),(11,.i l.length),(12,.i (IntKind.wrap .i64 ((k:Int)+1)))],ck:=[],kn:=[2] })
      rw [cg (n:=1 - bo c) (by omega) (by omega),cg (by omega) (by omega),aW (by omega)]
      first
      | (exfalso; omega)
      | exact ih (k+1) (m+(1 - bo c)) (by omega) (by omega) (by omega) (by omega)
  · rw [bN (by have:=of_decide_eq_false hge; omega)]; rfl
theorem C7:ah Tryz.prog 181 [.l .cell l] [] (.x (.b (dQ l))) []:=by
 refine dg qb Tryz.func181 (.ite (decide ((l.length:Int)>32)) (.ret (.p (.bool false)) []) (.stop zFa1 { n:=32,fr:=[(2,.p (.bool false)),(3,.i 0),(10,.p (.lst .cell l)),(11,.i l.length),(12,.i 0)],ck:=[],kn:=[2] })) fun Γ=>?_
 refine ⟨fun h=>⟨by simp only [dQ,h]; rfl,rfl⟩,fun h=>?_⟩
 have hl:l.length≤32:=by have:=of_decide_eq_false h; omega
 simp only [dQ,h]
 exact Ci l Γ hl l.length 0 0 (by omega) (by omega) (by omega) (by omega)
def pg:Ent:=(181,fun
 | [.c (.pd (.lst .cell l))],[]=>some (none,.x (.c (.pd (.bool (dQ l)))),[])
 | _,_=>none)
theorem u9:EntOk Tryz.prog pg:=entOk fun vs ck=>by
 unfold pg; dsimp only; split
 · rename_i l; exact entS fun hp=>C7 l
 · exact entN
end Go.Proofs.YtgfifkhbfdacjaaGreatDoor
namespace Go.Proofs.YtgfifkhbfdacjaaGreatDoor
open Go Go.Ev
set_option maxRecDepth 100000
abbrev zFb1:List Chunk:=[.own 229 .krow [{ low:=(7:Int),high:=(7:Int),left:=(1:Int),right:=(0:Int),out:=(1:Int) },{ low:=(7:Int),high:=(7:Int),left:=(3:Int),right:=(0:Int),out:=(3:Int) },{ low:=(8:Int),high:=(8:Int),left:=(2:Int),right:=(0:Int),out:=(2:Int) },{ low:=(9:Int),high:=(10:Int),left:=(3:Int),right:=(0:Int),out:=(1:Int) },{ low:=(11:Int),high:=(15:Int),left:=(1:Int),right:=(1:Int),out:=(1:Int) },{ low:=(11:Int),high:=(13:Int),left:=(3:Int),right:=(3:Int),out:=(3:Int) },{ low:=(16:Int),high:=(21:Int),left:=(1:Int),right:=(1:Int),out:=(2:Int) },{ low:=(16:Int),high:=(17:Int),left:=(2:Int),right:=(2:Int),out:=(2:Int) },{ low:=(16:Int),high:=(17:Int),left:=(3:Int),right:=(3:Int),out:=(2:Int) },{ low:=(22:Int),high:=(23:Int),left:=(2:Int),right:=(2:Int),out:=(2:Int) }]]
theorem FK:ah Tryz.prog 221 [] [] (.x (.c (.own 0))) [.own 229 .krow pD]:=by
 refine dg a6 Tryz.func221 (.ret (.x (.c (.own 0))) zFb1) fun Γ=>?_
 exact ⟨rfl,rfl⟩
def wz:Ent:=(221,fun
 | [],[]=>some (none,.x (.c (.own 0)),[.own 229 .krow pD])
 | _,_=>none)
theorem Hw:EntOk Tryz.prog wz:=entOk fun vs ck=>by
 unfold wz; dsimp only; split
 · exact entS fun hp=>FK
 · exact entN
def BB:Cfg:=⟨aZ,[wz]⟩
theorem DL:ag Tryz.prog BB.tab:=(ag.cons Hw ag.nil)
abbrev zFb2:List PI:=[.code [1,0,1,0,0],.inLoop [1,0,1,0,0],.inBlock 0,.code [1,1]]
variable (l:List Str) (op:Int) (vs:List Var) (c:Cell) (s:Str) (Γ:Ctx)
theorem E4 (l r:Int) (ks:List KRow) (Γ:Ctx) (hl:ks.length≤100):∀ (n k:Nat),ks.length - k≤n→k≤ks.length →
 J Tryz.prog 183 (au Tryz.f183) Γ (Eq2 (.x (.i (iF op l r (ks.drop k)))) []) zFb2 ({ n:=40,fr:=[(0,.i op),(1,.i l),(2,.i r),(6,.i 0),(9,.x (.c (.own 0))),(10,.i ks.length),(11,.i k)],ck:=[.own 229 .krow ks] }):=by
 intro n
 induction n with
 | zero=>?_
 | succ n ih=>?_
 all_goals
  intro k hn hk
  refine jg a6 Tryz.func183 (.ite (decide ((k:Int)<(ks.length:Int))) (.need (inRg k ks.length) (.need (k<ks.length) (.ite (decide (op≥KRow.low (ETy.get .krow ks k))&&decide (op≤KRow.high (ETy.get .krow ks k))&&l==KRow.left (ETy.get .krow ks k)&&r==KRow.right (ETy.get .krow ks k)) (.ret (.i (KRow.out (ETy.get .krow ks k))) []) (.stop zFb2 { n:=40,fr:=[(0,.i op),(1,.i l),(2,.i r),(6,.i 0),(9,.x (.c (.own 0))),(10,.i ks.length),(11,.i (IntKind.wrap .i64 ((k:Int)+1)))],ck:=[.own 229 .krow ks] })))) (.ret (.i 0) [])) ?_
  refine ⟨fun hlt=>?_,fun hge=>⟨?_,rfl⟩⟩
  · have hk':k<ks.length:=by have:=of_decide_eq_true hlt; omega
    rw [bz (t:=.krow) hk']
    refine ⟨by omega,hk',?_⟩
    generalize ETy.get .krow ks k=c
    refine ⟨fun hb=>⟨?_,rfl⟩,fun hb=>?_⟩
    · have hb':wC op l r c=true:=hb
      simp only [iF,hb',cond_true]
    · have hb':wC op l r c=false:=hb
      simp only [iF,hb',cond_false]
      rw [aW (by omega)]
      first
      | (exfalso; omega)
      | exact ih (k+1) (by omega) (by omega)
  · rw [bN (by have:=of_decide_eq_false hge; omega)]; rfl
theorem Gt (l r:Int):ah Tryz.prog 183 [.i op,.i l,.i r] [] (.x (.i (cU op l r))) []:=by
 refine dg DL Tryz.func183 (.stop zFb2 { n:=40,fr:=[(0,.i op),(1,.i l),(2,.i r),(6,.i 0),(9,.x (.c (.own 0))),(10,.i (↑(10:Nat):Int)),(11,.i 0)],ck:=zFb1 }) fun Γ=>?_
 exact E4 op l r pD Γ (by decide) pD.length 0 (by omega) (by omega)
def wE:Ent:=(183,fun
 | [.c (.pd (.int .i64 op)),.c (.pd (.int .i64 l)),.c (.pd (.int .i64 r))],[]=>some (none,.x (.c (.pd (.int .i64 (cU op l r)))),[])
 | _,_=>none)
theorem Iv:EntOk Tryz.prog wE:=entOk fun vs ck=>by
 unfold wE; dsimp only; split
 · rename_i op l r; exact entS fun hp=>Gt op l r
 · exact entN
theorem qq {α:Type} (p:α→Bool):∀ (l:List α) (i:Int),0≤i→(aE p l i≥0↔l.any p=true)
 | [],i,_=>by simp [aE]
 | x::r,i,h=>by
   have ih:=qq p r (i+1) (by omega)
   unfold aE
   rw [c5]
   cases hp:p x
   · simpa using ih
   · simpa using h
theorem iA {α:Type} (p:α→Bool) (l:List α) (i:Int) (h:0≤i):decide (aE p l i≥0)=l.any p:=by
 have:=qq p l i h
 cases hl:l.any p
 · rw [hl] at this; exact decide_eq_false (fun h2=>by simp at this; omega)
 · rw [hl] at this; exact decide_eq_true (this.2 rfl)
theorem LW (v:Var) (c:Cell):ah Tryz.prog 220 [.e .var v,.p (.ref .cell c 0)] [] (.x (.b (v.name==c.name))) []:=by
 refine dg a6 Tryz.func220 (.ret (.p (.bool (v.name==c.name))) []) fun Γ=>⟨rfl,rfl⟩
def eCl:Ent:=(220,fun
 | [.agg [.pd (.str a),.pd (.int .i64 b),.pd (.int .i64 d),.pd (.int .i64 e),.pd (.int .i64 f),.pd (.int .i64 g),.pd (.int .i64 h)],.c (.pd (.ref .cell c 0))],[]=>some (none,.x (.c (.pd (.bool (a==c.name)))),[])
 | _,_=>none)
theorem N7:EntOk Tryz.prog eCl:=entOk fun vs ck=>by
 unfold eCl; dsimp only; split
 · rename_i a b d e f g h c; exact entS fun hp=>LW ⟨a,b,d,e,⟨f,g,h⟩⟩ c
 · exact entN
def CP:Cfg:=⟨aZ,[eCl]⟩
theorem yY:ag Tryz.prog CP.tab:=(ag.cons N7 ag.nil)
theorem Ld (hl:vs.length≤maxLen):∀ (n k:Nat),vs.length - k≤n→k≤vs.length →
 J Tryz.prog 178 (au Tryz.f178) Γ (Eq2 (.x (.i (aE (fun v:Var=>v.name==c.name) (vs.drop k) k))) []) zFb2 ({ n:=19,fr:=[(0,.p (.lst .var vs)),(1,.x (.c (.fn (.func 220) [] [.pd (.ref .cell c 0)]))),(4,.i 0),(7,.i vs.length),(8,.i k)],ck:=[] }):=by
 intro n
 induction n with
 | zero=>?_
 | succ n ih=>?_
 all_goals
  intro k hn hk
  refine jg yY Tryz.func178 (.ite (decide ((k:Int)<(vs.length:Int))) (.need (inRg k vs.length) (.ite (Var.name (ETy.get .var vs k)==c.name) (.ret (.i k) []) (.stop zFb2 { n:=19,fr:=[(0,.p (.lst .var vs)),(1,.x (.c (.fn (.func 220) [] [.pd (.ref .cell c 0)]))),(4,.i 0),(7,.i vs.length),(8,.i (IntKind.wrap .i64 ((k:Int)+1)))],ck:=[] }))) (.ret (.i (-1:Int)) [])) ?_
  refine ⟨fun hlt=>?_,fun hge=>⟨?_,rfl⟩⟩
  · have hk':k<vs.length:=by have:=of_decide_eq_true hlt; omega
    rw [bz (t:=.var) hk']
    refine ⟨by omega,?_⟩
    generalize ETy.get .var vs k=v
    refine ⟨fun hb=>⟨?_,rfl⟩,fun hb=>?_⟩
    · simp only [aE,hb,cond_true]
    · simp only [aE,hb,cond_false]
      rw [aW (aA hk' hl)]
      first
      | (exfalso; omega)
      | exact ih (k+1) (by omega) (by omega)
  · rw [bN (by have:=of_decide_eq_false hge; omega)]; rfl
theorem Na:ah Tryz.prog 178 [.l .var vs,.c (.fn (.func 220) [] [.pd (.ref .cell c 0)])] [] (.x (.i (aE (fun v:Var=>v.name==c.name) vs 0))) []:=by
 refine dg yY Tryz.func178 (.stop zFb2 { n:=19,fr:=[(0,.p (.lst .var vs)),(1,.x (.c (.fn (.func 220) [] [.pd (.ref .cell c 0)]))),(4,.i 0),(7,.i vs.length),(8,.i 0)],ck:=[] }) fun Γ=>?_
 exact J.len 0 rfl fun hl=>Ld vs c Γ hl vs.length 0 (by omega) (by omega)
def eIx:Ent:=(178,fun
 | [.c (.pd (.lst .var vs)),.c (.fn (.func 220) [] [.pd (.ref .cell c 0)])],[]=>some (none,.x (.c (.pd (.int .i64 (aE (fun v:Var=>v.name==c.name) vs 0)))),[])
 | _,_=>none)
theorem NG:EntOk Tryz.prog eIx:=entOk fun vs ck=>by
 unfold eIx; dsimp only; split
 · rename_i vs c; exact entS fun hp=>Na vs c
 · exact entN
theorem MQ (hl:l.length≤maxLen):∀ (n k:Nat),l.length - k≤n→k≤l.length →
 J Tryz.prog 217 (au Tryz.f217) Γ (Eq2 (.x (.i (aE (fun x=>s==x) (l.drop k) k))) []) zFb2 ({ n:=19,fr:=[(0,.p (.lst .str l)),(1,.p (.str s)),(4,.i 0),(7,.i l.length),(8,.i k)],ck:=[] }):=by
 intro n
 induction n with
 | zero=>?_
 | succ n ih=>?_
 all_goals
  intro k hn hk
  refine jg a6 Tryz.func217 (.ite (decide ((k:Int)<(l.length:Int))) (.need (inRg k l.length) (.ite (s==ETy.get .str l k) (.ret (.i k) []) (.stop zFb2 { n:=19,fr:=[(0,.p (.lst .str l)),(1,.p (.str s)),(4,.i 0),(7,.i l.length),(8,.i (IntKind.wrap .i64 ((k:Int)+1)))],ck:=[] }))) (.ret (.i (-1:Int)) [])) ?_
  refine ⟨fun hlt=>?_,fun hge=>⟨?_,rfl⟩⟩
  · have hk':k<l.length:=by have:=of_decide_eq_true hlt; omega
    rw [bz (t:=.str) hk']
    refine ⟨by omega,?_⟩
    generalize ETy.get .str l k=v
    refine ⟨fun hb=>⟨?_,rfl⟩,fun hb=>?_⟩
    · simp only [aE,hb,cond_true]
    · simp only [aE,hb,cond_false]
      rw [aW (aA hk' hl)]
      first
      | (exfalso; omega)
      | exact ih (k+1) (by omega) (by omega)
  · rw [bN (by have:=of_decide_eq_false hge; omega)]; rfl
theorem LB:ah Tryz.prog 217 [.l .str l,.s s] [] (.x (.i (aE (fun x=>s==x) l 0))) []:=by
 refine dg a6 Tryz.func217 (.stop zFb2 { n:=19,fr:=[(0,.p (.lst .str l)),(1,.p (.str s)),(4,.i 0),(7,.i l.length),(8,.i 0)],ck:=[] }) fun Γ=>?_
 exact J.len 0 rfl fun hl=>MQ l s Γ hl l.length 0 (by omega) (by omega)
def eSi:Ent:=(217,fun
 | [.c (.pd (.lst .str l)),.c (.pd (.str s))],[]=>some (none,.x (.c (.pd (.int .i64 (aE (fun x=>s==x) l 0)))),[])
 | _,_=>none)
theorem NQ:EntOk Tryz.prog eSi:=entOk fun vs ck=>by
 unfold eSi; dsimp only; split
 · rename_i l s; exact entS fun hp=>LB l s
 · exact entN
def KJ:Cfg:=⟨aZ,[eSi]⟩
theorem HM:ag Tryz.prog KJ.tab:=(ag.cons NQ ag.nil)
theorem L7:ah Tryz.prog 177 [.l .str l,.s s] [] (.x (.b (l.any fun x=>s==x))) []:=by
 refine dg HM Tryz.func177 (.ret (.p (.bool (decide (aE (fun x=>s==x) l (0:Int)≥0)))) []) fun Γ=>⟨?_,rfl⟩
 rw [iA _ _ _ (by omega)]
def eSc:Ent:=(177,fun
 | [.c (.pd (.lst .str l)),.c (.pd (.str s))],[]=>some (none,.x (.c (.pd (.bool (l.any fun x=>s==x)))),[])
 | _,_=>none)
theorem ye:EntOk Tryz.prog eSc:=entOk fun vs ck=>by
 unfold eSc; dsimp only; split
 · rename_i l s; exact entS fun hp=>L7 l s
 · exact entN
def K3:Cfg:=⟨aZ,[eIx,eSc]⟩
theorem HF:ag Tryz.prog K3.tab:=(ag.cons NG (ag.cons ye ag.nil))
theorem jf {α:Type} (p:α→Bool):∀ (l:List α) (i:Nat),(aE p l i = -1∧l.find? p=none)∨∃ k x,aE p l i=((i+k:Nat):Int)∧l[k]?=some x∧l.find? p=some x
 | [],i=>.inl ⟨rfl,rfl⟩
 | x :: r,i=>by
   simp only [aE,List.find?_cons]
   cases hp:p x
   · rcases jf p r (i+1) with ⟨h1,h2⟩ | ⟨k,y,h1,h2,h3⟩
     · exact .inl ⟨h1,h2⟩
     · exact .inr ⟨k+1,y,by simp only [cond_false]; rw [show (i:Int)+1=((i+1:Nat):Int) from rfl,h1]; omega,by simpa using h2,h3⟩
   · exact .inr ⟨0,x,by simp,by simp,rfl⟩
theorem Fm (vs:List Var) (ss:List Str):ah Tryz.prog 182 [.e .cell c,.l .var vs,.l .str ss] [] (cw (bT c vs ss)) []:=by
 refine dg HF Tryz.func182 (.ite (c.op==(1:Int)) (.ret (.tup [.i 1,.i 0]) []) (.ite (c.op==(2:Int)) (.ret (.tup [.i 3,.i 0]) []) (.ite (c.op==(5:Int)) (.ite (decide (aE (fun v=>v.name==c.name) vs (0:Int)<0)) (.ret (.tup [.i 0,.i 2]) []) (.need ((0:Int)≤aE (fun v=>v.name==c.name) vs (0:Int)∧aE (fun v=>v.name==c.name) vs (0:Int)<(vs.length:Int)) (.ite (decide (Var.kind (ETy.get .var vs ((aE (fun v=>v.name==c.name) vs (0:Int)).toNat))≥(1:Int))&&decide (Var.kind (ETy.get .var vs ((aE (fun v=>v.name==c.name) vs (0:Int)).toNat))≤(3:Int))) (.ret (.tup [.i (Var.kind (ETy.get .var vs ((aE (fun v=>v.name==c.name) vs (0:Int)).toNat))),.i 0]) []) (.ret (.tup [.i 0,.i 8]) [])))) (.ite (c.op==(6:Int)) (.ite (!List.any ss fun x=>c.name==x) (.ret (.tup [.i 0,.i 2]) []) (.ret (.tup [.i 2,.i 0]) [])) (.ret (.tup [.i 2,.i 0]) []))))) fun Γ=>?_
 have hsw:(ss.any fun x=>c.name==x)=ss.any fun s=>s==c.name:=by congr 1; funext x; exact BEq.comm
 refine ⟨fun h1=>⟨by simp only [bT,h1,cond_true,cw],rfl⟩,fun h1=>⟨fun h2=>⟨by simp only [bT,h1,h2,cond_true,cond_false,cw],rfl⟩,fun h2=>⟨fun h5=>?_,fun h5=>⟨fun h6=>⟨fun h=>⟨?_,rfl⟩,fun h=>⟨?_,rfl⟩⟩,fun h6=>⟨by simp only [bT,h1,h2,h5,h6,cond_false,cw],rfl⟩⟩⟩⟩⟩
 · show _∧_
   rcases jf (fun v:Var=>v.name==c.name) vs 0 with ⟨g1,g2⟩ | ⟨k,x,g1,g2,g3⟩
   · simp only [Int.natCast_zero] at g1
     rw [g1]
     exact ⟨fun _=>⟨by simp only [bT,h1,h2,h5,ij,g2,cond_true,cond_false,cw],rfl⟩,fun h=>by simp at h⟩
   · simp only [Int.natCast_zero,bj] at g1
     have hk:=(List.getElem?_eq_some_iff.1 g2).1
     rw [g1]
     refine ⟨fun h=>by have:=of_decide_eq_true h; omega,fun _=>⟨by omega,?_⟩⟩
     rw [ai,ETy.get_eq (t:=.var) g2]
     exact ⟨fun h=>⟨by simp only [bT,h1,h2,h5,ij,g3,h,cond_true,cond_false,cw],rfl⟩,fun h=>⟨by simp only [bT,h1,h2,h5,ij,g3,h,cond_true,cond_false,cw],rfl⟩⟩
 · rw [hsw] at h; simp only [bT,h1,h2,h5,h6,h,cond_true,cond_false,cw]
 · rw [hsw] at h; simp only [bT,h1,h2,h5,h6,h,cond_true,cond_false,cw]
def v7:Ent:=(182,fun
 | [.agg [.pd (.int .i64 a),.pd (.int .i64 b),.pd (.str d)],.c (.pd (.lst .var vs)),.c (.pd (.lst .str ss))],[]=>some (none,cw (bT ⟨a,b,d⟩ vs ss),[])
 | _,_=>none)
theorem IM:EntOk Tryz.prog v7:=entOk fun vs ck=>by
 unfold v7; dsimp only; split
 · rename_i a b d vs ss; exact entS fun hp=>Fm ⟨a,b,d⟩ vs ss
 · exact entN
end Go.Proofs.YtgfifkhbfdacjaaGreatDoor

/- Contracts: words.Line. Conditions: sizes. Contracts of the program's functions on names and cells. Conditions: none. Contracts of the program's functions on kinds. Conditions: none. -/
import Derived.Test.YtgfifkhbfdacjaaGreatDoorKb
namespace Go.Proofs.YtgfifkhbfdacjaaGreatDoor
open Go Go.Ev
set_option maxRecDepth 100000
def B1:Ent:=(62,fun
 | [.c (.pd (.str s))],[]=>some (some (s.length≤2097152∧E7 s=true),.tup [.c (.pd (.int .i64 ((cV s:Nat):Int))),.c (.own 0),.c (.pd (.int .i64 0))],[.own 9 .str (iN s)])
 | _,_=>none)
theorem JK:EntOk Tryz.prog B1:=entOk fun vs ck=>by
 unfold B1; dsimp only; split
 · rename_i s; exact entS fun hp=>J2 s hp.1 hp.2
 · exact entN
abbrev zFa2:List PI:=[.code [1,1,0,1,0,0],.inLoop [1,1,0,1,0,0],.inBlock 0,.code [1,1,1]]
variable (l:List Cell) (s:Str) (Γ:Ctx)
theorem DX (h0:jy s=false):∀ (n k:Nat),s.length - k≤n→k≤s.length→(∀ j,j<k→j2 (s.getD j 0)=false) →
 J Tryz.prog 63 (au Tryz.f63) Γ (Eq2 (.x (.b (aZ s))) []) zFa2 ({ n:=56,fr:=[(0,.p (.str s)),(2,.p (.bool false)),(23,.i (aB s)),(24,.i k)],ck:=[],kn:=[2] }):=by
 have hlen:s.length≤12:=by simp [jy,aB] at h0; omega
 intro n
 induction n with
 | zero=>?_
 | succ n ih=>?_
 all_goals
  intro k hn hk hb
  refine jg aR Tryz.func63 (let x1:=(↑((List.getD s k (0:UInt8)).toNat):Int); let x2:Tree:=(.ret (.p (.bool false)) []); .ite (decide ((k:Int)<aB s)) (.need ((0:Int)≤(k:Int)∧(k:Int)<aB s) (.ite ((decide (x1<97)||decide (x1>122))&&(decide (x1<48)||decide (x1>57))&&x1 != 95) x2 (.stop zFa2 { n:=56,fr:=[(0,.p (.str s)),(2,.p (.bool false)),(23,.i (aB s)),(24,.i (IntKind.wrap .i64 ((k:Int)+1)))],ck:=[],kn:=[2] }))) (.ite (s==[116,114,117,101]) x2 (.ite (s==[102,97,108,115,101]) x2 (.ite (s==[105,110]) x2 (.ite (s==[114,101]) x2 (.ite (s==[105,109]) x2 (.ret (.p (.bool true)) []))))))) ?_
  conv=>zeta
  have hend:¬k<s.length→s.any j2=false:=fun h=>n3 fun j hj=>hb j (by omega)
  refine ⟨fun hlt=>⟨?_,fun hbad=>⟨?_,rfl⟩,fun hok=>?_⟩,fun hge=>?_⟩
  · have:=of_decide_eq_true hlt; simp only [aB] at this ⊢; omega
  · have:=of_decide_eq_true hlt; simp only [aB] at this
    have hbad':j2 (s.getD k 0)=true:=hbad
    simp only [aZ,wP (by omega) hbad']; simp
  · have:=of_decide_eq_true hlt; simp only [aB] at this
    first
    | (exfalso; omega)
    | (rw [aX (by omega)]
       exact ih (k+1) (by omega) (by omega) fun j hj=>if e:j=k then by rw [e]; exact hok else hb j (by omega))
  · have:=of_decide_eq_false hge; simp only [aB] at this
    have hany:=hend (by omega)
    refine ⟨fun h1=>⟨?_,rfl⟩,fun h1=>⟨fun h2=>⟨?_,rfl⟩,fun h2=>⟨fun h3=>⟨?_,rfl⟩,fun h3=>⟨fun h4=>⟨?_,rfl⟩,fun h4=>⟨fun h5=>⟨?_,rfl⟩,fun h5=>⟨?_,rfl⟩⟩⟩⟩⟩⟩ <;>
     simp [aZ,h0,hany,nI, *]
theorem EF:ah Tryz.prog 63 [.s s] [] (.x (.b (aZ s))) []:=by
 refine dg aR Tryz.func63 (let x1:=(↑((List.getD s 0 (0:UInt8)).toNat):Int); let x2:=(aB s>(12:Int)); .need ((s==[]||decide x2)=false→(0:Int)≤0∧(0:Int)<aB s) (.need ((s==[]||decide x2||decide (x1<97))=false→(0:Int)≤0∧(0:Int)<aB s) (.ite (s==[]||decide x2||decide (x1<97)||decide (x1>122)) (.ret (.p (.bool false)) []) (.stop zFa2 { n:=56,fr:=[(0,.p (.str s)),(2,.p (.bool false)),(23,.i (aB s)),(24,.i 0)],ck:=[],kn:=[2] })))) fun Γ=>?_
 conv=>zeta
 have hpos:(s==[]||decide (aB s>12))=false→0≤(0:Int)∧0<aB s:=by
  intro h
  cases s with
  | nil=>simp at h
  | cons c r=>simp [aB]
 refine ⟨hpos,fun h=>hpos ?_,fun h=>⟨?_,rfl⟩,fun h=>?_⟩
 · simp only [ay] at h ⊢; exact h.1
 · have h':jy s=true:=h
   simp [aZ,h']
 · exact DX s _ h s.length 0 (by omega) (by omega) (fun j hj=>by omega)
def jq:Ent:=(63,fun
 | [.c (.pd (.str s))],[]=>some (none,.x (.c (.pd (.bool (aZ s)))),[])
 | _,_=>none)
theorem ir:EntOk Tryz.prog jq:=entOk fun vs ck=>by
 unfold jq; dsimp only; split
 · rename_i s; exact entS fun hp=>EF s
 · exact entN
def Ad:Cfg:=⟨aY,[jq]⟩
theorem BF:ag Tryz.prog Ad.tab:=(ag.cons ir ag.nil)
theorem Be (op a:Int) (s:Str):ah Tryz.prog 219 [.agg [.i op,.i a,.pd (.str s)]] [] (.x (.i (cF op a s))) []:=by
 refine dg BF Tryz.func219 (let x1:Tree:=(.ret (.i (-1:Int)) []); let x2:Tree:=(.ite (a != (0:Int) || !aZ s) x1 (.ret (.i 0) [])); .ite (op==(1:Int)) (.ite (decide (a<(0:Int))||decide (a>(1099511627776:Int)) || !s==[]) x1 (.ret (.i 0) [])) (.ite (op==(2:Int)) (.ite (decide (a<(0:Int))||decide (a>(1048576:Int)) || !s==[]) x1 (.ret (.i 0) [])) (.ite (op==(5:Int)) x2 (.ite (op==(6:Int)) x2 (.ite (decide (op<(3:Int))||decide (op>(23:Int))||a != (0:Int) || !s==[]) x1 (.ite (decide (op≤(4:Int))) (.ret (.i 0) []) (.ite (decide (op≤(10:Int))) (.ret (.i 1) []) (.ret (.i 2) [])))))))) fun Γ=>?_
 conv=>zeta
 (repeat' (first | intro h | constructor)) <;> simp only [cF, *,cond_true,cond_false]
def qR:Ent:=(219,fun
 | [.agg [.pd (.int .i64 op),.pd (.int .i64 a),.pd (.str s)]],[]=>some (none,.x (.c (.pd (.int .i64 (cF op a s)))),[])
 | _,_=>none)
theorem EE:EntOk Tryz.prog qR:=entOk fun vs ck=>by
 unfold qR; dsimp only; split
 · rename_i op a s; exact entS fun hp=>Be op a s
 · exact entN
def pV:Cfg:=⟨aY,[qR]⟩
theorem po:ag Tryz.prog pV.tab:=(ag.cons EE ag.nil)
abbrev zFa1:List PI:=[.code [1,1,1,0,1,0,0],.inLoop [1,1,1,0,1,0,0],.inBlock 0,.code [1,1,1,1]]
theorem Ca (hl:l.length≤32):∀ (n k:Nat) (m:Int),l.length - k≤n→k≤l.length→0≤m→m≤k →
 J Tryz.prog 181 (au Tryz.f181) Γ (Eq2 (.x (.b (cn (l.drop k) m))) []) zFa1 ({ n:=32,fr:=[(2,.p (.bool false)),(3,.i m),(10,.p (.lst .cell l)),(11,.i l.length),(12,.i k)],ck:=[],kn:=[2] }):=by
 intro n
 induction n with
 | zero=>?_
 | succ n ih=>?_
 all_goals
  intro k m hn hk h0 hm
  refine jg po Tryz.func181 (let x1:=(Cell.name (ETy.get .cell l k)); let x2:=(Cell.op (ETy.get .cell l k)); let x3:=(Cell.a (ETy.get .cell l k)); .ite (decide ((k:Int)<(l.length:Int))) (.need (inRg k l.length) (.ite (decide (cF x2 x3 x1<(0:Int))||decide (cF x2 x3 x1>m)) (.ret (.p (.bool false)) []) (.stop zFa1 { n:=32,fr:=[(2,.p (.bool false)),(3,.i (IntKind.wrap .i64 (m+IntKind.wrap .i64 ((1:Int) - cF x2 x3 x1)))),(10,.p (.lst .cell l)),(11,.i l.length),(12,.i (IntKind.wrap .i64 ((k:Int)+1)))],ck:=[],kn:=[2] }))) (.ret (.p (.bool (m==(1:Int)))) [])) ?_
  conv=>zeta
  refine ⟨fun hlt=>⟨?_,?_⟩,fun hge=>⟨?_,rfl⟩⟩
  · have:=of_decide_eq_true hlt; omega
  · have hk':k<l.length:=by have:=of_decide_eq_true hlt; omega
    rw [bD (t:=.cell) hk']
    generalize ETy.get .cell l k=c
    refine ⟨fun hb=>⟨?_,rfl⟩,fun hb=>?_⟩
    · have hb':(decide (bg c<0)||decide (bg c>m))=true:=hb
      simp only [cn,hb',cond_true]
    · have hb':(decide (bg c<0)||decide (bg c>m))=false:=hb
      have hw:0≤bg c∧bg c≤m:=by
       simp only [ay,decide_eq_false_iff_not] at hb'
       omega
      simp only [cn,hb',cond_false]
      show J Tryz.prog 181 (au Tryz.f181) Γ _ zFa1 ({ n:=32,fr:=[(2,.p (.bool false)),(3,.i (IntKind.wrap .i64 (m+IntKind.wrap .i64 (1 - bg c)))),(10,.p (.lst .cell l)),(11,.i l.length),(12,.i (IntKind.wrap .i64 ((k:Int)+1)))],ck:=[],kn:=[2] })
      rw [cg (n:=1 - bg c) (by omega) (by omega),cg (by omega) (by omega),aX (by omega)]
      first
      | (exfalso; omega)
      | exact ih (k+1) (m+(1 - bg c)) (by omega) (by omega) (by omega) (by omega)
  · rw [bO (by have:=of_decide_eq_false hge; omega)]; rfl
theorem Bd:ah Tryz.prog 181 [.l .cell l] [] (.x (.b (dH l))) []:=by
 refine dg po Tryz.func181 (.ite (decide ((l.length:Int)>32)) (.ret (.p (.bool false)) []) (.stop zFa1 { n:=32,fr:=[(2,.p (.bool false)),(3,.i 0),(10,.p (.lst .cell l)),(11,.i l.length),(12,.i 0)],ck:=[],kn:=[2] })) fun Γ=>?_
 refine ⟨fun h=>⟨by simp only [dH,h]; rfl,rfl⟩,fun h=>?_⟩
 have hl:l.length≤32:=by have:=of_decide_eq_false h; omega
 simp only [dH,h]
 exact Ca l Γ hl l.length 0 0 (by omega) (by omega) (by omega) (by omega)
def n6:Ent:=(181,fun
 | [.c (.pd (.lst .cell l))],[]=>some (none,.x (.c (.pd (.bool (dH l)))),[])
 | _,_=>none)
theorem sT:EntOk Tryz.prog n6:=entOk fun vs ck=>by
 unfold n6; dsimp only; split
 · rename_i l; exact entS fun hp=>Bd l
 · exact entN
end Go.Proofs.YtgfifkhbfdacjaaGreatDoor
namespace Go.Proofs.YtgfifkhbfdacjaaGreatDoor
open Go Go.Ev
set_option maxRecDepth 100000
abbrev zFb1:List Chunk:=[.own 229 .krow [{ low:=(7:Int),high:=(7:Int),left:=(1:Int),right:=(0:Int),out:=(1:Int) },{ low:=(7:Int),high:=(7:Int),left:=(3:Int),right:=(0:Int),out:=(3:Int) },{ low:=(8:Int),high:=(8:Int),left:=(2:Int),right:=(0:Int),out:=(2:Int) },{ low:=(9:Int),high:=(10:Int),left:=(3:Int),right:=(0:Int),out:=(1:Int) },{ low:=(11:Int),high:=(15:Int),left:=(1:Int),right:=(1:Int),out:=(1:Int) },{ low:=(11:Int),high:=(13:Int),left:=(3:Int),right:=(3:Int),out:=(3:Int) },{ low:=(16:Int),high:=(21:Int),left:=(1:Int),right:=(1:Int),out:=(2:Int) },{ low:=(16:Int),high:=(17:Int),left:=(2:Int),right:=(2:Int),out:=(2:Int) },{ low:=(16:Int),high:=(17:Int),left:=(3:Int),right:=(3:Int),out:=(2:Int) },{ low:=(22:Int),high:=(23:Int),left:=(2:Int),right:=(2:Int),out:=(2:Int) }]]
theorem CI:ah Tryz.prog 221 [] [] (.x (.c (.own 0))) [.own 229 .krow o7]:=by
 refine dg aR Tryz.func221 (.ret (.x (.c (.own 0))) zFb1) fun Γ=>?_
 exact ⟨rfl,rfl⟩
def uS:Ent:=(221,fun
 | [],[]=>some (none,.x (.c (.own 0)),[.own 229 .krow o7])
 | _,_=>none)
theorem H9:EntOk Tryz.prog uS:=entOk fun vs ck=>by
 unfold uS; dsimp only; split
 · exact entS fun hp=>CI
 · exact entN
def y6:Cfg:=⟨aY,[uS]⟩
theorem BJ:ag Tryz.prog y6.tab:=(ag.cons H9 ag.nil)
abbrev zFb2:List PI:=[.code [1,0,1,0,0],.inLoop [1,0,1,0,0],.inBlock 0,.code [1,1]]
variable (l:List Str) (op:Int) (vs:List Var) (c:Cell) (s:Str) (Γ:Ctx)
theorem Eg (l r:Int) (ks:List KRow) (Γ:Ctx) (hl:ks.length≤100):∀ (n k:Nat),ks.length - k≤n→k≤ks.length →
 J Tryz.prog 183 (au Tryz.f183) Γ (Eq2 (.x (.i (hO op l r (ks.drop k)))) []) zFb2 ({ n:=40,fr:=[(0,.i op),(1,.i l),(2,.i r),(6,.i 0),(9,.x (.c (.own 0))),(10,.i ks.length),(11,.i k)],ck:=[.own 229 .krow ks] }):=by
 intro n
 induction n with
 | zero=>?_
 | succ n ih=>?_
 all_goals
  intro k hn hk
  refine jg aR Tryz.func183 (.ite (decide ((k:Int)<(ks.length:Int))) (.need (inRg k ks.length) (.need (k<ks.length) (.ite (decide (op≥KRow.low (ETy.get .krow ks k))&&decide (op≤KRow.high (ETy.get .krow ks k))&&l==KRow.left (ETy.get .krow ks k)&&r==KRow.right (ETy.get .krow ks k)) (.ret (.i (KRow.out (ETy.get .krow ks k))) []) (.stop zFb2 { n:=40,fr:=[(0,.i op),(1,.i l),(2,.i r),(6,.i 0),(9,.x (.c (.own 0))),(10,.i ks.length),(11,.i (IntKind.wrap .i64 ((k:Int)+1)))],ck:=[.own 229 .krow ks] })))) (.ret (.i 0) [])) ?_
  refine ⟨fun hlt=>?_,fun hge=>⟨?_,rfl⟩⟩
  · have hk':k<ks.length:=by have:=of_decide_eq_true hlt; omega
    rw [bD (t:=.krow) hk']
    refine ⟨by omega,hk',?_⟩
    generalize ETy.get .krow ks k=c
    refine ⟨fun hb=>⟨?_,rfl⟩,fun hb=>?_⟩
    · have hb':uQ op l r c=true:=hb
      simp only [hO,hb',cond_true]
    · have hb':uQ op l r c=false:=hb
      simp only [hO,hb',cond_false]
      rw [aX (by omega)]
      first
      | (exfalso; omega)
      | exact ih (k+1) (by omega) (by omega)
  · rw [bO (by have:=of_decide_eq_false hge; omega)]; rfl
theorem EZ (l r:Int):ah Tryz.prog 183 [.i op,.i l,.i r] [] (.x (.i (cL op l r))) []:=by
 refine dg BJ Tryz.func183 (.stop zFb2 { n:=40,fr:=[(0,.i op),(1,.i l),(2,.i r),(6,.i 0),(9,.x (.c (.own 0))),(10,.i (↑(10:Nat):Int)),(11,.i 0)],ck:=zFb1 }) fun Γ=>?_
 exact Eg op l r o7 Γ (by decide) o7.length 0 (by omega) (by omega)
def uE:Ent:=(183,fun
 | [.c (.pd (.int .i64 op)),.c (.pd (.int .i64 l)),.c (.pd (.int .i64 r))],[]=>some (none,.x (.c (.pd (.int .i64 (cL op l r)))),[])
 | _,_=>none)
theorem IH:EntOk Tryz.prog uE:=entOk fun vs ck=>by
 unfold uE; dsimp only; split
 · rename_i op l r; exact entS fun hp=>EZ op l r
 · exact entN
theorem px {α:Type} (p:α→Bool):∀ (l:List α) (i:Int),0≤i→(aC p l i≥0↔l.any p=true)
 | [],i,_=>by simp [aC]
 | x::r,i,h=>by
   have ih:=px p r (i+1) (by omega)
   unfold aC
   rw [cS]
   cases hp:p x
   · simpa using ih
   · simpa using h
theorem hP {α:Type} (p:α→Bool) (l:List α) (i:Int) (h:0≤i):decide (aC p l i≥0)=l.any p:=by
 have:=px p l i h
 cases hl:l.any p
 · rw [hl] at this; exact decide_eq_false (fun h2=>by simp at this; omega)
 · rw [hl] at this; exact decide_eq_true (this.2 rfl)
theorem J5 (v:Var) (c:Cell):ah Tryz.prog 220 [.e .var v,.p (.ref .cell c 0)] [] (.x (.b (v.name==c.name))) []:=by
 refine dg aR Tryz.func220 (.ret (.p (.bool (v.name==c.name))) []) fun Γ=>⟨rfl,rfl⟩
def eCl:Ent:=(220,fun
 | [.agg [.pd (.str a),.pd (.int .i64 b),.pd (.int .i64 d),.pd (.int .i64 e),.pd (.int .i64 f),.pd (.int .i64 g),.pd (.int .i64 h)],.c (.pd (.ref .cell c 0))],[]=>some (none,.x (.c (.pd (.bool (a==c.name)))),[])
 | _,_=>none)
theorem L1:EntOk Tryz.prog eCl:=entOk fun vs ck=>by
 unfold eCl; dsimp only; split
 · rename_i a b d e f g h c; exact entS fun hp=>J5 ⟨a,b,d,e,⟨f,g,h⟩⟩ c
 · exact entN
def CG:Cfg:=⟨aY,[eCl]⟩
theorem xh:ag Tryz.prog CG.tab:=(ag.cons L1 ag.nil)
theorem JO (hl:vs.length≤maxLen):∀ (n k:Nat),vs.length - k≤n→k≤vs.length →
 J Tryz.prog 178 (au Tryz.f178) Γ (Eq2 (.x (.i (aC (fun v:Var=>v.name==c.name) (vs.drop k) k))) []) zFb2 ({ n:=19,fr:=[(0,.p (.lst .var vs)),(1,.x (.c (.fn (.func 220) [] [.pd (.ref .cell c 0)]))),(4,.i 0),(7,.i vs.length),(8,.i k)],ck:=[] }):=by
 intro n
 induction n with
 | zero=>?_
 | succ n ih=>?_
 all_goals
  intro k hn hk
  refine jg xh Tryz.func178 (.ite (decide ((k:Int)<(vs.length:Int))) (.need (inRg k vs.length) (.ite (Var.name (ETy.get .var vs k)==c.name) (.ret (.i k) []) (.stop zFb2 { n:=19,fr:=[(0,.p (.lst .var vs)),(1,.x (.c (.fn (.func 220) [] [.pd (.ref .cell c 0)]))),(4,.i 0),(7,.i vs.length),(8,.i (IntKind.wrap .i64 ((k:Int)+1)))],ck:=[] }))) (.ret (.i (-1:Int)) [])) ?_
  refine ⟨fun hlt=>?_,fun hge=>⟨?_,rfl⟩⟩
  · have hk':k<vs.length:=by have:=of_decide_eq_true hlt; omega
    rw [bD (t:=.var) hk']
    refine ⟨by omega,?_⟩
    generalize ETy.get .var vs k=v
    refine ⟨fun hb=>⟨?_,rfl⟩,fun hb=>?_⟩
    · simp only [aC,hb,cond_true]
    · simp only [aC,hb,cond_false]
      rw [aX (aE hk' hl)]
      first
      | (exfalso; omega)
      | exact ih (k+1) (by omega) (by omega)
  · rw [bO (by have:=of_decide_eq_false hge; omega)]; rfl
theorem KM:ah Tryz.prog 178 [.l .var vs,.c (.fn (.func 220) [] [.pd (.ref .cell c 0)])] [] (.x (.i (aC (fun v:Var=>v.name==c.name) vs 0))) []:=by
 refine dg xh Tryz.func178 (.stop zFb2 { n:=19,fr:=[(0,.p (.lst .var vs)),(1,.x (.c (.fn (.func 220) [] [.pd (.ref .cell c 0)]))),(4,.i 0),(7,.i vs.length),(8,.i 0)],ck:=[] }) fun Γ=>?_
 exact J.len 0 rfl fun hl=>JO vs c Γ hl vs.length 0 (by omega) (by omega)
def eIx:Ent:=(178,fun
 | [.c (.pd (.lst .var vs)),.c (.fn (.func 220) [] [.pd (.ref .cell c 0)])],[]=>some (none,.x (.c (.pd (.int .i64 (aC (fun v:Var=>v.name==c.name) vs 0)))),[])
 | _,_=>none)
theorem LI:EntOk Tryz.prog eIx:=entOk fun vs ck=>by
 unfold eIx; dsimp only; split
 · rename_i vs c; exact entS fun hp=>KM vs c
 · exact entN
theorem K2 (hl:l.length≤maxLen):∀ (n k:Nat),l.length - k≤n→k≤l.length →
 J Tryz.prog 217 (au Tryz.f217) Γ (Eq2 (.x (.i (aC (fun x=>s==x) (l.drop k) k))) []) zFb2 ({ n:=19,fr:=[(0,.p (.lst .str l)),(1,.p (.str s)),(4,.i 0),(7,.i l.length),(8,.i k)],ck:=[] }):=by
 intro n
 induction n with
 | zero=>?_
 | succ n ih=>?_
 all_goals
  intro k hn hk
  refine jg aR Tryz.func217 (.ite (decide ((k:Int)<(l.length:Int))) (.need (inRg k l.length) (.ite (s==ETy.get .str l k) (.ret (.i k) []) (.stop zFb2 { n:=19,fr:=[(0,.p (.lst .str l)),(1,.p (.str s)),(4,.i 0),(7,.i l.length),(8,.i (IntKind.wrap .i64 ((k:Int)+1)))],ck:=[] }))) (.ret (.i (-1:Int)) [])) ?_
  refine ⟨fun hlt=>?_,fun hge=>⟨?_,rfl⟩⟩
  · have hk':k<l.length:=by have:=of_decide_eq_true hlt; omega
    rw [bD (t:=.str) hk']
    refine ⟨by omega,?_⟩
    generalize ETy.get .str l k=v
    refine ⟨fun hb=>⟨?_,rfl⟩,fun hb=>?_⟩
    · simp only [aC,hb,cond_true]
    · simp only [aC,hb,cond_false]
      rw [aX (aE hk' hl)]
      first
      | (exfalso; omega)
      | exact ih (k+1) (by omega) (by omega)
  · rw [bO (by have:=of_decide_eq_false hge; omega)]; rfl
theorem Jj:ah Tryz.prog 217 [.l .str l,.s s] [] (.x (.i (aC (fun x=>s==x) l 0))) []:=by
 refine dg aR Tryz.func217 (.stop zFb2 { n:=19,fr:=[(0,.p (.lst .str l)),(1,.p (.str s)),(4,.i 0),(7,.i l.length),(8,.i 0)],ck:=[] }) fun Γ=>?_
 exact J.len 0 rfl fun hl=>K2 l s Γ hl l.length 0 (by omega) (by omega)
def eSi:Ent:=(217,fun
 | [.c (.pd (.lst .str l)),.c (.pd (.str s))],[]=>some (none,.x (.c (.pd (.int .i64 (aC (fun x=>s==x) l 0)))),[])
 | _,_=>none)
theorem Ma:EntOk Tryz.prog eSi:=entOk fun vs ck=>by
 unfold eSi; dsimp only; split
 · rename_i l s; exact entS fun hp=>Jj l s
 · exact entN
def IZ:Cfg:=⟨aY,[eSi]⟩
theorem GV:ag Tryz.prog IZ.tab:=(ag.cons Ma ag.nil)
theorem KE:ah Tryz.prog 177 [.l .str l,.s s] [] (.x (.b (l.any fun x=>s==x))) []:=by
 refine dg GV Tryz.func177 (.ret (.p (.bool (decide (aC (fun x=>s==x) l (0:Int)≥0)))) []) fun Γ=>⟨?_,rfl⟩
 rw [hP _ _ _ (by omega)]
def eSc:Ent:=(177,fun
 | [.c (.pd (.lst .str l)),.c (.pd (.str s))],[]=>some (none,.x (.c (.pd (.bool (l.any fun x=>s==x)))),[])
 | _,_=>none)
theorem xE:EntOk Tryz.prog eSc:=entOk fun vs ck=>by
 unfold eSc; dsimp only; split
 · rename_i l s; exact entS fun hp=>KE l s
 · exact entN
def IM:Cfg:=⟨aY,[eIx,eSc]⟩
theorem G5:ag Tryz.prog IM.tab:=(ag.cons LI (ag.cons xE ag.nil))
theorem iK {α:Type} (p:α→Bool):∀ (l:List α) (i:Nat),(aC p l i = -1∧l.find? p=none)∨∃ k x,aC p l i=((i+k:Nat):Int)∧l[k]?=some x∧l.find? p=some x
 | [],i=>.inl ⟨rfl,rfl⟩
 | x :: r,i=>by
   simp only [aC,List.find?_cons]
   cases hp:p x
   · rcases iK p r (i+1) with ⟨h1,h2⟩ | ⟨k,y,h1,h2,h3⟩
     · exact .inl ⟨h1,h2⟩
     · exact .inr ⟨k+1,y,by simp only [cond_false]; rw [show (i:Int)+1=((i+1:Nat):Int) from rfl,h1]; omega,by simpa using h2,h3⟩
   · exact .inr ⟨0,x,by simp,by simp,rfl⟩
theorem Ee (vs:List Var) (ss:List Str):ah Tryz.prog 182 [.e .cell c,.l .var vs,.l .str ss] [] (cj (bS c vs ss)) []:=by
 refine dg G5 Tryz.func182 (.ite (c.op==(1:Int)) (.ret (.tup [.i 1,.i 0]) []) (.ite (c.op==(2:Int)) (.ret (.tup [.i 3,.i 0]) []) (.ite (c.op==(5:Int)) (.ite (decide (aC (fun v=>v.name==c.name) vs (0:Int)<0)) (.ret (.tup [.i 0,.i 2]) []) (.need ((0:Int)≤aC (fun v=>v.name==c.name) vs (0:Int)∧aC (fun v=>v.name==c.name) vs (0:Int)<(vs.length:Int)) (.ite (decide (Var.kind (ETy.get .var vs ((aC (fun v=>v.name==c.name) vs (0:Int)).toNat))≥(1:Int))&&decide (Var.kind (ETy.get .var vs ((aC (fun v=>v.name==c.name) vs (0:Int)).toNat))≤(3:Int))) (.ret (.tup [.i (Var.kind (ETy.get .var vs ((aC (fun v=>v.name==c.name) vs (0:Int)).toNat))),.i 0]) []) (.ret (.tup [.i 0,.i 8]) [])))) (.ite (c.op==(6:Int)) (.ite (!List.any ss fun x=>c.name==x) (.ret (.tup [.i 0,.i 2]) []) (.ret (.tup [.i 2,.i 0]) [])) (.ret (.tup [.i 2,.i 0]) []))))) fun Γ=>?_
 have hsw:(ss.any fun x=>c.name==x)=ss.any fun s=>s==c.name:=by congr 1; funext x; exact BEq.comm
 refine ⟨fun h1=>⟨by simp only [bS,h1,cond_true,cj],rfl⟩,fun h1=>⟨fun h2=>⟨by simp only [bS,h1,h2,cond_true,cond_false,cj],rfl⟩,fun h2=>⟨fun h5=>?_,fun h5=>⟨fun h6=>⟨fun h=>⟨?_,rfl⟩,fun h=>⟨?_,rfl⟩⟩,fun h6=>⟨by simp only [bS,h1,h2,h5,h6,cond_false,cj],rfl⟩⟩⟩⟩⟩
 · show _∧_
   rcases iK (fun v:Var=>v.name==c.name) vs 0 with ⟨g1,g2⟩ | ⟨k,x,g1,g2,g3⟩
   · simp only [Int.natCast_zero] at g1
     rw [g1]
     exact ⟨fun _=>⟨by simp only [bS,h1,h2,h5,gV,g2,cond_true,cond_false,cj],rfl⟩,fun h=>by simp at h⟩
   · simp only [Int.natCast_zero,a8] at g1
     have hk:=(List.getElem?_eq_some_iff.1 g2).1
     rw [g1]
     refine ⟨fun h=>by have:=of_decide_eq_true h; omega,fun _=>⟨by omega,?_⟩⟩
     rw [ai,ETy.get_eq (t:=.var) g2]
     exact ⟨fun h=>⟨by simp only [bS,h1,h2,h5,gV,g3,h,cond_true,cond_false,cj],rfl⟩,fun h=>⟨by simp only [bS,h1,h2,h5,gV,g3,h,cond_true,cond_false,cj],rfl⟩⟩
 · rw [hsw] at h; simp only [bS,h1,h2,h5,h6,h,cond_true,cond_false,cj]
 · rw [hsw] at h; simp only [bS,h1,h2,h5,h6,h,cond_true,cond_false,cj]
def vf:Ent:=(182,fun
 | [.agg [.pd (.int .i64 a),.pd (.int .i64 b),.pd (.str d)],.c (.pd (.lst .var vs)),.c (.pd (.lst .str ss))],[]=>some (none,cj (bS ⟨a,b,d⟩ vs ss),[])
 | _,_=>none)
theorem F9:EntOk Tryz.prog vf:=entOk fun vs ck=>by
 unfold vf; dsimp only; split
 · rename_i a b d vs ss; exact entS fun hp=>Ee ⟨a,b,d⟩ vs ss
 · exact entN
end Go.Proofs.YtgfifkhbfdacjaaGreatDoor

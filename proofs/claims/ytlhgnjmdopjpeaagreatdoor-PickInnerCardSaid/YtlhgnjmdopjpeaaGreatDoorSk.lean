/- Contracts: tree.Kids. Conditions: sizes. Contracts: conf: small functions, what a state begins with. Conditions: sizes. Contracts: the document's places of states, names, variables. Conditions: sizes. -/
import Derived.Test.YtlhgnjmdopjpeaaGreatDoorCc
import Derived.Test.YtlhgnjmdopjpeaaGreatDoorTf
import Derived.Test.YtlhgnjmdopjpeaaGreatDoorVk
import Derived.Test.YtlhgnjmdopjpeaaGreatDoorTq
import Derived.Test.YtlhgnjmdopjpeaaGreatDoorSg
import Derived.Test.YtlhgnjmdopjpeaaGreatDoorSa
import Derived.Test.YtlhgnjmdopjpeaaGreatDoorTh
import Derived.Test.YtlhgnjmdopjpeaaGreatDoorFe
import Derived.Test.YtlhgnjmdopjpeaaGreatDoorTp
import Derived.Test.YtlhgnjmdopjpeaaGreatDoorXb
namespace Go.Proofs.YtlhgnjmdopjpeaaGreatDoor
open Go Go.Ev
set_option maxRecDepth 100000
def uh:Cfg:=⟨aU,[r5,uE]⟩
theorem qd:ag Tryz.prog uh.tab:=(ag.cons tq (ag.cons BB ag.nil))
abbrev zCg2(a:List Int):List Chunk:=[.cells [.own 3] 34,.dead,.dead,.own 3 .int a]
variable(l:List Ev.Stat)(i:Nat)
theorem N8(lp:Nat)(pre:List Int)(y:Int)(Γ:Ctx)(hds:Γ.ds=[])(hlen:pre.length<100) :
 J Tryz.prog ⟨99,some lp⟩ (ar Tryz.f99) Γ (fun v ck=>(v = .x (.b true)∧True∧ck=(fun pre=>(zCg2 pre)) (pre++[y]))∨(v = .x (.b false)∧False∧ck=(fun pre=>(zCg2 pre)) (pre++[y]))) [.code ([1,1,1,0,1,0]++[1])]
  {n:=20,fr:=bH 6 (.x (.i y)) (bH 14 (.x (.i y)) [(4,.x (.c (.pd (.v (.slice none 0 0))))),(5,.x (.c (.loc 0 0))),(13,.x (.c (.fn (.func 216) [] [.pd (.ref .int (i:Int) 0),.pd (.ref .stats l 0)])))]),ck:=(zCg2 pre),m:=3}:=by
 show J Tryz.prog ⟨99,some lp⟩ (ar Tryz.f99) Γ _ [.code [1,1,1,0,1,0,1]] {n:=20,fr:=[(4,.x (.c (.pd (.v (.slice none 0 0))))),(5,.x (.c (.loc 0 0))),(13,.x (.c (.fn (.func 216) [] [.pd (.ref .int (i:Int) 0),.pd (.ref .stats l 0)]))),(14,.x (.i (y:Int))),(6,.x (.i (y:Int)))],ck:=(zCg2 pre),m:=3}
 refine J.goR (cfg:=uh) qd (fn:=R9 Tryz.f99) (by kernel_rfl) 1000 (t:=(.need (room ((pre++[y]).length) 8) (.stop [] {n:=20,fr:=[(4,.p (.v (Value.slice none 0 0)))],ck:=[.cells [.own 3] 34,.dead,.dead,.own 3 .int (pre++[y])],m:=3}))) (by kernel_rfl) ?_
 refine⟨⟨by rw[au];show(_+1) * 8≤_;omega,by rw[au];show _+1≤_;unfold maxLen;omega⟩,?_⟩
 exact J.roundEnd hds (.inl ⟨rfl,trivial,rfl⟩)
theorem CU{l:List Ev.Stat}{i:Int}(h:cw l i=true):cn l=true∧0≤i∧i<(l.length:Int):=by
 unfold cw at h
 simp only[af,decide_eq_true_eq]at h
 obtain⟨⟨a,b⟩,c⟩:=h
 exact⟨by assumption,by assumption,by assumption⟩
abbrev zCg1(a:Nat)(b:List Ev.Stat):List (Nat×SV):=[(4,.x (.c (.pd (.v (.slice none 0 0))))),(5,.x (.c (.loc 0 0))),(13,.x (.c (.fn (.func 216) [] [.pd (.ref .int (a:Int) 0),.pd (.ref .stats b 0)])))]
abbrev zCg3:List PI:=[.code [1,1,1,0,1,0],.inBlock 0,.code [1,1,1,1]]
theorem KG(hh:cw l (i:Int)=true):ah Tryz.prog 99 [.l .stat l,.i (i:Int)] [] (.x (.c (.own 0))) [.own 3 .int (bB l i)]:=by
 have h1:=CU hh
 have S:=kp h1.1
 have hf:=S.few
 have hl:l.length≤maxLen:=by unfold maxLen;omega
 have hi:i<l.length:=by omega
 have hkm:=qS l i
 refine dg qd Tryz.func99 (.need (l.length≤maxLen) (.ite (!cw l (i:Int)) (.ret (.p (.v (Value.slice none 0 0))) []) (.stop zCg3 {n:=20,fr:=[(4,.p (.v (Value.slice none 0 0))),(5,.x (.c (.loc 0 0))),(13,.x (.c (.fn (.func 216) [] [.loc 2 0,.loc 1 0])))],ck:=[.cells [.pd (.v (Value.slice none 0 0))] 34,.cells [.pd (.lst .stat l)] 24,.cells [.i i] 3]}))) fun Γ=>?_
 refine⟨hl,fun h=>?_,fun _=>?_⟩
 ·rw[hh]at h;cases h
 have rest:J Tryz.prog 99 (ar Tryz.f99) Γ (Eq2 (.x (.c (.own 0))) [.own 3 .int (bB l i)]) zCg3 {n:=20,fr:=(zCg1 i l),ck:=[.cells [.own 3] 34,.dead,.dead,.own 3 .int []]}:=by
  refine J.rangeQ 3 (ok:=fun x=>0≤x∧x<(l.length:Int)) (xs:=bB l i) (g:=13) (s:=14) (d:=6) Tryz.func99 (by kernel_rfl) (by kernel_rfl) (by kernel_rfl) (by kernel_rfl) rfl (Go.Proofs.enters_of Tryz.func216 (by kernel_rfl) rfl) (by kernel_rfl) (by kernel_rfl) (by kernel_rfl) (by kernel_rfl) (yb l i hi hl)
   (fun _=>True) (fun _=>False) trivial (fun pre=>[.cells [.own 3] 34,.dead,.dead,.own 3 .int pre]) (fun pre=>[.cells [.own 3] 34,.dead,.dead,.own 3 .int pre]) rfl (fun _=>rfl) (fun _=>rfl) (fun _=>rfl) (fun _=>rfl)
   (fun lp pre x Γ hds _ _ _ hlen=>N8 l i lp pre x Γ hds (by omega)) (fun _ Γ'=>?_) (fun _ _ hb=>hb.elim)
  generalize bB l i=pre
  show J Tryz.prog 99 (ar Tryz.f99) Γ' _ _ {n:=20,fr:=(zCg1 i l),ck:=[.cells [.own 3] 34,.dead,.dead,.own 3 .int pre]}
  refine jg qd Tryz.func99 (.ret (.x (.c (.own 0))) [.own 3 .int pre]) ?_
  exact⟨rfl,rfl⟩
 have rest2:J Tryz.prog 99 (ar Tryz.f99) Γ (Eq2 (.x (.c (.own 0))) [.own 3 .int (bB l i)]) zCg3 {n:=20,fr:=(zCg1 i l),ck:=[.cells [.pd (.v (.slice none 0 0))] 34,.dead,.dead]}:=J.nilCk 0 0 3 .int rfl rfl (by kernel_rfl) rest
 exact J.freeze aU [1,2] (by kernel_rfl) rest2
theorem Hp(i:Int)(h:cw l i=true):ah Tryz.prog 99 [.l .stat l,.i i] [] (.x (.c (.own 0))) [.own 3 .int (bB l i.toNat)]:=by
 obtain⟨k,rfl⟩:=aA (CU h).2.1
 rw[ai]
 exact KG l k h
def u9:Ent:=(99,fun
 |[.c (.pd (.lst .stat l)),.c (.pd (.int .i64 i))],[]=>some (some (cw l i=true),.x (.c (.own 0)),[.own 3 .int (bB l i.toNat)])
 |_,_=>none)
theorem Jj:EntOk Tryz.prog u9:=entOk fun vs ck=>by
 unfold u9;dsimp only;split
 ·rename_i l i;exact entS fun hp=>Hp l i hp
 ·exact entN
theorem Fx(k:Int):ah Tryz.prog 98 [.i k] [] (.x (.b (bg k))) []:=by
 refine dg aX Tryz.func98 (.ret (.p (.bool (k==(5:Int)||k==(6:Int)))) []) fun Γ=>?_
 exact⟨rfl,rfl⟩
def uz:Ent:=(98,fun
 |[.c (.pd (.int .i64 k))],[]=>some (none,.x (.c (.pd (.bool (bg k)))),[])
 |_,_=>none)
theorem I2:EntOk Tryz.prog uz:=entOk fun vs ck=>by
 unfold uz;dsimp only;split
 ·rename_i k;exact entS fun hp=>Fx k
 ·exact entN
def Ie:Cfg:=⟨aU,[uw]⟩
theorem If:ag Tryz.prog Ie.tab:=(ag.cons IZ ag.nil)
theorem Dd(c:Chart)(h:c.vars.length≤2199023255552∧c.states.length≤2199023255552):ah Tryz.prog 55 [.e .chart c] [] (.x (.b (bp c==0))) []:=by
 refine dg If Tryz.func55 (.need (c.vars.length≤2199023255552∧c.states.length≤2199023255552) (.ret (.p (.bool (bp c==(0:Int)))) [])) fun Γ=>?_
 exact⟨h,rfl,rfl⟩
def rQ:Ent:=(55,fun
 |[.agg [.pd (.str a),.pd (.lst .str b),.pd (.lst .var c),.pd (.lst .stat d),.pd (.lst .tran e)]],[]=>some (some (c.length≤2199023255552∧d.length≤2199023255552),.x (.c (.pd (.bool (bp ⟨a,b,c,d,e⟩==0)))),[])
 |_,_=>none)
theorem FH:EntOk Tryz.prog rQ:=entOk fun vs ck=>by
 unfold rQ;dsimp only;split
 ·rename_i a b c d e;exact entS fun hp=>Dd ⟨a,b,c,d,e⟩ hp
 ·exact entN
/-! ### down -/
/-! ### a state's place -/
abbrev zSk1(a:Chart):Chunk:=.cells [.pd (.str a.name),.pd (.lst .str a.events),.pd (.lst .var a.vars),.pd (.lst .stat a.states),.pd (.lst .tran a.trans)] 27
abbrev zSk2:List PI:=[.code [1,0,1,0,0],.inLoop [1,0,1,0,0],.inBlock 0,.code [1,1]]
variable(c:Chart)(l:List Str)(s:Str)(b:Bool)(v:Var)(Γ:Ctx)
theorem NB(hl:c.states.length≤maxLen)  : ∀(n k:Nat),c.states.length - k≤n→k≤c.states.length →
 J Tryz.prog 31 (ar Tryz.f31) Γ (Eq2 (.x (.i (ay (fun v:Ev.Stat=>v.name==s) (c.states.drop k) k))) []) zSk2 ({n:=22,fr:=[(1,.p (.str s)),(2,.x (.c (.loc 0 0))),(4,.i 0),(5,.i k)],ck:=[zSk1 c]}):=by
 intro n
 induction n with
 |zero=>?_
 |succ n ih=>?_
 all_goals
  intro k hn hk
  refine jg aX Tryz.func31 (.ite (decide ((k:Int)<(c.states.length:Int))) (.need (inRg k c.states.length) (.ite (Stat.name (ETy.get .stat c.states k)==s) (.ret (.i k) []) (.stop zSk2 {n:=22,fr:=[(1,.p (.str s)),(2,.x (.c (.loc 0 0))),(4,.i 0),(5,.i (IntKind.wrap .i64 ((k:Int)+1)))],ck:=[zSk1 c]}))) (.ret (.i (-1:Int)) [])) ?_
  refine⟨fun hlt=>?_,fun hge=>?_⟩
  · have hk':k<c.states.length:=by have:=of_decide_eq_true hlt;omega
    rw[bx (t:=.stat) (l:=c.states) hk']
    refine⟨by omega,?_⟩
    generalize ETy.get .stat c.states k=v
    refine⟨fun hb=>⟨?_,rfl⟩,fun hb=>?_⟩
    · have hb':(v.name==s)=true:=hb
      simp only[ay,hb',cond_true]
    · have hb':(v.name==s)=false:=hb
      simp only[ay,hb',cond_false];(rw[aZ (aG hk' hl)];first |(exfalso;omega) |exact ih (k+1) (by omega) (by omega))
  · rw[bS (l:=c.states) (by have:=of_decide_eq_false hge;omega)]
    exact⟨rfl,rfl⟩
theorem DL(h:c.states.length≤maxLen):ah Tryz.prog 31 [.e .chart c,.s s] [] (.x (.i (aF c.states s))) []:=by
 refine dg aX Tryz.func31 (.stop zSk2 {n:=22,fr:=[(1,.p (.str s)),(2,.x (.c (.loc 0 0))),(4,.i 0),(5,.i 0)],ck:=[zSk1 c]}) fun Γ=>?_
 exact NB c s Γ h c.states.length 0 (by omega) (by omega)
def mJ:Ent:=(31,fun
 |[.agg [.pd (.str a),.pd (.lst .str b),.pd (.lst .var c),.pd (.lst .stat d),.pd (.lst .tran e)],.c (.pd (.str n))],[]=>some (some (d.length≤maxLen),.x (.c (.pd (.int .i64 (aF d n)))),[])
 |_,_=>none)
theorem pt:EntOk Tryz.prog mJ:=entOk fun vs ck=>by
 unfold mJ;dsimp only;split
 ·rename_i a b c d e n;exact entS fun hp=>DL ⟨a,b,c,d,e⟩ n hp
 ·exact entN
/-! ### names -/
def dL(l:List Ev.Stat):List Str:=(l.filter fun s:Ev.Stat=>b || !bg s.kind).map fun s:Ev.Stat=>s.name
theorem jO(l:List Ev.Stat):dL true l=l.map fun s:Ev.Stat=>s.name:=by
 have h:(l.filter fun s:Ev.Stat=>true || !bg s.kind)=l:=eD.2 fun _ _=>rfl
 unfold dL
 rw[h]
theorem CC(l:List Ev.Stat):dL false l=dS l:=rfl
theorem DK{b:Bool}{l:List Ev.Stat}{k:Nat}(hk:k<l.length):dL b (l.take (k+1))=if(b || !bg (ETy.get .stat l k).kind)=true then dL b (l.take k)++[(ETy.get .stat l k).name]else dL b (l.take k):=by
 rw[show ETy.get .stat l k=l[k]from ETy.get_eq (t:=.stat) (List.getElem?_eq_getElem hk)]
 unfold dL
 rw[aL hk,cc,bC]
 cases hp:(b || !bg l[k].kind) <;> simp[hp]
theorem Kk(l:List Ev.Stat)(k:Nat):(dL b (l.take k)).length≤l.length:=by
 unfold dL
 rw[aP]
 exact aC (aY _ _) (by rw[a6];omega)
def Bh:Cfg:=⟨aU,[lQ]⟩
theorem xE:ag Tryz.prog Bh.tab:=(ag.cons lR ag.nil)
abbrev zSk4:List PI:=[.code [1,1,0,1,0,0],.inLoop [1,1,0,1,0,0],.inBlock 0,.code [1,1,1]]
theorem Ny(hl:c.states.length≤1466015503701)(Γ:Ctx):∀(n k:Nat),c.states.length - k≤n→k≤c.states.length →
 J Tryz.prog 48 (ar Tryz.f48) Γ (Eq2 (.x (.c (.own 0))) [.own 9 .str (dL b c.states)]) zSk4 ({n:=35,fr:=[(1,.p (.bool b)),(2,.x (.c (.loc 0 0))),(4,.p (.v (Value.slice none 0 0))),(5,.x (.c (.own 1))),(6,.i ((k:Int)))],ck:=[zSk1 c,.own 9 .str (dL b (c.states.take k))]}):=by
 have hm:c.states.length≤maxLen:=aC hl (by decide)
 intro n
 induction n with
 |zero=>?_
 |succ n ih=>?_
 all_goals
  intro k hn hk
  generalize hout:dL b (c.states.take k)=out
  refine jg xE Tryz.func48 (let x1:List (Nat×SV):=[(1,.p (.bool b)),(2,.x (.c (.loc 0 0))),(4,.p (.v (Value.slice none 0 0))),(5,.x (.c (.own 1))),(6,.i (IntKind.wrap .i64 ((k:Int)+1)))];let x2:List PI:=zSk4;let x3:=(ETy.get .stat c.states k);.ite (decide ((k:Int)<(c.states.length:Int))) (.need (b=false→(0:Int)≤(k:Int)∧(k:Int)<(c.states.length:Int)) (.ite (b || !bg (Stat.kind x3)) (.need (inRg k c.states.length) (.need (room ((out++[Stat.name x3]).length) 16) (.stop x2 {n:=35,fr:=x1,ck:=[zSk1 c,.own 9 .str (out++[Stat.name x3])]}))) (.stop x2 {n:=35,fr:=x1,ck:=[zSk1 c,.own 9 .str out]}))) (.ret (.x (.c (.own 0))) [.own 9 .str out])) ?_
  conv=>zeta
  refine⟨fun hlt=>?_,fun hge=>?_⟩
  · have hk':k<c.states.length:=by have:=of_decide_eq_true hlt;omega
    have hs:=DK (b:=b) hk'
    have hle:=Kk b c.states (k+1)
    rw[hout]at hs
    refine⟨fun _=>⟨by omega,by omega⟩,fun h=>?_,fun h=>?_⟩
    · rw[if_pos h]at hs
      rw[hs]at hle
      refine⟨⟨by omega,by omega⟩,⟨by omega,by unfold maxLen;omega⟩,?_⟩
      rw[aZ (aG hk' hm),←hs]
      first
      |(exfalso;omega)
      |exact ih (k+1) (by omega) (by omega)
    · rw[if_neg (by rw[h];decide)]at hs
      rw[aZ (aG hk' hm),←hs]
      first
      |(exfalso;omega)
      |exact ih (k+1) (by omega) (by omega)
  · have hke:k=c.states.length:=by have:=of_decide_eq_false hge;omega
    subst hke
    rw[←hout,a8 (av _)];exact⟨rfl,rfl⟩
theorem DJ(hl:c.states.length≤1466015503701):ah Tryz.prog 48 [.e .chart c,.b b] [] (.x (.c (.own 0))) [.own 9 .str (dL b c.states)]:=by
 refine dg xE Tryz.func48 (.stop zSk4 {n:=35,fr:=[(1,.p (.bool b)),(2,.x (.c (.loc 0 0))),(4,.p (.v (Value.slice none 0 0))),(5,.p (.v (Value.slice none 0 0))),(6,.i 0)],ck:=[zSk1 c]}) fun Γ=>?_
 refine J.nilOwn 5 9 .str rfl (by kernel_rfl) ?_
 exact Ny c b hl Γ c.states.length 0 (by omega) (by omega)
def oH:Ent:=(48,fun
 |[.agg [.pd (.str a),.pd (.lst .str b),.pd (.lst .var c),.pd (.lst .stat d),.pd (.lst .tran e)],.c (.pd (.bool q))],[]=>some (some (d.length≤1466015503701),.x (.c (.own 0)),[.own 9 .str (dL q d)])
 |_,_=>none)
theorem uT:EntOk Tryz.prog oH:=entOk fun vs ck=>by
 unfold oH;dsimp only;split
 ·rename_i a b c d e q;exact entS fun hp=>DJ ⟨a,b,c,d,e⟩ q hp
 ·exact entN
/-! ### twice -/
theorem K6{l:List Str}{p:Str→Bool}{k:Nat}(hk:k<l.length):(l.take (k+1)).any p=((l.take k).any p||p (ETy.get .str l k)):=by
 rw[show ETy.get .str l k=l[k]from ETy.get_eq (t:=.str) (List.getElem?_eq_getElem hk),aL hk,fK];simp
abbrev zSk3:List PI:=[.code [1,0,1,0,0,1,0,0,1,0,0],.inLoop [1,0,1,0,0,1,0,0,1,0,0],.inBlock 2,.inBlock 1,.code [1,0,1,0,0,1,1],.inLoop [1,0,1,0,0],.inBlock 0,.code [1,1]]
theorem Ko(i:Nat)(hi:i<l.length)(hl:l.length≤maxLen)(Γ:Ctx)(res:Bool)(h1:tw1 l i=true→res=true)
 (h0:tw1 l i=false→J Tryz.prog 49 (ar Tryz.f49) Γ (Eq2 (.x (.b res)) []) zSk2 ({n:=25,fr:=[(0,.p (.lst .str l)),(2,.p (.bool false)),(3,.i ((IntKind.wrap .i64 ((i:Int)+1))))],ck:=[],kn:=[2]})):∀(n k:Nat),i - k≤n→k≤i→((l.take k).any fun y=>ETy.get .str l i==y)=false →
 J Tryz.prog 49 (ar Tryz.f49) Γ (Eq2 (.x (.b res)) []) zSk3 ({n:=25,fr:=[(0,.p (.lst .str l)),(2,.p (.bool false)),(3,.i i),(4,.i ((k:Int)))],ck:=[],kn:=[2]}):=by
 intro n
 induction n with
 |zero=>?_
 |succ n ih=>?_
 all_goals
  intro k hn hk hz
  refine jg aX Tryz.func49 (.ite (decide ((k:Int)<(i:Int))) (.need (inRg i l.length) (.need (inRg k l.length) (.ite (ETy.get .str l i==ETy.get .str l k) (.ret (.p (.bool true)) []) (.stop zSk3 {n:=25,fr:=[(0,.p (.lst .str l)),(2,.p (.bool false)),(3,.i i),(4,.i (IntKind.wrap .i64 ((k:Int)+1)))],ck:=[]})))) (.stop zSk2 {n:=25,fr:=[(0,.p (.lst .str l)),(2,.p (.bool false)),(3,.i (IntKind.wrap .i64 ((i:Int)+1)))],ck:=[],kn:=[2]})) ?_
  refine⟨fun hlt=>?_,fun hge=>?_⟩
  · have hk':k<i:=by have:=of_decide_eq_true hlt;omega
    have ht:=K6 (l:=l) (p:=fun y=>ETy.get .str l i==y) (k:=k) (by omega)
    rw[hz,bj]at ht
    refine⟨⟨by omega,by omega⟩,⟨by omega,by omega⟩,fun hb=>?_,fun hb=>?_⟩
    · have hb':(ETy.get .str l i==ETy.get .str l k)=true:=hb
      rw[h1 ?_];exact⟨rfl,rfl⟩
      unfold tw1
      rw[bf]
      refine⟨ETy.get .str l k,?_,hb'⟩
      rw[show ETy.get .str l k=l[k]from ETy.get_eq (t:=.str) (List.getElem?_eq_getElem (by omega)),fB]
      exact⟨k,by omega,rfl⟩
    · have hb':(ETy.get .str l i==ETy.get .str l k)=false:=hb
      rw[aZ (aG (show k<l.length by omega) hl)]
      first
      |(exfalso;omega)
      |exact J.kn [2] (ih (k+1) (by omega) (by omega) (by rw[ht];exact hb'))
  · have hke:k=i:=by have:=of_decide_eq_false hge;omega
    subst hke
    exact h0 hz
theorem NN (hl:l.length≤maxLen) (Γ:Ctx):∀(n k:Nat),l.length - k=n→k≤l.length →
 J Tryz.prog 49 (ar Tryz.f49) Γ (Eq2 (.x (.b (rG l n k))) []) zSk2 ({n:=25,fr:=[(0,.p (.lst .str l)),(2,.p (.bool false)),(3,.i ((k:Int)))],ck:=[],kn:=[2]}):=by
 intro n
 induction n with
 |zero=>?_
 |succ n ih=>?_
 all_goals
  intro k hn hk
  refine jg aX Tryz.func49 (.ite (decide ((k:Int)<(l.length:Int))) (.stop zSk3 {n:=25,fr:=[(0,.p (.lst .str l)),(2,.p (.bool false)),(3,.i k),(4,.i 0)],ck:=[],kn:=[2]}) (.ret (.p (.bool false)) [])) ?_
  refine⟨fun hlt=>?_,fun hge=>?_⟩
  · have hk':k<l.length:=by have:=of_decide_eq_true hlt;omega
    first
    |(exfalso;omega)
    | refine Ko l k hk' hl Γ _ (fun h=>?_) (fun h=>?_) k 0 (by omega) (by omega) rfl
      ·rw[rG,h,b9]
      · rw[rG,h,bj,aZ (aG hk' hl)]
        exact ih (k+1) (by omega) (by omega)
  · first
    |exact⟨rfl,rfl⟩
    |(have:=of_decide_eq_false hge;exfalso;omega)
theorem DP:ah Tryz.prog 49 [.l .str l] [] (.x (.b (eN l))) []:=by
 refine dg aX Tryz.func49 (.stop zSk2 {n:=25,fr:=[(0,.p (.lst .str l)),(2,.p (.bool false)),(3,.i 0)],ck:=[],kn:=[2]}) fun Γ=>?_
 exact J.len 0 rfl fun hl=>NN l hl Γ l.length 0 (by omega) (by omega)
def rX:Ent:=(49,fun
 |[.c (.pd (.lst .str l))],[]=>some (none,.x (.c (.pd (.bool (eN l)))),[])
 |_,_=>none)
theorem Gc:EntOk Tryz.prog rX:=entOk fun vs ck=>by
 unfold rX;dsimp only;split
 ·rename_i l;exact entS fun hp=>DP l
 ·exact entN
/-! ### spelled -/
def Bi:Cfg:=⟨aU,[qu]⟩
theorem xF:ag Tryz.prog Bi.tab:=(ag.cons oI ag.nil)
theorem NH(hl:l.length≤maxLen)  : ∀(n k:Nat),l.length - k≤n→k≤l.length →
 J Tryz.prog 47 (ar Tryz.f47) Γ (Eq2 (.x (.b ((l.drop k).all bk))) []) zSk2 ({n:=16,fr:=[(0,.p (.lst .str l)),(2,.p (.bool false)),(3,.i k)],ck:=[],kn:=[2]}):=by
 intro n
 induction n with
 |zero=>?_
 |succ n ih=>?_
 all_goals
  intro k hn hk
  refine jg xF Tryz.func47 (.ite (decide ((k:Int)<(l.length:Int))) (.need (inRg k l.length) (.ite (!bk (ETy.get .str l k)) (.ret (.p (.bool false)) []) (.stop zSk2 {n:=16,fr:=[(0,.p (.lst .str l)),(2,.p (.bool false)),(3,.i (IntKind.wrap .i64 ((k:Int)+1)))],ck:=[],kn:=[2]}))) (.ret (.p (.bool true)) [])) ?_
  refine⟨fun hlt=>?_,fun hge=>?_⟩
  · have hk':k<l.length:=by have:=of_decide_eq_true hlt;omega
    rw[bx (t:=.str) (l:=l) hk']
    refine⟨by omega,?_⟩
    generalize ETy.get .str l k=v
    rw[eH]
    refine⟨fun hb=>⟨?_,rfl⟩,fun hb=>?_⟩
    · have hb':bk v=false:=nt hb
      rw[hb'];rfl
    · have hb':bk v=true:=nf hb
      rw[hb',bb];(rw[aZ (aG hk' hl)];first |(exfalso;omega) |exact ih (k+1) (by omega) (by omega) |exact J.kn [2] (ih (k+1) (by omega) (by omega)))
  · rw[bS (l:=l) (by have:=of_decide_eq_false hge;omega)]
    exact⟨rfl,rfl⟩
theorem NI:ah Tryz.prog 47 [.l .str (l)] [] (.x (.b (l.all bk))) []:=by
 refine dg xF Tryz.func47 (.stop zSk2 {n:=16,fr:=[(0,.p (.lst .str l)),(2,.p (.bool false)),(3,.i 0)],ck:=[],kn:=[2]}) fun Γ=>?_
 exact J.len 0 rfl fun hl=>NH l Γ hl l.length 0 (by omega) (by omega)
def nM:Ent:=(47,fun
 |[.c (.pd (.lst .str l))],[]=>some (none,.x (.c (.pd (.bool (l.all bk)))),[])
 |_,_=>none)
theorem BO:EntOk Tryz.prog nM:=entOk fun vs ck=>by
 unfold nM;dsimp only;split
 ·rename_i l;exact entS fun hp=>NI l
 ·exact entN
/-! ### a variable -/
theorem G8(x:Val):ah Tryz.prog 92 [.e .var v,.e .val x] [] (.x (.b (jS v x))) []:=by
 refine dg aX Tryz.func92 (.ite (v.kind != x.kind||decide (x.a<v.lo)||decide (x.a>v.hi)) (.ret (.p (.bool false)) []) (.ret (.p (.bool (x.kind != (3:Int)||decide (x.b≥v.lo)&&decide (x.b≤v.hi)))) [])) fun Γ=>?_
 have e:∀b:Bool,b=jS v x→Eq2 (.x (.b (jS v x))) [] (SV.x (SX.c (SC.pd (PD.bool b)))) []:=fun b h=>by rw[h];exact⟨rfl,rfl⟩
 refine⟨fun h=>e _ ?_,fun h=>e _ ?_⟩
 · unfold jS
   simp only[aN,bne_iff_ne,decide_eq_true_eq]at h
   symm
   cases hb:(v.kind==x.kind&&(decide (x.a≥v.lo)&&decide (x.a≤v.hi)&&(x.kind != 3||(decide (x.b≥v.lo)&&decide (x.b≤v.hi)))))
   ·rfl
   · simp only[af,beq_iff_eq,decide_eq_true_eq]at hb
     omega
 · unfold jS
   simp only[al,bne_eq_false_iff_eq,decide_eq_false_iff_not]at h
   rw[show(v.kind==x.kind)=true by simpa using h.1.1,show decide (x.a≥v.lo)=true by simpa using h.1.2,show decide (x.a≤v.hi)=true by simpa using h.2]
   rfl
def uP:Ent:=(92,fun
 |[.agg [.pd (.str n),.pd (.int .i64 k),.pd (.int .i64 lo),.pd (.int .i64 hi),.pd (.int .i64 ik),.pd (.int .i64 ia),.pd (.int .i64 ib)],.agg [.pd (.int .i64 xk),.pd (.int .i64 xa),.pd (.int .i64 xb)]],[]=>some (none,.x (.c (.pd (.bool (jS ⟨n,k,lo,hi,⟨ik,ia,ib⟩⟩ ⟨xk,xa,xb⟩)))),[])
 |_,_=>none)
theorem Jc:EntOk Tryz.prog uP:=entOk fun vs ck=>by
 unfold uP;dsimp only;split
 ·rename_i n k lo hi ik ia ib xk xa xb;exact entS fun hp=>G8 ⟨n,k,lo,hi,⟨ik,ia,ib⟩⟩ ⟨xk,xa,xb⟩
 ·exact entN
theorem Ss(k:Int):(decide (k<1)||decide (k>3))=(k != 1&&k != 2&&k != 3):=by
 rw[aT]
 simp only[aN,af,decide_eq_true_eq,bne_iff_ne]
 omega
theorem RX(h:v.init.kind=v.kind):(vR v.init&&decide (wI v≥v.lo)&&decide (sd v≤v.hi))=(vR v.init&&jS v v.init):=by
 rw[Bool.and_assoc]
 congr 1
 unfold jS wI sd
 rw[h,beq_self_eq_true,bb]
 generalize v.init.a=a
 generalize v.init.b=b
 by_cases h3:v.kind=3
 · have e3:(v.kind==3)=true:=by rw[h3];rfl
   have e4:(v.kind != 3)=false:=by rw[h3];rfl
   rw[if_pos e3,if_pos e3,e4,bj,aT]
   simp only[af,decide_eq_true_eq]
   split <;> split <;> omega
 · have e3:¬(v.kind==3)=true:=by simpa using h3
   have e4:(v.kind != 3)=true:=by simpa using h3
   rw[if_neg e3,if_neg e3,e4,b9,dF]
def IG:Cfg:=⟨aU,[nK,uP]⟩
theorem IH:ag Tryz.prog IG.tab:=(ag.cons BL (ag.cons Jc ag.nil))
theorem Kr:ah Tryz.prog 52 [.e .var v] [] (.x (.i (fw v))) []:=by
 refine dg IH Tryz.func52 (let x1:Tree:=(.ite (v.kind==(2:Int)&&(v.lo != (0:Int)||v.hi != (1:Int))) (.ret (.i 5) []) (.ite (!vR v.init || !jS v v.init) (.ret (.i 5) []) (.ret (.i 0) [])));.ite (v.kind != (1:Int)&&v.kind != (2:Int)&&v.kind != (3:Int)||v.init.kind != v.kind) (.ret (.i 8) []) (.ite (v.kind==(3:Int)) (.ite (decide (v.lo>v.hi)||decide (v.lo<IntKind.wrap .i64 ((0:Int) - 1048576))||decide (v.hi>(1048576:Int))) (.ret (.i 5) []) x1) (.ite (decide (v.lo>v.hi)||decide (v.lo<IntKind.wrap .i64 ((0:Int) - 1099511627776))||decide (v.hi>(1099511627776:Int))) (.ret (.i 5) []) x1))) fun Γ=>?_
 conv=>zeta
 have w1:IntKind.wrap .i64 (0 - 1048576) = -1048576:=by decide
 have w2:IntKind.wrap .i64 (0 - 1099511627776) = -1099511627776:=by decide
 rw[w1,w2,←Ss]
 have no:∀{b:Bool},b=false→¬b=true:=fun h e=>by rw[h]at e;cases e
 refine⟨fun h=>?_,fun h=>?_⟩
 ·unfold fw;rw[if_pos h];exact⟨rfl,rfl⟩
 have hk:v.init.kind=v.kind:=by
  rw[al]at h
  simpa using h.2
 have hf:=RX v hk
 have hd:∀b:Bool,(!vR v.init || !jS v v.init)=b→b7 (vR v.init&&decide (wI v≥v.lo)&&decide (sd v≤v.hi)) 5=if b=true then 5 else 0:=by
  intro b hb
  rw[hf,←hb]
  unfold b7
  cases vR v.init <;> cases jS v v.init <;> rfl
 refine⟨fun h3=>⟨fun hb=>?_,fun hb=>⟨fun hc=>?_,fun hc=>⟨fun he=>?_,fun he=>?_⟩⟩⟩,fun h3=>⟨fun hb=>?_,fun hb=>⟨fun hc=>?_,fun hc=>⟨fun he=>?_,fun he=>?_⟩⟩⟩⟩
 all_goals
  have hm:pC v=if(v.kind==3)=true then 1048576 else 1099511627776:=rfl
  first |rw[if_pos h3]at hm |rw[if_neg (no h3)]at hm
  unfold fw
  rw[if_neg (no h),hm]
 ·rw[if_pos (by rw[hb];rfl)];exact⟨rfl,rfl⟩
 ·rw[if_pos (by rw[hb];exact hc)];exact⟨rfl,rfl⟩
 ·rw[if_neg (by rw[hb];exact no hc),hd _ he];exact⟨rfl,rfl⟩
 ·rw[if_neg (by rw[hb];exact no hc),hd _ he];exact⟨rfl,rfl⟩
 ·rw[if_pos (by rw[hb];rfl)];exact⟨rfl,rfl⟩
 ·rw[if_pos (by rw[hb];exact hc)];exact⟨rfl,rfl⟩
 ·rw[if_neg (by rw[hb];exact no hc),hd _ he];exact⟨rfl,rfl⟩
 ·rw[if_neg (by rw[hb];exact no hc),hd _ he];exact⟨rfl,rfl⟩
def Ar:Ent:=(52,fun
 |[.agg [.pd (.str a),.pd (.int .i64 b),.pd (.int .i64 e),.pd (.int .i64 f),.pd (.int .i64 g),.pd (.int .i64 h),.pd (.int .i64 i)]],[]=>some (none,.x (.c (.pd (.int .i64 (fw ⟨a,b,e,f,⟨g,h,i⟩⟩)))),[])
 |_,_=>none)
theorem L0:EntOk Tryz.prog Ar:=entOk fun vs ck=>by
 unfold Ar;dsimp only;split
 ·rename_i a b e f g h i;exact entS fun hp=>Kr ⟨a,b,e,f,⟨g,h,i⟩⟩
 ·exact entN
end Go.Proofs.YtlhgnjmdopjpeaaGreatDoor

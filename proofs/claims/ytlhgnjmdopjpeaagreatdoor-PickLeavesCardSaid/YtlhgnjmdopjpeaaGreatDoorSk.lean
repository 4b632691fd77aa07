/- Contracts: tree.Kids. Conditions: sizes. Contracts: conf: small functions, what a state begins with. Conditions: sizes. Contracts: the document's places of states, names, variables. Conditions: sizes. -/
import Derived.Test.YtlhgnjmdopjpeaaGreatDoorCc
import Derived.Test.YtlhgnjmdopjpeaaGreatDoorTf
import Derived.Test.YtlhgnjmdopjpeaaGreatDoorVi
import Derived.Test.YtlhgnjmdopjpeaaGreatDoorVk
import Derived.Test.YtlhgnjmdopjpeaaGreatDoorTq
import Derived.Test.YtlhgnjmdopjpeaaGreatDoorSg
import Derived.Test.YtlhgnjmdopjpeaaGreatDoorSa
import Derived.Test.YtlhgnjmdopjpeaaGreatDoorTh
import Derived.Test.YtlhgnjmdopjpeaaGreatDoorFe
import Derived.Test.YtlhgnjmdopjpeaaGreatDoorTp
import Derived.Test.YtlhgnjmdopjpeaaGreatDoorXb
namespace Go.Proofs.YtlhgnjmdopjpeaaGreatDoor
open Go Go.Ev
set_option maxRecDepth 100000
def tN:Cfg:=⟨aX,[rV,uj]⟩
theorem p8:ah Tryz.prog tN.tab:=(ah.cons td (ah.cons A8 ah.nil))
abbrev zCg2(a:List Int):List Chunk:=[.cells [.own 3] 34,.dead,.dead,.own 3 .int a]
variable(l:List Ev.Stat)(i:Nat)
theorem No(lp:Nat)(pre:List Int)(y:Int)(Γ:Ctx)(hds:Γ.ds=[])(hlen:pre.length<100) :
 J Tryz.prog ⟨99,some lp⟩ (aB Tryz.f99) Γ (fun v ck=>(v = .x (.b true)∧True∧ck=(fun pre=>(zCg2 pre)) (pre++[y]))∨(v = .x (.b false)∧False∧ck=(fun pre=>(zCg2 pre)) (pre++[y]))) [.code ([1,1,1,0,1,0]++[1])]
  {n:=20,fr:=bJ 6 (.x (.i y)) (bJ 14 (.x (.i y)) [(4,.x (.c (.pd (.v (.slice none 0 0))))),(5,.x (.c (.loc 0 0))),(13,.x (.c (.fn (.func 216) [] [.pd (.ref .int (i:Int) 0),.pd (.ref .stats l 0)])))]),ck:=(zCg2 pre),m:=3}:=by
 show J Tryz.prog ⟨99,some lp⟩ (aB Tryz.f99) Γ _ [.code [1,1,1,0,1,0,1]] {n:=20,fr:=[(4,.x (.c (.pd (.v (.slice none 0 0))))),(5,.x (.c (.loc 0 0))),(13,.x (.c (.fn (.func 216) [] [.pd (.ref .int (i:Int) 0),.pd (.ref .stats l 0)]))),(14,.x (.i (y:Int))),(6,.x (.i (y:Int)))],ck:=(zCg2 pre),m:=3}
 refine J.goR (cfg:=tN) p8 (fn:=Rz Tryz.f99) (by kernel_rfl) 1000 (t:=(.need (room ((pre++[y]).length) 8) (.stop [] {n:=20,fr:=[(4,.p (.v (Value.slice none 0 0)))],ck:=[.cells [.own 3] 34,.dead,.dead,.own 3 .int (pre++[y])],m:=3}))) (by kernel_rfl) ?_
 refine⟨⟨by rw[au];show(_+1) * 8≤_;omega,by rw[au];show _+1≤_;unfold maxLen;omega⟩,?_⟩
 exact J.roundEnd hds (.inl ⟨rfl,trivial,rfl⟩)
theorem Ce{l:List Ev.Stat}{i:Int}(h:cr l i=true):cm l=true∧0≤i∧i<(l.length:Int):=by
 unfold cr at h
 simp only[af,decide_eq_true_eq]at h
 obtain⟨⟨a,b⟩,c⟩:=h
 exact⟨by assumption,by assumption,by assumption⟩
abbrev zCg1(a:Nat)(b:List Ev.Stat):List (Nat×SV):=[(4,.x (.c (.pd (.v (.slice none 0 0))))),(5,.x (.c (.loc 0 0))),(13,.x (.c (.fn (.func 216) [] [.pd (.ref .int (a:Int) 0),.pd (.ref .stats b 0)])))]
abbrev zCg3:List PI:=[.code [1,1,1,0,1,0],.inBlock 0,.code [1,1,1,1]]
theorem J0(hh:cr l (i:Int)=true):ag Tryz.prog 99 [.l .stat l,.i (i:Int)] [] (.x (.c (.own 0))) [.own 3 .int (bC l i)]:=by
 have h1:=Ce hh
 have S:=j8 h1.1
 have hf:=S.few
 have hl:l.length≤maxLen:=by unfold maxLen;omega
 have hi:i<l.length:=by omega
 have hkm:=qH l i
 refine dg p8 Tryz.func99 (.need (l.length≤maxLen) (.ite (!cr l (i:Int)) (.ret (.p (.v (Value.slice none 0 0))) []) (.stop zCg3 {n:=20,fr:=[(4,.p (.v (Value.slice none 0 0))),(5,.x (.c (.loc 0 0))),(13,.x (.c (.fn (.func 216) [] [.loc 2 0,.loc 1 0])))],ck:=[.cells [.pd (.v (Value.slice none 0 0))] 34,.cells [.pd (.lst .stat l)] 24,.cells [.i i] 3]}))) fun Γ=>?_
 refine⟨hl,fun h=>?_,fun _=>?_⟩
 ·rw[hh]at h;cases h
 have rest:J Tryz.prog 99 (aB Tryz.f99) Γ (Eq2 (.x (.c (.own 0))) [.own 3 .int (bC l i)]) zCg3 {n:=20,fr:=(zCg1 i l),ck:=[.cells [.own 3] 34,.dead,.dead,.own 3 .int []]}:=by
  refine J.rangeQ 3 (ok:=fun x=>0≤x∧x<(l.length:Int)) (xs:=bC l i) (g:=13) (s:=14) (d:=6) Tryz.func99 (by kernel_rfl) (by kernel_rfl) (by kernel_rfl) (by kernel_rfl) rfl (Go.Proofs.enters_of Tryz.func216 (by kernel_rfl) rfl) (by kernel_rfl) (by kernel_rfl) (by kernel_rfl) (by kernel_rfl) (xC l i hi hl)
   (fun _=>True) (fun _=>False) trivial (fun pre=>[.cells [.own 3] 34,.dead,.dead,.own 3 .int pre]) (fun pre=>[.cells [.own 3] 34,.dead,.dead,.own 3 .int pre]) rfl (fun _=>rfl) (fun _=>rfl) (fun _=>rfl) (fun _=>rfl)
   (fun lp pre x Γ hds _ _ _ hlen=>No l i lp pre x Γ hds (by omega)) (fun _ Γ'=>?_) (fun _ _ hb=>hb.elim)
  generalize bC l i=pre
  show J Tryz.prog 99 (aB Tryz.f99) Γ' _ _ {n:=20,fr:=(zCg1 i l),ck:=[.cells [.own 3] 34,.dead,.dead,.own 3 .int pre]}
  refine jg p8 Tryz.func99 (.ret (.x (.c (.own 0))) [.own 3 .int pre]) ?_
  exact⟨rfl,rfl⟩
 have rest2:J Tryz.prog 99 (aB Tryz.f99) Γ (Eq2 (.x (.c (.own 0))) [.own 3 .int (bC l i)]) zCg3 {n:=20,fr:=(zCg1 i l),ck:=[.cells [.pd (.v (.slice none 0 0))] 34,.dead,.dead]}:=J.nilCk 0 0 3 .int rfl rfl (by kernel_rfl) rest
 exact J.freeze aX [1,2] (by kernel_rfl) rest2
theorem GB(i:Int)(h:cr l i=true):ag Tryz.prog 99 [.l .stat l,.i i] [] (.x (.c (.own 0))) [.own 3 .int (bC l i.toNat)]:=by
 obtain⟨k,rfl⟩:=aF (Ce h).2.1
 rw[ai]
 exact J0 l k h
def uK:Ent:=(99,fun
 |[.c (.pd (.lst .stat l)),.c (.pd (.int .i64 i))],[]=>some (some (cr l i=true),.x (.c (.own 0)),[.own 3 .int (bC l i.toNat)])
 |_,_=>none)
theorem Iz:EntOk Tryz.prog uK:=entOk fun vs ck=>by
 unfold uK;dsimp only;split
 ·rename_i l i;exact entS fun hp=>GB l i hp
 ·exact entN
theorem EE(k:Int):ag Tryz.prog 98 [.i k] [] (.x (.b (a7 k))) []:=by
 refine dg aV Tryz.func98 (.ret (.p (.bool (k==(5:Int)||k==(6:Int)))) []) fun Γ=>?_
 exact⟨rfl,rfl⟩
def ue:Ent:=(98,fun
 |[.c (.pd (.int .i64 k))],[]=>some (none,.x (.c (.pd (.bool (a7 k)))),[])
 |_,_=>none)
theorem Ig:EntOk Tryz.prog ue:=entOk fun vs ck=>by
 unfold ue;dsimp only;split
 ·rename_i k;exact entS fun hp=>EE k
 ·exact entN
def Ho:Cfg:=⟨aX,[tY]⟩
theorem Hp:ah Tryz.prog Ho.tab:=(ah.cons Ib ah.nil)
theorem Cw(c:Chart)(h:c.vars.length≤2199023255552∧c.states.length≤2199023255552):ag Tryz.prog 55 [.e .chart c] [] (.x (.b (br c==0))) []:=by
 refine dg Hp Tryz.func55 (.need (c.vars.length≤2199023255552∧c.states.length≤2199023255552) (.ret (.p (.bool (br c==(0:Int)))) [])) fun Γ=>?_
 exact⟨h,rfl,rfl⟩
def rL:Ent:=(55,fun
 |[.agg [.pd (.str a),.pd (.lst .str b),.pd (.lst .var c),.pd (.lst .stat d),.pd (.lst .tran e)]],[]=>some (some (c.length≤2199023255552∧d.length≤2199023255552),.x (.c (.pd (.bool (br ⟨a,b,c,d,e⟩==0)))),[])
 |_,_=>none)
theorem EO:EntOk Tryz.prog rL:=entOk fun vs ck=>by
 unfold rL;dsimp only;split
 ·rename_i a b c d e;exact entS fun hp=>Cw ⟨a,b,c,d,e⟩ hp
 ·exact entN
/-! ### down -/
/-! ### a state's place -/
abbrev zSk1(a:Chart):Chunk:=.cells [.pd (.str a.name),.pd (.lst .str a.events),.pd (.lst .var a.vars),.pd (.lst .stat a.states),.pd (.lst .tran a.trans)] 27
abbrev zSk2:List PI:=[.code [1,0,1,0,0],.inLoop [1,0,1,0,0],.inBlock 0,.code [1,1]]
variable(c:Chart)(l:List Str)(s:Str)(b:Bool)(v:Var)(Γ:Ctx)
theorem MQ(hl:c.states.length≤maxLen)  : ∀(n k:Nat),c.states.length - k≤n→k≤c.states.length →
 J Tryz.prog 31 (aB Tryz.f31) Γ (Eq2 (.x (.i (ax (fun v:Ev.Stat=>v.name==s) (c.states.drop k) k))) []) zSk2 ({n:=22,fr:=[(1,.p (.str s)),(2,.x (.c (.loc 0 0))),(4,.i 0),(5,.i k)],ck:=[zSk1 c]}):=by
 intro n
 induction n with
 |zero=>?_
 |succ n ih=>?_
 all_goals
  intro k hn hk
  refine jg aV Tryz.func31 (.ite (decide ((k:Int)<(c.states.length:Int))) (.need (inRg k c.states.length) (.ite (Stat.name (ETy.get .stat c.states k)==s) (.ret (.i k) []) (.stop zSk2 {n:=22,fr:=[(1,.p (.str s)),(2,.x (.c (.loc 0 0))),(4,.i 0),(5,.i (IntKind.wrap .i64 ((k:Int)+1)))],ck:=[zSk1 c]}))) (.ret (.i (-1:Int)) [])) ?_
  refine⟨fun hlt=>?_,fun hge=>?_⟩
  · have hk':k<c.states.length:=by have:=of_decide_eq_true hlt;omega
    rw[bK (t:=.stat) (l:=c.states) hk']
    refine⟨by omega,?_⟩
    generalize ETy.get .stat c.states k=v
    refine⟨fun hb=>⟨?_,rfl⟩,fun hb=>?_⟩
    · have hb':(v.name==s)=true:=hb
      simp only[ax,hb',cond_true]
    · have hb':(v.name==s)=false:=hb
      simp only[ax,hb',cond_false];(rw[ba (aK hk' hl)];first |(exfalso;omega) |exact ih (k+1) (by omega) (by omega))
  · rw[bZ (l:=c.states) (by have:=of_decide_eq_false hge;omega)]
    exact⟨rfl,rfl⟩
theorem C3(h:c.states.length≤maxLen):ag Tryz.prog 31 [.e .chart c,.s s] [] (.x (.i (aG c.states s))) []:=by
 refine dg aV Tryz.func31 (.stop zSk2 {n:=22,fr:=[(1,.p (.str s)),(2,.x (.c (.loc 0 0))),(4,.i 0),(5,.i 0)],ck:=[zSk1 c]}) fun Γ=>?_
 exact MQ c s Γ h c.states.length 0 (by omega) (by omega)
def mw:Ent:=(31,fun
 |[.agg [.pd (.str a),.pd (.lst .str b),.pd (.lst .var c),.pd (.lst .stat d),.pd (.lst .tran e)],.c (.pd (.str n))],[]=>some (some (d.length≤maxLen),.x (.c (.pd (.int .i64 (aG d n)))),[])
 |_,_=>none)
theorem pj:EntOk Tryz.prog mw:=entOk fun vs ck=>by
 unfold mw;dsimp only;split
 ·rename_i a b c d e n;exact entS fun hp=>C3 ⟨a,b,c,d,e⟩ n hp
 ·exact entN
/-! ### names -/
def dG(l:List Ev.Stat):List Str:=(l.filter fun s:Ev.Stat=>b || !a7 s.kind).map fun s:Ev.Stat=>s.name
theorem jL(l:List Ev.Stat):dG true l=l.map fun s:Ev.Stat=>s.name:=by
 have h:(l.filter fun s:Ev.Stat=>true || !a7 s.kind)=l:=dH.2 fun _ _=>rfl
 unfold dG
 rw[h]
theorem BU(l:List Ev.Stat):dG false l=dM l:=rfl
theorem C2{b:Bool}{l:List Ev.Stat}{k:Nat}(hk:k<l.length):dG b (l.take (k+1))=if(b || !a7 (ETy.get .stat l k).kind)=true then dG b (l.take k)++[(ETy.get .stat l k).name]else dG b (l.take k):=by
 rw[show ETy.get .stat l k=l[k]from ETy.get_eq (t:=.stat) (List.getElem?_eq_getElem hk)]
 unfold dG
 rw[aN hk,ct,bF]
 cases hp:(b || !a7 l[k].kind) <;> simp[hp]
theorem JE(l:List Ev.Stat)(k:Nat):(dG b (l.take k)).length≤l.length:=by
 unfold dG
 rw[aQ]
 exact aC (bb _ _) (by rw[bj];omega)
def AP:Cfg:=⟨aX,[lH]⟩
theorem xe:ah Tryz.prog AP.tab:=(ah.cons lI ah.nil)
abbrev zSk4:List PI:=[.code [1,1,0,1,0,0],.inLoop [1,1,0,1,0,0],.inBlock 0,.code [1,1,1]]
theorem MN(hl:c.states.length≤1466015503701)(Γ:Ctx):∀(n k:Nat),c.states.length - k≤n→k≤c.states.length →
 J Tryz.prog 48 (aB Tryz.f48) Γ (Eq2 (.x (.c (.own 0))) [.own 9 .str (dG b c.states)]) zSk4 ({n:=35,fr:=[(1,.p (.bool b)),(2,.x (.c (.loc 0 0))),(4,.p (.v (Value.slice none 0 0))),(5,.x (.c (.own 1))),(6,.i ((k:Int)))],ck:=[zSk1 c,.own 9 .str (dG b (c.states.take k))]}):=by
 have hm:c.states.length≤maxLen:=aC hl (by decide)
 intro n
 induction n with
 |zero=>?_
 |succ n ih=>?_
 all_goals
  intro k hn hk
  generalize hout:dG b (c.states.take k)=out
  refine jg xe Tryz.func48 (let x1:List (Nat×SV):=[(1,.p (.bool b)),(2,.x (.c (.loc 0 0))),(4,.p (.v (Value.slice none 0 0))),(5,.x (.c (.own 1))),(6,.i (IntKind.wrap .i64 ((k:Int)+1)))];let x2:List PI:=zSk4;let x3:=(ETy.get .stat c.states k);.ite (decide ((k:Int)<(c.states.length:Int))) (.need (b=false→(0:Int)≤(k:Int)∧(k:Int)<(c.states.length:Int)) (.ite (b || !a7 (Stat.kind x3)) (.need (inRg k c.states.length) (.need (room ((out++[Stat.name x3]).length) 16) (.stop x2 {n:=35,fr:=x1,ck:=[zSk1 c,.own 9 .str (out++[Stat.name x3])]}))) (.stop x2 {n:=35,fr:=x1,ck:=[zSk1 c,.own 9 .str out]}))) (.ret (.x (.c (.own 0))) [.own 9 .str out])) ?_
  conv=>zeta
  refine⟨fun hlt=>?_,fun hge=>?_⟩
  · have hk':k<c.states.length:=by have:=of_decide_eq_true hlt;omega
    have hs:=C2 (b:=b) hk'
    have hle:=JE b c.states (k+1)
    rw[hout]at hs
    refine⟨fun _=>⟨by omega,by omega⟩,fun h=>?_,fun h=>?_⟩
    · rw[if_pos h]at hs
      rw[hs]at hle
      refine⟨⟨by omega,by omega⟩,⟨by omega,by unfold maxLen;omega⟩,?_⟩
      rw[ba (aK hk' hm),←hs]
      first
      |(exfalso;omega)
      |exact ih (k+1) (by omega) (by omega)
    · rw[if_neg (by rw[h];decide)]at hs
      rw[ba (aK hk' hm),←hs]
      first
      |(exfalso;omega)
      |exact ih (k+1) (by omega) (by omega)
  · have hke:k=c.states.length:=by have:=of_decide_eq_false hge;omega
    subst hke
    rw[←hout,aZ (ar _)];exact⟨rfl,rfl⟩
theorem C1(hl:c.states.length≤1466015503701):ag Tryz.prog 48 [.e .chart c,.b b] [] (.x (.c (.own 0))) [.own 9 .str (dG b c.states)]:=by
 refine dg xe Tryz.func48 (.stop zSk4 {n:=35,fr:=[(1,.p (.bool b)),(2,.x (.c (.loc 0 0))),(4,.p (.v (Value.slice none 0 0))),(5,.p (.v (Value.slice none 0 0))),(6,.i 0)],ck:=[zSk1 c]}) fun Γ=>?_
 refine J.nilOwn 5 9 .str rfl (by kernel_rfl) ?_
 exact MN c b hl Γ c.states.length 0 (by omega) (by omega)
def oA:Ent:=(48,fun
 |[.agg [.pd (.str a),.pd (.lst .str b),.pd (.lst .var c),.pd (.lst .stat d),.pd (.lst .tran e)],.c (.pd (.bool q))],[]=>some (some (d.length≤1466015503701),.x (.c (.own 0)),[.own 9 .str (dG q d)])
 |_,_=>none)
theorem uC:EntOk Tryz.prog oA:=entOk fun vs ck=>by
 unfold oA;dsimp only;split
 ·rename_i a b c d e q;exact entS fun hp=>C1 ⟨a,b,c,d,e⟩ q hp
 ·exact entN
/-! ### twice -/
theorem Kq{l:List Str}{p:Str→Bool}{k:Nat}(hk:k<l.length):(l.take (k+1)).any p=((l.take k).any p||p (ETy.get .str l k)):=by
 rw[show ETy.get .str l k=l[k]from ETy.get_eq (t:=.str) (List.getElem?_eq_getElem hk),aN hk,fD];simp
abbrev zSk3:List PI:=[.code [1,0,1,0,0,1,0,0,1,0,0],.inLoop [1,0,1,0,0,1,0,0,1,0,0],.inBlock 2,.inBlock 1,.code [1,0,1,0,0,1,1],.inLoop [1,0,1,0,0],.inBlock 0,.code [1,1]]
theorem JI(i:Nat)(hi:i<l.length)(hl:l.length≤maxLen)(Γ:Ctx)(res:Bool)(h1:tw1 l i=true→res=true)
 (h0:tw1 l i=false→J Tryz.prog 49 (aB Tryz.f49) Γ (Eq2 (.x (.b res)) []) zSk2 ({n:=25,fr:=[(0,.p (.lst .str l)),(2,.p (.bool false)),(3,.i ((IntKind.wrap .i64 ((i:Int)+1))))],ck:=[],kn:=[2]})):∀(n k:Nat),i - k≤n→k≤i→((l.take k).any fun y=>ETy.get .str l i==y)=false →
 J Tryz.prog 49 (aB Tryz.f49) Γ (Eq2 (.x (.b res)) []) zSk3 ({n:=25,fr:=[(0,.p (.lst .str l)),(2,.p (.bool false)),(3,.i i),(4,.i ((k:Int)))],ck:=[],kn:=[2]}):=by
 intro n
 induction n with
 |zero=>?_
 |succ n ih=>?_
 all_goals
  intro k hn hk hz
  refine jg aV Tryz.func49 (.ite (decide ((k:Int)<(i:Int))) (.need (inRg i l.length) (.need (inRg k l.length) (.ite (ETy.get .str l i==ETy.get .str l k) (.ret (.p (.bool true)) []) (.stop zSk3 {n:=25,fr:=[(0,.p (.lst .str l)),(2,.p (.bool false)),(3,.i i),(4,.i (IntKind.wrap .i64 ((k:Int)+1)))],ck:=[]})))) (.stop zSk2 {n:=25,fr:=[(0,.p (.lst .str l)),(2,.p (.bool false)),(3,.i (IntKind.wrap .i64 ((i:Int)+1)))],ck:=[],kn:=[2]})) ?_
  refine⟨fun hlt=>?_,fun hge=>?_⟩
  · have hk':k<i:=by have:=of_decide_eq_true hlt;omega
    have ht:=Kq (l:=l) (p:=fun y=>ETy.get .str l i==y) (k:=k) (by omega)
    rw[hz,bk]at ht
    refine⟨⟨by omega,by omega⟩,⟨by omega,by omega⟩,fun hb=>?_,fun hb=>?_⟩
    · have hb':(ETy.get .str l i==ETy.get .str l k)=true:=hb
      rw[h1 ?_];exact⟨rfl,rfl⟩
      unfold tw1
      rw[bp]
      refine⟨ETy.get .str l k,?_,hb'⟩
      rw[show ETy.get .str l k=l[k]from ETy.get_eq (t:=.str) (List.getElem?_eq_getElem (by omega)),ft]
      exact⟨k,by omega,rfl⟩
    · have hb':(ETy.get .str l i==ETy.get .str l k)=false:=hb
      rw[ba (aK (show k<l.length by omega) hl)]
      first
      |(exfalso;omega)
      |exact J.kn [2] (ih (k+1) (by omega) (by omega) (by rw[ht];exact hb'))
  · have hke:k=i:=by have:=of_decide_eq_false hge;omega
    subst hke
    exact h0 hz
theorem M1 (hl:l.length≤maxLen) (Γ:Ctx):∀(n k:Nat),l.length - k=n→k≤l.length →
 J Tryz.prog 49 (aB Tryz.f49) Γ (Eq2 (.x (.b (rz l n k))) []) zSk2 ({n:=25,fr:=[(0,.p (.lst .str l)),(2,.p (.bool false)),(3,.i ((k:Int)))],ck:=[],kn:=[2]}):=by
 intro n
 induction n with
 |zero=>?_
 |succ n ih=>?_
 all_goals
  intro k hn hk
  refine jg aV Tryz.func49 (.ite (decide ((k:Int)<(l.length:Int))) (.stop zSk3 {n:=25,fr:=[(0,.p (.lst .str l)),(2,.p (.bool false)),(3,.i k),(4,.i 0)],ck:=[],kn:=[2]}) (.ret (.p (.bool false)) [])) ?_
  refine⟨fun hlt=>?_,fun hge=>?_⟩
  · have hk':k<l.length:=by have:=of_decide_eq_true hlt;omega
    first
    |(exfalso;omega)
    | refine JI l k hk' hl Γ _ (fun h=>?_) (fun h=>?_) k 0 (by omega) (by omega) rfl
      ·rw[rz,h,cv]
      · rw[rz,h,bk,ba (aK hk' hl)]
        exact ih (k+1) (by omega) (by omega)
  · first
    |exact⟨rfl,rfl⟩
    |(have:=of_decide_eq_false hge;exfalso;omega)
theorem C7:ag Tryz.prog 49 [.l .str l] [] (.x (.b (eG l))) []:=by
 refine dg aV Tryz.func49 (.stop zSk2 {n:=25,fr:=[(0,.p (.lst .str l)),(2,.p (.bool false)),(3,.i 0)],ck:=[],kn:=[2]}) fun Γ=>?_
 exact J.len 0 rfl fun hl=>M1 l hl Γ l.length 0 (by omega) (by omega)
def rR:Ent:=(49,fun
 |[.c (.pd (.lst .str l))],[]=>some (none,.x (.c (.pd (.bool (eG l)))),[])
 |_,_=>none)
theorem Fk:EntOk Tryz.prog rR:=entOk fun vs ck=>by
 unfold rR;dsimp only;split
 ·rename_i l;exact entS fun hp=>C7 l
 ·exact entN
/-! ### spelled -/
def AQ:Cfg:=⟨aX,[qk]⟩
theorem xf:ah Tryz.prog AQ.tab:=(ah.cons oB ah.nil)
theorem MV(hl:l.length≤maxLen)  : ∀(n k:Nat),l.length - k≤n→k≤l.length →
 J Tryz.prog 47 (aB Tryz.f47) Γ (Eq2 (.x (.b ((l.drop k).all a8))) []) zSk2 ({n:=16,fr:=[(0,.p (.lst .str l)),(2,.p (.bool false)),(3,.i k)],ck:=[],kn:=[2]}):=by
 intro n
 induction n with
 |zero=>?_
 |succ n ih=>?_
 all_goals
  intro k hn hk
  refine jg xf Tryz.func47 (.ite (decide ((k:Int)<(l.length:Int))) (.need (inRg k l.length) (.ite (!a8 (ETy.get .str l k)) (.ret (.p (.bool false)) []) (.stop zSk2 {n:=16,fr:=[(0,.p (.lst .str l)),(2,.p (.bool false)),(3,.i (IntKind.wrap .i64 ((k:Int)+1)))],ck:=[],kn:=[2]}))) (.ret (.p (.bool true)) [])) ?_
  refine⟨fun hlt=>?_,fun hge=>?_⟩
  · have hk':k<l.length:=by have:=of_decide_eq_true hlt;omega
    rw[bK (t:=.str) (l:=l) hk']
    refine⟨by omega,?_⟩
    generalize ETy.get .str l k=v
    rw[eD]
    refine⟨fun hb=>⟨?_,rfl⟩,fun hb=>?_⟩
    · have hb':a8 v=false:=nt hb
      rw[hb'];rfl
    · have hb':a8 v=true:=nf hb
      rw[hb',a6];(rw[ba (aK hk' hl)];first |(exfalso;omega) |exact ih (k+1) (by omega) (by omega) |exact J.kn [2] (ih (k+1) (by omega) (by omega)))
  · rw[bZ (l:=l) (by have:=of_decide_eq_false hge;omega)]
    exact⟨rfl,rfl⟩
theorem MW:ag Tryz.prog 47 [.l .str (l)] [] (.x (.b (l.all a8))) []:=by
 refine dg xf Tryz.func47 (.stop zSk2 {n:=16,fr:=[(0,.p (.lst .str l)),(2,.p (.bool false)),(3,.i 0)],ck:=[],kn:=[2]}) fun Γ=>?_
 exact J.len 0 rfl fun hl=>MV l Γ hl l.length 0 (by omega) (by omega)
def ny:Ent:=(47,fun
 |[.c (.pd (.lst .str l))],[]=>some (none,.x (.c (.pd (.bool (l.all a8)))),[])
 |_,_=>none)
theorem Bj:EntOk Tryz.prog ny:=entOk fun vs ck=>by
 unfold ny;dsimp only;split
 ·rename_i l;exact entS fun hp=>MW l
 ·exact entN
/-! ### a variable -/
theorem Gl(x:Val):ag Tryz.prog 92 [.e .var v,.e .val x] [] (.x (.b (jO v x))) []:=by
 refine dg aV Tryz.func92 (.ite (v.kind != x.kind||decide (x.a<v.lo)||decide (x.a>v.hi)) (.ret (.p (.bool false)) []) (.ret (.p (.bool (x.kind != (3:Int)||decide (x.b≥v.lo)&&decide (x.b≤v.hi)))) [])) fun Γ=>?_
 have e:∀b:Bool,b=jO v x→Eq2 (.x (.b (jO v x))) [] (SV.x (SX.c (SC.pd (PD.bool b)))) []:=fun b h=>by rw[h];exact⟨rfl,rfl⟩
 refine⟨fun h=>e _ ?_,fun h=>e _ ?_⟩
 · unfold jO
   simp only[aM,bne_iff_ne,decide_eq_true_eq]at h
   symm
   cases hb:(v.kind==x.kind&&(decide (x.a≥v.lo)&&decide (x.a≤v.hi)&&(x.kind != 3||(decide (x.b≥v.lo)&&decide (x.b≤v.hi)))))
   ·rfl
   · simp only[af,beq_iff_eq,decide_eq_true_eq]at hb
     omega
 · unfold jO
   simp only[an,bne_eq_false_iff_eq,decide_eq_false_iff_not]at h
   rw[show(v.kind==x.kind)=true by simpa using h.1.1,show decide (x.a≥v.lo)=true by simpa using h.1.2,show decide (x.a≤v.hi)=true by simpa using h.2]
   rfl
def uy:Ent:=(92,fun
 |[.agg [.pd (.str n),.pd (.int .i64 k),.pd (.int .i64 lo),.pd (.int .i64 hi),.pd (.int .i64 ik),.pd (.int .i64 ia),.pd (.int .i64 ib)],.agg [.pd (.int .i64 xk),.pd (.int .i64 xa),.pd (.int .i64 xb)]],[]=>some (none,.x (.c (.pd (.bool (jO ⟨n,k,lo,hi,⟨ik,ia,ib⟩⟩ ⟨xk,xa,xb⟩)))),[])
 |_,_=>none)
theorem Ir:EntOk Tryz.prog uy:=entOk fun vs ck=>by
 unfold uy;dsimp only;split
 ·rename_i n k lo hi ik ia ib xk xa xb;exact entS fun hp=>Gl ⟨n,k,lo,hi,⟨ik,ia,ib⟩⟩ ⟨xk,xa,xb⟩
 ·exact entN
theorem RT(k:Int):(decide (k<1)||decide (k>3))=(k != 1&&k != 2&&k != 3):=by
 rw[aW]
 simp only[aM,af,decide_eq_true_eq,bne_iff_ne]
 omega
theorem Rm(h:v.init.kind=v.kind):(vR v.init&&decide (wc v≥v.lo)&&decide (r6 v≤v.hi))=(vR v.init&&jO v v.init):=by
 rw[Bool.and_assoc]
 congr 1
 unfold jO wc r6
 rw[h,beq_self_eq_true,a6]
 generalize v.init.a=a
 generalize v.init.b=b
 by_cases h3:v.kind=3
 · have e3:(v.kind==3)=true:=by rw[h3];rfl
   have e4:(v.kind != 3)=false:=by rw[h3];rfl
   rw[if_pos e3,if_pos e3,e4,bk,aW]
   simp only[af,decide_eq_true_eq]
   split <;> split <;> omega
 · have e3:¬(v.kind==3)=true:=by simpa using h3
   have e4:(v.kind != 3)=true:=by simpa using h3
   rw[if_neg e3,if_neg e3,e4,cv,dA]
def HO:Cfg:=⟨aX,[nw,uy]⟩
theorem HP:ah Tryz.prog HO.tab:=(ah.cons Bg (ah.cons Ir ah.nil))
theorem JK:ag Tryz.prog 52 [.e .var v] [] (.x (.i (fm v))) []:=by
 refine dg HP Tryz.func52 (let x1:Tree:=(.ite (v.kind==(2:Int)&&(v.lo != (0:Int)||v.hi != (1:Int))) (.ret (.i 5) []) (.ite (!vR v.init || !jO v v.init) (.ret (.i 5) []) (.ret (.i 0) [])));.ite (v.kind != (1:Int)&&v.kind != (2:Int)&&v.kind != (3:Int)||v.init.kind != v.kind) (.ret (.i 8) []) (.ite (v.kind==(3:Int)) (.ite (decide (v.lo>v.hi)||decide (v.lo<IntKind.wrap .i64 ((0:Int) - 1048576))||decide (v.hi>(1048576:Int))) (.ret (.i 5) []) x1) (.ite (decide (v.lo>v.hi)||decide (v.lo<IntKind.wrap .i64 ((0:Int) - 1099511627776))||decide (v.hi>(1099511627776:Int))) (.ret (.i 5) []) x1))) fun Γ=>?_
 conv=>zeta
 have w1:IntKind.wrap .i64 (0 - 1048576) = -1048576:=by decide
 have w2:IntKind.wrap .i64 (0 - 1099511627776) = -1099511627776:=by decide
 rw[w1,w2,←RT]
 have no:∀{b:Bool},b=false→¬b=true:=fun h e=>by rw[h]at e;cases e
 refine⟨fun h=>?_,fun h=>?_⟩
 ·unfold fm;rw[if_pos h];exact⟨rfl,rfl⟩
 have hk:v.init.kind=v.kind:=by
  rw[an]at h
  simpa using h.2
 have hf:=Rm v hk
 have hd:∀b:Bool,(!vR v.init || !jO v v.init)=b→b9 (vR v.init&&decide (wc v≥v.lo)&&decide (r6 v≤v.hi)) 5=if b=true then 5 else 0:=by
  intro b hb
  rw[hf,←hb]
  unfold b9
  cases vR v.init <;> cases jO v v.init <;> rfl
 refine⟨fun h3=>⟨fun hb=>?_,fun hb=>⟨fun hc=>?_,fun hc=>⟨fun he=>?_,fun he=>?_⟩⟩⟩,fun h3=>⟨fun hb=>?_,fun hb=>⟨fun hc=>?_,fun hc=>⟨fun he=>?_,fun he=>?_⟩⟩⟩⟩
 all_goals
  have hm:pw v=if(v.kind==3)=true then 1048576 else 1099511627776:=rfl
  first |rw[if_pos h3]at hm |rw[if_neg (no h3)]at hm
  unfold fm
  rw[if_neg (no h),hm]
 ·rw[if_pos (by rw[hb];rfl)];exact⟨rfl,rfl⟩
 ·rw[if_pos (by rw[hb];exact hc)];exact⟨rfl,rfl⟩
 ·rw[if_neg (by rw[hb];exact no hc),hd _ he];exact⟨rfl,rfl⟩
 ·rw[if_neg (by rw[hb];exact no hc),hd _ he];exact⟨rfl,rfl⟩
 ·rw[if_pos (by rw[hb];rfl)];exact⟨rfl,rfl⟩
 ·rw[if_pos (by rw[hb];exact hc)];exact⟨rfl,rfl⟩
 ·rw[if_neg (by rw[hb];exact no hc),hd _ he];exact⟨rfl,rfl⟩
 ·rw[if_neg (by rw[hb];exact no hc),hd _ he];exact⟨rfl,rfl⟩
def yQ:Ent:=(52,fun
 |[.agg [.pd (.str a),.pd (.int .i64 b),.pd (.int .i64 e),.pd (.int .i64 f),.pd (.int .i64 g),.pd (.int .i64 h),.pd (.int .i64 i)]],[]=>some (none,.x (.c (.pd (.int .i64 (fm ⟨a,b,e,f,⟨g,h,i⟩⟩)))),[])
 |_,_=>none)
theorem Ll:EntOk Tryz.prog yQ:=entOk fun vs ck=>by
 unfold yQ;dsimp only;split
 ·rename_i a b e f g h i;exact entS fun hp=>JK ⟨a,b,e,f,⟨g,h,i⟩⟩
 ·exact entN
end Go.Proofs.YtlhgnjmdopjpeaaGreatDoor

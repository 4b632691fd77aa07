/- Contracts: the document's places of states, names, variables. Conditions: sizes. -/
import Derived.Test.YtcopfgbbjdefbaaGreatDoorSa
import Derived.Test.YtcopfgbbjdefbaaGreatDoorTh
import Derived.Test.YtcopfgbbjdefbaaGreatDoorFf
import Derived.Test.YtcopfgbbjdefbaaGreatDoorFd
import Derived.Test.YtcopfgbbjdefbaaGreatDoorTm
import Derived.Test.YtcopfgbbjdefbaaGreatDoorSg
import Derived.Test.YtcopfgbbjdefbaaGreatDoorTq
import Derived.Test.YtcopfgbbjdefbaaGreatDoorJz
import Derived.Test.YtcopfgbbjdefbaaGreatDoorVk
namespace Go.Proofs.YtcopfgbbjdefbaaGreatDoor
open Go Go.Ev
set_option maxRecDepth 100000
/-! ### a state's place -/
abbrev zSk1 (a:Chart):Chunk:=.cells [.pd (.str a.name),.pd (.lst .str a.events),.pd (.lst .var a.vars),.pd (.lst .stat a.states),.pd (.lst .tran a.trans)] 27
abbrev zSk2:List PI:=[.code [1,0,1,0,0],.inLoop [1,0,1,0,0],.inBlock 0,.code [1,1]]
variable (c:Chart) (l:List Str) (s:Str) (b:Bool) (v:Var) (Γ:Ctx)
theorem E8 (hl:c.states.length≤maxLen)  : ∀ (n k:Nat),c.states.length - k≤n→k≤c.states.length →
 J Tryz.prog 110 (aw Tryz.f110) Γ (Eq2 (.x (.i (aJ (fun v:Ev.Stat=>v.name==s) (c.states.drop k) k))) []) zSk2 ({ n:=22,fr:=[(1,.p (.str s)),(2,.x (.c (.loc 0 0))),(4,.i 0),(5,.i k)],ck:=[zSk1 c] }):=by
 intro n
 induction n with
 | zero=>?_
 | succ n ih=>?_
 all_goals
  intro k hn hk
  refine jg aT Tryz.func110 (.ite (decide ((k:Int)<(c.states.length:Int))) (.need (inRg k c.states.length) (.ite (Stat.name (ETy.get .stat c.states k)==s) (.ret (.i k) []) (.stop zSk2 { n:=22,fr:=[(1,.p (.str s)),(2,.x (.c (.loc 0 0))),(4,.i 0),(5,.i (IntKind.wrap .i64 ((k:Int)+1)))],ck:=[zSk1 c] }))) (.ret (.i (-1:Int)) [])) ?_
  refine ⟨fun hlt=>?_,fun hge=>?_⟩
  · have hk':k<c.states.length:=by have:=of_decide_eq_true hlt; omega
    rw [bL (t:=.stat) (l:=c.states) hk']
    refine ⟨by omega,?_⟩
    generalize ETy.get .stat c.states k=v
    refine ⟨fun hb=>⟨?_,rfl⟩,fun hb=>?_⟩
    · have hb':(v.name==s)=true:=hb
      simp only [aJ,hb',cond_true]
    · have hb':(v.name==s)=false:=hb
      simp only [aJ,hb',cond_false]; (rw [aZ (aE hk' hl)]; first | (exfalso; omega) | exact ih (k+1) (by omega) (by omega))
  · rw [bY (l:=c.states) (by have:=of_decide_eq_false hge; omega)]
    exact ⟨rfl,rfl⟩
theorem wA (h:c.states.length≤maxLen):ag Tryz.prog 110 [.e .chart c,.s s] [] (.x (.i (aK c.states s))) []:=by
 refine dg aT Tryz.func110 (.stop zSk2 { n:=22,fr:=[(1,.p (.str s)),(2,.x (.c (.loc 0 0))),(4,.i 0),(5,.i 0)],ck:=[zSk1 c] }) fun Γ=>?_
 exact E8 c s Γ h c.states.length 0 (by omega) (by omega)
def lq:Ent:=(110,fun
 | [.agg [.pd (.str a),.pd (.lst .str b),.pd (.lst .var c),.pd (.lst .stat d),.pd (.lst .tran e)],.c (.pd (.str n))],[]=>some (some (d.length≤maxLen),.x (.c (.pd (.int .i64 (aK d n)))),[])
 | _,_=>none)
theorem qC:EntOk Tryz.prog lq:=entOk fun vs ck=>by
 unfold lq; dsimp only; split
 · rename_i a b c d e n; exact entS fun hp=>wA ⟨a,b,c,d,e⟩ n hp
 · exact entN
/-! ### names -/
def cN (l:List Ev.Stat):List Str:=(l.filter fun s:Ev.Stat=>b || !aY s.kind).map fun s:Ev.Stat=>s.name
theorem gE (l:List Ev.Stat):cN true l=l.map fun s:Ev.Stat=>s.name:=by
 have h:(l.filter fun s:Ev.Stat=>true || !aY s.kind)=l:=dQ.2 fun _ _=>rfl
 unfold cN
 rw [h]
theorem vu (l:List Ev.Stat):cN false l=cT l:=rfl
theorem wN {b:Bool} {l:List Ev.Stat} {k:Nat} (hk:k<l.length):cN b (l.take (k+1))=if (b || !aY (ETy.get .stat l k).kind)=true then cN b (l.take k)++[(ETy.get .stat l k).name] else cN b (l.take k):=by
 rw [show ETy.get .stat l k=l[k] from ETy.get_eq (t:=.stat) (List.getElem?_eq_getElem hk)]
 unfold cN
 rw [aR hk,bU,bR]
 cases hp:(b || !aY l[k].kind) <;> simp [hp]
theorem B8 (l:List Ev.Stat) (k:Nat):(cN b (l.take k)).length≤l.length:=by
 unfold cN
 rw [aL]
 exact au (bn _ _) (by rw [a7]; omega)
def vE:Cfg:=⟨bk,[jo]⟩
theorem sh:ah Tryz.prog vE.tab:=(ah.cons ji ah.nil)
abbrev zSk4:List PI:=[.code [1,1,0,1,0,0],.inLoop [1,1,0,1,0,0],.inBlock 0,.code [1,1,1]]
theorem EW (hl:c.states.length≤1466015503701) (Γ:Ctx):∀ (n k:Nat),c.states.length - k≤n→k≤c.states.length →
 J Tryz.prog 54 (aw Tryz.f54) Γ (Eq2 (.x (.c (.own 0))) [.own 9 .str (cN b c.states)]) zSk4 ({ n:=35,fr:=[(1,.p (.bool b)),(2,.x (.c (.loc 0 0))),(4,.p (.v (Value.slice none 0 0))),(5,.x (.c (.own 1))),(6,.i ((k:Int)))],ck:=[zSk1 c,.own 9 .str (cN b (c.states.take k))] }):=by
 have hm:c.states.length≤maxLen:=au hl (by decide)
 intro n
 induction n with
 | zero=>?_
 | succ n ih=>?_
 all_goals
  intro k hn hk
  generalize hout:cN b (c.states.take k)=out
  refine jg sh Tryz.func54 (let x1:List (Nat×SV):=[(1,.p (.bool b)),(2,.x (.c (.loc 0 0))),(4,.p (.v (Value.slice none 0 0))),(5,.x (.c (.own 1))),(6,.i (IntKind.wrap .i64 ((k:Int)+1)))]; let x2:List PI:=zSk4; let x3:=(ETy.get .stat c.states k); .ite (decide ((k:Int)<(c.states.length:Int))) (.need (b=false→(0:Int)≤(k:Int)∧(k:Int)<(c.states.length:Int)) (.ite (b || !aY (Stat.kind x3)) (.need (inRg k c.states.length) (.need (room ((out++[Stat.name x3]).length) 16) (.stop x2 { n:=35,fr:=x1,ck:=[zSk1 c,.own 9 .str (out++[Stat.name x3])] }))) (.stop x2 { n:=35,fr:=x1,ck:=[zSk1 c,.own 9 .str out] }))) (.ret (.x (.c (.own 0))) [.own 9 .str out])) ?_
  conv=>zeta
  refine ⟨fun hlt=>?_,fun hge=>?_⟩
  · have hk':k<c.states.length:=by have:=of_decide_eq_true hlt; omega
    have hs:=wN (b:=b) hk'
    have hle:=B8 b c.states (k+1)
    rw [hout] at hs
    refine ⟨fun _=>⟨by omega,by omega⟩,fun h=>?_,fun h=>?_⟩
    · rw [if_pos h] at hs
      rw [hs] at hle
      refine ⟨⟨by omega,by omega⟩,⟨by omega,by unfold maxLen; omega⟩,?_⟩
      rw [aZ (aE hk' hm),← hs]
      first
      | (exfalso; omega)
      | exact ih (k+1) (by omega) (by omega)
    · rw [if_neg (by rw [h]; decide)] at hs
      rw [aZ (aE hk' hm),← hs]
      first
      | (exfalso; omega)
      | exact ih (k+1) (by omega) (by omega)
  · have hke:k=c.states.length:=by have:=of_decide_eq_false hge; omega
    subst hke
    rw [← hout,aW (ar _)]; exact ⟨rfl,rfl⟩
theorem wM (hl:c.states.length≤1466015503701):ag Tryz.prog 54 [.e .chart c,.b b] [] (.x (.c (.own 0))) [.own 9 .str (cN b c.states)]:=by
 refine dg sh Tryz.func54 (.stop zSk4 { n:=35,fr:=[(1,.p (.bool b)),(2,.x (.c (.loc 0 0))),(4,.p (.v (Value.slice none 0 0))),(5,.p (.v (Value.slice none 0 0))),(6,.i 0)],ck:=[zSk1 c] }) fun Γ=>?_
 refine J.nilOwn 5 9 .str rfl (by kernel_rfl) ?_
 exact EW c b hl Γ c.states.length 0 (by omega) (by omega)
def lh:Ent:=(54,fun
 | [.agg [.pd (.str a),.pd (.lst .str b),.pd (.lst .var c),.pd (.lst .stat d),.pd (.lst .tran e)],.c (.pd (.bool q))],[]=>some (some (d.length≤1466015503701),.x (.c (.own 0)),[.own 9 .str (cN q d)])
 | _,_=>none)
theorem qt:EntOk Tryz.prog lh:=entOk fun vs ck=>by
 unfold lh; dsimp only; split
 · rename_i a b c d e q; exact entS fun hp=>wM ⟨a,b,c,d,e⟩ q hp
 · exact entN
/-! ### twice -/
theorem E5 {l:List Str} {p:Str→Bool} {k:Nat} (hk:k<l.length):(l.take (k+1)).any p=((l.take k).any p||p (ETy.get .str l k)):=by
 rw [show ETy.get .str l k=l[k] from ETy.get_eq (t:=.str) (List.getElem?_eq_getElem hk),aR hk,dX]; simp
abbrev zSk3:List PI:=[.code [1,0,1,0,0,1,0,0,1,0,0],.inLoop [1,0,1,0,0,1,0,0,1,0,0],.inBlock 2,.inBlock 1,.code [1,0,1,0,0,1,1],.inLoop [1,0,1,0,0],.inBlock 0,.code [1,1]]
theorem C6 (i:Nat) (hi:i<l.length) (hl:l.length≤maxLen) (Γ:Ctx) (res:Bool) (h1:tw1 l i=true→res=true)
 (h0:tw1 l i=false→J Tryz.prog 55 (aw Tryz.f55) Γ (Eq2 (.x (.b res)) []) zSk2 ({ n:=25,fr:=[(0,.p (.lst .str l)),(2,.p (.bool false)),(3,.i ((IntKind.wrap .i64 ((i:Int)+1))))],ck:=[],kn:=[2] })):∀ (n k:Nat),i - k≤n→k≤i→((l.take k).any fun y=>ETy.get .str l i==y)=false →
 J Tryz.prog 55 (aw Tryz.f55) Γ (Eq2 (.x (.b res)) []) zSk3 ({ n:=25,fr:=[(0,.p (.lst .str l)),(2,.p (.bool false)),(3,.i i),(4,.i ((k:Int)))],ck:=[],kn:=[2] }):=by
 intro n
 induction n with
 | zero=>?_
 | succ n ih=>?_
 all_goals
  intro k hn hk hz
  refine jg aT Tryz.func55 (.ite (decide ((k:Int)<(i:Int))) (.need (inRg i l.length) (.need (inRg k l.length) (.ite (ETy.get .str l i==ETy.get .str l k) (.ret (.p (.bool true)) []) (.stop zSk3 { n:=25,fr:=[(0,.p (.lst .str l)),(2,.p (.bool false)),(3,.i i),(4,.i (IntKind.wrap .i64 ((k:Int)+1)))],ck:=[] })))) (.stop zSk2 { n:=25,fr:=[(0,.p (.lst .str l)),(2,.p (.bool false)),(3,.i (IntKind.wrap .i64 ((i:Int)+1)))],ck:=[],kn:=[2] })) ?_
  refine ⟨fun hlt=>?_,fun hge=>?_⟩
  · have hk':k<i:=by have:=of_decide_eq_true hlt; omega
    have ht:=E5 (l:=l) (p:=fun y=>ETy.get .str l i==y) (k:=k) (by omega)
    rw [hz,aX] at ht
    refine ⟨⟨by omega,by omega⟩,⟨by omega,by omega⟩,fun hb=>?_,fun hb=>?_⟩
    · have hb':(ETy.get .str l i==ETy.get .str l k)=true:=hb
      rw [h1 ?_]; exact ⟨rfl,rfl⟩
      unfold tw1
      rw [bB]
      refine ⟨ETy.get .str l k,?_,hb'⟩
      rw [show ETy.get .str l k=l[k] from ETy.get_eq (t:=.str) (List.getElem?_eq_getElem (by omega)),dP]
      exact ⟨k,by omega,rfl⟩
    · have hb':(ETy.get .str l i==ETy.get .str l k)=false:=hb
      rw [aZ (aE (show k<l.length by omega) hl)]
      first
      | (exfalso; omega)
      | exact J.kn [2] (ih (k+1) (by omega) (by omega) (by rw [ht]; exact hb'))
  · have hke:k=i:=by have:=of_decide_eq_false hge; omega
    subst hke
    exact h0 hz
theorem DV (hl:l.length≤maxLen) (Γ:Ctx):∀ (n k:Nat),l.length - k=n→k≤l.length →
 J Tryz.prog 55 (aw Tryz.f55) Γ (Eq2 (.x (.b (nB l n k))) []) zSk2 ({ n:=25,fr:=[(0,.p (.lst .str l)),(2,.p (.bool false)),(3,.i ((k:Int)))],ck:=[],kn:=[2] }):=by
 intro n
 induction n with
 | zero=>?_
 | succ n ih=>?_
 all_goals
  intro k hn hk
  refine jg aT Tryz.func55 (.ite (decide ((k:Int)<(l.length:Int))) (.stop zSk3 { n:=25,fr:=[(0,.p (.lst .str l)),(2,.p (.bool false)),(3,.i k),(4,.i 0)],ck:=[],kn:=[2] }) (.ret (.p (.bool false)) [])) ?_
  refine ⟨fun hlt=>?_,fun hge=>?_⟩
  · have hk':k<l.length:=by have:=of_decide_eq_true hlt; omega
    first
    | (exfalso; omega)
    | refine C6 l k hk' hl Γ _ (fun h=>?_) (fun h=>?_) k 0 (by omega) (by omega) rfl
      · rw [nB,h,bV]
      · rw [nB,h,aX,aZ (aE hk' hl)]
        exact ih (k+1) (by omega) (by omega)
  · first
    | exact ⟨rfl,rfl⟩
    | (have:=of_decide_eq_false hge; exfalso; omega)
theorem wD:ag Tryz.prog 55 [.l .str l] [] (.x (.b (du l))) []:=by
 refine dg aT Tryz.func55 (.stop zSk2 { n:=25,fr:=[(0,.p (.lst .str l)),(2,.p (.bool false)),(3,.i 0)],ck:=[],kn:=[2] }) fun Γ=>?_
 exact J.len 0 rfl fun hl=>DV l hl Γ l.length 0 (by omega) (by omega)
def nQ:Ent:=(55,fun
 | [.c (.pd (.lst .str l))],[]=>some (none,.x (.c (.pd (.bool (du l)))),[])
 | _,_=>none)
theorem AB:EntOk Tryz.prog nQ:=entOk fun vs ck=>by
 unfold nQ; dsimp only; split
 · rename_i l; exact entS fun hp=>wD l
 · exact entN
/-! ### spelled -/
def tM:Cfg:=⟨bk,[nC]⟩
theorem sg:ah Tryz.prog tM.tab:=(ah.cons lv ah.nil)
theorem DR (hl:l.length≤maxLen)  : ∀ (n k:Nat),l.length - k≤n→k≤l.length →
 J Tryz.prog 53 (aw Tryz.f53) Γ (Eq2 (.x (.b ((l.drop k).all aU))) []) zSk2 ({ n:=16,fr:=[(0,.p (.lst .str l)),(2,.p (.bool false)),(3,.i k)],ck:=[],kn:=[2] }):=by
 intro n
 induction n with
 | zero=>?_
 | succ n ih=>?_
 all_goals
  intro k hn hk
  refine jg sg Tryz.func53 (.ite (decide ((k:Int)<(l.length:Int))) (.need (inRg k l.length) (.ite (!aU (ETy.get .str l k)) (.ret (.p (.bool false)) []) (.stop zSk2 { n:=16,fr:=[(0,.p (.lst .str l)),(2,.p (.bool false)),(3,.i (IntKind.wrap .i64 ((k:Int)+1)))],ck:=[],kn:=[2] }))) (.ret (.p (.bool true)) [])) ?_
  refine ⟨fun hlt=>?_,fun hge=>?_⟩
  · have hk':k<l.length:=by have:=of_decide_eq_true hlt; omega
    rw [bL (t:=.str) (l:=l) hk']
    refine ⟨by omega,?_⟩
    generalize ETy.get .str l k=v
    rw [cV]
    refine ⟨fun hb=>⟨?_,rfl⟩,fun hb=>?_⟩
    · have hb':aU v=false:=nt hb
      rw [hb']; rfl
    · have hb':aU v=true:=nf hb
      rw [hb',aV]; (rw [aZ (aE hk' hl)]; first | (exfalso; omega) | exact ih (k+1) (by omega) (by omega) | exact J.kn [2] (ih (k+1) (by omega) (by omega)))
  · rw [bY (l:=l) (by have:=of_decide_eq_false hge; omega)]
    exact ⟨rfl,rfl⟩
theorem ES:ag Tryz.prog 53 [.l .str (l)] [] (.x (.b (l.all aU))) []:=by
 refine dg sg Tryz.func53 (.stop zSk2 { n:=16,fr:=[(0,.p (.lst .str l)),(2,.p (.bool false)),(3,.i 0)],ck:=[],kn:=[2] }) fun Γ=>?_
 exact J.len 0 rfl fun hl=>DR l Γ hl l.length 0 (by omega) (by omega)
def kH:Ent:=(53,fun
 | [.c (.pd (.lst .str l))],[]=>some (none,.x (.c (.pd (.bool (l.all aU)))),[])
 | _,_=>none)
theorem vi:EntOk Tryz.prog kH:=entOk fun vs ck=>by
 unfold kH; dsimp only; split
 · rename_i l; exact entS fun hp=>ES l
 · exact entN
/-! ### a variable -/
theorem AE (x:Val):ag Tryz.prog 112 [.e .var v,.e .val x] [] (.x (.b (gM v x))) []:=by
 refine dg aT Tryz.func112 (.ite (v.kind != x.kind||decide (x.a<v.lo)||decide (x.a>v.hi)) (.ret (.p (.bool false)) []) (.ret (.p (.bool (x.kind != (3:Int)||decide (x.b≥v.lo)&&decide (x.b≤v.hi)))) [])) fun Γ=>?_
 have e:∀ b:Bool,b=gM v x→Eq2 (.x (.b (gM v x))) [] (SV.x (SX.c (SC.pd (PD.bool b)))) []:=fun b h=>by rw [h]; exact ⟨rfl,rfl⟩
 refine ⟨fun h=>e _ ?_,fun h=>e _ ?_⟩
 · unfold gM
   simp only [aO,bne_iff_ne,decide_eq_true_eq] at h
   symm
   cases hb:(v.kind==x.kind&&(decide (x.a≥v.lo)&&decide (x.a≤v.hi)&&(x.kind != 3||(decide (x.b≥v.lo)&&decide (x.b≤v.hi)))))
   · rfl
   · simp only [af,beq_iff_eq,decide_eq_true_eq] at hb
     omega
 · unfold gM
   simp only [ay,bne_eq_false_iff_eq,decide_eq_false_iff_not] at h
   rw [show (v.kind==x.kind)=true by simpa using h.1.1,show decide (x.a≥v.lo)=true by simpa using h.1.2,show decide (x.a≤v.hi)=true by simpa using h.2]
   rfl
def qk:Ent:=(112,fun
 | [.agg [.pd (.str n),.pd (.int .i64 k),.pd (.int .i64 lo),.pd (.int .i64 hi),.pd (.int .i64 ik),.pd (.int .i64 ia),.pd (.int .i64 ib)],.agg [.pd (.int .i64 xk),.pd (.int .i64 xa),.pd (.int .i64 xb)]],[]=>some (none,.x (.c (.pd (.bool (gM ⟨n,k,lo,hi,⟨ik,ia,ib⟩⟩ ⟨xk,xa,xb⟩)))),[])
 | _,_=>none)
theorem Cf:EntOk Tryz.prog qk:=entOk fun vs ck=>by
 unfold qk; dsimp only; split
 · rename_i n k lo hi ik ia ib xk xa xb; exact entS fun hp=>AE ⟨n,k,lo,hi,⟨ik,ia,ib⟩⟩ ⟨xk,xa,xb⟩
 · exact entN
theorem Jq (k:Int):(decide (k<1)||decide (k>3))=(k != 1&&k != 2&&k != 3):=by
 rw [bt]
 simp only [aO,af,decide_eq_true_eq,bne_iff_ne]
 omega
theorem Je (h:v.init.kind=v.kind):(vR v.init&&decide (ru v≥v.lo)&&decide (n6 v≤v.hi))=(vR v.init&&gM v v.init):=by
 rw [Bool.and_assoc]
 congr 1
 unfold gM ru n6
 rw [h,beq_self_eq_true,aV]
 generalize v.init.a=a
 generalize v.init.b=b
 by_cases h3:v.kind=3
 · have e3:(v.kind==3)=true:=by rw [h3]; rfl
   have e4:(v.kind != 3)=false:=by rw [h3]; rfl
   rw [if_pos e3,if_pos e3,e4,aX,bt]
   simp only [af,decide_eq_true_eq]
   split <;> split <;> omega
 · have e3:¬(v.kind==3)=true:=by simpa using h3
   have e4:(v.kind != 3)=true:=by simpa using h3
   rw [if_neg e3,if_neg e3,e4,bV,dn]
def CT:Cfg:=⟨bk,[kK,qk]⟩
theorem Cx:ah Tryz.prog CT.tab:=(ah.cons uE (ah.cons Cf ah.nil))
theorem Dg:ag Tryz.prog 58 [.e .var v] [] (.x (.i (dL v))) []:=by
 refine dg Cx Tryz.func58 (let x1:Tree:=(.ite (v.kind==(2:Int)&&(v.lo != (0:Int)||v.hi != (1:Int))) (.ret (.i 5) []) (.ite (!vR v.init || !gM v v.init) (.ret (.i 5) []) (.ret (.i 0) []))); .ite (v.kind != (1:Int)&&v.kind != (2:Int)&&v.kind != (3:Int)||v.init.kind != v.kind) (.ret (.i 8) []) (.ite (v.kind==(3:Int)) (.ite (decide (v.lo>v.hi)||decide (v.lo<IntKind.wrap .i64 ((0:Int) - 1048576))||decide (v.hi>(1048576:Int))) (.ret (.i 5) []) x1) (.ite (decide (v.lo>v.hi)||decide (v.lo<IntKind.wrap .i64 ((0:Int) - 1099511627776))||decide (v.hi>(1099511627776:Int))) (.ret (.i 5) []) x1))) fun Γ=>?_
 conv=>zeta
 have w1:IntKind.wrap .i64 (0 - 1048576) = -1048576:=by decide
 have w2:IntKind.wrap .i64 (0 - 1099511627776) = -1099511627776:=by decide
 rw [w1,w2,← Jq]
 have no:∀ {b:Bool},b=false→¬b=true:=fun h e=>by rw [h] at e; cases e
 refine ⟨fun h=>?_,fun h=>?_⟩
 · unfold dL; rw [if_pos h]; exact ⟨rfl,rfl⟩
 have hk:v.init.kind=v.kind:=by
  rw [ay] at h
  simpa using h.2
 have hf:=Je v hk
 have hd:∀ b:Bool,(!vR v.init || !gM v v.init)=b→bM (vR v.init&&decide (ru v≥v.lo)&&decide (n6 v≤v.hi)) 5=if b=true then 5 else 0:=by
  intro b hb
  rw [hf,← hb]
  unfold bM
  cases vR v.init <;> cases gM v v.init <;> rfl
 refine ⟨fun h3=>⟨fun hb=>?_,fun hb=>⟨fun hc=>?_,fun hc=>⟨fun he=>?_,fun he=>?_⟩⟩⟩,fun h3=>⟨fun hb=>?_,fun hb=>⟨fun hc=>?_,fun hc=>⟨fun he=>?_,fun he=>?_⟩⟩⟩⟩
 all_goals
  have hm:mg v=if (v.kind==3)=true then 1048576 else 1099511627776:=rfl
  first | rw [if_pos h3] at hm | rw [if_neg (no h3)] at hm
  unfold dL
  rw [if_neg (no h),hm]
 · rw [if_pos (by rw [hb]; rfl)]; exact ⟨rfl,rfl⟩
 · rw [if_pos (by rw [hb]; exact hc)]; exact ⟨rfl,rfl⟩
 · rw [if_neg (by rw [hb]; exact no hc),hd _ he]; exact ⟨rfl,rfl⟩
 · rw [if_neg (by rw [hb]; exact no hc),hd _ he]; exact ⟨rfl,rfl⟩
 · rw [if_pos (by rw [hb]; rfl)]; exact ⟨rfl,rfl⟩
 · rw [if_pos (by rw [hb]; exact hc)]; exact ⟨rfl,rfl⟩
 · rw [if_neg (by rw [hb]; exact no hc),hd _ he]; exact ⟨rfl,rfl⟩
 · rw [if_neg (by rw [hb]; exact no hc),hd _ he]; exact ⟨rfl,rfl⟩
def tE:Ent:=(58,fun
 | [.agg [.pd (.str a),.pd (.int .i64 b),.pd (.int .i64 e),.pd (.int .i64 f),.pd (.int .i64 g),.pd (.int .i64 h),.pd (.int .i64 i)]],[]=>some (none,.x (.c (.pd (.int .i64 (dL ⟨a,b,e,f,⟨g,h,i⟩⟩)))),[])
 | _,_=>none)
theorem DZ:EntOk Tryz.prog tE:=entOk fun vs ck=>by
 unfold tE; dsimp only; split
 · rename_i a b e f g h i; exact entS fun hp=>Dg ⟨a,b,e,f,⟨g,h,i⟩⟩
 · exact entN
end Go.Proofs.YtcopfgbbjdefbaaGreatDoor

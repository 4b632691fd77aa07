/- Contracts: BinarySearchFunc behind all that stands there, Insert at the end. Contracts: the document's Record. Conditions: sizes. Contracts: moves.Record on an empty list. Conditions: sizes. -/
import Derived.Test.YtgfifkhbfdacjaaGreatDoorCe
import Derived.Test.YtgfifkhbfdacjaaGreatDoorNv
import Derived.Test.YtgfifkhbfdacjaaGreatDoorEg
import Derived.Test.YtgfifkhbfdacjaaGreatDoorLx
namespace Go.Proofs.YtgfifkhbfdacjaaGreatDoor
open Go Go.Ev
set_option maxRecDepth 100000
def y9 (P:Program) (root:Code) (p:List Nat) (i:Nat) (st:ST):Option (Option Prop×ST) :=
 match (opsOf (sub root p))[i]? with
 | some o=>match o.guard,o.dst,o.op with
   | none,some d,.slice t x lo hi none=>match bx st none x,P.underlying t,bnd st none lo,bnd st none hi with
     | some (.c (.own k)),some (.slice e),some lo',some hi'=>match st.ck[k]?,eY P e with
       | some (.own _ _ l),some _=>bif Nat.blt d st.n then some ((dT l lo' hi').1,{ st with fr:=gy d st.fr }) else none
       | _,_=>none
     | _,_,_,_=>none
   | _,_,_=>none
 | none=>none
theorem J.peek {P:Program} {f:Go.Sy.Md} {root:Code} {Γ:Ctx} {Q:Out} {st st':ST} {p:List Nat} {i:Nat} {k:List PI} {q:Option Prop} (h:y9 P root p i st=some (q,st')) (hq:Holds q) (hk:J P f root Γ Q (.ops p (i+1)::k) st'):J P f root Γ Q (.ops p i::k) st:=by
 unfold y9 at h
 split at h
 · rename_i o ho
   split at h
   · rename_i d t x lo hi hg hd hop
     split at h
     · rename_i k0 e lo' hi' hx ht h1 h2
       split at h
       · rename_i e0 ty l n hc hn
         cases hbb:Nat.blt d st.n
         · rw [hbb] at h; cases h
         · rw [hbb] at h
           simp only [cond_true,aa,ae] at h
           obtain ⟨rfl,rfl⟩:=h
           have hdn:d<st.n:=an hbb
           intro hT V a w r
           have hi':i<(opsOf (sub root p)).size:=(Array.getElem?_eq_some_iff.1 ho).1
           have hsz:(opsOf (sub root p)).size - i=((opsOf (sub root p)).size - (i+1))+1:=by omega
           obtain ⟨x0,y0,g1,g2,g3,g4,g5⟩:=nO (g:=none) r trivial h1 h2 l hq
           have e1:SX.R V (.c (.own k0)) (a.eval x):=aG r (g:=none) trivial hx
           have e2:a.eval x=V.ov k0:=e1
           obtain ⟨xs,q1,_,_⟩:=r.wok.own k0 _ hc
           obtain ⟨ao,cp,q2,q3,_⟩:=p6 q1
           rw [q2] at e2
           have hrun:(execOp a.eval o).run P w = .ok (.value (.slice (if cp=x0 then ao else ao.map (·.add (x0 * n))) (y0 - x0) (cp - x0))) w:=by
            obtain ⟨dst,op,ty',pos,after,guard⟩:=o
            simp only at hop
            subst hop
            simp only [execOp]
            rw [e2]
            exact bk (j5 ht hn (qK g1 (g2 cp q3)))
           simp only [aw,PI.den]
           rw [hsz,bB]
           refine Go.Sy.Fin.op_value ho (by simp only [Region.wanted,hg]) hrun ?_
           rw [hd]
           exact hk hT V _ _ (r.forget d _ hdn)
       · cases h
     · cases h
   · cases h
 · cases h
/-! ### BinarySearchFunc -/
def v8:Cfg:=⟨aY,[]⟩
theorem nG:ag Tryz.prog v8.tab:=ag.nil
theorem KY (x:Past) (n:Int):ah Tryz.prog 52 [.e .past x,.i n] [] (.x (.i (IntKind.wrap .i64 (x.state - n)))) []:=by
 refine dg nG Tryz.func52 (.ret (.i (IntKind.wrap .i64 (Past.state x - n))) []) fun Γ=>⟨rfl,rfl⟩
def eBc:Ent:=(52,fun
 | [.agg [.pd (.int .i64 a),.pd (.lst .int b)],.c (.pd (.int .i64 n))],[]=>some (none,.x (.c (.pd (.int .i64 (IntKind.wrap .i64 (a - n))))),[])
 | _,_=>none)
theorem LJ:EntOk Tryz.prog eBc:=entOk fun vs ck=>by
 unfold eBc; dsimp only; split
 · rename_i a b n; exact entS fun hp=>KY ⟨a,b⟩ n
 · exact entN
def wD:Cfg:=⟨aY,[eBc]⟩
theorem tJ:ag Tryz.prog wD.tab:=(ag.cons LJ ag.nil)
theorem Jv {a b:Nat} (h:a+b<1000000):IntKind.wrap .i64 (Int.fdiv (IntKind.wrap .u64 (IntKind.wrap .i64 ((a:Int)+(b:Int)))) (2 ^ 1))=(((a+b) / 2:Nat):Int):=by
 have e1:IntKind.wrap .i64 ((a:Int)+(b:Int))=((a+b:Nat):Int):=by rw [cg (by omega) (by omega)]; omega
 have e2:IntKind.wrap .u64 ((a+b:Nat):Int)=((a+b:Nat):Int):=by
  simp only [IntKind.wrap,IntKind.bits,IntKind.signed,a6,eE,if_false]
  omega
 rw [e1,e2,Int.fdiv_eq_ediv_of_nonneg _ (by decide)]
 have e3:((a+b:Nat):Int) / 2 ^ 1=(((a+b) / 2:Nat):Int):=by omega
 rw [e3,cg (by omega) (by omega)]
abbrev zEm2:List PI:=[.code [1,1,1,0,0,0],.inLoop [1,1,1,0,0,0],.inBlock 0,.code [1,1,1,1]]
variable (l:List Past) (n:Int)
theorem KQ (hl:l.length≤1000) (hn:0≤n∧n≤1000) (hb:∀ p∈l,0≤p.state∧p.state<n) (Γ:Ctx):∀ (m i:Nat),l.length - i≤m→i≤l.length →
 J Tryz.prog 51 (au Tryz.f51) Γ (Eq2 (.tup [.c (.pd (.int .i64 (l.length:Int))),.c (.pd (.bool false))]) []) zEm2 ({ n:=49,fr:=[(0,.p (.lst .past l)),(1,.i n),(2,.x (.c (.fn (.func 52) [] []))),(6,.i 0),(7,.p (.bool false)),(8,.i l.length),(9,.i ((i:Int))),(10,.i l.length)],ck:=[],kn:=[7] }):=by
 have key:∀ j:Nat,j<l.length→IntKind.wrap .i64 ((ETy.get .past l j).state - n)<0∧(IntKind.wrap .i64 ((ETy.get .past l j).state - n)==0)=false:=fun j hj=>by
  have:=hb (ETy.get .past l j) (by rw [ETy.get_eq (t:=.past) (List.getElem?_eq_getElem hj)]; exact bo hj)
  rw [cg (by omega) (by omega)]
  exact ⟨by omega,beq_false_of_ne (by omega)⟩
 intro m
 induction m with
 | zero=>?_
 | succ m ih=>?_
 all_goals
  intro i hm hi
  have hh:=Jv (a:=i) (b:=l.length) (by omega)
  refine jg tJ Tryz.func51 (let x1:=(Int.fdiv (IntKind.wrap .u64 (IntKind.wrap .i64 ((i:Int)+(l.length:Int)))) ((2:Int) ^ 1)); let x2:List PI:=zEm2; let x3:=((i:Int)<(l.length:Int)); .ite (decide x3) (.need ((0:Int)≤1) (.need ((0:Int)≤IntKind.wrap .i64 x1∧IntKind.wrap .i64 x1<(l.length:Int)) (.ite (decide (IntKind.wrap .i64 (Past.state (ETy.get .past l ((IntKind.wrap .i64 x1).toNat)) - n)<(0:Int))) (.stop x2 { n:=49,fr:=[(0,.p (.lst .past l)),(1,.i n),(2,.x (.c (.fn (.func 52) [] []))),(6,.i 0),(7,.p (.bool false)),(8,.i l.length),(9,.i (IntKind.wrap .i64 (IntKind.wrap .i64 x1+(1:Int)))),(10,.i l.length)],ck:=[],kn:=[7] }) (.stop x2 { n:=49,fr:=[(0,.p (.lst .past l)),(1,.i n),(2,.x (.c (.fn (.func 52) [] []))),(6,.i 0),(7,.p (.bool false)),(8,.i l.length),(9,.i i),(10,.i (IntKind.wrap .i64 x1))],ck:=[],kn:=[7] })))) (.need (decide x3=true→(0:Int)≤(i:Int)∧(i:Int)<(l.length:Int)) (.ret (.tup [.i i,.p (.bool (decide x3&&IntKind.wrap .i64 (Past.state (ETy.get .past l i) - n)==(0:Int)))]) []))) ?_
  conv=>zeta
  rw [hh]
  refine ⟨fun hlt=>?_,fun hge=>?_⟩
  · have hi':i<l.length:=by have:=of_decide_eq_true hlt; omega
    have hx:(i+l.length) / 2<l.length:=by omega
    refine ⟨by omega,⟨by omega,by omega⟩,fun h1=>?_,fun h1=>?_⟩
    · rw [aX (by omega)]
      first
      | (exfalso; omega)
      | exact ih ((i+l.length) / 2+1) (by omega) (by omega)
    · exact absurd (key _ hx).1 (of_decide_eq_false h1)
  · have e:i=l.length:=by have:=of_decide_eq_false hge; omega
    subst e
    refine ⟨fun h=>absurd (of_decide_eq_true h) (by omega),?_,rfl⟩
    rw [decide_eq_false (by omega),a6]
theorem KG (h:l.length≤1000∧(0≤n∧n≤1000)∧∀ p∈l,0≤p.state∧p.state<n):ah Tryz.prog 51 [.l .past l,.i n,.c (.fn (.func 52) [] [])] [] (.tup [.c (.pd (.int .i64 (l.length:Int))),.c (.pd (.bool false))]) []:=by
 refine dg tJ Tryz.func51 (.stop zEm2 { n:=49,fr:=[(0,.p (.lst .past l)),(1,.i n),(2,.x (.c (.fn (.func 52) [] []))),(6,.i 0),(7,.p (.bool false)),(8,.i l.length),(9,.i 0),(10,.i l.length)],ck:=[],kn:=[7] }) fun Γ=>?_
 exact KQ l n h.1 h.2.1 h.2.2 Γ l.length 0 (by omega) (by omega)
def eBs:Ent:=(51,fun
 | [.c (.pd (.lst .past l)),.c (.pd (.int .i64 n)),.c (.fn (.func 52) [] [])],[]=>some (some (l.length≤1000∧(0≤n∧n≤1000)∧∀ p∈l,0≤p.state∧p.state<n),.tup [.c (.pd (.int .i64 (l.length:Int))),.c (.pd (.bool false))],[])
 | _,_=>none)
theorem Mk:EntOk Tryz.prog eBs:=entOk fun vs ck=>by
 unfold eBs; dsimp only; split
 · rename_i l n; exact entS fun hp=>KG l n hp
 · exact entN
/-! ### Insert -/
abbrev zEm1 (a:List Past) (b:Past):ST:={ n:=95,fr:=[(0,.x (.c (.own 0))),(1,.i a.length),(2,.x (.c (.own 1))),(6,.p (.v (Value.slice none 0 0))),(10,.x (.c (.own 0))),(11,.i a.length)],ck:=[.own 40 .past a,.own 40 .past [b]],m:=2 }
abbrev zEm3 (a:Past) (b:List Past):List Chunk:=[.dead,.own 40 .past [a],.own 40 .past (b++[a])]
theorem G9 (p:Past) (h:room (l.length+1) 32):ah Tryz.prog 53 [.c (.own 0),.i (l.length:Int),.c (.own 1)] [Chunk.own 40 ETy.past l,Chunk.own 40 ETy.past [p]] (.x (.c (.own 2))) (zEm3 p l):=by
 refine ah.of Tryz.func53 (by kernel_rfl) (by kernel_rfl) fun Γ=>?_
 have h1:J Tryz.prog 53 (au Tryz.f53) Γ (Eq2 (.x (.c (.own 2))) (zEm3 p l)) [.ops [1,0] 3,.code [1,1]] ((zEm1 l p)):=by
  refine jg nG Tryz.func53 (.ite false (.ret (.x (.c (.own 0))) [.own 40 .past l,.own 40 .past [p]]) (.ite ((l.length:Int)==(l.length:Int)) (.need (room ((l++[p]).length) 32) (.ret (.x (.c (.own 2))) (zEm3 p l))) (.stop [.ops [1,1,1,1,1,1,0,0] 4,.code [1,1,1,1,1,1,0,1],.code [1,1,1,1,1,1,1]] { n:=95,fr:=[(0,.x (.c (.own 0))),(1,.i l.length),(2,.x (.c (.own 1))),(6,.p (.v (Value.slice none 0 0))),(7,.i (↑(List.length [p]):Int)),(8,.i l.length),(28,.i (IntKind.wrap .i64 ((l.length:Int)+(↑(List.length [p]):Int)))),(29,.x (.c (.own 0)))],ck:=[.own 40 .past l,.own 40 .past [p]],m:=2 }))) ?_
  exact ⟨fun h=>(by cases h),fun _=>⟨fun _=>⟨by rw [ar]; exact h,rfl,rfl⟩,fun h=>by simp at h⟩⟩
 have h2:J Tryz.prog 53 (au Tryz.f53) Γ (Eq2 (.x (.c (.own 2))) (zEm3 p l)) [.ops [1,0] 2,.code [1,1]] ((zEm1 l p)):=J.peek (q:=some (0≤(l.length:Int)∧(l.length:Int)≤(l.length:Int))) (by kernel_rfl) ⟨by omega,by omega⟩ h1
 exact J.go (fn:=Tryz.f53) nG Tryz.func53 8 (t:=.stop _ _) (by kernel_rfl) h2
def uF:Ent:=(53,fun
 | [.c (.own 0),.c (.pd (.int .i64 n)),.c (.own 1)],[.own T .past l,.own T2 .past [p]]=>some (some (T=40∧T2=40∧n=(l.length:Int)∧room (l.length+1) 32),.x (.c (.own 2)),[.dead,.own 40 .past [p],.own 40 .past (l++[p])])
 | _,_=>none)
theorem Gm:EntOk Tryz.prog uF:=entOk fun vs ck=>by
 unfold uF; dsimp only; split
 · rename_i n T l T2 p; exact entS fun hp=>by obtain ⟨rfl,rfl,rfl,h⟩:=hp; exact G9 l p h
 · exact entN
end Go.Proofs.YtgfifkhbfdacjaaGreatDoor
namespace Go.Proofs.YtgfifkhbfdacjaaGreatDoor
open Go Go.Ev
set_option maxRecDepth 100000
theorem room_le {n b:Nat} (h:n≤100000) (hb:b≤1000):room n b:=⟨av (Nat.mul_le_mul h hb) (by decide),by unfold maxLen; omega⟩
end Go.Proofs.YtgfifkhbfdacjaaGreatDoor
namespace Go.Proofs.YtgfifkhbfdacjaaGreatDoor
open Go Go.Ev
set_option maxRecDepth 100000
def wW:Cfg:=⟨aY,[]⟩
theorem ui:ag Tryz.prog wW.tab:=ag.nil
theorem Dh:ah Tryz.prog 46 [.l .past []] [] (.x (.c (.pd (.v (.slice none 0 0))))) []:=by
 refine dg ui Tryz.func46 (.stop [.code [1,1,0,1,0,0],.inLoop [1,1,0,1,0,0],.inBlock 0,.code [1,1,1]] { n:=23,fr:=[(2,.p (.v (Value.slice none 0 0))),(3,.p (.v (Value.slice none 0 0))),(6,.p (.lst .past [])),(7,.i (↑(0:Nat):Int)),(8,.i 0)],ck:=[] }) fun Γ=>?_
 refine jg ui Tryz.func46 (.ite false (.need ((0:Int)≤0∧(0:Int)<(↑(0:Nat):Int)) (.stop [.code [1,1,0,1,0,0,1,1,0,0,1],.inBlock 1,.code [1,1,0,1,0,0,1,1,1],.inLoop [1,1,0,1,0,0],.inBlock 0,.code [1,1,1]] { n:=23,fr:=[(2,.p (.v (Value.slice none 0 0))),(3,.p (.v (Value.slice none 0 0))),(6,.p (.lst .past [])),(7,.i (↑(0:Nat):Int)),(8,.i 0),(5,.x (.c (.loc 0 0)))],ck:=[.cells [.i (Past.state { state:=(0:Int),set:=[] }),.pd (.lst .int [])] 40] })) (.ret (.p (.v (Value.slice none 0 0))) [])) ?_
 exact ⟨fun h=>absurd h (by decide),fun _=>⟨rfl,rfl⟩⟩
def uU:Ent:=(46,fun
 | [.c (.pd (.lst .past []))],[]=>some (none,.x (.c (.pd (.v (.slice none 0 0)))),[])
 | _,_=>none)
theorem FN:EntOk Tryz.prog uU:=entOk fun vs ck=>by
 unfold uU; dsimp only; split
 · exact entS fun hp=>Dh
 · exact entN
def xA:Cfg:=⟨aY,[mu,oW,uU]⟩
theorem te:ag Tryz.prog xA.tab:=(ag.cons qS (ag.cons CC (ag.cons FN ag.nil)))
def we:Cfg:=⟨aY,[iU,je,r4,nu,mc,eBs,uF]⟩
theorem tm:ag Tryz.prog we.tab:=(ag.cons iy (ag.cons ka (ag.cons sN (ag.cons tu (ag.cons ri (ag.cons Mk (ag.cons Gm ag.nil)))))))
variable (l:List Ev.Stat) (s:List Int) (c:Chart) (left:List Int) (i:Nat) (u:Int) (n:Nat)
def lN (i:Nat) (k:Int):Bool:=(ETy.get .stat l i).kind==5&&ba l k==u||(ETy.get .stat l i).kind==6&&er l k&&gg l u k
def j8:Option Past:=if (aO (ETy.get .stat l i).kind&&(inB left (ba l (i:Int))&&inB s (ba l (i:Int))))=true then some ⟨(i:Int),s.filter (lN l (ba l (i:Int)) i)⟩ else none
def sw:List Past:=(List.range l.length).filterMap (j8 l s left)
def jn (l left:List Int):List Past:=if (bC c==0&&dF c.states l)=true then sw c.states l left else []
def pH:List Past:=(List.range n).filterMap (j8 l s left)
theorem DG:pH l s left (n+1)=pH l s left n++(match j8 l s left n with | some p=>[p] | none=>[]):=by
 unfold pH
 rw [eA,List.filterMap_append]
 cases h:j8 l s left n <;> simp [h]
theorem GD:(pH l s left n).length≤n:=by
 unfold pH
 exact av (List.length_filterMap_le _ _) (by simp)
theorem Kg:∀ p∈pH l s left n,0≤p.state∧p.state<(n:Int):=by
 intro p hp
 obtain ⟨i,hi,h⟩:=eF.1 hp
 unfold j8 at h
 by_cases hb:(aO (ETy.get .stat l i).kind&&(inB left (ba l (i:Int))&&inB s (ba l (i:Int))))=true
 · rw [if_pos hb] at h
   simp only [aa] at h
   subst h
   have:=bz.1 hi
   exact ⟨Int.natCast_nonneg i,Int.ofNat_lt.2 this⟩
 · rw [if_neg hb] at h; cases h
abbrev zEo1 (a:Chart):Chunk:=.cells [.pd (.str a.name),.pd (.lst .str a.events),.pd (.lst .var a.vars),.pd (.lst .stat a.states),.pd (.lst .tran a.trans)] 27
abbrev zEo2:List PI:=[.code [1,1,1,0,1,0,0],.inLoop [1,1,1,0,1,0,0],.inBlock 0,.code [1,1,1,1]]
theorem CL (l left:List Int) (out:List Past) (i:Nat) (u:Int) (Γ:Ctx) (Q:Out) (hi:i<c.states.length) (hl:l.length≤1000∧∀ y∈l,0≤y∧y<(c.states.length:Int)) (hm:c.states.length≤1000) (ho:out.length≤1000) (hos:∀ p∈out,0≤p.state∧p.state<(i:Int))
 (hcont:J Tryz.prog 18 (au Tryz.f18) Γ Q zEo2 ({ n:=117,fr:=[(1,.p (.lst .int l)),(2,.p (.lst .int left)),(4,.x (.c (.loc 0 0))),(8,.p (.v (Value.slice none 0 0))),(9,.x (.c (.own 1))),(31,.p (.lst .stat c.states)),(32,.i c.states.length),(33,.i ((IntKind.wrap .i64 ((i:Int)+1))))],ck:=[zEo1 c,.own 40 .past (out++[⟨(i:Int),l.filter (lN c.states u i)⟩])] })):∀ (n k:Nat),l.length - k≤n→k≤l.length→∀ set,set=(l.take k).filter (lN c.states u i) →
 J Tryz.prog 18 (au Tryz.f18) Γ Q [.code [1,1,1,0,1,0,0,1,1,0,0,1,1,1,1,1,0,1,0,0],.inLoop [1,1,1,0,1,0,0,1,1,0,0,1,1,1,1,1,0,1,0,0],.inBlock 2,.code [1,1,1,0,1,0,0,1,1,0,0,1,1,1,1,1,1],.inBlock 1,.code [1,1,1,0,1,0,0,1,1,1],.inLoop [1,1,1,0,1,0,0],.inBlock 0,.code [1,1,1,1]] ({ n:=117,fr:=[(1,.p (.lst .int l)),(2,.p (.lst .int left)),(4,.x (.c (.loc 0 0))),(8,.p (.v (Value.slice none 0 0))),(9,.x (.c (.own 1))),(31,.p (.lst .stat c.states)),(32,.i c.states.length),(33,.i i),(11,.x (.c (.loc 2 0))),(10,.i i),(12,.i u),(13,.x (.c (.loc 3 0))),(58,.p (.lst .int l)),(59,.i l.length),(60,.i ((k:Int)))],ck:=[zEo1 c,.own 40 .past out,.cells [.pd (.str (ETy.get .stat c.states i).name),SC.i (ETy.get .stat c.states i).kind,SC.i (ETy.get .stat c.states i).depth,.pd (.str (ETy.get .stat c.states i).initial),.pd (.lst .deed (ETy.get .stat c.states i).entry),.pd (.lst .deed (ETy.get .stat c.states i).leave)] 56,.cells [SC.i i,.own 4] 40,.own 3 .int set] }):=by
 have hml:l.length≤maxLen:=by unfold maxLen; omega
 have hmc:c.states.length≤maxLen:=by unfold maxLen; omega
 intro n
 induction n with
 | zero=>?_
 | succ n ih=>?_
 all_goals
  intro k hn hk set hs
  refine jg tm Tryz.func18 (let x1:=(ETy.get .stat c.states i); let x8:Nat×SV:=(2,.p (.lst .int left)); let x10:Nat×SV:=(4,.x (.c (.loc 0 0))); let x5:Nat×SV:=(8,.p (.v (Value.slice none 0 0))); let x7:Nat×SV:=(31,.p (.lst .stat c.states)); let x9:Nat×SV:=(32,.i c.states.length); let x2:List (Nat×SV):=[(1,.p (.lst .int l)),x8,x10,x5,(9,.x (.c (.own 1))),x7,x9,(33,.i i),(11,.x (.c (.loc 2 0))),(10,.i i),(12,.i u),(13,.x (.c (.loc 3 0))),(58,.p (.lst .int l)),(59,.i l.length),(60,.i (IntKind.wrap .i64 ((k:Int)+1)))]; let x6:List Nat:=[1,1,1,0,1,0,0,1,1,0,0,1,1,1,1,1,0,1,0,0]; let x3:List PI:=[.code x6,.inLoop x6,.inBlock 2,.code [1,1,1,0,1,0,0,1,1,0,0,1,1,1,1,1,1],.inBlock 1,.code [1,1,1,0,1,0,0,1,1,1],.inLoop [1,1,1,0,1,0,0],.inBlock 0,.code [1,1,1,1]]; let x4:=(Stat.kind x1==(5:Int)&&ba c.states (ETy.get .int l k)==u); .ite (decide ((k:Int)<(l.length:Int))) (.need (inRg k l.length) (.need ((Stat.kind x1==(5:Int))=true→c.states.length≤maxLen) (.need (x4=false∧(Stat.kind x1==(6:Int))=true→(0:Int)≤ETy.get .int l k∧ETy.get .int l k<(c.states.length:Int)) (.need (x4=false∧(Stat.kind x1==(6:Int)&&er c.states (ETy.get .int l k))=true→c.states.length≤maxLen) (.ite (Stat.kind x1==(5:Int)&&ba c.states (ETy.get .int l k)==u||Stat.kind x1==(6:Int)&&er c.states (ETy.get .int l k)&&gg c.states u (ETy.get .int l k)) (.need (room ((set++[ETy.get .int l k]).length) 8) (.stop x3 { n:=117,fr:=x2,ck:=[zEo1 c,.own 40 .past out,.cells [.pd (.str (Stat.name x1)),.i (Stat.kind x1),.i (Stat.depth x1),.pd (.str (Stat.initial x1)),.pd (.lst .deed (Stat.entry x1)),.pd (.lst .deed (Stat.leave x1))] 56,.cells [.i i,.own 4] 40,.own 3 .int (set++[ETy.get .int l k])] })) (.stop x3 { n:=117,fr:=x2,ck:=[zEo1 c,.own 40 .past out,.cells [.pd (.str (Stat.name x1)),.i (Stat.kind x1),.i (Stat.depth x1),.pd (.str (Stat.initial x1)),.pd (.lst .deed (Stat.entry x1)),.pd (.lst .deed (Stat.leave x1))] 56,.cells [.i i,.own 4] 40,.own 3 .int set] })))))) (.need (out.length≤1000∧((0:Int)≤(i:Int)∧(i:Int)≤1000)∧∀ (p:ETy.den .past),p∈out→(0:Int)≤Past.state p∧Past.state p<(i:Int)) (.ite false (.need (inRg out.length out.length) (.stop [.ops [1,1,1,0,1,0,0,1,1,0,0,1,1,1,1,1,1,1,1,0] 4,.inBlock 1,.code [1,1,1,0,1,0,0,1,1,1],.inLoop [1,1,1,0,1,0,0],.inBlock 0,.code [1,1,1,1]] { n:=117,fr:=[(1,.p (.lst .int l)),x8,x10,x5,(9,.x (.c (.own 1))),x7,x9,(33,.i i),(108,.x (.agg [.i i,.own 2])),(109,.x (.c (.oat 1 out.length 2 0)))],ck:=[zEo1 c,.own 40 .past out,.own 3 .int set] })) (.need (40=(40:TypeId)∧40=(40:TypeId)∧(out.length:Int)=(out.length:Int)∧room (out.length+1) 32) (.stop zEo2 { n:=117,fr:=[(1,.p (.lst .int l)),x8,x10,x5,(9,.x (.c (.own 1))),x7,x9,(33,.i (IntKind.wrap .i64 ((i:Int)+1)))],ck:=[zEo1 c,.own 40 .past (out++[{ state:=(i:Int),set:=set }])] }))))) ?_
  conv=>zeta
  refine ⟨fun hlt=>?_,fun hge=>?_⟩
  · have hk':k<l.length:=by have:=of_decide_eq_true hlt; omega
    have hy:=hl.2 (ETy.get .int l k) (by rw [ETy.get_eq (t:=.int) (List.getElem?_eq_getElem hk')]; exact bo hk')
    have ht:=lP l (lN c.states u i) hk'
    have hsl:set.length≤1000:=by
     rw [hs]
     have:=br (lN c.states u i) (l.take k)
     have:=List.length_take_le k l
     omega
    refine ⟨⟨by omega,by omega⟩,fun _=>hmc,fun _=>⟨hy.1,hy.2⟩,fun _=>hmc,fun hb=>?_,fun hb=>?_⟩
    · have hb':lN c.states u i (ETy.get .int l k)=true:=hb
      rw [hb',if_pos rfl,← hs] at ht
      refine ⟨room_le (by rw [ar,List.length_singleton]; omega) (by omega),?_⟩
      rw [aX (aE hk' hml)]
      first
      | (exfalso; omega)
      | exact ih (k+1) (by omega) (by omega) _ ht.symm
    · have hb':lN c.states u i (ETy.get .int l k)=false:=hb
      rw [hb',if_neg (by decide),aL,← hs] at ht
      rw [aX (aE hk' hml)]
      first
      | (exfalso; omega)
      | exact ih (k+1) (by omega) (by omega) _ ht.symm
  · have e:l.take k=l:=aW (by have:=of_decide_eq_false hge; omega)
    rw [e] at hs
    subst hs
    exact ⟨⟨ho,⟨by omega,by omega⟩,hos⟩,fun h=>(by cases h),fun _=>⟨⟨rfl,rfl,rfl,room_le (by omega) (by omega)⟩,hcont⟩⟩
theorem HL (l left:List Int) (Γ:Ctx) (hl:l.length≤1000∧∀ y∈l,0≤y∧y<(c.states.length:Int)) (hm:c.states.length≤1000):∀ (n i:Nat),c.states.length - i≤n→i≤c.states.length→∀ out,out=pH c.states l left i →
 J Tryz.prog 18 (au Tryz.f18) Γ (Eq2 (.x (.c (.own 0))) [.own 40 .past (sw c.states l left)]) zEo2 ({ n:=117,fr:=[(1,.p (.lst .int l)),(2,.p (.lst .int left)),(4,.x (.c (.loc 0 0))),(8,.p (.v (Value.slice none 0 0))),(9,.x (.c (.own 1))),(31,.p (.lst .stat c.states)),(32,.i c.states.length),(33,.i ((i:Int)))],ck:=[zEo1 c,.own 40 .past out] }):=by
 have hmc:c.states.length≤maxLen:=by unfold maxLen; omega
 intro n
 induction n with
 | zero=>?_
 | succ n ih=>?_
 all_goals
  intro i hn hi out ho
  have hol:out.length≤i:=by rw [ho]; exact GD _ _ _ _
  have hos:∀ p∈out,0≤p.state∧p.state<(i:Int):=by rw [ho]; exact Kg _ _ _ _
  have ht:=DG c.states l left i
  rw [← ho] at ht
  refine jg tm Tryz.func18 (let x5:=(Value.slice none 0 0); let x1:Tree:=(.stop zEo2 { n:=117,fr:=[(1,.p (.lst .int l)),(2,.p (.lst .int left)),(4,.x (.c (.loc 0 0))),(8,.p (.v x5)),(9,.x (.c (.own 1))),(31,.p (.lst .stat c.states)),(32,.i c.states.length),(33,.i (IntKind.wrap .i64 ((i:Int)+1)))],ck:=[zEo1 c,.own 40 .past out] }); let x2:=(ETy.get .stat c.states i); let x3:=(ba c.states (i:Int)); let x4:List Nat:=[1,1,1,0,1,0,0,1,1,0,0,1,1,1,1,1,0,1,0,0]; .ite (decide ((i:Int)<(c.states.length:Int))) (.need (inRg i c.states.length) (.ite (!aO (Stat.kind x2)) x1 (.need (c.states.length≤maxLen) (.ite (!inB left x3 || !inB l x3) x1 (.stop [.code x4,.inLoop x4,.inBlock 2,.code [1,1,1,0,1,0,0,1,1,0,0,1,1,1,1,1,1],.inBlock 1,.code [1,1,1,0,1,0,0,1,1,1],.inLoop [1,1,1,0,1,0,0],.inBlock 0,.code [1,1,1,1]] { n:=117,fr:=[(1,.p (.lst .int l)),(2,.p (.lst .int left)),(4,.x (.c (.loc 0 0))),(8,.p (.v x5)),(9,.x (.c (.own 1))),(31,.p (.lst .stat c.states)),(32,.i c.states.length),(33,.i i),(11,.x (.c (.loc 2 0))),(10,.i i),(12,.i x3),(13,.x (.c (.loc 3 0))),(58,.p (.lst .int l)),(59,.i l.length),(60,.i 0)],ck:=[zEo1 c,.own 40 .past out,.cells [.pd (.str (Stat.name x2)),.i (Stat.kind x2),.i (Stat.depth x2),.pd (.str (Stat.initial x2)),.pd (.lst .deed (Stat.entry x2)),.pd (.lst .deed (Stat.leave x2))] 56,.cells [.i i,.pd (.v x5)] 40] }))))) (.ret (.x (.c (.own 0))) [.own 40 .past out])) ?_
  conv=>zeta
  refine ⟨fun hlt=>?_,fun hge=>?_⟩
  · have hi':i<c.states.length:=by have:=of_decide_eq_true hlt; omega
    have hw:IntKind.wrap .i64 ((i:Int)+1)=((i+1:Nat):Int):=aX (aE hi' hmc)
    refine ⟨⟨by omega,by omega⟩,fun hb=>?_,fun hb=>⟨hmc,fun hb2=>?_,fun hb2=>?_⟩⟩
    · have hb':aO (ETy.get .stat c.states i).kind=false:=by have h:(!aO (ETy.get .stat c.states i).kind)=true:=hb; simpa using h
      have e:j8 c.states l left i=none:=by unfold j8; rw [hb']; rfl
      rw [e,aL] at ht
      rw [hw]
      first
      | (exfalso; omega)
      | exact ih (i+1) (by omega) (by omega) _ ht.symm
    · have hb2':(!inB left (ba c.states (i:Int)) || !inB l (ba c.states (i:Int)))=true:=hb2
      have e:j8 c.states l left i=none:=by
       unfold j8
       have:(inB left (ba c.states (i:Int))&&inB l (ba c.states (i:Int)))=false:=by
        cases h1:inB left (ba c.states (i:Int)) <;> cases h2:inB l (ba c.states (i:Int)) <;> simp [h1,h2] at hb2' ⊢
       rw [this,cH]; rfl
      rw [e,aL] at ht
      rw [hw]
      first
      | (exfalso; omega)
      | exact ih (i+1) (by omega) (by omega) _ ht.symm
    · have hb':aO (ETy.get .stat c.states i).kind=true:=by have h:(!aO (ETy.get .stat c.states i).kind)=false:=hb; simpa using h
      have hb2':(!inB left (ba c.states (i:Int)) || !inB l (ba c.states (i:Int)))=false:=hb2
      have e:j8 c.states l left i=some ⟨(i:Int),l.filter (lN c.states (ba c.states (i:Int)) i)⟩:=by
       unfold j8
       have:(inB left (ba c.states (i:Int))&&inB l (ba c.states (i:Int)))=true:=by
        cases h1:inB left (ba c.states (i:Int)) <;> cases h2:inB l (ba c.states (i:Int)) <;> simp [h1,h2] at hb2' ⊢
       rw [this,hb']; rfl
      rw [e] at ht
      refine J.nilCk 3 1 3 .int rfl rfl (by kernel_rfl) ?_
      refine CL c l left out i (ba c.states (i:Int)) Γ _ hi' hl hm (by omega) hos ?_ l.length 0 (by omega) (by omega) [] (by simp)
      rw [hw]
      first
      | (exfalso; omega)
      | exact ih (i+1) (by omega) (by omega) _ ht.symm
  · have e:i=c.states.length:=by have:=of_decide_eq_false hge; omega
    subst e
    rw [ho]; exact ⟨rfl,rfl⟩
abbrev zEo3 (a:List Int) (b:List Int) (c:Chart):ST:={ n:=117,fr:=[(1,.p (.lst .int a)),(2,.p (.lst .int b)),(4,.x (.c (.loc 0 0))),(8,.p (.v (Value.slice none 0 0))),(9,.p (.v (Value.slice none 0 0))),(31,.p (.lst .stat c.states)),(32,.i c.states.length),(33,.i 0)],ck:=[zEo1 c] }
theorem Gu (l left:List Int) (h:c.vars.length≤2199023255552∧c.states.length≤2199023255552) (hg:(bC c==0&&dF c.states l)=false):ah Tryz.prog 18 [.e .chart c,.l .int l,.l .int left,.l .past []] [] (.x (.c (.pd (.v (.slice none 0 0))))) []:=by
 refine dg te Tryz.func18 (.need (c.vars.length≤2199023255552∧c.states.length≤2199023255552) (.need ((!(bC c==(0:Int)&&cb (cw c.states) none []))=false→c.vars.length≤2199023255552∧c.states.length≤2199023255552) (.ite (!(bC c==(0:Int)&&cb (cw c.states) none []) || !(bC c==(0:Int)&&dF c.states l)) (.ret (.p (.v (Value.slice none 0 0))) []) (.stop zEo2 (zEo3 l left c))))) fun Γ=>?_
 have e:cb (cw c.states) none []=true:=rfl
 refine ⟨h,fun _=>h,fun _=>⟨rfl,rfl⟩,fun hb=>?_⟩
 exfalso
 have hb':(!(bC c==0&&cb (cw c.states) none []) || !(bC c==0&&dF c.states l))=false:=hb
 rw [e,hg] at hb'
 cases h1:(bC c==0) <;> rw [h1] at hb' <;> cases hb'
theorem GG (l left:List Int) (h:c.vars.length≤2199023255552∧c.states.length≤2199023255552) (hg:(bC c==0&&dF c.states l)=true):ah Tryz.prog 18 [.e .chart c,.l .int l,.l .int left,.l .past []] [] (.x (.c (.own 0))) [.own 40 .past (sw c.states l left)]:=by
 have hg2:=hg
 rw [af] at hg2
 have v:=(iB c).1 (eq_of_beq hg2.1)
 have hst:=(mV c).1 v.few
 have hin:=xl hg2.2
 refine dg te Tryz.func18 (.need (c.vars.length≤2199023255552∧c.states.length≤2199023255552) (.need ((!(bC c==(0:Int)&&cb (cw c.states) none []))=false→c.vars.length≤2199023255552∧c.states.length≤2199023255552) (.ite (!(bC c==(0:Int)&&cb (cw c.states) none []) || !(bC c==(0:Int)&&dF c.states l)) (.ret (.p (.v (Value.slice none 0 0))) []) (.stop zEo2 (zEo3 l left c))))) fun Γ=>?_
 have e:cb (cw c.states) none []=true:=rfl
 refine ⟨h,fun _=>h,fun hb=>?_,fun _=>?_⟩
 · exfalso
   have hb':(!(bC c==0&&cb (cw c.states) none []) || !(bC c==0&&dF c.states l))=true:=hb
   rw [e,hg,hg2.1] at hb'
   cases hb'
 · refine J.nilOwn 9 40 .past rfl (by kernel_rfl) ?_
   exact HL c l left Γ ⟨by omega,hin.1⟩ (by omega) c.states.length 0 (by omega) (by omega) [] rfl
theorem uh (l left:List Int) (h:c.vars.length≤2199023255552∧c.states.length≤2199023255552):ah Tryz.prog 18 [.e .chart c,.l .int l,.l .int left,.l .past []] [] (.x (.c (.pd (.lst .past (jn c l left))))) []:=by
 unfold jn
 by_cases hg:(bC c==0&&dF c.states l)=true
 · rw [if_pos hg]
   exact ah.chop (ck':=[]) (ah.frz aY [0] (GG c l left h hg) rfl rfl)
 · rw [if_neg hg]
   exact ah.ret (Gu c l left h (Bool.eq_false_iff.2 hg)) fun V v hv=>nY hv
def uT:Ent:=(18,fun
 | [.agg [.pd (.str a),.pd (.lst .str b),.pd (.lst .var c),.pd (.lst .stat d),.pd (.lst .tran e)],.c (.pd (.lst .int l)),.c (.pd (.lst .int left)),.c (.pd (.lst .past []))],[]=>some (some (c.length≤2199023255552∧d.length≤2199023255552),.x (.c (.pd (.lst .past (jn ⟨a,b,c,d,e⟩ l left)))),[])
 | _,_=>none)
theorem H8:EntOk Tryz.prog uT:=entOk fun vs ck=>by
 unfold uT; dsimp only; split
 · rename_i a b c d e l left; exact entS fun hp=>uh ⟨a,b,c,d,e⟩ l left hp
 · exact entN
end Go.Proofs.YtgfifkhbfdacjaaGreatDoor

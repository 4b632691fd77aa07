/- Contracts: the document's one, Right (of what histories remember). Conditions: sizes. Contracts: BinarySearchFunc behind all that stands there, Insert at the end. Contracts: the document's Record. Conditions: sizes. -/
import Derived.Test.YtgfifkhbfdacjaaGreatDoorCe
import Derived.Test.YtgfifkhbfdacjaaGreatDoorVl
import Derived.Test.YtgfifkhbfdacjaaGreatDoorEg
namespace Go.Proofs.YtgfifkhbfdacjaaGreatDoor
open Go Go.Ev
set_option maxRecDepth 100000
/-! ### find -/
def ra:Cfg:=⟨aX,[]⟩
theorem oW:ag Tryz.prog ra.tab:=ag.nil
theorem GA {ps:List Past} {i:Int} {k:Nat} (hk:k<ps.length):(ps.drop k).find? (fun p=>p.state==i)=if ((ETy.get .past ps k).state==i)=true then some (ETy.get .past ps k) else (ps.drop (k+1)).find? fun p=>p.state==i:=by
 have ed:ps.drop k=ETy.get .past ps k::ps.drop (k+1):=bx (t:=.past) (l:=ps) hk
 rw [ed,List.find?_cons]
 cases (ETy.get .past ps k).state==i <;> rfl
abbrev zEh1:List PI:=[.code [1,0,1,0,0],.inLoop [1,0,1,0,0],.inBlock 0,.code [1,1]]
variable (ps:List Past) (i:Int)
theorem Be (q:Option Past) (Γ:Ctx) (hm:ps.length≤maxLen):∀ (n k:Nat),ps.length - k≤n→k≤ps.length→((ps.drop k).find? fun p=>p.state==i)=q →
 J Tryz.prog 55 (au Tryz.f55) Γ (Eq2 (match q with | some p=>.tup [.agg [.pd (.int .i64 p.state),.pd (.lst .int p.set)],.b true] | none=>.tup [.agg [.pd (.int .i64 0),.pd (.v (.slice none 0 0))],.b false]) []) zEh1 ({ n:=25,fr:=[(0,.p (.lst .past ps)),(1,.i i),(4,.x (.c (.loc 0 0))),(5,.p (.bool false)),(6,.i ((k:Int)))],ck:=[.cells [.i 0,.pd (.v (Value.slice none 0 0))] 40],kn:=[5] }):=by
 intro n
 induction n with
 | zero=>?_
 | succ n ih=>?_
 all_goals
  intro k hn hk hq
  refine jg oW Tryz.func55 (.ite (decide ((k:Int)<(ps.length:Int))) (.need (inRg k ps.length) (.ite (Past.state (ETy.get .past ps k)==i) (.need (inRg k ps.length) (.ret (.tup [.agg [.i (Past.state (ETy.get .past ps k)),.pd (.lst .int (Past.set (ETy.get .past ps k)))],.p (.bool true)]) [])) (.stop zEh1 { n:=25,fr:=[(0,.p (.lst .past ps)),(1,.i i),(4,.x (.c (.loc 0 0))),(5,.p (.bool false)),(6,.i (IntKind.wrap .i64 ((k:Int)+1)))],ck:=[.cells [.i 0,.pd (.v (Value.slice none 0 0))] 40],kn:=[5] }))) (.ret (.tup [.agg [.i 0,.pd (.v (Value.slice none 0 0))],.p (.bool false)]) [])) ?_
  refine ⟨fun hlt=>?_,fun hge=>?_⟩
  · have hk':k<ps.length:=by have:=of_decide_eq_true hlt; omega
    rw [GA hk'] at hq
    refine ⟨⟨by omega,by omega⟩,fun hb=>?_,fun hb=>?_⟩
    · rw [if_pos (by exact hb)] at hq
      subst hq
      exact ⟨⟨by omega,by omega⟩,rfl,rfl⟩
    · have hb':((ETy.get .past ps k).state==i)=false:=hb
      rw [if_neg (by rw [hb']; decide)] at hq
      rw [aV (aC hk' hm)]
      first
      | (exfalso; omega)
      | exact ih (k+1) (by omega) (by omega) hq
  · rw [bL (l:=ps) (by have:=of_decide_eq_false hge; omega)] at hq
    have hq':none=q:=hq
    subst hq'
    exact ⟨rfl,rfl⟩
abbrev zEh2 (a:List Past) (b:Int):ST:={ n:=25,fr:=[(0,.p (.lst .past a)),(1,.i b),(4,.x (.c (.loc 0 0))),(5,.p (.bool false)),(6,.i 0)],ck:=[.cells [.i 0,.pd (.v (Value.slice none 0 0))] 40],kn:=[5] }
theorem Dn (h:(dN ps i).isSome=true):ah Tryz.prog 55 [.l .past ps,.i i] [] (.tup [.agg [.pd (.int .i64 i),.pd (.lst .int ((dN ps i).getD ⟨0,[]⟩).set)],.b true]) []:=by
 obtain ⟨p,hp⟩:=dq.1 h
 have hs:=(qG hp).2
 refine dg oW Tryz.func55 (.stop zEh1 (zEh2 ps i)) fun Γ=>?_
 refine J.len 0 rfl fun hm=>?_
 have h1:=Be ps i (some p) Γ hm ps.length 0 (by omega) (by omega) hp
 rw [hp]
 simp only [hs] at h1
 exact h1
theorem CO (h:dN ps i=none):ah Tryz.prog 55 [.l .past ps,.i i] [] (.tup [.agg [.pd (.int .i64 0),.pd (.v (.slice none 0 0))],.b false]) []:=by
 refine dg oW Tryz.func55 (.stop zEh1 (zEh2 ps i)) fun Γ=>?_
 exact J.len 0 rfl fun hm=>Be ps i none Γ hm ps.length 0 (by omega) (by omega) h
def rj:Ent:=(55,fun
 | [.c (.pd (.lst .past ps)),.c (.pd (.int .i64 i))],[]=>some (some ((dN ps i).isSome=true),.tup [.agg [.pd (.int .i64 i),.pd (.lst .int ((dN ps i).getD ⟨0,[]⟩).set)],.b true],[])
 | _,_=>none)
theorem Ga:EntOk Tryz.prog rj:=entOk fun vs ck=>by
 unfold rj; dsimp only; split
 · rename_i ps i; exact entS fun hp=>Dn ps i hp
 · exact entN
def qM:Ent:=(55,fun
 | [.c (.pd (.lst .past ps)),.c (.pd (.int .i64 i))],[]=>some (some (dN ps i=none),.tup [.agg [.pd (.int .i64 0),.pd (.v (.slice none 0 0))],.b false],[])
 | _,_=>none)
theorem FT:EntOk Tryz.prog qM:=entOk fun vs ck=>by
 unfold qM; dsimp only; split
 · rename_i ps i; exact entS fun hp=>CO ps i hp
 · exact entN
end Go.Proofs.YtgfifkhbfdacjaaGreatDoor
namespace Go.Proofs.YtgfifkhbfdacjaaGreatDoor
open Go Go.Ev
set_option maxRecDepth 100000
def A8 (P:Program) (root:Code) (p:List Nat) (i:Nat) (st:ST):Option (Option Prop×ST) :=
 match (opsOf (sub root p))[i]? with
 | some o=>match o.guard,o.dst,o.op with
   | none,some d,.slice t x lo hi none=>match bz st none x,P.underlying t,bnd st none lo,bnd st none hi with
     | some (.c (.own k)),some (.slice e),some lo',some hi'=>match st.ck[k]?,fe P e with
       | some (.own _ _ l),some _=>bif Nat.blt d st.n then some ((dW l lo' hi').1,{ st with fr:=gQ d st.fr }) else none
       | _,_=>none
     | _,_,_,_=>none
   | _,_,_=>none
 | none=>none
theorem J.peek {P:Program} {f:Go.Sy.Md} {root:Code} {Γ:Ctx} {Q:Out} {st st':ST} {p:List Nat} {i:Nat} {k:List PI} {q:Option Prop} (h:A8 P root p i st=some (q,st')) (hq:Holds q) (hk:J P f root Γ Q (.ops p (i+1)::k) st'):J P f root Γ Q (.ops p i::k) st:=by
 unfold A8 at h
 split at h
 · rename_i o ho
   split at h
   · rename_i d t x lo hi hg hd hop
     split at h
     · rename_i k0 e lo' hi' hx ht h1 h2
       split at h
       · rename_i e0 ty l n hc hn
         cases hbb:Nat.blt d st.n
         · rw [hbb] at h; cases h
         · rw [hbb] at h
           simp only [cond_true,aa,ae] at h
           obtain ⟨rfl,rfl⟩:=h
           have hdn:d<st.n:=aq hbb
           intro hT V a w r
           have hi':i<(opsOf (sub root p)).size:=(Array.getElem?_eq_some_iff.1 ho).1
           have hsz:(opsOf (sub root p)).size - i=((opsOf (sub root p)).size - (i+1))+1:=by omega
           obtain ⟨x0,y0,g1,g2,g3,g4,g5⟩:=n2 (g:=none) r trivial h1 h2 l hq
           have e1:SX.R V (.c (.own k0)) (a.eval x):=aI r (g:=none) trivial hx
           have e2:a.eval x=V.ov k0:=e1
           obtain ⟨xs,q1,_,_⟩:=r.wok.own k0 _ hc
           obtain ⟨ao,cp,q2,q3,_⟩:=qf q1
           rw [q2] at e2
           have hrun:(execOp a.eval o).run P w = .ok (.value (.slice (if cp=x0 then ao else ao.map (·.add (x0 * n))) (y0 - x0) (cp - x0))) w:=by
            obtain ⟨dst,op,ty',pos,after,guard⟩:=o
            simp only at hop
            subst hop
            simp only [execOp]
            rw [e2]
            exact bo (ku ht hn (rH g1 (g2 cp q3)))
           simp only [ax,PI.den]
           rw [hsz,bC]
           refine Go.Sy.Fin.op_value ho (by simp only [Region.wanted,hg]) hrun ?_
           rw [hd]
           exact hk hT V _ _ (r.forget d _ hdn)
       · cases h
     · cases h
   · cases h
 · cases h
/-! ### BinarySearchFunc -/
def ym:Cfg:=⟨aX,[]⟩
theorem nR:ag Tryz.prog ym.tab:=ag.nil
theorem KS (x:Past) (n:Int):ah Tryz.prog 52 [.e .past x,.i n] [] (.x (.i (IntKind.wrap .i64 (x.state - n)))) []:=by
 refine dg nR Tryz.func52 (.ret (.i (IntKind.wrap .i64 (Past.state x - n))) []) fun Γ=>⟨rfl,rfl⟩
def eBc:Ent:=(52,fun
 | [.agg [.pd (.int .i64 a),.pd (.lst .int b)],.c (.pd (.int .i64 n))],[]=>some (none,.x (.c (.pd (.int .i64 (IntKind.wrap .i64 (a - n))))),[])
 | _,_=>none)
theorem M3:EntOk Tryz.prog eBc:=entOk fun vs ck=>by
 unfold eBc; dsimp only; split
 · rename_i a b n; exact entS fun hp=>KS ⟨a,b⟩ n
 · exact entN
def yi:Cfg:=⟨aX,[eBc]⟩
theorem uU:ag Tryz.prog yi.tab:=(ag.cons M3 ag.nil)
theorem MP {a b:Nat} (h:a+b<1000000):IntKind.wrap .i64 (Int.fdiv (IntKind.wrap .u64 (IntKind.wrap .i64 ((a:Int)+(b:Int)))) (2 ^ 1))=(((a+b) / 2:Nat):Int):=by
 have e1:IntKind.wrap .i64 ((a:Int)+(b:Int))=((a+b:Nat):Int):=by rw [cn (by omega) (by omega)]; omega
 have e2:IntKind.wrap .u64 ((a+b:Nat):Int)=((a+b:Nat):Int):=by
  simp only [IntKind.wrap,IntKind.bits,IntKind.signed,bj,da,if_false]
  omega
 rw [e1,e2,Int.fdiv_eq_ediv_of_nonneg _ (by decide)]
 have e3:((a+b:Nat):Int) / 2 ^ 1=(((a+b) / 2:Nat):Int):=by omega
 rw [e3,cn (by omega) (by omega)]
abbrev zEm2:List PI:=[.code [1,1,1,0,0,0],.inLoop [1,1,1,0,0,0],.inBlock 0,.code [1,1,1,1]]
variable (l:List Past) (n:Int)
theorem Mz (hl:l.length≤1000) (hn:0≤n∧n≤1000) (hb:∀ p∈l,0≤p.state∧p.state<n) (Γ:Ctx):∀ (m i:Nat),l.length - i≤m→i≤l.length →
 J Tryz.prog 51 (au Tryz.f51) Γ (Eq2 (.tup [.c (.pd (.int .i64 (l.length:Int))),.c (.pd (.bool false))]) []) zEm2 ({ n:=49,fr:=[(0,.p (.lst .past l)),(1,.i n),(2,.x (.c (.fn (.func 52) [] []))),(6,.i 0),(7,.p (.bool false)),(8,.i l.length),(9,.i ((i:Int))),(10,.i l.length)],ck:=[],kn:=[7] }):=by
 have key:∀ j:Nat,j<l.length→IntKind.wrap .i64 ((ETy.get .past l j).state - n)<0∧(IntKind.wrap .i64 ((ETy.get .past l j).state - n)==0)=false:=fun j hj=>by
  have:=hb (ETy.get .past l j) (by rw [ETy.get_eq (t:=.past) (List.getElem?_eq_getElem hj)]; exact a8 hj)
  rw [cn (by omega) (by omega)]
  exact ⟨by omega,beq_false_of_ne (by omega)⟩
 intro m
 induction m with
 | zero=>?_
 | succ m ih=>?_
 all_goals
  intro i hm hi
  have hh:=MP (a:=i) (b:=l.length) (by omega)
  refine jg uU Tryz.func51 (let x1:=(Int.fdiv (IntKind.wrap .u64 (IntKind.wrap .i64 ((i:Int)+(l.length:Int)))) ((2:Int) ^ 1)); let x2:List PI:=zEm2; let x3:=((i:Int)<(l.length:Int)); .ite (decide x3) (.need ((0:Int)≤1) (.need ((0:Int)≤IntKind.wrap .i64 x1∧IntKind.wrap .i64 x1<(l.length:Int)) (.ite (decide (IntKind.wrap .i64 (Past.state (ETy.get .past l ((IntKind.wrap .i64 x1).toNat)) - n)<(0:Int))) (.stop x2 { n:=49,fr:=[(0,.p (.lst .past l)),(1,.i n),(2,.x (.c (.fn (.func 52) [] []))),(6,.i 0),(7,.p (.bool false)),(8,.i l.length),(9,.i (IntKind.wrap .i64 (IntKind.wrap .i64 x1+(1:Int)))),(10,.i l.length)],ck:=[],kn:=[7] }) (.stop x2 { n:=49,fr:=[(0,.p (.lst .past l)),(1,.i n),(2,.x (.c (.fn (.func 52) [] []))),(6,.i 0),(7,.p (.bool false)),(8,.i l.length),(9,.i i),(10,.i (IntKind.wrap .i64 x1))],ck:=[],kn:=[7] })))) (.need (decide x3=true→(0:Int)≤(i:Int)∧(i:Int)<(l.length:Int)) (.ret (.tup [.i i,.p (.bool (decide x3&&IntKind.wrap .i64 (Past.state (ETy.get .past l i) - n)==(0:Int)))]) []))) ?_
  conv=>zeta
  rw [hh]
  refine ⟨fun hlt=>?_,fun hge=>?_⟩
  · have hi':i<l.length:=by have:=of_decide_eq_true hlt; omega
    have hx:(i+l.length) / 2<l.length:=by omega
    refine ⟨by omega,⟨by omega,by omega⟩,fun h1=>?_,fun h1=>?_⟩
    · rw [aV (by omega)]
      first
      | (exfalso; omega)
      | exact ih ((i+l.length) / 2+1) (by omega) (by omega)
    · exact absurd (key _ hx).1 (of_decide_eq_false h1)
  · have e:i=l.length:=by have:=of_decide_eq_false hge; omega
    subst e
    refine ⟨fun h=>absurd (of_decide_eq_true h) (by omega),?_,rfl⟩
    rw [decide_eq_false (by omega),bj]
theorem Mp (h:l.length≤1000∧(0≤n∧n≤1000)∧∀ p∈l,0≤p.state∧p.state<n):ah Tryz.prog 51 [.l .past l,.i n,.c (.fn (.func 52) [] [])] [] (.tup [.c (.pd (.int .i64 (l.length:Int))),.c (.pd (.bool false))]) []:=by
 refine dg uU Tryz.func51 (.stop zEm2 { n:=49,fr:=[(0,.p (.lst .past l)),(1,.i n),(2,.x (.c (.fn (.func 52) [] []))),(6,.i 0),(7,.p (.bool false)),(8,.i l.length),(9,.i 0),(10,.i l.length)],ck:=[],kn:=[7] }) fun Γ=>?_
 exact Mz l n h.1 h.2.1 h.2.2 Γ l.length 0 (by omega) (by omega)
def eBs:Ent:=(51,fun
 | [.c (.pd (.lst .past l)),.c (.pd (.int .i64 n)),.c (.fn (.func 52) [] [])],[]=>some (some (l.length≤1000∧(0≤n∧n≤1000)∧∀ p∈l,0≤p.state∧p.state<n),.tup [.c (.pd (.int .i64 (l.length:Int))),.c (.pd (.bool false))],[])
 | _,_=>none)
theorem NZ:EntOk Tryz.prog eBs:=entOk fun vs ck=>by
 unfold eBs; dsimp only; split
 · rename_i l n; exact entS fun hp=>Mp l n hp
 · exact entN
/-! ### Insert -/
abbrev zEm1 (a:List Past) (b:Past):ST:={ n:=95,fr:=[(0,.x (.c (.own 0))),(1,.i a.length),(2,.x (.c (.own 1))),(6,.p (.v (Value.slice none 0 0))),(10,.x (.c (.own 0))),(11,.i a.length)],ck:=[.own 40 .past a,.own 40 .past [b]],m:=2 }
abbrev zEm3 (a:Past) (b:List Past):List Chunk:=[.dead,.own 40 .past [a],.own 40 .past (b++[a])]
theorem HY (p:Past) (h:room (l.length+1) 32):ah Tryz.prog 53 [.c (.own 0),.i (l.length:Int),.c (.own 1)] [Chunk.own 40 ETy.past l,Chunk.own 40 ETy.past [p]] (.x (.c (.own 2))) (zEm3 p l):=by
 refine ah.of Tryz.func53 (by kernel_rfl) (by kernel_rfl) fun Γ=>?_
 have h1:J Tryz.prog 53 (au Tryz.f53) Γ (Eq2 (.x (.c (.own 2))) (zEm3 p l)) [.ops [1,0] 3,.code [1,1]] ((zEm1 l p)):=by
  refine jg nR Tryz.func53 (.ite false (.ret (.x (.c (.own 0))) [.own 40 .past l,.own 40 .past [p]]) (.ite ((l.length:Int)==(l.length:Int)) (.need (room ((l++[p]).length) 32) (.ret (.x (.c (.own 2))) (zEm3 p l))) (.stop [.ops [1,1,1,1,1,1,0,0] 4,.code [1,1,1,1,1,1,0,1],.code [1,1,1,1,1,1,1]] { n:=95,fr:=[(0,.x (.c (.own 0))),(1,.i l.length),(2,.x (.c (.own 1))),(6,.p (.v (Value.slice none 0 0))),(7,.i (↑(List.length [p]):Int)),(8,.i l.length),(28,.i (IntKind.wrap .i64 ((l.length:Int)+(↑(List.length [p]):Int)))),(29,.x (.c (.own 0)))],ck:=[.own 40 .past l,.own 40 .past [p]],m:=2 }))) ?_
  exact ⟨fun h=>(by cases h),fun _=>⟨fun _=>⟨by rw [an]; exact h,rfl,rfl⟩,fun h=>by simp at h⟩⟩
 have h2:J Tryz.prog 53 (au Tryz.f53) Γ (Eq2 (.x (.c (.own 2))) (zEm3 p l)) [.ops [1,0] 2,.code [1,1]] ((zEm1 l p)):=J.peek (q:=some (0≤(l.length:Int)∧(l.length:Int)≤(l.length:Int))) (by kernel_rfl) ⟨by omega,by omega⟩ h1
 exact J.go (fn:=Tryz.f53) nR Tryz.func53 8 (t:=.stop _ _) (by kernel_rfl) h2
def vZ:Ent:=(53,fun
 | [.c (.own 0),.c (.pd (.int .i64 n)),.c (.own 1)],[.own T .past l,.own T2 .past [p]]=>some (some (T=40∧T2=40∧n=(l.length:Int)∧room (l.length+1) 32),.x (.c (.own 2)),[.dead,.own 40 .past [p],.own 40 .past (l++[p])])
 | _,_=>none)
theorem Jj:EntOk Tryz.prog vZ:=entOk fun vs ck=>by
 unfold vZ; dsimp only; split
 · rename_i n T l T2 p; exact entS fun hp=>by obtain ⟨rfl,rfl,rfl,h⟩:=hp; exact HY l p h
 · exact entN
end Go.Proofs.YtgfifkhbfdacjaaGreatDoor
namespace Go.Proofs.YtgfifkhbfdacjaaGreatDoor
open Go Go.Ev
set_option maxRecDepth 100000
def yM:Cfg:=⟨aX,[gr,iG,rj,s7,jV]⟩
theorem uZ:ag Tryz.prog yM.tab:=(ag.cons fG (ag.cons gd (ag.cons Ga (ag.cons tM (ag.cons oH ag.nil)))))
def Gu:Cfg:=⟨aX,[gr,iG,qM,s7,jV]⟩
theorem FK:ag Tryz.prog Gu.tab:=(ag.cons fG (ag.cons gd (ag.cons FT (ag.cons tM (ag.cons oH ag.nil)))))
def D8:Cfg:=⟨aX,[iG,s7,pE]⟩
theorem F5:ag Tryz.prog D8.tab:=(ag.cons gd (ag.cons tM (ag.cons qv ag.nil)))
theorem room_le {n b:Nat} (h:n≤100000) (hb:b≤1000):room n b:=⟨aw (Nat.mul_le_mul h hb) (by decide),by unfold maxLen; omega⟩
variable (l:List Ev.Stat) (c:Chart) (s lv:List Int) (i:Nat) (u:Int)
def qg (i:Nat) (k:Int):Bool:=(ETy.get .stat l i).kind==5&&aN l k.toNat==u||(ETy.get .stat l i).kind==6&&(inB lv k&&eQ l u k.toNat)
abbrev zEi1 (a:Chart):Chunk:=.cells [.pd (.str a.name),.pd (.lst .str a.events),.pd (.lst .var a.vars),.pd (.lst .stat a.states),.pd (.lst .tran a.trans)] 27
abbrev zEi2:List PI:=[.code [1,1,0,1,0,0],.inLoop [1,1,0,1,0,0],.inBlock 0,.code [1,1,1]]
theorem xB (l left lv:List Int) (ps out:List Past) (i:Nat) (u:Int) (Γ:Ctx) (Q:Out) (hi:i<c.states.length) (hl:l.length≤1000∧∀ y∈l,0≤y∧y<(c.states.length:Int)) (hm:c.states.length≤1000) (ho:out.length≤1000)
 (hcont:J Tryz.prog 21 (au Tryz.f21) Γ Q zEi2 ({ n:=124,fr:=[(1,.p (.lst .int l)),(2,.p (.lst .int left)),(3,.p (.lst .past ps)),(4,.x (.c (.loc 0 0))),(8,.p (.v (Value.slice none 0 0))),(9,.x (.c (.own 1))),(10,.i ((IntKind.wrap .i64 ((i:Int)+1))))],ck:=[zEi1 c,.own 40 .past (out++[⟨(i:Int),l.filter (qg c.states lv u i)⟩])] })):∀ (n k:Nat),l.length - k≤n→k≤l.length→∀ set,set=(l.take k).filter (qg c.states lv u i) →
 J Tryz.prog 21 (au Tryz.f21) Γ Q [.code [1,1,0,1,0,0,1,0,0,1,1,1,0,1,0,1,1,1,1,0,0],.inLoop [1,1,0,1,0,0,1,0,0,1,1,1,0,1,0,1,1,1,1,0,0],.inBlock 2,.code [1,1,0,1,0,0,1,0,0,1,1,1,1],.inBlock 1,.code [1,1,0,1,0,0,1,1],.inLoop [1,1,0,1,0,0],.inBlock 0,.code [1,1,1]] ({ n:=124,fr:=[(1,.p (.lst .int l)),(2,.p (.lst .int left)),(3,.p (.lst .past ps)),(4,.x (.c (.loc 0 0))),(8,.p (.v (Value.slice none 0 0))),(9,.x (.c (.own 1))),(10,.i i),(11,.i u),(12,.x (.c (.loc 2 0))),(13,.p (.bool true)),(14,.p (.lst .int lv)),(15,.i ((k:Int)))],ck:=[zEi1 c,.own 40 .past out,.cells [SC.i i,.own 3] 40,.own 3 .int set],kn:=[13] }):=by
 have hml:l.length≤maxLen:=by unfold maxLen; omega
 have hmc:c.states.length≤maxLen:=by unfold maxLen; omega
 intro n
 induction n with
 | zero=>?_
 | succ n ih=>?_
 all_goals
  intro k hn hk set hs
  refine jg F5 Tryz.func21 (let x4:List Nat:=[1,1,0,1,0,0,1,0,0,1,1,1,0,1,0,1,1,1,1,0,0]; let x1:List PI:=[.code x4,.inLoop x4,.inBlock 2,.code [1,1,0,1,0,0,1,0,0,1,1,1,1],.inBlock 1,.code [1,1,0,1,0,0,1,1],.inLoop [1,1,0,1,0,0],.inBlock 0,.code [1,1,1]]; let x2:List (Nat×SV):=[(1,.p (.lst .int l)),(2,.p (.lst .int left)),(3,.p (.lst .past ps)),(4,.x (.c (.loc 0 0))),(8,.p (.v (Value.slice none 0 0))),(9,.x (.c (.own 1))),(10,.i i),(11,.i u),(12,.x (.c (.loc 2 0))),(13,.p (.bool true)),(14,.p (.lst .int lv)),(15,.i (IntKind.wrap .i64 ((k:Int)+1)))]; let x3:=(((6,77,true,cV true (inB lv (ETy.get .int l k)) none).2).2); let x5:=(ETy.get .stat c.states i); let x6:=((ETy.get .int l k).toNat); let x7:=(out++[{ state:=(i:Int),set:=set }]); let x8:=(c.states.length:Int); .ite (decide ((k:Int)<(l.length:Int))) (.need (inRg k l.length) (.need ((0:Int)≤ETy.get .int l k∧ETy.get .int l k<x8∧c.states.length≤maxLen) (.need (inRg k l.length) (.need (x3.2→(0:Int)≤(k:Int)∧(k:Int)<(l.length:Int)) (.need (x3.2→(0:Int)≤ETy.get .int l k∧ETy.get .int l k<x8∧c.states.length≤maxLen) (.need (inRg i c.states.length) (.need ((Stat.kind x5==(5:Int)&&aN c.states x6==u)=false→(0:Int)≤(i:Int)∧(i:Int)<x8) (.ite (Stat.kind x5==(5:Int)&&aN c.states x6==u||Stat.kind x5==(6:Int)&&(inB lv (ETy.get .int l k)&&eQ c.states u x6)) (.need (inRg k l.length) (.need (room ((set++[ETy.get .int l k]).length) 8) (.stop x1 { n:=124,fr:=x2,ck:=[zEi1 c,.own 40 .past out,.cells [.i i,.own 3] 40,.own 3 .int (set++[ETy.get .int l k])] }))) (.stop x1 { n:=124,fr:=x2,ck:=[zEi1 c,.own 40 .past out,.cells [.i i,.own 3] 40,.own 3 .int set] }))))))))) (.need (room (List.length x7) 32) (.stop zEi2 { n:=124,fr:=[(1,.p (.lst .int l)),(2,.p (.lst .int left)),(3,.p (.lst .past ps)),(4,.x (.c (.loc 0 0))),(8,.p (.v (Value.slice none 0 0))),(9,.x (.c (.own 1))),(10,.i (IntKind.wrap .i64 ((i:Int)+1)))],ck:=[zEi1 c,.own 40 .past x7] }))) ?_
  conv=>zeta
  refine ⟨fun hlt=>?_,fun hge=>?_⟩
  · have hk':k<l.length:=by have:=of_decide_eq_true hlt; omega
    have hy:=hl.2 (ETy.get .int l k) (by rw [ETy.get_eq (t:=.int) (List.getElem?_eq_getElem hk')]; exact a8 hk')
    have ht:=iu l (qg c.states lv u i) hk'
    have hsl:set.length≤1000:=by
     rw [hs]
     have:=a6 (qg c.states lv u i) (l.take k)
     have:=List.length_take_le k l
     omega
    refine ⟨⟨by omega,by omega⟩,⟨hy.1,hy.2,hmc⟩,⟨by omega,by omega⟩,fun _=>⟨by omega,by omega⟩,fun _=>⟨hy.1,hy.2,hmc⟩,⟨by omega,by omega⟩,fun _=>⟨by omega,by omega⟩,fun hb=>?_,fun hb=>?_⟩
    · have hb':qg c.states lv u i (ETy.get .int l k)=true:=hb
      rw [hb',if_pos rfl,← hs] at ht
      refine ⟨⟨by omega,by omega⟩,room_le (by rw [an,dc]; omega) (by omega),?_⟩
      rw [aV (aC hk' hml)]
      first
      | (exfalso; omega)
      | exact J.kn [13] (ih (k+1) (by omega) (by omega) _ ht.symm)
    · have hb':qg c.states lv u i (ETy.get .int l k)=false:=hb
      rw [hb',if_neg (by decide),aH,← hs] at ht
      rw [aV (aC hk' hml)]
      first
      | (exfalso; omega)
      | exact J.kn [13] (ih (k+1) (by omega) (by omega) _ ht.symm)
  · have e:l.take k=l:=aQ (by have:=of_decide_eq_false hge; omega)
    rw [e] at hs
    subst hs
    exact ⟨room_le (by rw [an,dc]; omega) (by omega),hcont⟩
def ta (left:List Int) (ps:List Past) (n:Nat):List Past:=(List.range n).filterMap (fq l s left ps)
theorem Fx (left:List Int) (ps:List Past) (n:Nat):ta l s left ps (n+1)=ta l s left ps n++(match fq l s left ps n with | some p=>[p] | none=>[]):=by
 unfold ta
 rw [dB,List.filterMap_append]
 cases h:fq l s left ps n <;> simp [h]
theorem G6 (left:List Int) (ps:List Past) (n:Nat):(ta l s left ps n).length≤n:=by
 unfold ta
 exact aw (List.length_filterMap_le _ _) (by simp)
theorem Eo:s.filter (qg l (b9 l s) (aN l i) i)=mV l s i:=rfl
theorem Mu (l left:List Int) (ps:List Past) (Γ:Ctx) (hl:l.length≤1000∧∀ y∈l,0≤y∧y<(c.states.length:Int)) (hm:c.states.length≤1000):∀ (n i:Nat),c.states.length - i≤n→i≤c.states.length→∀ out,out=ta c.states l left ps i →
 J Tryz.prog 21 (au Tryz.f21) Γ (Eq2 (.x (.c (.own 0))) [.own 40 .past (nZ c.states l left ps)]) zEi2 ({ n:=124,fr:=[(1,.p (.lst .int l)),(2,.p (.lst .int left)),(3,.p (.lst .past ps)),(4,.x (.c (.loc 0 0))),(8,.p (.v (Value.slice none 0 0))),(9,.x (.c (.own 1))),(10,.i ((i:Int)))],ck:=[zEi1 c,.own 40 .past out] }):=by
 have hmc:c.states.length≤maxLen:=by unfold maxLen; omega
 intro n
 induction n with
 | zero=>?_
 | succ n ih=>?_
 all_goals
  intro i hn hi out ho
  have hol:out.length≤i:=by rw [ho]; exact G6 _ _ _ _ _
  have ht:=Fx c.states l left ps i
  rw [← ho] at ht
  cases hf:(dN ps (i:Int)).isSome
  · have hf':dN ps (i:Int)=none:=by simpa using hf
    refine jg FK Tryz.func21 (let x3:List PI:=zEi2; let x7:=(Value.slice none 0 0); let x2:List (Nat×SV):=[(1,.p (.lst .int l)),(2,.p (.lst .int left)),(3,.p (.lst .past ps)),(4,.x (.c (.loc 0 0))),(8,.p (.v x7)),(9,.x (.c (.own 1))),(10,.i (IntKind.wrap .i64 ((i:Int)+1)))]; let x1:Tree:=(.stop x3 { n:=124,fr:=x2,ck:=[zEi1 c,.own 40 .past out] }); let x4:List Nat:=[1,1,0,1,0,0,1,0,0,1,1,1,0,1,0,1,1,1,1,0,0]; let x5:=(out++[{ state:=(0:Int),set:=[] }]); let x6:=(c.states.length:Int); .ite (decide ((i:Int)<x6)) (.need (inRg i c.states.length) (.ite (!aM (Stat.kind (ETy.get .stat c.states i))) x1 (.need ((0:Int)≤(i:Int)∧(i:Int)<x6∧c.states.length≤maxLen) (.need (dN ps (i:Int)=none) (.ite (inB left (aN c.states i)&&inB l (aN c.states i)) (.need (l.length≤1000∧∀ (y:ETy.den .int),y∈l→(0:ETy.den .int)≤y∧y<x6) (.stop [.code x4,.inLoop x4,.inBlock 2,.code [1,1,0,1,0,0,1,0,0,1,1,1,1],.inBlock 1,.code [1,1,0,1,0,0,1,1],.inLoop [1,1,0,1,0,0],.inBlock 0,.code [1,1,1]] { n:=124,fr:=[(1,.p (.lst .int l)),(2,.p (.lst .int left)),(3,.p (.lst .past ps)),(4,.x (.c (.loc 0 0))),(8,.p (.v x7)),(9,.x (.c (.own 1))),(10,.i i),(11,.i (aN c.states i)),(12,.x (.c (.loc 2 0))),(13,.p (.bool true)),(14,.p (.lst .int (b9 c.states l))),(15,.i 0)],ck:=[zEi1 c,.own 40 .past out,.cells [.i i,.pd (.v x7)] 40],kn:=[13] })) (.ite false (.need (room (List.length x5) 32) (.stop x3 { n:=124,fr:=x2,ck:=[zEi1 c,.own 40 .past x5] })) x1)))))) (.ret (.x (.c (.own 0))) [.own 40 .past out])) ?_
    conv=>zeta
    refine ⟨fun hlt=>?_,fun hge=>?_⟩
    · have hi':i<c.states.length:=by have:=of_decide_eq_true hlt; omega
      have hw:IntKind.wrap .i64 ((i:Int)+1)=((i+1:Nat):Int):=aV (aC hi' hmc)
      refine ⟨⟨by omega,by omega⟩,fun hb=>?_,fun hb=>⟨⟨by omega,by omega,hmc⟩,hf',fun hb2=>⟨hl,?_⟩,fun hb2=>⟨fun h=>(by cases h),fun _=>?_⟩⟩⟩
      · have hb':aM (ETy.get .stat c.states i).kind=false:=by have h:(!aM (ETy.get .stat c.states i).kind)=true:=hb; simpa using h
        have e:fq c.states l left ps i=none:=by unfold fq; rw [hb']; rfl
        rw [e,aH] at ht
        rw [hw]
        first
        | (exfalso; omega)
        | exact ih (i+1) (by omega) (by omega) _ ht.symm
      · have hb':aM (ETy.get .stat c.states i).kind=true:=by have h:(!aM (ETy.get .stat c.states i).kind)=false:=hb; simpa using h
        have hb2':(inB left (aN c.states i)&&inB l (aN c.states i))=true:=hb2
        have e:fq c.states l left ps i=some ⟨(i:Int),mV c.states l i⟩:=by unfold fq; rw [hb',if_pos rfl,if_pos hb2']
        rw [e] at ht
        refine J.nilCk 2 1 3 .int rfl rfl (by kernel_rfl) ?_
        refine xB c l left (b9 c.states l) ps out i (aN c.states i) Γ _ hi' hl hm (by omega) ?_ l.length 0 (by omega) (by omega) [] (by simp)
        rw [hw,Eo]
        first
        | (exfalso; omega)
        | exact ih (i+1) (by omega) (by omega) _ ht.symm
      · have hb2':(inB left (aN c.states i)&&inB l (aN c.states i))=false:=hb2
        have e:fq c.states l left ps i=none:=by unfold fq; rw [hb2',hf']; simp
        rw [e,aH] at ht
        rw [hw]
        first
        | (exfalso; omega)
        | exact ih (i+1) (by omega) (by omega) _ ht.symm
    · have e:i=c.states.length:=by have:=of_decide_eq_false hge; omega
      subst e
      rw [ho]; exact ⟨rfl,rfl⟩
  · refine jg uZ Tryz.func21 (let x4:List PI:=zEi2; let x7:=(Value.slice none 0 0); let x2:List (Nat×SV):=[(1,.p (.lst .int l)),(2,.p (.lst .int left)),(3,.p (.lst .past ps)),(4,.x (.c (.loc 0 0))),(8,.p (.v x7)),(9,.x (.c (.own 1))),(10,.i (IntKind.wrap .i64 ((i:Int)+1)))]; let x1:Tree:=(.stop x4 { n:=124,fr:=x2,ck:=[zEi1 c,.own 40 .past out] }); let x3:=(out++[{ state:=(i:Int),set:=Past.set (Option.getD (dN ps (i:Int)) { state:=(0:Int),set:=[] }) }]); let x5:List Nat:=[1,1,0,1,0,0,1,0,0,1,1,1,0,1,0,1,1,1,1,0,0]; let x6:=(c.states.length:Int); .ite (decide ((i:Int)<x6)) (.need (inRg i c.states.length) (.ite (!aM (Stat.kind (ETy.get .stat c.states i))) x1 (.need ((0:Int)≤(i:Int)∧(i:Int)<x6∧c.states.length≤maxLen) (.need (Option.isSome (dN ps (i:Int))=true) (.ite (inB left (aN c.states i)&&inB l (aN c.states i)) (.need (l.length≤1000∧∀ (y:ETy.den .int),y∈l→(0:ETy.den .int)≤y∧y<x6) (.stop [.code x5,.inLoop x5,.inBlock 2,.code [1,1,0,1,0,0,1,0,0,1,1,1,1],.inBlock 1,.code [1,1,0,1,0,0,1,1],.inLoop [1,1,0,1,0,0],.inBlock 0,.code [1,1,1]] { n:=124,fr:=[(1,.p (.lst .int l)),(2,.p (.lst .int left)),(3,.p (.lst .past ps)),(4,.x (.c (.loc 0 0))),(8,.p (.v x7)),(9,.x (.c (.own 1))),(10,.i i),(11,.i (aN c.states i)),(12,.x (.c (.loc 2 0))),(13,.p (.bool true)),(14,.p (.lst .int (b9 c.states l))),(15,.i 0)],ck:=[zEi1 c,.own 40 .past out,.cells [.i i,.pd (.v x7)] 40],kn:=[13] })) (.ite true (.need (room (List.length x3) 32) (.stop x4 { n:=124,fr:=x2,ck:=[zEi1 c,.own 40 .past x3] })) x1)))))) (.ret (.x (.c (.own 0))) [.own 40 .past out])) ?_
    conv=>zeta
    refine ⟨fun hlt=>?_,fun hge=>?_⟩
    · have hi':i<c.states.length:=by have:=of_decide_eq_true hlt; omega
      have hw:IntKind.wrap .i64 ((i:Int)+1)=((i+1:Nat):Int):=aV (aC hi' hmc)
      refine ⟨⟨by omega,by omega⟩,fun hb=>?_,fun hb=>⟨⟨by omega,by omega,hmc⟩,hf,fun hb2=>⟨hl,?_⟩,fun hb2=>⟨fun _=>?_,fun h=>(by cases h)⟩⟩⟩
      · have hb':aM (ETy.get .stat c.states i).kind=false:=by have h:(!aM (ETy.get .stat c.states i).kind)=true:=hb; simpa using h
        have e:fq c.states l left ps i=none:=by unfold fq; rw [hb']; rfl
        rw [e,aH] at ht
        rw [hw]
        first
        | (exfalso; omega)
        | exact ih (i+1) (by omega) (by omega) _ ht.symm
      · have hb':aM (ETy.get .stat c.states i).kind=true:=by have h:(!aM (ETy.get .stat c.states i).kind)=false:=hb; simpa using h
        have hb2':(inB left (aN c.states i)&&inB l (aN c.states i))=true:=hb2
        have e:fq c.states l left ps i=some ⟨(i:Int),mV c.states l i⟩:=by unfold fq; rw [hb',if_pos rfl,if_pos hb2']
        rw [e] at ht
        refine J.nilCk 2 1 3 .int rfl rfl (by kernel_rfl) ?_
        refine xB c l left (b9 c.states l) ps out i (aN c.states i) Γ _ hi' hl hm (by omega) ?_ l.length 0 (by omega) (by omega) [] (by simp)
        rw [hw,Eo]
        first
        | (exfalso; omega)
        | exact ih (i+1) (by omega) (by omega) _ ht.symm
      · have hb':aM (ETy.get .stat c.states i).kind=true:=by have h:(!aM (ETy.get .stat c.states i).kind)=false:=hb; simpa using h
        have hb2':(inB left (aN c.states i)&&inB l (aN c.states i))=false:=hb2
        obtain ⟨p,hp⟩:=dq.1 hf
        have hst:=(qG hp).2
        have e:fq c.states l left ps i=some ⟨(i:Int),((dN ps (i:Int)).getD ⟨0,[]⟩).set⟩:=by
         unfold fq; rw [hb',if_pos rfl,hb2',if_neg (by decide),hp]
         cases p
         have hst':_=(i:Int):=hst
         rw [← hst']; rfl
        rw [e] at ht
        refine ⟨room_le (by rw [an,dc]; omega) (by omega),?_⟩
        rw [hw]
        first
        | (exfalso; omega)
        | exact ih (i+1) (by omega) (by omega) _ ht.symm
    · have e:i=c.states.length:=by have:=of_decide_eq_false hge; omega
      subst e
      rw [ho]; exact ⟨rfl,rfl⟩
theorem EI (l left:List Int) (ps:List Past) (h:c.states.length≤1000∧l.length≤1000∧∀ y∈l,0≤y∧y<(c.states.length:Int)):ah Tryz.prog 21 [.e .chart c,.l .int l,.l .int left,.l .past ps] [] (.x (.c (.own 0))) [.own 40 .past (nZ c.states l left ps)]:=by
 refine dg uZ Tryz.func21 (.stop zEi2 { n:=124,fr:=[(1,.p (.lst .int l)),(2,.p (.lst .int left)),(3,.p (.lst .past ps)),(4,.x (.c (.loc 0 0))),(8,.p (.v (Value.slice none 0 0))),(9,.p (.v (Value.slice none 0 0))),(10,.i 0)],ck:=[zEi1 c] }) fun Γ=>?_
 refine J.nilOwn 9 40 .past rfl (by kernel_rfl) ?_
 exact Mu c l left ps Γ h.2 h.1 c.states.length 0 (by omega) (by omega) [] rfl
theorem CG (l left:List Int) (ps:List Past) (h:c.states.length≤1000∧l.length≤1000∧∀ y∈l,0≤y∧y<(c.states.length:Int)):ah Tryz.prog 21 [.e .chart c,.l .int l,.l .int left,.l .past ps] [] (.x (.c (.pd (.lst .past (nZ c.states l left ps))))) []:=ah.chop (ck':=[]) (ah.frz aX [0] (EI c l left ps h) rfl rfl)
def vE:Ent:=(21,fun
 | [.agg [.pd (.str a),.pd (.lst .str b),.pd (.lst .var c),.pd (.lst .stat d),.pd (.lst .tran e)],.c (.pd (.lst .int l)),.c (.pd (.lst .int left)),.c (.pd (.lst .past ps))],[]=>some (some (d.length≤1000∧l.length≤1000∧∀ y∈l,0≤y∧y<(d.length:Int)),.x (.c (.pd (.lst .past (nZ d l left ps)))),[])
 | _,_=>none)
theorem Ih:EntOk Tryz.prog vE:=entOk fun vs ck=>by
 unfold vE; dsimp only; split
 · rename_i a b c d e l left ps; exact entS fun hp=>CG ⟨a,b,c,d,e⟩ l left ps hp
 · exact entN
end Go.Proofs.YtgfifkhbfdacjaaGreatDoor

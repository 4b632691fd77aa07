/- Contracts of the program's functions on kinds. Conditions: none. The contract of the program's kinds.Of. Conditions: none. -/
import Derived.Test.YtcopfgbbjdefbaaGreatDoorFa
namespace Go.Proofs.YtcopfgbbjdefbaaGreatDoor
open Go Go.Ev
set_option maxRecDepth 100000
abbrev zFb1:List Chunk:=[.own 238 .krow [{ low:=(7:Int),high:=(7:Int),left:=(1:Int),right:=(0:Int),out:=(1:Int) },{ low:=(7:Int),high:=(7:Int),left:=(3:Int),right:=(0:Int),out:=(3:Int) },{ low:=(8:Int),high:=(8:Int),left:=(2:Int),right:=(0:Int),out:=(2:Int) },{ low:=(9:Int),high:=(10:Int),left:=(3:Int),right:=(0:Int),out:=(1:Int) },{ low:=(11:Int),high:=(15:Int),left:=(1:Int),right:=(1:Int),out:=(1:Int) },{ low:=(11:Int),high:=(13:Int),left:=(3:Int),right:=(3:Int),out:=(3:Int) },{ low:=(16:Int),high:=(21:Int),left:=(1:Int),right:=(1:Int),out:=(2:Int) },{ low:=(16:Int),high:=(17:Int),left:=(2:Int),right:=(2:Int),out:=(2:Int) },{ low:=(16:Int),high:=(17:Int),left:=(3:Int),right:=(3:Int),out:=(2:Int) },{ low:=(22:Int),high:=(23:Int),left:=(2:Int),right:=(2:Int),out:=(2:Int) }]]
theorem CK:ag Tryz.prog 241 [] [] (.x (.c (.own 0))) [.own 238 .krow oa]:=by
 refine dg aT Tryz.func241 (.ret (.x (.c (.own 0))) zFb1) fun Γ=>?_
 exact ⟨rfl,rfl⟩
def th:Ent:=(241,fun
 | [],[]=>some (none,.x (.c (.own 0)),[.own 238 .krow oa])
 | _,_=>none)
theorem Ft:EntOk Tryz.prog th:=entOk fun vs ck=>by
 unfold th; dsimp only; split
 · exact entS fun hp=>CK
 · exact entN
def xB:Cfg:=⟨bk,[th]⟩
theorem AT:ah Tryz.prog xB.tab:=(ah.cons Ft ah.nil)
abbrev zFb2:List PI:=[.code [1,0,1,0,0],.inLoop [1,0,1,0,0],.inBlock 0,.code [1,1]]
variable (l:List Str) (op:Int) (vs:List Var) (c:Cell) (s:Str) (Γ:Ctx)
theorem BI (l r:Int) (ks:List KRow) (Γ:Ctx) (hl:ks.length≤100):∀ (n k:Nat),ks.length - k≤n→k≤ks.length →
 J Tryz.prog 188 (aw Tryz.f188) Γ (Eq2 (.x (.i (gG op l r (ks.drop k)))) []) zFb2 ({ n:=40,fr:=[(0,.i op),(1,.i l),(2,.i r),(6,.i 0),(9,.x (.c (.own 0))),(10,.i ks.length),(11,.i k)],ck:=[.own 238 .krow ks] }):=by
 intro n
 induction n with
 | zero=>?_
 | succ n ih=>?_
 all_goals
  intro k hn hk
  refine jg aT Tryz.func188 (.ite (decide ((k:Int)<(ks.length:Int))) (.need (inRg k ks.length) (.need (k<ks.length) (.ite (decide (op≥KRow.low (ETy.get .krow ks k))&&decide (op≤KRow.high (ETy.get .krow ks k))&&l==KRow.left (ETy.get .krow ks k)&&r==KRow.right (ETy.get .krow ks k)) (.ret (.i (KRow.out (ETy.get .krow ks k))) []) (.stop zFb2 { n:=40,fr:=[(0,.i op),(1,.i l),(2,.i r),(6,.i 0),(9,.x (.c (.own 0))),(10,.i ks.length),(11,.i (IntKind.wrap .i64 ((k:Int)+1)))],ck:=[.own 238 .krow ks] })))) (.ret (.i 0) [])) ?_
  refine ⟨fun hlt=>?_,fun hge=>⟨?_,rfl⟩⟩
  · have hk':k<ks.length:=by have:=of_decide_eq_true hlt; omega
    rw [bL (t:=.krow) hk']
    refine ⟨by omega,hk',?_⟩
    generalize ETy.get .krow ks k=c
    refine ⟨fun hb=>⟨?_,rfl⟩,fun hb=>?_⟩
    · have hb':tq op l r c=true:=hb
      simp only [gG,hb',cond_true]
    · have hb':tq op l r c=false:=hb
      simp only [gG,hb',cond_false]
      rw [aZ (by omega)]
      first
      | (exfalso; omega)
      | exact ih (k+1) (by omega) (by omega)
  · rw [bY (by have:=of_decide_eq_false hge; omega)]; rfl
theorem C2 (l r:Int):ag Tryz.prog 188 [.i op,.i l,.i r] [] (.x (.i (cC op l r))) []:=by
 refine dg AT Tryz.func188 (.stop zFb2 { n:=40,fr:=[(0,.i op),(1,.i l),(2,.i r),(6,.i 0),(9,.x (.c (.own 0))),(10,.i (↑(10:Nat):Int)),(11,.i 0)],ck:=zFb1 }) fun Γ=>?_
 exact BI op l r oa Γ (by decide) oa.length 0 (by omega) (by omega)
def sX:Ent:=(188,fun
 | [.c (.pd (.int .i64 op)),.c (.pd (.int .i64 l)),.c (.pd (.int .i64 r))],[]=>some (none,.x (.c (.pd (.int .i64 (cC op l r)))),[])
 | _,_=>none)
theorem Ff:EntOk Tryz.prog sX:=entOk fun vs ck=>by
 unfold sX; dsimp only; split
 · rename_i op l r; exact entS fun hp=>C2 op l r
 · exact entN
theorem oL {α:Type} (p:α→Bool):∀ (l:List α) (i:Int),0≤i→(aJ p l i≥0↔l.any p=true)
 | [],i,_=>by simp [aJ]
 | x::r,i,h=>by
   have ih:=oL p r (i+1) (by omega)
   unfold aJ
   rw [cI]
   cases hp:p x
   · simpa using ih
   · simpa using h
theorem kS {α:Type} (p:α→Bool) (l:List α) (i:Int) (h:0≤i):decide (aJ p l i≥0)=l.any p:=by
 have:=oL p l i h
 cases hl:l.any p
 · rw [hl] at this; exact decide_eq_false (fun h2=>by simp at this; omega)
 · rw [hl] at this; exact decide_eq_true (this.2 rfl)
theorem HM (v:Var) (c:Cell):ag Tryz.prog 240 [.e .var v,.p (.ref .cell c 0)] [] (.x (.b (v.name==c.name))) []:=by
 refine dg aT Tryz.func240 (.ret (.p (.bool (v.name==c.name))) []) fun Γ=>⟨rfl,rfl⟩
def eCl:Ent:=(240,fun
 | [.agg [.pd (.str a),.pd (.int .i64 b),.pd (.int .i64 d),.pd (.int .i64 e),.pd (.int .i64 f),.pd (.int .i64 g),.pd (.int .i64 h)],.c (.pd (.ref .cell c 0))],[]=>some (none,.x (.c (.pd (.bool (a==c.name)))),[])
 | _,_=>none)
theorem IS:EntOk Tryz.prog eCl:=entOk fun vs ck=>by
 unfold eCl; dsimp only; split
 · rename_i a b d e f g h c; exact entS fun hp=>HM ⟨a,b,d,e,⟨f,g,h⟩⟩ c
 · exact entN
def Aj:Cfg:=⟨bk,[eCl]⟩
theorem uB:ah Tryz.prog Aj.tab:=(ah.cons IS ah.nil)
theorem Hv (hl:vs.length≤maxLen):∀ (n k:Nat),vs.length - k≤n→k≤vs.length →
 J Tryz.prog 184 (aw Tryz.f184) Γ (Eq2 (.x (.i (aJ (fun v:Var=>v.name==c.name) (vs.drop k) k))) []) zFb2 ({ n:=19,fr:=[(0,.p (.lst .var vs)),(1,.x (.c (.fn (.func 240) [] [.pd (.ref .cell c 0)]))),(4,.i 0),(7,.i vs.length),(8,.i k)],ck:=[] }):=by
 intro n
 induction n with
 | zero=>?_
 | succ n ih=>?_
 all_goals
  intro k hn hk
  refine jg uB Tryz.func184 (.ite (decide ((k:Int)<(vs.length:Int))) (.need (inRg k vs.length) (.ite (Var.name (ETy.get .var vs k)==c.name) (.ret (.i k) []) (.stop zFb2 { n:=19,fr:=[(0,.p (.lst .var vs)),(1,.x (.c (.fn (.func 240) [] [.pd (.ref .cell c 0)]))),(4,.i 0),(7,.i vs.length),(8,.i (IntKind.wrap .i64 ((k:Int)+1)))],ck:=[] }))) (.ret (.i (-1:Int)) [])) ?_
  refine ⟨fun hlt=>?_,fun hge=>⟨?_,rfl⟩⟩
  · have hk':k<vs.length:=by have:=of_decide_eq_true hlt; omega
    rw [bL (t:=.var) hk']
    refine ⟨by omega,?_⟩
    generalize ETy.get .var vs k=v
    refine ⟨fun hb=>⟨?_,rfl⟩,fun hb=>?_⟩
    · simp only [aJ,hb,cond_true]
    · simp only [aJ,hb,cond_false]
      rw [aZ (aE hk' hl)]
      first
      | (exfalso; omega)
      | exact ih (k+1) (by omega) (by omega)
  · rw [bY (by have:=of_decide_eq_false hge; omega)]; rfl
theorem Ik:ag Tryz.prog 184 [.l .var vs,.c (.fn (.func 240) [] [.pd (.ref .cell c 0)])] [] (.x (.i (aJ (fun v:Var=>v.name==c.name) vs 0))) []:=by
 refine dg uB Tryz.func184 (.stop zFb2 { n:=19,fr:=[(0,.p (.lst .var vs)),(1,.x (.c (.fn (.func 240) [] [.pd (.ref .cell c 0)]))),(4,.i 0),(7,.i vs.length),(8,.i 0)],ck:=[] }) fun Γ=>?_
 exact J.len 0 rfl fun hl=>Hv vs c Γ hl vs.length 0 (by omega) (by omega)
def eIx:Ent:=(184,fun
 | [.c (.pd (.lst .var vs)),.c (.fn (.func 240) [] [.pd (.ref .cell c 0)])],[]=>some (none,.x (.c (.pd (.int .i64 (aJ (fun v:Var=>v.name==c.name) vs 0)))),[])
 | _,_=>none)
theorem Ip:EntOk Tryz.prog eIx:=entOk fun vs ck=>by
 unfold eIx; dsimp only; split
 · rename_i vs c; exact entS fun hp=>Ik vs c
 · exact entN
theorem HU (hl:l.length≤maxLen):∀ (n k:Nat),l.length - k≤n→k≤l.length →
 J Tryz.prog 238 (aw Tryz.f238) Γ (Eq2 (.x (.i (aJ (fun x=>s==x) (l.drop k) k))) []) zFb2 ({ n:=19,fr:=[(0,.p (.lst .str l)),(1,.p (.str s)),(4,.i 0),(7,.i l.length),(8,.i k)],ck:=[] }):=by
 intro n
 induction n with
 | zero=>?_
 | succ n ih=>?_
 all_goals
  intro k hn hk
  refine jg aT Tryz.func238 (.ite (decide ((k:Int)<(l.length:Int))) (.need (inRg k l.length) (.ite (s==ETy.get .str l k) (.ret (.i k) []) (.stop zFb2 { n:=19,fr:=[(0,.p (.lst .str l)),(1,.p (.str s)),(4,.i 0),(7,.i l.length),(8,.i (IntKind.wrap .i64 ((k:Int)+1)))],ck:=[] }))) (.ret (.i (-1:Int)) [])) ?_
  refine ⟨fun hlt=>?_,fun hge=>⟨?_,rfl⟩⟩
  · have hk':k<l.length:=by have:=of_decide_eq_true hlt; omega
    rw [bL (t:=.str) hk']
    refine ⟨by omega,?_⟩
    generalize ETy.get .str l k=v
    refine ⟨fun hb=>⟨?_,rfl⟩,fun hb=>?_⟩
    · simp only [aJ,hb,cond_true]
    · simp only [aJ,hb,cond_false]
      rw [aZ (aE hk' hl)]
      first
      | (exfalso; omega)
      | exact ih (k+1) (by omega) (by omega)
  · rw [bY (by have:=of_decide_eq_false hge; omega)]; rfl
theorem Ig:ag Tryz.prog 238 [.l .str l,.s s] [] (.x (.i (aJ (fun x=>s==x) l 0))) []:=by
 refine dg aT Tryz.func238 (.stop zFb2 { n:=19,fr:=[(0,.p (.lst .str l)),(1,.p (.str s)),(4,.i 0),(7,.i l.length),(8,.i 0)],ck:=[] }) fun Γ=>?_
 exact J.len 0 rfl fun hl=>HU l s Γ hl l.length 0 (by omega) (by omega)
def eSi:Ent:=(238,fun
 | [.c (.pd (.lst .str l)),.c (.pd (.str s))],[]=>some (none,.x (.c (.pd (.int .i64 (aJ (fun x=>s==x) l 0)))),[])
 | _,_=>none)
theorem Iy:EntOk Tryz.prog eSi:=entOk fun vs ck=>by
 unfold eSi; dsimp only; split
 · rename_i l s; exact entS fun hp=>Ig l s
 · exact entN
def F6:Cfg:=⟨bk,[eSi]⟩
theorem FJ:ah Tryz.prog F6.tab:=(ah.cons Iy ah.nil)
theorem HA:ag Tryz.prog 183 [.l .str l,.s s] [] (.x (.b (l.any fun x=>s==x))) []:=by
 refine dg FJ Tryz.func183 (.ret (.p (.bool (decide (aJ (fun x=>s==x) l (0:Int)≥0)))) []) fun Γ=>⟨?_,rfl⟩
 rw [kS _ _ _ (by omega)]
def eSc:Ent:=(183,fun
 | [.c (.pd (.lst .str l)),.c (.pd (.str s))],[]=>some (none,.x (.c (.pd (.bool (l.any fun x=>s==x)))),[])
 | _,_=>none)
theorem uQ:EntOk Tryz.prog eSc:=entOk fun vs ck=>by
 unfold eSc; dsimp only; split
 · rename_i l s; exact entS fun hp=>HA l s
 · exact entN
def F5:Cfg:=⟨bk,[eIx,eSc]⟩
theorem Ef:ah Tryz.prog F5.tab:=(ah.cons Ip (ah.cons uQ ah.nil))
theorem iv {α:Type} (p:α→Bool):∀ (l:List α) (i:Nat),(aJ p l i = -1∧l.find? p=none)∨∃ k x,aJ p l i=((i+k:Nat):Int)∧l[k]?=some x∧l.find? p=some x
 | [],i=>.inl ⟨rfl,rfl⟩
 | x :: r,i=>by
   simp only [aJ,List.find?_cons]
   cases hp:p x
   · rcases iv p r (i+1) with ⟨h1,h2⟩ | ⟨k,y,h1,h2,h3⟩
     · exact .inl ⟨h1,h2⟩
     · exact .inr ⟨k+1,y,by simp only [cond_false]; rw [show (i:Int)+1=((i+1:Nat):Int) from rfl,h1]; omega,by simpa using h2,h3⟩
   · exact .inr ⟨0,x,by simp,by simp,rfl⟩
theorem CA (vs:List Var) (ss:List Str):ag Tryz.prog 187 [.e .cell c,.l .var vs,.l .str ss] [] (cd (bN c vs ss)) []:=by
 refine dg Ef Tryz.func187 (.ite (c.op==(1:Int)) (.ret (.tup [.i 1,.i 0]) []) (.ite (c.op==(2:Int)) (.ret (.tup [.i 3,.i 0]) []) (.ite (c.op==(5:Int)) (.ite (decide (aJ (fun v=>v.name==c.name) vs (0:Int)<0)) (.ret (.tup [.i 0,.i 2]) []) (.need ((0:Int)≤aJ (fun v=>v.name==c.name) vs (0:Int)∧aJ (fun v=>v.name==c.name) vs (0:Int)<(vs.length:Int)) (.ite (decide (Var.kind (ETy.get .var vs ((aJ (fun v=>v.name==c.name) vs (0:Int)).toNat))≥(1:Int))&&decide (Var.kind (ETy.get .var vs ((aJ (fun v=>v.name==c.name) vs (0:Int)).toNat))≤(3:Int))) (.ret (.tup [.i (Var.kind (ETy.get .var vs ((aJ (fun v=>v.name==c.name) vs (0:Int)).toNat))),.i 0]) []) (.ret (.tup [.i 0,.i 8]) [])))) (.ite (c.op==(6:Int)) (.ite (!List.any ss fun x=>c.name==x) (.ret (.tup [.i 0,.i 2]) []) (.ret (.tup [.i 2,.i 0]) [])) (.ret (.tup [.i 2,.i 0]) []))))) fun Γ=>?_
 have hsw:(ss.any fun x=>c.name==x)=ss.any fun s=>s==c.name:=by congr 1; funext x; exact BEq.comm
 refine ⟨fun h1=>⟨by simp only [bN,h1,cond_true,cd],rfl⟩,fun h1=>⟨fun h2=>⟨by simp only [bN,h1,h2,cond_true,cond_false,cd],rfl⟩,fun h2=>⟨fun h5=>?_,fun h5=>⟨fun h6=>⟨fun h=>⟨?_,rfl⟩,fun h=>⟨?_,rfl⟩⟩,fun h6=>⟨by simp only [bN,h1,h2,h5,h6,cond_false,cd],rfl⟩⟩⟩⟩⟩
 · show _∧_
   rcases iv (fun v:Var=>v.name==c.name) vs 0 with ⟨g1,g2⟩ | ⟨k,x,g1,g2,g3⟩
   · simp only [Int.natCast_zero] at g1
     rw [g1]
     exact ⟨fun _=>⟨by simp only [bN,h1,h2,h5,gr,g2,cond_true,cond_false,cd],rfl⟩,fun h=>by simp at h⟩
   · simp only [Int.natCast_zero,aS] at g1
     have hk:=(List.getElem?_eq_some_iff.1 g2).1
     rw [g1]
     refine ⟨fun h=>by have:=of_decide_eq_true h; omega,fun _=>⟨by omega,?_⟩⟩
     rw [aj,ETy.get_eq (t:=.var) g2]
     exact ⟨fun h=>⟨by simp only [bN,h1,h2,h5,gr,g3,h,cond_true,cond_false,cd],rfl⟩,fun h=>⟨by simp only [bN,h1,h2,h5,gr,g3,h,cond_true,cond_false,cd],rfl⟩⟩
 · rw [hsw] at h; simp only [bN,h1,h2,h5,h6,h,cond_true,cond_false,cd]
 · rw [hsw] at h; simp only [bN,h1,h2,h5,h6,h,cond_true,cond_false,cd]
def s9:Ent:=(187,fun
 | [.agg [.pd (.int .i64 a),.pd (.int .i64 b),.pd (.str d)],.c (.pd (.lst .var vs)),.c (.pd (.lst .str ss))],[]=>some (none,cd (bN ⟨a,b,d⟩ vs ss),[])
 | _,_=>none)
theorem EB:EntOk Tryz.prog s9:=entOk fun vs ck=>by
 unfold s9; dsimp only; split
 · rename_i a b d vs ss; exact entS fun hp=>CA ⟨a,b,d⟩ vs ss
 · exact entN
end Go.Proofs.YtcopfgbbjdefbaaGreatDoor
namespace Go.Proofs.YtcopfgbbjdefbaaGreatDoor
open Go Go.Ev
set_option maxRecDepth 100000
theorem lV (c:Cell) (h:a6 c≥0):(a6 c=0∧c.op<7)∨(a6 c=1∧7≤c.op∧c.op<11)∨(a6 c=2∧11≤c.op):=by
 revert h
 unfold a6 cu
 simp only [cond_eq_ite,beq_iff_eq,aO,decide_eq_true_eq,bne_iff_ne]
 intro h
 (repeat' split at h) <;> (repeat' split) <;> omega
variable (t:Int) (l:List Cell) (t2:Int) (vs:List Var) (ss:List Str) (st:List Int)
theorem u7:ETy.get .int ((t::st).reverse) st.length=t:=by
 refine ETy.get_eq (t:=.int) ?_
 rw [cZ,List.getElem?_append_right (by simp)]; simp
theorem AZ:ETy.get .int ((t::t2::st).reverse) st.length=t2:=by
 refine ETy.get_eq (t:=.int) ?_
 rw [cZ,List.getElem?_append_left (by simp),cZ,List.getElem?_append_right (by simp)]; simp
theorem rC:((t::st).reverse).take st.length=st.reverse:=by
 rw [cZ,← dW,List.take_left]
theorem xJ:((t::t2::st).reverse).take st.length=st.reverse:=by
 rw [cZ,List.take_append_of_le_length (by simp),rC]
theorem o8 {n:Nat} (h:n≤100):room n 8:=by unfold room maxLen; omega
def yZ:Cfg:=⟨bk,[nD,s9,sX]⟩
theorem uZ:ah Tryz.prog yZ.tab:=(ah.cons sr (ah.cons EB (ah.cons Ff ah.nil)))
abbrev zFc1:List PI:=[.code [1,1,1,0,1,0,0],.inLoop [1,1,1,0,1,0,0],.inBlock 0,.code [1,1,1,1]]
theorem GL (Γ:Ctx) (hl:l.length≤32):∀ (n k:Nat) (st:List Int),l.length - k≤n→k≤l.length→st.length≤k→cb (l.drop k) st.length=true →
 J Tryz.prog 147 (aw Tryz.f147) Γ (Eq2 (cd (fc vs ss (l.drop k) st)) []) zFc1 ({ n:=86,fr:=[(1,.p (.lst .var vs)),(2,.p (.lst .str ss)),(6,.i 0),(7,.i 0),(8,.x (.c (.own 0))),(17,.p (.lst .cell l)),(18,.i l.length),(19,.i k)],ck:=[.own 3 .int st.reverse] }):=by
 intro n
 induction n with
 | zero=>?_
 | succ n ih=>?_
 all_goals
  intro k st hn hk hst hright
  refine jg uZ Tryz.func147 (let x1:=(↑((List.reverse st).length):Int); let x2:List (Nat×SV):=[(1,.p (.lst .var vs)),(2,.p (.lst .str ss)),(6,.i 0),(7,.i 0),(8,.x (.c (.own 0))),(17,.p (.lst .cell l)),(18,.i l.length),(19,.i (IntKind.wrap .i64 ((k:Int)+1)))]; let x12:=(IntKind.wrap .i64 (x1 - 2)); let x9:=(Cell.op (ETy.get .cell l k)); let x16:=(ETy.get .int (List.reverse st) (x12.toNat)); let x10:=(IntKind.wrap .i64 (x1 - 1)); let x7:=(ETy.get .int (List.reverse st) (x10.toNat)); let x3:=(List.take (x12.toNat) (List.reverse st)++[cC x9 x16 x7]); let x4:=(List.take (x10.toNat) (List.reverse st)++[cC x9 x7 (0:Int)]); let x5:List PI:=zFc1; let x6:=(bN (ETy.get .cell l k) vs ss); let x8:Tree:=(.need (room ((List.reverse st++[x6.1]).length) 8) (.stop x5 { n:=86,fr:=x2,ck:=[.own 3 .int (List.reverse st++[x6.1])] })); let x11:Tree:=(.need (room (x4.length) 8) (.stop x5 { n:=86,fr:=x2,ck:=[.own 3 .int x4] })); let x13:Tree:=(.need (room (x3.length) 8) (.stop x5 { n:=86,fr:=x2,ck:=[.own 3 .int x3] })); let x14:=((0:Int)≤IntKind.wrap .i64 (x1 - 1)∧IntKind.wrap .i64 (x1 - 1)<x1); let x15:Tree:=(.ret (.tup [.i 0,.i 8]) []); let x17:=(x10.toNat<(List.reverse st).length); .ite (decide ((k:Int)<(l.length:Int))) (.need (inRg k l.length) (.ite (decide (Cell.op (ETy.get .cell l k)<(7:Int))) (.ite (x6.2==(0:Int)&&x6.1==(0:Int)) (.ite true x15 x8) (.ite (x6.2 != (0:Int)) (.ret (.tup [.i 0,.i (x6.2)]) []) x8)) (.ite (decide (Cell.op (ETy.get .cell l k)<(11:Int))) (.need x14 (.need x17 (.need ((0:Int)≤IntKind.wrap .i64 (x1 - 1)∧IntKind.wrap .i64 (x1 - 1)≤x1) (.ite (true&&cC x9 x7 (0:Int)==0) (.ite true x15 x11) (.ite false (.ret (.tup [.i 0,.i 0]) []) x11))))) (.need ((0:Int)≤IntKind.wrap .i64 (x1 - 2)∧IntKind.wrap .i64 (x1 - 2)<x1) (.need (x12.toNat<(List.reverse st).length) (.need x14 (.need x17 (.need ((0:Int)≤IntKind.wrap .i64 (x1 - 2)∧IntKind.wrap .i64 (x1 - 2)≤x1) (.ite (true&&cC x9 x16 x7==(0:Int)) (.ite true x15 x13) (.ite false (.ret (.tup [.i 0,.i 0]) []) x13)))))))))) (.need ((0:Int)≤0∧(0:Int)<x1) (.need (0<(List.reverse st).length) (.ret (.tup [.i (ETy.get .int (List.reverse st) 0),.i 0]) [])))) ?_
  conv=>zeta
  have next:∀ (kd:Int) (st':List Int) (c:Cell),st'.length≤k→((st'.length:Int)+1=st.length+(1 - a6 c))→k<l.length→cb (l.drop (k+1)) (st.length+(1 - a6 c))=true →
   J Tryz.prog 147 (aw Tryz.f147) Γ (Eq2 (cd (fc vs ss (l.drop (k+1)) (kd::st'))) []) zFc1 ({ n:=86,fr:=[(1,.p (.lst .var vs)),(2,.p (.lst .str ss)),(6,.i 0),(7,.i 0),(8,.x (.c (.own 0))),(17,.p (.lst .cell l)),(18,.i l.length),(19,.i (IntKind.wrap .i64 ((k:Int)+1)))],ck:=[.own 3 .int (st'.reverse++[kd])] }):=by
   intro kd st' c h1 h2 h3 h4
   rw [aZ (by omega),← cZ]
   first
   | (exfalso; omega)
   | exact ih (k+1) (kd::st') (by omega) (by omega) (by simp only [az]; omega) (by rw [← h2] at h4; simpa using h4)
  refine ⟨fun hlt=>?_,fun hge=>?_⟩
  · have hk':k<l.length:=by have:=of_decide_eq_true hlt; omega
    rw [bL (t:=.cell) hk'] at hright ⊢
    refine ⟨by omega,?_⟩
    generalize ETy.get .cell l k=c at hright ⊢
    have hw:(decide (a6 c<0)||decide (a6 c>(st.length:Int)))=false:=by
     simp only [cb] at hright
     cases hb:(decide (a6 c<0)||decide (a6 c>(st.length:Int)))
     · rfl
     · rw [hb] at hright; simp at hright
    have hrest:cb (l.drop (k+1)) (st.length+(1 - a6 c))=true:=by
     simp only [cb,hw,cond_false] at hright; exact hright
    have hw2:0≤a6 c∧a6 c≤st.length:=by
     simp only [ay,decide_eq_false_iff_not] at hw; omega
    refine ⟨fun h7=>?_,fun h7=>⟨fun h11=>?_,fun h11=>?_⟩⟩
    · -- a leaf
      have hw0:a6 c=0:=by rcases lV c hw2.1 with ⟨h,_⟩ | ⟨_,h,_⟩ | ⟨_,h⟩ <;> first | exact h | (have:=of_decide_eq_true h7; omega)
      have hstep:ff vs ss c st=((bN c vs ss).1,(bN c vs ss).2,st):=by simp only [ff,h7,cond_true]
      simp only [fc,hstep]
      show Tree.J _ _ _ _ _ (Tree.ite ((bN c vs ss).2==0&&(bN c vs ss).1==0) _ _)
      generalize (bN c vs ss).1=kd
      generalize (bN c vs ss).2=e
      refine ⟨fun h=>⟨fun _=>⟨by simp only [h]; rfl,rfl⟩,fun h2=>Bool.noConfusion h2⟩,fun h=>⟨fun h2=>⟨by simp only [h,cond_false,h2]; rfl,rfl⟩,fun h2=>⟨o8 (by simp; omega),?_⟩⟩⟩
      simp only [h,h2,cond_false]
      exact next kd st c (by omega) (by omega) hk' hrest
    · -- one operand
      have hw1:a6 c=1:=by
       have g1:=of_decide_eq_false h7
       have g2:=of_decide_eq_true h11
       rcases lV c hw2.1 with ⟨_,h⟩ | ⟨h,_⟩ | ⟨_,h⟩ <;> first | exact h | omega
      obtain ⟨t,st',rfl⟩:∃ t st',st=t::st':=by
       cases st with
       | nil=>simp at hw2; omega
       | cons t st'=>exact ⟨t,st',rfl⟩
      have hlen:(t::st').reverse.length=st'.length+1:=by simp
      have hl2:(t::st').length=st'.length+1:=rfl
      have e1:IntKind.wrap .i64 (((t::st').reverse.length:Int) - 1)=(st'.length:Int):=by
       simp only [dW,az]; rw [cr (by omega) (by omega)]; omega
      have hstep:ff vs ss c (t::st')=(cC c.op t 0,0,st'):=by simp [ff,h7,h11]
      simp only [fc,hstep]
      rw [e1]
      simp only [aj]
      rw [u7,rC]
      refine ⟨⟨by omega,by omega⟩,by omega,⟨by omega,by omega⟩,fun h=>⟨fun _=>⟨?_,rfl⟩,fun h2=>Bool.noConfusion h2⟩,fun h=>⟨fun h2=>Bool.noConfusion h2,fun _=>⟨o8 (by simp; omega),?_⟩⟩⟩
      · have h':((0:Int)==0&&cC c.op t 0==0)=true:=h
        simp only [h']; rfl
      · have h':((0:Int)==0&&cC c.op t 0==0)=false:=h
        simp only [h',cond_false]
        exact next (cC c.op t 0) st' c (by omega) (by omega) hk' hrest
    · -- two operands
      have hw1:a6 c=2:=by
       have g1:=of_decide_eq_false h7
       have g2:=of_decide_eq_false h11
       rcases lV c hw2.1 with ⟨_,h⟩ | ⟨_,h,_⟩ | ⟨h,_⟩ <;> first | exact h | omega
      obtain ⟨t,t2,st',rfl⟩:∃ t t2 st',st=t::t2::st':=by
       cases st with
       | nil=>simp at hw2; omega
       | cons t st'=>cases st' with
         | nil=>simp at hw2; omega
         | cons t2 st'=>exact ⟨t,t2,st',rfl⟩
      have hlen:(t::t2::st').reverse.length=st'.length+2:=by simp
      have hl2:(t::t2::st').length=st'.length+2:=rfl
      have hl3:(t2::st').length=st'.length+1:=rfl
      have e1:IntKind.wrap .i64 (((t::t2::st').reverse.length:Int) - 1)=((t2::st').length:Int):=by
       simp only [dW,az]; rw [cr (by omega) (by omega)]; omega
      have e2:IntKind.wrap .i64 (((t::t2::st').reverse.length:Int) - 2)=(st'.length:Int):=by
       simp only [dW,az]; rw [cr (by omega) (by omega)]; omega
      have hstep:ff vs ss c (t::t2::st')=(cC c.op t2 t,0,st'):=by simp [ff,h7,h11]
      simp only [fc,hstep]
      rw [e1,e2]
      simp only [aj]
      rw [u7,AZ,xJ]
      refine ⟨⟨by omega,by omega⟩,by omega,⟨by omega,by omega⟩,by omega,⟨by omega,by omega⟩,fun h=>⟨fun _=>⟨?_,rfl⟩,fun h2=>Bool.noConfusion h2⟩,fun h=>⟨fun h2=>Bool.noConfusion h2,fun _=>⟨o8 (by simp; omega),?_⟩⟩⟩
      · have h':((0:Int)==0&&cC c.op t2 t==0)=true:=h
        simp only [h']; rfl
      · have h':((0:Int)==0&&cC c.op t2 t==0)=false:=h
        simp only [h',cond_false]
        exact next (cC c.op t2 t) st' c (by omega) (by omega) hk' hrest
  · have hk':k=l.length:=by have:=of_decide_eq_false hge; omega
    rw [hk',List.drop_length] at hright ⊢
    simp only [cb] at hright
    have hone:st.length=1:=by have h1:(st.length:Int)=1:=(by simpa using hright); omega
    obtain ⟨t,rfl⟩:∃ t,st=[t]:=List.length_eq_one_iff.1 hone
    exact ⟨by simp,by simp,rfl,rfl⟩
theorem Av:ag Tryz.prog 147 [.l .cell l,.l .var vs,.l .str ss] [] (cd (bZ l vs ss)) []:=by
 refine dg uZ Tryz.func147 (.ite (!dx l) (.ret (.tup [.i 0,.i 1]) []) (.stop zFc1 { n:=86,fr:=[(1,.p (.lst .var vs)),(2,.p (.lst .str ss)),(6,.i 0),(7,.i 0),(8,.p (.v (Value.slice none 0 0))),(17,.p (.lst .cell l)),(18,.i l.length),(19,.i 0)],ck:=[] })) fun Γ=>?_
 refine ⟨fun h=>⟨by simp only [bZ,h,cond_true]; rfl,rfl⟩,fun h=>?_⟩
 have h':dx l=true:=by simpa using h
 have e:bZ l vs ss=fc vs ss (l.drop 0) []:=by simp [bZ,h']
 simp only [dx,af] at h'
 have h32:l.length≤32:=by have h1:=h'.1; simp at h1; omega
 rw [e]
 refine J.nilOwn 8 3 .int rfl rfl ?_
 exact GL l vs ss Γ h32 l.length 0 [] (by omega) (by omega) (by simp) (by simpa using h'.2)
def eOf:Ent:=(147,fun
 | [.c (.pd (.lst .cell l)),.c (.pd (.lst .var vs)),.c (.pd (.lst .str ss))],[]=>some (none,cd (bZ l vs ss),[])
 | _,_=>none)
theorem Bv:EntOk Tryz.prog eOf:=entOk fun vs ck=>by
 unfold eOf; dsimp only; split
 · rename_i l vs ss; exact entS fun hp=>Av l vs ss
 · exact entN
end Go.Proofs.YtcopfgbbjdefbaaGreatDoor

/- Contracts: texts' beginnings, events' names; behind the kinds' texts. Conditions: none. Contracts: names, events' names. Conditions: none. Contracts: actions that may be. Conditions: none. Contracts: lists of cells alike; two rules of the executor. Conditions: none. Contracts: the document's blocks that may be, blocks alike. Conditions: sizes. Contracts: valid: small functions. Conditions: sizes. Plain laws: floats that are whole numbers, their sums and products; parts of points. Conditions: each theorem's own. Contracts of the program's functions on points: made, parted. Conditions: none. Plain laws: whole numbers within int64, products; what operations on values come to. Conditions: each theorem's own. Contracts: values that may be. Conditions: none. -/
import Derived.Test.YtcopfgbbjdefbaaGreatDoorFf
import Derived.Test.YtcopfgbbjdefbaaGreatDoorTa
import Derived.Lib.AppendIntMem
import Derived.Test.YtcopfgbbjdefbaaGreatDoorVb
import Derived.Test.YtcopfgbbjdefbaaGreatDoorTe
import Derived.Laws.ComplexArith
import Derived.Test.YtcopfgbbjdefbaaGreatDoorPD
import Derived.Test.YtcopfgbbjdefbaaGreatDoorPY
import Derived.Laws.MathBits
namespace Go.Proofs.YtcopfgbbjdefbaaGreatDoor
open Go Go.Ev
set_option maxRecDepth 100000
variable (a b:Str)
theorem sD:ah Tryz.prog 243 [.s a,.s b] [] (.x (.b (decide (aA a≥aA b)&&a.take (aA b).toNat==b))) []:=by
 refine dg aV Tryz.func243 (.need (decide (aA a≥aA b)=true→(0:Int)≤aA b∧aA b≤(a.length:Int)) (.ret (.p (.bool (decide (aA a≥aA b)&&(dJ a none (some (aA b))).2==b))) [])) fun Γ=>?_
 refine ⟨fun h=>?_,rfl,rfl⟩
 have:=of_decide_eq_true h
 have h1:aA b=(b.length:Int):=rfl
 have h2:aA a=(a.length:Int):=rfl
 omega
def eHp:Ent:=(243,fun
 | [.c (.pd (.str a)),.c (.pd (.str b))],[]=>some (none,.x (.c (.pd (.bool (decide (aA a≥aA b)&&a.take (aA b).toNat==b)))),[])
 | _,_=>none)
theorem Ma:EntOk Tryz.prog eHp:=entOk fun vs ck=>by
 unfold eHp; dsimp only; split
 · rename_i a b; exact entS fun hp=>sD a b
 · exact entN
def Ji:Cfg:=⟨aX,[eHp]⟩
theorem Io:ag Tryz.prog Ji.tab:=(ag.cons Ma ag.nil)
def dH:Bool:=decide (aA a≥aA b)&&a.take (aA b).toNat==b
def dE:Str:=bif dH a b then a.drop (aA b).toNat else a
def fW (s:Str):Bool:=ba (dE s [100,111,110,101,46])
theorem ru:ah Tryz.prog 201 [.s a,.s b] [] (.tup [.s (dE a b),.b (dH a b)]) []:=by
 refine dg Io Tryz.func201 (.ite (!(decide (aA a≥aA b)&&List.take ((aA b).toNat) a==b)) (.ret (.tup [.p (.str a),.p (.bool false)]) []) (.need ((0:Int)≤aA b∧aA b≤(a.length:Int)) (.ret (.tup [.p (.str ((dJ a (some (aA b)) none).2)),.p (.bool true)]) []))) fun Γ=>?_
 refine ⟨fun h=>⟨?_,rfl⟩,fun h=>⟨?_,?_,rfl⟩⟩
 · have h':dH a b=false:=by
    have h2:(!dH a b)=true:=h
    simpa using h2
   simp [dE,h']
 · have h':dH a b=true:=by
    have h2:(!dH a b)=false:=h
    simpa using h2
   simp only [dH,af,decide_eq_true_eq] at h'
   have h1:aA b=(b.length:Int):=rfl
   have h2:aA a=(a.length:Int):=rfl
   omega
 · have h':dH a b=true:=by
    have h2:(!dH a b)=false:=h
    simpa using h2
   simp [dE,h',dJ]
def vf:Ent:=(201,fun
 | [.c (.pd (.str a)),.c (.pd (.str b))],[]=>some (none,.tup [.c (.pd (.str (dE a b))),.c (.pd (.bool (dH a b)))],[])
 | _,_=>none)
theorem IH:EntOk Tryz.prog vf:=entOk fun vs ck=>by
 unfold vf; dsimp only; split
 · rename_i a b; exact entS fun hp=>ru a b
 · exact entN
def Ap:Cfg:=⟨aX,[vf]⟩
theorem Ci:ag Tryz.prog Ap.tab:=(ag.cons IH ag.nil)
theorem sl:ah Tryz.prog 166 [.s a,.s b] [] (.tup [.s (dE a b),.b (dH a b)]) []:=by
 refine dg Ci Tryz.func166 (.ret (.tup [.p (.str (dE a b)),.p (.bool (dH a b))]) []) fun Γ=>?_
 exact ⟨rfl,rfl⟩
def wt:Ent:=(166,fun
 | [.c (.pd (.str a)),.c (.pd (.str b))],[]=>some (none,.tup [.c (.pd (.str (dE a b))),.c (.pd (.bool (dH a b)))],[])
 | _,_=>none)
theorem AV:EntOk Tryz.prog wt:=entOk fun vs ck=>by
 unfold wt; dsimp only; split
 · rename_i a b; exact entS fun hp=>sl a b
 · exact entN
end Go.Proofs.YtcopfgbbjdefbaaGreatDoor
namespace Go.Proofs.YtcopfgbbjdefbaaGreatDoor
open Go Go.Ev
set_option maxRecDepth 100000
def Fm:Cfg:=⟨aX,[wt,jv]⟩
theorem Fq:ag Tryz.prog Fm.tab:=(ag.cons AV (ag.cons ij ag.nil))
variable (s:Str)
theorem Cc:ah Tryz.prog 129 [.s s] [] (.x (.b (fW s))) []:=by
 refine dg Fq Tryz.func129 (.ret (.p (.bool (ba (dE s [(100:UInt8),111,110,101,46])))) []) fun Γ=>?_
 exact ⟨rfl,rfl⟩
def nH:Ent:=(129,fun
 | [.c (.pd (.str s))],[]=>some (none,.x (.c (.pd (.bool (fW s)))),[])
 | _,_=>none)
theorem uv:EntOk Tryz.prog nH:=entOk fun vs ck=>by
 unfold nH; dsimp only; split
 · rename_i s; exact entS fun hp=>Cc s
 · exact entN
theorem IR:dE ([100,111,110,101,46]++s) [100,111,110,101,46]=s:=by
 have h:dH ([100,111,110,101,46]++s) [100,111,110,101,46]=true:=by
  simp [dH,aA]; omega
 rw [dE,h]; rfl
theorem Hl:ba ([100,111,110,101,46]++s)=false:=by
 have:([100,111,110,101,46]++s:Str).any jS=true:=by
  rw [eA]
  have:([100,111,110,101,46]:Str).any jS=true:=by decide
  rw [this]; rfl
 rw [ba,this]; simp
theorem B8 {s p:Str} (h:dH s p=true):∃ r,s=p++r:=by
 simp only [dH,af,beq_iff_eq,decide_eq_true_eq] at h
 refine ⟨s.drop (aA p).toNat,?_⟩
 have:=cN (aA p).toNat s
 rw [h.2] at this; exact this.symm
theorem Fc:fW ([100,111,110,101,46]++s)=ba s:=by rw [fW,IR]
theorem GK {s:Str} (h:dH s [100,111,110,101,46]=false):fW s=ba s:=by simp [fW,dE,h]
def Dr:Cfg:=⟨aX,[oa]⟩
theorem D8:ag Tryz.prog Dr.tab:=(ag.cons ma ag.nil)
theorem sq:ah Tryz.prog 196 [.s s] [] (.x (.b (fW s))) []:=by
 refine dg D8 Tryz.func196 (.need (ba s=false∧decide (aA s>(5:Int))=true→(0:Int)≤5∧(5:Int)≤(s.length:Int)) (.need (ba s=false∧(decide (aA s>(5:Int))&&(dJ s none (some (5:Int))).2==[100,111,110,101,46])=true→(0:Int)≤5∧(5:Int)≤(s.length:Int)) (.ret (.p (.bool (ba s||decide (aA s>(5:Int))&&(dJ s none (some (5:Int))).2==[100,111,110,101,46]&&ba ((dJ s (some (5:Int)) none).2)))) []))) fun Γ=>?_
 have hL:aA s=(s.length:Int):=rfl
 refine ⟨fun h=>by have:=of_decide_eq_true h.2; omega,fun h=>by simp only [af,decide_eq_true_eq] at h; omega,?_,rfl⟩
 cases hp:dH s [100,111,110,101,46]
 · rw [GK hp]
   have h5:(decide (aA s>5)&&(dJ s none (some 5)).2==[100,111,110,101,46])=false:=by
    cases hb:(decide (aA s>5)&&(dJ s none (some 5)).2==[100,111,110,101,46])
    · rfl
    · exfalso
      simp only [af,decide_eq_true_eq] at hb
      have:dH s [100,111,110,101,46]=true:=by
       simp only [dH,af,decide_eq_true_eq]
       refine ⟨?_,hb.2⟩
       have h2:aA [100,111,110,101,46]=5:=rfl
       omega
      rw [this] at hp; cases hp
   rw [h5,aR,bD]
 · obtain ⟨r,rfl⟩:=B8 hp
   rw [Fc,Hl,a6]
   have hc:(dJ ([100,111,110,101,46]++r) (some 5) none).2=r:=rfl
   have hc2:(dJ ([100,111,110,101,46]++r) none (some 5)).2=[100,111,110,101,46]:=rfl
   rw [hc,hc2]
   cases r with
   | nil=>rfl
   | cons c r =>
     have:decide (aA ([100,111,110,101,46]++c::r)>5)=true:=decide_eq_true (by
      have:aA ([100,111,110,101,46]++c::r)=((([100,111,110,101,46]++c::r):Str).length:Int):=rfl
      rw [this]; simp only [aq,aE,bH]; omega)
     rw [this]; rfl
def lf:Ent:=(196,fun
 | [.c (.pd (.str s))],[]=>some (none,.x (.c (.pd (.bool (fW s)))),[])
 | _,_=>none)
theorem vW:EntOk Tryz.prog lf:=entOk fun vs ck=>by
 unfold lf; dsimp only; split
 · rename_i s; exact entS fun hp=>sq s
 · exact entN
end Go.Proofs.YtcopfgbbjdefbaaGreatDoor
namespace Go.Proofs.YtcopfgbbjdefbaaGreatDoor
open Go Go.Ev
set_option maxRecDepth 100000
variable (l:List Cell) {b:Bool} (d:Deed) (Γ:Ctx)
theorem nt (h:(!b)=true):b=false:=by cases b <;> simp_all
theorem nf (h:(!b)=false):b=true:=by cases b <;> simp_all
/-! ### plain -/
def jt:Bool:=l.any fun c=>c.op==6
def nz:Bool:=dM l && !jt l
def eC:Bool:=bif d.kind==1 then ba d.name&&nz d.expr else bif d.kind==2||d.kind==3 then fW d.name&&((d.expr.length:Int)==0) else false
def fh (l:List Deed):Bool:=l.all eC&&(decide ((l.length:Int)>0)&&decide ((l.length:Int)≤8))
def hP (v:Var) (x:Val):Bool:=v.kind==x.kind&&(decide (x.a≥v.lo)&&decide (x.a≤v.hi)&&(x.kind != 3||(decide (x.b≥v.lo)&&decide (x.b≤v.hi))))
/-! ### the program's -/
theorem FT (c:Cell):ah Tryz.prog 259 [.e .cell c] [] (.x (.b (c.op==6))) []:=by
 refine dg aV Tryz.func259 (.ret (.p (.bool (c.op==(6:Int)))) []) fun Γ=>⟨rfl,rfl⟩
def vl:Ent:=(259,fun
 | [.agg [.pd (.int .i64 a),.pd (.int .i64 b),.pd (.str d)]],[]=>some (none,.x (.c (.pd (.bool (a==6)))),[])
 | _,_=>none)
theorem GA:EntOk Tryz.prog vl:=entOk fun vs ck=>by
 unfold vl; dsimp only; split
 · rename_i a b d; exact entS fun hp=>FT ⟨a,b,d⟩
 · exact entN
def sB:Cfg:=⟨aX,[vl]⟩
theorem rn:ag Tryz.prog sB.tab:=(ag.cons GA ag.nil)
abbrev zUz1:List PI:=[.code [1,0,1,0,0],.inLoop [1,0,1,0,0],.inBlock 0,.code [1,1]]
theorem G9 (hl:l.length≤maxLen)  : ∀ (n k:Nat),l.length - k≤n→k≤l.length →
 J Tryz.prog 279 (aw Tryz.f279) Γ (Eq2 (.x (.i (aG (fun c:Cell=>c.op==6) (l.drop k) k))) []) zUz1 ({ n:=19,fr:=[(0,.p (.lst .cell l)),(1,.x (.c (.fn (.func 259) [] []))),(4,.i 0),(7,.i l.length),(8,.i k)],ck:=[] }):=by
 intro n
 induction n with
 | zero=>?_
 | succ n ih=>?_
 all_goals
  intro k hn hk
  refine jg rn Tryz.func279 (.ite (decide ((k:Int)<(l.length:Int))) (.need (inRg k l.length) (.ite (Cell.op (ETy.get .cell l k)==(6:Int)) (.ret (.i k) []) (.stop zUz1 { n:=19,fr:=[(0,.p (.lst .cell l)),(1,.x (.c (.fn (.func 259) [] []))),(4,.i 0),(7,.i l.length),(8,.i (IntKind.wrap .i64 ((k:Int)+1)))],ck:=[] }))) (.ret (.i (-1:Int)) [])) ?_
  refine ⟨fun hlt=>?_,fun hge=>?_⟩
  · have hk':k<l.length:=by have:=of_decide_eq_true hlt; omega
    rw [bI (t:=.cell) (l:=l) hk']
    refine ⟨by omega,?_⟩
    generalize ETy.get .cell l k=v
    refine ⟨fun hb=>⟨?_,rfl⟩,fun hb=>?_⟩
    · simp only [aG,hb,cond_true]
    · simp only [aG,hb,cond_false]; (rw [aZ (aC hk' hl)]; first | (exfalso; omega) | exact ih (k+1) (by omega) (by omega))
  · rw [bT (l:=l) (by have:=of_decide_eq_false hge; omega)]
    exact ⟨rfl,rfl⟩
theorem Hq:ah Tryz.prog 279 [.l .cell (l),SX.c (SC.fn (Fn.func 259) [] [])] [] (.x (.i (aG (fun c:Cell=>c.op==6) l 0))) []:=by
 refine dg rn Tryz.func279 (.stop zUz1 { n:=19,fr:=[(0,.p (.lst .cell l)),(1,.x (.c (.fn (.func 259) [] []))),(4,.i 0),(7,.i l.length),(8,.i 0)],ck:=[] }) fun Γ=>?_
 exact J.len 0 rfl fun hl=>G9 l Γ hl l.length 0 (by omega) (by omega)
def BQ:Ent:=(279,fun
 | [.c (.pd (.lst .cell l)),.c (.fn (.func 259) [] [])],[]=>some (none,.x (.c (.pd (.int .i64 (aG (fun c:Cell=>c.op==6) l 0)))),[])
 | _,_=>none)
theorem Kh:EntOk Tryz.prog BQ:=entOk fun vs ck=>by
 unfold BQ; dsimp only; split
 · rename_i l; exact entS fun hp=>Hq l
 · exact entN
def D1:Cfg:=⟨aX,[BQ]⟩
theorem Ea:ag Tryz.prog D1.tab:=(ag.cons Kh ag.nil)
theorem IT:ah Tryz.prog 258 [.l .cell l,.c (.fn (.func 259) [] [])] [] (.x (.b (jt l))) []:=by
 refine dg Ea Tryz.func258 (.ret (.p (.bool (decide (aG (fun c=>c.op==(6:Int)) l (0:Int)≥0)))) []) fun Γ=>⟨?_,rfl⟩
 rw [gg _ _ _ (by omega)]; rfl
def CR:Ent:=(258,fun
 | [.c (.pd (.lst .cell l)),.c (.fn (.func 259) [] [])],[]=>some (none,.x (.c (.pd (.bool (jt l)))),[])
 | _,_=>none)
theorem JE:EntOk Tryz.prog CR:=entOk fun vs ck=>by
 unfold CR; dsimp only; split
 · rename_i l; exact entS fun hp=>IT l
 · exact entN
def we:Cfg:=⟨aX,[oe,CR]⟩
theorem Ad:ag Tryz.prog we.tab:=(ag.cons uw (ag.cons JE ag.nil))
theorem yj:ah Tryz.prog 222 [.l .cell l] [] (.x (.b (nz l))) []:=by
 refine dg Ad Tryz.func222 (.ret (.p (.bool (dM l && !jt l))) []) fun Γ=>?_
 exact ⟨rfl,rfl⟩
def oV:Ent:=(222,fun
 | [.c (.pd (.lst .cell l))],[]=>some (none,.x (.c (.pd (.bool (nz l)))),[])
 | _,_=>none)
theorem BN:EntOk Tryz.prog oV:=entOk fun vs ck=>by
 unfold oV; dsimp only; split
 · rename_i l; exact entS fun hp=>yj l
 · exact entN
def Am:Cfg:=⟨aX,[jv,oV,nH]⟩
theorem CU:ag Tryz.prog Am.tab:=(ag.cons ij (ag.cons BN (ag.cons uv ag.nil)))
theorem F6:ah Tryz.prog 237 [.e .deed d] [] (.x (.b (eC d))) []:=by
 refine dg CU Tryz.func237 (.ite (d.kind==(1:Int)) (.ret (.p (.bool (ba d.name&&nz d.expr))) []) (.ite (d.kind==(2:Int)) (.ret (.p (.bool (fW d.name&&(d.expr.length:Int)==0))) []) (.ite (d.kind==(3:Int)) (.ret (.p (.bool (fW d.name&&(d.expr.length:Int)==0))) []) (.ret (.p (.bool false)) [])))) fun Γ=>?_
 unfold eC
 refine ⟨fun h=>?_,fun h1=>⟨fun h=>?_,fun h2=>⟨fun h=>?_,fun h3=>?_⟩⟩⟩
 · rw [h]; exact ⟨rfl,rfl⟩
 · rw [h1,h]; exact ⟨rfl,rfl⟩
 · rw [h1,h2,h]; exact ⟨rfl,rfl⟩
 · rw [h1,h2,h3]; exact ⟨rfl,rfl⟩
def vj:Ent:=(237,fun
 | [.agg [.pd (.int .i64 a),.pd (.str b),.pd (.lst .cell d)]],[]=>some (none,.x (.c (.pd (.bool (eC ⟨a,b,d⟩)))),[])
 | _,_=>none)
theorem I4:EntOk Tryz.prog vj:=entOk fun vs ck=>by
 unfold vj; dsimp only; split
 · rename_i a b d; exact entS fun hp=>F6 ⟨a,b,d⟩
 · exact entN
def p6:Cfg:=⟨aX,[vj]⟩
theorem pB:ag Tryz.prog p6.tab:=(ag.cons I4 ag.nil)
theorem JG (l:List Deed) (Γ:Ctx) (hl:l.length≤maxLen)  : ∀ (n k:Nat),l.length - k≤n→k≤l.length →
 J Tryz.prog 182 (aw Tryz.f182) Γ (Eq2 (.x (.b ((l.drop k).all eC&&(decide ((l.length:Int)>0)&&decide ((l.length:Int)≤8))))) []) zUz1 ({ n:=23,fr:=[(0,.p (.lst .deed l)),(2,.p (.bool false)),(5,.p (.lst .deed l)),(6,.i l.length),(7,.i k)],ck:=[],kn:=[2] }):=by
 intro n
 induction n with
 | zero=>?_
 | succ n ih=>?_
 all_goals
  intro k hn hk
  refine jg pB Tryz.func182 (.ite (decide ((k:Int)<(l.length:Int))) (.need (inRg k l.length) (.ite (!eC (ETy.get .deed l k)) (.ret (.p (.bool false)) []) (.stop zUz1 { n:=23,fr:=[(0,.p (.lst .deed l)),(2,.p (.bool false)),(5,.p (.lst .deed l)),(6,.i l.length),(7,.i (IntKind.wrap .i64 ((k:Int)+1)))],ck:=[],kn:=[2] }))) (.ret (.p (.bool (decide ((l.length:Int)>0)&&decide ((l.length:Int)≤8)))) [])) ?_
  refine ⟨fun hlt=>?_,fun hge=>?_⟩
  · have hk':k<l.length:=by have:=of_decide_eq_true hlt; omega
    rw [bI (t:=.deed) (l:=l) hk']
    refine ⟨by omega,?_⟩
    generalize ETy.get .deed l k=v
    rw [cU]
    refine ⟨fun hb=>⟨?_,rfl⟩,fun hb=>?_⟩
    · have hb':eC v=false:=nt hb
      rw [hb']; rfl
    · have hb':eC v=true:=nf hb
      rw [hb',aU]; (rw [aZ (aC hk' hl)]; first | (exfalso; omega) | exact ih (k+1) (by omega) (by omega))
  · rw [bT (l:=l) (by have:=of_decide_eq_false hge; omega)]
    exact ⟨rfl,rfl⟩
theorem J4 (l:List Deed):ah Tryz.prog 182 [.l .deed (l)] [] (.x (.b (fh l))) []:=by
 refine dg pB Tryz.func182 (.stop zUz1 { n:=23,fr:=[(0,.p (.lst .deed l)),(2,.p (.bool false)),(5,.p (.lst .deed l)),(6,.i l.length),(7,.i 0)],ck:=[],kn:=[2] }) fun Γ=>?_
 exact J.len 0 rfl fun hl=>JG l Γ hl l.length 0 (by omega) (by omega)
def qN:Ent:=(182,fun
 | [.c (.pd (.lst .deed l))],[]=>some (none,.x (.c (.pd (.bool (fh l)))),[])
 | _,_=>none)
theorem DW:EntOk Tryz.prog qN:=entOk fun vs ck=>by
 unfold qN; dsimp only; split
 · rename_i l; exact entS fun hp=>J4 l
 · exact entN
end Go.Proofs.YtcopfgbbjdefbaaGreatDoor
namespace Go.Proofs.YtcopfgbbjdefbaaGreatDoor
open Go Go.Ev
set_option maxRecDepth 100000
theorem J.settle {P:Program} {f:FuncId} {root:Code} {Γ:Ctx} {Q:Out} {todo:List PI} {st:ST} {t s:Nat} {want:Bool} {v:SX} (hm:(t,SV.grd s want v)∈st.fr) (hb:lookup st.fr s=some (.x (.c (.pd (.bool want))))) {fr':List (Nat×SV)} (hf:∀ p∈fr',p∈st.fr∨p=(t,.x v))
 (hk:J P f root Γ Q todo { st with fr:=fr' }):J P f root Γ Q todo st:=by
 intro hT V a w r
 have hon:a.tmps.getD s undef = .bool want:=by
  have:=r.slots s _ (cw hb)
  have h2:SX.R V (.c (.pd (.bool want))) (a.tmps.getD s undef):=this
  generalize a.tmps.getD s undef=u at h2 ⊢
  cases h2; rfl
 have hv:cg V a t (.x v):=(r.slots t _ hm).1 hon
 refine hk hT V a w ⟨r.1,r.2,fun t' sv h'=>?_,r.4,r.5⟩
 rcases hf _ h' with h | h
 · exact r.slots _ _ h
 · simp only [ae] at h
   obtain ⟨rfl,rfl⟩:=h; exact hv
def Au (P:Program) (cfg:Cfg) (root:Code) (p:List Nat) (i:Nat) (st:ST):Option (Option Prop×ST) :=
 match (opsOf (sub root p))[i]? with
 | some o=>match o.guard with
   | none=>nL P cfg o st
   | some _=>none
 | none=>none
theorem J.step {P:Program} {cfg:Cfg} {f:FuncId} {root:Code} {Γ:Ctx} {Q:Out} {st st':ST} (ht:ag P cfg.tab) {p:List Nat} {i:Nat} {k:List PI} {q:Option Prop} (h:Au P cfg root p i st=some (q,st')) (hq:Holds q) (hk:J P f root Γ Q (.ops p (i+1)::k) st'):J P f root Γ Q (.ops p i::k) st:=by
 unfold Au at h
 split at h
 · rename_i o ho
   split at h
   · rename_i hg
     intro hT V a w r
     have hi:i<(opsOf (sub root p)).size:=(Array.getElem?_eq_some_iff.1 ho).1
     have hsz:(opsOf (sub root p)).size - i=((opsOf (sub root p)).size - (i+1))+1:=by omega
     simp only [ax,PI.den]
     rw [hsz,bX]
     exact iU ⟨ht,hT⟩ r ho (by simp only [Region.wanted,hg]) h hq fun V' a' w' r'=>hk hT V' a' w' r'
   · cases h
 · cases h
/-! ### lists, alike -/
end Go.Proofs.YtcopfgbbjdefbaaGreatDoor
namespace Go.Proofs.YtcopfgbbjdefbaaGreatDoor
open Go Go.Ev
set_option maxRecDepth 100000
abbrev zUr2:List PI:=[.code [1,0,1,0,0],.inLoop [1,0,1,0,0],.inBlock 0,.code [1,1]]
theorem K1 (l:List Cell) (Γ:Ctx) (hl:l.length≤maxLen)  : ∀ (n k:Nat),l.length - k≤n→k≤l.length →
 J Tryz.prog 195 (aw Tryz.f195) Γ (Eq2 (.x (.b (jt (l.drop k)))) []) zUr2 ({ n:=16,fr:=[(0,.p (.lst .cell l)),(2,.p (.bool false)),(3,.i k)],ck:=[],kn:=[2] }):=by
 intro n
 induction n with
 | zero=>?_
 | succ n ih=>?_
 all_goals
  intro k hn hk
  refine jg aV Tryz.func195 (.ite (decide ((k:Int)<(l.length:Int))) (.need (inRg k l.length) (.ite (Cell.op (ETy.get .cell l k)==(6:Int)) (.ret (.p (.bool true)) []) (.stop zUr2 { n:=16,fr:=[(0,.p (.lst .cell l)),(2,.p (.bool false)),(3,.i (IntKind.wrap .i64 ((k:Int)+1)))],ck:=[],kn:=[2] }))) (.ret (.p (.bool false)) [])) ?_
  refine ⟨fun hlt=>?_,fun hge=>?_⟩
  · have hk':k<l.length:=by have:=of_decide_eq_true hlt; omega
    rw [bI (t:=.cell) (l:=l) hk']
    refine ⟨by omega,?_⟩
    generalize ETy.get .cell l k=v
    have e:jt (v::l.drop (k+1))=(v.op==6||jt (l.drop (k+1))):=b7
    rw [e]
    refine ⟨fun hb=>⟨?_,rfl⟩,fun hb=>?_⟩
    · have hb':(v.op==6)=true:=hb
      rw [hb']; rfl
    · have hb':(v.op==6)=false:=hb
      rw [hb',a6]; (rw [aZ (aC hk' hl)]; first | (exfalso; omega) | exact J.kn [2] (ih (k+1) (by omega) (by omega)))
  · rw [bT (l:=l) (by have:=of_decide_eq_false hge; omega)]
    exact ⟨rfl,rfl⟩
theorem J0 (l:List Cell):ah Tryz.prog 195 [.l .cell (l)] [] (.x (.b (jt l))) []:=by
 refine dg aV Tryz.func195 (.stop zUr2 { n:=16,fr:=[(0,.p (.lst .cell l)),(2,.p (.bool false)),(3,.i 0)],ck:=[],kn:=[2] }) fun Γ=>?_
 exact J.len 0 rfl fun hl=>K1 l Γ hl l.length 0 (by omega) (by omega)
def qC:Ent:=(195,fun
 | [.c (.pd (.lst .cell l))],[]=>some (none,.x (.c (.pd (.bool (jt l)))),[])
 | _,_=>none)
theorem Fw:EntOk Tryz.prog qC:=entOk fun vs ck=>by
 unfold qC; dsimp only; split
 · rename_i l; exact entS fun hp=>J0 l
 · exact entN
def AK:Cfg:=⟨aX,[oa,mh,qC,lf]⟩
theorem A7:ag Tryz.prog AK.tab:=(ag.cons ma (ag.cons r7 (ag.cons Fw (ag.cons vW ag.nil))))
theorem Dx (d:Deed):ah Tryz.prog 163 [.e .deed d] [] (.x (.b (eC d))) []:=by
 refine dg A7 Tryz.func163 (.ite (d.kind==(1:Int)) (.ret (.p (.bool (ba d.name&&dM d.expr && !jt d.expr))) []) (.ret (.p (.bool ((d.kind==(2:Int)||d.kind==(3:Int))&&fW d.name&&(d.expr.length:Int)==0))) [])) fun Γ=>?_
 unfold eC nz
 refine ⟨fun h=>?_,fun h=>?_⟩
 · rw [h,cond_true,← eR]; exact ⟨rfl,rfl⟩
 · rw [h,cond_false]
   cases h2:(d.kind==2||d.kind==3)
   · rw [aR,aR]; exact ⟨rfl,rfl⟩
   · rw [aU]; exact ⟨rfl,rfl⟩
def vc:Ent:=(163,fun
 | [.agg [.pd (.int .i64 a),.pd (.str b),.pd (.lst .cell d)]],[]=>some (none,.x (.c (.pd (.bool (eC ⟨a,b,d⟩)))),[])
 | _,_=>none)
theorem IY:EntOk Tryz.prog vc:=entOk fun vs ck=>by
 unfold vc; dsimp only; split
 · rename_i a b d; exact entS fun hp=>Dx ⟨a,b,d⟩
 · exact entN
def ou:Cfg:=⟨aX,[vc]⟩
theorem nV:ag Tryz.prog ou.tab:=(ag.cons IY ag.nil)
abbrev zUr1:List PI:=[.code [1,1,0,1,0,0],.inLoop [1,1,0,1,0,0],.inBlock 0,.code [1,1,1]]
theorem GP (l:List Deed) (Γ:Ctx) (hl:l.length≤maxLen)  : ∀ (n k:Nat),l.length - k≤n→k≤l.length →
 J Tryz.prog 113 (aw Tryz.f113) Γ (Eq2 (.x (.b ((l.drop k).all eC))) []) zUr1 ({ n:=24,fr:=[(0,.p (.lst .deed l)),(2,.p (.bool false)),(3,.i k)],ck:=[],kn:=[2] }):=by
 intro n
 induction n with
 | zero=>?_
 | succ n ih=>?_
 all_goals
  intro k hn hk
  refine jg nV Tryz.func113 (.ite (decide ((k:Int)<(l.length:Int))) (.need (inRg k l.length) (.ite (!eC (ETy.get .deed l k)) (.ret (.p (.bool false)) []) (.stop zUr1 { n:=24,fr:=[(0,.p (.lst .deed l)),(2,.p (.bool false)),(3,.i (IntKind.wrap .i64 ((k:Int)+1)))],ck:=[],kn:=[2] }))) (.ret (.p (.bool true)) [])) ?_
  refine ⟨fun hlt=>?_,fun hge=>?_⟩
  · have hk':k<l.length:=by have:=of_decide_eq_true hlt; omega
    rw [bI (t:=.deed) (l:=l) hk']
    refine ⟨by omega,?_⟩
    generalize ETy.get .deed l k=v
    rw [cU]
    refine ⟨fun hb=>⟨?_,rfl⟩,fun hb=>?_⟩
    · have hb':eC v=false:=nt hb
      rw [hb']; rfl
    · have hb':eC v=true:=nf hb
      rw [hb',aU]; (rw [aZ (aC hk' hl)]; first | (exfalso; omega) | exact J.kn [2] (ih (k+1) (by omega) (by omega)))
  · rw [bT (l:=l) (by have:=of_decide_eq_false hge; omega)]
    exact ⟨rfl,rfl⟩
theorem yO (l:List Deed):ah Tryz.prog 113 [.l .deed l] [] (.x (.b (fh l))) []:=by
 refine dg nV Tryz.func113 (.ite (decide ((l.length:Int)<1)||decide ((l.length:Int)>8)) (.ret (.p (.bool false)) []) (.stop zUr1 { n:=24,fr:=[(0,.p (.lst .deed l)),(2,.p (.bool false)),(3,.i 0)],ck:=[],kn:=[2] })) fun Γ=>?_
 refine ⟨fun h=>⟨?_,rfl⟩,fun h=>?_⟩
 · have:fh l=false:=by
    unfold fh
    simp only [aM,decide_eq_true_eq] at h
    cases l.all eC
    · rfl
    · rw [aU,cr]
      rcases h with h | h
      · left; exact decide_eq_false (by omega)
      · right; exact decide_eq_false (by omega)
   rw [this]
 · simp only [ay,decide_eq_false_iff_not] at h
   have:fh l=(l.drop 0).all eC:=by
    unfold fh
    rw [decide_eq_true (show (l.length:Int)>0 by omega),decide_eq_true (show (l.length:Int)≤8 by omega)]; simp
   rw [this]
   exact J.len 0 rfl fun hl=>GP l Γ hl l.length 0 (by omega) (by omega)
def oU:Ent:=(113,fun
 | [.c (.pd (.lst .deed l))],[]=>some (none,.x (.c (.pd (.bool (fh l)))),[])
 | _,_=>none)
theorem Bl:EntOk Tryz.prog oU:=entOk fun vs ck=>by
 unfold oU; dsimp only; split
 · rename_i l; exact entS fun hp=>yO l
 · exact entN
end Go.Proofs.YtcopfgbbjdefbaaGreatDoor
namespace Go.Proofs.YtcopfgbbjdefbaaGreatDoor
open Go Go.Ev
set_option maxRecDepth 100000
theorem BS (k:Int):ah Tryz.prog 84 [.i k] [] (.x (.b (a8 k))) []:=by
 refine dg aV Tryz.func84 (.ret (.p (.bool (k==(5:Int)||k==(6:Int)))) []) fun Γ=>?_
 exact ⟨rfl,rfl⟩
def mb:Ent:=(84,fun
 | [.c (.pd (.int .i64 k))],[]=>some (none,.x (.c (.pd (.bool (a8 k)))),[])
 | _,_=>none)
theorem nF:EntOk Tryz.prog mb:=entOk fun vs ck=>by
 unfold mb; dsimp only; split
 · rename_i k; exact entS fun hp=>BS k
 · exact entN
variable (l:List Ev.Stat) (b:Bool) (e:Int) (n s:Str)
def bW:Int:=if b=true then 0 else e
def aP:Int:=aG (fun s:Ev.Stat=>s.name==n) l 0
theorem A0:ah Tryz.prog 88 [.b b,.i e] [] (.x (.i (bW b e))) []:=by
 refine dg aV Tryz.func88 (.ite b (.ret (.i 0) []) (.ret (.i e) [])) fun Γ=>?_
 refine ⟨fun h=>?_,fun h=>?_⟩
 · unfold bW; rw [if_pos h]; exact ⟨rfl,rfl⟩
 · unfold bW; rw [if_neg (by rw [h]; decide)]; exact ⟨rfl,rfl⟩
def j4:Ent:=(88,fun
 | [.c (.pd (.bool b)),.c (.pd (.int .i64 e))],[]=>some (none,.x (.c (.pd (.int .i64 (bW b e)))),[])
 | _,_=>none)
theorem jk:EntOk Tryz.prog j4:=entOk fun vs ck=>by
 unfold j4; dsimp only; split
 · rename_i b e; exact entS fun hp=>A0 b e
 · exact entN
/-! ### a state's place -/
theorem GD (s:Ev.Stat) (n:Str):ah Tryz.prog 105 [.e .stat s,.p (.ref .str n 0)] [] (.x (.b (s.name==n))) []:=by
 refine dg aV Tryz.func105 (.ret (.p (.bool (s.name==n))) []) fun Γ=>⟨rfl,rfl⟩
def C3:Ent:=(105,fun
 | [.agg [.pd (.str a),.pd (.int .i64 b),.pd (.int .i64 c),.pd (.str d),.pd (.lst .deed e),.pd (.lst .deed f)],.c (.pd (.ref .str n 0))],[]=>some (none,.x (.c (.pd (.bool (a==n)))),[])
 | _,_=>none)
theorem Kt:EntOk Tryz.prog C3:=entOk fun vs ck=>by
 unfold C3; dsimp only; split
 · rename_i a b c d e f n; exact entS fun hp=>GD ⟨a,b,c,d,e,f⟩ n
 · exact entN
def ya:Cfg:=⟨aX,[C3]⟩
theorem uq:ag Tryz.prog ya.tab:=(ag.cons Kt ag.nil)
abbrev zTf1:List PI:=[.code [1,0,1,0,0],.inLoop [1,0,1,0,0],.inBlock 0,.code [1,1]]
theorem HG (Γ:Ctx) (hl:l.length≤maxLen)  : ∀ (n k:Nat),l.length - k≤n→k≤l.length →
 J Tryz.prog 104 (aw Tryz.f104) Γ (Eq2 (.x (.i (aG (fun v:Ev.Stat=>v.name==s) (l.drop k) k))) []) zTf1 ({ n:=19,fr:=[(0,.p (.lst .stat l)),(1,.x (.c (.fn (.func 105) [] [.pd (.ref .str s 0)]))),(4,.i 0),(7,.i l.length),(8,.i k)],ck:=[] }):=by
 intro n
 induction n with
 | zero=>?_
 | succ n ih=>?_
 all_goals
  intro k hn hk
  refine jg uq Tryz.func104 (.ite (decide ((k:Int)<(l.length:Int))) (.need (inRg k l.length) (.ite (Stat.name (ETy.get .stat l k)==s) (.ret (.i k) []) (.stop zTf1 { n:=19,fr:=[(0,.p (.lst .stat l)),(1,.x (.c (.fn (.func 105) [] [.pd (.ref .str s 0)]))),(4,.i 0),(7,.i l.length),(8,.i (IntKind.wrap .i64 ((k:Int)+1)))],ck:=[] }))) (.ret (.i (-1:Int)) [])) ?_
  refine ⟨fun hlt=>?_,fun hge=>?_⟩
  · have hk':k<l.length:=by have:=of_decide_eq_true hlt; omega
    rw [bI (t:=.stat) (l:=l) hk']
    refine ⟨by omega,?_⟩
    generalize ETy.get .stat l k=v
    refine ⟨fun hb=>⟨?_,rfl⟩,fun hb=>?_⟩
    · simp only [aG,hb,cond_true]
    · simp only [aG,hb,cond_false]; (rw [aZ (aC hk' hl)]; first | (exfalso; omega) | exact ih (k+1) (by omega) (by omega))
  · rw [bT (l:=l) (by have:=of_decide_eq_false hge; omega)]
    exact ⟨rfl,rfl⟩
theorem Gw:ah Tryz.prog 104 [.l .stat (l),SX.c (SC.fn (Fn.func 105) [] [RC.pd (PD.ref ETy.str s 0)])] [] (.x (.i (aG (fun v:Ev.Stat=>v.name==s) l 0))) []:=by
 refine dg uq Tryz.func104 (.stop zTf1 { n:=19,fr:=[(0,.p (.lst .stat l)),(1,.x (.c (.fn (.func 105) [] [.pd (.ref .str s 0)]))),(4,.i 0),(7,.i l.length),(8,.i 0)],ck:=[] }) fun Γ=>?_
 exact J.len 0 rfl fun hl=>HG l s Γ hl l.length 0 (by omega) (by omega)
def Bh:Ent:=(104,fun
 | [.c (.pd (.lst .stat l)),.c (.fn (.func 105) [] [.pd (.ref .str s 0)])],[]=>some (none,.x (.c (.pd (.int .i64 (aG (fun v:Ev.Stat=>v.name==s) l 0)))),[])
 | _,_=>none)
theorem Kq:EntOk Tryz.prog Bh:=entOk fun vs ck=>by
 unfold Bh; dsimp only; split
 · rename_i l s; exact entS fun hp=>Gw l s
 · exact entN
def Ec:Cfg:=⟨aX,[Bh]⟩
theorem Er:ag Tryz.prog Ec.tab:=(ag.cons Kq ag.nil)
theorem Br (c:Chart) (n:Str):ah Tryz.prog 49 [.e .chart c,.s n] [] (.x (.i (aP c.states n))) []:=by
 refine dg Er Tryz.func49 (.ret (.i (aG (fun v=>v.name==n) c.states (0:Int))) []) fun Γ=>?_
 exact ⟨rfl,rfl⟩
def ku:Ent:=(49,fun
 | [.agg [.pd (.str a),.pd (.lst .str b),.pd (.lst .var c),.pd (.lst .stat d),.pd (.lst .tran e)],.c (.pd (.str n))],[]=>some (none,.x (.c (.pd (.int .i64 (aP d n)))),[])
 | _,_=>none)
theorem lz:EntOk Tryz.prog ku:=entOk fun vs ck=>by
 unfold ku; dsimp only; split
 · rename_i a b c d e n; exact entS fun hp=>Br ⟨a,b,c,d,e⟩ n
 · exact entN
end Go.Proofs.YtcopfgbbjdefbaaGreatDoor
namespace Go.Ev
open Ieee
end Go.Ev
namespace Go.Ev
open Ieee
theorem AS (k l:Nat):min (-(k:Int)) (-(l:Int)) = -((max k l:Nat):Int):=by omega
end Go.Ev
namespace Go.Ev
open Ieee
end Go.Ev
namespace Go.Ev
open Ieee
def inB (x:Nat):Bool:=(ff x 13920626448202203136==some .gt||ff x 13920626448202203136==some .eq)&&(ff x 4697254411347427328==some .lt||ff x 4697254411347427328==some .eq)
def pIn (a:Int):Bool:=decide (-1048576≤a)&&decide (a≤1048576)
theorem gi {x:Nat}:inB x=true↔(ff x 13920626448202203136=some .gt∨ff x 13920626448202203136=some .eq)∧(ff x 4697254411347427328=some .lt∨ff x 4697254411347427328=some .eq):=by
 simp [inB]
/-! ### points, by the bits of their parts -/
def num (n:Int):Nat:=FloatKind.f64.nearest n
def vi (a b:Int):Nat×Nat:=if pIn a&&pIn b then (num a,num b) else (0,0)
def mO (a b:Int):Int:=if pIn a&&pIn b then 0 else 5
end Go.Ev
namespace Go.Proofs.YtcopfgbbjdefbaaGreatDoor
open Go Go.Ev
set_option maxRecDepth 100000
theorem CS (a b:Int):ah Tryz.prog 171 [.i a,.i b] [] (.tup [.c (.pd (.cx (some (vi a b)))),.i (mO a b)]) []:=by
 refine dg aV Tryz.func171 (.ite (decide (a<(-1048576:Int))||decide (a>(1048576:Int))||decide (b<(-1048576:Int))||decide (b>(1048576:Int))) (.ret (.tup [.p (.cx (some (0,0))),.i 5]) []) (.ret (.tup [.p (.cx (some (FloatKind.nearest FloatKind.f64 a,FloatKind.nearest FloatKind.f64 b))),.i 0]) [])) fun Γ=>?_
 refine ⟨fun h=>⟨?_,rfl⟩,fun h=>⟨?_,rfl⟩⟩
 · have:(pIn a&&pIn b)=false:=by
    simp only [aM,decide_eq_true_eq] at h
    simp only [pIn,cr,decide_eq_false_iff_not]; omega
   simp [vi,mO,this]
 · have:(pIn a&&pIn b)=true:=by
    simp only [ay,decide_eq_false_iff_not] at h
    simp only [pIn,af,decide_eq_true_eq]; omega
   simp [vi,mO,this,num]
def qT:Ent:=(171,fun
 | [.c (.pd (.int .i64 a)),.c (.pd (.int .i64 b))],[]=>some (none,.tup [.c (.pd (.cx (some (vi a b)))),.c (.pd (.int .i64 (mO a b)))],[])
 | _,_=>none)
theorem EG:EntOk Tryz.prog qT:=entOk fun vs ck=>by
 unfold qT; dsimp only; split
 · rename_i a b; exact entS fun hp=>CS a b
 · exact entN
end Go.Proofs.YtcopfgbbjdefbaaGreatDoor
namespace Go.Ev
def i64 (n:Int):Bool:=decide (-9223372036854775808≤n)&&decide (n≤9223372036854775807)
def u64 (n:Int):Bool:=decide (0≤n)&&decide (n<18446744073709551616)
end Go.Ev
namespace Go.Ev
def vR (v:Val):Bool:=if v.kind=1 then v.b==0 else if v.kind=2 then v.b==0&&(v.a==0||v.a==1) else if v.kind=3 then pIn v.a&&pIn v.b else false
/-! ### points -/
/-! ### what comes of values that may be may be, too -/
end Go.Ev
namespace Go.Proofs.YtcopfgbbjdefbaaGreatDoor
open Go Go.Ev
set_option maxRecDepth 100000
theorem KP (a:Int):ah Tryz.prog 162 [.i a] [] (.x (.b (pIn a))) []:=by
 refine dg aV Tryz.func162 (.ret (.p (.bool (decide (a≥(-1048576:Int))&&decide (a≤(1048576:Int))))) []) fun Γ=>?_
 exact ⟨rfl,rfl⟩
def eIn:Ent:=(162,fun
 | [.c (.pd (.int .i64 a))],[]=>some (none,.x (.c (.pd (.bool (pIn a)))),[])
 | _,_=>none)
theorem Ml:EntOk Tryz.prog eIn:=entOk fun vs ck=>by
 unfold eIn; dsimp only; split
 · rename_i a; exact entS fun hp=>KP a
 · exact entN
def Js:Cfg:=⟨aX,[eIn]⟩
theorem Hy:ag Tryz.prog Js.tab:=(ag.cons Ml ag.nil)
def Aw:Cfg:=⟨aX,[qT]⟩
theorem A9:ag Tryz.prog Aw.tab:=(ag.cons EG ag.nil)
theorem vI (k a b:Int):ah Tryz.prog 144 [.agg [.pd (.i k),.pd (.i a),.pd (.i b)]] [] (.x (.b (vR ⟨k,a,b⟩))) []:=by
 refine dg (cfg:=(Aw)) A9 Tryz.func144 (.ite (k==(1:Int)) (.ret (.p (.bool (b==(0:Int)))) []) (.ite (k==(2:Int)) (.ret (.p (.bool (b==(0:Int)&&(a==(0:Int)||a==(1:Int))))) []) (.ite (k==(3:Int)) (.ret (.p (.bool (mO a b==(0:Int)))) []) (.ret (.p (.bool false)) [])))) fun Γ=>?_
 refine ⟨fun h=>⟨?_,rfl⟩,fun h1=>⟨fun h=>⟨?_,rfl⟩,fun h2=>⟨fun h=>⟨?_,rfl⟩,fun h3=>⟨?_,rfl⟩⟩⟩⟩
 · simp_all [vR]
 · simp_all [vR]
 · have e:vR ⟨k,a,b⟩=(pIn a&&pIn b):=by simp_all [vR]
   rw [e]
   cases h':(pIn a&&pIn b)
   · simp [mO,h']
   · simp [mO,h']
 · simp_all [vR]
def mH:Ent:=(144,fun
 | [.agg [.pd (.int .i64 k),.pd (.int .i64 a),.pd (.int .i64 b)]],[]=>some (none,.x (.c (.pd (.bool (vR ⟨k,a,b⟩)))),[])
 | _,_=>none)
theorem Af:EntOk Tryz.prog mH:=entOk fun vs ck=>by
 unfold mH; dsimp only; split
 · rename_i k a b; exact entS fun hp=>vI k a b
 · exact entN
theorem uH (k a b:Int):ah Tryz.prog 111 [.agg [.pd (.i k),.pd (.i a),.pd (.i b)]] [] (.x (.b (vR ⟨k,a,b⟩))) []:=by
 refine dg (cfg:=(Js)) Hy Tryz.func111 (.ite (k==(1:Int)) (.ret (.p (.bool (b==(0:Int)))) []) (.ite (k==(2:Int)) (.ret (.p (.bool (k==(2:Int)&&(a==(0:Int)&&b==(0:Int))||k==(2:Int)&&(a==(1:Int)&&b==(0:Int))))) []) (.ite (k==(3:Int)) (.ret (.p (.bool (pIn a&&pIn b))) []) (.ret (.p (.bool false)) [])))) fun Γ=>?_
 refine ⟨fun h=>⟨?_,rfl⟩,fun h1=>⟨fun h=>⟨?_,rfl⟩,fun h2=>⟨fun h=>⟨?_,rfl⟩,fun h3=>⟨?_,rfl⟩⟩⟩⟩
 · simp_all [vR]
 · have e:k=2:=by simpa using h
   subst e
   have e2:vR ⟨2,a,b⟩=(b==0&&(a==0||a==1)):=by simp [vR]
   rw [e2]
   cases hb:b==0 <;> cases h0:a==0 <;> cases h4:a==1 <;> simp
 · simp_all [vR]
 · simp_all [vR]
def lG:Ent:=(111,fun
 | [.agg [.pd (.int .i64 k),.pd (.int .i64 a),.pd (.int .i64 b)]],[]=>some (none,.x (.c (.pd (.bool (vR ⟨k,a,b⟩)))),[])
 | _,_=>none)
theorem yg:EntOk Tryz.prog lG:=entOk fun vs ck=>by
 unfold lG; dsimp only; split
 · rename_i k a b; exact entS fun hp=>uH k a b
 · exact entN
end Go.Proofs.YtcopfgbbjdefbaaGreatDoor

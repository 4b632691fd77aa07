/- Contracts: texts' beginnings, events' names; behind the kinds' texts. Conditions: none. Contracts: names, events' names. Conditions: none. Contracts: actions that may be. Conditions: none. Contracts: lists of cells alike; two rules of the executor. Conditions: none. Contracts: the document's blocks that may be, blocks alike. Conditions: sizes. Contracts: valid: small functions. Conditions: sizes. Plain laws: floats that are whole numbers, their sums and products; parts of points. Conditions: each theorem's own. Contracts of the program's functions on points: made, parted. Conditions: none. Plain laws: whole numbers within int64, products; what operations on values come to. Conditions: each theorem's own. Contracts: values that may be. Conditions: none. -/
import Derived.Test.YtcopfgbbjdefbaaGreatDoorFf
import Derived.Test.YtcopfgbbjdefbaaGreatDoorTa
import Derived.Lib.AppendIntMem
import Derived.Test.YtcopfgbbjdefbaaGreatDoorVb
import Derived.Test.YtcopfgbbjdefbaaGreatDoorTe
import Derived.Laws.ComplexArith
import Derived.Test.YtcopfgbbjdefbaaGreatDoorPC
import Derived.Test.YtcopfgbbjdefbaaGreatDoorPY
import Derived.Laws.MathBits
namespace Go.Proofs.YtcopfgbbjdefbaaGreatDoor
open Go Go.Ev
set_option maxRecDepth 100000
variable (a b:Str)
theorem rB:ag Tryz.prog 243 [.s a,.s b] [] (.x (.b (decide (ax a≥ax b)&&a.take (ax b).toNat==b))) []:=by
 refine dg aT Tryz.func243 (.need (decide (ax a≥ax b)=true→(0:Int)≤ax b∧ax b≤(a.length:Int)) (.ret (.p (.bool (decide (ax a≥ax b)&&(dM a none (some (ax b))).2==b))) [])) fun Γ=>?_
 refine ⟨fun h=>?_,rfl,rfl⟩
 have:=of_decide_eq_true h
 have h1:ax b=(b.length:Int):=rfl
 have h2:ax a=(a.length:Int):=rfl
 omega
def eHp:Ent:=(243,fun
 | [.c (.pd (.str a)),.c (.pd (.str b))],[]=>some (none,.x (.c (.pd (.bool (decide (ax a≥ax b)&&a.take (ax b).toNat==b)))),[])
 | _,_=>none)
theorem IP:EntOk Tryz.prog eHp:=entOk fun vs ck=>by
 unfold eHp; dsimp only; split
 · rename_i a b; exact entS fun hp=>rB a b
 · exact entN
def Gj:Cfg:=⟨bk,[eHp]⟩
theorem FU:ah Tryz.prog Gj.tab:=(ah.cons IP ah.nil)
def dB:Bool:=decide (ax a≥ax b)&&a.take (ax b).toNat==b
def dv:Str:=bif dB a b then a.drop (ax b).toNat else a
def fH (s:Str):Bool:=aU (dv s [100,111,110,101,46])
theorem qB:ag Tryz.prog 201 [.s a,.s b] [] (.tup [.s (dv a b),.b (dB a b)]) []:=by
 refine dg FU Tryz.func201 (.ite (!(decide (ax a≥ax b)&&List.take ((ax b).toNat) a==b)) (.ret (.tup [.p (.str a),.p (.bool false)]) []) (.need ((0:Int)≤ax b∧ax b≤(a.length:Int)) (.ret (.tup [.p (.str ((dM a (some (ax b)) none).2)),.p (.bool true)]) []))) fun Γ=>?_
 refine ⟨fun h=>⟨?_,rfl⟩,fun h=>⟨?_,?_,rfl⟩⟩
 · have h':dB a b=false:=by
    have h2:(!dB a b)=true:=h
    simpa using h2
   simp [dv,h']
 · have h':dB a b=true:=by
    have h2:(!dB a b)=false:=h
    simpa using h2
   simp only [dB,af,decide_eq_true_eq] at h'
   have h1:ax b=(b.length:Int):=rfl
   have h2:ax a=(a.length:Int):=rfl
   omega
 · have h':dB a b=true:=by
    have h2:(!dB a b)=false:=h
    simpa using h2
   simp [dv,h',dM]
def tD:Ent:=(201,fun
 | [.c (.pd (.str a)),.c (.pd (.str b))],[]=>some (none,.tup [.c (.pd (.str (dv a b))),.c (.pd (.bool (dB a b)))],[])
 | _,_=>none)
theorem Do:EntOk Tryz.prog tD:=entOk fun vs ck=>by
 unfold tD; dsimp only; split
 · rename_i a b; exact entS fun hp=>qB a b
 · exact entN
def w7:Cfg:=⟨bk,[tD]⟩
theorem AI:ah Tryz.prog w7.tab:=(ah.cons Do ah.nil)
theorem qJ:ag Tryz.prog 166 [.s a,.s b] [] (.tup [.s (dv a b),.b (dB a b)]) []:=by
 refine dg AI Tryz.func166 (.ret (.tup [.p (.str (dv a b)),.p (.bool (dB a b))]) []) fun Γ=>?_
 exact ⟨rfl,rfl⟩
def vI:Ent:=(166,fun
 | [.c (.pd (.str a)),.c (.pd (.str b))],[]=>some (none,.tup [.c (.pd (.str (dv a b))),.c (.pd (.bool (dB a b)))],[])
 | _,_=>none)
theorem xG:EntOk Tryz.prog vI:=entOk fun vs ck=>by
 unfold vI; dsimp only; split
 · rename_i a b; exact entS fun hp=>qJ a b
 · exact entN
end Go.Proofs.YtcopfgbbjdefbaaGreatDoor
namespace Go.Proofs.YtcopfgbbjdefbaaGreatDoor
open Go Go.Ev
set_option maxRecDepth 100000
def BO:Cfg:=⟨bk,[vI,iU]⟩
theorem B2:ah Tryz.prog BO.tab:=(ah.cons xG (ah.cons gX ah.nil))
variable (s:Str)
theorem Af:ag Tryz.prog 129 [.s s] [] (.x (.b (fH s))) []:=by
 refine dg B2 Tryz.func129 (.ret (.p (.bool (aU (dv s [(100:UInt8),111,110,101,46])))) []) fun Γ=>?_
 exact ⟨rfl,rfl⟩
def mB:Ent:=(129,fun
 | [.c (.pd (.str s))],[]=>some (none,.x (.c (.pd (.bool (fH s)))),[])
 | _,_=>none)
theorem rT:EntOk Tryz.prog mB:=entOk fun vs ck=>by
 unfold mB; dsimp only; split
 · rename_i s; exact entS fun hp=>Af s
 · exact entN
theorem D5:dv ([100,111,110,101,46]++s) [100,111,110,101,46]=s:=by
 have h:dB ([100,111,110,101,46]++s) [100,111,110,101,46]=true:=by
  simp [dB,ax]; omega
 rw [dv,h]; rfl
theorem D9:aU ([100,111,110,101,46]++s)=false:=by
 have:([100,111,110,101,46]++s:Str).any jA=true:=by
  rw [dX]
  have:([100,111,110,101,46]:Str).any jA=true:=by decide
  rw [this]; rfl
 rw [aU,this]; simp
theorem AJ {s p:Str} (h:dB s p=true):∃ r,s=p++r:=by
 simp only [dB,af,beq_iff_eq,decide_eq_true_eq] at h
 refine ⟨s.drop (ax p).toNat,?_⟩
 have:=cB (ax p).toNat s
 rw [h.2] at this; exact this.symm
theorem A9:fH ([100,111,110,101,46]++s)=aU s:=by rw [fH,D5]
theorem Fj {s:Str} (h:dB s [100,111,110,101,46]=false):fH s=aU s:=by simp [fH,dv,h]
def B5:Cfg:=⟨bk,[nC]⟩
theorem BK:ah Tryz.prog B5.tab:=(ah.cons lv ah.nil)
theorem rn:ag Tryz.prog 196 [.s s] [] (.x (.b (fH s))) []:=by
 refine dg BK Tryz.func196 (.need (aU s=false∧decide (ax s>(5:Int))=true→(0:Int)≤5∧(5:Int)≤(s.length:Int)) (.need (aU s=false∧(decide (ax s>(5:Int))&&(dM s none (some (5:Int))).2==[100,111,110,101,46])=true→(0:Int)≤5∧(5:Int)≤(s.length:Int)) (.ret (.p (.bool (aU s||decide (ax s>(5:Int))&&(dM s none (some (5:Int))).2==[100,111,110,101,46]&&aU ((dM s (some (5:Int)) none).2)))) []))) fun Γ=>?_
 have hL:ax s=(s.length:Int):=rfl
 refine ⟨fun h=>by have:=of_decide_eq_true h.2; omega,fun h=>by simp only [af,decide_eq_true_eq] at h; omega,?_,rfl⟩
 cases hp:dB s [100,111,110,101,46]
 · rw [Fj hp]
   have h5:(decide (ax s>5)&&(dM s none (some 5)).2==[100,111,110,101,46])=false:=by
    cases hb:(decide (ax s>5)&&(dM s none (some 5)).2==[100,111,110,101,46])
    · rfl
    · exfalso
      simp only [af,decide_eq_true_eq] at hb
      have:dB s [100,111,110,101,46]=true:=by
       simp only [dB,af,decide_eq_true_eq]
       refine ⟨?_,hb.2⟩
       have h2:ax [100,111,110,101,46]=5:=rfl
       omega
      rw [this] at hp; cases hp
   rw [h5,bj,bQ]
 · obtain ⟨r,rfl⟩:=AJ hp
   rw [A9,D9,aX]
   have hc:(dM ([100,111,110,101,46]++r) (some 5) none).2=r:=rfl
   have hc2:(dM ([100,111,110,101,46]++r) none (some 5)).2=[100,111,110,101,46]:=rfl
   rw [hc,hc2]
   cases r with
   | nil=>rfl
   | cons c r =>
     have:decide (ax ([100,111,110,101,46]++c::r)>5)=true:=decide_eq_true (by
      have:ax ([100,111,110,101,46]++c::r)=((([100,111,110,101,46]++c::r):Str).length:Int):=rfl
      rw [this]; simp only [an,az,bA]; omega)
     rw [this]; rfl
def kF:Ent:=(196,fun
 | [.c (.pd (.str s))],[]=>some (none,.x (.c (.pd (.bool (fH s)))),[])
 | _,_=>none)
theorem tK:EntOk Tryz.prog kF:=entOk fun vs ck=>by
 unfold kF; dsimp only; split
 · rename_i s; exact entS fun hp=>rn s
 · exact entN
end Go.Proofs.YtcopfgbbjdefbaaGreatDoor
namespace Go.Proofs.YtcopfgbbjdefbaaGreatDoor
open Go Go.Ev
set_option maxRecDepth 100000
variable (l:List Cell) {b:Bool} (d:Deed) (Γ:Ctx)
theorem nt (h:(!b)=true):b=false:=by cases b <;> simp_all
theorem nf (h:(!b)=false):b=true:=by cases b <;> simp_all
/-! ### plain -/
def jd:Bool:=l.any fun c=>c.op==6
def mN:Bool:=dx l && !jd l
def dY:Bool:=bif d.kind==1 then aU d.name&&mN d.expr else bif d.kind==2||d.kind==3 then fH d.name&&((d.expr.length:Int)==0) else false
def eS (l:List Deed):Bool:=l.all dY&&(decide ((l.length:Int)>0)&&decide ((l.length:Int)≤8))
def gM (v:Var) (x:Val):Bool:=v.kind==x.kind&&(decide (x.a≥v.lo)&&decide (x.a≤v.hi)&&(x.kind != 3||(decide (x.b≥v.lo)&&decide (x.b≤v.hi))))
/-! ### the program's -/
theorem BP (c:Cell):ag Tryz.prog 259 [.e .cell c] [] (.x (.b (c.op==6))) []:=by
 refine dg aT Tryz.func259 (.ret (.p (.bool (c.op==(6:Int)))) []) fun Γ=>⟨rfl,rfl⟩
def tB:Ent:=(259,fun
 | [.agg [.pd (.int .i64 a),.pd (.int .i64 b),.pd (.str d)]],[]=>some (none,.x (.c (.pd (.bool (a==6)))),[])
 | _,_=>none)
theorem Ec:EntOk Tryz.prog tB:=entOk fun vs ck=>by
 unfold tB; dsimp only; split
 · rename_i a b d; exact entS fun hp=>BP ⟨a,b,d⟩
 · exact entN
def rh:Cfg:=⟨bk,[tB]⟩
theorem qF:ah Tryz.prog rh.tab:=(ah.cons Ec ah.nil)
abbrev zUz1:List PI:=[.code [1,0,1,0,0],.inLoop [1,0,1,0,0],.inBlock 0,.code [1,1]]
theorem FP (hl:l.length≤maxLen)  : ∀ (n k:Nat),l.length - k≤n→k≤l.length →
 J Tryz.prog 279 (aw Tryz.f279) Γ (Eq2 (.x (.i (aJ (fun c:Cell=>c.op==6) (l.drop k) k))) []) zUz1 ({ n:=19,fr:=[(0,.p (.lst .cell l)),(1,.x (.c (.fn (.func 259) [] []))),(4,.i 0),(7,.i l.length),(8,.i k)],ck:=[] }):=by
 intro n
 induction n with
 | zero=>?_
 | succ n ih=>?_
 all_goals
  intro k hn hk
  refine jg qF Tryz.func279 (.ite (decide ((k:Int)<(l.length:Int))) (.need (inRg k l.length) (.ite (Cell.op (ETy.get .cell l k)==(6:Int)) (.ret (.i k) []) (.stop zUz1 { n:=19,fr:=[(0,.p (.lst .cell l)),(1,.x (.c (.fn (.func 259) [] []))),(4,.i 0),(7,.i l.length),(8,.i (IntKind.wrap .i64 ((k:Int)+1)))],ck:=[] }))) (.ret (.i (-1:Int)) [])) ?_
  refine ⟨fun hlt=>?_,fun hge=>?_⟩
  · have hk':k<l.length:=by have:=of_decide_eq_true hlt; omega
    rw [bL (t:=.cell) (l:=l) hk']
    refine ⟨by omega,?_⟩
    generalize ETy.get .cell l k=v
    refine ⟨fun hb=>⟨?_,rfl⟩,fun hb=>?_⟩
    · simp only [aJ,hb,cond_true]
    · simp only [aJ,hb,cond_false]; (rw [aZ (aE hk' hl)]; first | (exfalso; omega) | exact ih (k+1) (by omega) (by omega))
  · rw [bY (l:=l) (by have:=of_decide_eq_false hge; omega)]
    exact ⟨rfl,rfl⟩
theorem Dr:ag Tryz.prog 279 [.l .cell (l),SX.c (SC.fn (Fn.func 259) [] [])] [] (.x (.i (aJ (fun c:Cell=>c.op==6) l 0))) []:=by
 refine dg qF Tryz.func279 (.stop zUz1 { n:=19,fr:=[(0,.p (.lst .cell l)),(1,.x (.c (.fn (.func 259) [] []))),(4,.i 0),(7,.i l.length),(8,.i 0)],ck:=[] }) fun Γ=>?_
 exact J.len 0 rfl fun hl=>FP l Γ hl l.length 0 (by omega) (by omega)
def AS:Ent:=(279,fun
 | [.c (.pd (.lst .cell l)),.c (.fn (.func 259) [] [])],[]=>some (none,.x (.c (.pd (.int .i64 (aJ (fun c:Cell=>c.op==6) l 0)))),[])
 | _,_=>none)
theorem G4:EntOk Tryz.prog AS:=entOk fun vs ck=>by
 unfold AS; dsimp only; split
 · rename_i l; exact entS fun hp=>Dr l
 · exact entN
def BX:Cfg:=⟨bk,[AS]⟩
theorem Cy:ah Tryz.prog BX.tab:=(ah.cons G4 ah.nil)
theorem El:ag Tryz.prog 258 [.l .cell l,.c (.fn (.func 259) [] [])] [] (.x (.b (jd l))) []:=by
 refine dg Cy Tryz.func258 (.ret (.p (.bool (decide (aJ (fun c=>c.op==(6:Int)) l (0:Int)≥0)))) []) fun Γ=>⟨?_,rfl⟩
 rw [kS _ _ _ (by omega)]; rfl
def xW:Ent:=(258,fun
 | [.c (.pd (.lst .cell l)),.c (.fn (.func 259) [] [])],[]=>some (none,.x (.c (.pd (.bool (jd l)))),[])
 | _,_=>none)
theorem HT:EntOk Tryz.prog xW:=entOk fun vs ck=>by
 unfold xW; dsimp only; split
 · rename_i l; exact entS fun hp=>El l
 · exact entN
def vU:Cfg:=⟨bk,[nD,xW]⟩
theorem wy:ah Tryz.prog vU.tab:=(ah.cons sr (ah.cons HT ah.nil))
theorem wJ:ag Tryz.prog 222 [.l .cell l] [] (.x (.b (mN l))) []:=by
 refine dg wy Tryz.func222 (.ret (.p (.bool (dx l && !jd l))) []) fun Γ=>?_
 exact ⟨rfl,rfl⟩
def n8:Ent:=(222,fun
 | [.c (.pd (.lst .cell l))],[]=>some (none,.x (.c (.pd (.bool (mN l)))),[])
 | _,_=>none)
theorem yy:EntOk Tryz.prog n8:=entOk fun vs ck=>by
 unfold n8; dsimp only; split
 · rename_i l; exact entS fun hp=>wJ l
 · exact entN
def xC:Cfg:=⟨bk,[iU,n8,mB]⟩
theorem yp:ah Tryz.prog xC.tab:=(ah.cons gX (ah.cons yy (ah.cons rT ah.nil)))
theorem B1:ag Tryz.prog 237 [.e .deed d] [] (.x (.b (dY d))) []:=by
 refine dg yp Tryz.func237 (.ite (d.kind==(1:Int)) (.ret (.p (.bool (aU d.name&&mN d.expr))) []) (.ite (d.kind==(2:Int)) (.ret (.p (.bool (fH d.name&&(d.expr.length:Int)==0))) []) (.ite (d.kind==(3:Int)) (.ret (.p (.bool (fH d.name&&(d.expr.length:Int)==0))) []) (.ret (.p (.bool false)) [])))) fun Γ=>?_
 unfold dY
 refine ⟨fun h=>?_,fun h1=>⟨fun h=>?_,fun h2=>⟨fun h=>?_,fun h3=>?_⟩⟩⟩
 · rw [h]; exact ⟨rfl,rfl⟩
 · rw [h1,h]; exact ⟨rfl,rfl⟩
 · rw [h1,h2,h]; exact ⟨rfl,rfl⟩
 · rw [h1,h2,h3]; exact ⟨rfl,rfl⟩
def tj:Ent:=(237,fun
 | [.agg [.pd (.int .i64 a),.pd (.str b),.pd (.lst .cell d)]],[]=>some (none,.x (.c (.pd (.bool (dY ⟨a,b,d⟩)))),[])
 | _,_=>none)
theorem Fs:EntOk Tryz.prog tj:=entOk fun vs ck=>by
 unfold tj; dsimp only; split
 · rename_i a b d; exact entS fun hp=>B1 ⟨a,b,d⟩
 · exact entN
def oT:Cfg:=⟨bk,[tj]⟩
theorem oy:ah Tryz.prog oT.tab:=(ah.cons Fs ah.nil)
theorem H8 (l:List Deed) (Γ:Ctx) (hl:l.length≤maxLen)  : ∀ (n k:Nat),l.length - k≤n→k≤l.length →
 J Tryz.prog 182 (aw Tryz.f182) Γ (Eq2 (.x (.b ((l.drop k).all dY&&(decide ((l.length:Int)>0)&&decide ((l.length:Int)≤8))))) []) zUz1 ({ n:=23,fr:=[(0,.p (.lst .deed l)),(2,.p (.bool false)),(5,.p (.lst .deed l)),(6,.i l.length),(7,.i k)],ck:=[],kn:=[2] }):=by
 intro n
 induction n with
 | zero=>?_
 | succ n ih=>?_
 all_goals
  intro k hn hk
  refine jg oy Tryz.func182 (.ite (decide ((k:Int)<(l.length:Int))) (.need (inRg k l.length) (.ite (!dY (ETy.get .deed l k)) (.ret (.p (.bool false)) []) (.stop zUz1 { n:=23,fr:=[(0,.p (.lst .deed l)),(2,.p (.bool false)),(5,.p (.lst .deed l)),(6,.i l.length),(7,.i (IntKind.wrap .i64 ((k:Int)+1)))],ck:=[],kn:=[2] }))) (.ret (.p (.bool (decide ((l.length:Int)>0)&&decide ((l.length:Int)≤8)))) [])) ?_
  refine ⟨fun hlt=>?_,fun hge=>?_⟩
  · have hk':k<l.length:=by have:=of_decide_eq_true hlt; omega
    rw [bL (t:=.deed) (l:=l) hk']
    refine ⟨by omega,?_⟩
    generalize ETy.get .deed l k=v
    rw [cV]
    refine ⟨fun hb=>⟨?_,rfl⟩,fun hb=>?_⟩
    · have hb':dY v=false:=nt hb
      rw [hb']; rfl
    · have hb':dY v=true:=nf hb
      rw [hb',aV]; (rw [aZ (aE hk' hl)]; first | (exfalso; omega) | exact ih (k+1) (by omega) (by omega))
  · rw [bY (l:=l) (by have:=of_decide_eq_false hge; omega)]
    exact ⟨rfl,rfl⟩
theorem HO (l:List Deed):ag Tryz.prog 182 [.l .deed (l)] [] (.x (.b (eS l))) []:=by
 refine dg oy Tryz.func182 (.stop zUz1 { n:=23,fr:=[(0,.p (.lst .deed l)),(2,.p (.bool false)),(5,.p (.lst .deed l)),(6,.i l.length),(7,.i 0)],ck:=[],kn:=[2] }) fun Γ=>?_
 exact J.len 0 rfl fun hl=>H8 l Γ hl l.length 0 (by omega) (by omega)
def qH:Ent:=(182,fun
 | [.c (.pd (.lst .deed l))],[]=>some (none,.x (.c (.pd (.bool (eS l)))),[])
 | _,_=>none)
theorem B6:EntOk Tryz.prog qH:=entOk fun vs ck=>by
 unfold qH; dsimp only; split
 · rename_i l; exact entS fun hp=>HO l
 · exact entN
end Go.Proofs.YtcopfgbbjdefbaaGreatDoor
namespace Go.Proofs.YtcopfgbbjdefbaaGreatDoor
open Go Go.Ev
set_option maxRecDepth 100000
theorem J.settle {P:Program} {f:FuncId} {root:Code} {Γ:Ctx} {Q:Out} {todo:List PI} {st:ST} {t s:Nat} {want:Bool} {v:SX} (hm:(t,SV.grd s want v)∈st.fr) (hb:lookup st.fr s=some (.x (.c (.pd (.bool want))))) {fr':List (Nat×SV)} (hf:∀ p∈fr',p∈st.fr∨p=(t,.x v))
 (hk:J P f root Γ Q todo { st with fr:=fr' }):J P f root Γ Q todo st:=by
 intro hT V a w r
 have hon:a.tmps.getD s undef = .bool want:=by
  have:=r.slots s _ (cl hb)
  have h2:SX.R V (.c (.pd (.bool want))) (a.tmps.getD s undef):=this
  generalize a.tmps.getD s undef=u at h2 ⊢
  cases h2; rfl
 have hv:b4 V a t (.x v):=(r.slots t _ hm).1 hon
 refine hk hT V a w ⟨r.1,r.2,fun t' sv h'=>?_,r.4,r.5⟩
 rcases hf _ h' with h | h
 · exact r.slots _ _ h
 · simp only [ae] at h
   obtain ⟨rfl,rfl⟩:=h; exact hv
def xp (P:Program) (cfg:Cfg) (root:Code) (p:List Nat) (i:Nat) (st:ST):Option (Option Prop×ST) :=
 match (opsOf (sub root p))[i]? with
 | some o=>match o.guard with
   | none=>mL P cfg o st
   | some _=>none
 | none=>none
theorem J.step {P:Program} {cfg:Cfg} {f:FuncId} {root:Code} {Γ:Ctx} {Q:Out} {st st':ST} (ht:ah P cfg.tab) {p:List Nat} {i:Nat} {k:List PI} {q:Option Prop} (h:xp P cfg root p i st=some (q,st')) (hq:Holds q) (hk:J P f root Γ Q (.ops p (i+1)::k) st'):J P f root Γ Q (.ops p i::k) st:=by
 unfold xp at h
 split at h
 · rename_i o ho
   split at h
   · rename_i hg
     intro hT V a w r
     have hi:i<(opsOf (sub root p)).size:=(Array.getElem?_eq_some_iff.1 ho).1
     have hsz:(opsOf (sub root p)).size - i=((opsOf (sub root p)).size - (i+1))+1:=by omega
     simp only [av,PI.den]
     rw [hsz,bO]
     exact iF ⟨ht,hT⟩ r ho (by simp only [Region.wanted,hg]) h hq fun V' a' w' r'=>hk hT V' a' w' r'
   · cases h
 · cases h
/-! ### lists, alike -/
end Go.Proofs.YtcopfgbbjdefbaaGreatDoor
namespace Go.Proofs.YtcopfgbbjdefbaaGreatDoor
open Go Go.Ev
set_option maxRecDepth 100000
abbrev zUr2:List PI:=[.code [1,0,1,0,0],.inLoop [1,0,1,0,0],.inBlock 0,.code [1,1]]
theorem Hj (l:List Cell) (Γ:Ctx) (hl:l.length≤maxLen)  : ∀ (n k:Nat),l.length - k≤n→k≤l.length →
 J Tryz.prog 195 (aw Tryz.f195) Γ (Eq2 (.x (.b (jd (l.drop k)))) []) zUr2 ({ n:=16,fr:=[(0,.p (.lst .cell l)),(2,.p (.bool false)),(3,.i k)],ck:=[],kn:=[2] }):=by
 intro n
 induction n with
 | zero=>?_
 | succ n ih=>?_
 all_goals
  intro k hn hk
  refine jg aT Tryz.func195 (.ite (decide ((k:Int)<(l.length:Int))) (.need (inRg k l.length) (.ite (Cell.op (ETy.get .cell l k)==(6:Int)) (.ret (.p (.bool true)) []) (.stop zUr2 { n:=16,fr:=[(0,.p (.lst .cell l)),(2,.p (.bool false)),(3,.i (IntKind.wrap .i64 ((k:Int)+1)))],ck:=[],kn:=[2] }))) (.ret (.p (.bool false)) [])) ?_
  refine ⟨fun hlt=>?_,fun hge=>?_⟩
  · have hk':k<l.length:=by have:=of_decide_eq_true hlt; omega
    rw [bL (t:=.cell) (l:=l) hk']
    refine ⟨by omega,?_⟩
    generalize ETy.get .cell l k=v
    have e:jd (v::l.drop (k+1))=(v.op==6||jd (l.drop (k+1))):=cI
    rw [e]
    refine ⟨fun hb=>⟨?_,rfl⟩,fun hb=>?_⟩
    · have hb':(v.op==6)=true:=hb
      rw [hb']; rfl
    · have hb':(v.op==6)=false:=hb
      rw [hb',aX]; (rw [aZ (aE hk' hl)]; first | (exfalso; omega) | exact J.kn [2] (ih (k+1) (by omega) (by omega)))
  · rw [bY (l:=l) (by have:=of_decide_eq_false hge; omega)]
    exact ⟨rfl,rfl⟩
theorem Hk (l:List Cell):ag Tryz.prog 195 [.l .cell (l)] [] (.x (.b (jd l))) []:=by
 refine dg aT Tryz.func195 (.stop zUr2 { n:=16,fr:=[(0,.p (.lst .cell l)),(2,.p (.bool false)),(3,.i 0)],ck:=[],kn:=[2] }) fun Γ=>?_
 exact J.len 0 rfl fun hl=>Hj l Γ hl l.length 0 (by omega) (by omega)
def pX:Ent:=(195,fun
 | [.c (.pd (.lst .cell l))],[]=>some (none,.x (.c (.pd (.bool (jd l)))),[])
 | _,_=>none)
theorem A8:EntOk Tryz.prog pX:=entOk fun vs ck=>by
 unfold pX; dsimp only; split
 · rename_i l; exact entS fun hp=>Hk l
 · exact entN
def xd:Cfg:=⟨bk,[nC,ld,pX,kF]⟩
theorem yK:ah Tryz.prog xd.tab:=(ah.cons lv (ah.cons qy (ah.cons A8 (ah.cons tK ah.nil))))
theorem CO (d:Deed):ag Tryz.prog 163 [.e .deed d] [] (.x (.b (dY d))) []:=by
 refine dg yK Tryz.func163 (.ite (d.kind==(1:Int)) (.ret (.p (.bool (aU d.name&&dx d.expr && !jd d.expr))) []) (.ret (.p (.bool ((d.kind==(2:Int)||d.kind==(3:Int))&&fH d.name&&(d.expr.length:Int)==0))) [])) fun Γ=>?_
 unfold dY mN
 refine ⟨fun h=>?_,fun h=>?_⟩
 · rw [h,cond_true,← Bool.and_assoc]; exact ⟨rfl,rfl⟩
 · rw [h,cond_false]
   cases h2:(d.kind==2||d.kind==3)
   · rw [bj,bj]; exact ⟨rfl,rfl⟩
   · rw [aV]; exact ⟨rfl,rfl⟩
def tf:Ent:=(163,fun
 | [.agg [.pd (.int .i64 a),.pd (.str b),.pd (.lst .cell d)]],[]=>some (none,.x (.c (.pd (.bool (dY ⟨a,b,d⟩)))),[])
 | _,_=>none)
theorem DK:EntOk Tryz.prog tf:=entOk fun vs ck=>by
 unfold tf; dsimp only; split
 · rename_i a b d; exact entS fun hp=>CO ⟨a,b,d⟩
 · exact entN
def mO:Cfg:=⟨bk,[tf]⟩
theorem nz:ah Tryz.prog mO.tab:=(ah.cons DK ah.nil)
abbrev zUr1:List PI:=[.code [1,1,0,1,0,0],.inLoop [1,1,0,1,0,0],.inBlock 0,.code [1,1,1]]
theorem FN (l:List Deed) (Γ:Ctx) (hl:l.length≤maxLen)  : ∀ (n k:Nat),l.length - k≤n→k≤l.length →
 J Tryz.prog 113 (aw Tryz.f113) Γ (Eq2 (.x (.b ((l.drop k).all dY))) []) zUr1 ({ n:=24,fr:=[(0,.p (.lst .deed l)),(2,.p (.bool false)),(3,.i k)],ck:=[],kn:=[2] }):=by
 intro n
 induction n with
 | zero=>?_
 | succ n ih=>?_
 all_goals
  intro k hn hk
  refine jg nz Tryz.func113 (.ite (decide ((k:Int)<(l.length:Int))) (.need (inRg k l.length) (.ite (!dY (ETy.get .deed l k)) (.ret (.p (.bool false)) []) (.stop zUr1 { n:=24,fr:=[(0,.p (.lst .deed l)),(2,.p (.bool false)),(3,.i (IntKind.wrap .i64 ((k:Int)+1)))],ck:=[],kn:=[2] }))) (.ret (.p (.bool true)) [])) ?_
  refine ⟨fun hlt=>?_,fun hge=>?_⟩
  · have hk':k<l.length:=by have:=of_decide_eq_true hlt; omega
    rw [bL (t:=.deed) (l:=l) hk']
    refine ⟨by omega,?_⟩
    generalize ETy.get .deed l k=v
    rw [cV]
    refine ⟨fun hb=>⟨?_,rfl⟩,fun hb=>?_⟩
    · have hb':dY v=false:=nt hb
      rw [hb']; rfl
    · have hb':dY v=true:=nf hb
      rw [hb',aV]; (rw [aZ (aE hk' hl)]; first | (exfalso; omega) | exact J.kn [2] (ih (k+1) (by omega) (by omega)))
  · rw [bY (l:=l) (by have:=of_decide_eq_false hge; omega)]
    exact ⟨rfl,rfl⟩
theorem wB (l:List Deed):ag Tryz.prog 113 [.l .deed l] [] (.x (.b (eS l))) []:=by
 refine dg nz Tryz.func113 (.ite (decide ((l.length:Int)<1)||decide ((l.length:Int)>8)) (.ret (.p (.bool false)) []) (.stop zUr1 { n:=24,fr:=[(0,.p (.lst .deed l)),(2,.p (.bool false)),(3,.i 0)],ck:=[],kn:=[2] })) fun Γ=>?_
 refine ⟨fun h=>⟨?_,rfl⟩,fun h=>?_⟩
 · have:eS l=false:=by
    unfold eS
    simp only [aO,decide_eq_true_eq] at h
    cases l.all dY
    · rfl
    · rw [aV,cj]
      rcases h with h | h
      · left; exact decide_eq_false (by omega)
      · right; exact decide_eq_false (by omega)
   rw [this]
 · simp only [ay,decide_eq_false_iff_not] at h
   have:eS l=(l.drop 0).all dY:=by
    unfold eS
    rw [decide_eq_true (show (l.length:Int)>0 by omega),decide_eq_true (show (l.length:Int)≤8 by omega)]; simp
   rw [this]
   exact J.len 0 rfl fun hl=>FN l Γ hl l.length 0 (by omega) (by omega)
def nZ:Ent:=(113,fun
 | [.c (.pd (.lst .deed l))],[]=>some (none,.x (.c (.pd (.bool (eS l)))),[])
 | _,_=>none)
theorem yq:EntOk Tryz.prog nZ:=entOk fun vs ck=>by
 unfold nZ; dsimp only; split
 · rename_i l; exact entS fun hp=>wB l
 · exact entN
end Go.Proofs.YtcopfgbbjdefbaaGreatDoor
namespace Go.Proofs.YtcopfgbbjdefbaaGreatDoor
open Go Go.Ev
set_option maxRecDepth 100000
theorem yH (k:Int):ag Tryz.prog 84 [.i k] [] (.x (.b (aY k))) []:=by
 refine dg aT Tryz.func84 (.ret (.p (.bool (k==(5:Int)||k==(6:Int)))) []) fun Γ=>?_
 exact ⟨rfl,rfl⟩
def lf:Ent:=(84,fun
 | [.c (.pd (.int .i64 k))],[]=>some (none,.x (.c (.pd (.bool (aY k)))),[])
 | _,_=>none)
theorem nk:EntOk Tryz.prog lf:=entOk fun vs ck=>by
 unfold lf; dsimp only; split
 · rename_i k; exact entS fun hp=>yH k
 · exact entN
variable (l:List Ev.Stat) (b:Bool) (e:Int) (n s:Str)
def bM:Int:=if b=true then 0 else e
def aK:Int:=aJ (fun s:Ev.Stat=>s.name==n) l 0
theorem yb:ag Tryz.prog 88 [.b b,.i e] [] (.x (.i (bM b e))) []:=by
 refine dg aT Tryz.func88 (.ite b (.ret (.i 0) []) (.ret (.i e) [])) fun Γ=>?_
 refine ⟨fun h=>?_,fun h=>?_⟩
 · unfold bM; rw [if_pos h]; exact ⟨rfl,rfl⟩
 · unfold bM; rw [if_neg (by rw [h]; decide)]; exact ⟨rfl,rfl⟩
def jC:Ent:=(88,fun
 | [.c (.pd (.bool b)),.c (.pd (.int .i64 e))],[]=>some (none,.x (.c (.pd (.int .i64 (bM b e)))),[])
 | _,_=>none)
theorem iO:EntOk Tryz.prog jC:=entOk fun vs ck=>by
 unfold jC; dsimp only; split
 · rename_i b e; exact entS fun hp=>yb b e
 · exact entN
/-! ### a state's place -/
theorem F1 (s:Ev.Stat) (n:Str):ag Tryz.prog 105 [.e .stat s,.p (.ref .str n 0)] [] (.x (.b (s.name==n))) []:=by
 refine dg aT Tryz.func105 (.ret (.p (.bool (s.name==n))) []) fun Γ=>⟨rfl,rfl⟩
def AA:Ent:=(105,fun
 | [.agg [.pd (.str a),.pd (.int .i64 b),.pd (.int .i64 c),.pd (.str d),.pd (.lst .deed e),.pd (.lst .deed f)],.c (.pd (.ref .str n 0))],[]=>some (none,.x (.c (.pd (.bool (a==n)))),[])
 | _,_=>none)
theorem H6:EntOk Tryz.prog AA:=entOk fun vs ck=>by
 unfold AA; dsimp only; split
 · rename_i a b c d e f n; exact entS fun hp=>F1 ⟨a,b,c,d,e,f⟩ n
 · exact entN
def uF:Cfg:=⟨bk,[AA]⟩
theorem sC:ah Tryz.prog uF.tab:=(ah.cons H6 ah.nil)
abbrev zTf1:List PI:=[.code [1,0,1,0,0],.inLoop [1,0,1,0,0],.inBlock 0,.code [1,1]]
theorem EK (Γ:Ctx) (hl:l.length≤maxLen)  : ∀ (n k:Nat),l.length - k≤n→k≤l.length →
 J Tryz.prog 104 (aw Tryz.f104) Γ (Eq2 (.x (.i (aJ (fun v:Ev.Stat=>v.name==s) (l.drop k) k))) []) zTf1 ({ n:=19,fr:=[(0,.p (.lst .stat l)),(1,.x (.c (.fn (.func 105) [] [.pd (.ref .str s 0)]))),(4,.i 0),(7,.i l.length),(8,.i k)],ck:=[] }):=by
 intro n
 induction n with
 | zero=>?_
 | succ n ih=>?_
 all_goals
  intro k hn hk
  refine jg sC Tryz.func104 (.ite (decide ((k:Int)<(l.length:Int))) (.need (inRg k l.length) (.ite (Stat.name (ETy.get .stat l k)==s) (.ret (.i k) []) (.stop zTf1 { n:=19,fr:=[(0,.p (.lst .stat l)),(1,.x (.c (.fn (.func 105) [] [.pd (.ref .str s 0)]))),(4,.i 0),(7,.i l.length),(8,.i (IntKind.wrap .i64 ((k:Int)+1)))],ck:=[] }))) (.ret (.i (-1:Int)) [])) ?_
  refine ⟨fun hlt=>?_,fun hge=>?_⟩
  · have hk':k<l.length:=by have:=of_decide_eq_true hlt; omega
    rw [bL (t:=.stat) (l:=l) hk']
    refine ⟨by omega,?_⟩
    generalize ETy.get .stat l k=v
    refine ⟨fun hb=>⟨?_,rfl⟩,fun hb=>?_⟩
    · simp only [aJ,hb,cond_true]
    · simp only [aJ,hb,cond_false]; (rw [aZ (aE hk' hl)]; first | (exfalso; omega) | exact ih (k+1) (by omega) (by omega))
  · rw [bY (l:=l) (by have:=of_decide_eq_false hge; omega)]
    exact ⟨rfl,rfl⟩
theorem F2:ag Tryz.prog 104 [.l .stat (l),SX.c (SC.fn (Fn.func 105) [] [RC.pd (PD.ref ETy.str s 0)])] [] (.x (.i (aJ (fun v:Ev.Stat=>v.name==s) l 0))) []:=by
 refine dg sC Tryz.func104 (.stop zTf1 { n:=19,fr:=[(0,.p (.lst .stat l)),(1,.x (.c (.fn (.func 105) [] [.pd (.ref .str s 0)]))),(4,.i 0),(7,.i l.length),(8,.i 0)],ck:=[] }) fun Γ=>?_
 exact J.len 0 rfl fun hl=>EK l s Γ hl l.length 0 (by omega) (by omega)
def yX:Ent:=(104,fun
 | [.c (.pd (.lst .stat l)),.c (.fn (.func 105) [] [.pd (.ref .str s 0)])],[]=>some (none,.x (.c (.pd (.int .i64 (aJ (fun v:Ev.Stat=>v.name==s) l 0)))),[])
 | _,_=>none)
theorem HR:EntOk Tryz.prog yX:=entOk fun vs ck=>by
 unfold yX; dsimp only; split
 · rename_i l s; exact entS fun hp=>F2 l s
 · exact entN
def Bj:Cfg:=⟨bk,[yX]⟩
theorem A1:ah Tryz.prog Bj.tab:=(ah.cons HR ah.nil)
theorem AX (c:Chart) (n:Str):ag Tryz.prog 49 [.e .chart c,.s n] [] (.x (.i (aK c.states n))) []:=by
 refine dg A1 Tryz.func49 (.ret (.i (aJ (fun v=>v.name==n) c.states (0:Int))) []) fun Γ=>?_
 exact ⟨rfl,rfl⟩
def jZ:Ent:=(49,fun
 | [.agg [.pd (.str a),.pd (.lst .str b),.pd (.lst .var c),.pd (.lst .stat d),.pd (.lst .tran e)],.c (.pd (.str n))],[]=>some (none,.x (.c (.pd (.int .i64 (aK d n)))),[])
 | _,_=>none)
theorem kD:EntOk Tryz.prog jZ:=entOk fun vs ck=>by
 unfold jZ; dsimp only; split
 · rename_i a b c d e n; exact entS fun hp=>AX ⟨a,b,c,d,e⟩ n
 · exact entN
end Go.Proofs.YtcopfgbbjdefbaaGreatDoor
namespace Go.Ev
open Ieee
end Go.Ev
namespace Go.Ev
open Ieee
theorem xo (k l:Nat):min (-(k:Int)) (-(l:Int)) = -((max k l:Nat):Int):=by omega
end Go.Ev
namespace Go.Ev
open Ieee
end Go.Ev
namespace Go.Ev
open Ieee
def inB (x:Nat):Bool:=(eQ x 13920626448202203136==some .gt||eQ x 13920626448202203136==some .eq)&&(eQ x 4697254411347427328==some .lt||eQ x 4697254411347427328==some .eq)
def pIn (a:Int):Bool:=decide (-1048576≤a)&&decide (a≤1048576)
theorem fm {x:Nat}:inB x=true↔(eQ x 13920626448202203136=some .gt∨eQ x 13920626448202203136=some .eq)∧(eQ x 4697254411347427328=some .lt∨eQ x 4697254411347427328=some .eq):=by
 simp [inB]
/-! ### points, by the bits of their parts -/
def num (n:Int):Nat:=FloatKind.f64.nearest n
def ti (a b:Int):Nat×Nat:=if pIn a&&pIn b then (num a,num b) else (0,0)
def lP (a b:Int):Int:=if pIn a&&pIn b then 0 else 5
end Go.Ev
namespace Go.Proofs.YtcopfgbbjdefbaaGreatDoor
open Go Go.Ev
set_option maxRecDepth 100000
theorem yR (a b:Int):ag Tryz.prog 171 [.i a,.i b] [] (.tup [.c (.pd (.cx (some (ti a b)))),.i (lP a b)]) []:=by
 refine dg aT Tryz.func171 (.ite (decide (a<(-1048576:Int))||decide (a>(1048576:Int))||decide (b<(-1048576:Int))||decide (b>(1048576:Int))) (.ret (.tup [.p (.cx (some (0,0))),.i 5]) []) (.ret (.tup [.p (.cx (some (FloatKind.nearest FloatKind.f64 a,FloatKind.nearest FloatKind.f64 b))),.i 0]) [])) fun Γ=>?_
 refine ⟨fun h=>⟨?_,rfl⟩,fun h=>⟨?_,rfl⟩⟩
 · have:(pIn a&&pIn b)=false:=by
    simp only [aO,decide_eq_true_eq] at h
    simp only [pIn,cj,decide_eq_false_iff_not]; omega
   simp [ti,lP,this]
 · have:(pIn a&&pIn b)=true:=by
    simp only [ay,decide_eq_false_iff_not] at h
    simp only [pIn,af,decide_eq_true_eq]; omega
   simp [ti,lP,this,num]
def pM:Ent:=(171,fun
 | [.c (.pd (.int .i64 a)),.c (.pd (.int .i64 b))],[]=>some (none,.tup [.c (.pd (.cx (some (ti a b)))),.c (.pd (.int .i64 (lP a b)))],[])
 | _,_=>none)
theorem CR:EntOk Tryz.prog pM:=entOk fun vs ck=>by
 unfold pM; dsimp only; split
 · rename_i a b; exact entS fun hp=>yR a b
 · exact entN
end Go.Proofs.YtcopfgbbjdefbaaGreatDoor
namespace Go.Ev
def i64 (n:Int):Bool:=decide (-9223372036854775808≤n)&&decide (n≤9223372036854775807)
def u64 (n:Int):Bool:=decide (0≤n)&&decide (n<18446744073709551616)
end Go.Ev
namespace Go.Ev
def vR (v:Val):Bool:=if v.kind=1 then v.b==0 else if v.kind=2 then v.b==0&&(v.a==0||v.a==1) else if v.kind=3 then pIn v.a&&pIn v.b else false
/-! ### points -/
/-! ### what comes of values that may be may be, too -/
end Go.Ev
namespace Go.Proofs.YtcopfgbbjdefbaaGreatDoor
open Go Go.Ev
set_option maxRecDepth 100000
theorem G3 (a:Int):ag Tryz.prog 162 [.i a] [] (.x (.b (pIn a))) []:=by
 refine dg aT Tryz.func162 (.ret (.p (.bool (decide (a≥(-1048576:Int))&&decide (a≤(1048576:Int))))) []) fun Γ=>?_
 exact ⟨rfl,rfl⟩
def eIn:Ent:=(162,fun
 | [.c (.pd (.int .i64 a))],[]=>some (none,.x (.c (.pd (.bool (pIn a)))),[])
 | _,_=>none)
theorem I8:EntOk Tryz.prog eIn:=entOk fun vs ck=>by
 unfold eIn; dsimp only; split
 · rename_i a; exact entS fun hp=>G3 a
 · exact entN
def F9:Cfg:=⟨bk,[eIn]⟩
theorem Fu:ah Tryz.prog F9.tab:=(ah.cons I8 ah.nil)
def xz:Cfg:=⟨bk,[pM]⟩
theorem Az:ah Tryz.prog xz.tab:=(ah.cons CR ah.nil)
theorem tX (k a b:Int):ag Tryz.prog 144 [.agg [.pd (.i k),.pd (.i a),.pd (.i b)]] [] (.x (.b (vR ⟨k,a,b⟩))) []:=by
 refine dg (cfg:=(xz)) Az Tryz.func144 (.ite (k==(1:Int)) (.ret (.p (.bool (b==(0:Int)))) []) (.ite (k==(2:Int)) (.ret (.p (.bool (b==(0:Int)&&(a==(0:Int)||a==(1:Int))))) []) (.ite (k==(3:Int)) (.ret (.p (.bool (lP a b==(0:Int)))) []) (.ret (.p (.bool false)) [])))) fun Γ=>?_
 refine ⟨fun h=>⟨?_,rfl⟩,fun h1=>⟨fun h=>⟨?_,rfl⟩,fun h2=>⟨fun h=>⟨?_,rfl⟩,fun h3=>⟨?_,rfl⟩⟩⟩⟩
 · simp_all [vR]
 · simp_all [vR]
 · have e:vR ⟨k,a,b⟩=(pIn a&&pIn b):=by simp_all [vR]
   rw [e]
   cases h':(pIn a&&pIn b)
   · simp [lP,h']
   · simp [lP,h']
 · simp_all [vR]
def lH:Ent:=(144,fun
 | [.agg [.pd (.int .i64 k),.pd (.int .i64 a),.pd (.int .i64 b)]],[]=>some (none,.x (.c (.pd (.bool (vR ⟨k,a,b⟩)))),[])
 | _,_=>none)
theorem vY:EntOk Tryz.prog lH:=entOk fun vs ck=>by
 unfold lH; dsimp only; split
 · rename_i k a b; exact entS fun hp=>tX k a b
 · exact entN
theorem sP (k a b:Int):ag Tryz.prog 111 [.agg [.pd (.i k),.pd (.i a),.pd (.i b)]] [] (.x (.b (vR ⟨k,a,b⟩))) []:=by
 refine dg (cfg:=(F9)) Fu Tryz.func111 (.ite (k==(1:Int)) (.ret (.p (.bool (b==(0:Int)))) []) (.ite (k==(2:Int)) (.ret (.p (.bool (k==(2:Int)&&(a==(0:Int)&&b==(0:Int))||k==(2:Int)&&(a==(1:Int)&&b==(0:Int))))) []) (.ite (k==(3:Int)) (.ret (.p (.bool (pIn a&&pIn b))) []) (.ret (.p (.bool false)) [])))) fun Γ=>?_
 refine ⟨fun h=>⟨?_,rfl⟩,fun h1=>⟨fun h=>⟨?_,rfl⟩,fun h2=>⟨fun h=>⟨?_,rfl⟩,fun h3=>⟨?_,rfl⟩⟩⟩⟩
 · simp_all [vR]
 · have e:k=2:=by simpa using h
   subst e
   have e2:vR ⟨2,a,b⟩=(b==0&&(a==0||a==1)):=by simp [vR]
   rw [e2]
   cases hb:b==0 <;> cases h0:a==0 <;> cases h4:a==1 <;> simp
 · simp_all [vR]
 · simp_all [vR]
def kK:Ent:=(111,fun
 | [.agg [.pd (.int .i64 k),.pd (.int .i64 a),.pd (.int .i64 b)]],[]=>some (none,.x (.c (.pd (.bool (vR ⟨k,a,b⟩)))),[])
 | _,_=>none)
theorem uE:EntOk Tryz.prog kK:=entOk fun vs ck=>by
 unfold kK; dsimp only; split
 · rename_i k a b; exact entS fun hp=>sP k a b
 · exact entN
end Go.Proofs.YtcopfgbbjdefbaaGreatDoor

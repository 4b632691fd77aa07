/- Contracts: texts' beginnings, events' names; behind the kinds' texts. Conditions: none. Contracts: names, events' names. Conditions: none. Contracts: actions that may be. Conditions: none. Contracts: lists of cells alike; two rules of the executor. Conditions: none. Contracts: the document's blocks that may be, blocks alike. Conditions: sizes. Contracts: valid: small functions. Conditions: sizes. Plain laws: floats that are whole numbers, their sums and products; parts of points. Conditions: each theorem's own. Contracts of the program's functions on points: made, parted. Conditions: none. Plain laws: whole numbers within int64, products; what operations on values come to. Conditions: each theorem's own. Contracts: values that may be. Conditions: none. -/
import Derived.Test.YtcopfgbbjdefbaaGreatDoorFf
import Derived.Test.YtcopfgbbjdefbaaGreatDoorTa
import Derived.Lib.AppendIntMem
import Derived.Test.YtcopfgbbjdefbaaGreatDoorVb
import Derived.Test.YtcopfgbbjdefbaaGreatDoorTe
import Derived.Laws.ComplexArith
import Derived.Test.YtcopfgbbjdefbaaGreatDoorPC
import Derived.Test.YtcopfgbbjdefbaaGreatDoorPY
import Derived.Laws.MathBits
namespace Go.Proofs.YtcopfgbbjdefbaaGreatDoor
open Go Go.Ev
set_option maxRecDepth 100000
variable (a b:Str)
theorem rC:ag Tryz.prog 243 [.s a,.s b] [] (.x (.b (decide (av a≥av b)&&a.take (av b).toNat==b))) []:=by
 refine dg aT Tryz.func243 (.need (decide (av a≥av b)=true→(0:Int)≤av b∧av b≤(a.length:Int)) (.ret (.p (.bool (decide (av a≥av b)&&(dO a none (some (av b))).2==b))) [])) fun Γ=>?_
 refine ⟨fun h=>?_,rfl,rfl⟩
 have:=of_decide_eq_true h
 have h1:av b=(b.length:Int):=rfl
 have h2:av a=(a.length:Int):=rfl
 omega
def eHp:Ent:=(243,fun
 | [.c (.pd (.str a)),.c (.pd (.str b))],[]=>some (none,.x (.c (.pd (.bool (decide (av a≥av b)&&a.take (av b).toNat==b)))),[])
 | _,_=>none)
theorem I0:EntOk Tryz.prog eHp:=entOk fun vs ck=>by
 unfold eHp; dsimp only; split
 · rename_i a b; exact entS fun hp=>rC a b
 · exact entN
def Gu:Cfg:=⟨bb,[eHp]⟩
theorem Em:af Tryz.prog Gu.tab:=(af.cons I0 af.nil)
def dy:Bool:=decide (av a≥av b)&&a.take (av b).toNat==b
def dw:Str:=bif dy a b then a.drop (av b).toNat else a
def fD (s:Str):Bool:=aX (dw s [100,111,110,101,46])
theorem ql:ag Tryz.prog 201 [.s a,.s b] [] (.tup [.s (dw a b),.b (dy a b)]) []:=by
 refine dg Em Tryz.func201 (.ite (!(decide (av a≥av b)&&List.take ((av b).toNat) a==b)) (.ret (.tup [.p (.str a),.p (.bool false)]) []) (.need ((0:Int)≤av b∧av b≤(a.length:Int)) (.ret (.tup [.p (.str ((dO a (some (av b)) none).2)),.p (.bool true)]) []))) fun Γ=>?_
 refine ⟨fun h=>⟨?_,rfl⟩,fun h=>⟨?_,?_,rfl⟩⟩
 · have h':dy a b=false:=by
    have h2:(!dy a b)=true:=h
    simpa using h2
   simp [dw,h']
 · have h':dy a b=true:=by
    have h2:(!dy a b)=false:=h
    simpa using h2
   simp only [dy,ae,decide_eq_true_eq] at h'
   have h1:av b=(b.length:Int):=rfl
   have h2:av a=(a.length:Int):=rfl
   omega
 · have h':dy a b=true:=by
    have h2:(!dy a b)=false:=h
    simpa using h2
   simp [dw,h',dO]
def tG:Ent:=(201,fun
 | [.c (.pd (.str a)),.c (.pd (.str b))],[]=>some (none,.tup [.c (.pd (.str (dw a b))),.c (.pd (.bool (dy a b)))],[])
 | _,_=>none)
theorem Fk:EntOk Tryz.prog tG:=entOk fun vs ck=>by
 unfold tG; dsimp only; split
 · rename_i a b; exact entS fun hp=>ql a b
 · exact entN
def xx:Cfg:=⟨bb,[tG]⟩
theorem yA:af Tryz.prog xx.tab:=(af.cons Fk af.nil)
theorem rp:ag Tryz.prog 166 [.s a,.s b] [] (.tup [.s (dw a b),.b (dy a b)]) []:=by
 refine dg yA Tryz.func166 (.ret (.tup [.p (.str (dw a b)),.p (.bool (dy a b))]) []) fun Γ=>?_
 exact ⟨rfl,rfl⟩
def vi:Ent:=(166,fun
 | [.c (.pd (.str a)),.c (.pd (.str b))],[]=>some (none,.tup [.c (.pd (.str (dw a b))),.c (.pd (.bool (dy a b)))],[])
 | _,_=>none)
theorem xW:EntOk Tryz.prog vi:=entOk fun vs ck=>by
 unfold vi; dsimp only; split
 · rename_i a b; exact entS fun hp=>rp a b
 · exact entN
end Go.Proofs.YtcopfgbbjdefbaaGreatDoor
namespace Go.Proofs.YtcopfgbbjdefbaaGreatDoor
open Go Go.Ev
set_option maxRecDepth 100000
def CU:Cfg:=⟨bb,[vi,iQ]⟩
theorem CL:af Tryz.prog CU.tab:=(af.cons xW (af.cons gM af.nil))
variable (s:Str)
theorem AV:ag Tryz.prog 129 [.s s] [] (.x (.b (fD s))) []:=by
 refine dg CL Tryz.func129 (.ret (.p (.bool (aX (dw s [(100:UInt8),111,110,101,46])))) []) fun Γ=>?_
 exact ⟨rfl,rfl⟩
def mE:Ent:=(129,fun
 | [.c (.pd (.str s))],[]=>some (none,.x (.c (.pd (.bool (fD s)))),[])
 | _,_=>none)
theorem r4:EntOk Tryz.prog mE:=entOk fun vs ck=>by
 unfold mE; dsimp only; split
 · rename_i s; exact entS fun hp=>AV s
 · exact entN
theorem DK:dw ([100,111,110,101,46]++s) [100,111,110,101,46]=s:=by
 have h:dy ([100,111,110,101,46]++s) [100,111,110,101,46]=true:=by
  simp [dy,av]; omega
 rw [dw,h]; rfl
theorem EP:aX ([100,111,110,101,46]++s)=false:=by
 have:([100,111,110,101,46]++s:Str).any jv=true:=by
  rw [dY]
  have:([100,111,110,101,46]:Str).any jv=true:=by decide
  rw [this]; rfl
 rw [aX,this]; simp
theorem xZ {s p:Str} (h:dy s p=true):∃ r,s=p++r:=by
 simp only [dy,ae,beq_iff_eq,decide_eq_true_eq] at h
 refine ⟨s.drop (av p).toNat,?_⟩
 have:=cB (av p).toNat s
 rw [h.2] at this; exact this.symm
theorem Di:fD ([100,111,110,101,46]++s)=aX s:=by rw [fD,DK]
theorem EC {s:Str} (h:dy s [100,111,110,101,46]=false):fD s=aX s:=by simp [fD,dw,h]
def Ck:Cfg:=⟨bb,[mu]⟩
theorem DD:af Tryz.prog Ck.tab:=(af.cons kQ af.nil)
theorem qL:ag Tryz.prog 196 [.s s] [] (.x (.b (fD s))) []:=by
 refine dg DD Tryz.func196 (.need (aX s=false∧decide (av s>(5:Int))=true→(0:Int)≤5∧(5:Int)≤(s.length:Int)) (.need (aX s=false∧(decide (av s>(5:Int))&&(dO s none (some (5:Int))).2==[100,111,110,101,46])=true→(0:Int)≤5∧(5:Int)≤(s.length:Int)) (.ret (.p (.bool (aX s||decide (av s>(5:Int))&&(dO s none (some (5:Int))).2==[100,111,110,101,46]&&aX ((dO s (some (5:Int)) none).2)))) []))) fun Γ=>?_
 have hL:av s=(s.length:Int):=rfl
 refine ⟨fun h=>by have:=of_decide_eq_true h.2; omega,fun h=>by simp only [ae,decide_eq_true_eq] at h; omega,?_,rfl⟩
 cases hp:dy s [100,111,110,101,46]
 · rw [EC hp]
   have h5:(decide (av s>5)&&(dO s none (some 5)).2==[100,111,110,101,46])=false:=by
    cases hb:(decide (av s>5)&&(dO s none (some 5)).2==[100,111,110,101,46])
    · rfl
    · exfalso
      simp only [ae,decide_eq_true_eq] at hb
      have:dy s [100,111,110,101,46]=true:=by
       simp only [dy,ae,decide_eq_true_eq]
       refine ⟨?_,hb.2⟩
       have h2:av [100,111,110,101,46]=5:=rfl
       omega
      rw [this] at hp; cases hp
   rw [h5,aK,bC]
 · obtain ⟨r,rfl⟩:=xZ hp
   rw [Di,EP,aW]
   have hc:(dO ([100,111,110,101,46]++r) (some 5) none).2=r:=rfl
   have hc2:(dO ([100,111,110,101,46]++r) none (some 5)).2=[100,111,110,101,46]:=rfl
   rw [hc,hc2]
   cases r with
   | nil=>rfl
   | cons c r =>
     have:decide (av ([100,111,110,101,46]++c::r)>5)=true:=decide_eq_true (by
      have:av ([100,111,110,101,46]++c::r)=((([100,111,110,101,46]++c::r):Str).length:Int):=rfl
      rw [this]; simp only [ar,az,bu]; omega)
     rw [this]; rfl
def kq:Ent:=(196,fun
 | [.c (.pd (.str s))],[]=>some (none,.x (.c (.pd (.bool (fD s)))),[])
 | _,_=>none)
theorem ud:EntOk Tryz.prog kq:=entOk fun vs ck=>by
 unfold kq; dsimp only; split
 · rename_i s; exact entS fun hp=>qL s
 · exact entN
end Go.Proofs.YtcopfgbbjdefbaaGreatDoor
namespace Go.Proofs.YtcopfgbbjdefbaaGreatDoor
open Go Go.Ev
set_option maxRecDepth 100000
variable (l:List Cell) {b:Bool} (d:Deed) (Γ:Ctx)
theorem nt (h:(!b)=true):b=false:=by cases b <;> simp_all
theorem nf (h:(!b)=false):b=true:=by cases b <;> simp_all
/-! ### plain -/
def jb:Bool:=l.any fun c=>c.op==6
def nC:Bool:=dB l && !jb l
def dX:Bool:=bif d.kind==1 then aX d.name&&nC d.expr else bif d.kind==2||d.kind==3 then fD d.name&&((d.expr.length:Int)==0) else false
def eR (l:List Deed):Bool:=l.all dX&&(decide ((l.length:Int)>0)&&decide ((l.length:Int)≤8))
def gE (v:Var) (x:Val):Bool:=v.kind==x.kind&&(decide (x.a≥v.lo)&&decide (x.a≤v.hi)&&(x.kind != 3||(decide (x.b≥v.lo)&&decide (x.b≤v.hi))))
/-! ### the program's -/
theorem BW (c:Cell):ag Tryz.prog 259 [.e .cell c] [] (.x (.b (c.op==6))) []:=by
 refine dg aT Tryz.func259 (.ret (.p (.bool (c.op==(6:Int)))) []) fun Γ=>⟨rfl,rfl⟩
def tg:Ent:=(259,fun
 | [.agg [.pd (.int .i64 a),.pd (.int .i64 b),.pd (.str d)]],[]=>some (none,.x (.c (.pd (.bool (a==6)))),[])
 | _,_=>none)
theorem Ea:EntOk Tryz.prog tg:=entOk fun vs ck=>by
 unfold tg; dsimp only; split
 · rename_i a b d; exact entS fun hp=>BW ⟨a,b,d⟩
 · exact entN
def qR:Cfg:=⟨bb,[tg]⟩
theorem py:af Tryz.prog qR.tab:=(af.cons Ea af.nil)
abbrev zUz1:List PI:=[.code [1,0,1,0,0],.inLoop [1,0,1,0,0],.inBlock 0,.code [1,1]]
theorem E7 (hl:l.length≤maxLen)  : ∀ (n k:Nat),l.length - k≤n→k≤l.length →
 J Tryz.prog 279 (aA Tryz.f279) Γ (Eq2 (.x (.i (aI (fun c:Cell=>c.op==6) (l.drop k) k))) []) zUz1 ({ n:=19,fr:=[(0,.p (.lst .cell l)),(1,.x (.c (.fn (.func 259) [] []))),(4,.i 0),(7,.i l.length),(8,.i k)],ck:=[] }):=by
 intro n
 induction n with
 | zero=>?_
 | succ n ih=>?_
 all_goals
  intro k hn hk
  refine jg py Tryz.func279 (.ite (decide ((k:Int)<(l.length:Int))) (.need (inRg k l.length) (.ite (Cell.op (ETy.get .cell l k)==(6:Int)) (.ret (.i k) []) (.stop zUz1 { n:=19,fr:=[(0,.p (.lst .cell l)),(1,.x (.c (.fn (.func 259) [] []))),(4,.i 0),(7,.i l.length),(8,.i (IntKind.wrap .i64 ((k:Int)+1)))],ck:=[] }))) (.ret (.i (-1:Int)) [])) ?_
  refine ⟨fun hlt=>?_,fun hge=>?_⟩
  · have hk':k<l.length:=by have:=of_decide_eq_true hlt; omega
    rw [bO (t:=.cell) (l:=l) hk']
    refine ⟨by omega,?_⟩
    generalize ETy.get .cell l k=v
    refine ⟨fun hb=>⟨?_,rfl⟩,fun hb=>?_⟩
    · simp only [aI,hb,cond_true]
    · simp only [aI,hb,cond_false]; (rw [a6 (aE hk' hl)]; first | (exfalso; omega) | exact ih (k+1) (by omega) (by omega))
  · rw [bX (l:=l) (by have:=of_decide_eq_false hge; omega)]
    exact ⟨rfl,rfl⟩
theorem D4:ag Tryz.prog 279 [.l .cell (l),SX.c (SC.fn (Fn.func 259) [] [])] [] (.x (.i (aI (fun c:Cell=>c.op==6) l 0))) []:=by
 refine dg py Tryz.func279 (.stop zUz1 { n:=19,fr:=[(0,.p (.lst .cell l)),(1,.x (.c (.fn (.func 259) [] []))),(4,.i 0),(7,.i l.length),(8,.i 0)],ck:=[] }) fun Γ=>?_
 exact J.len 0 rfl fun hl=>E7 l Γ hl l.length 0 (by omega) (by omega)
def yY:Ent:=(279,fun
 | [.c (.pd (.lst .cell l)),.c (.fn (.func 259) [] [])],[]=>some (none,.x (.c (.pd (.int .i64 (aI (fun c:Cell=>c.op==6) l 0)))),[])
 | _,_=>none)
theorem Ij:EntOk Tryz.prog yY:=entOk fun vs ck=>by
 unfold yY; dsimp only; split
 · rename_i l; exact entS fun hp=>D4 l
 · exact entN
def B4:Cfg:=⟨bb,[yY]⟩
theorem CR:af Tryz.prog B4.tab:=(af.cons Ij af.nil)
theorem Fc:ag Tryz.prog 258 [.l .cell l,.c (.fn (.func 259) [] [])] [] (.x (.b (jb l))) []:=by
 refine dg CR Tryz.func258 (.ret (.p (.bool (decide (aI (fun c=>c.op==(6:Int)) l (0:Int)≥0)))) []) fun Γ=>⟨?_,rfl⟩
 rw [kK _ _ _ (by omega)]; rfl
def AO:Ent:=(258,fun
 | [.c (.pd (.lst .cell l)),.c (.fn (.func 259) [] [])],[]=>some (none,.x (.c (.pd (.bool (jb l)))),[])
 | _,_=>none)
theorem Hj:EntOk Tryz.prog AO:=entOk fun vs ck=>by
 unfold AO; dsimp only; split
 · rename_i l; exact entS fun hp=>Fc l
 · exact entN
def uj:Cfg:=⟨bb,[ny,AO]⟩
theorem xl:af Tryz.prog uj.tab:=(af.cons sG (af.cons Hj af.nil))
theorem wS:ag Tryz.prog 222 [.l .cell l] [] (.x (.b (nC l))) []:=by
 refine dg xl Tryz.func222 (.ret (.p (.bool (dB l && !jb l))) []) fun Γ=>?_
 exact ⟨rfl,rfl⟩
def n1:Ent:=(222,fun
 | [.c (.pd (.lst .cell l))],[]=>some (none,.x (.c (.pd (.bool (nC l)))),[])
 | _,_=>none)
theorem Am:EntOk Tryz.prog n1:=entOk fun vs ck=>by
 unfold n1; dsimp only; split
 · rename_i l; exact entS fun hp=>wS l
 · exact entN
def xU:Cfg:=⟨bb,[iQ,n1,mE]⟩
theorem yH:af Tryz.prog xU.tab:=(af.cons gM (af.cons Am (af.cons r4 af.nil)))
theorem DA:ag Tryz.prog 237 [.e .deed d] [] (.x (.b (dX d))) []:=by
 refine dg yH Tryz.func237 (.ite (d.kind==(1:Int)) (.ret (.p (.bool (aX d.name&&nC d.expr))) []) (.ite (d.kind==(2:Int)) (.ret (.p (.bool (fD d.name&&(d.expr.length:Int)==0))) []) (.ite (d.kind==(3:Int)) (.ret (.p (.bool (fD d.name&&(d.expr.length:Int)==0))) []) (.ret (.p (.bool false)) [])))) fun Γ=>?_
 unfold dX
 refine ⟨fun h=>?_,fun h1=>⟨fun h=>?_,fun h2=>⟨fun h=>?_,fun h3=>?_⟩⟩⟩
 · rw [h]; exact ⟨rfl,rfl⟩
 · rw [h1,h]; exact ⟨rfl,rfl⟩
 · rw [h1,h2,h]; exact ⟨rfl,rfl⟩
 · rw [h1,h2,h3]; exact ⟨rfl,rfl⟩
def tI:Ent:=(237,fun
 | [.agg [.pd (.int .i64 a),.pd (.str b),.pd (.lst .cell d)]],[]=>some (none,.x (.c (.pd (.bool (dX ⟨a,b,d⟩)))),[])
 | _,_=>none)
theorem Ew:EntOk Tryz.prog tI:=entOk fun vs ck=>by
 unfold tI; dsimp only; split
 · rename_i a b d; exact entS fun hp=>DA ⟨a,b,d⟩
 · exact entN
def oX:Cfg:=⟨bb,[tI]⟩
theorem oM:af Tryz.prog oX.tab:=(af.cons Ew af.nil)
theorem IB (l:List Deed) (Γ:Ctx) (hl:l.length≤maxLen)  : ∀ (n k:Nat),l.length - k≤n→k≤l.length →
 J Tryz.prog 182 (aA Tryz.f182) Γ (Eq2 (.x (.b ((l.drop k).all dX&&(decide ((l.length:Int)>0)&&decide ((l.length:Int)≤8))))) []) zUz1 ({ n:=23,fr:=[(0,.p (.lst .deed l)),(2,.p (.bool false)),(5,.p (.lst .deed l)),(6,.i l.length),(7,.i k)],ck:=[],kn:=[2] }):=by
 intro n
 induction n with
 | zero=>?_
 | succ n ih=>?_
 all_goals
  intro k hn hk
  refine jg oM Tryz.func182 (.ite (decide ((k:Int)<(l.length:Int))) (.need (inRg k l.length) (.ite (!dX (ETy.get .deed l k)) (.ret (.p (.bool false)) []) (.stop zUz1 { n:=23,fr:=[(0,.p (.lst .deed l)),(2,.p (.bool false)),(5,.p (.lst .deed l)),(6,.i l.length),(7,.i (IntKind.wrap .i64 ((k:Int)+1)))],ck:=[],kn:=[2] }))) (.ret (.p (.bool (decide ((l.length:Int)>0)&&decide ((l.length:Int)≤8)))) [])) ?_
  refine ⟨fun hlt=>?_,fun hge=>?_⟩
  · have hk':k<l.length:=by have:=of_decide_eq_true hlt; omega
    rw [bO (t:=.deed) (l:=l) hk']
    refine ⟨by omega,?_⟩
    generalize ETy.get .deed l k=v
    rw [dt]
    refine ⟨fun hb=>⟨?_,rfl⟩,fun hb=>?_⟩
    · have hb':dX v=false:=nt hb
      rw [hb']; rfl
    · have hb':dX v=true:=nf hb
      rw [hb',aP]; (rw [a6 (aE hk' hl)]; first | (exfalso; omega) | exact ih (k+1) (by omega) (by omega))
  · rw [bX (l:=l) (by have:=of_decide_eq_false hge; omega)]
    exact ⟨rfl,rfl⟩
theorem Is (l:List Deed):ag Tryz.prog 182 [.l .deed (l)] [] (.x (.b (eR l))) []:=by
 refine dg oM Tryz.func182 (.stop zUz1 { n:=23,fr:=[(0,.p (.lst .deed l)),(2,.p (.bool false)),(5,.p (.lst .deed l)),(6,.i l.length),(7,.i 0)],ck:=[],kn:=[2] }) fun Γ=>?_
 exact J.len 0 rfl fun hl=>IB l Γ hl l.length 0 (by omega) (by omega)
def qe:Ent:=(182,fun
 | [.c (.pd (.lst .deed l))],[]=>some (none,.x (.c (.pd (.bool (eR l)))),[])
 | _,_=>none)
theorem B0:EntOk Tryz.prog qe:=entOk fun vs ck=>by
 unfold qe; dsimp only; split
 · rename_i l; exact entS fun hp=>Is l
 · exact entN
end Go.Proofs.YtcopfgbbjdefbaaGreatDoor
namespace Go.Proofs.YtcopfgbbjdefbaaGreatDoor
open Go Go.Ev
set_option maxRecDepth 100000
theorem J.settle {P:Program} {f:FuncId} {root:Code} {Γ:Ctx} {Q:Out} {todo:List PI} {st:ST} {t s:Nat} {want:Bool} {v:SX} (hm:(t,SV.grd s want v)∈st.fr) (hb:lookup st.fr s=some (.x (.c (.pd (.bool want))))) {fr':List (Nat×SV)} (hf:∀ p∈fr',p∈st.fr∨p=(t,.x v))
 (hk:J P f root Γ Q todo { st with fr:=fr' }):J P f root Γ Q todo st:=by
 intro hT V a w r
 have hon:a.tmps.getD s undef = .bool want:=by
  have:=r.slots s _ (cm hb)
  have h2:SX.R V (.c (.pd (.bool want))) (a.tmps.getD s undef):=this
  generalize a.tmps.getD s undef=u at h2 ⊢
  cases h2; rfl
 have hv:b3 V a t (.x v):=(r.slots t _ hm).1 hon
 refine hk hT V a w ⟨r.1,r.2,fun t' sv h'=>?_,r.4,r.5⟩
 rcases hf _ h' with h | h
 · exact r.slots _ _ h
 · simp only [ab] at h
   obtain ⟨rfl,rfl⟩:=h; exact hv
def xA (P:Program) (cfg:Cfg) (root:Code) (p:List Nat) (i:Nat) (st:ST):Option (Option Prop×ST) :=
 match (opsOf (sub root p))[i]? with
 | some o=>match o.guard with
   | none=>mG P cfg o st
   | some _=>none
 | none=>none
theorem J.step {P:Program} {cfg:Cfg} {f:FuncId} {root:Code} {Γ:Ctx} {Q:Out} {st st':ST} (ht:af P cfg.tab) {p:List Nat} {i:Nat} {k:List PI} {q:Option Prop} (h:xA P cfg root p i st=some (q,st')) (hq:Holds q) (hk:J P f root Γ Q (.ops p (i+1)::k) st'):J P f root Γ Q (.ops p i::k) st:=by
 unfold xA at h
 split at h
 · rename_i o ho
   split at h
   · rename_i hg
     intro hT V a w r
     have hi:i<(opsOf (sub root p)).size:=(Array.getElem?_eq_some_iff.1 ho).1
     have hsz:(opsOf (sub root p)).size - i=((opsOf (sub root p)).size - (i+1))+1:=by omega
     simp only [au,PI.den]
     rw [hsz,bL]
     exact iq ⟨ht,hT⟩ r ho (by simp only [Region.wanted,hg]) h hq fun V' a' w' r'=>hk hT V' a' w' r'
   · cases h
 · cases h
/-! ### lists, alike -/
end Go.Proofs.YtcopfgbbjdefbaaGreatDoor
namespace Go.Proofs.YtcopfgbbjdefbaaGreatDoor
open Go Go.Ev
set_option maxRecDepth 100000
abbrev zUr2:List PI:=[.code [1,0,1,0,0],.inLoop [1,0,1,0,0],.inBlock 0,.code [1,1]]
theorem Hy (l:List Cell) (Γ:Ctx) (hl:l.length≤maxLen)  : ∀ (n k:Nat),l.length - k≤n→k≤l.length →
 J Tryz.prog 195 (aA Tryz.f195) Γ (Eq2 (.x (.b (jb (l.drop k)))) []) zUr2 ({ n:=16,fr:=[(0,.p (.lst .cell l)),(2,.p (.bool false)),(3,.i k)],ck:=[],kn:=[2] }):=by
 intro n
 induction n with
 | zero=>?_
 | succ n ih=>?_
 all_goals
  intro k hn hk
  refine jg aT Tryz.func195 (.ite (decide ((k:Int)<(l.length:Int))) (.need (inRg k l.length) (.ite (Cell.op (ETy.get .cell l k)==(6:Int)) (.ret (.p (.bool true)) []) (.stop zUr2 { n:=16,fr:=[(0,.p (.lst .cell l)),(2,.p (.bool false)),(3,.i (IntKind.wrap .i64 ((k:Int)+1)))],ck:=[],kn:=[2] }))) (.ret (.p (.bool false)) [])) ?_
  refine ⟨fun hlt=>?_,fun hge=>?_⟩
  · have hk':k<l.length:=by have:=of_decide_eq_true hlt; omega
    rw [bO (t:=.cell) (l:=l) hk']
    refine ⟨by omega,?_⟩
    generalize ETy.get .cell l k=v
    have e:jb (v::l.drop (k+1))=(v.op==6||jb (l.drop (k+1))):=cX
    rw [e]
    refine ⟨fun hb=>⟨?_,rfl⟩,fun hb=>?_⟩
    · have hb':(v.op==6)=true:=hb
      rw [hb']; rfl
    · have hb':(v.op==6)=false:=hb
      rw [hb',aW]; (rw [a6 (aE hk' hl)]; first | (exfalso; omega) | exact J.kn [2] (ih (k+1) (by omega) (by omega)))
  · rw [bX (l:=l) (by have:=of_decide_eq_false hge; omega)]
    exact ⟨rfl,rfl⟩
theorem HY (l:List Cell):ag Tryz.prog 195 [.l .cell (l)] [] (.x (.b (jb l))) []:=by
 refine dg aT Tryz.func195 (.stop zUr2 { n:=16,fr:=[(0,.p (.lst .cell l)),(2,.p (.bool false)),(3,.i 0)],ck:=[],kn:=[2] }) fun Γ=>?_
 exact J.len 0 rfl fun hl=>Hy l Γ hl l.length 0 (by omega) (by omega)
def po:Ent:=(195,fun
 | [.c (.pd (.lst .cell l))],[]=>some (none,.x (.c (.pd (.bool (jb l)))),[])
 | _,_=>none)
theorem Dn:EntOk Tryz.prog po:=entOk fun vs ck=>by
 unfold po; dsimp only; split
 · rename_i l; exact entS fun hp=>HY l
 · exact entN
def xQ:Cfg:=⟨bb,[mu,kS,po,kq]⟩
theorem yk:af Tryz.prog xQ.tab:=(af.cons kQ (af.cons qA (af.cons Dn (af.cons ud af.nil))))
theorem Cx (d:Deed):ag Tryz.prog 163 [.e .deed d] [] (.x (.b (dX d))) []:=by
 refine dg yk Tryz.func163 (.ite (d.kind==(1:Int)) (.ret (.p (.bool (aX d.name&&dB d.expr && !jb d.expr))) []) (.ret (.p (.bool ((d.kind==(2:Int)||d.kind==(3:Int))&&fD d.name&&(d.expr.length:Int)==0))) [])) fun Γ=>?_
 unfold dX nC
 refine ⟨fun h=>?_,fun h=>?_⟩
 · rw [h,cond_true,← Bool.and_assoc]; exact ⟨rfl,rfl⟩
 · rw [h,cond_false]
   cases h2:(d.kind==2||d.kind==3)
   · rw [aK,aK]; exact ⟨rfl,rfl⟩
   · rw [aP]; exact ⟨rfl,rfl⟩
def ti:Ent:=(163,fun
 | [.agg [.pd (.int .i64 a),.pd (.str b),.pd (.lst .cell d)]],[]=>some (none,.x (.c (.pd (.bool (dX ⟨a,b,d⟩)))),[])
 | _,_=>none)
theorem DZ:EntOk Tryz.prog ti:=entOk fun vs ck=>by
 unfold ti; dsimp only; split
 · rename_i a b d; exact entS fun hp=>Cx ⟨a,b,d⟩
 · exact entN
def np:Cfg:=⟨bb,[ti]⟩
theorem mW:af Tryz.prog np.tab:=(af.cons DZ af.nil)
abbrev zUr1:List PI:=[.code [1,1,0,1,0,0],.inLoop [1,1,0,1,0,0],.inBlock 0,.code [1,1,1]]
theorem Ft (l:List Deed) (Γ:Ctx) (hl:l.length≤maxLen)  : ∀ (n k:Nat),l.length - k≤n→k≤l.length →
 J Tryz.prog 113 (aA Tryz.f113) Γ (Eq2 (.x (.b ((l.drop k).all dX))) []) zUr1 ({ n:=24,fr:=[(0,.p (.lst .deed l)),(2,.p (.bool false)),(3,.i k)],ck:=[],kn:=[2] }):=by
 intro n
 induction n with
 | zero=>?_
 | succ n ih=>?_
 all_goals
  intro k hn hk
  refine jg mW Tryz.func113 (.ite (decide ((k:Int)<(l.length:Int))) (.need (inRg k l.length) (.ite (!dX (ETy.get .deed l k)) (.ret (.p (.bool false)) []) (.stop zUr1 { n:=24,fr:=[(0,.p (.lst .deed l)),(2,.p (.bool false)),(3,.i (IntKind.wrap .i64 ((k:Int)+1)))],ck:=[],kn:=[2] }))) (.ret (.p (.bool true)) [])) ?_
  refine ⟨fun hlt=>?_,fun hge=>?_⟩
  · have hk':k<l.length:=by have:=of_decide_eq_true hlt; omega
    rw [bO (t:=.deed) (l:=l) hk']
    refine ⟨by omega,?_⟩
    generalize ETy.get .deed l k=v
    rw [dt]
    refine ⟨fun hb=>⟨?_,rfl⟩,fun hb=>?_⟩
    · have hb':dX v=false:=nt hb
      rw [hb']; rfl
    · have hb':dX v=true:=nf hb
      rw [hb',aP]; (rw [a6 (aE hk' hl)]; first | (exfalso; omega) | exact J.kn [2] (ih (k+1) (by omega) (by omega)))
  · rw [bX (l:=l) (by have:=of_decide_eq_false hge; omega)]
    exact ⟨rfl,rfl⟩
theorem wz (l:List Deed):ag Tryz.prog 113 [.l .deed l] [] (.x (.b (eR l))) []:=by
 refine dg mW Tryz.func113 (.ite (decide ((l.length:Int)<1)||decide ((l.length:Int)>8)) (.ret (.p (.bool false)) []) (.stop zUr1 { n:=24,fr:=[(0,.p (.lst .deed l)),(2,.p (.bool false)),(3,.i 0)],ck:=[],kn:=[2] })) fun Γ=>?_
 refine ⟨fun h=>⟨?_,rfl⟩,fun h=>?_⟩
 · have:eR l=false:=by
    unfold eR
    simp only [aS,decide_eq_true_eq] at h
    cases l.all dX
    · rfl
    · rw [aP,cg]
      rcases h with h | h
      · left; exact decide_eq_false (by omega)
      · right; exact decide_eq_false (by omega)
   rw [this]
 · simp only [an,decide_eq_false_iff_not] at h
   have:eR l=(l.drop 0).all dX:=by
    unfold eR
    rw [decide_eq_true (show (l.length:Int)>0 by omega),decide_eq_true (show (l.length:Int)≤8 by omega)]; simp
   rw [this]
   exact J.len 0 rfl fun hl=>Ft l Γ hl l.length 0 (by omega) (by omega)
def n2:Ent:=(113,fun
 | [.c (.pd (.lst .deed l))],[]=>some (none,.x (.c (.pd (.bool (eR l)))),[])
 | _,_=>none)
theorem AZ:EntOk Tryz.prog n2:=entOk fun vs ck=>by
 unfold n2; dsimp only; split
 · rename_i l; exact entS fun hp=>wz l
 · exact entN
end Go.Proofs.YtcopfgbbjdefbaaGreatDoor
namespace Go.Proofs.YtcopfgbbjdefbaaGreatDoor
open Go Go.Ev
set_option maxRecDepth 100000
theorem yR (k:Int):ag Tryz.prog 84 [.i k] [] (.x (.b (aQ k))) []:=by
 refine dg aT Tryz.func84 (.ret (.p (.bool (k==(5:Int)||k==(6:Int)))) []) fun Γ=>?_
 exact ⟨rfl,rfl⟩
def kW:Ent:=(84,fun
 | [.c (.pd (.int .i64 k))],[]=>some (none,.x (.c (.pd (.bool (aQ k)))),[])
 | _,_=>none)
theorem mn:EntOk Tryz.prog kW:=entOk fun vs ck=>by
 unfold kW; dsimp only; split
 · rename_i k; exact entS fun hp=>yR k
 · exact entN
variable (l:List Ev.Stat) (b:Bool) (e:Int) (n s:Str)
def bM:Int:=if b=true then 0 else e
def aJ:Int:=aI (fun s:Ev.Stat=>s.name==n) l 0
theorem Bk:ag Tryz.prog 88 [.b b,.i e] [] (.x (.i (bM b e))) []:=by
 refine dg aT Tryz.func88 (.ite b (.ret (.i 0) []) (.ret (.i e) [])) fun Γ=>?_
 refine ⟨fun h=>?_,fun h=>?_⟩
 · unfold bM; rw [if_pos h]; exact ⟨rfl,rfl⟩
 · unfold bM; rw [if_neg (by rw [h]; decide)]; exact ⟨rfl,rfl⟩
def jz:Ent:=(88,fun
 | [.c (.pd (.bool b)),.c (.pd (.int .i64 e))],[]=>some (none,.x (.c (.pd (.int .i64 (bM b e)))),[])
 | _,_=>none)
theorem iK:EntOk Tryz.prog jz:=entOk fun vs ck=>by
 unfold jz; dsimp only; split
 · rename_i b e; exact entS fun hp=>Bk b e
 · exact entN
/-! ### a state's place -/
theorem ES (s:Ev.Stat) (n:Str):ag Tryz.prog 105 [.e .stat s,.p (.ref .str n 0)] [] (.x (.b (s.name==n))) []:=by
 refine dg aT Tryz.func105 (.ret (.p (.bool (s.name==n))) []) fun Γ=>⟨rfl,rfl⟩
def yd:Ent:=(105,fun
 | [.agg [.pd (.str a),.pd (.int .i64 b),.pd (.int .i64 c),.pd (.str d),.pd (.lst .deed e),.pd (.lst .deed f)],.c (.pd (.ref .str n 0))],[]=>some (none,.x (.c (.pd (.bool (a==n)))),[])
 | _,_=>none)
theorem GS:EntOk Tryz.prog yd:=entOk fun vs ck=>by
 unfold yd; dsimp only; split
 · rename_i a b c d e f n; exact entS fun hp=>ES ⟨a,b,c,d,e,f⟩ n
 · exact entN
def vc:Cfg:=⟨bb,[yd]⟩
theorem sh:af Tryz.prog vc.tab:=(af.cons GS af.nil)
abbrev zTf1:List PI:=[.code [1,0,1,0,0],.inLoop [1,0,1,0,0],.inBlock 0,.code [1,1]]
theorem DX (Γ:Ctx) (hl:l.length≤maxLen)  : ∀ (n k:Nat),l.length - k≤n→k≤l.length →
 J Tryz.prog 104 (aA Tryz.f104) Γ (Eq2 (.x (.i (aI (fun v:Ev.Stat=>v.name==s) (l.drop k) k))) []) zTf1 ({ n:=19,fr:=[(0,.p (.lst .stat l)),(1,.x (.c (.fn (.func 105) [] [.pd (.ref .str s 0)]))),(4,.i 0),(7,.i l.length),(8,.i k)],ck:=[] }):=by
 intro n
 induction n with
 | zero=>?_
 | succ n ih=>?_
 all_goals
  intro k hn hk
  refine jg sh Tryz.func104 (.ite (decide ((k:Int)<(l.length:Int))) (.need (inRg k l.length) (.ite (Stat.name (ETy.get .stat l k)==s) (.ret (.i k) []) (.stop zTf1 { n:=19,fr:=[(0,.p (.lst .stat l)),(1,.x (.c (.fn (.func 105) [] [.pd (.ref .str s 0)]))),(4,.i 0),(7,.i l.length),(8,.i (IntKind.wrap .i64 ((k:Int)+1)))],ck:=[] }))) (.ret (.i (-1:Int)) [])) ?_
  refine ⟨fun hlt=>?_,fun hge=>?_⟩
  · have hk':k<l.length:=by have:=of_decide_eq_true hlt; omega
    rw [bO (t:=.stat) (l:=l) hk']
    refine ⟨by omega,?_⟩
    generalize ETy.get .stat l k=v
    refine ⟨fun hb=>⟨?_,rfl⟩,fun hb=>?_⟩
    · simp only [aI,hb,cond_true]
    · simp only [aI,hb,cond_false]; (rw [a6 (aE hk' hl)]; first | (exfalso; omega) | exact ih (k+1) (by omega) (by omega))
  · rw [bX (l:=l) (by have:=of_decide_eq_false hge; omega)]
    exact ⟨rfl,rfl⟩
theorem FU:ag Tryz.prog 104 [.l .stat (l),SX.c (SC.fn (Fn.func 105) [] [RC.pd (PD.ref ETy.str s 0)])] [] (.x (.i (aI (fun v:Ev.Stat=>v.name==s) l 0))) []:=by
 refine dg sh Tryz.func104 (.stop zTf1 { n:=19,fr:=[(0,.p (.lst .stat l)),(1,.x (.c (.fn (.func 105) [] [.pd (.ref .str s 0)]))),(4,.i 0),(7,.i l.length),(8,.i 0)],ck:=[] }) fun Γ=>?_
 exact J.len 0 rfl fun hl=>DX l s Γ hl l.length 0 (by omega) (by omega)
def A4:Ent:=(104,fun
 | [.c (.pd (.lst .stat l)),.c (.fn (.func 105) [] [.pd (.ref .str s 0)])],[]=>some (none,.x (.c (.pd (.int .i64 (aI (fun v:Ev.Stat=>v.name==s) l 0)))),[])
 | _,_=>none)
theorem Hl:EntOk Tryz.prog A4:=entOk fun vs ck=>by
 unfold A4; dsimp only; split
 · rename_i l s; exact entS fun hp=>FU l s
 · exact entN
def DH:Cfg:=⟨bb,[A4]⟩
theorem CJ:af Tryz.prog DH.tab:=(af.cons Hl af.nil)
theorem Aa (c:Chart) (n:Str):ag Tryz.prog 49 [.e .chart c,.s n] [] (.x (.i (aJ c.states n))) []:=by
 refine dg CJ Tryz.func49 (.ret (.i (aI (fun v=>v.name==n) c.states (0:Int))) []) fun Γ=>?_
 exact ⟨rfl,rfl⟩
def jP:Ent:=(49,fun
 | [.agg [.pd (.str a),.pd (.lst .str b),.pd (.lst .var c),.pd (.lst .stat d),.pd (.lst .tran e)],.c (.pd (.str n))],[]=>some (none,.x (.c (.pd (.int .i64 (aJ d n)))),[])
 | _,_=>none)
theorem kB:EntOk Tryz.prog jP:=entOk fun vs ck=>by
 unfold jP; dsimp only; split
 · rename_i a b c d e n; exact entS fun hp=>Aa ⟨a,b,c,d,e⟩ n
 · exact entN
end Go.Proofs.YtcopfgbbjdefbaaGreatDoor
namespace Go.Ev
open Ieee
end Go.Ev
namespace Go.Ev
open Ieee
theorem xK (k l:Nat):min (-(k:Int)) (-(l:Int)) = -((max k l:Nat):Int):=by omega
end Go.Ev
namespace Go.Ev
open Ieee
end Go.Ev
namespace Go.Ev
open Ieee
def inB (x:Nat):Bool:=(eP x 13920626448202203136==some .gt||eP x 13920626448202203136==some .eq)&&(eP x 4697254411347427328==some .lt||eP x 4697254411347427328==some .eq)
def pIn (a:Int):Bool:=decide (-1048576≤a)&&decide (a≤1048576)
theorem gU {x:Nat}:inB x=true↔(eP x 13920626448202203136=some .gt∨eP x 13920626448202203136=some .eq)∧(eP x 4697254411347427328=some .lt∨eP x 4697254411347427328=some .eq):=by
 simp [inB]
/-! ### points, by the bits of their parts -/
def num (n:Int):Nat:=FloatKind.f64.nearest n
def tK (a b:Int):Nat×Nat:=if pIn a&&pIn b then (num a,num b) else (0,0)
def lF (a b:Int):Int:=if pIn a&&pIn b then 0 else 5
end Go.Ev
namespace Go.Proofs.YtcopfgbbjdefbaaGreatDoor
open Go Go.Ev
set_option maxRecDepth 100000
theorem AB (a b:Int):ag Tryz.prog 171 [.i a,.i b] [] (.tup [.c (.pd (.cx (some (tK a b)))),.i (lF a b)]) []:=by
 refine dg aT Tryz.func171 (.ite (decide (a<(-1048576:Int))||decide (a>(1048576:Int))||decide (b<(-1048576:Int))||decide (b>(1048576:Int))) (.ret (.tup [.p (.cx (some (0,0))),.i 5]) []) (.ret (.tup [.p (.cx (some (FloatKind.nearest FloatKind.f64 a,FloatKind.nearest FloatKind.f64 b))),.i 0]) [])) fun Γ=>?_
 refine ⟨fun h=>⟨?_,rfl⟩,fun h=>⟨?_,rfl⟩⟩
 · have:(pIn a&&pIn b)=false:=by
    simp only [aS,decide_eq_true_eq] at h
    simp only [pIn,cg,decide_eq_false_iff_not]; omega
   simp [tK,lF,this]
 · have:(pIn a&&pIn b)=true:=by
    simp only [an,decide_eq_false_iff_not] at h
    simp only [pIn,ae,decide_eq_true_eq]; omega
   simp [tK,lF,this,num]
def pD:Ent:=(171,fun
 | [.c (.pd (.int .i64 a)),.c (.pd (.int .i64 b))],[]=>some (none,.tup [.c (.pd (.cx (some (tK a b)))),.c (.pd (.int .i64 (lF a b)))],[])
 | _,_=>none)
theorem B6:EntOk Tryz.prog pD:=entOk fun vs ck=>by
 unfold pD; dsimp only; split
 · rename_i a b; exact entS fun hp=>AB a b
 · exact entN
end Go.Proofs.YtcopfgbbjdefbaaGreatDoor
namespace Go.Ev
def i64 (n:Int):Bool:=decide (-9223372036854775808≤n)&&decide (n≤9223372036854775807)
def u64 (n:Int):Bool:=decide (0≤n)&&decide (n<18446744073709551616)
end Go.Ev
namespace Go.Ev
def vR (v:Val):Bool:=if v.kind=1 then v.b==0 else if v.kind=2 then v.b==0&&(v.a==0||v.a==1) else if v.kind=3 then pIn v.a&&pIn v.b else false
/-! ### points -/
/-! ### what comes of values that may be may be, too -/
end Go.Ev
namespace Go.Proofs.YtcopfgbbjdefbaaGreatDoor
open Go Go.Ev
set_option maxRecDepth 100000
theorem GY (a:Int):ag Tryz.prog 162 [.i a] [] (.x (.b (pIn a))) []:=by
 refine dg aT Tryz.func162 (.ret (.p (.bool (decide (a≥(-1048576:Int))&&decide (a≤(1048576:Int))))) []) fun Γ=>?_
 exact ⟨rfl,rfl⟩
def eIn:Ent:=(162,fun
 | [.c (.pd (.int .i64 a))],[]=>some (none,.x (.c (.pd (.bool (pIn a)))),[])
 | _,_=>none)
theorem IJ:EntOk Tryz.prog eIn:=entOk fun vs ck=>by
 unfold eIn; dsimp only; split
 · rename_i a; exact entS fun hp=>GY a
 · exact entN
def Gs:Cfg:=⟨bb,[eIn]⟩
theorem Gi:af Tryz.prog Gs.tab:=(af.cons IJ af.nil)
def xO:Cfg:=⟨bb,[pD]⟩
theorem AH:af Tryz.prog xO.tab:=(af.cons B6 af.nil)
theorem tS (k a b:Int):ag Tryz.prog 144 [.agg [.pd (.i k),.pd (.i a),.pd (.i b)]] [] (.x (.b (vR ⟨k,a,b⟩))) []:=by
 refine dg (cfg:=(xO)) AH Tryz.func144 (.ite (k==(1:Int)) (.ret (.p (.bool (b==(0:Int)))) []) (.ite (k==(2:Int)) (.ret (.p (.bool (b==(0:Int)&&(a==(0:Int)||a==(1:Int))))) []) (.ite (k==(3:Int)) (.ret (.p (.bool (lF a b==(0:Int)))) []) (.ret (.p (.bool false)) [])))) fun Γ=>?_
 refine ⟨fun h=>⟨?_,rfl⟩,fun h1=>⟨fun h=>⟨?_,rfl⟩,fun h2=>⟨fun h=>⟨?_,rfl⟩,fun h3=>⟨?_,rfl⟩⟩⟩⟩
 · simp_all [vR]
 · simp_all [vR]
 · have e:vR ⟨k,a,b⟩=(pIn a&&pIn b):=by simp_all [vR]
   rw [e]
   cases h':(pIn a&&pIn b)
   · simp [lF,h']
   · simp [lF,h']
 · simp_all [vR]
def lG:Ent:=(144,fun
 | [.agg [.pd (.int .i64 k),.pd (.int .i64 a),.pd (.int .i64 b)]],[]=>some (none,.x (.c (.pd (.bool (vR ⟨k,a,b⟩)))),[])
 | _,_=>none)
theorem w8:EntOk Tryz.prog lG:=entOk fun vs ck=>by
 unfold lG; dsimp only; split
 · rename_i k a b; exact entS fun hp=>tS k a b
 · exact entN
theorem sU (k a b:Int):ag Tryz.prog 111 [.agg [.pd (.i k),.pd (.i a),.pd (.i b)]] [] (.x (.b (vR ⟨k,a,b⟩))) []:=by
 refine dg (cfg:=(Gs)) Gi Tryz.func111 (.ite (k==(1:Int)) (.ret (.p (.bool (b==(0:Int)))) []) (.ite (k==(2:Int)) (.ret (.p (.bool (k==(2:Int)&&(a==(0:Int)&&b==(0:Int))||k==(2:Int)&&(a==(1:Int)&&b==(0:Int))))) []) (.ite (k==(3:Int)) (.ret (.p (.bool (pIn a&&pIn b))) []) (.ret (.p (.bool false)) [])))) fun Γ=>?_
 refine ⟨fun h=>⟨?_,rfl⟩,fun h1=>⟨fun h=>⟨?_,rfl⟩,fun h2=>⟨fun h=>⟨?_,rfl⟩,fun h3=>⟨?_,rfl⟩⟩⟩⟩
 · simp_all [vR]
 · have e:k=2:=by simpa using h
   subst e
   have e2:vR ⟨2,a,b⟩=(b==0&&(a==0||a==1)):=by simp [vR]
   rw [e2]
   cases hb:b==0 <;> cases h0:a==0 <;> cases h4:a==1 <;> simp
 · simp_all [vR]
 · simp_all [vR]
def kr:Ent:=(111,fun
 | [.agg [.pd (.int .i64 k),.pd (.int .i64 a),.pd (.int .i64 b)]],[]=>some (none,.x (.c (.pd (.bool (vR ⟨k,a,b⟩)))),[])
 | _,_=>none)
theorem uV:EntOk Tryz.prog kr:=entOk fun vs ck=>by
 unfold kr; dsimp only; split
 · rename_i k a b; exact entS fun hp=>sU k a b
 · exact entN
end Go.Proofs.YtcopfgbbjdefbaaGreatDoor

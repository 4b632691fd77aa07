/- Contracts: charts told: a state, whole. Conditions: sizes. Plain: a state's text is its lines. Conditions: none. Contracts: charts told: a state, as an entry. Conditions: sizes. Plain: how many parts a chart has. Conditions: none. Plain: what both tell of any chart; which charts have a text. Conditions: each theorem's own. -/
import Derived.Test.YtpfidgnkokidoaaGreatDoorXv
import Derived.Test.YtpfidgnkokidoaaGreatDoorYe
import Derived.Test.YtpfidgnkokidoaaGreatDoorWh
namespace Go.Proofs.YtpfidgnkokidoaaGreatDoor
open Go Go.Ev
set_option maxRecDepth 100000
variable (a:Str) (d:Int) (s:Ev.Stat)
def kJ:Int:=if 6000<(if 0>d then 0 else d) then 6000 else (if 0>d then 0 else d)
def hZ:Str:=b9 [32] (kJ d)
def o2:Str:=if s.initial=[] then a++da s.kind++[32]++s.name else a++da s.kind++[32]++s.name++([32]++s.initial)
def o4:Str:=if s.entry=[] then o2 a s++[10] else o2 a s++[10]++(a++[32,101,110,116,114,121,32]++aV s.entry++[10])
def o5:Str:=if s.leave=[] then o4 a s else o4 a s++(a++[32,101,120,105,116,32]++aV s.leave++[10])
theorem Du:0≤kJ d∧kJ d≤6000:=by
 unfold kJ; split <;> split <;> omega
abbrev zXw1:List PI:=[.code [1,1,1,1,1,1,1,1,1,0,1,0,0],.inLoop [1,1,1,1,1,1,1,1,1,0,1,0,0],.inBlock 0,.code [1,1,1,1,1,1,1,1,1,1]]
theorem Co (nm:Str) (ev:List Str) (vs:List Var) (st:List Ev.Stat) (tr:List Tran) (i:Int) (M:Nat) (h0:0≤i) (hi2:i<st.length) (hM:∀ t∈tr,(jD (hZ (ETy.get .stat st i.toNat).depth) t).length≤M) (hl:tr.length≤1000000) (hM2:M≤1000000000000)
 (hn:(ETy.get .stat st i.toNat).name.length≤281474976710656) (hini:(ETy.get .stat st i.toNat).initial.length≤281474976710656) (hen:(aV (ETy.get .stat st i.toNat).entry).length≤281474976710656) (hex:(aV (ETy.get .stat st i.toNat).leave).length≤281474976710656) :
 ak Tryz.prog 28 [.agg [.pd (.str nm),.pd (.lst .str ev),.pd (.lst .var vs),.pd (.lst .stat st),.pd (.lst .tran tr)],.i i] [] (.x (.s (o5 (hZ (ETy.get .stat st i.toNat).depth) (ETy.get .stat st i.toNat)++iK (hZ (ETy.get .stat st i.toNat).depth) i tr))) []:=by
 refine dg qi Tryz.func28 (let x2:=(ETy.get .stat st (Int.toNat i)); let x1:=(if (6000:Int)<if (0:Int)>Stat.depth x2 then (0:Int) else Stat.depth x2 then (6000:Int) else if (0:Int)>Stat.depth x2 then (0:Int) else Stat.depth x2); let x3:List PI:=zXw1; let x11:=[(32:UInt8),101,110,116,114,121,32]; let x4:=(b9 [(32:UInt8)] x1++x11++aV (Stat.entry x2)++[(10:UInt8)]); let x20:=[(32:UInt8),101,120,105,116,32]; let x5:=(b9 [(32:UInt8)] x1++x20++aV (Stat.leave x2)++[(10:UInt8)]); let x6:=((b9 [(32:UInt8)] x1++x20).length+(aV (Stat.leave x2)).length≤9223372036854775807); let x7:=((b9 [(32:UInt8)] x1++x20++aV (Stat.leave x2)).length+1≤9223372036854775807); let x8:=(b9 [(32:UInt8)] x1); let x9:=(b9 [(32:UInt8)] x1++da (Stat.kind x2)++[(32:UInt8)]++Stat.name x2++([(32:UInt8)]++Stat.initial x2)++[(10:UInt8)]); let x10:=(b9 [(32:UInt8)] x1++da (Stat.kind x2)++[(32:UInt8)]++Stat.name x2++[(10:UInt8)]); let x12:=(b9 [(32:UInt8)] x1++da (Stat.kind x2)++[(32:UInt8)]++Stat.name x2++([(32:UInt8)]++Stat.initial x2)++[(10:UInt8)]++x4); let x13:Nat×SV:=(84,.p (.lst .tran tr)); let x14:=(decide ((↑((Stat.leave x2).length):Int)>0)); let x15:=(b9 [(32:UInt8)] x1++da (Stat.kind x2)++[(32:UInt8)]++Stat.name x2++[(10:UInt8)]++x4); let x16:=(x8.length+6≤9223372036854775807); let x17:=((b9 [(32:UInt8)] x1++x11).length+(aV (Stat.entry x2)).length≤9223372036854775807); let x18:=((b9 [(32:UInt8)] x1++x11++aV (Stat.entry x2)).length+1≤9223372036854775807); let x19:=(b9 [(32:UInt8)] x1++da (Stat.kind x2)++[(32:UInt8)]++Stat.name x2); let x21:=(decide ((↑((Stat.entry x2).length):Int)>0)); let x22:=(x8.length+7≤9223372036854775807); .need ((0:Int)≤i∧i<(st.length:Int)) (.need (((0:Int)≤if (6000:Int)<if (0:Int)>Stat.depth x2 then (0:Int) else Stat.depth x2 then (6000:Int) else if (0:Int)>Stat.depth x2 then (0:Int) else Stat.depth x2)∧x1≤(9223372036854775807:Int)∧1 * Int.toNat x1≤140737488355328) (.need (x8.length+(da (Stat.kind x2)).length≤9223372036854775807) (.need ((b9 [(32:UInt8)] x1++da (Stat.kind x2)).length+1≤9223372036854775807) (.need ((b9 [(32:UInt8)] x1++da (Stat.kind x2)++[(32:UInt8)]).length+(Stat.name x2).length≤9223372036854775807) (.ite (!Stat.initial x2==[]) (.need (1+(Stat.initial x2).length≤9223372036854775807) (.need (x19.length+([(32:UInt8)]++Stat.initial x2).length≤9223372036854775807) (.need ((b9 [(32:UInt8)] x1++da (Stat.kind x2)++[(32:UInt8)]++Stat.name x2++([(32:UInt8)]++Stat.initial x2)).length+1≤9223372036854775807) (.ite x21 (.need x22 (.need x17 (.need x18 (.need (x9.length+x4.length≤9223372036854775807) (.ite x14 (.need x16 (.need x6 (.need x7 (.need (x12.length+x5.length≤9223372036854775807) (.stop x3 { n:=130,fr:=[(8,.p (.str (b9 [(32:UInt8)] x1++da (Stat.kind x2)++[(32:UInt8)]++Stat.name x2++([(32:UInt8)]++Stat.initial x2)++[(10:UInt8)]++x4++x5))),(1,.i i),(4,.p (.str [])),(7,.p (.str x8)),x13,(85,.i tr.length),(86,.i 0)],ck:=[] }))))) (.stop x3 { n:=130,fr:=[(8,.p (.str x12)),(1,.i i),(4,.p (.str [])),(7,.p (.str x8)),x13,(85,.i tr.length),(86,.i 0)],ck:=[] })))))) (.ite x14 (.need x16 (.need x6 (.need x7 (.need (x9.length+x5.length≤9223372036854775807) (.stop x3 { n:=130,fr:=[(8,.p (.str (b9 [(32:UInt8)] x1++da (Stat.kind x2)++[(32:UInt8)]++Stat.name x2++([(32:UInt8)]++Stat.initial x2)++[(10:UInt8)]++x5))),(1,.i i),(4,.p (.str [])),(7,.p (.str x8)),x13,(85,.i tr.length),(86,.i 0)],ck:=[] }))))) (.stop x3 { n:=130,fr:=[(8,.p (.str x9)),(1,.i i),(4,.p (.str [])),(7,.p (.str x8)),x13,(85,.i tr.length),(86,.i 0)],ck:=[] })))))) (.need (x19.length+1≤9223372036854775807) (.ite x21 (.need x22 (.need x17 (.need x18 (.need (x10.length+x4.length≤9223372036854775807) (.ite x14 (.need x16 (.need x6 (.need x7 (.need (x15.length+x5.length≤9223372036854775807) (.stop x3 { n:=130,fr:=[(8,.p (.str (b9 [(32:UInt8)] x1++da (Stat.kind x2)++[(32:UInt8)]++Stat.name x2++[(10:UInt8)]++x4++x5))),(1,.i i),(4,.p (.str [])),(7,.p (.str x8)),x13,(85,.i tr.length),(86,.i 0)],ck:=[] }))))) (.stop x3 { n:=130,fr:=[(8,.p (.str x15)),(1,.i i),(4,.p (.str [])),(7,.p (.str x8)),x13,(85,.i tr.length),(86,.i 0)],ck:=[] })))))) (.ite x14 (.need x16 (.need x6 (.need x7 (.need (x10.length+x5.length≤9223372036854775807) (.stop x3 { n:=130,fr:=[(8,.p (.str (b9 [(32:UInt8)] x1++da (Stat.kind x2)++[(32:UInt8)]++Stat.name x2++[(10:UInt8)]++x5))),(1,.i i),(4,.p (.str [])),(7,.p (.str x8)),x13,(85,.i tr.length),(86,.i 0)],ck:=[] }))))) (.stop x3 { n:=130,fr:=[(8,.p (.str x10)),(1,.i i),(4,.p (.str [])),(7,.p (.str x8)),x13,(85,.i tr.length),(86,.i 0)],ck:=[] })))))))))) fun Γ=>?_
 conv=>zeta
 generalize hs:ETy.get .stat st i.toNat=s at *
 have hdep:=Du s.depth
 have ha:(if (6000:Int)<(if (0:Int)>s.depth then 0 else s.depth) then (6000:Int) else (if (0:Int)>s.depth then 0 else s.depth))=kJ s.depth:=rfl
 rw [ha]
 have hal:(hZ s.depth).length≤6000:=by
  show (Lib.repeatL [32] (kJ s.depth).toNat).length≤6000
  rw [Lib.repeatL_length]
  show (kJ s.depth).toNat * 1≤6000
  omega
 have hah:b9 [32] (kJ s.depth)=hZ s.depth:=rfl
 rw [hah]
 generalize hZ s.depth=a at *
 have hk:(da s.kind).length≤10:=by
  unfold da jd
  repeat' split
  all_goals decide
 have key:∀ o:Str,o=o5 a s→o.length≤1000000000000000000→J Tryz.prog 28 (aI Tryz.f28) Γ (Eq2 (.x (.s (o5 a s++iK a i tr))) []) zXw1 ({ n:=130,fr:=[(8,.p (.str o)),(1,.i i),(4,.p (.str [])),(7,.p (.str a)),(84,.p (.lst .tran tr)),(85,.i tr.length),(86,.i (0))],ck:=[] }):=fun o ho hlo=>by
  rw [← ho]
  have:=MJ tr i a M Γ hM hl tr.length 0 o (by omega) (by have:=Nat.mul_le_mul hM2 hl; omega)
  exact this
 refine ⟨⟨h0,hi2⟩,⟨by omega,by omega,by simp; omega⟩,?_,?_,?_,fun hi=>⟨?_,?_,?_,fun he=>⟨?_,?_,?_,?_,fun hx=>⟨?_,?_,?_,?_,?_⟩,fun hx=>?_⟩,fun he=>⟨fun hx=>⟨?_,?_,?_,?_,?_⟩,fun hx=>?_⟩⟩,fun hi=>⟨?_,fun he=>⟨?_,?_,?_,?_,fun hx=>⟨?_,?_,?_,?_,?_⟩,fun hx=>?_⟩,fun he=>⟨fun hx=>⟨?_,?_,?_,?_,?_⟩,fun hx=>?_⟩⟩⟩
 all_goals
  first
  | omega
  | (simp only [ag,ah,aj]; omega)
  | skip
 all_goals
  refine key _ ?_ ?_
  rotate_left
  · simp only [ag,ah,aj]; omega
  have e2:(s.initial=[])=(¬(!s.initial==[])=true):=by simp
  have e4:(s.entry=[])=(¬decide ((s.entry.length:Int)>0)=true):=by simp
  have e5:(s.leave=[])=(¬decide ((s.leave.length:Int)>0)=true):=by simp
  unfold o5 o4 o2
  simp only [e2,e4,e5,hi,he,hx]
  first
  | rfl
  | simp
end Go.Proofs.YtpfidgnkokidoaaGreatDoor
namespace Go.Proofs.YtpfidgnkokidoaaGreatDoor
open Go Go.Ev
variable (d:Nat) (s:Ev.Stat)
theorem sq:dY (d+1)=dY d++[32]:=List.replicate_succ'
theorem ug:∀ n:Nat,Lib.repeatL [32] n=dY n
 | 0=>rfl
 | n+1=>by
   show [32]++Lib.repeatL [32] n=List.replicate (n+1) 32
   rw [ug n]; rfl
theorem BA {d:Int} (h0:0≤d) (h1:d≤6000):hZ d=dY d.toNat:=by
 have e:kJ d=d:=by unfold kJ; split <;> split <;> omega
 show Lib.repeatL [32] (kJ d).toNat=_
 rw [e]; exact ug _
theorem HF (t:Tran):gz (d+1,la t)++[10]=jD (dY d) t:=by
 show dY (d+1)++cr (la t)++[10]=_
 rw [sq]
 unfold la jD
 simp [cr,glue]
theorem q8 (d:Nat) (i:Int):∀ tr:List Tran,cO ((tr.filter fun t=>t.src==i).map fun t=>(d+1,la t))=iK (dY d) i tr
 | []=>rfl
 | t :: r=>by
   rw [iK,List.filter_cons]
   by_cases h:t.src=i
   · have hb:(t.src==i)=true:=by rw [beq_iff_eq]; exact h
     rw [if_pos h,if_pos hb,aw]
     show (gz (d+1,la t)++[10])++cO _=_
     rw [HF,q8 d i r]
   · have hb:¬(t.src==i)=true:=by rw [beq_iff_eq]; exact h
     rw [if_neg h,if_neg hb,q8 d i r]
theorem mH (a b:List (Nat×List Str)):cO (a++b)=cO a++cO b:=by unfold cO; rw [ch]
theorem Hf (h:1≤s.kind∧s.kind≤6):gz (d,iM s)++[10]=o2 (dY d) s++[10]:=by
 have e:da s.kind=jd s.kind:=if_pos h
 show dY d++cr (iM s)++[10]=_
 unfold iM o2
 rw [e]
 split <;> simp [cr,glue]
theorem pM (w:Str) (l:List Deed) (hl:l≠[]):cO (dX d w l)=dY d++([32]++w++[32])++aV l++[10]:=by
 unfold dX
 rw [if_neg hl]
 show (dY (d+1)++cr [w,aV l]++[10])++[]=_
 rw [sq]
 simp [cr,glue]
theorem Fo (c:Chart) (i:Nat) (s:Ev.Stat) (hk:1≤s.kind∧s.kind≤6) (h0:0≤s.depth) (h1:s.depth≤6000):o5 (hZ s.depth) s++iK (hZ s.depth) i c.trans=cO (gL c i s):=by
 rw [BA h0 h1]
 unfold gL
 have e:∀ r,cO ((s.depth.toNat,iM s)::r)=(gz (s.depth.toNat,iM s)++[10])++cO r:=fun _=>rfl
 rw [e,Hf _ _ hk,mH,mH,q8]
 unfold o5 o4
 by_cases he:s.entry=[]
 · have b1:cO (dX s.depth.toNat iz s.entry)=[]:=by unfold dX; rw [if_pos he]; rfl
   rw [if_pos he,b1]
   by_cases hx:s.leave=[]
   · have b2:cO (dX s.depth.toNat jc s.leave)=[]:=by unfold dX; rw [if_pos hx]; rfl
     rw [if_pos hx,b2]; simp
   · rw [if_neg hx,pM _ _ _ hx]; simp
 · rw [if_neg he,pM _ _ _ he]
   by_cases hx:s.leave=[]
   · have b2:cO (dX s.depth.toNat jc s.leave)=[]:=by unfold dX; rw [if_pos hx]; rfl
     rw [if_pos hx,b2]; simp
   · rw [if_neg hx,pM _ _ _ hx]; simp
end Go.Proofs.YtpfidgnkokidoaaGreatDoor
namespace Go.Proofs.YtpfidgnkokidoaaGreatDoor
open Go Go.Ev
set_option maxRecDepth 100000
variable (st:List Ev.Stat) (tr:List Tran) (i:Int)
def uG:Prop:=0≤i∧i<st.length∧(∀ t∈tr,(jD (hZ (ETy.get .stat st i.toNat).depth) t).length≤1000000000000)∧tr.length≤1000000∧(ETy.get .stat st i.toNat).name.length≤281474976710656∧(ETy.get .stat st i.toNat).initial.length≤281474976710656∧(aV (ETy.get .stat st i.toNat).entry).length≤281474976710656∧(aV (ETy.get .stat st i.toNat).leave).length≤281474976710656
def ke:Str:=o5 (hZ (ETy.get .stat st i.toNat).depth) (ETy.get .stat st i.toNat)++iK (hZ (ETy.get .stat st i.toNat).depth) i tr
theorem G1 (nm:Str) (ev:List Str) (vs:List Var) (st:List Ev.Stat) (tr:List Tran) (i:Int) (h:uG st tr i):ak Tryz.prog 28 [.agg [.pd (.str nm),.pd (.lst .str ev),.pd (.lst .var vs),.pd (.lst .stat st),.pd (.lst .tran tr)],.i i] [] (.x (.s (ke st tr i))) [] :=
 Co nm ev vs st tr i 1000000000000 h.1 h.2.1 h.2.2.1 h.2.2.2.1 (av _) h.2.2.2.2.1 h.2.2.2.2.2.1 h.2.2.2.2.2.2.1 h.2.2.2.2.2.2.2
def DU:Ent:=(28,fun
 | [.agg [.pd (.str nm),.pd (.lst .str ev),.pd (.lst .var vs),.pd (.lst .stat st),.pd (.lst .tran tr)],.c (.pd (.int .i64 i))],[]=>some (some (uG st tr i),.x (.c (.pd (.str (ke st tr i)))),[])
 | _,_=>none)
theorem NG:EntOk Tryz.prog DU:=entOk fun vs ck=>by
 unfold DU; dsimp only; split
 · rename_i nm ev vs st tr i; exact entS fun hp=>G1 nm ev vs st tr i hp
 · exact entN
theorem JW (c:Chart) (i:Nat) (h0:0≤(ETy.get .stat c.states i).depth) (h1:(ETy.get .stat c.states i).depth≤6000) (hk:1≤(ETy.get .stat c.states i).kind∧(ETy.get .stat c.states i).kind≤6):ke c.states c.trans i=cO (gL c i (ETy.get .stat c.states i)):=by
 unfold ke
 rw [bj]
 exact Fo c i _ hk h0 h1
end Go.Proofs.YtpfidgnkokidoaaGreatDoor
namespace Go.Proofs.YtpfidgnkokidoaaGreatDoor
open Go Go.Ev
set_option maxRecDepth 100000
theorem xj:∀ ls:List (Nat×List Str),ls.length≤(cO ls).length
 | []=>av _
 | l::r=>by
   have ih:=xj r
   have e:cO (l::r)=gz l++[10]++cO r:=by simp [cO]
   rw [e]; simp only [ag,ah,aj]; omega
theorem yb (c:Chart):∀ n,n+((List.range n).flatMap fun (j:Nat)=>c.trans.filter fun t=>t.src==(j:Int)).length≤(dC c n).length
 | 0=>av _
 | n+1=>by
   have ih:=yb c n
   rw [iV,fA,ch,ag,ag]
   have e:(gL c n (ETy.get .stat c.states n)).length=1+(dX (ETy.get .stat c.states n).depth.toNat iz (ETy.get .stat c.states n).entry).length+(dX (ETy.get .stat c.states n).depth.toNat jc (ETy.get .stat c.states n).leave).length+(c.trans.filter fun t=>t.src==(n:Int)).length:=by
    unfold gL; simp only [ah,ag,bz]; omega
   have e2:(List.flatMap (fun (j:Nat)=>c.trans.filter fun t=>t.src==(j:Int)) [n]).length=(c.trans.filter fun t=>t.src==(n:Int)).length:=by simp
   rw [e,e2]; omega
theorem Lg {c:Chart} (w:WfC c):c.events.length+c.vars.length+c.states.length+c.trans.length≤(dx c).length:=by
 have h1:=xj (iT c)
 have h2:(dx c).length=(cO (iT c)).length:=rfl
 have h3:=yb c c.states.length
 rw [nO c.states.length c.trans w.sorted (fun t ht=>by
  have:=al.1 w.trans t ht
  simp only [gG,ab,decide_eq_true_eq] at this
  exact ⟨this.1,this.2.1⟩)] at h3
 have h4:(iT c).length=1+(c.events.length+(c.vars.length+(dC c c.states.length).length)):=by
  unfold iT; simp only [ah,ag,bz]; omega
 omega
end Go.Proofs.YtpfidgnkokidoaaGreatDoor
namespace Go.Proofs.YtpfidgnkokidoaaGreatDoor
open Go Go.Ev
set_option maxRecDepth 100000
def evT (e:Str):Str:=[101,118,101,110,116,32]++e++[10]
def iZ (c:Chart):Str:=[99,104,97,114,116,32]++c.name++[10]
variable {c:Chart} {T:Str} (v:Var)
def pvT:Str:=cr (gl v)++[10]
def rvT:Str:=cr (hG v)++[10]
def pT (c:Chart) (n:Nat):Str:=iZ c++c.events.flatMap evT++c.vars.flatMap pvT++(List.range n).flatMap fun (i:Nat)=>ke c.states c.trans i
theorem CX (c:Chart) (n:Nat):pT c (n+1)=pT c n++ke c.states c.trans n:=by
 unfold pT; rw [fA,ch]; simp
theorem Ae:∀ (l:List Ev.Stat) (m:Int),dw m l=true→∀ n,n<l.length→(ETy.get .stat l n).depth≤m+n
 | [],_,_,n,h=>by simp at h
 | s::r,m,h,0,_=>by
   simp only [dw,ab,decide_eq_true_eq] at h
   show s.depth≤m+(0:Nat); omega
 | s::r,m,h,n+1,hn=>by
   simp only [dw,ab,decide_eq_true_eq] at h
   have ih:=Ae r (s.depth+1) h.2 n (by simpa using hn)
   show (ETy.get .stat r n).depth≤_
   omega
theorem C7 {l:List Ev.Stat} {n:Nat} (h:n<l.length):ETy.get .stat l n∈l:=List.mem_of_getElem? (ETy.getElem?_get (t:=.stat) h)
theorem MG (w:WfC c) {n:Nat} (h:n<c.states.length):(1≤(ETy.get .stat c.states n).kind∧(ETy.get .stat c.states n).kind≤6)∧0≤(ETy.get .stat c.states n).depth∧(ETy.get .stat c.states n).depth≤n∧aP (ETy.get .stat c.states n).name=true∧((ETy.get .stat c.states n).initial=[]∨aP (ETy.get .stat c.states n).initial=true):=by
 have h1:=al.1 w.states _ (C7 h)
 have h2:=Ae _ 0 w.depths n h
 generalize ETy.get .stat c.states n=s at *
 simp only [fj,ab,decide_eq_true_eq] at h1
 refine ⟨⟨h1.1,h1.2.1⟩,h1.2.2.2.1,by omega,h1.2.2.1,?_⟩
 have h3:=h1.2.2.2.2.1
 cases hk:qt s.kind
 · rw [hk,cond_false] at h3; exact .inl (by simpa using h3)
 · rw [hk,cond_true] at h3; exact .inr h3
theorem Kd {v:Var} (h:ja v=true):gl v=hG v:=by
 by_cases h3:v.kind=3
 · simp only [ja,ab] at h
   have e1:(v.kind==1)=false:=by rw [h3]; decide
   have e2:(v.kind==2)=false:=by rw [h3]; decide
   rw [e1,cond_false,e2,cond_false] at h
   simp only [ab] at h
   exact KW h.2.2.2.2.2.1 h.2.2.2.2.2.2
 · unfold gl hG
   by_cases h2:v.kind=2
   · rw [if_pos h2,if_pos h2]
   · rw [if_neg h2,if_neg h2,if_neg h3,if_neg h3]
theorem xf:∀ l:List Var,l.all ja=true→l.flatMap pvT=cO (l.map fun v=>(0,hG v))∧l.flatMap rvT=cO (l.map fun v=>(0,hG v))
 | [],_=>⟨rfl,rfl⟩
 | v::r,h=>by
   simp only [aF,ab] at h
   have ih:=xf r h.2
   have e:cO ((v::r).map fun v=>(0,hG v))=(cr (hG v)++[10])++cO (r.map fun v=>(0,hG v)):=rfl
   rw [e,bD,bD,ih.1,ih.2]
   unfold pvT rvT
   rw [Kd h.1]
   exact ⟨rfl,rfl⟩
theorem sj:∀ l:List Str,l.flatMap evT=cO (l.map fun e=>(0,[gx,e]))
 | []=>rfl
 | e::r=>by
   have e1:cO ((e::r).map fun e=>(0,[gx,e]))=(cr [gx,e]++[10])++cO (r.map fun e=>(0,[gx,e])):=rfl
   rw [e1,bD,sj r]
   congr 1
   simp [evT,cr,glue]
def po (c:Chart):List (Nat×List Str):=(0,[iy,c.name])::(c.events.map (fun e=>(0,[gx,e]))++c.vars.map (fun v=>(0,hG v)))
theorem J4 (w:WfC c):iZ c++c.events.flatMap evT++c.vars.flatMap pvT=cO (po c)∧iZ c++c.events.flatMap evT++c.vars.flatMap rvT=cO (po c):=by
 have e:cO (po c)=(cr [iy,c.name]++[10])++cO (c.events.map (fun e=>(0,[gx,e]))++c.vars.map (fun v=>(0,hG v))):=rfl
 have eh:iZ c=cr [iy,c.name]++[10]:=by simp [iZ,cr,glue]
 obtain ⟨h1,h2⟩:=xf c.vars w.vars
 rw [e,mH,← sj,eh,h1,h2,aY]
 exact ⟨rfl,rfl⟩
theorem BE {c:Chart} (w:WfC c) (hn:c.states.length≤6000):∀ n,n≤c.states.length→pT c n=cO (po c++dC c n)
 | 0,_=>by
   show iZ c++c.events.flatMap evT++c.vars.flatMap pvT++[]=cO (po c++[])
   rw [bu,bu]; exact (J4 w).1
 | n+1,h=>by
   obtain ⟨h1,h2,h3,_⟩:=MG w (n:=n) (by omega)
   rw [CX,BE w hn n (by omega),iV,← aY,mH _ (gL c n _),JW c n h2 (by omega) h1]
theorem sk (c:Chart):iT c=po c++dC c c.states.length:=by simp [iT,po]
theorem uy (c:Chart):∀ (n m:Nat),n≤m→(cO (po c++dC c n)).length≤(cO (po c++dC c m)).length
 | n,0,h=>by rw [show n=0 by omega]; exact av _
 | n,m+1,h=>by
   by_cases hn:n=m+1
   · rw [hn]; exact av _
   · have ih:=uy c n m (by omega)
     rw [iV,← aY,mH _ (gL c m _),ag]
     omega
/-! ### the program's answers -/
theorem Md {n:Nat} (hn:n≤c.states.length) (hs:c.states.length≤6000) (h:6000<(pT c n).length):¬okC c:=fun ⟨w,hl⟩=>by
 rw [BE w hs n hn] at h
 have h2:=uy c n _ hn
 rw [← sk] at h2
 have h3:(dx c).length=(cO (iT c)).length:=rfl
 omega
theorem M9 (w:WfC c) (hs:c.states.length≤6000):pT c c.states.length=dx c:=by
 rw [BE w hs _ (av _),← sk]; rfl
theorem vK (e:okC c→T=dx c):okC c→gv T∧(br T).1=c:=fun h=>by
 rw [e h]
 have:=Dg h
 unfold gv
 rw [this]; exact ⟨rfl,rfl⟩
theorem NV (e:okC c→T=dx c) (h:¬gv T):¬okC c:=fun k=>h (vK e k).1
theorem FI (e:okC c→T=dx c) (h:fC c (br T).1=false):¬okC c:=fun k=>by
 rw [(vK e k).2,vP] at h; cases h
theorem KL (e:WfC c→T=dx c) (hr:gv T) (h:fC c (br T).1=true):okC c∧T=dx c:=by
 have hc:=(xN _ _).1 h
 have hw:=(JT hr).1
 rw [← hc] at hw
 have h6:=(sA hr).1
 refine ⟨⟨hw,?_⟩,e hw⟩
 rw [← e hw]; exact h6
/-! ### how many lines -/
theorem Jo (h:okC c):c.events.length+c.vars.length+c.states.length+c.trans.length≤6000:=by
 obtain ⟨w,hl⟩:=h
 have:=Lg w
 omega
end Go.Proofs.YtpfidgnkokidoaaGreatDoor

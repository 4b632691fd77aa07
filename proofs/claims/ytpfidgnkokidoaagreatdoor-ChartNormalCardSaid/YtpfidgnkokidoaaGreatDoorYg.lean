/- Contracts: charts told: a state, whole. Conditions: sizes. Plain: a state's text is its lines. Conditions: none. Contracts: charts told: a state, as an entry. Conditions: sizes. Plain: how many parts a chart has. Conditions: none. Plain: what both tell of any chart; which charts have a text. Conditions: each theorem's own. -/
import Derived.Test.YtpfidgnkokidoaaGreatDoorXv
import Derived.Test.YtpfidgnkokidoaaGreatDoorYe
import Derived.Test.YtpfidgnkokidoaaGreatDoorWh
namespace Go.Proofs.YtpfidgnkokidoaaGreatDoor
open Go Go.Ev
set_option maxRecDepth 100000
variable (a:Str) (d:Int) (s:Ev.Stat)
def kG:Int:=if 6000<(if 0>d then 0 else d) then 6000 else (if 0>d then 0 else d)
def gY:Str:=b8 [32] (kG d)
def o2:Str:=if s.initial=[] then a++db s.kind++[32]++s.name else a++db s.kind++[32]++s.name++([32]++s.initial)
def o4:Str:=if s.entry=[] then o2 a s++[10] else o2 a s++[10]++(a++[32,101,110,116,114,121,32]++aU s.entry++[10])
def o5:Str:=if s.leave=[] then o4 a s else o4 a s++(a++[32,101,120,105,116,32]++aU s.leave++[10])
theorem CR:0≤kG d∧kG d≤6000:=by
 unfold kG; split <;> split <;> omega
abbrev zXw1:List PI:=[.code [1,1,1,1,1,1,1,1,1,0,1,0,0],.inLoop [1,1,1,1,1,1,1,1,1,0,1,0,0],.inBlock 0,.code [1,1,1,1,1,1,1,1,1,1]]
theorem Cr (nm:Str) (ev:List Str) (vs:List Var) (st:List Ev.Stat) (tr:List Tran) (i:Int) (M:Nat) (h0:0≤i) (hi2:i<st.length) (hM:∀ t∈tr,(jv (gY (ETy.get .stat st i.toNat).depth) t).length≤M) (hl:tr.length≤1000000) (hM2:M≤1000000000000)
 (hn:(ETy.get .stat st i.toNat).name.length≤281474976710656) (hini:(ETy.get .stat st i.toNat).initial.length≤281474976710656) (hen:(aU (ETy.get .stat st i.toNat).entry).length≤281474976710656) (hex:(aU (ETy.get .stat st i.toNat).leave).length≤281474976710656) :
 ak Tryz.prog 28 [.agg [.pd (.str nm),.pd (.lst .str ev),.pd (.lst .var vs),.pd (.lst .stat st),.pd (.lst .tran tr)],.i i] [] (.x (.s (o5 (gY (ETy.get .stat st i.toNat).depth) (ETy.get .stat st i.toNat)++iL (gY (ETy.get .stat st i.toNat).depth) i tr))) []:=by
 refine dg qP Tryz.func28 (let x2:=(ETy.get .stat st (Int.toNat i)); let x1:=(if (6000:Int)<if (0:Int)>Stat.depth x2 then (0:Int) else Stat.depth x2 then (6000:Int) else if (0:Int)>Stat.depth x2 then (0:Int) else Stat.depth x2); let x3:List PI:=zXw1; let x11:=[(32:UInt8),101,110,116,114,121,32]; let x4:=(b8 [(32:UInt8)] x1++x11++aU (Stat.entry x2)++[(10:UInt8)]); let x20:=[(32:UInt8),101,120,105,116,32]; let x5:=(b8 [(32:UInt8)] x1++x20++aU (Stat.leave x2)++[(10:UInt8)]); let x6:=((b8 [(32:UInt8)] x1++x20).length+(aU (Stat.leave x2)).length≤9223372036854775807); let x7:=((b8 [(32:UInt8)] x1++x20++aU (Stat.leave x2)).length+1≤9223372036854775807); let x8:=(b8 [(32:UInt8)] x1); let x9:=(b8 [(32:UInt8)] x1++db (Stat.kind x2)++[(32:UInt8)]++Stat.name x2++([(32:UInt8)]++Stat.initial x2)++[(10:UInt8)]); let x10:=(b8 [(32:UInt8)] x1++db (Stat.kind x2)++[(32:UInt8)]++Stat.name x2++[(10:UInt8)]); let x12:=(b8 [(32:UInt8)] x1++db (Stat.kind x2)++[(32:UInt8)]++Stat.name x2++([(32:UInt8)]++Stat.initial x2)++[(10:UInt8)]++x4); let x13:Nat×SV:=(84,.p (.lst .tran tr)); let x14:=(decide ((↑((Stat.leave x2).length):Int)>0)); let x15:=(b8 [(32:UInt8)] x1++db (Stat.kind x2)++[(32:UInt8)]++Stat.name x2++[(10:UInt8)]++x4); let x16:=(x8.length+6≤9223372036854775807); let x17:=((b8 [(32:UInt8)] x1++x11).length+(aU (Stat.entry x2)).length≤9223372036854775807); let x18:=((b8 [(32:UInt8)] x1++x11++aU (Stat.entry x2)).length+1≤9223372036854775807); let x19:=(b8 [(32:UInt8)] x1++db (Stat.kind x2)++[(32:UInt8)]++Stat.name x2); let x21:=(decide ((↑((Stat.entry x2).length):Int)>0)); let x22:=(x8.length+7≤9223372036854775807); .need ((0:Int)≤i∧i<(st.length:Int)) (.need (((0:Int)≤if (6000:Int)<if (0:Int)>Stat.depth x2 then (0:Int) else Stat.depth x2 then (6000:Int) else if (0:Int)>Stat.depth x2 then (0:Int) else Stat.depth x2)∧x1≤(9223372036854775807:Int)∧1 * Int.toNat x1≤140737488355328) (.need (x8.length+(db (Stat.kind x2)).length≤9223372036854775807) (.need ((b8 [(32:UInt8)] x1++db (Stat.kind x2)).length+1≤9223372036854775807) (.need ((b8 [(32:UInt8)] x1++db (Stat.kind x2)++[(32:UInt8)]).length+(Stat.name x2).length≤9223372036854775807) (.ite (!Stat.initial x2==[]) (.need (1+(Stat.initial x2).length≤9223372036854775807) (.need (x19.length+([(32:UInt8)]++Stat.initial x2).length≤9223372036854775807) (.need ((b8 [(32:UInt8)] x1++db (Stat.kind x2)++[(32:UInt8)]++Stat.name x2++([(32:UInt8)]++Stat.initial x2)).length+1≤9223372036854775807) (.ite x21 (.need x22 (.need x17 (.need x18 (.need (x9.length+x4.length≤9223372036854775807) (.ite x14 (.need x16 (.need x6 (.need x7 (.need (x12.length+x5.length≤9223372036854775807) (.stop x3 { n:=130,fr:=[(8,.p (.str (b8 [(32:UInt8)] x1++db (Stat.kind x2)++[(32:UInt8)]++Stat.name x2++([(32:UInt8)]++Stat.initial x2)++[(10:UInt8)]++x4++x5))),(1,.i i),(4,.p (.str [])),(7,.p (.str x8)),x13,(85,.i tr.length),(86,.i 0)],ck:=[] }))))) (.stop x3 { n:=130,fr:=[(8,.p (.str x12)),(1,.i i),(4,.p (.str [])),(7,.p (.str x8)),x13,(85,.i tr.length),(86,.i 0)],ck:=[] })))))) (.ite x14 (.need x16 (.need x6 (.need x7 (.need (x9.length+x5.length≤9223372036854775807) (.stop x3 { n:=130,fr:=[(8,.p (.str (b8 [(32:UInt8)] x1++db (Stat.kind x2)++[(32:UInt8)]++Stat.name x2++([(32:UInt8)]++Stat.initial x2)++[(10:UInt8)]++x5))),(1,.i i),(4,.p (.str [])),(7,.p (.str x8)),x13,(85,.i tr.length),(86,.i 0)],ck:=[] }))))) (.stop x3 { n:=130,fr:=[(8,.p (.str x9)),(1,.i i),(4,.p (.str [])),(7,.p (.str x8)),x13,(85,.i tr.length),(86,.i 0)],ck:=[] })))))) (.need (x19.length+1≤9223372036854775807) (.ite x21 (.need x22 (.need x17 (.need x18 (.need (x10.length+x4.length≤9223372036854775807) (.ite x14 (.need x16 (.need x6 (.need x7 (.need (x15.length+x5.length≤9223372036854775807) (.stop x3 { n:=130,fr:=[(8,.p (.str (b8 [(32:UInt8)] x1++db (Stat.kind x2)++[(32:UInt8)]++Stat.name x2++[(10:UInt8)]++x4++x5))),(1,.i i),(4,.p (.str [])),(7,.p (.str x8)),x13,(85,.i tr.length),(86,.i 0)],ck:=[] }))))) (.stop x3 { n:=130,fr:=[(8,.p (.str x15)),(1,.i i),(4,.p (.str [])),(7,.p (.str x8)),x13,(85,.i tr.length),(86,.i 0)],ck:=[] })))))) (.ite x14 (.need x16 (.need x6 (.need x7 (.need (x10.length+x5.length≤9223372036854775807) (.stop x3 { n:=130,fr:=[(8,.p (.str (b8 [(32:UInt8)] x1++db (Stat.kind x2)++[(32:UInt8)]++Stat.name x2++[(10:UInt8)]++x5))),(1,.i i),(4,.p (.str [])),(7,.p (.str x8)),x13,(85,.i tr.length),(86,.i 0)],ck:=[] }))))) (.stop x3 { n:=130,fr:=[(8,.p (.str x10)),(1,.i i),(4,.p (.str [])),(7,.p (.str x8)),x13,(85,.i tr.length),(86,.i 0)],ck:=[] })))))))))) fun Γ=>?_
 conv=>zeta
 generalize hs:ETy.get .stat st i.toNat=s at *
 have hdep:=CR s.depth
 have ha:(if (6000:Int)<(if (0:Int)>s.depth then 0 else s.depth) then (6000:Int) else (if (0:Int)>s.depth then 0 else s.depth))=kG s.depth:=rfl
 rw [ha]
 have hal:(gY s.depth).length≤6000:=by
  show (Lib.repeatL [32] (kG s.depth).toNat).length≤6000
  rw [Lib.repeatL_length]
  show (kG s.depth).toNat * 1≤6000
  omega
 have hah:b8 [32] (kG s.depth)=gY s.depth:=rfl
 rw [hah]
 generalize gY s.depth=a at *
 have hk:(db s.kind).length≤10:=by
  unfold db iU
  repeat' split
  all_goals decide
 have key:∀ o:Str,o=o5 a s→o.length≤1000000000000000000→J Tryz.prog 28 (aH Tryz.f28) Γ (Eq2 (.x (.s (o5 a s++iL a i tr))) []) zXw1 ({ n:=130,fr:=[(8,.p (.str o)),(1,.i i),(4,.p (.str [])),(7,.p (.str a)),(84,.p (.lst .tran tr)),(85,.i tr.length),(86,.i (0))],ck:=[] }):=fun o ho hlo=>by
  rw [← ho]
  have:=Mr tr i a M Γ hM hl tr.length 0 o (by omega) (by have:=Nat.mul_le_mul hM2 hl; omega)
  exact this
 refine ⟨⟨h0,hi2⟩,⟨by omega,by omega,by simp; omega⟩,?_,?_,?_,fun hi=>⟨?_,?_,?_,fun he=>⟨?_,?_,?_,?_,fun hx=>⟨?_,?_,?_,?_,?_⟩,fun hx=>?_⟩,fun he=>⟨fun hx=>⟨?_,?_,?_,?_,?_⟩,fun hx=>?_⟩⟩,fun hi=>⟨?_,fun he=>⟨?_,?_,?_,?_,fun hx=>⟨?_,?_,?_,?_,?_⟩,fun hx=>?_⟩,fun he=>⟨fun hx=>⟨?_,?_,?_,?_,?_⟩,fun hx=>?_⟩⟩⟩
 all_goals
  first
  | omega
  | (simp only [ag,ah,aj]; omega)
  | skip
 all_goals
  refine key _ ?_ ?_
  rotate_left
  · simp only [ag,ah,aj]; omega
  have e2:(s.initial=[])=(¬(!s.initial==[])=true):=by simp
  have e4:(s.entry=[])=(¬decide ((s.entry.length:Int)>0)=true):=by simp
  have e5:(s.leave=[])=(¬decide ((s.leave.length:Int)>0)=true):=by simp
  unfold o5 o4 o2
  simp only [e2,e4,e5,hi,he,hx]
  first
  | rfl
  | simp
end Go.Proofs.YtpfidgnkokidoaaGreatDoor
namespace Go.Proofs.YtpfidgnkokidoaaGreatDoor
open Go Go.Ev
variable (d:Nat) (s:Ev.Stat)
theorem sq:dW (d+1)=dW d++[32]:=List.replicate_succ'
theorem tU:∀ n:Nat,Lib.repeatL [32] n=dW n
 | 0=>rfl
 | n+1=>by
   show [32]++Lib.repeatL [32] n=List.replicate (n+1) 32
   rw [tU n]; rfl
theorem Aj {d:Int} (h0:0≤d) (h1:d≤6000):gY d=dW d.toNat:=by
 have e:kG d=d:=by unfold kG; split <;> split <;> omega
 show Lib.repeatL [32] (kG d).toNat=_
 rw [e]; exact tU _
theorem He (t:Tran):gv (d+1,kU t)++[10]=jv (dW d) t:=by
 show dW (d+1)++cr (kU t)++[10]=_
 rw [sq]
 unfold kU jv
 simp [cr,glue]
theorem qL (d:Nat) (i:Int):∀ tr:List Tran,cO ((tr.filter fun t=>t.src==i).map fun t=>(d+1,kU t))=iL (dW d) i tr
 | []=>rfl
 | t :: r=>by
   rw [iL,List.filter_cons]
   by_cases h:t.src=i
   · have hb:(t.src==i)=true:=by rw [beq_iff_eq]; exact h
     rw [if_pos h,if_pos hb,ay]
     show (gv (d+1,kU t)++[10])++cO _=_
     rw [He,qL d i r]
   · have hb:¬(t.src==i)=true:=by rw [beq_iff_eq]; exact h
     rw [if_neg h,if_neg hb,qL d i r]
theorem mv (a b:List (Nat×List Str)):cO (a++b)=cO a++cO b:=by unfold cO; rw [ch]
theorem HA (h:1≤s.kind∧s.kind≤6):gv (d,iE s)++[10]=o2 (dW d) s++[10]:=by
 have e:db s.kind=iU s.kind:=if_pos h
 show dW d++cr (iE s)++[10]=_
 unfold iE o2
 rw [e]
 split <;> simp [cr,glue]
theorem oN (w:Str) (l:List Deed) (hl:l≠[]):cO (dV d w l)=dW d++([32]++w++[32])++aU l++[10]:=by
 unfold dV
 rw [if_neg hl]
 show (dW (d+1)++cr [w,aU l]++[10])++[]=_
 rw [sq]
 simp [cr,glue]
theorem DL (c:Chart) (i:Nat) (s:Ev.Stat) (hk:1≤s.kind∧s.kind≤6) (h0:0≤s.depth) (h1:s.depth≤6000):o5 (gY s.depth) s++iL (gY s.depth) i c.trans=cO (gI c i s):=by
 rw [Aj h0 h1]
 unfold gI
 have e:∀ r,cO ((s.depth.toNat,iE s)::r)=(gv (s.depth.toNat,iE s)++[10])++cO r:=fun _=>rfl
 rw [e,HA _ _ hk,mv,mv,qL]
 unfold o5 o4
 by_cases he:s.entry=[]
 · have b1:cO (dV s.depth.toNat iz s.entry)=[]:=by unfold dV; rw [if_pos he]; rfl
   rw [if_pos he,b1]
   by_cases hx:s.leave=[]
   · have b2:cO (dV s.depth.toNat iW s.leave)=[]:=by unfold dV; rw [if_pos hx]; rfl
     rw [if_pos hx,b2]; simp
   · rw [if_neg hx,oN _ _ _ hx]; simp
 · rw [if_neg he,oN _ _ _ he]
   by_cases hx:s.leave=[]
   · have b2:cO (dV s.depth.toNat iW s.leave)=[]:=by unfold dV; rw [if_pos hx]; rfl
     rw [if_pos hx,b2]; simp
   · rw [if_neg hx,oN _ _ _ hx]; simp
end Go.Proofs.YtpfidgnkokidoaaGreatDoor
namespace Go.Proofs.YtpfidgnkokidoaaGreatDoor
open Go Go.Ev
set_option maxRecDepth 100000
variable (st:List Ev.Stat) (tr:List Tran) (i:Int)
def uG:Prop:=0≤i∧i<st.length∧(∀ t∈tr,(jv (gY (ETy.get .stat st i.toNat).depth) t).length≤1000000000000)∧tr.length≤1000000∧(ETy.get .stat st i.toNat).name.length≤281474976710656∧(ETy.get .stat st i.toNat).initial.length≤281474976710656∧(aU (ETy.get .stat st i.toNat).entry).length≤281474976710656∧(aU (ETy.get .stat st i.toNat).leave).length≤281474976710656
def kr:Str:=o5 (gY (ETy.get .stat st i.toNat).depth) (ETy.get .stat st i.toNat)++iL (gY (ETy.get .stat st i.toNat).depth) i tr
theorem GF (nm:Str) (ev:List Str) (vs:List Var) (st:List Ev.Stat) (tr:List Tran) (i:Int) (h:uG st tr i):ak Tryz.prog 28 [.agg [.pd (.str nm),.pd (.lst .str ev),.pd (.lst .var vs),.pd (.lst .stat st),.pd (.lst .tran tr)],.i i] [] (.x (.s (kr st tr i))) [] :=
 Cr nm ev vs st tr i 1000000000000 h.1 h.2.1 h.2.2.1 h.2.2.2.1 (aw _) h.2.2.2.2.1 h.2.2.2.2.2.1 h.2.2.2.2.2.2.1 h.2.2.2.2.2.2.2
def DW:Ent:=(28,fun
 | [.agg [.pd (.str nm),.pd (.lst .str ev),.pd (.lst .var vs),.pd (.lst .stat st),.pd (.lst .tran tr)],.c (.pd (.int .i64 i))],[]=>some (some (uG st tr i),.x (.c (.pd (.str (kr st tr i)))),[])
 | _,_=>none)
theorem LG:EntOk Tryz.prog DW:=entOk fun vs ck=>by
 unfold DW; dsimp only; split
 · rename_i nm ev vs st tr i; exact entS fun hp=>GF nm ev vs st tr i hp
 · exact entN
theorem Kr (c:Chart) (i:Nat) (h0:0≤(ETy.get .stat c.states i).depth) (h1:(ETy.get .stat c.states i).depth≤6000) (hk:1≤(ETy.get .stat c.states i).kind∧(ETy.get .stat c.states i).kind≤6):kr c.states c.trans i=cO (gI c i (ETy.get .stat c.states i)):=by
 unfold kr
 rw [bf]
 exact DL c i _ hk h0 h1
end Go.Proofs.YtpfidgnkokidoaaGreatDoor
namespace Go.Proofs.YtpfidgnkokidoaaGreatDoor
open Go Go.Ev
set_option maxRecDepth 100000
theorem wZ:∀ ls:List (Nat×List Str),ls.length≤(cO ls).length
 | []=>aw _
 | l::r=>by
   have ih:=wZ r
   have e:cO (l::r)=gv l++[10]++cO r:=by simp [cO]
   rw [e]; simp only [ag,ah,aj]; omega
theorem xU (c:Chart):∀ n,n+((List.range n).flatMap fun (j:Nat)=>c.trans.filter fun t=>t.src==(j:Int)).length≤(dB c n).length
 | 0=>aw _
 | n+1=>by
   have ih:=xU c n
   rw [iP,fw,ch,ag,ag]
   have e:(gI c n (ETy.get .stat c.states n)).length=1+(dV (ETy.get .stat c.states n).depth.toNat iz (ETy.get .stat c.states n).entry).length+(dV (ETy.get .stat c.states n).depth.toNat iW (ETy.get .stat c.states n).leave).length+(c.trans.filter fun t=>t.src==(n:Int)).length:=by
    unfold gI; simp only [ah,ag,bD]; omega
   have e2:(List.flatMap (fun (j:Nat)=>c.trans.filter fun t=>t.src==(j:Int)) [n]).length=(c.trans.filter fun t=>t.src==(n:Int)).length:=by simp
   rw [e,e2]; omega
theorem BG {c:Chart} (w:WfC c):c.events.length+c.vars.length+c.states.length+c.trans.length≤(bW c).length:=by
 have h1:=wZ (iO c)
 have h2:(bW c).length=(cO (iO c)).length:=rfl
 have h3:=xU c c.states.length
 rw [nw c.states.length c.trans w.sorted (fun t ht=>by
  have:=al.1 w.trans t ht
  simp only [gn,ab,decide_eq_true_eq] at this
  exact ⟨this.1,this.2.1⟩)] at h3
 have h4:(iO c).length=1+(c.events.length+(c.vars.length+(dB c c.states.length).length)):=by
  unfold iO; simp only [ah,ag,bD]; omega
 omega
end Go.Proofs.YtpfidgnkokidoaaGreatDoor
namespace Go.Proofs.YtpfidgnkokidoaaGreatDoor
open Go Go.Ev
set_option maxRecDepth 100000
def evT (e:Str):Str:=[101,118,101,110,116,32]++e++[10]
def iX (c:Chart):Str:=[99,104,97,114,116,32]++c.name++[10]
variable {c:Chart} {T:Str} (v:Var)
def pvT:Str:=cr (gg v)++[10]
def rvT:Str:=cr (gU v)++[10]
def pT (c:Chart) (n:Nat):Str:=iX c++c.events.flatMap evT++c.vars.flatMap pvT++(List.range n).flatMap fun (i:Nat)=>kr c.states c.trans i
theorem Da (c:Chart) (n:Nat):pT c (n+1)=pT c n++kr c.states c.trans n:=by
 unfold pT; rw [fw,ch]; simp
theorem BE:∀ (l:List Ev.Stat) (m:Int),dw m l=true→∀ n,n<l.length→(ETy.get .stat l n).depth≤m+n
 | [],_,_,n,h=>by simp at h
 | s::r,m,h,0,_=>by
   simp only [dw,ab,decide_eq_true_eq] at h
   show s.depth≤m+(0:Nat); omega
 | s::r,m,h,n+1,hn=>by
   simp only [dw,ab,decide_eq_true_eq] at h
   have ih:=BE r (s.depth+1) h.2 n (by simpa using hn)
   show (ETy.get .stat r n).depth≤_
   omega
theorem CO {l:List Ev.Stat} {n:Nat} (h:n<l.length):ETy.get .stat l n∈l:=List.mem_of_getElem? (ETy.getElem?_get (t:=.stat) h)
theorem Nb (w:WfC c) {n:Nat} (h:n<c.states.length):(1≤(ETy.get .stat c.states n).kind∧(ETy.get .stat c.states n).kind≤6)∧0≤(ETy.get .stat c.states n).depth∧(ETy.get .stat c.states n).depth≤n∧aO (ETy.get .stat c.states n).name=true∧((ETy.get .stat c.states n).initial=[]∨aO (ETy.get .stat c.states n).initial=true):=by
 have h1:=al.1 w.states _ (CO h)
 have h2:=BE _ 0 w.depths n h
 generalize ETy.get .stat c.states n=s at *
 simp only [eV,ab,decide_eq_true_eq] at h1
 refine ⟨⟨h1.1,h1.2.1⟩,h1.2.2.2.1,by omega,h1.2.2.1,?_⟩
 have h3:=h1.2.2.2.2.1
 cases hk:pz s.kind
 · rw [hk,cond_false] at h3; exact .inl (by simpa using h3)
 · rw [hk,cond_true] at h3; exact .inr h3
theorem IX {v:Var} (h:hI v=true):gg v=gU v:=by
 by_cases h3:v.kind=3
 · simp only [hI,ab] at h
   have e1:(v.kind==1)=false:=by rw [h3]; decide
   have e2:(v.kind==2)=false:=by rw [h3]; decide
   rw [e1,cond_false,e2,cond_false] at h
   simp only [ab] at h
   exact Kj h.2.2.2.2.2.1 h.2.2.2.2.2.2
 · unfold gg gU
   by_cases h2:v.kind=2
   · rw [if_pos h2,if_pos h2]
   · rw [if_neg h2,if_neg h2,if_neg h3,if_neg h3]
theorem yd:∀ l:List Var,l.all hI=true→l.flatMap pvT=cO (l.map fun v=>(0,gU v))∧l.flatMap rvT=cO (l.map fun v=>(0,gU v))
 | [],_=>⟨rfl,rfl⟩
 | v::r,h=>by
   simp only [aE,ab] at h
   have ih:=yd r h.2
   have e:cO ((v::r).map fun v=>(0,gU v))=(cr (gU v)++[10])++cO (r.map fun v=>(0,gU v)):=rfl
   rw [e,bB,bB,ih.1,ih.2]
   unfold pvT rvT
   rw [IX h.1]
   exact ⟨rfl,rfl⟩
theorem si:∀ l:List Str,l.flatMap evT=cO (l.map fun e=>(0,[gl,e]))
 | []=>rfl
 | e::r=>by
   have e1:cO ((e::r).map fun e=>(0,[gl,e]))=(cr [gl,e]++[10])++cO (r.map fun e=>(0,[gl,e])):=rfl
   rw [e1,bB,si r]
   congr 1
   simp [evT,cr,glue]
def oZ (c:Chart):List (Nat×List Str):=(0,[ir,c.name])::(c.events.map (fun e=>(0,[gl,e]))++c.vars.map (fun v=>(0,gU v)))
theorem Jh (w:WfC c):iX c++c.events.flatMap evT++c.vars.flatMap pvT=cO (oZ c)∧iX c++c.events.flatMap evT++c.vars.flatMap rvT=cO (oZ c):=by
 have e:cO (oZ c)=(cr [ir,c.name]++[10])++cO (c.events.map (fun e=>(0,[gl,e]))++c.vars.map (fun v=>(0,gU v))):=rfl
 have eh:iX c=cr [ir,c.name]++[10]:=by simp [iX,cr,glue]
 obtain ⟨h1,h2⟩:=yd c.vars w.vars
 rw [e,mv,← si,eh,h1,h2,aX]
 exact ⟨rfl,rfl⟩
theorem AN {c:Chart} (w:WfC c) (hn:c.states.length≤6000):∀ n,n≤c.states.length→pT c n=cO (oZ c++dB c n)
 | 0,_=>by
   show iX c++c.events.flatMap evT++c.vars.flatMap pvT++[]=cO (oZ c++[])
   rw [bt,bt]; exact (Jh w).1
 | n+1,h=>by
   obtain ⟨h1,h2,h3,_⟩:=Nb w (n:=n) (by omega)
   rw [Da,AN w hn n (by omega),iP,← aX,mv _ (gI c n _),Kr c n h2 (by omega) h1]
theorem su (c:Chart):iO c=oZ c++dB c c.states.length:=by simp [iO,oZ]
theorem uI (c:Chart):∀ (n m:Nat),n≤m→(cO (oZ c++dB c n)).length≤(cO (oZ c++dB c m)).length
 | n,0,h=>by rw [show n=0 by omega]; exact aw _
 | n,m+1,h=>by
   by_cases hn:n=m+1
   · rw [hn]; exact aw _
   · have ih:=uI c n m (by omega)
     rw [iP,← aX,mv _ (gI c m _),ag]
     omega
/-! ### the program's answers -/
theorem LF {n:Nat} (hn:n≤c.states.length) (hs:c.states.length≤6000) (h:6000<(pT c n).length):¬okC c:=fun ⟨w,hl⟩=>by
 rw [AN w hs n hn] at h
 have h2:=uI c n _ hn
 rw [← su] at h2
 have h3:(bW c).length=(cO (iO c)).length:=rfl
 omega
theorem Nk (w:WfC c) (hs:c.states.length≤6000):pT c c.states.length=bW c:=by
 rw [AN w hs _ (aw _),← su]; rfl
theorem uH (e:okC c→T=bW c):okC c→eL T∧(aq T).1=c:=fun h=>by
 rw [e h]
 have:=CI h
 unfold eL
 rw [this]; exact ⟨rfl,rfl⟩
theorem MU (e:okC c→T=bW c) (h:¬eL T):¬okC c:=fun k=>h (uH e k).1
theorem En (e:okC c→T=bW c) (h:eR c (aq T).1=false):¬okC c:=fun k=>by
 rw [(uH e k).2,uQ] at h; cases h
theorem Km (e:WfC c→T=bW c) (hr:eL T) (h:eR c (aq T).1=true):okC c∧T=bW c:=by
 have hc:=(xm _ _).1 h
 have hw:=(tm hr).1
 rw [← hc] at hw
 have h6:=(kN hr).1
 refine ⟨⟨hw,?_⟩,e hw⟩
 rw [← e hw]; exact h6
/-! ### how many lines -/
theorem J0 (h:okC c):c.events.length+c.vars.length+c.states.length+c.trans.length≤6000:=by
 obtain ⟨w,hl⟩:=h
 have:=BG w
 omega
end Go.Proofs.YtpfidgnkokidoaaGreatDoor

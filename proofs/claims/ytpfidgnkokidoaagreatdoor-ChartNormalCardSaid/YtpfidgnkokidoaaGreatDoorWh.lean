/- Plain: charts that are read. Conditions: each theorem's own. Contracts: the blocks of a chart that is read, under whichever numbers. Conditions: none. Contracts: the program's reader of charts, its lines. Conditions: sizes. -/
import Derived.Test.YtpfidgnkokidoaaGreatDoorWf
import Derived.Test.YtpfidgnkokidoaaGreatDoorDa
import Derived.Test.YtpfidgnkokidoaaGreatDoorVc
import Derived.Test.YtpfidgnkokidoaaGreatDoorNc
namespace Go.Proofs.YtpfidgnkokidoaaGreatDoor
open Go Go.Ev
set_option maxRecDepth 100000
theorem Ah:∀ (ls:List Str) (c:Chart) (k:Nat) (c':Chart),k≠0→Pre c→dq c k ls=(c',none)→Pre c'∧c'.name=c.name∧nK c'≤nK c+(ls.map fun l=>l.length+1).sum
 | [],c,k,c',_,p,h=>by
   simp only [dq,ae,and_true] at h; subst h
   exact ⟨p,rfl,by simp⟩
 | l :: r,c,k,c',hk,p,h=>by
   simp only [dq] at h
   cases e:dK c k l with
   | none=>rw [e] at h; simp at h
   | some c1 =>
     rw [e] at h
     have e2:=e
     unfold dK at e2
     split at e2
     · obtain ⟨g1,g2,g3⟩:=HU p e2
       obtain ⟨q1,q2,q3⟩:=Ah r c1 (k+1) c' (by omega) g1 h
       refine ⟨q1,q2.trans g2,?_⟩
       simp only [ay,eI]; omega
     · cases e2
theorem qA:∀ (s cur:Str),((dC cur s).map fun l=>l.length+1).sum=cur.length+s.length+1
 | [],cur=>by simp [dC]
 | c::r,cur=>by
   rw [dC]
   cases h:c==10
   · rw [cond_false,qA r]; simp only [ag,ah,aj]; omega
   · rw [cond_true,ay,eI,qA r]; simp only [ah,aj]; omega
theorem tm {s:Str} (h:eL s):WfC (aq s).1∧(bW (aq s).1).length≤s.length+1:=by
 obtain ⟨_,e,_⟩:=kN h
 generalize (aq s).1=c at e
 have hsum:((dF s).map fun l=>l.length+1).sum≤s.length+1:=by
  have h1:=qA (jN s) []
  have h2:=ka s
  show ((dC [] (jN s)).map fun l=>l.length+1).sum≤_
  rw [h1]; simp only [aj]; omega
 cases hl:dF s with
 | nil=>have:=B4 s; rw [hl] at this; simp at this
 | cons l r =>
   rw [hl] at e hsum
   simp only [dq] at e
   cases e1:dK c7 0 l with
   | none=>rw [e1] at e; simp at e
   | some c1 =>
     rw [e1] at e
     unfold dK at e1
     split at e1
     · rw [if_pos rfl] at e1
       unfold rF at e1
       obtain ⟨⟨g1,g2,g3,g4⟩,rfl⟩:=cJ e1
       have p:Pre { c7 with name:=an (bq l) 1 }:=⟨rfl,rfl,rfl,rfl,rfl,.nil⟩
       obtain ⟨q1,q2,q3⟩:=Ah r _ 1 c (by decide) p e
       have q2':c.name=an (bq l) 1:=q2
       refine ⟨⟨by rw [q2']; exact g4,q1.1,q1.2,q1.3,q1.4,q1.5,q1.6⟩,?_⟩
       rw [Ho]
       have h0:nK { c7 with name:=an (bq l) 1 }=0:=rfl
       rw [h0] at q3
       have h3:=iG (l:=l) (ws:=[ir,c.name]) (by rw [qV g2,g3,q2']; exact kg _)
       rw [g1] at h3
       simp only [ay,eI] at hsum
       omega
     · cases e1
def okC (c:Chart):Prop:=WfC c∧(bW c).length≤6000
theorem CI {c:Chart} (h:okC c):aq (bW c)=(c,0,0):=Fv h.1 h.2
variable (c:Chart) {f:FuncId} {fn:Func} {args:List SX} {ck:List Chunk} (d:Int)
abbrev JV:List Chunk:=[Chunk.cells [SC.pd (PD.str c.name),SC.own 1,SC.own 2,SC.own 3,SC.own 4,SC.i d] 45,Chunk.own 9 ETy.str c.events,Chunk.own 61 ETy.var c.vars,Chunk.own 64 ETy.stat c.states,Chunk.own 68 ETy.tran c.trans]
abbrev N8:List Chunk:=[Chunk.cells [SC.pd (PD.str c.name),SC.own 5,SC.own 2,SC.own 3,SC.own 4,SC.i d] 45,Chunk.dead,Chunk.own 61 ETy.var c.vars,Chunk.own 64 ETy.stat c.states,Chunk.own 68 ETy.tran c.trans,Chunk.own 9 ETy.str c.events]
abbrev Oy:List Chunk:=[Chunk.cells [SC.pd (PD.str c.name),SC.own 1,SC.own 5,SC.own 3,SC.own 4,SC.i d] 45,Chunk.own 9 ETy.str c.events,Chunk.dead,Chunk.own 64 ETy.stat c.states,Chunk.own 68 ETy.tran c.trans,Chunk.own 61 ETy.var c.vars]
abbrev Oh:List Chunk:=[Chunk.cells [SC.pd (PD.str c.name),SC.own 1,SC.own 2,SC.own 5,SC.own 4,SC.i d] 45,Chunk.own 9 ETy.str c.events,Chunk.own 61 ETy.var c.vars,Chunk.dead,Chunk.own 68 ETy.tran c.trans,Chunk.own 64 ETy.stat c.states]
abbrev Om:List Chunk:=[Chunk.cells [SC.pd (PD.str c.name),SC.own 1,SC.own 2,SC.own 3,SC.own 5,SC.i d] 45,Chunk.own 9 ETy.str c.events,Chunk.own 61 ETy.var c.vars,Chunk.own 64 ETy.stat c.states,Chunk.dead,Chunk.own 68 ETy.tran c.trans]
abbrev ckR:List Chunk:=[Chunk.cells [SC.pd (PD.str c.name),SC.own 5,SC.own 6,SC.own 7,SC.own 8,SC.i d] 45,Chunk.dead,Chunk.dead,Chunk.dead,Chunk.dead,Chunk.own 9 ETy.str c.events,Chunk.own 61 ETy.var c.vars,Chunk.own 64 ETy.stat c.states,Chunk.own 68 ETy.tran c.trans]
abbrev DI:List Chunk:=[Chunk.cells [SC.pd (PD.str c.name),SC.own 1,SC.own 2,SC.own 3,SC.own 4] 27,Chunk.own 9 ETy.str c.events,Chunk.own 61 ETy.var c.vars,Chunk.own 64 ETy.stat c.states,Chunk.own 68 ETy.tran c.trans]
abbrev Oo:List Chunk:=[Chunk.cells [SC.pd (PD.str c.name),SC.own 5,SC.own 2,SC.own 3,SC.own 4] 27,Chunk.dead,Chunk.own 61 ETy.var c.vars,Chunk.own 64 ETy.stat c.states,Chunk.own 68 ETy.tran c.trans,Chunk.own 9 ETy.str c.events]
abbrev NR:List Chunk:=[Chunk.cells [SC.pd (PD.str c.name),SC.own 1,SC.own 5,SC.own 3,SC.own 4] 27,Chunk.own 9 ETy.str c.events,Chunk.dead,Chunk.own 64 ETy.stat c.states,Chunk.own 68 ETy.tran c.trans,Chunk.own 61 ETy.var c.vars]
abbrev Jm:List Chunk:=[Chunk.cells [SC.pd (PD.str c.name),SC.own 1,SC.own 2,SC.own 5,SC.own 4] 27,Chunk.own 9 ETy.str c.events,Chunk.own 61 ETy.var c.vars,Chunk.dead,Chunk.own 68 ETy.tran c.trans,Chunk.own 64 ETy.stat c.states]
abbrev OG:List Chunk:=[Chunk.cells [SC.pd (PD.str c.name),SC.own 1,SC.own 2,SC.own 3,SC.own 5] 27,Chunk.own 9 ETy.str c.events,Chunk.own 61 ETy.var c.vars,Chunk.own 64 ETy.stat c.states,Chunk.dead,Chunk.own 68 ETy.tran c.trans]
abbrev ckD:List Chunk:=[Chunk.cells [SC.pd (PD.str c.name),SC.own 5,SC.own 6,SC.own 7,SC.own 8] 27,Chunk.dead,Chunk.dead,Chunk.dead,Chunk.dead,Chunk.own 9 ETy.str c.events,Chunk.own 61 ETy.var c.vars,Chunk.own 64 ETy.stat c.states,Chunk.own 68 ETy.tran c.trans]
def F1:Nat→Nat
 | 1=>5
 | 2=>6
 | 3=>7
 | 4=>8
 | n=>n
def FT:Nat→Nat
 | 5=>1
 | 6=>2
 | 7=>3
 | 8=>4
 | n=>n
def DS:Nat→Nat
 | 5=>5
 | 2=>6
 | 3=>7
 | 4=>8
 | n=>n
def EB:Nat→Nat
 | 5=>5
 | 6=>2
 | 7=>3
 | 8=>4
 | n=>n
def DJ:Nat→Nat
 | 1=>5
 | 5=>6
 | 3=>7
 | 4=>8
 | n=>n
def FQ:Nat→Nat
 | 5=>1
 | 6=>5
 | 7=>3
 | 8=>4
 | n=>n
def Ex:Nat→Nat
 | 1=>5
 | 2=>6
 | 5=>7
 | 4=>8
 | n=>n
def Dv:Nat→Nat
 | 5=>1
 | 6=>2
 | 7=>5
 | 8=>4
 | n=>n
def D9:Nat→Nat
 | 1=>5
 | 2=>6
 | 3=>7
 | 5=>8
 | n=>n
def FK:Nat→Nat
 | 5=>1
 | 6=>2
 | 7=>3
 | 8=>5
 | n=>n
theorem Pu:RnW F1 FT 5 (JV c d) (ckR c d):=by
 refine ⟨fun j x' h=>?_,fun j hj=>?_⟩
 · match j,h with
   | 0,h=>right; exact ⟨_,rfl,(au h).symm,rfl,by simp [Chunk.refs,SC.refs,F1,FT]⟩
   | 1,h=>left; simpa using h.symm
   | 2,h=>left; simpa using h.symm
   | 3,h=>left; simpa using h.symm
   | 4,h=>left; simpa using h.symm
   | 5,h=>right; exact ⟨_,rfl,(au h).symm,rfl,by simp [Chunk.refs]⟩
   | 6,h=>right; exact ⟨_,rfl,(au h).symm,rfl,by simp [Chunk.refs]⟩
   | 7,h=>right; exact ⟨_,rfl,(au h).symm,rfl,by simp [Chunk.refs]⟩
   | 8,h=>right; exact ⟨_,rfl,(au h).symm,rfl,by simp [Chunk.refs]⟩
   | j+9,h=>simp at h
 · match j,hj with
   | 0,_=>rfl
   | 1,_=>rfl
   | 2,_=>rfl
   | 3,_=>rfl
   | 4,_=>rfl
theorem Pl:RnW DS EB 5 (N8 c d) (ckR c d):=by
 refine ⟨fun j x' h=>?_,fun j hj=>?_⟩
 · match j,h with
   | 0,h=>right; exact ⟨_,rfl,(au h).symm,rfl,by simp [Chunk.refs,SC.refs,DS,EB]⟩
   | 1,h=>left; simpa using h.symm
   | 2,h=>left; simpa using h.symm
   | 3,h=>left; simpa using h.symm
   | 4,h=>left; simpa using h.symm
   | 5,h=>right; exact ⟨_,rfl,(au h).symm,rfl,by simp [Chunk.refs]⟩
   | 6,h=>right; exact ⟨_,rfl,(au h).symm,rfl,by simp [Chunk.refs]⟩
   | 7,h=>right; exact ⟨_,rfl,(au h).symm,rfl,by simp [Chunk.refs]⟩
   | 8,h=>right; exact ⟨_,rfl,(au h).symm,rfl,by simp [Chunk.refs]⟩
   | j+9,h=>simp at h
 · match j,hj with
   | 0,_=>rfl
   | 1,_=>rfl
   | 2,_=>rfl
   | 3,_=>rfl
   | 4,_=>rfl
theorem Po:RnW DJ FQ 5 (Oy c d) (ckR c d):=by
 refine ⟨fun j x' h=>?_,fun j hj=>?_⟩
 · match j,h with
   | 0,h=>right; exact ⟨_,rfl,(au h).symm,rfl,by simp [Chunk.refs,SC.refs,DJ,FQ]⟩
   | 1,h=>left; simpa using h.symm
   | 2,h=>left; simpa using h.symm
   | 3,h=>left; simpa using h.symm
   | 4,h=>left; simpa using h.symm
   | 5,h=>right; exact ⟨_,rfl,(au h).symm,rfl,by simp [Chunk.refs]⟩
   | 6,h=>right; exact ⟨_,rfl,(au h).symm,rfl,by simp [Chunk.refs]⟩
   | 7,h=>right; exact ⟨_,rfl,(au h).symm,rfl,by simp [Chunk.refs]⟩
   | 8,h=>right; exact ⟨_,rfl,(au h).symm,rfl,by simp [Chunk.refs]⟩
   | j+9,h=>simp at h
 · match j,hj with
   | 0,_=>rfl
   | 1,_=>rfl
   | 2,_=>rfl
   | 3,_=>rfl
   | 4,_=>rfl
theorem Pt:RnW Ex Dv 5 (Oh c d) (ckR c d):=by
 refine ⟨fun j x' h=>?_,fun j hj=>?_⟩
 · match j,h with
   | 0,h=>right; exact ⟨_,rfl,(au h).symm,rfl,by simp [Chunk.refs,SC.refs,Ex,Dv]⟩
   | 1,h=>left; simpa using h.symm
   | 2,h=>left; simpa using h.symm
   | 3,h=>left; simpa using h.symm
   | 4,h=>left; simpa using h.symm
   | 5,h=>right; exact ⟨_,rfl,(au h).symm,rfl,by simp [Chunk.refs]⟩
   | 6,h=>right; exact ⟨_,rfl,(au h).symm,rfl,by simp [Chunk.refs]⟩
   | 7,h=>right; exact ⟨_,rfl,(au h).symm,rfl,by simp [Chunk.refs]⟩
   | 8,h=>right; exact ⟨_,rfl,(au h).symm,rfl,by simp [Chunk.refs]⟩
   | j+9,h=>simp at h
 · match j,hj with
   | 0,_=>rfl
   | 1,_=>rfl
   | 2,_=>rfl
   | 3,_=>rfl
   | 4,_=>rfl
theorem Pm:RnW D9 FK 5 (Om c d) (ckR c d):=by
 refine ⟨fun j x' h=>?_,fun j hj=>?_⟩
 · match j,h with
   | 0,h=>right; exact ⟨_,rfl,(au h).symm,rfl,by simp [Chunk.refs,SC.refs,D9,FK]⟩
   | 1,h=>left; simpa using h.symm
   | 2,h=>left; simpa using h.symm
   | 3,h=>left; simpa using h.symm
   | 4,h=>left; simpa using h.symm
   | 5,h=>right; exact ⟨_,rfl,(au h).symm,rfl,by simp [Chunk.refs]⟩
   | 6,h=>right; exact ⟨_,rfl,(au h).symm,rfl,by simp [Chunk.refs]⟩
   | 7,h=>right; exact ⟨_,rfl,(au h).symm,rfl,by simp [Chunk.refs]⟩
   | 8,h=>right; exact ⟨_,rfl,(au h).symm,rfl,by simp [Chunk.refs]⟩
   | j+9,h=>simp at h
 · match j,hj with
   | 0,_=>rfl
   | 1,_=>rfl
   | 2,_=>rfl
   | 3,_=>rfl
   | 4,_=>rfl
def IsR:Out:=fun v k=>v = .x (.b true)∧Rn 5 k (ckR c d)
theorem IsR.of0 {c:Chart} {d:Int} {k:List Chunk} (h:k=JV c d):IsR c d (.x (.b true)) k:=⟨rfl,by rw [h]; exact ⟨_,_,Pu c d⟩⟩
theorem IsR.of1 {c:Chart} {d:Int} {k:List Chunk} (h:k=N8 c d):IsR c d (.x (.b true)) k:=⟨rfl,by rw [h]; exact ⟨_,_,Pl c d⟩⟩
theorem IsR.of2 {c:Chart} {d:Int} {k:List Chunk} (h:k=Oy c d):IsR c d (.x (.b true)) k:=⟨rfl,by rw [h]; exact ⟨_,_,Po c d⟩⟩
theorem IsR.of3 {c:Chart} {d:Int} {k:List Chunk} (h:k=Oh c d):IsR c d (.x (.b true)) k:=⟨rfl,by rw [h]; exact ⟨_,_,Pt c d⟩⟩
theorem IsR.of4 {c:Chart} {d:Int} {k:List Chunk} (h:k=Om c d):IsR c d (.x (.b true)) k:=⟨rfl,by rw [h]; exact ⟨_,_,Pm c d⟩⟩
theorem ak.isR {c:Chart} {d:Int} (hf:Tryz.prog.funcs[f]?=some fn) (hb:fn.body.isSome=true) (hn:Nat.ble args.length fn.ntmps=true) (hl:ck.length=5)
 (h:∀ Γ,J Tryz.prog f (aH fn) Γ (IsR c d) [.code []] (cL fn.ntmps args ck)):ak Tryz.prog f args ck (.x (.b true)) (ckR c d) :=
 ak.renum hf hb hn rfl fun Γ=>J.mono (fun v c q=>⟨q.1,by rw [hl]; exact q.2⟩) (h Γ)
theorem Pi:RnW F1 FT 5 (DI c) (ckD c):=by
 refine ⟨fun j x' h=>?_,fun j hj=>?_⟩
 · match j,h with
   | 0,h=>right; exact ⟨_,rfl,(au h).symm,rfl,by simp [Chunk.refs,SC.refs,F1,FT]⟩
   | 1,h=>left; simpa using h.symm
   | 2,h=>left; simpa using h.symm
   | 3,h=>left; simpa using h.symm
   | 4,h=>left; simpa using h.symm
   | 5,h=>right; exact ⟨_,rfl,(au h).symm,rfl,by simp [Chunk.refs]⟩
   | 6,h=>right; exact ⟨_,rfl,(au h).symm,rfl,by simp [Chunk.refs]⟩
   | 7,h=>right; exact ⟨_,rfl,(au h).symm,rfl,by simp [Chunk.refs]⟩
   | 8,h=>right; exact ⟨_,rfl,(au h).symm,rfl,by simp [Chunk.refs]⟩
   | j+9,h=>simp at h
 · match j,hj with
   | 0,_=>rfl
   | 1,_=>rfl
   | 2,_=>rfl
   | 3,_=>rfl
   | 4,_=>rfl
theorem Pn:RnW DS EB 5 (Oo c) (ckD c):=by
 refine ⟨fun j x' h=>?_,fun j hj=>?_⟩
 · match j,h with
   | 0,h=>right; exact ⟨_,rfl,(au h).symm,rfl,by simp [Chunk.refs,SC.refs,DS,EB]⟩
   | 1,h=>left; simpa using h.symm
   | 2,h=>left; simpa using h.symm
   | 3,h=>left; simpa using h.symm
   | 4,h=>left; simpa using h.symm
   | 5,h=>right; exact ⟨_,rfl,(au h).symm,rfl,by simp [Chunk.refs]⟩
   | 6,h=>right; exact ⟨_,rfl,(au h).symm,rfl,by simp [Chunk.refs]⟩
   | 7,h=>right; exact ⟨_,rfl,(au h).symm,rfl,by simp [Chunk.refs]⟩
   | 8,h=>right; exact ⟨_,rfl,(au h).symm,rfl,by simp [Chunk.refs]⟩
   | j+9,h=>simp at h
 · match j,hj with
   | 0,_=>rfl
   | 1,_=>rfl
   | 2,_=>rfl
   | 3,_=>rfl
   | 4,_=>rfl
theorem Pq:RnW DJ FQ 5 (NR c) (ckD c):=by
 refine ⟨fun j x' h=>?_,fun j hj=>?_⟩
 · match j,h with
   | 0,h=>right; exact ⟨_,rfl,(au h).symm,rfl,by simp [Chunk.refs,SC.refs,DJ,FQ]⟩
   | 1,h=>left; simpa using h.symm
   | 2,h=>left; simpa using h.symm
   | 3,h=>left; simpa using h.symm
   | 4,h=>left; simpa using h.symm
   | 5,h=>right; exact ⟨_,rfl,(au h).symm,rfl,by simp [Chunk.refs]⟩
   | 6,h=>right; exact ⟨_,rfl,(au h).symm,rfl,by simp [Chunk.refs]⟩
   | 7,h=>right; exact ⟨_,rfl,(au h).symm,rfl,by simp [Chunk.refs]⟩
   | 8,h=>right; exact ⟨_,rfl,(au h).symm,rfl,by simp [Chunk.refs]⟩
   | j+9,h=>simp at h
 · match j,hj with
   | 0,_=>rfl
   | 1,_=>rfl
   | 2,_=>rfl
   | 3,_=>rfl
   | 4,_=>rfl
theorem Pk:RnW Ex Dv 5 (Jm c) (ckD c):=by
 refine ⟨fun j x' h=>?_,fun j hj=>?_⟩
 · match j,h with
   | 0,h=>right; exact ⟨_,rfl,(au h).symm,rfl,by simp [Chunk.refs,SC.refs,Ex,Dv]⟩
   | 1,h=>left; simpa using h.symm
   | 2,h=>left; simpa using h.symm
   | 3,h=>left; simpa using h.symm
   | 4,h=>left; simpa using h.symm
   | 5,h=>right; exact ⟨_,rfl,(au h).symm,rfl,by simp [Chunk.refs]⟩
   | 6,h=>right; exact ⟨_,rfl,(au h).symm,rfl,by simp [Chunk.refs]⟩
   | 7,h=>right; exact ⟨_,rfl,(au h).symm,rfl,by simp [Chunk.refs]⟩
   | 8,h=>right; exact ⟨_,rfl,(au h).symm,rfl,by simp [Chunk.refs]⟩
   | j+9,h=>simp at h
 · match j,hj with
   | 0,_=>rfl
   | 1,_=>rfl
   | 2,_=>rfl
   | 3,_=>rfl
   | 4,_=>rfl
theorem Pj:RnW D9 FK 5 (OG c) (ckD c):=by
 refine ⟨fun j x' h=>?_,fun j hj=>?_⟩
 · match j,h with
   | 0,h=>right; exact ⟨_,rfl,(au h).symm,rfl,by simp [Chunk.refs,SC.refs,D9,FK]⟩
   | 1,h=>left; simpa using h.symm
   | 2,h=>left; simpa using h.symm
   | 3,h=>left; simpa using h.symm
   | 4,h=>left; simpa using h.symm
   | 5,h=>right; exact ⟨_,rfl,(au h).symm,rfl,by simp [Chunk.refs]⟩
   | 6,h=>right; exact ⟨_,rfl,(au h).symm,rfl,by simp [Chunk.refs]⟩
   | 7,h=>right; exact ⟨_,rfl,(au h).symm,rfl,by simp [Chunk.refs]⟩
   | 8,h=>right; exact ⟨_,rfl,(au h).symm,rfl,by simp [Chunk.refs]⟩
   | j+9,h=>simp at h
 · match j,hj with
   | 0,_=>rfl
   | 1,_=>rfl
   | 2,_=>rfl
   | 3,_=>rfl
   | 4,_=>rfl
def IsD:Out:=fun v k=>v = .x (.b true)∧Rn 5 k (ckD c)
theorem IsD.of0 {c:Chart} {k:List Chunk} (h:k=DI c):IsD c (.x (.b true)) k:=⟨rfl,by rw [h]; exact ⟨_,_,Pi c⟩⟩
theorem IsD.of1 {c:Chart} {k:List Chunk} (h:k=Oo c):IsD c (.x (.b true)) k:=⟨rfl,by rw [h]; exact ⟨_,_,Pn c⟩⟩
theorem IsD.of2 {c:Chart} {k:List Chunk} (h:k=NR c):IsD c (.x (.b true)) k:=⟨rfl,by rw [h]; exact ⟨_,_,Pq c⟩⟩
theorem IsD.of3 {c:Chart} {k:List Chunk} (h:k=Jm c):IsD c (.x (.b true)) k:=⟨rfl,by rw [h]; exact ⟨_,_,Pk c⟩⟩
theorem IsD.of4 {c:Chart} {k:List Chunk} (h:k=OG c):IsD c (.x (.b true)) k:=⟨rfl,by rw [h]; exact ⟨_,_,Pj c⟩⟩
theorem ak.isD {c:Chart} (hf:Tryz.prog.funcs[f]?=some fn) (hb:fn.body.isSome=true) (hn:Nat.ble args.length fn.ntmps=true) (hl:ck.length=5)
 (h:∀ Γ,J Tryz.prog f (aH fn) Γ (IsD c) [.code []] (cL fn.ntmps args ck)):ak Tryz.prog f args ck (.x (.b true)) (ckD c) :=
 ak.renum hf hb hn rfl fun Γ=>J.mono (fun v c q=>⟨q.1,by rw [hl]; exact q.2⟩) (h Γ)
def got (o:Option Chart):Chart:=o.getD ⟨[],[],[],[],[]⟩
theorem IT {o:Option Chart} {c:Chart} (h:o=some c):got o=c:=by rw [h]; rfl
end Go.Proofs.YtpfidgnkokidoaaGreatDoor
namespace Go.Proofs.YtpfidgnkokidoaaGreatDoor
open Go Go.Ev
set_option maxRecDepth 100000
variable (c:Chart) (d:Int) {f:FuncId} {fn:Func} {args:List SX} (w:List Str) {ck:List Chunk} {n:Nat}
abbrev rdK:List Chunk:=JV c d
def okW:Prop:=∀ x∈w,x.length≤6000∧x.all (fun c=>decide (c.toNat<128))=true
theorem get_mem {w:List Str} {k:Nat} (h:k<w.length):an w k∈w:=List.mem_of_getElem? (ETy.getElem?_get (t:=.str) h)
theorem okW.at {w:List Str} (hw:okW w) {k:Nat} (h:k<w.length):(an w k).length≤6000∧(an w k).all (fun c=>decide (c.toNat<128))=true:=hw _ (get_mem h)
def bK (o:Option Chart) (d:Int):Out:=fun v k=>(∀ c',o=some c'→IsR c' d v k)∧(o=none→v = .x (.b false))
theorem bK.yes {o:Option Chart} {c':Chart} {d:Int} {v:SV} {k:List Chunk} (h:o=some c') (hr:IsR c' d v k):bK o d v k:=⟨fun c2 h2=>(by rw [h] at h2; cases h2; exact hr),fun h2=>(by rw [h] at h2; cases h2)⟩
theorem bK.no {o:Option Chart} {d:Int} {k:List Chunk} (h:o=none):bK o d (.x (.b false)) k:=⟨fun c2 h2=>(by rw [h] at h2; cases h2),fun _=>rfl⟩
theorem step_ok {o:Option Chart} {d:Int} (hf:Tryz.prog.funcs[f]?=some fn) (hb:fn.body.isSome=true) (hn:Nat.ble args.length fn.ntmps=true) (hl:ck.length=5)
 (h:∀ Γ,J Tryz.prog f (aH fn) Γ (bK o d) [.code []] (cL fn.ntmps args ck)) (ho:o.isSome=true):ak Tryz.prog f args ck (.x (.b true)) (ckR (got o) d):=by
 obtain ⟨c',rfl⟩:=dM.1 ho
 exact ak.isR hf hb hn hl fun Γ=>J.mono (fun v k q=>q.1 c' rfl) (h Γ)
theorem kK {o:Option Chart} {d:Int} (hf:Tryz.prog.funcs[f]?=some fn) (hb:fn.body.isSome=true) (hn:Nat.ble args.length fn.ntmps=true)
 (h:∀ Γ,J Tryz.prog f (aH fn) Γ (bK o d) [.code []] (cL fn.ntmps args ck)) (ho:o.isSome=false):ak Tryz.prog f args ck (.x (.b false)) [.dead,.dead,.dead,.dead,.dead] :=
 ak.lost 5 hf hb hn rfl fun Γ=>J.mono (fun v k q=>q.2 (by cases o with | none=>rfl | some c=>cases ho)) (h Γ)
theorem iv {α:Type} {p:Prop} {inst:Decidable p} {x:α} (h:¬p):(if p then some x else none)=none:=if_neg h
def yL:Cfg:=⟨bu,[hG]⟩
theorem tf:ai Tryz.prog yL.tab:=(ai.cons fH ai.nil)
abbrev zWh1 (a:Chart) (b:Int):List Chunk:=[.cells [.pd (.str a.name),.own 1,.own 2,.own 3,.own 4,.i b] 45,.own 9 .str a.events,.own 61 .var a.vars,.own 64 .stat a.states,.own 68 .tran a.trans]
theorem G1 (n:Int) (hn:1≤n):ak Tryz.prog 77 [.c (.loc 0 0),.l .str w,.i n] (rdK c d) (.x (.b (eG c d w n))) (rdK c d):=by
 refine dg tf Tryz.func77 (.need ((d==(0:Int)&&(c.states.length:Int)==0&&(w.length:Int)==n)=true→(0:Int)≤0∧(0:Int)<(w.length:Int)) (.ret (.p (.bool (d==(0:Int)&&(c.states.length:Int)==0&&(w.length:Int)==n&&aO (ETy.get .str w 0)))) (zWh1 c d))) fun Γ=>?_
 refine ⟨fun h=>?_,rfl,rfl⟩
 simp only [ab,beq_iff_eq] at h
 omega
def pj:Ent:=(77,fun
 | [.c (.loc 0 0),.c (.pd (.lst .str w)),.c (.pd (.int .i64 n))],[.cells [.pd (.str nm),.own 1,.own 2,.own 3,.own 4,.pd (.int .i64 d)] 45,.own 9 .str ev,.own 61 .var vs,.own 64 .stat st,.own 68 .tran tr]=>some (some (1≤n),.x (.c (.pd (.bool (eG ⟨nm,ev,vs,st,tr⟩ d w n)))),[.cells [.pd (.str nm),.own 1,.own 2,.own 3,.own 4,.pd (.int .i64 d)] 45,.own 9 .str ev,.own 61 .var vs,.own 64 .stat st,.own 68 .tran tr])
 | _,_=>none)
theorem pf:EntOk Tryz.prog pj:=entOk fun vs ck=>by
 unfold pj; dsimp only; split
 · rename_i w n nm d ev vs st tr; exact entS fun hp=>G1 ⟨nm,ev,vs,st,tr⟩ d w n hp
 · exact entN
def yZ:Cfg:=⟨bu,[pj]⟩
theorem wV:ai Tryz.prog yZ.tab:=(ai.cons pf ai.nil)
theorem NQ (h:n≤100000):room n 16:=by unfold room maxLen; omega
theorem qn (h:n≤100000):room n 64:=by unfold room maxLen; omega
theorem mH (h:n≤100000):room n 88:=by unfold room maxLen; omega
theorem uy (h:n≤100000):room n 96:=by unfold room maxLen; omega
/-! ### events -/
theorem Li (hf:Fit c 6001) (Γ:Ctx):J Tryz.prog 34 (aH Tryz.f34) Γ (bK (jE c d w) d) [.code []] (cL Tryz.f34.ntmps [.c (.loc 0 0),.l .str w] (rdK c d)):=by
 refine jg wV Tryz.func34 (.need ((1:Int)≤1) (.ite (!eG c d w (1:Int)) (.ret (.p (.bool false)) (zWh1 c d)) (.need (inRg 0 w.length) (.need (room ((c.events++[ETy.get .str w 0]).length) 16) (.ret (.p (.bool true)) [.cells [.pd (.str c.name),.own 5,.own 2,.own 3,.own 4,.i d] 45,.dead,.own 61 .var c.vars,.own 64 .stat c.states,.own 68 .tran c.trans,.own 9 .str (c.events++[ETy.get .str w 0])]))))) ?_
 have he:=hf.events
 refine ⟨by omega,fun h=>?_,fun h=>?_⟩
 · exact bK.no (iv (by rw [show eG c d w 1=false from nt h]; simp))
 · have g:eG c d w 1=true:=nf h
   obtain ⟨_,_,hn,_⟩:=gK (n:=1) g
   refine ⟨⟨by omega,by omega⟩,NQ (by simp only [ag,ah,aj]; omega),bK.yes (if_pos g) (IsR.of1 rfl)⟩
theorem Ou (hf:Fit c 6001) (h:(jE c d w).isSome=true):ak Tryz.prog 34 [.c (.loc 0 0),.l .str w] (rdK c d) (.x (.b true)) (ckR (got (jE c d w)) d) :=
 step_ok Tryz.func34 (by kernel_rfl) (by kernel_rfl) rfl (Li c d w hf) h
theorem Oc (hf:Fit c 6001) (h:(jE c d w).isSome=false):ak Tryz.prog 34 [.c (.loc 0 0),.l .str w] (rdK c d) (.x (.b false)) [.dead,.dead,.dead,.dead,.dead] :=
 kK Tryz.func34 (by kernel_rfl) (by kernel_rfl) (Li c d w hf) h
/-! ### numbers -/
def HO:Cfg:=⟨bu,[eNb]⟩
theorem F3:ai Tryz.prog HO.tab:=(ai.cons A2 ai.nil)
theorem I8 (a:Str) (b e f g h i:Int) (h2:2≤w.length) (hw:okW w):ak Tryz.prog 79 [.c (.loc 0 0),.l .str w] [.cells [.pd (.str a),.pd (.int .i64 b),.pd (.int .i64 e),.pd (.int .i64 f),.pd (.int .i64 g),.pd (.int .i64 h),.pd (.int .i64 i)] 61] (.x (.b ((bb (an w 0)).2==0&&(bb (an w 1)).2==0))) [.cells [.pd (.str a),.pd (.int .i64 b),.pd (.int .i64 (bb (an w 0)).1),.pd (.int .i64 (bb (an w 1)).1),.pd (.int .i64 g),.pd (.int .i64 h),.pd (.int .i64 i)] 61]:=by
 refine dg F3 Tryz.func79 (.need (inRg 0 w.length) (.need ((ETy.get .str w 0).length≤281474976710656) (.need (inRg 1 w.length) (.need ((ETy.get .str w 1).length≤281474976710656) (.ret (.p (.bool ((bb (ETy.get .str w 0)).2==(0:Int)&&(bb (ETy.get .str w 1)).2==(0:Int)))) [.cells [.pd (.str a),.i b,.i ((bb (ETy.get .str w 0)).1),.i ((bb (ETy.get .str w 1)).1),.i g,.i h,.i i] 61]))))) fun Γ=>?_
 have l0:(ETy.get .str w 0).length≤6000:=(hw.at (k:=0) (by omega)).1
 have l1:(ETy.get .str w 1).length≤6000:=(hw.at (k:=1) (by omega)).1
 exact ⟨⟨by omega,by omega⟩,by omega,⟨by omega,by omega⟩,by omega,rfl,rfl⟩
def wQ:Ent:=(79,fun
 | [.c (.loc 0 0),.c (.pd (.lst .str w))],[.cells [.pd (.str a),.pd (.int .i64 b),.pd (.int .i64 e),.pd (.int .i64 f),.pd (.int .i64 g),.pd (.int .i64 h),.pd (.int .i64 i)] 61]=>some (some (2≤w.length∧okW w),.x (.c (.pd (.bool ((bb (an w 0)).2==0&&(bb (an w 1)).2==0)))),[.cells [.pd (.str a),.pd (.int .i64 b),.pd (.int .i64 (bb (an w 0)).1),.pd (.int .i64 (bb (an w 1)).1),.pd (.int .i64 g),.pd (.int .i64 h),.pd (.int .i64 i)] 61])
 | _,_=>none)
theorem wE:EntOk Tryz.prog wQ:=entOk fun vs ck=>by
 unfold wQ; dsimp only; split
 · rename_i w a b e f g h i; exact entS fun hp=>I8 w a b e f g h i hp.1 hp.2
 · exact entN
def ID:Cfg:=⟨bu,[pj,eNb,wQ]⟩
theorem Ha:ai Tryz.prog ID.tab:=(ai.cons pf (ai.cons A2 (ai.cons wE ai.nil)))
theorem js:(aB w (some 1) none).2=w.drop 1:=by simp [aB]
theorem okW.drop {w:List Str} (h:okW w) (n:Nat):okW (w.drop n):=fun x hx=>h x (List.mem_of_mem_drop hx)
theorem rG (k:Nat):an (w.drop 1) k=an w (k+1):=by
 unfold an ETy.get
 simp only [List.getD_eq_getElem?_getD,List.getElem?_drop,Nat.add_comm 1]
theorem BS {a b c:Int}:((a==0&&b==0)&&c==0)=decide (a=0∧b=0∧c=0):=by
 rw [cM]; simp [and_assoc]
theorem K6 (hf:Fit c 6001) (hw:okW w) (Γ:Ctx):J Tryz.prog 35 (aH Tryz.f35) Γ (bK (nH c d w) d) [.code []] (cL Tryz.f35.ntmps [.c (.loc 0 0),.l .str w] (rdK c d)):=by
 refine jg Ha Tryz.func35 (let x2:=((aB w (some (1:Int)) none).2); let x1:=(c.vars++[{ name:=ETy.get .str w 0,kind:=(1:Int),lo:=(bb (an x2 0)).1,hi:=(bb (an x2 1)).1,init:={ kind:=(1:Int),a:=(bb (ETy.get .str w 3)).1,b:=(0:Int) } }]); .need ((1:Int)≤4) (.ite (!eG c d w (4:Int)) (.ret (.p (.bool false)) (zWh1 c d)) (.need (inRg 0 w.length) (.need (inRg 3 w.length) (.need ((ETy.get .str w 3).length≤281474976710656) (.need ((0:Int)≤1∧(1:Int)≤(w.length:Int)) (.need (2≤x2.length∧okW x2) (.need (room (List.length x1) 64) (.ret (.p (.bool ((bb (an x2 0)).2==(0:Int)&&(bb (an x2 1)).2==(0:Int)&&(bb (ETy.get .str w 3)).2==(0:Int)))) [.cells [.pd (.str c.name),.own 1,.own 5,.own 3,.own 4,.i d] 45,.own 9 .str c.events,.dead,.own 64 .stat c.states,.own 68 .tran c.trans,.own 61 .var x1]))))))))) ?_
 conv=>zeta
 have he:=hf.vars
 refine ⟨by omega,fun h=>?_,fun h=>?_⟩
 · refine bK.no (iv ?_)
   rintro ⟨g,_⟩
   rw [show eG c d w 4=true from g] at h; cases h
 · have g:eG c d w 4=true:=nf h
   obtain ⟨_,_,hn,_⟩:=gK (n:=4) g
   have l3:(ETy.get .str w 3).length≤6000:=(hw.at (k:=3) (by omega)).1
   rw [js,rG,rG]
   refine ⟨⟨by omega,by omega⟩,⟨by omega,by omega⟩,by omega,⟨by omega,by omega⟩,⟨by rw [bF]; omega,hw.drop 1⟩,qn (by simp only [ag,ah,aj]; omega),?_⟩
   have e3:ETy.get .str w 3=an w 3:=rfl
   rw [e3,BS]
   by_cases hk:(bb (an w 1)).2=0∧(bb (an w 2)).2=0∧(bb (an w 3)).2=0
   · rw [decide_eq_true hk]
     exact bK.yes (if_pos ⟨g,hk.1,hk.2.1,hk.2.2⟩) (IsR.of2 rfl)
   · rw [decide_eq_false hk]
     exact bK.no (iv fun x=>hk x.2)
theorem K2 (hf:Fit c 6001) (Γ:Ctx):J Tryz.prog 36 (aH Tryz.f36) Γ (bK (kj c d w) d) [.code []] (cL Tryz.f36.ntmps [.c (.loc 0 0),.l .str w] (rdK c d)):=by
 refine jg wV Tryz.func36 (let x1:=(c.vars++[{ name:=ETy.get .str w 0,kind:=(2:Int),lo:=(0:Int),hi:=(1:Int),init:={ kind:=(2:Int),a:=(1:Int),b:=(0:Int) } }]); let x2:=(c.vars++[{ name:=ETy.get .str w 0,kind:=(2:Int),lo:=(0:Int),hi:=(1:Int),init:={ kind:=(2:Int),a:=(0:Int),b:=(0:Int) } }]); .need ((1:Int)≤2) (.need ((!eG c d w (2:Int))=false→(0:Int)≤1∧(1:Int)<(w.length:Int)) (.need ((!eG c d w (2:Int))=false∧(!ETy.get .str w 1==[116,114,117,101])=true→(0:Int)≤1∧(1:Int)<(w.length:Int)) (.ite (!eG c d w (2:Int) || !ETy.get .str w 1==[116,114,117,101] && !ETy.get .str w 1==[102,97,108,115,101]) (.ret (.p (.bool false)) (zWh1 c d)) (.need (inRg 0 w.length) (.need (inRg 1 w.length) (.ite (ETy.get .str w 1==[116,114,117,101]) (.need (room (List.length x1) 64) (.ret (.p (.bool true)) [.cells [.pd (.str c.name),.own 1,.own 5,.own 3,.own 4,.i d] 45,.own 9 .str c.events,.dead,.own 64 .stat c.states,.own 68 .tran c.trans,.own 61 .var x1])) (.need (room (List.length x2) 64) (.ret (.p (.bool true)) [.cells [.pd (.str c.name),.own 1,.own 5,.own 3,.own 4,.i d] 45,.own 9 .str c.events,.dead,.own 64 .stat c.states,.own 68 .tran c.trans,.own 61 .var x2]))))))))) ?_
 conv=>zeta
 have he:=hf.vars
 have hlen:eG c d w 2=true→w.length=2:=fun h=>(gK (n:=2) h).2.2.1
 have hb:∀ a b:Str,((!(a==b))=true)=(a≠b):=fun a b=>by simp
 refine ⟨by omega,fun h=>?_,fun h=>?_,fun h=>?_,fun h=>?_⟩
 · have:=hlen (nf h); omega
 · have:=hlen (nf h.1); omega
 · refine bK.no (iv ?_)
   rintro ⟨g1,g2⟩
   rw [show eG c d w 2=true from g1] at h
   rcases g2 with g2 | g2
   · have g3:ETy.get .str w 1=fm:=g2
     rw [g3] at h; exact absurd h (by decide)
   · have g3:ETy.get .str w 1=fS:=g2
     rw [g3] at h; exact absurd h (by decide)
 · rw [aI] at h
   have g:eG c d w 2=true:=nf h.1
   have hl:=hlen g
   refine ⟨⟨by omega,by omega⟩,⟨by omega,by omega⟩,fun h1=>?_,fun h1=>?_⟩
   · have g2:an w 1=fm:=eq_of_beq h1
     refine ⟨qn (by simp only [ag,ah,aj]; omega),bK.yes (if_pos ⟨g,.inl g2⟩) (IsR.of2 ?_)⟩
     rw [if_pos g2]; rfl
   · have g2:an w 1≠fm:=by
      intro e
      have e2:ETy.get .str w 1=fm:=e
      rw [e2] at h1; exact absurd h1 (by decide)
     have g3:an w 1=fS:=by
      have h3:=h.2
      rw [fI] at h3
      rcases h3 with h3 | h3
      · exact absurd (eq_of_beq (nf h3)) g2
      · exact eq_of_beq (nf h3)
     refine ⟨qn (by simp only [ag,ah,aj]; omega),bK.yes (if_pos ⟨g,.inr g3⟩) (IsR.of2 ?_)⟩
     rw [if_neg g2]; rfl
/-! ### states -/
theorem mJ {l:List Ev.Stat} (h:l.length≠0):l.getLast?=some (ETy.get .stat l (l.length - 1)):=by
 rw [List.getLast?_eq_getElem?]
 exact ETy.getElem?_get (t:=.stat) (by omega)
theorem xO {c:Chart} (h:c.states.length≠0):iV c=(ETy.get .stat c.states (c.states.length - 1)).depth+1:=by
 unfold iV; rw [mJ h]
theorem wW {c:Chart} (h:c.states.length=0):iV c=0:=by
 unfold iV; rw [b4.1 h]; rfl
theorem tG {c:Chart} {n:Nat} (hf:Fit c n) (h:c.states.length≠0):0≤(ETy.get .stat c.states (c.states.length - 1)).depth∧(ETy.get .stat c.states (c.states.length - 1)).depth≤6000 :=
 hf.last (mJ h)
theorem l7 (h:n≠0) (h2:n≤100000):IntKind.wrap .i64 ((n:Int) - 1)=((n - 1:Nat):Int):=by rw [cI (by omega) (by omega)]; omega
theorem L2 (hf:Fit c 6001) (hw:okW w) (h:(nH c d w).isSome=true):ak Tryz.prog 35 [.c (.loc 0 0),.l .str w] (rdK c d) (.x (.b true)) (ckR (got (nH c d w)) d) :=
 step_ok Tryz.func35 (by kernel_rfl) (by kernel_rfl) rfl (K6 c d w hf hw) h
theorem N5 (hf:Fit c 6001) (hw:okW w) (h:(nH c d w).isSome=false):ak Tryz.prog 35 [.c (.loc 0 0),.l .str w] (rdK c d) (.x (.b false)) [.dead,.dead,.dead,.dead,.dead] :=
 kK Tryz.func35 (by kernel_rfl) (by kernel_rfl) (K6 c d w hf hw) h
theorem OL (hf:Fit c 6001) (h:(kj c d w).isSome=true):ak Tryz.prog 36 [.c (.loc 0 0),.l .str w] (rdK c d) (.x (.b true)) (ckR (got (kj c d w)) d) :=
 step_ok Tryz.func36 (by kernel_rfl) (by kernel_rfl) rfl (K2 c d w hf) h
theorem OO (hf:Fit c 6001) (h:(kj c d w).isSome=false):ak Tryz.prog 36 [.c (.loc 0 0),.l .str w] (rdK c d) (.x (.b false)) [.dead,.dead,.dead,.dead,.dead] :=
 kK Tryz.func36 (by kernel_rfl) (by kernel_rfl) (K2 c d w hf) h
end Go.Proofs.YtpfidgnkokidoaaGreatDoor

/- Contracts: the program's reader of charts: transitions. Conditions: sizes. -/
import Derived.Test.YtpfidgnkokidoaaGreatDoorWh
import Derived.Test.YtpfidgnkokidoaaGreatDoorWo
import Derived.Test.YtpfidgnkokidoaaGreatDoorMf
namespace Go.Proofs.YtpfidgnkokidoaaGreatDoor
open Go Go.Ev
set_option maxRecDepth 100000
abbrev zJ46Wp:=J Tryz.prog 46 (aH Tryz.f46)
noncomputable def oi:Cfg:=⟨bu,[j3,jF,hG,rT,wO]⟩
theorem ln:ai Tryz.prog oi.tab:=(ai.cons ja (ai.cons iY (ai.cons fH (ai.cons tw (ai.cons vW ai.nil)))))
noncomputable def AX:Cfg:=⟨bu,[j3,jF,hG,rT,wm]⟩
theorem wU:ai Tryz.prog AX.tab:=(ai.cons ja (ai.cons iY (ai.cons fH (ai.cons tw (ai.cons wg ai.nil)))))
noncomputable def AH:Cfg:=⟨bu,[j3,jF,hG,rU,wO]⟩
theorem wY:ai Tryz.prog AH.tab:=(ai.cons ja (ai.cons iY (ai.cons fH (ai.cons tF (ai.cons vW ai.nil)))))
noncomputable def Ab:Cfg:=⟨bu,[j3,jF,hG,rU,wm]⟩
theorem xt:ai Tryz.prog Ab.tab:=(ai.cons ja (ai.cons iY (ai.cons fH (ai.cons tF (ai.cons wg ai.nil)))))
def Kc:Cfg:=⟨bu,[rQ]⟩
theorem Dm:ai Tryz.prog Kc.tab:=(ai.cons tz ai.nil)
variable (c:Chart) (d:Int) (ev:Str) (a:Chart) (to:Str) (b:Int) (g:List Cell) (w:List Str)
abbrev zWp2:Chunk:=.cells [.pd (.str a.name),.own 1,.own 2,.own 3,.own 5,.i b] 45
abbrev zWp4:Chunk:=.own 64 .stat a.states
abbrev zWp5:Chunk:=.own 9 .str a.events
abbrev zWp6:Chunk:=.own 61 .var a.vars
abbrev zWp7:List PI:=[.code [1,1,1,1,1,1,1,0],.code [1,1,1,1,1,1,1,1]]
abbrev zWp8:Chunk:=.own 68 .tran a.trans
abbrev zWp9:List (Nat×SV):=[(0,.x (.c (.loc 0 0))),(4,.p (.bool false)),(5,.x (.c (.loc 5 0)))]
abbrev zWp10:Chunk:=.cells [.pd (.str a.name),.own 1,.own 2,.own 3,.own 4,SC.i b] 45
theorem Jx (a:List Deed) (o:Option Chart) (Γ:Ctx) (hr:c.trans.length≤6001) (ho:o=some { c with trans:=c.trans++[(⟨IntKind.wrap IntKind.i64 ((c.states.length:Int) - 1),ev,g,to,a⟩:Tran)] }):zJ46Wp Γ (bK o d) zWp7 ({ n:=96,fr:=zWp9,ck:=[zWp10 c d,zWp5 c,zWp6 c,zWp4 c,zWp8 c,.cells [SC.i (IntKind.wrap .i64 ((c.states.length:Int) - 1)),.pd (.str ev),.own 6,.pd (.str to),.own 7] 68,.own 92 .cell g,.own 90 .deed a],kn:=[4],m:=5 }):=by
 have hz:zJ46Wp Γ (bK o d) zWp7 ({ n:=96,fr:=zWp9,ck:=[zWp10 c d,zWp5 c,zWp6 c,zWp4 c,zWp8 c,.cells [SC.i (IntKind.wrap .i64 ((c.states.length:Int) - 1)),.pd (.str ev),.pd (.lst .cell g),.pd (.str to),.pd (.lst .deed a)] 68,.dead,.dead],kn:=[4],m:=5 }):=by
  refine jg ln Tryz.func46 (let x1:=(c.trans++[{ src:=IntKind.wrap .i64 ((c.states.length:Int) - 1),event:=ev,guard:=g,dst:=to,acts:=a }]); .need (room (List.length x1) 88) (.ret (.p (.bool true)) [zWp2 c d,zWp5 c,zWp6 c,zWp4 c,.dead,.own 68 .tran x1])) ?_
  conv=>zeta
  exact ⟨mH (by simp only [ag,ah,aj]; omega),bK.yes ho (IsR.of4 rfl)⟩
 exact J.freeze bu [6,7] (by kernel_rfl) hz
theorem Bd (o:Option Chart) (Γ:Ctx) (hr:c.trans.length≤6001) (ho:o=some { c with trans:=c.trans++[(⟨IntKind.wrap IntKind.i64 ((c.states.length:Int) - 1),ev,g,to,[]⟩:Tran)] }):zJ46Wp Γ (bK o d) zWp7 ({ n:=96,fr:=zWp9,ck:=[zWp10 c d,zWp5 c,zWp6 c,zWp4 c,zWp8 c,.cells [SC.i (IntKind.wrap .i64 ((c.states.length:Int) - 1)),.pd (.str ev),.own 6,.pd (.str to),.pd (.v (Value.slice none 0 0))] 68,.own 92 .cell g],kn:=[4],m:=5 }):=by
 have hz:zJ46Wp Γ (bK o d) zWp7 ({ n:=96,fr:=zWp9,ck:=[zWp10 c d,zWp5 c,zWp6 c,zWp4 c,zWp8 c,.cells [SC.i (IntKind.wrap .i64 ((c.states.length:Int) - 1)),.pd (.str ev),.pd (.lst .cell g),.pd (.str to),.pd (.v (Value.slice none 0 0))] 68,.dead],kn:=[4],m:=5 }):=by
  refine jg ln Tryz.func46 (let x1:=(c.trans++[{ src:=IntKind.wrap .i64 ((c.states.length:Int) - 1),event:=ev,guard:=g,dst:=to,acts:=[] }]); .need (room (List.length x1) 88) (.ret (.p (.bool true)) [zWp2 c d,zWp5 c,zWp6 c,zWp4 c,.dead,.own 68 .tran x1])) ?_
  conv=>zeta
  exact ⟨mH (by simp only [ag,ah,aj]; omega),bK.yes ho (IsR.of4 rfl)⟩
 exact J.freeze bu [6] (by kernel_rfl) hz
theorem Bj (a:List Deed) (o:Option Chart) (Γ:Ctx) (hr:c.trans.length≤6001) (ho:o=some { c with trans:=c.trans++[(⟨IntKind.wrap IntKind.i64 ((c.states.length:Int) - 1),ev,[],to,a⟩:Tran)] }):zJ46Wp Γ (bK o d) zWp7 ({ n:=96,fr:=zWp9,ck:=[zWp10 c d,zWp5 c,zWp6 c,zWp4 c,zWp8 c,.cells [SC.i (IntKind.wrap .i64 ((c.states.length:Int) - 1)),.pd (.str ev),.pd (.v (Value.slice none 0 0)),.pd (.str to),.own 6] 68,.own 90 .deed a],kn:=[4],m:=5 }):=by
 have hz:zJ46Wp Γ (bK o d) zWp7 ({ n:=96,fr:=zWp9,ck:=[zWp10 c d,zWp5 c,zWp6 c,zWp4 c,zWp8 c,.cells [SC.i (IntKind.wrap .i64 ((c.states.length:Int) - 1)),.pd (.str ev),.pd (.v (Value.slice none 0 0)),.pd (.str to),.pd (.lst .deed a)] 68,.dead],kn:=[4],m:=5 }):=by
  refine jg ln Tryz.func46 (let x1:=(c.trans++[{ src:=IntKind.wrap .i64 ((c.states.length:Int) - 1),event:=ev,guard:=[],dst:=to,acts:=a }]); .need (room (List.length x1) 88) (.ret (.p (.bool true)) [zWp2 c d,zWp5 c,zWp6 c,zWp4 c,.dead,.own 68 .tran x1])) ?_
  conv=>zeta
  exact ⟨mH (by simp only [ag,ah,aj]; omega),bK.yes ho (IsR.of4 rfl)⟩
 exact J.freeze bu [6] (by kernel_rfl) hz
def rJ {α:Type} (P:Prop) (w:Str) (x y:List α):Prop:=(w=dash∧x=[])∨(w≠dash∧P∧x=y)
theorem ke {c:Chart} {d:Int} {w:List Str} {ev to:Str} {g:List Cell} {a:List Deed} (hf:Fit c 6001) (ho:dG c d=true) (hl:w.length=4) (h0:rJ (cz (an w 0)=true) (an w 0) ev (an w 0)) (h1:rJ (cy (an w 1)) (an w 1) g (aR (an w 1)).1) (h2:rJ (aO (an w 2)=true) (an w 2) to (an w 2)) (h3:rJ (aY (an w 3)) (an w 3) a (aL (an w 3)).1) :
 onC c d w=some { c with trans:=c.trans++[(⟨IntKind.wrap IntKind.i64 ((c.states.length:Int) - 1),ev,g,to,a⟩:Tran)] }:=by
 have hs:=hf.states
 have n1:=((fx hf).1 ho).1
 have hsrc:IntKind.wrap IntKind.i64 ((c.states.length:Int) - 1)=(c.states.length:Int) - 1:=by rw [cI (by omega) (by omega)]
 have or:∀ {α:Type} {P:Prop} {v:Str} {x y:List α},rJ P v x y→(v=dash∨P):=fun h=>h.elim (fun h=>.inl h.1) (fun h=>.inr h.2.1)
 have eq:∀ {α:Type} {P:Prop} {v:Str} {x y:List α},rJ P v x y→(if v=dash then [] else y)=x:=fun h=>by
  rcases h with ⟨h1,h2⟩ | ⟨h1,_,h2⟩
  · rw [if_pos h1,h2]
  · rw [if_neg h1,h2]
 unfold onC
 rw [if_pos ⟨ho,hl,or h0,or h1,or h2,or h3⟩,hsrc]
 have q0:=eq h0; have q1:=eq h1; have q2:=eq h2; have q3:=eq h3
 rw [q0,q1,q2,q3]
theorem cu {w:List Str} {k:Nat} (h:(!(ETy.get .str w k==[45]))=true):an w k≠dash:=fun e=>by
 have e2:ETy.get .str w k=[45]:=e
 rw [e2] at h; exact absurd h (by decide)
theorem dk {w:List Str} {k:Nat} (h:(!(ETy.get .str w k==[45]))=false):an w k=dash:=eq_of_beq (nf h)
theorem fy {c:Chart} {d:Int} {w:List Str} (h:¬(dG c d=true∧w.length=4∧(an w 0=dash∨cz (an w 0)=true)∧(an w 1=dash∨cy (an w 1))∧(an w 2=dash∨aO (an w 2)=true)∧(an w 3=dash∨aY (an w 3)))):onC c d w=none:=if_neg h
abbrev zWp1:Chunk:=.cells [.pd (.str a.name),.own 1,.own 2,.own 3,.own 4,.i b] 45
abbrev zWp3 (a:List Str) (b:Chart) (c:Int):ST:={ n:=96,fr:=[(0,.x (.c (.loc 0 0))),(1,.p (.lst .str a)),(4,.p (.bool false)),(12,.x (.c (.oat 3 (b.states.length - 1) 6 0)))],ck:=[zWp1 b c,.own 9 .str b.events,.own 61 .var b.vars,.own 64 .stat b.states,.own 68 .tran b.trans],kn:=[4],m:=5 }
abbrev zWp11:List PI:=[.ops [1,0,0] 2,.code [1,0,1],.code [1,1]]
theorem NN (hf:Fit c 6001) (ho:dG c d=true) (hE:cy (an w 1)) (hB:aY (an w 3)) (Γ:Ctx):zJ46Wp Γ (bK (onC c d w) d) [.code []] (cL Tryz.f46.ntmps [.c (.loc 0 0),.l .str w] (rdK c d)):=by
 have ht:=hf.trans
 refine jg ln Tryz.func46 (.need (Fit c 6001∧dG c d=true) (.stop zWp11 (zWp3 w c d))) ?_
 refine ⟨⟨hf,ho⟩,J.ptrNil (d:=13) (b:=false) (by kernel_rfl) ?_⟩
 refine jg ln Tryz.func46 (let x1:Tree:=(.ret (.p (.bool false)) [zWp1 c d,zWp5 c,zWp6 c,zWp4 c,zWp8 c]); let x2:List (Nat×SV):=[(0,.x (.c (.loc 0 0))),(4,.p (.bool false)),(5,.x (.c (.loc 5 0)))]; let x3:List PI:=zWp7; let x5:=((c.states.length:Int) - 1); let x4:=(IntKind.wrap .i64 x5); let x6:=((aR (ETy.get .str w 1)).1); let x7:=((aL (ETy.get .str w 3)).1); let x8:=(!ETy.get .str w 3==[45]); let x9:=(aY (ETy.get .str w 3)); let x10:=(Value.slice none 0 0); let x11:=(c.trans++[{ src:=IntKind.wrap .i64 x5,event:=ETy.get .str w 0,guard:=[],dst:=ETy.get .str w 2,acts:=[] }]); let x12:=(c.trans++[{ src:=IntKind.wrap .i64 x5,event:=ETy.get .str w 0,guard:=[],dst:=[],acts:=[] }]); let x13:=(c.trans++[{ src:=IntKind.wrap .i64 x5,event:=[],guard:=[],dst:=ETy.get .str w 2,acts:=[] }]); let x14:=(c.trans++[{ src:=IntKind.wrap .i64 x5,event:=[],guard:=[],dst:=[],acts:=[] }]); let x15:=(!ETy.get .str w 2==[45]); let x16:=(!aO (ETy.get .str w 2)); .ite (false||(w.length:Int) != 4) x1 (.need (inRg 0 w.length) (.ite (!ETy.get .str w 0==[45]) (.need (inRg 0 w.length) (.need (inRg 0 w.length) (.ite (!cz (ETy.get .str w 0)) x1 (.need (inRg 1 w.length) (.ite (!ETy.get .str w 1==[45]) (.need (inRg 1 w.length) (.need (cy (ETy.get .str w 1)) (.ite false x1 (.need (inRg 2 w.length) (.ite x15 (.need (inRg 2 w.length) (.need (inRg 2 w.length) (.ite x16 x1 (.need (inRg 3 w.length) (.ite x8 (.need (inRg 3 w.length) (.need x9 (.ite false x1 (.stop x3 { n:=96,fr:=x2,ck:=[zWp1 c d,zWp5 c,zWp6 c,zWp4 c,zWp8 c,.cells [.i x4,.pd (.str (ETy.get .str w 0)),.own 6,.pd (.str (ETy.get .str w 2)),.own 7] 68,.own 92 .cell x6,.own 90 .deed x7],kn:=[4],m:=5 })))) (.stop x3 { n:=96,fr:=x2,ck:=[zWp1 c d,zWp5 c,zWp6 c,zWp4 c,zWp8 c,.cells [.i x4,.pd (.str (ETy.get .str w 0)),.own 6,.pd (.str (ETy.get .str w 2)),.pd (.v x10)] 68,.own 92 .cell x6],kn:=[4],m:=5 })))))) (.need (inRg 3 w.length) (.ite x8 (.need (inRg 3 w.length) (.need x9 (.ite false x1 (.stop x3 { n:=96,fr:=x2,ck:=[zWp1 c d,zWp5 c,zWp6 c,zWp4 c,zWp8 c,.cells [.i x4,.pd (.str (ETy.get .str w 0)),.own 6,.pd (.str []),.own 7] 68,.own 92 .cell x6,.own 90 .deed x7],kn:=[4],m:=5 })))) (.stop x3 { n:=96,fr:=x2,ck:=[zWp1 c d,zWp5 c,zWp6 c,zWp4 c,zWp8 c,.cells [.i x4,.pd (.str (ETy.get .str w 0)),.own 6,.pd (.str []),.pd (.v x10)] 68,.own 92 .cell x6],kn:=[4],m:=5 })))))))) (.need (inRg 2 w.length) (.ite x15 (.need (inRg 2 w.length) (.need (inRg 2 w.length) (.ite x16 x1 (.need (inRg 3 w.length) (.ite x8 (.need (inRg 3 w.length) (.need x9 (.ite false x1 (.stop x3 { n:=96,fr:=x2,ck:=[zWp1 c d,zWp5 c,zWp6 c,zWp4 c,zWp8 c,.cells [.i x4,.pd (.str (ETy.get .str w 0)),.pd (.v x10),.pd (.str (ETy.get .str w 2)),.own 6] 68,.own 90 .deed x7],kn:=[4],m:=5 })))) (.need (room (List.length x11) 88) (.ret (.p (.bool true)) [zWp2 c d,zWp5 c,zWp6 c,zWp4 c,.dead,.own 68 .tran x11]))))))) (.need (inRg 3 w.length) (.ite x8 (.need (inRg 3 w.length) (.need x9 (.ite false x1 (.stop x3 { n:=96,fr:=x2,ck:=[zWp1 c d,zWp5 c,zWp6 c,zWp4 c,zWp8 c,.cells [.i x4,.pd (.str (ETy.get .str w 0)),.pd (.v x10),.pd (.str []),.own 6] 68,.own 90 .deed x7],kn:=[4],m:=5 })))) (.need (room (List.length x12) 88) (.ret (.p (.bool true)) [zWp2 c d,zWp5 c,zWp6 c,zWp4 c,.dead,.own 68 .tran x12]))))))))))) (.need (inRg 1 w.length) (.ite (!ETy.get .str w 1==[45]) (.need (inRg 1 w.length) (.need (cy (ETy.get .str w 1)) (.ite false x1 (.need (inRg 2 w.length) (.ite x15 (.need (inRg 2 w.length) (.need (inRg 2 w.length) (.ite x16 x1 (.need (inRg 3 w.length) (.ite x8 (.need (inRg 3 w.length) (.need x9 (.ite false x1 (.stop x3 { n:=96,fr:=x2,ck:=[zWp1 c d,zWp5 c,zWp6 c,zWp4 c,zWp8 c,.cells [.i x4,.pd (.str []),.own 6,.pd (.str (ETy.get .str w 2)),.own 7] 68,.own 92 .cell x6,.own 90 .deed x7],kn:=[4],m:=5 })))) (.stop x3 { n:=96,fr:=x2,ck:=[zWp1 c d,zWp5 c,zWp6 c,zWp4 c,zWp8 c,.cells [.i x4,.pd (.str []),.own 6,.pd (.str (ETy.get .str w 2)),.pd (.v x10)] 68,.own 92 .cell x6],kn:=[4],m:=5 })))))) (.need (inRg 3 w.length) (.ite x8 (.need (inRg 3 w.length) (.need x9 (.ite false x1 (.stop x3 { n:=96,fr:=x2,ck:=[zWp1 c d,zWp5 c,zWp6 c,zWp4 c,zWp8 c,.cells [.i x4,.pd (.str []),.own 6,.pd (.str []),.own 7] 68,.own 92 .cell x6,.own 90 .deed x7],kn:=[4],m:=5 })))) (.stop x3 { n:=96,fr:=x2,ck:=[zWp1 c d,zWp5 c,zWp6 c,zWp4 c,zWp8 c,.cells [.i x4,.pd (.str []),.own 6,.pd (.str []),.pd (.v x10)] 68,.own 92 .cell x6],kn:=[4],m:=5 })))))))) (.need (inRg 2 w.length) (.ite x15 (.need (inRg 2 w.length) (.need (inRg 2 w.length) (.ite x16 x1 (.need (inRg 3 w.length) (.ite x8 (.need (inRg 3 w.length) (.need x9 (.ite false x1 (.stop x3 { n:=96,fr:=x2,ck:=[zWp1 c d,zWp5 c,zWp6 c,zWp4 c,zWp8 c,.cells [.i x4,.pd (.str []),.pd (.v x10),.pd (.str (ETy.get .str w 2)),.own 6] 68,.own 90 .deed x7],kn:=[4],m:=5 })))) (.need (room (List.length x13) 88) (.ret (.p (.bool true)) [zWp2 c d,zWp5 c,zWp6 c,zWp4 c,.dead,.own 68 .tran x13]))))))) (.need (inRg 3 w.length) (.ite x8 (.need (inRg 3 w.length) (.need x9 (.ite false x1 (.stop x3 { n:=96,fr:=x2,ck:=[zWp1 c d,zWp5 c,zWp6 c,zWp4 c,zWp8 c,.cells [.i x4,.pd (.str []),.pd (.v x10),.pd (.str []),.own 6] 68,.own 90 .deed x7],kn:=[4],m:=5 })))) (.need (room (List.length x14) 88) (.ret (.p (.bool true)) [zWp2 c d,zWp5 c,zWp6 c,zWp4 c,.dead,.own 68 .tran x14]))))))))))) ?_
 conv=>zeta
 refine ⟨fun h=>bK.no (fy fun x=>?_),fun h=>?_⟩
 · rw [x.2.1] at h; exact absurd h (by decide)
 have hl:w.length=4:=by
  rw [dT] at h
  have:(w.length:Int)=4:=by simpa using h
  omega
 refine ⟨⟨by omega,by omega⟩,fun e0=>⟨⟨by omega,by omega⟩,⟨by omega,by omega⟩,fun v0=>bK.no (fy fun x=>?_),fun v0=>?_⟩,fun e0=>?_⟩
 · rcases x.2.2.1 with y | y
   · exact cu e0 y
   · have y2:cz (ETy.get .str w 0)=true:=y
     rw [y2] at v0; cases v0
 all_goals
  refine ⟨⟨by omega,by omega⟩,fun e1=>⟨⟨by omega,by omega⟩,hE,fun x=>Bool.noConfusion x,fun _=>?_⟩,fun e1=>?_⟩
 all_goals
  refine ⟨⟨by omega,by omega⟩,fun e2=>⟨⟨by omega,by omega⟩,⟨by omega,by omega⟩,fun v2=>bK.no (fy fun x=>x.2.2.2.2.1.elim (cu e2) fun y=>Bool.noConfusion (v2.symm.trans (by rw [show aO (ETy.get .str w 2)=true from y]))),fun v2=>?_⟩,fun e2=>?_⟩
 all_goals
  refine ⟨⟨by omega,by omega⟩,fun e3=>⟨⟨by omega,by omega⟩,hB,fun x=>Bool.noConfusion x,fun _=>?_⟩,fun e3=>?_⟩
 all_goals
  first
  | exact ⟨mH (by simp only [ag,ah,aj]; omega),bK.yes (ke hf ho hl (by first | exact .inl ⟨dk e0,rfl⟩ | exact .inr ⟨cu e0,nf v0,rfl⟩) (by first | exact .inl ⟨dk e1,rfl⟩ | exact .inr ⟨cu e1,hE,rfl⟩) (by first | exact .inl ⟨dk e2,rfl⟩ | exact .inr ⟨cu e2,nf v2,rfl⟩) (by first | exact .inl ⟨dk e3,rfl⟩ | exact .inr ⟨cu e3,hB,rfl⟩)) (IsR.of4 rfl)⟩
  | exact Jx c d _ _ _ _ _ Γ ht (ke hf ho hl (by first | exact .inl ⟨dk e0,rfl⟩ | exact .inr ⟨cu e0,nf v0,rfl⟩) (by first | exact .inl ⟨dk e1,rfl⟩ | exact .inr ⟨cu e1,hE,rfl⟩) (by first | exact .inl ⟨dk e2,rfl⟩ | exact .inr ⟨cu e2,nf v2,rfl⟩) (by first | exact .inl ⟨dk e3,rfl⟩ | exact .inr ⟨cu e3,hB,rfl⟩))
  | exact Bd c d _ _ _ _ Γ ht (ke hf ho hl (by first | exact .inl ⟨dk e0,rfl⟩ | exact .inr ⟨cu e0,nf v0,rfl⟩) (by first | exact .inl ⟨dk e1,rfl⟩ | exact .inr ⟨cu e1,hE,rfl⟩) (by first | exact .inl ⟨dk e2,rfl⟩ | exact .inr ⟨cu e2,nf v2,rfl⟩) (by first | exact .inl ⟨dk e3,rfl⟩ | exact .inr ⟨cu e3,hB,rfl⟩))
  | exact Bj c d _ _ _ _ Γ ht (ke hf ho hl (by first | exact .inl ⟨dk e0,rfl⟩ | exact .inr ⟨cu e0,nf v0,rfl⟩) (by first | exact .inl ⟨dk e1,rfl⟩ | exact .inr ⟨cu e1,hE,rfl⟩) (by first | exact .inl ⟨dk e2,rfl⟩ | exact .inr ⟨cu e2,nf v2,rfl⟩) (by first | exact .inl ⟨dk e3,rfl⟩ | exact .inr ⟨cu e3,hB,rfl⟩))
theorem OH (hf:Fit c 6001) (ho:dG c d=true) (hE:cy (an w 1)) (hB:¬aY (an w 3)) (Γ:Ctx):zJ46Wp Γ (bK (onC c d w) d) [.code []] (cL Tryz.f46.ntmps [.c (.loc 0 0),.l .str w] (rdK c d)):=by
 have ht:=hf.trans
 refine jg wU Tryz.func46 (.need (Fit c 6001∧dG c d=true) (.stop zWp11 (zWp3 w c d))) ?_
 refine ⟨⟨hf,ho⟩,J.ptrNil (d:=13) (b:=false) (by kernel_rfl) ?_⟩
 refine jg wU Tryz.func46 (let x1:Tree:=(.ret (.p (.bool false)) [zWp1 c d,zWp5 c,zWp6 c,zWp4 c,zWp8 c]); let x2:=((c.states.length:Int) - 1); let x14:List PI:=zWp7; let x12:List (Nat×SV):=[(0,.x (.c (.loc 0 0))),(4,.p (.bool false)),(5,.x (.c (.loc 5 0)))]; let x23:=(IntKind.wrap .i64 x2); let x24:=(Value.slice none 0 0); let x20:=((aR (ETy.get .str w 1)).1); let x3:Tree:=(.stop x14 { n:=96,fr:=x12,ck:=[zWp1 c d,zWp5 c,zWp6 c,zWp4 c,zWp8 c,.cells [.i x23,.pd (.str (ETy.get .str w 0)),.own 6,.pd (.str (ETy.get .str w 2)),.pd (.v x24)] 68,.own 92 .cell x20],kn:=[4],m:=5 }); let x4:Tree:=(.stop x14 { n:=96,fr:=x12,ck:=[zWp1 c d,zWp5 c,zWp6 c,zWp4 c,zWp8 c,.cells [.i x23,.pd (.str (ETy.get .str w 0)),.own 6,.pd (.str []),.pd (.v x24)] 68,.own 92 .cell x20],kn:=[4],m:=5 }); let x5:Tree:=(.stop x14 { n:=96,fr:=x12,ck:=[zWp1 c d,zWp5 c,zWp6 c,zWp4 c,zWp8 c,.cells [.i x23,.pd (.str []),.own 6,.pd (.str (ETy.get .str w 2)),.pd (.v x24)] 68,.own 92 .cell x20],kn:=[4],m:=5 }); let x6:Tree:=(.stop x14 { n:=96,fr:=x12,ck:=[zWp1 c d,zWp5 c,zWp6 c,zWp4 c,zWp8 c,.cells [.i x23,.pd (.str []),.own 6,.pd (.str []),.pd (.v x24)] 68,.own 92 .cell x20],kn:=[4],m:=5 }); let x16:=(c.trans++[{ src:=IntKind.wrap .i64 x2,event:=ETy.get .str w 0,guard:=[],dst:=ETy.get .str w 2,acts:=[] }]); let x7:Tree:=(.need (room (List.length x16) 88) (.ret (.p (.bool true)) [zWp2 c d,zWp5 c,zWp6 c,zWp4 c,.dead,.own 68 .tran x16])); let x17:=(c.trans++[{ src:=IntKind.wrap .i64 x2,event:=ETy.get .str w 0,guard:=[],dst:=[],acts:=[] }]); let x8:Tree:=(.need (room (List.length x17) 88) (.ret (.p (.bool true)) [zWp2 c d,zWp5 c,zWp6 c,zWp4 c,.dead,.own 68 .tran x17])); let x18:=(c.trans++[{ src:=IntKind.wrap .i64 x2,event:=[],guard:=[],dst:=ETy.get .str w 2,acts:=[] }]); let x9:Tree:=(.need (room (List.length x18) 88) (.ret (.p (.bool true)) [zWp2 c d,zWp5 c,zWp6 c,zWp4 c,.dead,.own 68 .tran x18])); let x19:=(c.trans++[{ src:=IntKind.wrap .i64 x2,event:=[],guard:=[],dst:=[],acts:=[] }]); let x10:Tree:=(.need (room (List.length x19) 88) (.ret (.p (.bool true)) [zWp2 c d,zWp5 c,zWp6 c,zWp4 c,.dead,.own 68 .tran x19])); let x11:=((aL (ETy.get .str w 3)).2 != (0:Int)); let x13:=(¬aY (ETy.get .str w 3)); let x15:=(!ETy.get .str w 3==[45]); let x21:=(!ETy.get .str w 2==[45]); let x22:=(!aO (ETy.get .str w 2)); .ite (false||(w.length:Int) != 4) x1 (.need (inRg 0 w.length) (.ite (!ETy.get .str w 0==[45]) (.need (inRg 0 w.length) (.need (inRg 0 w.length) (.ite (!cz (ETy.get .str w 0)) x1 (.need (inRg 1 w.length) (.ite (!ETy.get .str w 1==[45]) (.need (inRg 1 w.length) (.need (cy (ETy.get .str w 1)) (.ite false x1 (.need (inRg 2 w.length) (.ite x21 (.need (inRg 2 w.length) (.need (inRg 2 w.length) (.ite x22 x1 (.need (inRg 3 w.length) (.ite x15 (.need (inRg 3 w.length) (.need x13 (.ite x11 x1 x3))) x3))))) (.need (inRg 3 w.length) (.ite x15 (.need (inRg 3 w.length) (.need x13 (.ite x11 x1 x4))) x4))))))) (.need (inRg 2 w.length) (.ite x21 (.need (inRg 2 w.length) (.need (inRg 2 w.length) (.ite x22 x1 (.need (inRg 3 w.length) (.ite x15 (.need (inRg 3 w.length) (.need x13 (.ite x11 x1 x7))) x7))))) (.need (inRg 3 w.length) (.ite x15 (.need (inRg 3 w.length) (.need x13 (.ite x11 x1 x8))) x8))))))))) (.need (inRg 1 w.length) (.ite (!ETy.get .str w 1==[45]) (.need (inRg 1 w.length) (.need (cy (ETy.get .str w 1)) (.ite false x1 (.need (inRg 2 w.length) (.ite x21 (.need (inRg 2 w.length) (.need (inRg 2 w.length) (.ite x22 x1 (.need (inRg 3 w.length) (.ite x15 (.need (inRg 3 w.length) (.need x13 (.ite x11 x1 x5))) x5))))) (.need (inRg 3 w.length) (.ite x15 (.need (inRg 3 w.length) (.need x13 (.ite x11 x1 x6))) x6))))))) (.need (inRg 2 w.length) (.ite x21 (.need (inRg 2 w.length) (.need (inRg 2 w.length) (.ite x22 x1 (.need (inRg 3 w.length) (.ite x15 (.need (inRg 3 w.length) (.need x13 (.ite x11 x1 x9))) x9))))) (.need (inRg 3 w.length) (.ite x15 (.need (inRg 3 w.length) (.need x13 (.ite x11 x1 x10))) x10))))))))) ?_
 conv=>zeta
 refine ⟨fun h=>bK.no (fy fun x=>?_),fun h=>?_⟩
 · rw [x.2.1] at h; exact absurd h (by decide)
 have hl:w.length=4:=by
  rw [dT] at h
  have:(w.length:Int)=4:=by simpa using h
  omega
 refine ⟨⟨by omega,by omega⟩,fun e0=>⟨⟨by omega,by omega⟩,⟨by omega,by omega⟩,fun v0=>bK.no (fy fun x=>?_),fun v0=>?_⟩,fun e0=>?_⟩
 · rcases x.2.2.1 with y | y
   · exact cu e0 y
   · have y2:cz (ETy.get .str w 0)=true:=y
     rw [y2] at v0; cases v0
 all_goals
  refine ⟨⟨by omega,by omega⟩,fun e1=>⟨⟨by omega,by omega⟩,hE,fun x=>Bool.noConfusion x,fun _=>?_⟩,fun e1=>?_⟩
 all_goals
  refine ⟨⟨by omega,by omega⟩,fun e2=>⟨⟨by omega,by omega⟩,⟨by omega,by omega⟩,fun v2=>bK.no (fy fun x=>x.2.2.2.2.1.elim (cu e2) fun y=>Bool.noConfusion (v2.symm.trans (by rw [show aO (ETy.get .str w 2)=true from y]))),fun v2=>?_⟩,fun e2=>?_⟩
 all_goals
  refine ⟨⟨by omega,by omega⟩,fun e3=>⟨⟨by omega,by omega⟩,hB,fun v3=>bK.no (fy fun x=>x.2.2.2.2.2.elim (cu e3) hB),fun v3=>(hB (show (aL (ETy.get .str w 3)).2=0 by simpa using v3)).elim⟩,fun e3=>?_⟩
 all_goals
  first
  | exact ⟨mH (by simp only [ag,ah,aj]; omega),bK.yes (ke hf ho hl (by first | exact .inl ⟨dk e0,rfl⟩ | exact .inr ⟨cu e0,nf v0,rfl⟩) (by first | exact .inl ⟨dk e1,rfl⟩ | exact .inr ⟨cu e1,hE,rfl⟩) (by first | exact .inl ⟨dk e2,rfl⟩ | exact .inr ⟨cu e2,nf v2,rfl⟩) (by first | exact .inl ⟨dk e3,rfl⟩ | exact .inr ⟨cu e3,hB,rfl⟩)) (IsR.of4 rfl)⟩
  | exact Bd c d _ _ _ _ Γ ht (ke hf ho hl (by first | exact .inl ⟨dk e0,rfl⟩ | exact .inr ⟨cu e0,nf v0,rfl⟩) (by first | exact .inl ⟨dk e1,rfl⟩ | exact .inr ⟨cu e1,hE,rfl⟩) (by first | exact .inl ⟨dk e2,rfl⟩ | exact .inr ⟨cu e2,nf v2,rfl⟩) (by first | exact .inl ⟨dk e3,rfl⟩ | exact .inr ⟨cu e3,hB,rfl⟩))
theorem Oq (hf:Fit c 6001) (ho:dG c d=true) (hE:¬cy (an w 1)) (hB:aY (an w 3)) (Γ:Ctx):zJ46Wp Γ (bK (onC c d w) d) [.code []] (cL Tryz.f46.ntmps [.c (.loc 0 0),.l .str w] (rdK c d)):=by
 have ht:=hf.trans
 refine jg wY Tryz.func46 (.need (Fit c 6001∧dG c d=true) (.stop zWp11 (zWp3 w c d))) ?_
 refine ⟨⟨hf,ho⟩,J.ptrNil (d:=13) (b:=false) (by kernel_rfl) ?_⟩
 refine jg wY Tryz.func46 (let x3:Tree:=(.ret (.p (.bool false)) [zWp1 c d,zWp5 c,zWp6 c,zWp4 c,zWp8 c]); let x12:=(!ETy.get .str w 3==[45]); let x13:=(aY (ETy.get .str w 3)); let x6:List PI:=zWp7; let x5:List (Nat×SV):=[(0,.x (.c (.loc 0 0))),(4,.p (.bool false)),(5,.x (.c (.loc 5 0)))]; let x4:=((c.states.length:Int) - 1); let x14:=(IntKind.wrap .i64 x4); let x15:=(Value.slice none 0 0); let x11:=((aL (ETy.get .str w 3)).1); let x7:=(c.trans++[{ src:=IntKind.wrap .i64 x4,event:=ETy.get .str w 0,guard:=[],dst:=ETy.get .str w 2,acts:=[] }]); let x8:=(c.trans++[{ src:=IntKind.wrap .i64 x4,event:=ETy.get .str w 0,guard:=[],dst:=[],acts:=[] }]); let x1:Tree:=(.need (inRg 2 w.length) (.ite (!ETy.get .str w 2==[45]) (.need (inRg 2 w.length) (.need (inRg 2 w.length) (.ite (!aO (ETy.get .str w 2)) x3 (.need (inRg 3 w.length) (.ite x12 (.need (inRg 3 w.length) (.need x13 (.ite false x3 (.stop x6 { n:=96,fr:=x5,ck:=[zWp1 c d,zWp5 c,zWp6 c,zWp4 c,zWp8 c,.cells [.i x14,.pd (.str (ETy.get .str w 0)),.pd (.v x15),.pd (.str (ETy.get .str w 2)),.own 6] 68,.own 90 .deed x11],kn:=[4],m:=5 })))) (.need (room (List.length x7) 88) (.ret (.p (.bool true)) [zWp2 c d,zWp5 c,zWp6 c,zWp4 c,.dead,.own 68 .tran x7]))))))) (.need (inRg 3 w.length) (.ite x12 (.need (inRg 3 w.length) (.need x13 (.ite false x3 (.stop x6 { n:=96,fr:=x5,ck:=[zWp1 c d,zWp5 c,zWp6 c,zWp4 c,zWp8 c,.cells [.i x14,.pd (.str (ETy.get .str w 0)),.pd (.v x15),.pd (.str []),.own 6] 68,.own 90 .deed x11],kn:=[4],m:=5 })))) (.need (room (List.length x8) 88) (.ret (.p (.bool true)) [zWp2 c d,zWp5 c,zWp6 c,zWp4 c,.dead,.own 68 .tran x8])))))); let x9:=(c.trans++[{ src:=IntKind.wrap .i64 x4,event:=[],guard:=[],dst:=ETy.get .str w 2,acts:=[] }]); let x10:=(c.trans++[{ src:=IntKind.wrap .i64 x4,event:=[],guard:=[],dst:=[],acts:=[] }]); let x2:Tree:=(.need (inRg 2 w.length) (.ite (!ETy.get .str w 2==[45]) (.need (inRg 2 w.length) (.need (inRg 2 w.length) (.ite (!aO (ETy.get .str w 2)) x3 (.need (inRg 3 w.length) (.ite x12 (.need (inRg 3 w.length) (.need x13 (.ite false x3 (.stop x6 { n:=96,fr:=x5,ck:=[zWp1 c d,zWp5 c,zWp6 c,zWp4 c,zWp8 c,.cells [.i x14,.pd (.str []),.pd (.v x15),.pd (.str (ETy.get .str w 2)),.own 6] 68,.own 90 .deed x11],kn:=[4],m:=5 })))) (.need (room (List.length x9) 88) (.ret (.p (.bool true)) [zWp2 c d,zWp5 c,zWp6 c,zWp4 c,.dead,.own 68 .tran x9]))))))) (.need (inRg 3 w.length) (.ite x12 (.need (inRg 3 w.length) (.need x13 (.ite false x3 (.stop x6 { n:=96,fr:=x5,ck:=[zWp1 c d,zWp5 c,zWp6 c,zWp4 c,zWp8 c,.cells [.i x14,.pd (.str []),.pd (.v x15),.pd (.str []),.own 6] 68,.own 90 .deed x11],kn:=[4],m:=5 })))) (.need (room (List.length x10) 88) (.ret (.p (.bool true)) [zWp2 c d,zWp5 c,zWp6 c,zWp4 c,.dead,.own 68 .tran x10])))))); let x16:=(((aR (ETy.get .str w 1)).2).2 != (0:Int)); .ite (false||(w.length:Int) != 4) x3 (.need (inRg 0 w.length) (.ite (!ETy.get .str w 0==[45]) (.need (inRg 0 w.length) (.need (inRg 0 w.length) (.ite (!cz (ETy.get .str w 0)) x3 (.need (inRg 1 w.length) (.ite (!ETy.get .str w 1==[45]) (.need (inRg 1 w.length) (.need (¬cy (ETy.get .str w 1)) (.ite x16 x3 x1))) x1))))) (.need (inRg 1 w.length) (.ite (!ETy.get .str w 1==[45]) (.need (inRg 1 w.length) (.need (¬cy (ETy.get .str w 1)) (.ite x16 x3 x2))) x2))))) ?_
 conv=>zeta
 refine ⟨fun h=>bK.no (fy fun x=>?_),fun h=>?_⟩
 · rw [x.2.1] at h; exact absurd h (by decide)
 have hl:w.length=4:=by
  rw [dT] at h
  have:(w.length:Int)=4:=by simpa using h
  omega
 refine ⟨⟨by omega,by omega⟩,fun e0=>⟨⟨by omega,by omega⟩,⟨by omega,by omega⟩,fun v0=>bK.no (fy fun x=>?_),fun v0=>?_⟩,fun e0=>?_⟩
 · rcases x.2.2.1 with y | y
   · exact cu e0 y
   · have y2:cz (ETy.get .str w 0)=true:=y
     rw [y2] at v0; cases v0
 all_goals
  refine ⟨⟨by omega,by omega⟩,fun e1=>⟨⟨by omega,by omega⟩,hE,fun v1=>bK.no (fy fun x=>x.2.2.2.1.elim (cu e1) hE),fun v1=>(hE (show (aR (ETy.get .str w 1)).2.2=0 by simpa using v1)).elim⟩,fun e1=>?_⟩
 all_goals
  refine ⟨⟨by omega,by omega⟩,fun e2=>⟨⟨by omega,by omega⟩,⟨by omega,by omega⟩,fun v2=>bK.no (fy fun x=>x.2.2.2.2.1.elim (cu e2) fun y=>Bool.noConfusion (v2.symm.trans (by rw [show aO (ETy.get .str w 2)=true from y]))),fun v2=>?_⟩,fun e2=>?_⟩
 all_goals
  refine ⟨⟨by omega,by omega⟩,fun e3=>⟨⟨by omega,by omega⟩,hB,fun x=>Bool.noConfusion x,fun _=>?_⟩,fun e3=>?_⟩
 all_goals
  first
  | exact ⟨mH (by simp only [ag,ah,aj]; omega),bK.yes (ke hf ho hl (by first | exact .inl ⟨dk e0,rfl⟩ | exact .inr ⟨cu e0,nf v0,rfl⟩) (by first | exact .inl ⟨dk e1,rfl⟩ | exact .inr ⟨cu e1,hE,rfl⟩) (by first | exact .inl ⟨dk e2,rfl⟩ | exact .inr ⟨cu e2,nf v2,rfl⟩) (by first | exact .inl ⟨dk e3,rfl⟩ | exact .inr ⟨cu e3,hB,rfl⟩)) (IsR.of4 rfl)⟩
  | exact Bj c d _ _ _ _ Γ ht (ke hf ho hl (by first | exact .inl ⟨dk e0,rfl⟩ | exact .inr ⟨cu e0,nf v0,rfl⟩) (by first | exact .inl ⟨dk e1,rfl⟩ | exact .inr ⟨cu e1,hE,rfl⟩) (by first | exact .inl ⟨dk e2,rfl⟩ | exact .inr ⟨cu e2,nf v2,rfl⟩) (by first | exact .inl ⟨dk e3,rfl⟩ | exact .inr ⟨cu e3,hB,rfl⟩))
theorem N1 (hf:Fit c 6001) (ho:dG c d=true) (hE:¬cy (an w 1)) (hB:¬aY (an w 3)) (Γ:Ctx):zJ46Wp Γ (bK (onC c d w) d) [.code []] (cL Tryz.f46.ntmps [.c (.loc 0 0),.l .str w] (rdK c d)):=by
 have ht:=hf.trans
 refine jg xt Tryz.func46 (.need (Fit c 6001∧dG c d=true) (.stop zWp11 (zWp3 w c d))) ?_
 refine ⟨⟨hf,ho⟩,J.ptrNil (d:=13) (b:=false) (by kernel_rfl) ?_⟩
 refine jg xt Tryz.func46 (let x3:Tree:=(.ret (.p (.bool false)) [zWp1 c d,zWp5 c,zWp6 c,zWp4 c,zWp8 c]); let x15:=(!ETy.get .str w 3==[45]); let x14:=(¬aY (ETy.get .str w 3)); let x9:=((aL (ETy.get .str w 3)).2 != (0:Int)); let x8:=((c.states.length:Int) - 1); let x10:=(c.trans++[{ src:=IntKind.wrap .i64 x8,event:=ETy.get .str w 0,guard:=[],dst:=ETy.get .str w 2,acts:=[] }]); let x4:Tree:=(.need (room (List.length x10) 88) (.ret (.p (.bool true)) [zWp2 c d,zWp5 c,zWp6 c,zWp4 c,.dead,.own 68 .tran x10])); let x11:=(c.trans++[{ src:=IntKind.wrap .i64 x8,event:=ETy.get .str w 0,guard:=[],dst:=[],acts:=[] }]); let x5:Tree:=(.need (room (List.length x11) 88) (.ret (.p (.bool true)) [zWp2 c d,zWp5 c,zWp6 c,zWp4 c,.dead,.own 68 .tran x11])); let x1:Tree:=(.need (inRg 2 w.length) (.ite (!ETy.get .str w 2==[45]) (.need (inRg 2 w.length) (.need (inRg 2 w.length) (.ite (!aO (ETy.get .str w 2)) x3 (.need (inRg 3 w.length) (.ite x15 (.need (inRg 3 w.length) (.need x14 (.ite x9 x3 x4))) x4))))) (.need (inRg 3 w.length) (.ite x15 (.need (inRg 3 w.length) (.need x14 (.ite x9 x3 x5))) x5)))); let x12:=(c.trans++[{ src:=IntKind.wrap .i64 x8,event:=[],guard:=[],dst:=ETy.get .str w 2,acts:=[] }]); let x6:Tree:=(.need (room (List.length x12) 88) (.ret (.p (.bool true)) [zWp2 c d,zWp5 c,zWp6 c,zWp4 c,.dead,.own 68 .tran x12])); let x13:=(c.trans++[{ src:=IntKind.wrap .i64 x8,event:=[],guard:=[],dst:=[],acts:=[] }]); let x7:Tree:=(.need (room (List.length x13) 88) (.ret (.p (.bool true)) [zWp2 c d,zWp5 c,zWp6 c,zWp4 c,.dead,.own 68 .tran x13])); let x2:Tree:=(.need (inRg 2 w.length) (.ite (!ETy.get .str w 2==[45]) (.need (inRg 2 w.length) (.need (inRg 2 w.length) (.ite (!aO (ETy.get .str w 2)) x3 (.need (inRg 3 w.length) (.ite x15 (.need (inRg 3 w.length) (.need x14 (.ite x9 x3 x6))) x6))))) (.need (inRg 3 w.length) (.ite x15 (.need (inRg 3 w.length) (.need x14 (.ite x9 x3 x7))) x7)))); let x16:=(((aR (ETy.get .str w 1)).2).2 != (0:Int)); .ite (false||(w.length:Int) != 4) x3 (.need (inRg 0 w.length) (.ite (!ETy.get .str w 0==[45]) (.need (inRg 0 w.length) (.need (inRg 0 w.length) (.ite (!cz (ETy.get .str w 0)) x3 (.need (inRg 1 w.length) (.ite (!ETy.get .str w 1==[45]) (.need (inRg 1 w.length) (.need (¬cy (ETy.get .str w 1)) (.ite x16 x3 x1))) x1))))) (.need (inRg 1 w.length) (.ite (!ETy.get .str w 1==[45]) (.need (inRg 1 w.length) (.need (¬cy (ETy.get .str w 1)) (.ite x16 x3 x2))) x2))))) ?_
 conv=>zeta
 refine ⟨fun h=>bK.no (fy fun x=>?_),fun h=>?_⟩
 · rw [x.2.1] at h; exact absurd h (by decide)
 have hl:w.length=4:=by
  rw [dT] at h
  have:(w.length:Int)=4:=by simpa using h
  omega
 refine ⟨⟨by omega,by omega⟩,fun e0=>⟨⟨by omega,by omega⟩,⟨by omega,by omega⟩,fun v0=>bK.no (fy fun x=>?_),fun v0=>?_⟩,fun e0=>?_⟩
 · rcases x.2.2.1 with y | y
   · exact cu e0 y
   · have y2:cz (ETy.get .str w 0)=true:=y
     rw [y2] at v0; cases v0
 all_goals
  refine ⟨⟨by omega,by omega⟩,fun e1=>⟨⟨by omega,by omega⟩,hE,fun v1=>bK.no (fy fun x=>x.2.2.2.1.elim (cu e1) hE),fun v1=>(hE (show (aR (ETy.get .str w 1)).2.2=0 by simpa using v1)).elim⟩,fun e1=>?_⟩
 all_goals
  refine ⟨⟨by omega,by omega⟩,fun e2=>⟨⟨by omega,by omega⟩,⟨by omega,by omega⟩,fun v2=>bK.no (fy fun x=>x.2.2.2.2.1.elim (cu e2) fun y=>Bool.noConfusion (v2.symm.trans (by rw [show aO (ETy.get .str w 2)=true from y]))),fun v2=>?_⟩,fun e2=>?_⟩
 all_goals
  refine ⟨⟨by omega,by omega⟩,fun e3=>⟨⟨by omega,by omega⟩,hB,fun v3=>bK.no (fy fun x=>x.2.2.2.2.2.elim (cu e3) hB),fun v3=>(hB (show (aL (ETy.get .str w 3)).2=0 by simpa using v3)).elim⟩,fun e3=>?_⟩
 all_goals
  first
  | exact ⟨mH (by simp only [ag,ah,aj]; omega),bK.yes (ke hf ho hl (by first | exact .inl ⟨dk e0,rfl⟩ | exact .inr ⟨cu e0,nf v0,rfl⟩) (by first | exact .inl ⟨dk e1,rfl⟩ | exact .inr ⟨cu e1,hE,rfl⟩) (by first | exact .inl ⟨dk e2,rfl⟩ | exact .inr ⟨cu e2,nf v2,rfl⟩) (by first | exact .inl ⟨dk e3,rfl⟩ | exact .inr ⟨cu e3,hB,rfl⟩)) (IsR.of4 rfl)⟩
theorem Pb (hf:Fit c 6001) (ho:dG c d=false) (Γ:Ctx):zJ46Wp Γ (bK (onC c d w) d) [.code []] (cL Tryz.f46.ntmps [.c (.loc 0 0),.l .str w] (rdK c d)):=by
 refine jg Dm Tryz.func46 (.need (Fit c 6001∧dG c d=false) (.stop zWp11 { n:=96,fr:=[(0,.x (.c (.loc 0 0))),(1,.p (.lst .str w)),(4,.p (.bool false)),(12,.p (.v (Value.pointer none)))],ck:=[zWp1 c d,zWp5 c,zWp6 c,zWp4 c,zWp8 c],kn:=[4],m:=5 })) ?_
 refine ⟨⟨hf,ho⟩,J.ptrNil (d:=13) (b:=true) (by kernel_rfl) ?_⟩
 refine jg Dm Tryz.func46 (let x4:=(IntKind.wrap .i64 ((c.states.length:Int) - 1)); let x3:=(Value.slice none 0 0); let x1:List Chunk:=[zWp1 c d,zWp5 c,zWp6 c,zWp4 c,zWp8 c,.cells [.i x4,.pd (.str []),.pd (.v x3),.pd (.str []),.pd (.v x3)] 68]; let x2:=(c.trans++[{ src:=IntKind.wrap .i64 ((c.states.length:Int) - 1),event:=[],guard:=[],dst:=[],acts:=[] }]); let x5:Nat×SV:=(0,.x (.c (.loc 0 0))); let x6:Nat×SV:=(5,.x (.c (.loc 5 0))); .ite true (.ret (.p (.bool false)) [zWp1 c d,zWp5 c,zWp6 c,zWp4 c,zWp8 c]) (.need (inRg 0 w.length) (.ite (!ETy.get .str w 0==[45]) (.need (inRg 0 w.length) (.need (inRg 0 w.length) (.stop [.ops [1,1,1,0,1,0,1,0] 3,.code [1,1,1,0,1,0,1,1],.code [1,1,1,1]] { n:=96,fr:=[x5,(1,.p (.lst .str w)),(4,.p (.bool false)),x6,(37,.p (.str (ETy.get .str w 0)))],ck:=[zWp1 c d,zWp5 c,zWp6 c,zWp4 c,zWp8 c,.cells [.i x4,.pd (.str (ETy.get .str w 0)),.pd (.v x3),.pd (.str []),.pd (.v x3)] 68],kn:=[4],m:=5 }))) (.need (inRg 1 w.length) (.ite (!ETy.get .str w 1==[45]) (.need (inRg 1 w.length) (.stop [.ops [1,1,1,1,0,1,0,0] 3,.code [1,1,1,1,0,1,0,1],.code [1,1,1,1,1]] { n:=96,fr:=[x5,(1,.p (.lst .str w)),(4,.p (.bool false)),x6,(47,.p (.str (ETy.get .str w 1)))],ck:=x1,kn:=[4],m:=5 })) (.need (inRg 2 w.length) (.ite (!ETy.get .str w 2==[45]) (.need (inRg 2 w.length) (.need (inRg 2 w.length) (.stop [.ops [1,1,1,1,1,0,1,0,1,0] 3,.code [1,1,1,1,1,0,1,0,1,1],.code [1,1,1,1,1,1]] { n:=96,fr:=[x5,(1,.p (.lst .str w)),(4,.p (.bool false)),x6,(66,.p (.str (ETy.get .str w 2)))],ck:=[zWp1 c d,zWp5 c,zWp6 c,zWp4 c,zWp8 c,.cells [.i x4,.pd (.str []),.pd (.v x3),.pd (.str (ETy.get .str w 2)),.pd (.v x3)] 68],kn:=[4],m:=5 }))) (.need (inRg 3 w.length) (.ite (!ETy.get .str w 3==[45]) (.need (inRg 3 w.length) (.stop [.ops [1,1,1,1,1,1,0,1,0,0] 3,.code [1,1,1,1,1,1,0,1,0,1],.code [1,1,1,1,1,1,1]] { n:=96,fr:=[x5,(4,.p (.bool false)),x6,(76,.p (.str (ETy.get .str w 3)))],ck:=x1,kn:=[4],m:=5 })) (.need (room (List.length x2) 88) (.ret (.p (.bool true)) [zWp2 c d,zWp5 c,zWp6 c,zWp4 c,.dead,.own 68 .tran x2]))))))))))) ?_
 conv=>zeta
 exact ⟨fun h=>bK.no (fy fun x=>by rw [ho] at x; cases x.1),fun h=>by simp at h⟩
theorem NV (hf:Fit c 6001) (Γ:Ctx):zJ46Wp Γ (bK (onC c d w) d) [.code []] (cL Tryz.f46.ntmps [.c (.loc 0 0),.l .str w] (rdK c d)):=by
 cases ho:dG c d
 · exact Pb c d w hf ho Γ
 · by_cases hE:cy (an w 1)
   · by_cases hB:aY (an w 3)
     · exact NN c d w hf ho hE hB Γ
     · exact OH c d w hf ho hE hB Γ
   · by_cases hB:aY (an w 3)
     · exact Oq c d w hf ho hE hB Γ
     · exact N1 c d w hf ho hE hB Γ
theorem Pa (hf:Fit c 6001) (h:(onC c d w).isSome=true):ak Tryz.prog 46 [.c (.loc 0 0),.l .str w] (rdK c d) (.x (.b true)) (ckR (got (onC c d w)) d) :=
 step_ok Tryz.func46 (by kernel_rfl) (by kernel_rfl) rfl (NV c d w hf) h
theorem OP (hf:Fit c 6001) (h:(onC c d w).isSome=false):ak Tryz.prog 46 [.c (.loc 0 0),.l .str w] (rdK c d) (.x (.b false)) [.dead,.dead,.dead,.dead,.dead] :=
 kK Tryz.func46 (by kernel_rfl) (by kernel_rfl) (NV c d w hf) h
end Go.Proofs.YtpfidgnkokidoaaGreatDoor

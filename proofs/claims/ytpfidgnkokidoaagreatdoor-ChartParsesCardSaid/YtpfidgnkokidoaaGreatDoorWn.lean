/- Contracts: the program's reader of charts, its lines. Conditions: sizes. Contracts: the program's reader of charts: states' lines. Conditions: sizes. -/
import Derived.Test.YtpfidgnkokidoaaGreatDoorWm
import Derived.Test.YtpfidgnkokidoaaGreatDoorNc
namespace Go.Proofs.YtpfidgnkokidoaaGreatDoor
open Go Go.Ev
set_option maxRecDepth 100000
variable (c:Chart) (d:Int) {f:FuncId} {fn:Func} {args:List SX} (w:List Str) {ck:List Chunk} {n:Nat}
abbrev rdK:List Chunk:=Jb c d
def okW:Prop:=∀ x∈w,x.length≤6000∧x.all (fun c=>decide (c.toNat<128))=true
theorem get_mem {w:List Str} {k:Nat} (h:k<w.length):ag w k∈w:=List.mem_of_getElem? (ETy.getElem?_get (t:=.str) h)
theorem okW.at {w:List Str} (hw:okW w) {k:Nat} (h:k<w.length):(ag w k).length≤6000∧(ag w k).all (fun c=>decide (c.toNat<128))=true:=hw _ (get_mem h)
def bN (o:Option Chart) (d:Int):Out:=fun v k=>(∀ c',o=some c'→IsR c' d v k)∧(o=none→v = .x (.b false))
theorem bN.yes {o:Option Chart} {c':Chart} {d:Int} {v:SV} {k:List Chunk} (h:o=some c') (hr:IsR c' d v k):bN o d v k:=⟨fun c2 h2=>(by rw [h] at h2; cases h2; exact hr),fun h2=>(by rw [h] at h2; cases h2)⟩
theorem bN.no {o:Option Chart} {d:Int} {k:List Chunk} (h:o=none):bN o d (.x (.b false)) k:=⟨fun c2 h2=>(by rw [h] at h2; cases h2),fun _=>rfl⟩
theorem step_ok {o:Option Chart} {d:Int} (hf:Tryz.prog.funcs[f]?=some fn) (hb:fn.body.isSome=true) (hn:Nat.ble args.length fn.ntmps=true) (hl:ck.length=5)
 (h:∀ Γ,J Tryz.prog f (az fn) Γ (bN o d) [.code []] (bX fn.ntmps args ck)) (ho:o.isSome=true):ak Tryz.prog f args ck (.x (.b true)) (ckR (got o) d):=by
 obtain ⟨c',rfl⟩:=cC.1 ho
 exact ak.isR hf hb hn hl fun Γ=>J.mono (fun v k q=>q.1 c' rfl) (h Γ)
theorem jW {o:Option Chart} {d:Int} (hf:Tryz.prog.funcs[f]?=some fn) (hb:fn.body.isSome=true) (hn:Nat.ble args.length fn.ntmps=true)
 (h:∀ Γ,J Tryz.prog f (az fn) Γ (bN o d) [.code []] (bX fn.ntmps args ck)) (ho:o.isSome=false):ak Tryz.prog f args ck (.x (.b false)) [.dead,.dead,.dead,.dead,.dead] :=
 ak.lost 5 hf hb hn rfl fun Γ=>J.mono (fun v k q=>q.2 (by cases o with | none=>rfl | some c=>cases ho)) (h Γ)
theorem gY {α:Type} {p:Prop} {inst:Decidable p} {x:α} (h:¬p):(if p then some x else none)=none:=if_neg h
def wR:Cfg:=⟨a6,[gG]⟩
theorem r4:ah Tryz.prog wR.tab:=(ah.cons fw ah.nil)
abbrev zWh1 (a:Chart) (b:Int):List Chunk:=[.cells [.pd (.str a.name),.own 1,.own 2,.own 3,.own 4,.i b] 45,.own 9 .str a.events,.own 61 .var a.vars,.own 64 .stat a.states,.own 68 .tran a.trans]
theorem Gc (n:Int) (hn:1≤n):ak Tryz.prog 77 [.c (.loc 0 0),.l .str w,.i n] (rdK c d) (.x (.b (de c d w n))) (rdK c d):=by
 refine dg r4 Tryz.func77 (.need ((d==(0:Int)&&(c.states.length:Int)==0&&(w.length:Int)==n)=true→(0:Int)≤0∧(0:Int)<(w.length:Int)) (.ret (.p (.bool (d==(0:Int)&&(c.states.length:Int)==0&&(w.length:Int)==n&&aC (ETy.get .str w 0)))) (zWh1 c d))) fun Γ=>?_
 refine ⟨fun h=>?_,rfl,rfl⟩
 simp only [af,beq_iff_eq] at h
 omega
def nU:Ent:=(77,fun
 | [.c (.loc 0 0),.c (.pd (.lst .str w)),.c (.pd (.int .i64 n))],[.cells [.pd (.str nm),.own 1,.own 2,.own 3,.own 4,.pd (.int .i64 d)] 45,.own 9 .str ev,.own 61 .var vs,.own 64 .stat st,.own 68 .tran tr]=>some (some (1≤n),.x (.c (.pd (.bool (de ⟨nm,ev,vs,st,tr⟩ d w n)))),[.cells [.pd (.str nm),.own 1,.own 2,.own 3,.own 4,.pd (.int .i64 d)] 45,.own 9 .str ev,.own 61 .var vs,.own 64 .stat st,.own 68 .tran tr])
 | _,_=>none)
theorem nL:EntOk Tryz.prog nU:=entOk fun vs ck=>by
 unfold nU; dsimp only; split
 · rename_i w n nm d ev vs st tr; exact entS fun hp=>Gc ⟨nm,ev,vs,st,tr⟩ d w n hp
 · exact entN
def yw:Cfg:=⟨a6,[nU]⟩
theorem vS:ah Tryz.prog yw.tab:=(ah.cons nL ah.nil)
theorem yR (h:n≤100000):room n 16:=by unfold room maxLen; omega
theorem gV (h:n≤100000):room n 64:=by unfold room maxLen; omega
theorem gH (h:n≤100000):room n 88:=by unfold room maxLen; omega
theorem ku (h:n≤100000):room n 96:=by unfold room maxLen; omega
/-! ### events -/
theorem KH (hf:Fit c 6001) (Γ:Ctx):J Tryz.prog 34 (az Tryz.f34) Γ (bN (gR c d w) d) [.code []] (bX Tryz.f34.ntmps [.c (.loc 0 0),.l .str w] (rdK c d)):=by
 refine jg vS Tryz.func34 (.need ((1:Int)≤1) (.ite (!de c d w (1:Int)) (.ret (.p (.bool false)) (zWh1 c d)) (.need (inRg 0 w.length) (.need (room ((c.events++[ETy.get .str w 0]).length) 16) (.ret (.p (.bool true)) [.cells [.pd (.str c.name),.own 5,.own 2,.own 3,.own 4,.i d] 45,.dead,.own 61 .var c.vars,.own 64 .stat c.states,.own 68 .tran c.trans,.own 9 .str (c.events++[ETy.get .str w 0])]))))) ?_
 have he:=hf.events
 refine ⟨by omega,fun h=>?_,fun h=>?_⟩
 · exact bN.no (gY (by rw [show de c d w 1=false from nt h]; simp))
 · have g:de c d w 1=true:=nf h
   obtain ⟨_,_,hn,_⟩:=jL (n:=1) g
   refine ⟨⟨by omega,by omega⟩,yR (by simp only [aj,ai,al]; omega),bN.yes (if_pos g) (IsR.of1 rfl)⟩
theorem NK (hf:Fit c 6001) (h:(gR c d w).isSome=true):ak Tryz.prog 34 [.c (.loc 0 0),.l .str w] (rdK c d) (.x (.b true)) (ckR (got (gR c d w)) d) :=
 step_ok Tryz.func34 (by kernel_rfl) (by kernel_rfl) rfl (KH c d w hf) h
theorem Nn (hf:Fit c 6001) (h:(gR c d w).isSome=false):ak Tryz.prog 34 [.c (.loc 0 0),.l .str w] (rdK c d) (.x (.b false)) [.dead,.dead,.dead,.dead,.dead] :=
 jW Tryz.func34 (by kernel_rfl) (by kernel_rfl) (KH c d w hf) h
/-! ### numbers -/
def EO:Cfg:=⟨a6,[eNb]⟩
theorem Fx:ah Tryz.prog EO.tab:=(ah.cons Ae ah.nil)
theorem Iy (a:Str) (b e f g h i:Int) (h2:2≤w.length) (hw:okW w):ak Tryz.prog 79 [.c (.loc 0 0),.l .str w] [.cells [.pd (.str a),.pd (.int .i64 b),.pd (.int .i64 e),.pd (.int .i64 f),.pd (.int .i64 g),.pd (.int .i64 h),.pd (.int .i64 i)] 61] (.x (.b ((aQ (ag w 0)).2==0&&(aQ (ag w 1)).2==0))) [.cells [.pd (.str a),.pd (.int .i64 b),.pd (.int .i64 (aQ (ag w 0)).1),.pd (.int .i64 (aQ (ag w 1)).1),.pd (.int .i64 g),.pd (.int .i64 h),.pd (.int .i64 i)] 61]:=by
 refine dg Fx Tryz.func79 (.need (inRg 0 w.length) (.need ((ETy.get .str w 0).length≤281474976710656) (.need (inRg 1 w.length) (.need ((ETy.get .str w 1).length≤281474976710656) (.ret (.p (.bool ((aQ (ETy.get .str w 0)).2==(0:Int)&&(aQ (ETy.get .str w 1)).2==(0:Int)))) [.cells [.pd (.str a),.i b,.i ((aQ (ETy.get .str w 0)).1),.i ((aQ (ETy.get .str w 1)).1),.i g,.i h,.i i] 61]))))) fun Γ=>?_
 have l0:(ETy.get .str w 0).length≤6000:=(hw.at (k:=0) (by omega)).1
 have l1:(ETy.get .str w 1).length≤6000:=(hw.at (k:=1) (by omega)).1
 exact ⟨⟨by omega,by omega⟩,by omega,⟨by omega,by omega⟩,by omega,rfl,rfl⟩
def um:Ent:=(79,fun
 | [.c (.loc 0 0),.c (.pd (.lst .str w))],[.cells [.pd (.str a),.pd (.int .i64 b),.pd (.int .i64 e),.pd (.int .i64 f),.pd (.int .i64 g),.pd (.int .i64 h),.pd (.int .i64 i)] 61]=>some (some (2≤w.length∧okW w),.x (.c (.pd (.bool ((aQ (ag w 0)).2==0&&(aQ (ag w 1)).2==0)))),[.cells [.pd (.str a),.pd (.int .i64 b),.pd (.int .i64 (aQ (ag w 0)).1),.pd (.int .i64 (aQ (ag w 1)).1),.pd (.int .i64 g),.pd (.int .i64 h),.pd (.int .i64 i)] 61])
 | _,_=>none)
theorem ug:EntOk Tryz.prog um:=entOk fun vs ck=>by
 unfold um; dsimp only; split
 · rename_i w a b e f g h i; exact entS fun hp=>Iy w a b e f g h i hp.1 hp.2
 · exact entN
def G1:Cfg:=⟨a6,[nU,eNb,um]⟩
theorem Hx:ah Tryz.prog G1.tab:=(ah.cons nL (ah.cons Ae (ah.cons ug ah.nil)))
theorem iM:(aw w (some 1) none).2=w.drop 1:=by simp [aw]
theorem okW.drop {w:List Str} (h:okW w) (n:Nat):okW (w.drop n):=fun x hx=>h x (List.mem_of_mem_drop hx)
theorem cF (k:Nat):ag (w.drop 1) k=ag w (k+1):=by
 unfold ag ETy.get
 simp only [List.getD_eq_getElem?_getD,List.getElem?_drop,Nat.add_comm 1]
theorem lN {a b c:Int}:((a==0&&b==0)&&c==0)=decide (a=0∧b=0∧c=0):=by
 rw [bV]; simp [and_assoc]
theorem KL (hf:Fit c 6001) (hw:okW w) (Γ:Ctx):J Tryz.prog 35 (az Tryz.f35) Γ (bN (jO c d w) d) [.code []] (bX Tryz.f35.ntmps [.c (.loc 0 0),.l .str w] (rdK c d)):=by
 refine jg Hx Tryz.func35 (let x2:=((aw w (some (1:Int)) none).2); let x1:=(c.vars++[{ name:=ETy.get .str w 0,kind:=(1:Int),lo:=(aQ (ag x2 0)).1,hi:=(aQ (ag x2 1)).1,init:={ kind:=(1:Int),a:=(aQ (ETy.get .str w 3)).1,b:=(0:Int) } }]); .need ((1:Int)≤4) (.ite (!de c d w (4:Int)) (.ret (.p (.bool false)) (zWh1 c d)) (.need (inRg 0 w.length) (.need (inRg 3 w.length) (.need ((ETy.get .str w 3).length≤281474976710656) (.need ((0:Int)≤1∧(1:Int)≤(w.length:Int)) (.need (2≤x2.length∧okW x2) (.need (room (List.length x1) 64) (.ret (.p (.bool ((aQ (ag x2 0)).2==(0:Int)&&(aQ (ag x2 1)).2==(0:Int)&&(aQ (ETy.get .str w 3)).2==(0:Int)))) [.cells [.pd (.str c.name),.own 1,.own 5,.own 3,.own 4,.i d] 45,.own 9 .str c.events,.dead,.own 64 .stat c.states,.own 68 .tran c.trans,.own 61 .var x1]))))))))) ?_
 conv=>zeta
 have he:=hf.vars
 refine ⟨by omega,fun h=>?_,fun h=>?_⟩
 · refine bN.no (gY ?_)
   rintro ⟨g,_⟩
   rw [show de c d w 4=true from g] at h; cases h
 · have g:de c d w 4=true:=nf h
   obtain ⟨_,_,hn,_⟩:=jL (n:=4) g
   have l3:(ETy.get .str w 3).length≤6000:=(hw.at (k:=3) (by omega)).1
   rw [iM,cF,cF]
   refine ⟨⟨by omega,by omega⟩,⟨by omega,by omega⟩,by omega,⟨by omega,by omega⟩,⟨by rw [aL]; omega,hw.drop 1⟩,gV (by simp only [aj,ai,al]; omega),?_⟩
   have e3:ETy.get .str w 3=ag w 3:=rfl
   rw [e3,lN]
   by_cases hk:(aQ (ag w 1)).2=0∧(aQ (ag w 2)).2=0∧(aQ (ag w 3)).2=0
   · rw [decide_eq_true hk]
     exact bN.yes (if_pos ⟨g,hk.1,hk.2.1,hk.2.2⟩) (IsR.of2 rfl)
   · rw [decide_eq_false hk]
     exact bN.no (gY fun x=>hk x.2)
theorem Kl (hf:Fit c 6001) (Γ:Ctx):J Tryz.prog 36 (az Tryz.f36) Γ (bN (iI c d w) d) [.code []] (bX Tryz.f36.ntmps [.c (.loc 0 0),.l .str w] (rdK c d)):=by
 refine jg vS Tryz.func36 (let x1:=(c.vars++[{ name:=ETy.get .str w 0,kind:=(2:Int),lo:=(0:Int),hi:=(1:Int),init:={ kind:=(2:Int),a:=(1:Int),b:=(0:Int) } }]); let x2:=(c.vars++[{ name:=ETy.get .str w 0,kind:=(2:Int),lo:=(0:Int),hi:=(1:Int),init:={ kind:=(2:Int),a:=(0:Int),b:=(0:Int) } }]); .need ((1:Int)≤2) (.need ((!de c d w (2:Int))=false→(0:Int)≤1∧(1:Int)<(w.length:Int)) (.need ((!de c d w (2:Int))=false∧(!ETy.get .str w 1==[116,114,117,101])=true→(0:Int)≤1∧(1:Int)<(w.length:Int)) (.ite (!de c d w (2:Int) || !ETy.get .str w 1==[116,114,117,101] && !ETy.get .str w 1==[102,97,108,115,101]) (.ret (.p (.bool false)) (zWh1 c d)) (.need (inRg 0 w.length) (.need (inRg 1 w.length) (.ite (ETy.get .str w 1==[116,114,117,101]) (.need (room (List.length x1) 64) (.ret (.p (.bool true)) [.cells [.pd (.str c.name),.own 1,.own 5,.own 3,.own 4,.i d] 45,.own 9 .str c.events,.dead,.own 64 .stat c.states,.own 68 .tran c.trans,.own 61 .var x1])) (.need (room (List.length x2) 64) (.ret (.p (.bool true)) [.cells [.pd (.str c.name),.own 1,.own 5,.own 3,.own 4,.i d] 45,.own 9 .str c.events,.dead,.own 64 .stat c.states,.own 68 .tran c.trans,.own 61 .var x2]))))))))) ?_
 conv=>zeta
 have he:=hf.vars
 have hlen:de c d w 2=true→w.length=2:=fun h=>(jL (n:=2) h).2.2.1
 have hb:∀ a b:Str,((!(a==b))=true)=(a≠b):=fun a b=>by simp
 refine ⟨by omega,fun h=>?_,fun h=>?_,fun h=>?_,fun h=>?_⟩
 · have:=hlen (nf h); omega
 · have:=hlen (nf h.1); omega
 · refine bN.no (gY ?_)
   rintro ⟨g1,g2⟩
   rw [show de c d w 2=true from g1] at h
   rcases g2 with g2 | g2
   · have g3:ETy.get .str w 1=ei:=g2
     rw [g3] at h; exact absurd h (by decide)
   · have g3:ETy.get .str w 1=fF:=g2
     rw [g3] at h; exact absurd h (by decide)
 · rw [aq] at h
   have g:de c d w 2=true:=nf h.1
   have hl:=hlen g
   refine ⟨⟨by omega,by omega⟩,⟨by omega,by omega⟩,fun h1=>?_,fun h1=>?_⟩
   · have g2:ag w 1=ei:=eq_of_beq h1
     refine ⟨gV (by simp only [aj,ai,al]; omega),bN.yes (if_pos ⟨g,.inl g2⟩) (IsR.of2 ?_)⟩
     rw [if_pos g2]; rfl
   · have g2:ag w 1≠ei:=by
      intro e
      have e2:ETy.get .str w 1=ei:=e
      rw [e2] at h1; exact absurd h1 (by decide)
     have g3:ag w 1=fF:=by
      have h3:=h.2
      rw [c8] at h3
      rcases h3 with h3 | h3
      · exact absurd (eq_of_beq (nf h3)) g2
      · exact eq_of_beq (nf h3)
     refine ⟨gV (by simp only [aj,ai,al]; omega),bN.yes (if_pos ⟨g,.inr g3⟩) (IsR.of2 ?_)⟩
     rw [if_neg g2]; rfl
/-! ### states -/
theorem iu {l:List Ev.Stat} (h:l.length≠0):l.getLast?=some (ETy.get .stat l (l.length - 1)):=by
 rw [List.getLast?_eq_getElem?]
 exact ETy.getElem?_get (t:=.stat) (by omega)
theorem kp {c:Chart} (h:c.states.length≠0):cW c=(ETy.get .stat c.states (c.states.length - 1)).depth+1:=by
 unfold cW; rw [iu h]
theorem mo {c:Chart} (h:c.states.length=0):cW c=0:=by
 unfold cW; rw [bj.1 h]; rfl
theorem jV {c:Chart} {n:Nat} (hf:Fit c n) (h:c.states.length≠0):0≤(ETy.get .stat c.states (c.states.length - 1)).depth∧(ETy.get .stat c.states (c.states.length - 1)).depth≤6000 :=
 hf.last (iu h)
theorem iH (h:n≠0) (h2:n≤100000):IntKind.wrap .i64 ((n:Int) - 1)=((n - 1:Nat):Int):=by rw [bG (by omega) (by omega)]; omega
theorem L5 (hf:Fit c 6001) (hw:okW w) (h:(jO c d w).isSome=true):ak Tryz.prog 35 [.c (.loc 0 0),.l .str w] (rdK c d) (.x (.b true)) (ckR (got (jO c d w)) d) :=
 step_ok Tryz.func35 (by kernel_rfl) (by kernel_rfl) rfl (KL c d w hf hw) h
theorem NV (hf:Fit c 6001) (hw:okW w) (h:(jO c d w).isSome=false):ak Tryz.prog 35 [.c (.loc 0 0),.l .str w] (rdK c d) (.x (.b false)) [.dead,.dead,.dead,.dead,.dead] :=
 jW Tryz.func35 (by kernel_rfl) (by kernel_rfl) (KL c d w hf hw) h
theorem Nq (hf:Fit c 6001) (h:(iI c d w).isSome=true):ak Tryz.prog 36 [.c (.loc 0 0),.l .str w] (rdK c d) (.x (.b true)) (ckR (got (iI c d w)) d) :=
 step_ok Tryz.func36 (by kernel_rfl) (by kernel_rfl) rfl (Kl c d w hf) h
theorem N8 (hf:Fit c 6001) (h:(iI c d w).isSome=false):ak Tryz.prog 36 [.c (.loc 0 0),.l .str w] (rdK c d) (.x (.b false)) [.dead,.dead,.dead,.dead,.dead] :=
 jW Tryz.func36 (by kernel_rfl) (by kernel_rfl) (Kl c d w hf) h
end Go.Proofs.YtpfidgnkokidoaaGreatDoor
namespace Go.Proofs.YtpfidgnkokidoaaGreatDoor
open Go Go.Ev
set_option maxRecDepth 100000
variable (c:Chart) (d:Int) (w:List Str) (a:Chart) (b k:Int)
abbrev zWn2:Chunk:=.cells [.pd (.str a.name),.own 1,.own 2,.own 5,.own 4,.i b] 45
abbrev zWn3:List Chunk:=[.cells [.pd (.str a.name),.own 1,.own 2,.own 3,.own 4,.i b] 45,.own 9 .str a.events,.own 61 .var a.vars,.own 64 .stat a.states,.own 68 .tran a.trans]
theorem Ge (hf:Fit c 6001) (Γ:Ctx):J Tryz.prog 82 (az Tryz.f82) Γ (bN (aH k 1 c d w) d) [.code []] (bX Tryz.f82.ntmps [.c (.loc 0 0),.i k,.l .str w,.i 1] (rdK c d)):=by
 refine jg r4 Tryz.func82 (let x4:=(c.states++[{ name:=ETy.get .str w 0,kind:=k,depth:=d,initial:=ETy.get .str w 1,entry:=[],leave:=[] }]); let x5:=(c.states++[{ name:=ETy.get .str w 0,kind:=k,depth:=d,initial:=[],entry:=[],leave:=[] }]); let x1:Tree:=(.need (inRg 0 w.length) (.ite false (.need (inRg 1 w.length) (.need (room (List.length x4) 96) (.ret (.p (.bool true)) [zWn2 c d,.own 9 .str c.events,.own 61 .var c.vars,.dead,.own 68 .tran c.trans,.own 64 .stat x4]))) (.need (room (List.length x5) 96) (.ret (.p (.bool true)) [zWn2 c d,.own 9 .str c.events,.own 61 .var c.vars,.dead,.own 68 .tran c.trans,.own 64 .stat x5])))); let x6:=(c.states.length:Int); let x2:=(d>IntKind.wrap .i64 (Stat.depth (ETy.get .stat c.states ((IntKind.wrap .i64 (x6 - 1)).toNat))+(1:Int))); let x3:Tree:=(.ret (.p (.bool false)) (zWn3 c d)); .ite (decide (x6>0)) (.need ((0:Int)≤IntKind.wrap .i64 (x6 - 1)∧IntKind.wrap .i64 (x6 - 1)<x6) (.need ((IntKind.wrap .i64 (x6 - 1)).toNat<c.states.length) (.need ((decide x2||(w.length:Int) != 1)=false→(0:Int)≤0∧(0:Int)<(w.length:Int)) (.need ((decide x2||(w.length:Int) != 1 || !aC (ETy.get .str w 0))=false→(0:Int)≤IntKind.wrap .i64 ((1:Int) - 1)∧IntKind.wrap .i64 ((1:Int) - 1)<(w.length:Int)) (.ite (decide x2||(w.length:Int) != 1 || !aC (ETy.get .str w 0) || !aC (ETy.get .str w 0)) x3 x1))))) (.need ((decide (d>(0:Int))||(w.length:Int) != 1)=false→(0:Int)≤0∧(0:Int)<(w.length:Int)) (.need ((decide (d>(0:Int))||(w.length:Int) != 1 || !aC (ETy.get .str w 0))=false→(0:Int)≤IntKind.wrap .i64 ((1:Int) - 1)∧IntKind.wrap .i64 ((1:Int) - 1)<(w.length:Int)) (.ite (decide (d>(0:Int))||(w.length:Int) != 1 || !aC (ETy.get .str w 0) || !aC (ETy.get .str w 0)) x3 x1)))) ?_
 conv=>zeta
 have hs:=hf.states
 have hw0:IntKind.wrap .i64 ((1:Int) - 1)=(0:Int):=by rw [bG (by omega) (by omega)]; rfl
 have bad:∀ r:Int,cW c=r→(decide (d>r)||((w.length:Int) != 1) || !aC (ETy.get .str w 0) || !aC (ETy.get .str w 0))=decide ¬(d≤cW c∧w.length=1∧aC (ag w 0)=true∧aC (ag w 0)=true):=fun r hr=>by
  rw [hr,bV]
  have e0:ETy.get .str w 0=ag w 0:=rfl
  have e1:ETy.get .str w 0=ag w 0:=rfl
  (try rw [e0])
  (try rw [e1])
  simp only [aA,decide_eq_true_eq,bne_iff_ne,ne_eq,aE]
  cases aC (ag w 0) <;> cases aC (ag w 0) <;> simp <;> omega
 have len:∀ r:Int,(decide (d>r)||((w.length:Int) != 1))=false→w.length=1:=fun r h=>by
  rw [aq] at h
  have:(w.length:Int)=1:=by simpa using h.2
  omega
 refine ⟨fun h=>?_,fun h=>?_⟩
 · have h1:c.states.length≠0:=by have:=of_decide_eq_true h; omega
   have hr:=kp h1
   have hd:=jV hf h1
   rw [iH h1 (by omega),aI,bG (n:=(ETy.get .stat c.states (c.states.length - 1)).depth+1) (by omega) (by omega),hw0,bad _ hr]
   refine ⟨⟨by omega,by omega⟩,by omega,fun h=>?_,fun h=>?_,fun hb=>bN.no (gY (of_decide_eq_true hb)),fun hb=>?_⟩
   · have:=len _ h; omega
   · rw [aq] at h
     have:=len _ h.1; omega
   · have hok:=Classical.not_not.1 (of_decide_eq_false hb)
     have hl:=hok.2.1
     exact ⟨⟨by omega,by omega⟩,fun x=>Bool.noConfusion x,fun _=>⟨ku (by simp only [aj,ai,al]; omega),bN.yes (if_pos hok) (IsR.of3 rfl)⟩⟩
 · have h1:c.states.length=0:=by have:=of_decide_eq_false h; omega
   have hr:=mo h1
   rw [hw0,bad _ hr]
   refine ⟨fun h=>?_,fun h=>?_,fun hb=>bN.no (gY (of_decide_eq_true hb)),fun hb=>?_⟩
   · have:=len _ h; omega
   · rw [aq] at h
     have:=len _ h.1; omega
   · have hok:=Classical.not_not.1 (of_decide_eq_false hb)
     have hl:=hok.2.1
     exact ⟨⟨by omega,by omega⟩,fun x=>Bool.noConfusion x,fun _=>⟨ku (by simp only [aj,ai,al]; omega),bN.yes (if_pos hok) (IsR.of3 rfl)⟩⟩
theorem Ff (hf:Fit c 6001) (Γ:Ctx):J Tryz.prog 82 (az Tryz.f82) Γ (bN (aH k 2 c d w) d) [.code []] (bX Tryz.f82.ntmps [.c (.loc 0 0),.i k,.l .str w,.i 2] (rdK c d)):=by
 refine jg r4 Tryz.func82 (let x4:=(c.states++[{ name:=ETy.get .str w 0,kind:=k,depth:=d,initial:=ETy.get .str w 1,entry:=[],leave:=[] }]); let x5:=(c.states++[{ name:=ETy.get .str w 0,kind:=k,depth:=d,initial:=[],entry:=[],leave:=[] }]); let x1:Tree:=(.need (inRg 0 w.length) (.ite true (.need (inRg 1 w.length) (.need (room (List.length x4) 96) (.ret (.p (.bool true)) [zWn2 c d,.own 9 .str c.events,.own 61 .var c.vars,.dead,.own 68 .tran c.trans,.own 64 .stat x4]))) (.need (room (List.length x5) 96) (.ret (.p (.bool true)) [zWn2 c d,.own 9 .str c.events,.own 61 .var c.vars,.dead,.own 68 .tran c.trans,.own 64 .stat x5])))); let x6:=(c.states.length:Int); let x2:=(d>IntKind.wrap .i64 (Stat.depth (ETy.get .stat c.states ((IntKind.wrap .i64 (x6 - 1)).toNat))+(1:Int))); let x3:Tree:=(.ret (.p (.bool false)) (zWn3 c d)); .ite (decide (x6>0)) (.need ((0:Int)≤IntKind.wrap .i64 (x6 - 1)∧IntKind.wrap .i64 (x6 - 1)<x6) (.need ((IntKind.wrap .i64 (x6 - 1)).toNat<c.states.length) (.need ((decide x2||(w.length:Int) != 2)=false→(0:Int)≤0∧(0:Int)<(w.length:Int)) (.need ((decide x2||(w.length:Int) != 2 || !aC (ETy.get .str w 0))=false→(0:Int)≤IntKind.wrap .i64 ((2:Int) - 1)∧IntKind.wrap .i64 ((2:Int) - 1)<(w.length:Int)) (.ite (decide x2||(w.length:Int) != 2 || !aC (ETy.get .str w 0) || !aC (ETy.get .str w 1)) x3 x1))))) (.need ((decide (d>(0:Int))||(w.length:Int) != 2)=false→(0:Int)≤0∧(0:Int)<(w.length:Int)) (.need ((decide (d>(0:Int))||(w.length:Int) != 2 || !aC (ETy.get .str w 0))=false→(0:Int)≤IntKind.wrap .i64 ((2:Int) - 1)∧IntKind.wrap .i64 ((2:Int) - 1)<(w.length:Int)) (.ite (decide (d>(0:Int))||(w.length:Int) != 2 || !aC (ETy.get .str w 0) || !aC (ETy.get .str w 1)) x3 x1)))) ?_
 conv=>zeta
 have hs:=hf.states
 have hw0:IntKind.wrap .i64 ((2:Int) - 1)=(1:Int):=by rw [bG (by omega) (by omega)]; rfl
 have bad:∀ r:Int,cW c=r→(decide (d>r)||((w.length:Int) != 2) || !aC (ETy.get .str w 0) || !aC (ETy.get .str w 1))=decide ¬(d≤cW c∧w.length=2∧aC (ag w 0)=true∧aC (ag w 1)=true):=fun r hr=>by
  rw [hr,bV]
  have e0:ETy.get .str w 0=ag w 0:=rfl
  have e1:ETy.get .str w 1=ag w 1:=rfl
  (try rw [e0])
  (try rw [e1])
  simp only [aA,decide_eq_true_eq,bne_iff_ne,ne_eq,aE]
  cases aC (ag w 0) <;> cases aC (ag w 1) <;> simp <;> omega
 have len:∀ r:Int,(decide (d>r)||((w.length:Int) != 2))=false→w.length=2:=fun r h=>by
  rw [aq] at h
  have:(w.length:Int)=2:=by simpa using h.2
  omega
 refine ⟨fun h=>?_,fun h=>?_⟩
 · have h1:c.states.length≠0:=by have:=of_decide_eq_true h; omega
   have hr:=kp h1
   have hd:=jV hf h1
   rw [iH h1 (by omega),aI,bG (n:=(ETy.get .stat c.states (c.states.length - 1)).depth+1) (by omega) (by omega),hw0,bad _ hr]
   refine ⟨⟨by omega,by omega⟩,by omega,fun h=>?_,fun h=>?_,fun hb=>bN.no (gY (of_decide_eq_true hb)),fun hb=>?_⟩
   · have:=len _ h; omega
   · rw [aq] at h
     have:=len _ h.1; omega
   · have hok:=Classical.not_not.1 (of_decide_eq_false hb)
     have hl:=hok.2.1
     exact ⟨⟨by omega,by omega⟩,fun _=>⟨⟨by omega,by omega⟩,ku (by simp only [aj,ai,al]; omega),bN.yes (if_pos hok) (IsR.of3 rfl)⟩,fun x=>Bool.noConfusion x⟩
 · have h1:c.states.length=0:=by have:=of_decide_eq_false h; omega
   have hr:=mo h1
   rw [hw0,bad _ hr]
   refine ⟨fun h=>?_,fun h=>?_,fun hb=>bN.no (gY (of_decide_eq_true hb)),fun hb=>?_⟩
   · have:=len _ h; omega
   · rw [aq] at h
     have:=len _ h.1; omega
   · have hok:=Classical.not_not.1 (of_decide_eq_false hb)
     have hl:=hok.2.1
     exact ⟨⟨by omega,by omega⟩,fun _=>⟨⟨by omega,by omega⟩,ku (by simp only [aj,ai,al]; omega),bN.yes (if_pos hok) (IsR.of3 rfl)⟩,fun x=>Bool.noConfusion x⟩
theorem MB (hf:Fit c 6001) (h:(aH k 1 c d w).isSome=true):ak Tryz.prog 82 [.c (.loc 0 0),.i k,.l .str w,.i 1] (rdK c d) (.x (.b true)) (ckR (got (aH k 1 c d w)) d) :=
 step_ok Tryz.func82 (by kernel_rfl) (by kernel_rfl) rfl (Ge c d w k hf) h
abbrev zWn1:List Chunk:=[.dead,.dead,.dead,.dead,.dead]
theorem Me (hf:Fit c 6001) (h:(aH k 1 c d w).isSome=false):ak Tryz.prog 82 [.c (.loc 0 0),.i k,.l .str w,.i 1] (rdK c d) (.x (.b false)) zWn1 :=
 jW Tryz.func82 (by kernel_rfl) (by kernel_rfl) (Ge c d w k hf) h
def xc:Ent:=(82,fun
 | [.c (.loc 0 0),.c (.pd (.int .i64 k)),.c (.pd (.lst .str w)),.c (.pd (.int .i64 1))],[.cells [.pd (.str nm),.own 1,.own 2,.own 3,.own 4,.pd (.int .i64 d)] 45,.own 9 .str ev,.own 61 .var vs,.own 64 .stat st,.own 68 .tran tr]=>some (some (Fit ⟨nm,ev,vs,st,tr⟩ 6001∧(aH k 1 ⟨nm,ev,vs,st,tr⟩ d w).isSome=true),.x (.c (.pd (.bool true))),[.cells [.pd (.str (got (aH k 1 ⟨nm,ev,vs,st,tr⟩ d w)).name),.own 5,.own 6,.own 7,.own 8,.pd (.int .i64 d)] 45,.dead,.dead,.dead,.dead,.own 9 .str (got (aH k 1 ⟨nm,ev,vs,st,tr⟩ d w)).events,.own 61 .var (got (aH k 1 ⟨nm,ev,vs,st,tr⟩ d w)).vars,.own 64 .stat (got (aH k 1 ⟨nm,ev,vs,st,tr⟩ d w)).states,.own 68 .tran (got (aH k 1 ⟨nm,ev,vs,st,tr⟩ d w)).trans])
 | _,_=>none)
theorem IX:EntOk Tryz.prog xc:=entOk fun vs ck=>by
 unfold xc; dsimp only; split
 · rename_i k w nm d ev vs st tr; exact entS fun hp=>MB ⟨nm,ev,vs,st,tr⟩ d w k hp.1 hp.2
 · exact entN
def xk:Ent:=(82,fun
 | [.c (.loc 0 0),.c (.pd (.int .i64 k)),.c (.pd (.lst .str w)),.c (.pd (.int .i64 1))],[.cells [.pd (.str nm),.own 1,.own 2,.own 3,.own 4,.pd (.int .i64 d)] 45,.own 9 .str ev,.own 61 .var vs,.own 64 .stat st,.own 68 .tran tr]=>some (some (Fit ⟨nm,ev,vs,st,tr⟩ 6001∧(aH k 1 ⟨nm,ev,vs,st,tr⟩ d w).isSome=false),.x (.c (.pd (.bool false))),[.dead,.dead,.dead,.dead,.dead])
 | _,_=>none)
theorem JI:EntOk Tryz.prog xk:=entOk fun vs ck=>by
 unfold xk; dsimp only; split
 · rename_i k w nm d ev vs st tr; exact entS fun hp=>Me ⟨nm,ev,vs,st,tr⟩ d w k hp.1 hp.2
 · exact entN
def qu:Cfg:=⟨a6,[xc]⟩
theorem nI:ah Tryz.prog qu.tab:=(ah.cons IX ah.nil)
def qA:Cfg:=⟨a6,[xk]⟩
theorem nK:ah Tryz.prog qA.tab:=(ah.cons JI ah.nil)
theorem Mo (hf:Fit c 6001) (h:(aH k 2 c d w).isSome=true):ak Tryz.prog 82 [.c (.loc 0 0),.i k,.l .str w,.i 2] (rdK c d) (.x (.b true)) (ckR (got (aH k 2 c d w)) d) :=
 step_ok Tryz.func82 (by kernel_rfl) (by kernel_rfl) rfl (Ff c d w k hf) h
theorem MP (hf:Fit c 6001) (h:(aH k 2 c d w).isSome=false):ak Tryz.prog 82 [.c (.loc 0 0),.i k,.l .str w,.i 2] (rdK c d) (.x (.b false)) zWn1 :=
 jW Tryz.func82 (by kernel_rfl) (by kernel_rfl) (Ff c d w k hf) h
def w7:Ent:=(82,fun
 | [.c (.loc 0 0),.c (.pd (.int .i64 k)),.c (.pd (.lst .str w)),.c (.pd (.int .i64 2))],[.cells [.pd (.str nm),.own 1,.own 2,.own 3,.own 4,.pd (.int .i64 d)] 45,.own 9 .str ev,.own 61 .var vs,.own 64 .stat st,.own 68 .tran tr]=>some (some (Fit ⟨nm,ev,vs,st,tr⟩ 6001∧(aH k 2 ⟨nm,ev,vs,st,tr⟩ d w).isSome=true),.x (.c (.pd (.bool true))),[.cells [.pd (.str (got (aH k 2 ⟨nm,ev,vs,st,tr⟩ d w)).name),.own 5,.own 6,.own 7,.own 8,.pd (.int .i64 d)] 45,.dead,.dead,.dead,.dead,.own 9 .str (got (aH k 2 ⟨nm,ev,vs,st,tr⟩ d w)).events,.own 61 .var (got (aH k 2 ⟨nm,ev,vs,st,tr⟩ d w)).vars,.own 64 .stat (got (aH k 2 ⟨nm,ev,vs,st,tr⟩ d w)).states,.own 68 .tran (got (aH k 2 ⟨nm,ev,vs,st,tr⟩ d w)).trans])
 | _,_=>none)
theorem Ju:EntOk Tryz.prog w7:=entOk fun vs ck=>by
 unfold w7; dsimp only; split
 · rename_i k w nm d ev vs st tr; exact entS fun hp=>Mo ⟨nm,ev,vs,st,tr⟩ d w k hp.1 hp.2
 · exact entN
def xq:Ent:=(82,fun
 | [.c (.loc 0 0),.c (.pd (.int .i64 k)),.c (.pd (.lst .str w)),.c (.pd (.int .i64 2))],[.cells [.pd (.str nm),.own 1,.own 2,.own 3,.own 4,.pd (.int .i64 d)] 45,.own 9 .str ev,.own 61 .var vs,.own 64 .stat st,.own 68 .tran tr]=>some (some (Fit ⟨nm,ev,vs,st,tr⟩ 6001∧(aH k 2 ⟨nm,ev,vs,st,tr⟩ d w).isSome=false),.x (.c (.pd (.bool false))),[.dead,.dead,.dead,.dead,.dead])
 | _,_=>none)
theorem JY:EntOk Tryz.prog xq:=entOk fun vs ck=>by
 unfold xq; dsimp only; split
 · rename_i k w nm d ev vs st tr; exact entS fun hp=>MP ⟨nm,ev,vs,st,tr⟩ d w k hp.1 hp.2
 · exact entN
def qw:Cfg:=⟨a6,[w7]⟩
theorem oe:ah Tryz.prog qw.tab:=(ah.cons Ju ah.nil)
def qn:Cfg:=⟨a6,[xq]⟩
theorem nO:ah Tryz.prog qn.tab:=(ah.cons JY ah.nil)
theorem Iu (hf:Fit c 6001) (h:(aH 1 1 c d w).isSome=true):ak Tryz.prog 38 [.c (.loc 0 0),.l .str w] (rdK c d) (.x (.b true)) (ckR (got (aH 1 1 c d w)) d):=by
 refine dg nI Tryz.func38 (.need (Fit c 6001∧Option.isSome (aH (1:Int) 1 c d w)=true) (.ret (.p (.bool true)) [.cells [.pd (.str (Chart.name (got (aH (1:Int) 1 c d w)))),.own 5,.own 6,.own 7,.own 8,.i d] 45,.dead,.dead,.dead,.dead,.own 9 .str (Chart.events (got (aH (1:Int) 1 c d w))),.own 61 .var (Chart.vars (got (aH (1:Int) 1 c d w))),.own 64 .stat (Chart.states (got (aH (1:Int) 1 c d w))),.own 68 .tran (Chart.trans (got (aH (1:Int) 1 c d w)))])) fun Γ=>⟨⟨hf,h⟩,rfl,rfl⟩
theorem Ih (hf:Fit c 6001) (h:(aH 1 1 c d w).isSome=false):ak Tryz.prog 38 [.c (.loc 0 0),.l .str w] (rdK c d) (.x (.b false)) zWn1:=by
 refine dg nK Tryz.func38 (.need (Fit c 6001∧Option.isSome (aH (1:Int) 1 c d w)=false) (.ret (.p (.bool false)) zWn1)) fun Γ=>⟨⟨hf,h⟩,rfl,rfl⟩
theorem Lr (hf:Fit c 6001) (h:(aH 3 1 c d w).isSome=true):ak Tryz.prog 39 [.c (.loc 0 0),.l .str w] (rdK c d) (.x (.b true)) (ckR (got (aH 3 1 c d w)) d):=by
 refine dg nI Tryz.func39 (.need (Fit c 6001∧Option.isSome (aH (3:Int) 1 c d w)=true) (.ret (.p (.bool true)) [.cells [.pd (.str (Chart.name (got (aH (3:Int) 1 c d w)))),.own 5,.own 6,.own 7,.own 8,.i d] 45,.dead,.dead,.dead,.dead,.own 9 .str (Chart.events (got (aH (3:Int) 1 c d w))),.own 61 .var (Chart.vars (got (aH (3:Int) 1 c d w))),.own 64 .stat (Chart.states (got (aH (3:Int) 1 c d w))),.own 68 .tran (Chart.trans (got (aH (3:Int) 1 c d w)))])) fun Γ=>⟨⟨hf,h⟩,rfl,rfl⟩
theorem LP (hf:Fit c 6001) (h:(aH 3 1 c d w).isSome=false):ak Tryz.prog 39 [.c (.loc 0 0),.l .str w] (rdK c d) (.x (.b false)) zWn1:=by
 refine dg nK Tryz.func39 (.need (Fit c 6001∧Option.isSome (aH (3:Int) 1 c d w)=false) (.ret (.p (.bool false)) zWn1)) fun Γ=>⟨⟨hf,h⟩,rfl,rfl⟩
theorem Iw (hf:Fit c 6001) (h:(aH 4 1 c d w).isSome=true):ak Tryz.prog 40 [.c (.loc 0 0),.l .str w] (rdK c d) (.x (.b true)) (ckR (got (aH 4 1 c d w)) d):=by
 refine dg nI Tryz.func40 (.need (Fit c 6001∧Option.isSome (aH (4:Int) 1 c d w)=true) (.ret (.p (.bool true)) [.cells [.pd (.str (Chart.name (got (aH (4:Int) 1 c d w)))),.own 5,.own 6,.own 7,.own 8,.i d] 45,.dead,.dead,.dead,.dead,.own 9 .str (Chart.events (got (aH (4:Int) 1 c d w))),.own 61 .var (Chart.vars (got (aH (4:Int) 1 c d w))),.own 64 .stat (Chart.states (got (aH (4:Int) 1 c d w))),.own 68 .tran (Chart.trans (got (aH (4:Int) 1 c d w)))])) fun Γ=>⟨⟨hf,h⟩,rfl,rfl⟩
theorem HZ (hf:Fit c 6001) (h:(aH 4 1 c d w).isSome=false):ak Tryz.prog 40 [.c (.loc 0 0),.l .str w] (rdK c d) (.x (.b false)) zWn1:=by
 refine dg nK Tryz.func40 (.need (Fit c 6001∧Option.isSome (aH (4:Int) 1 c d w)=false) (.ret (.p (.bool false)) zWn1)) fun Γ=>⟨⟨hf,h⟩,rfl,rfl⟩
theorem M6 (hf:Fit c 6001) (h:(aH 2 2 c d w).isSome=true):ak Tryz.prog 41 [.c (.loc 0 0),.l .str w] (rdK c d) (.x (.b true)) (ckR (got (aH 2 2 c d w)) d):=by
 refine dg oe Tryz.func41 (.need (Fit c 6001∧Option.isSome (aH (2:Int) 2 c d w)=true) (.ret (.p (.bool true)) [.cells [.pd (.str (Chart.name (got (aH (2:Int) 2 c d w)))),.own 5,.own 6,.own 7,.own 8,.i d] 45,.dead,.dead,.dead,.dead,.own 9 .str (Chart.events (got (aH (2:Int) 2 c d w))),.own 61 .var (Chart.vars (got (aH (2:Int) 2 c d w))),.own 64 .stat (Chart.states (got (aH (2:Int) 2 c d w))),.own 68 .tran (Chart.trans (got (aH (2:Int) 2 c d w)))])) fun Γ=>⟨⟨hf,h⟩,rfl,rfl⟩
theorem NS (hf:Fit c 6001) (h:(aH 2 2 c d w).isSome=false):ak Tryz.prog 41 [.c (.loc 0 0),.l .str w] (rdK c d) (.x (.b false)) zWn1:=by
 refine dg nO Tryz.func41 (.need (Fit c 6001∧Option.isSome (aH (2:Int) 2 c d w)=false) (.ret (.p (.bool false)) zWn1)) fun Γ=>⟨⟨hf,h⟩,rfl,rfl⟩
theorem D0 (hf:Fit c 6001) (h:(aH 5 2 c d w).isSome=true):ak Tryz.prog 42 [.c (.loc 0 0),.l .str w] (rdK c d) (.x (.b true)) (ckR (got (aH 5 2 c d w)) d):=by
 refine dg oe Tryz.func42 (.need (Fit c 6001∧Option.isSome (aH (5:Int) 2 c d w)=true) (.ret (.p (.bool true)) [.cells [.pd (.str (Chart.name (got (aH (5:Int) 2 c d w)))),.own 5,.own 6,.own 7,.own 8,.i d] 45,.dead,.dead,.dead,.dead,.own 9 .str (Chart.events (got (aH (5:Int) 2 c d w))),.own 61 .var (Chart.vars (got (aH (5:Int) 2 c d w))),.own 64 .stat (Chart.states (got (aH (5:Int) 2 c d w))),.own 68 .tran (Chart.trans (got (aH (5:Int) 2 c d w)))])) fun Γ=>⟨⟨hf,h⟩,rfl,rfl⟩
theorem DZ (hf:Fit c 6001) (h:(aH 5 2 c d w).isSome=false):ak Tryz.prog 42 [.c (.loc 0 0),.l .str w] (rdK c d) (.x (.b false)) zWn1:=by
 refine dg nO Tryz.func42 (.need (Fit c 6001∧Option.isSome (aH (5:Int) 2 c d w)=false) (.ret (.p (.bool false)) zWn1)) fun Γ=>⟨⟨hf,h⟩,rfl,rfl⟩
theorem MN (hf:Fit c 6001) (h:(aH 6 2 c d w).isSome=true):ak Tryz.prog 43 [.c (.loc 0 0),.l .str w] (rdK c d) (.x (.b true)) (ckR (got (aH 6 2 c d w)) d):=by
 refine dg oe Tryz.func43 (.need (Fit c 6001∧Option.isSome (aH (6:Int) 2 c d w)=true) (.ret (.p (.bool true)) [.cells [.pd (.str (Chart.name (got (aH (6:Int) 2 c d w)))),.own 5,.own 6,.own 7,.own 8,.i d] 45,.dead,.dead,.dead,.dead,.own 9 .str (Chart.events (got (aH (6:Int) 2 c d w))),.own 61 .var (Chart.vars (got (aH (6:Int) 2 c d w))),.own 64 .stat (Chart.states (got (aH (6:Int) 2 c d w))),.own 68 .tran (Chart.trans (got (aH (6:Int) 2 c d w)))])) fun Γ=>⟨⟨hf,h⟩,rfl,rfl⟩
theorem Lf (hf:Fit c 6001) (h:(aH 6 2 c d w).isSome=false):ak Tryz.prog 43 [.c (.loc 0 0),.l .str w] (rdK c d) (.x (.b false)) zWn1:=by
 refine dg nO Tryz.func43 (.need (Fit c 6001∧Option.isSome (aH (6:Int) 2 c d w)=false) (.ret (.p (.bool false)) zWn1)) fun Γ=>⟨⟨hf,h⟩,rfl,rfl⟩
end Go.Proofs.YtpfidgnkokidoaaGreatDoor

/- Contracts: the program's reader of charts: states' lines. Conditions: sizes. -/
import Derived.Test.YtpfidgnkokidoaaGreatDoorWh
namespace Go.Proofs.YtpfidgnkokidoaaGreatDoor
open Go Go.Ev
set_option maxRecDepth 100000
variable (c:Chart) (d:Int) (w:List Str) (a:Chart) (b k:Int)
abbrev zWn2:Chunk:=.cells [.pd (.str a.name),.own 1,.own 2,.own 5,.own 4,.i b] 45
abbrev zWn3:List Chunk:=[.cells [.pd (.str a.name),.own 1,.own 2,.own 3,.own 4,.i b] 45,.own 9 .str a.events,.own 61 .var a.vars,.own 64 .stat a.states,.own 68 .tran a.trans]
theorem Hu (hf:Fit c 6001) (Γ:Ctx):J Tryz.prog 82 (aI Tryz.f82) Γ (bM (aN k 1 c d w) d) [.code []] (cN Tryz.f82.ntmps [.c (.loc 0 0),.i k,.l .str w,.i 1] (rdK c d)):=by
 refine jg th Tryz.func82 (let x4:=(c.states++[{ name:=ETy.get .str w 0,kind:=k,depth:=d,initial:=ETy.get .str w 1,entry:=[],leave:=[] }]); let x5:=(c.states++[{ name:=ETy.get .str w 0,kind:=k,depth:=d,initial:=[],entry:=[],leave:=[] }]); let x1:Tree:=(.need (inRg 0 w.length) (.ite false (.need (inRg 1 w.length) (.need (room (List.length x4) 96) (.ret (.p (.bool true)) [zWn2 c d,.own 9 .str c.events,.own 61 .var c.vars,.dead,.own 68 .tran c.trans,.own 64 .stat x4]))) (.need (room (List.length x5) 96) (.ret (.p (.bool true)) [zWn2 c d,.own 9 .str c.events,.own 61 .var c.vars,.dead,.own 68 .tran c.trans,.own 64 .stat x5])))); let x6:=(c.states.length:Int); let x2:=(d>IntKind.wrap .i64 (Stat.depth (ETy.get .stat c.states ((IntKind.wrap .i64 (x6 - 1)).toNat))+(1:Int))); let x3:Tree:=(.ret (.p (.bool false)) (zWn3 c d)); .ite (decide (x6>0)) (.need ((0:Int)≤IntKind.wrap .i64 (x6 - 1)∧IntKind.wrap .i64 (x6 - 1)<x6) (.need ((IntKind.wrap .i64 (x6 - 1)).toNat<c.states.length) (.need ((decide x2||(w.length:Int) != 1)=false→(0:Int)≤0∧(0:Int)<(w.length:Int)) (.need ((decide x2||(w.length:Int) != 1 || !aP (ETy.get .str w 0))=false→(0:Int)≤IntKind.wrap .i64 ((1:Int) - 1)∧IntKind.wrap .i64 ((1:Int) - 1)<(w.length:Int)) (.ite (decide x2||(w.length:Int) != 1 || !aP (ETy.get .str w 0) || !aP (ETy.get .str w 0)) x3 x1))))) (.need ((decide (d>(0:Int))||(w.length:Int) != 1)=false→(0:Int)≤0∧(0:Int)<(w.length:Int)) (.need ((decide (d>(0:Int))||(w.length:Int) != 1 || !aP (ETy.get .str w 0))=false→(0:Int)≤IntKind.wrap .i64 ((1:Int) - 1)∧IntKind.wrap .i64 ((1:Int) - 1)<(w.length:Int)) (.ite (decide (d>(0:Int))||(w.length:Int) != 1 || !aP (ETy.get .str w 0) || !aP (ETy.get .str w 0)) x3 x1)))) ?_
 conv=>zeta
 have hs:=hf.states
 have hw0:IntKind.wrap .i64 ((1:Int) - 1)=(0:Int):=by rw [cG (by omega) (by omega)]; rfl
 have bad:∀ r:Int,jb c=r→(decide (d>r)||((w.length:Int) != 1) || !aP (ETy.get .str w 0) || !aP (ETy.get .str w 0))=decide ¬(d≤jb c∧w.length=1∧aP (an w 0)=true∧aP (an w 0)=true):=fun r hr=>by
  rw [hr,cL]
  have e0:ETy.get .str w 0=an w 0:=rfl
  have e1:ETy.get .str w 0=an w 0:=rfl
  (try rw [e0])
  (try rw [e1])
  simp only [aH,decide_eq_true_eq,bne_iff_ne,ne_eq,aD]
  cases aP (an w 0) <;> cases aP (an w 0) <;> simp <;> omega
 have len:∀ r:Int,(decide (d>r)||((w.length:Int) != 1))=false→w.length=1:=fun r h=>by
  rw [aJ] at h
  have:(w.length:Int)=1:=by simpa using h.2
  omega
 refine ⟨fun h=>?_,fun h=>?_⟩
 · have h1:c.states.length≠0:=by have:=of_decide_eq_true h; omega
   have hr:=xA h1
   have hd:=tJ hf h1
   rw [mj h1 (by omega),bj,cG (n:=(ETy.get .stat c.states (c.states.length - 1)).depth+1) (by omega) (by omega),hw0,bad _ hr]
   refine ⟨⟨by omega,by omega⟩,by omega,fun h=>?_,fun h=>?_,fun hb=>bM.no (iF (of_decide_eq_true hb)),fun hb=>?_⟩
   · have:=len _ h; omega
   · rw [aJ] at h
     have:=len _ h.1; omega
   · have hok:=Classical.not_not.1 (of_decide_eq_false hb)
     have hl:=hok.2.1
     exact ⟨⟨by omega,by omega⟩,fun x=>Bool.noConfusion x,fun _=>⟨vI (by simp only [ag,ah,aj]; omega),bM.yes (if_pos hok) (IsR.of3 rfl)⟩⟩
 · have h1:c.states.length=0:=by have:=of_decide_eq_false h; omega
   have hr:=xh h1
   rw [hw0,bad _ hr]
   refine ⟨fun h=>?_,fun h=>?_,fun hb=>bM.no (iF (of_decide_eq_true hb)),fun hb=>?_⟩
   · have:=len _ h; omega
   · rw [aJ] at h
     have:=len _ h.1; omega
   · have hok:=Classical.not_not.1 (of_decide_eq_false hb)
     have hl:=hok.2.1
     exact ⟨⟨by omega,by omega⟩,fun x=>Bool.noConfusion x,fun _=>⟨vI (by simp only [ag,ah,aj]; omega),bM.yes (if_pos hok) (IsR.of3 rfl)⟩⟩
theorem IV (hf:Fit c 6001) (Γ:Ctx):J Tryz.prog 82 (aI Tryz.f82) Γ (bM (aN k 2 c d w) d) [.code []] (cN Tryz.f82.ntmps [.c (.loc 0 0),.i k,.l .str w,.i 2] (rdK c d)):=by
 refine jg th Tryz.func82 (let x4:=(c.states++[{ name:=ETy.get .str w 0,kind:=k,depth:=d,initial:=ETy.get .str w 1,entry:=[],leave:=[] }]); let x5:=(c.states++[{ name:=ETy.get .str w 0,kind:=k,depth:=d,initial:=[],entry:=[],leave:=[] }]); let x1:Tree:=(.need (inRg 0 w.length) (.ite true (.need (inRg 1 w.length) (.need (room (List.length x4) 96) (.ret (.p (.bool true)) [zWn2 c d,.own 9 .str c.events,.own 61 .var c.vars,.dead,.own 68 .tran c.trans,.own 64 .stat x4]))) (.need (room (List.length x5) 96) (.ret (.p (.bool true)) [zWn2 c d,.own 9 .str c.events,.own 61 .var c.vars,.dead,.own 68 .tran c.trans,.own 64 .stat x5])))); let x6:=(c.states.length:Int); let x2:=(d>IntKind.wrap .i64 (Stat.depth (ETy.get .stat c.states ((IntKind.wrap .i64 (x6 - 1)).toNat))+(1:Int))); let x3:Tree:=(.ret (.p (.bool false)) (zWn3 c d)); .ite (decide (x6>0)) (.need ((0:Int)≤IntKind.wrap .i64 (x6 - 1)∧IntKind.wrap .i64 (x6 - 1)<x6) (.need ((IntKind.wrap .i64 (x6 - 1)).toNat<c.states.length) (.need ((decide x2||(w.length:Int) != 2)=false→(0:Int)≤0∧(0:Int)<(w.length:Int)) (.need ((decide x2||(w.length:Int) != 2 || !aP (ETy.get .str w 0))=false→(0:Int)≤IntKind.wrap .i64 ((2:Int) - 1)∧IntKind.wrap .i64 ((2:Int) - 1)<(w.length:Int)) (.ite (decide x2||(w.length:Int) != 2 || !aP (ETy.get .str w 0) || !aP (ETy.get .str w 1)) x3 x1))))) (.need ((decide (d>(0:Int))||(w.length:Int) != 2)=false→(0:Int)≤0∧(0:Int)<(w.length:Int)) (.need ((decide (d>(0:Int))||(w.length:Int) != 2 || !aP (ETy.get .str w 0))=false→(0:Int)≤IntKind.wrap .i64 ((2:Int) - 1)∧IntKind.wrap .i64 ((2:Int) - 1)<(w.length:Int)) (.ite (decide (d>(0:Int))||(w.length:Int) != 2 || !aP (ETy.get .str w 0) || !aP (ETy.get .str w 1)) x3 x1)))) ?_
 conv=>zeta
 have hs:=hf.states
 have hw0:IntKind.wrap .i64 ((2:Int) - 1)=(1:Int):=by rw [cG (by omega) (by omega)]; rfl
 have bad:∀ r:Int,jb c=r→(decide (d>r)||((w.length:Int) != 2) || !aP (ETy.get .str w 0) || !aP (ETy.get .str w 1))=decide ¬(d≤jb c∧w.length=2∧aP (an w 0)=true∧aP (an w 1)=true):=fun r hr=>by
  rw [hr,cL]
  have e0:ETy.get .str w 0=an w 0:=rfl
  have e1:ETy.get .str w 1=an w 1:=rfl
  (try rw [e0])
  (try rw [e1])
  simp only [aH,decide_eq_true_eq,bne_iff_ne,ne_eq,aD]
  cases aP (an w 0) <;> cases aP (an w 1) <;> simp <;> omega
 have len:∀ r:Int,(decide (d>r)||((w.length:Int) != 2))=false→w.length=2:=fun r h=>by
  rw [aJ] at h
  have:(w.length:Int)=2:=by simpa using h.2
  omega
 refine ⟨fun h=>?_,fun h=>?_⟩
 · have h1:c.states.length≠0:=by have:=of_decide_eq_true h; omega
   have hr:=xA h1
   have hd:=tJ hf h1
   rw [mj h1 (by omega),bj,cG (n:=(ETy.get .stat c.states (c.states.length - 1)).depth+1) (by omega) (by omega),hw0,bad _ hr]
   refine ⟨⟨by omega,by omega⟩,by omega,fun h=>?_,fun h=>?_,fun hb=>bM.no (iF (of_decide_eq_true hb)),fun hb=>?_⟩
   · have:=len _ h; omega
   · rw [aJ] at h
     have:=len _ h.1; omega
   · have hok:=Classical.not_not.1 (of_decide_eq_false hb)
     have hl:=hok.2.1
     exact ⟨⟨by omega,by omega⟩,fun _=>⟨⟨by omega,by omega⟩,vI (by simp only [ag,ah,aj]; omega),bM.yes (if_pos hok) (IsR.of3 rfl)⟩,fun x=>Bool.noConfusion x⟩
 · have h1:c.states.length=0:=by have:=of_decide_eq_false h; omega
   have hr:=xh h1
   rw [hw0,bad _ hr]
   refine ⟨fun h=>?_,fun h=>?_,fun hb=>bM.no (iF (of_decide_eq_true hb)),fun hb=>?_⟩
   · have:=len _ h; omega
   · rw [aJ] at h
     have:=len _ h.1; omega
   · have hok:=Classical.not_not.1 (of_decide_eq_false hb)
     have hl:=hok.2.1
     exact ⟨⟨by omega,by omega⟩,fun _=>⟨⟨by omega,by omega⟩,vI (by simp only [ag,ah,aj]; omega),bM.yes (if_pos hok) (IsR.of3 rfl)⟩,fun x=>Bool.noConfusion x⟩
theorem Np (hf:Fit c 6001) (h:(aN k 1 c d w).isSome=true):ak Tryz.prog 82 [.c (.loc 0 0),.i k,.l .str w,.i 1] (rdK c d) (.x (.b true)) (ckR (got (aN k 1 c d w)) d) :=
 step_ok Tryz.func82 (by kernel_rfl) (by kernel_rfl) rfl (Hu c d w k hf) h
abbrev zWn1:List Chunk:=[.dead,.dead,.dead,.dead,.dead]
theorem Nw (hf:Fit c 6001) (h:(aN k 1 c d w).isSome=false):ak Tryz.prog 82 [.c (.loc 0 0),.i k,.l .str w,.i 1] (rdK c d) (.x (.b false)) zWn1 :=
 kO Tryz.func82 (by kernel_rfl) (by kernel_rfl) (Hu c d w k hf) h
def yN:Ent:=(82,fun
 | [.c (.loc 0 0),.c (.pd (.int .i64 k)),.c (.pd (.lst .str w)),.c (.pd (.int .i64 1))],[.cells [.pd (.str nm),.own 1,.own 2,.own 3,.own 4,.pd (.int .i64 d)] 45,.own 9 .str ev,.own 61 .var vs,.own 64 .stat st,.own 68 .tran tr]=>some (some (Fit ⟨nm,ev,vs,st,tr⟩ 6001∧(aN k 1 ⟨nm,ev,vs,st,tr⟩ d w).isSome=true),.x (.c (.pd (.bool true))),[.cells [.pd (.str (got (aN k 1 ⟨nm,ev,vs,st,tr⟩ d w)).name),.own 5,.own 6,.own 7,.own 8,.pd (.int .i64 d)] 45,.dead,.dead,.dead,.dead,.own 9 .str (got (aN k 1 ⟨nm,ev,vs,st,tr⟩ d w)).events,.own 61 .var (got (aN k 1 ⟨nm,ev,vs,st,tr⟩ d w)).vars,.own 64 .stat (got (aN k 1 ⟨nm,ev,vs,st,tr⟩ d w)).states,.own 68 .tran (got (aN k 1 ⟨nm,ev,vs,st,tr⟩ d w)).trans])
 | _,_=>none)
theorem JJ:EntOk Tryz.prog yN:=entOk fun vs ck=>by
 unfold yN; dsimp only; split
 · rename_i k w nm d ev vs st tr; exact entS fun hp=>Np ⟨nm,ev,vs,st,tr⟩ d w k hp.1 hp.2
 · exact entN
def yJ:Ent:=(82,fun
 | [.c (.loc 0 0),.c (.pd (.int .i64 k)),.c (.pd (.lst .str w)),.c (.pd (.int .i64 1))],[.cells [.pd (.str nm),.own 1,.own 2,.own 3,.own 4,.pd (.int .i64 d)] 45,.own 9 .str ev,.own 61 .var vs,.own 64 .stat st,.own 68 .tran tr]=>some (some (Fit ⟨nm,ev,vs,st,tr⟩ 6001∧(aN k 1 ⟨nm,ev,vs,st,tr⟩ d w).isSome=false),.x (.c (.pd (.bool false))),[.dead,.dead,.dead,.dead,.dead])
 | _,_=>none)
theorem K8:EntOk Tryz.prog yJ:=entOk fun vs ck=>by
 unfold yJ; dsimp only; split
 · rename_i k w nm d ev vs st tr; exact entS fun hp=>Nw ⟨nm,ev,vs,st,tr⟩ d w k hp.1 hp.2
 · exact entN
def sg:Cfg:=⟨bx,[yN]⟩
theorem py:ai Tryz.prog sg.tab:=(ai.cons JJ ai.nil)
def rM:Cfg:=⟨bx,[yJ]⟩
theorem pD:ai Tryz.prog rM.tab:=(ai.cons K8 ai.nil)
theorem Nj (hf:Fit c 6001) (h:(aN k 2 c d w).isSome=true):ak Tryz.prog 82 [.c (.loc 0 0),.i k,.l .str w,.i 2] (rdK c d) (.x (.b true)) (ckR (got (aN k 2 c d w)) d) :=
 step_ok Tryz.func82 (by kernel_rfl) (by kernel_rfl) rfl (IV c d w k hf) h
theorem LY (hf:Fit c 6001) (h:(aN k 2 c d w).isSome=false):ak Tryz.prog 82 [.c (.loc 0 0),.i k,.l .str w,.i 2] (rdK c d) (.x (.b false)) zWn1 :=
 kO Tryz.func82 (by kernel_rfl) (by kernel_rfl) (IV c d w k hf) h
def yW:Ent:=(82,fun
 | [.c (.loc 0 0),.c (.pd (.int .i64 k)),.c (.pd (.lst .str w)),.c (.pd (.int .i64 2))],[.cells [.pd (.str nm),.own 1,.own 2,.own 3,.own 4,.pd (.int .i64 d)] 45,.own 9 .str ev,.own 61 .var vs,.own 64 .stat st,.own 68 .tran tr]=>some (some (Fit ⟨nm,ev,vs,st,tr⟩ 6001∧(aN k 2 ⟨nm,ev,vs,st,tr⟩ d w).isSome=true),.x (.c (.pd (.bool true))),[.cells [.pd (.str (got (aN k 2 ⟨nm,ev,vs,st,tr⟩ d w)).name),.own 5,.own 6,.own 7,.own 8,.pd (.int .i64 d)] 45,.dead,.dead,.dead,.dead,.own 9 .str (got (aN k 2 ⟨nm,ev,vs,st,tr⟩ d w)).events,.own 61 .var (got (aN k 2 ⟨nm,ev,vs,st,tr⟩ d w)).vars,.own 64 .stat (got (aN k 2 ⟨nm,ev,vs,st,tr⟩ d w)).states,.own 68 .tran (got (aN k 2 ⟨nm,ev,vs,st,tr⟩ d w)).trans])
 | _,_=>none)
theorem Lf:EntOk Tryz.prog yW:=entOk fun vs ck=>by
 unfold yW; dsimp only; split
 · rename_i k w nm d ev vs st tr; exact entS fun hp=>Nj ⟨nm,ev,vs,st,tr⟩ d w k hp.1 hp.2
 · exact entN
def yB:Ent:=(82,fun
 | [.c (.loc 0 0),.c (.pd (.int .i64 k)),.c (.pd (.lst .str w)),.c (.pd (.int .i64 2))],[.cells [.pd (.str nm),.own 1,.own 2,.own 3,.own 4,.pd (.int .i64 d)] 45,.own 9 .str ev,.own 61 .var vs,.own 64 .stat st,.own 68 .tran tr]=>some (some (Fit ⟨nm,ev,vs,st,tr⟩ 6001∧(aN k 2 ⟨nm,ev,vs,st,tr⟩ d w).isSome=false),.x (.c (.pd (.bool false))),[.dead,.dead,.dead,.dead,.dead])
 | _,_=>none)
theorem Jy:EntOk Tryz.prog yB:=entOk fun vs ck=>by
 unfold yB; dsimp only; split
 · rename_i k w nm d ev vs st tr; exact entS fun hp=>LY ⟨nm,ev,vs,st,tr⟩ d w k hp.1 hp.2
 · exact entN
def rL:Cfg:=⟨bx,[yW]⟩
theorem oU:ai Tryz.prog rL.tab:=(ai.cons Lf ai.nil)
def rZ:Cfg:=⟨bx,[yB]⟩
theorem oX:ai Tryz.prog rZ.tab:=(ai.cons Jy ai.nil)
theorem J7 (hf:Fit c 6001) (h:(aN 1 1 c d w).isSome=true):ak Tryz.prog 38 [.c (.loc 0 0),.l .str w] (rdK c d) (.x (.b true)) (ckR (got (aN 1 1 c d w)) d):=by
 refine dg py Tryz.func38 (.need (Fit c 6001∧Option.isSome (aN (1:Int) 1 c d w)=true) (.ret (.p (.bool true)) [.cells [.pd (.str (Chart.name (got (aN (1:Int) 1 c d w)))),.own 5,.own 6,.own 7,.own 8,.i d] 45,.dead,.dead,.dead,.dead,.own 9 .str (Chart.events (got (aN (1:Int) 1 c d w))),.own 61 .var (Chart.vars (got (aN (1:Int) 1 c d w))),.own 64 .stat (Chart.states (got (aN (1:Int) 1 c d w))),.own 68 .tran (Chart.trans (got (aN (1:Int) 1 c d w)))])) fun Γ=>⟨⟨hf,h⟩,rfl,rfl⟩
theorem KS (hf:Fit c 6001) (h:(aN 1 1 c d w).isSome=false):ak Tryz.prog 38 [.c (.loc 0 0),.l .str w] (rdK c d) (.x (.b false)) zWn1:=by
 refine dg pD Tryz.func38 (.need (Fit c 6001∧Option.isSome (aN (1:Int) 1 c d w)=false) (.ret (.p (.bool false)) zWn1)) fun Γ=>⟨⟨hf,h⟩,rfl,rfl⟩
theorem NL (hf:Fit c 6001) (h:(aN 3 1 c d w).isSome=true):ak Tryz.prog 39 [.c (.loc 0 0),.l .str w] (rdK c d) (.x (.b true)) (ckR (got (aN 3 1 c d w)) d):=by
 refine dg py Tryz.func39 (.need (Fit c 6001∧Option.isSome (aN (3:Int) 1 c d w)=true) (.ret (.p (.bool true)) [.cells [.pd (.str (Chart.name (got (aN (3:Int) 1 c d w)))),.own 5,.own 6,.own 7,.own 8,.i d] 45,.dead,.dead,.dead,.dead,.own 9 .str (Chart.events (got (aN (3:Int) 1 c d w))),.own 61 .var (Chart.vars (got (aN (3:Int) 1 c d w))),.own 64 .stat (Chart.states (got (aN (3:Int) 1 c d w))),.own 68 .tran (Chart.trans (got (aN (3:Int) 1 c d w)))])) fun Γ=>⟨⟨hf,h⟩,rfl,rfl⟩
theorem NT (hf:Fit c 6001) (h:(aN 3 1 c d w).isSome=false):ak Tryz.prog 39 [.c (.loc 0 0),.l .str w] (rdK c d) (.x (.b false)) zWn1:=by
 refine dg pD Tryz.func39 (.need (Fit c 6001∧Option.isSome (aN (3:Int) 1 c d w)=false) (.ret (.p (.bool false)) zWn1)) fun Γ=>⟨⟨hf,h⟩,rfl,rfl⟩
theorem KU (hf:Fit c 6001) (h:(aN 4 1 c d w).isSome=true):ak Tryz.prog 40 [.c (.loc 0 0),.l .str w] (rdK c d) (.x (.b true)) (ckR (got (aN 4 1 c d w)) d):=by
 refine dg py Tryz.func40 (.need (Fit c 6001∧Option.isSome (aN (4:Int) 1 c d w)=true) (.ret (.p (.bool true)) [.cells [.pd (.str (Chart.name (got (aN (4:Int) 1 c d w)))),.own 5,.own 6,.own 7,.own 8,.i d] 45,.dead,.dead,.dead,.dead,.own 9 .str (Chart.events (got (aN (4:Int) 1 c d w))),.own 61 .var (Chart.vars (got (aN (4:Int) 1 c d w))),.own 64 .stat (Chart.states (got (aN (4:Int) 1 c d w))),.own 68 .tran (Chart.trans (got (aN (4:Int) 1 c d w)))])) fun Γ=>⟨⟨hf,h⟩,rfl,rfl⟩
theorem JE (hf:Fit c 6001) (h:(aN 4 1 c d w).isSome=false):ak Tryz.prog 40 [.c (.loc 0 0),.l .str w] (rdK c d) (.x (.b false)) zWn1:=by
 refine dg pD Tryz.func40 (.need (Fit c 6001∧Option.isSome (aN (4:Int) 1 c d w)=false) (.ret (.p (.bool false)) zWn1)) fun Γ=>⟨⟨hf,h⟩,rfl,rfl⟩
theorem OM (hf:Fit c 6001) (h:(aN 2 2 c d w).isSome=true):ak Tryz.prog 41 [.c (.loc 0 0),.l .str w] (rdK c d) (.x (.b true)) (ckR (got (aN 2 2 c d w)) d):=by
 refine dg oU Tryz.func41 (.need (Fit c 6001∧Option.isSome (aN (2:Int) 2 c d w)=true) (.ret (.p (.bool true)) [.cells [.pd (.str (Chart.name (got (aN (2:Int) 2 c d w)))),.own 5,.own 6,.own 7,.own 8,.i d] 45,.dead,.dead,.dead,.dead,.own 9 .str (Chart.events (got (aN (2:Int) 2 c d w))),.own 61 .var (Chart.vars (got (aN (2:Int) 2 c d w))),.own 64 .stat (Chart.states (got (aN (2:Int) 2 c d w))),.own 68 .tran (Chart.trans (got (aN (2:Int) 2 c d w)))])) fun Γ=>⟨⟨hf,h⟩,rfl,rfl⟩
theorem N0 (hf:Fit c 6001) (h:(aN 2 2 c d w).isSome=false):ak Tryz.prog 41 [.c (.loc 0 0),.l .str w] (rdK c d) (.x (.b false)) zWn1:=by
 refine dg oX Tryz.func41 (.need (Fit c 6001∧Option.isSome (aN (2:Int) 2 c d w)=false) (.ret (.p (.bool false)) zWn1)) fun Γ=>⟨⟨hf,h⟩,rfl,rfl⟩
theorem Et (hf:Fit c 6001) (h:(aN 5 2 c d w).isSome=true):ak Tryz.prog 42 [.c (.loc 0 0),.l .str w] (rdK c d) (.x (.b true)) (ckR (got (aN 5 2 c d w)) d):=by
 refine dg oU Tryz.func42 (.need (Fit c 6001∧Option.isSome (aN (5:Int) 2 c d w)=true) (.ret (.p (.bool true)) [.cells [.pd (.str (Chart.name (got (aN (5:Int) 2 c d w)))),.own 5,.own 6,.own 7,.own 8,.i d] 45,.dead,.dead,.dead,.dead,.own 9 .str (Chart.events (got (aN (5:Int) 2 c d w))),.own 61 .var (Chart.vars (got (aN (5:Int) 2 c d w))),.own 64 .stat (Chart.states (got (aN (5:Int) 2 c d w))),.own 68 .tran (Chart.trans (got (aN (5:Int) 2 c d w)))])) fun Γ=>⟨⟨hf,h⟩,rfl,rfl⟩
theorem Eb (hf:Fit c 6001) (h:(aN 5 2 c d w).isSome=false):ak Tryz.prog 42 [.c (.loc 0 0),.l .str w] (rdK c d) (.x (.b false)) zWn1:=by
 refine dg oX Tryz.func42 (.need (Fit c 6001∧Option.isSome (aN (5:Int) 2 c d w)=false) (.ret (.p (.bool false)) zWn1)) fun Γ=>⟨⟨hf,h⟩,rfl,rfl⟩
theorem Mp (hf:Fit c 6001) (h:(aN 6 2 c d w).isSome=true):ak Tryz.prog 43 [.c (.loc 0 0),.l .str w] (rdK c d) (.x (.b true)) (ckR (got (aN 6 2 c d w)) d):=by
 refine dg oU Tryz.func43 (.need (Fit c 6001∧Option.isSome (aN (6:Int) 2 c d w)=true) (.ret (.p (.bool true)) [.cells [.pd (.str (Chart.name (got (aN (6:Int) 2 c d w)))),.own 5,.own 6,.own 7,.own 8,.i d] 45,.dead,.dead,.dead,.dead,.own 9 .str (Chart.events (got (aN (6:Int) 2 c d w))),.own 61 .var (Chart.vars (got (aN (6:Int) 2 c d w))),.own 64 .stat (Chart.states (got (aN (6:Int) 2 c d w))),.own 68 .tran (Chart.trans (got (aN (6:Int) 2 c d w)))])) fun Γ=>⟨⟨hf,h⟩,rfl,rfl⟩
theorem Mr (hf:Fit c 6001) (h:(aN 6 2 c d w).isSome=false):ak Tryz.prog 43 [.c (.loc 0 0),.l .str w] (rdK c d) (.x (.b false)) zWn1:=by
 refine dg oX Tryz.func43 (.need (Fit c 6001∧Option.isSome (aN (6:Int) 2 c d w)=false) (.ret (.p (.bool false)) zWn1)) fun Γ=>⟨⟨hf,h⟩,rfl,rfl⟩
end Go.Proofs.YtpfidgnkokidoaaGreatDoor

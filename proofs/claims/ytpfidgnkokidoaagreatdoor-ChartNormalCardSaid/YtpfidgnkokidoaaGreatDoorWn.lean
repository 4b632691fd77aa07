/- Contracts: the program's reader of charts: states' lines. Conditions: sizes. -/
import Derived.Test.YtpfidgnkokidoaaGreatDoorWh
namespace Go.Proofs.YtpfidgnkokidoaaGreatDoor
open Go Go.Ev
set_option maxRecDepth 100000
variable (c:Chart) (d:Int) (w:List Str) (a:Chart) (b k:Int)
abbrev zWn2:Chunk:=.cells [.pd (.str a.name),.own 1,.own 2,.own 5,.own 4,.i b] 45
abbrev zWn3:List Chunk:=[.cells [.pd (.str a.name),.own 1,.own 2,.own 3,.own 4,.i b] 45,.own 9 .str a.events,.own 61 .var a.vars,.own 64 .stat a.states,.own 68 .tran a.trans]
theorem Ge (hf:Fit c 6001) (Γ:Ctx):J Tryz.prog 82 (aH Tryz.f82) Γ (bK (aM k 1 c d w) d) [.code []] (cL Tryz.f82.ntmps [.c (.loc 0 0),.i k,.l .str w,.i 1] (rdK c d)):=by
 refine jg tf Tryz.func82 (let x4:=(c.states++[{ name:=ETy.get .str w 0,kind:=k,depth:=d,initial:=ETy.get .str w 1,entry:=[],leave:=[] }]); let x5:=(c.states++[{ name:=ETy.get .str w 0,kind:=k,depth:=d,initial:=[],entry:=[],leave:=[] }]); let x1:Tree:=(.need (inRg 0 w.length) (.ite false (.need (inRg 1 w.length) (.need (room (List.length x4) 96) (.ret (.p (.bool true)) [zWn2 c d,.own 9 .str c.events,.own 61 .var c.vars,.dead,.own 68 .tran c.trans,.own 64 .stat x4]))) (.need (room (List.length x5) 96) (.ret (.p (.bool true)) [zWn2 c d,.own 9 .str c.events,.own 61 .var c.vars,.dead,.own 68 .tran c.trans,.own 64 .stat x5])))); let x6:=(c.states.length:Int); let x2:=(d>IntKind.wrap .i64 (Stat.depth (ETy.get .stat c.states ((IntKind.wrap .i64 (x6 - 1)).toNat))+(1:Int))); let x3:Tree:=(.ret (.p (.bool false)) (zWn3 c d)); .ite (decide (x6>0)) (.need ((0:Int)≤IntKind.wrap .i64 (x6 - 1)∧IntKind.wrap .i64 (x6 - 1)<x6) (.need ((IntKind.wrap .i64 (x6 - 1)).toNat<c.states.length) (.need ((decide x2||(w.length:Int) != 1)=false→(0:Int)≤0∧(0:Int)<(w.length:Int)) (.need ((decide x2||(w.length:Int) != 1 || !aO (ETy.get .str w 0))=false→(0:Int)≤IntKind.wrap .i64 ((1:Int) - 1)∧IntKind.wrap .i64 ((1:Int) - 1)<(w.length:Int)) (.ite (decide x2||(w.length:Int) != 1 || !aO (ETy.get .str w 0) || !aO (ETy.get .str w 0)) x3 x1))))) (.need ((decide (d>(0:Int))||(w.length:Int) != 1)=false→(0:Int)≤0∧(0:Int)<(w.length:Int)) (.need ((decide (d>(0:Int))||(w.length:Int) != 1 || !aO (ETy.get .str w 0))=false→(0:Int)≤IntKind.wrap .i64 ((1:Int) - 1)∧IntKind.wrap .i64 ((1:Int) - 1)<(w.length:Int)) (.ite (decide (d>(0:Int))||(w.length:Int) != 1 || !aO (ETy.get .str w 0) || !aO (ETy.get .str w 0)) x3 x1)))) ?_
 conv=>zeta
 have hs:=hf.states
 have hw0:IntKind.wrap .i64 ((1:Int) - 1)=(0:Int):=by rw [cI (by omega) (by omega)]; rfl
 have bad:∀ r:Int,iV c=r→(decide (d>r)||((w.length:Int) != 1) || !aO (ETy.get .str w 0) || !aO (ETy.get .str w 0))=decide ¬(d≤iV c∧w.length=1∧aO (an w 0)=true∧aO (an w 0)=true):=fun r hr=>by
  rw [hr,cM]
  have e0:ETy.get .str w 0=an w 0:=rfl
  have e1:ETy.get .str w 0=an w 0:=rfl
  (try rw [e0])
  (try rw [e1])
  simp only [aF,decide_eq_true_eq,bne_iff_ne,ne_eq,aC]
  cases aO (an w 0) <;> cases aO (an w 0) <;> simp <;> omega
 have len:∀ r:Int,(decide (d>r)||((w.length:Int) != 1))=false→w.length=1:=fun r h=>by
  rw [aI] at h
  have:(w.length:Int)=1:=by simpa using h.2
  omega
 refine ⟨fun h=>?_,fun h=>?_⟩
 · have h1:c.states.length≠0:=by have:=of_decide_eq_true h; omega
   have hr:=xO h1
   have hd:=tG hf h1
   rw [l7 h1 (by omega),bf,cI (n:=(ETy.get .stat c.states (c.states.length - 1)).depth+1) (by omega) (by omega),hw0,bad _ hr]
   refine ⟨⟨by omega,by omega⟩,by omega,fun h=>?_,fun h=>?_,fun hb=>bK.no (iv (of_decide_eq_true hb)),fun hb=>?_⟩
   · have:=len _ h; omega
   · rw [aI] at h
     have:=len _ h.1; omega
   · have hok:=Classical.not_not.1 (of_decide_eq_false hb)
     have hl:=hok.2.1
     exact ⟨⟨by omega,by omega⟩,fun x=>Bool.noConfusion x,fun _=>⟨uy (by simp only [ag,ah,aj]; omega),bK.yes (if_pos hok) (IsR.of3 rfl)⟩⟩
 · have h1:c.states.length=0:=by have:=of_decide_eq_false h; omega
   have hr:=wW h1
   rw [hw0,bad _ hr]
   refine ⟨fun h=>?_,fun h=>?_,fun hb=>bK.no (iv (of_decide_eq_true hb)),fun hb=>?_⟩
   · have:=len _ h; omega
   · rw [aI] at h
     have:=len _ h.1; omega
   · have hok:=Classical.not_not.1 (of_decide_eq_false hb)
     have hl:=hok.2.1
     exact ⟨⟨by omega,by omega⟩,fun x=>Bool.noConfusion x,fun _=>⟨uy (by simp only [ag,ah,aj]; omega),bK.yes (if_pos hok) (IsR.of3 rfl)⟩⟩
theorem GR (hf:Fit c 6001) (Γ:Ctx):J Tryz.prog 82 (aH Tryz.f82) Γ (bK (aM k 2 c d w) d) [.code []] (cL Tryz.f82.ntmps [.c (.loc 0 0),.i k,.l .str w,.i 2] (rdK c d)):=by
 refine jg tf Tryz.func82 (let x4:=(c.states++[{ name:=ETy.get .str w 0,kind:=k,depth:=d,initial:=ETy.get .str w 1,entry:=[],leave:=[] }]); let x5:=(c.states++[{ name:=ETy.get .str w 0,kind:=k,depth:=d,initial:=[],entry:=[],leave:=[] }]); let x1:Tree:=(.need (inRg 0 w.length) (.ite true (.need (inRg 1 w.length) (.need (room (List.length x4) 96) (.ret (.p (.bool true)) [zWn2 c d,.own 9 .str c.events,.own 61 .var c.vars,.dead,.own 68 .tran c.trans,.own 64 .stat x4]))) (.need (room (List.length x5) 96) (.ret (.p (.bool true)) [zWn2 c d,.own 9 .str c.events,.own 61 .var c.vars,.dead,.own 68 .tran c.trans,.own 64 .stat x5])))); let x6:=(c.states.length:Int); let x2:=(d>IntKind.wrap .i64 (Stat.depth (ETy.get .stat c.states ((IntKind.wrap .i64 (x6 - 1)).toNat))+(1:Int))); let x3:Tree:=(.ret (.p (.bool false)) (zWn3 c d)); .ite (decide (x6>0)) (.need ((0:Int)≤IntKind.wrap .i64 (x6 - 1)∧IntKind.wrap .i64 (x6 - 1)<x6) (.need ((IntKind.wrap .i64 (x6 - 1)).toNat<c.states.length) (.need ((decide x2||(w.length:Int) != 2)=false→(0:Int)≤0∧(0:Int)<(w.length:Int)) (.need ((decide x2||(w.length:Int) != 2 || !aO (ETy.get .str w 0))=false→(0:Int)≤IntKind.wrap .i64 ((2:Int) - 1)∧IntKind.wrap .i64 ((2:Int) - 1)<(w.length:Int)) (.ite (decide x2||(w.length:Int) != 2 || !aO (ETy.get .str w 0) || !aO (ETy.get .str w 1)) x3 x1))))) (.need ((decide (d>(0:Int))||(w.length:Int) != 2)=false→(0:Int)≤0∧(0:Int)<(w.length:Int)) (.need ((decide (d>(0:Int))||(w.length:Int) != 2 || !aO (ETy.get .str w 0))=false→(0:Int)≤IntKind.wrap .i64 ((2:Int) - 1)∧IntKind.wrap .i64 ((2:Int) - 1)<(w.length:Int)) (.ite (decide (d>(0:Int))||(w.length:Int) != 2 || !aO (ETy.get .str w 0) || !aO (ETy.get .str w 1)) x3 x1)))) ?_
 conv=>zeta
 have hs:=hf.states
 have hw0:IntKind.wrap .i64 ((2:Int) - 1)=(1:Int):=by rw [cI (by omega) (by omega)]; rfl
 have bad:∀ r:Int,iV c=r→(decide (d>r)||((w.length:Int) != 2) || !aO (ETy.get .str w 0) || !aO (ETy.get .str w 1))=decide ¬(d≤iV c∧w.length=2∧aO (an w 0)=true∧aO (an w 1)=true):=fun r hr=>by
  rw [hr,cM]
  have e0:ETy.get .str w 0=an w 0:=rfl
  have e1:ETy.get .str w 1=an w 1:=rfl
  (try rw [e0])
  (try rw [e1])
  simp only [aF,decide_eq_true_eq,bne_iff_ne,ne_eq,aC]
  cases aO (an w 0) <;> cases aO (an w 1) <;> simp <;> omega
 have len:∀ r:Int,(decide (d>r)||((w.length:Int) != 2))=false→w.length=2:=fun r h=>by
  rw [aI] at h
  have:(w.length:Int)=2:=by simpa using h.2
  omega
 refine ⟨fun h=>?_,fun h=>?_⟩
 · have h1:c.states.length≠0:=by have:=of_decide_eq_true h; omega
   have hr:=xO h1
   have hd:=tG hf h1
   rw [l7 h1 (by omega),bf,cI (n:=(ETy.get .stat c.states (c.states.length - 1)).depth+1) (by omega) (by omega),hw0,bad _ hr]
   refine ⟨⟨by omega,by omega⟩,by omega,fun h=>?_,fun h=>?_,fun hb=>bK.no (iv (of_decide_eq_true hb)),fun hb=>?_⟩
   · have:=len _ h; omega
   · rw [aI] at h
     have:=len _ h.1; omega
   · have hok:=Classical.not_not.1 (of_decide_eq_false hb)
     have hl:=hok.2.1
     exact ⟨⟨by omega,by omega⟩,fun _=>⟨⟨by omega,by omega⟩,uy (by simp only [ag,ah,aj]; omega),bK.yes (if_pos hok) (IsR.of3 rfl)⟩,fun x=>Bool.noConfusion x⟩
 · have h1:c.states.length=0:=by have:=of_decide_eq_false h; omega
   have hr:=wW h1
   rw [hw0,bad _ hr]
   refine ⟨fun h=>?_,fun h=>?_,fun hb=>bK.no (iv (of_decide_eq_true hb)),fun hb=>?_⟩
   · have:=len _ h; omega
   · rw [aI] at h
     have:=len _ h.1; omega
   · have hok:=Classical.not_not.1 (of_decide_eq_false hb)
     have hl:=hok.2.1
     exact ⟨⟨by omega,by omega⟩,fun _=>⟨⟨by omega,by omega⟩,uy (by simp only [ag,ah,aj]; omega),bK.yes (if_pos hok) (IsR.of3 rfl)⟩,fun x=>Bool.noConfusion x⟩
theorem MK (hf:Fit c 6001) (h:(aM k 1 c d w).isSome=true):ak Tryz.prog 82 [.c (.loc 0 0),.i k,.l .str w,.i 1] (rdK c d) (.x (.b true)) (ckR (got (aM k 1 c d w)) d) :=
 step_ok Tryz.func82 (by kernel_rfl) (by kernel_rfl) rfl (Ge c d w k hf) h
abbrev zWn1:List Chunk:=[.dead,.dead,.dead,.dead,.dead]
theorem LN (hf:Fit c 6001) (h:(aM k 1 c d w).isSome=false):ak Tryz.prog 82 [.c (.loc 0 0),.i k,.l .str w,.i 1] (rdK c d) (.x (.b false)) zWn1 :=
 kK Tryz.func82 (by kernel_rfl) (by kernel_rfl) (Ge c d w k hf) h
def yz:Ent:=(82,fun
 | [.c (.loc 0 0),.c (.pd (.int .i64 k)),.c (.pd (.lst .str w)),.c (.pd (.int .i64 1))],[.cells [.pd (.str nm),.own 1,.own 2,.own 3,.own 4,.pd (.int .i64 d)] 45,.own 9 .str ev,.own 61 .var vs,.own 64 .stat st,.own 68 .tran tr]=>some (some (Fit ⟨nm,ev,vs,st,tr⟩ 6001∧(aM k 1 ⟨nm,ev,vs,st,tr⟩ d w).isSome=true),.x (.c (.pd (.bool true))),[.cells [.pd (.str (got (aM k 1 ⟨nm,ev,vs,st,tr⟩ d w)).name),.own 5,.own 6,.own 7,.own 8,.pd (.int .i64 d)] 45,.dead,.dead,.dead,.dead,.own 9 .str (got (aM k 1 ⟨nm,ev,vs,st,tr⟩ d w)).events,.own 61 .var (got (aM k 1 ⟨nm,ev,vs,st,tr⟩ d w)).vars,.own 64 .stat (got (aM k 1 ⟨nm,ev,vs,st,tr⟩ d w)).states,.own 68 .tran (got (aM k 1 ⟨nm,ev,vs,st,tr⟩ d w)).trans])
 | _,_=>none)
theorem KJ:EntOk Tryz.prog yz:=entOk fun vs ck=>by
 unfold yz; dsimp only; split
 · rename_i k w nm d ev vs st tr; exact entS fun hp=>MK ⟨nm,ev,vs,st,tr⟩ d w k hp.1 hp.2
 · exact entN
def yp:Ent:=(82,fun
 | [.c (.loc 0 0),.c (.pd (.int .i64 k)),.c (.pd (.lst .str w)),.c (.pd (.int .i64 1))],[.cells [.pd (.str nm),.own 1,.own 2,.own 3,.own 4,.pd (.int .i64 d)] 45,.own 9 .str ev,.own 61 .var vs,.own 64 .stat st,.own 68 .tran tr]=>some (some (Fit ⟨nm,ev,vs,st,tr⟩ 6001∧(aM k 1 ⟨nm,ev,vs,st,tr⟩ d w).isSome=false),.x (.c (.pd (.bool false))),[.dead,.dead,.dead,.dead,.dead])
 | _,_=>none)
theorem Jy:EntOk Tryz.prog yp:=entOk fun vs ck=>by
 unfold yp; dsimp only; split
 · rename_i k w nm d ev vs st tr; exact entS fun hp=>LN ⟨nm,ev,vs,st,tr⟩ d w k hp.1 hp.2
 · exact entN
def rC:Cfg:=⟨bu,[yz]⟩
theorem pE:ai Tryz.prog rC.tab:=(ai.cons KJ ai.nil)
def rP:Cfg:=⟨bu,[yp]⟩
theorem px:ai Tryz.prog rP.tab:=(ai.cons Jy ai.nil)
theorem MC (hf:Fit c 6001) (h:(aM k 2 c d w).isSome=true):ak Tryz.prog 82 [.c (.loc 0 0),.i k,.l .str w,.i 2] (rdK c d) (.x (.b true)) (ckR (got (aM k 2 c d w)) d) :=
 step_ok Tryz.func82 (by kernel_rfl) (by kernel_rfl) rfl (GR c d w k hf) h
theorem Nv (hf:Fit c 6001) (h:(aM k 2 c d w).isSome=false):ak Tryz.prog 82 [.c (.loc 0 0),.i k,.l .str w,.i 2] (rdK c d) (.x (.b false)) zWn1 :=
 kK Tryz.func82 (by kernel_rfl) (by kernel_rfl) (GR c d w k hf) h
def yE:Ent:=(82,fun
 | [.c (.loc 0 0),.c (.pd (.int .i64 k)),.c (.pd (.lst .str w)),.c (.pd (.int .i64 2))],[.cells [.pd (.str nm),.own 1,.own 2,.own 3,.own 4,.pd (.int .i64 d)] 45,.own 9 .str ev,.own 61 .var vs,.own 64 .stat st,.own 68 .tran tr]=>some (some (Fit ⟨nm,ev,vs,st,tr⟩ 6001∧(aM k 2 ⟨nm,ev,vs,st,tr⟩ d w).isSome=true),.x (.c (.pd (.bool true))),[.cells [.pd (.str (got (aM k 2 ⟨nm,ev,vs,st,tr⟩ d w)).name),.own 5,.own 6,.own 7,.own 8,.pd (.int .i64 d)] 45,.dead,.dead,.dead,.dead,.own 9 .str (got (aM k 2 ⟨nm,ev,vs,st,tr⟩ d w)).events,.own 61 .var (got (aM k 2 ⟨nm,ev,vs,st,tr⟩ d w)).vars,.own 64 .stat (got (aM k 2 ⟨nm,ev,vs,st,tr⟩ d w)).states,.own 68 .tran (got (aM k 2 ⟨nm,ev,vs,st,tr⟩ d w)).trans])
 | _,_=>none)
theorem J5:EntOk Tryz.prog yE:=entOk fun vs ck=>by
 unfold yE; dsimp only; split
 · rename_i k w nm d ev vs st tr; exact entS fun hp=>MC ⟨nm,ev,vs,st,tr⟩ d w k hp.1 hp.2
 · exact entN
def yM:Ent:=(82,fun
 | [.c (.loc 0 0),.c (.pd (.int .i64 k)),.c (.pd (.lst .str w)),.c (.pd (.int .i64 2))],[.cells [.pd (.str nm),.own 1,.own 2,.own 3,.own 4,.pd (.int .i64 d)] 45,.own 9 .str ev,.own 61 .var vs,.own 64 .stat st,.own 68 .tran tr]=>some (some (Fit ⟨nm,ev,vs,st,tr⟩ 6001∧(aM k 2 ⟨nm,ev,vs,st,tr⟩ d w).isSome=false),.x (.c (.pd (.bool false))),[.dead,.dead,.dead,.dead,.dead])
 | _,_=>none)
theorem Kt:EntOk Tryz.prog yM:=entOk fun vs ck=>by
 unfold yM; dsimp only; split
 · rename_i k w nm d ev vs st tr; exact entS fun hp=>Nv ⟨nm,ev,vs,st,tr⟩ d w k hp.1 hp.2
 · exact entN
def rN:Cfg:=⟨bu,[yE]⟩
theorem o7:ai Tryz.prog rN.tab:=(ai.cons J5 ai.nil)
def rM:Cfg:=⟨bu,[yM]⟩
theorem o6:ai Tryz.prog rM.tab:=(ai.cons Kt ai.nil)
theorem I5 (hf:Fit c 6001) (h:(aM 1 1 c d w).isSome=true):ak Tryz.prog 38 [.c (.loc 0 0),.l .str w] (rdK c d) (.x (.b true)) (ckR (got (aM 1 1 c d w)) d):=by
 refine dg pE Tryz.func38 (.need (Fit c 6001∧Option.isSome (aM (1:Int) 1 c d w)=true) (.ret (.p (.bool true)) [.cells [.pd (.str (Chart.name (got (aM (1:Int) 1 c d w)))),.own 5,.own 6,.own 7,.own 8,.i d] 45,.dead,.dead,.dead,.dead,.own 9 .str (Chart.events (got (aM (1:Int) 1 c d w))),.own 61 .var (Chart.vars (got (aM (1:Int) 1 c d w))),.own 64 .stat (Chart.states (got (aM (1:Int) 1 c d w))),.own 68 .tran (Chart.trans (got (aM (1:Int) 1 c d w)))])) fun Γ=>⟨⟨hf,h⟩,rfl,rfl⟩
theorem Ka (hf:Fit c 6001) (h:(aM 1 1 c d w).isSome=false):ak Tryz.prog 38 [.c (.loc 0 0),.l .str w] (rdK c d) (.x (.b false)) zWn1:=by
 refine dg px Tryz.func38 (.need (Fit c 6001∧Option.isSome (aM (1:Int) 1 c d w)=false) (.ret (.p (.bool false)) zWn1)) fun Γ=>⟨⟨hf,h⟩,rfl,rfl⟩
theorem L1 (hf:Fit c 6001) (h:(aM 3 1 c d w).isSome=true):ak Tryz.prog 39 [.c (.loc 0 0),.l .str w] (rdK c d) (.x (.b true)) (ckR (got (aM 3 1 c d w)) d):=by
 refine dg pE Tryz.func39 (.need (Fit c 6001∧Option.isSome (aM (3:Int) 1 c d w)=true) (.ret (.p (.bool true)) [.cells [.pd (.str (Chart.name (got (aM (3:Int) 1 c d w)))),.own 5,.own 6,.own 7,.own 8,.i d] 45,.dead,.dead,.dead,.dead,.own 9 .str (Chart.events (got (aM (3:Int) 1 c d w))),.own 61 .var (Chart.vars (got (aM (3:Int) 1 c d w))),.own 64 .stat (Chart.states (got (aM (3:Int) 1 c d w))),.own 68 .tran (Chart.trans (got (aM (3:Int) 1 c d w)))])) fun Γ=>⟨⟨hf,h⟩,rfl,rfl⟩
theorem Ml (hf:Fit c 6001) (h:(aM 3 1 c d w).isSome=false):ak Tryz.prog 39 [.c (.loc 0 0),.l .str w] (rdK c d) (.x (.b false)) zWn1:=by
 refine dg px Tryz.func39 (.need (Fit c 6001∧Option.isSome (aM (3:Int) 1 c d w)=false) (.ret (.p (.bool false)) zWn1)) fun Γ=>⟨⟨hf,h⟩,rfl,rfl⟩
theorem KT (hf:Fit c 6001) (h:(aM 4 1 c d w).isSome=true):ak Tryz.prog 40 [.c (.loc 0 0),.l .str w] (rdK c d) (.x (.b true)) (ckR (got (aM 4 1 c d w)) d):=by
 refine dg pE Tryz.func40 (.need (Fit c 6001∧Option.isSome (aM (4:Int) 1 c d w)=true) (.ret (.p (.bool true)) [.cells [.pd (.str (Chart.name (got (aM (4:Int) 1 c d w)))),.own 5,.own 6,.own 7,.own 8,.i d] 45,.dead,.dead,.dead,.dead,.own 9 .str (Chart.events (got (aM (4:Int) 1 c d w))),.own 61 .var (Chart.vars (got (aM (4:Int) 1 c d w))),.own 64 .stat (Chart.states (got (aM (4:Int) 1 c d w))),.own 68 .tran (Chart.trans (got (aM (4:Int) 1 c d w)))])) fun Γ=>⟨⟨hf,h⟩,rfl,rfl⟩
theorem I1 (hf:Fit c 6001) (h:(aM 4 1 c d w).isSome=false):ak Tryz.prog 40 [.c (.loc 0 0),.l .str w] (rdK c d) (.x (.b false)) zWn1:=by
 refine dg px Tryz.func40 (.need (Fit c 6001∧Option.isSome (aM (4:Int) 1 c d w)=false) (.ret (.p (.bool false)) zWn1)) fun Γ=>⟨⟨hf,h⟩,rfl,rfl⟩
theorem OB (hf:Fit c 6001) (h:(aM 2 2 c d w).isSome=true):ak Tryz.prog 41 [.c (.loc 0 0),.l .str w] (rdK c d) (.x (.b true)) (ckR (got (aM 2 2 c d w)) d):=by
 refine dg o7 Tryz.func41 (.need (Fit c 6001∧Option.isSome (aM (2:Int) 2 c d w)=true) (.ret (.p (.bool true)) [.cells [.pd (.str (Chart.name (got (aM (2:Int) 2 c d w)))),.own 5,.own 6,.own 7,.own 8,.i d] 45,.dead,.dead,.dead,.dead,.own 9 .str (Chart.events (got (aM (2:Int) 2 c d w))),.own 61 .var (Chart.vars (got (aM (2:Int) 2 c d w))),.own 64 .stat (Chart.states (got (aM (2:Int) 2 c d w))),.own 68 .tran (Chart.trans (got (aM (2:Int) 2 c d w)))])) fun Γ=>⟨⟨hf,h⟩,rfl,rfl⟩
theorem Oz (hf:Fit c 6001) (h:(aM 2 2 c d w).isSome=false):ak Tryz.prog 41 [.c (.loc 0 0),.l .str w] (rdK c d) (.x (.b false)) zWn1:=by
 refine dg o6 Tryz.func41 (.need (Fit c 6001∧Option.isSome (aM (2:Int) 2 c d w)=false) (.ret (.p (.bool false)) zWn1)) fun Γ=>⟨⟨hf,h⟩,rfl,rfl⟩
theorem D1 (hf:Fit c 6001) (h:(aM 5 2 c d w).isSome=true):ak Tryz.prog 42 [.c (.loc 0 0),.l .str w] (rdK c d) (.x (.b true)) (ckR (got (aM 5 2 c d w)) d):=by
 refine dg o7 Tryz.func42 (.need (Fit c 6001∧Option.isSome (aM (5:Int) 2 c d w)=true) (.ret (.p (.bool true)) [.cells [.pd (.str (Chart.name (got (aM (5:Int) 2 c d w)))),.own 5,.own 6,.own 7,.own 8,.i d] 45,.dead,.dead,.dead,.dead,.own 9 .str (Chart.events (got (aM (5:Int) 2 c d w))),.own 61 .var (Chart.vars (got (aM (5:Int) 2 c d w))),.own 64 .stat (Chart.states (got (aM (5:Int) 2 c d w))),.own 68 .tran (Chart.trans (got (aM (5:Int) 2 c d w)))])) fun Γ=>⟨⟨hf,h⟩,rfl,rfl⟩
theorem EV (hf:Fit c 6001) (h:(aM 5 2 c d w).isSome=false):ak Tryz.prog 42 [.c (.loc 0 0),.l .str w] (rdK c d) (.x (.b false)) zWn1:=by
 refine dg o6 Tryz.func42 (.need (Fit c 6001∧Option.isSome (aM (5:Int) 2 c d w)=false) (.ret (.p (.bool false)) zWn1)) fun Γ=>⟨⟨hf,h⟩,rfl,rfl⟩
theorem Me (hf:Fit c 6001) (h:(aM 6 2 c d w).isSome=true):ak Tryz.prog 43 [.c (.loc 0 0),.l .str w] (rdK c d) (.x (.b true)) (ckR (got (aM 6 2 c d w)) d):=by
 refine dg o7 Tryz.func43 (.need (Fit c 6001∧Option.isSome (aM (6:Int) 2 c d w)=true) (.ret (.p (.bool true)) [.cells [.pd (.str (Chart.name (got (aM (6:Int) 2 c d w)))),.own 5,.own 6,.own 7,.own 8,.i d] 45,.dead,.dead,.dead,.dead,.own 9 .str (Chart.events (got (aM (6:Int) 2 c d w))),.own 61 .var (Chart.vars (got (aM (6:Int) 2 c d w))),.own 64 .stat (Chart.states (got (aM (6:Int) 2 c d w))),.own 68 .tran (Chart.trans (got (aM (6:Int) 2 c d w)))])) fun Γ=>⟨⟨hf,h⟩,rfl,rfl⟩
theorem L6 (hf:Fit c 6001) (h:(aM 6 2 c d w).isSome=false):ak Tryz.prog 43 [.c (.loc 0 0),.l .str w] (rdK c d) (.x (.b false)) zWn1:=by
 refine dg o6 Tryz.func43 (.need (Fit c 6001∧Option.isSome (aM (6:Int) 2 c d w)=false) (.ret (.p (.bool false)) zWn1)) fun Γ=>⟨⟨hf,h⟩,rfl,rfl⟩
end Go.Proofs.YtpfidgnkokidoaaGreatDoor

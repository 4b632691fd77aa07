/- Contracts: the document's reader of charts: states' words. Conditions: sizes. Contracts: the document's reader of charts: states' lines as entries. Conditions: sizes. Contracts: the document's reader of charts: a head's lines. Conditions: sizes. -/
import Derived.Test.YtpfidgnkokidoaaGreatDoorXi
namespace Go.Proofs.YtpfidgnkokidoaaGreatDoor
open Go Go.Ev
set_option maxRecDepth 100000
abbrev zJ51Xj:=J Tryz.prog 51 (az Tryz.f51)
def nG:Cfg:=⟨a6,[yM]⟩
theorem jN:ah Tryz.prog nG.tab:=(ah.cons Bw ah.nil)
variable (c:Chart) (d:Int) (u:Str) (q:Int) (w:List Str)
def jY:Int:=if u=hP then 6 else q
abbrev zXj1 (a:Chart):List Chunk:=[.cells [.pd (.str a.name),.own 1,.own 2,.own 3,.own 4] 27,.own 9 .str a.events,.own 61 .var a.vars,.own 64 .stat a.states,.own 68 .tran a.trans]
abbrev zXj2:List PI:=[.code [1,1,0,1,0,0],.inLoop [1,1,0,1,0,0],.inBlock 0,.code [1,1,1]]
abbrev zXj3:List PI:=[.ops [1,1,1,1,1,1,1,1,0,0] 13,.code [1,1,1,1,1,1,1,1,0,1],.code [1,1,1,1,1,1,1,1,1]]
theorem Kh (hf:Fit c 6001) (h0:0<w.length) (Γ:Ctx):zJ51Xj Γ (SdQ c d w (jY (ag w 0) q)) zXj2 ({ n:=99,fr:=[(0,.x (.c (.loc 0 0))),(1,.i d),(2,.p (.lst .str w)),(6,.i 0),(7,.i q),(8,.i (6))],ck:=(zXj1 c),m:=5 }):=by
 refine jg jN Tryz.func51 (let x1:List Chunk:=(zXj1 c); let x4:=(c.states.length:Int); let x2:=(d>IntKind.wrap .i64 (Stat.depth (ETy.get .stat c.states ((IntKind.wrap .i64 (x4 - 1)).toNat))+(1:Int))); let x3:List PI:=zXj3; let x5:Nat×SV:=(64,.grd 61 false (.p (.str (ETy.get .str w 1)))); let x6:Nat×SV:=(0,.x (.c (.loc 0 0))); let x7:=((0:Int)≤IntKind.wrap .i64 (x4 - 1)∧IntKind.wrap .i64 (x4 - 1)<x4); let x8:List PI:=zXj2; let x9:=((IntKind.wrap .i64 (x4 - 1)).toNat<c.states.length); let x10:=((w.length:Int) != 3||decide (d>(0:Int))); let x11:=((w.length:Int) != 2||decide (d>(0:Int))); let x12:=((w.length:Int) != 3||decide x2); let x13:=((w.length:Int) != 2||decide x2); let x14:=(IntKind.wrap .i64 ((6:Int)+1)); .ite true (.need ((0:Int)≤6∧(6:Int)<(↑(7:Nat):Int)) (.need (inRg 0 w.length) (.ite (hP==ETy.get .str w 0) (.stop x8 { n:=99,fr:=[x6,(1,.i d),(2,.p (.lst .str w)),(6,.i 0),(7,.i 6),(8,.i x14)],ck:=x1,m:=5 }) (.stop x8 { n:=99,fr:=[x6,(1,.i d),(2,.p (.lst .str w)),(6,.i 0),(7,.i q),(8,.i x14)],ck:=x1,m:=5 })))) (.ite (q==(0:Int)) (.ret (.i 0) x1) (.ite (q==(2:Int)||decide (q>(4:Int))) (.ite (decide (x4>0)) (.need x7 (.need x9 (.need (x12=false→(0:Int)≤1∧(1:Int)<(w.length:Int)) (.stop x3 { n:=99,fr:=[x6,(1,.i d),(2,.p (.lst .str w)),(6,.i 0),(7,.i q),(9,.i 3),(61,.p (.bool x12)),x5],ck:=x1,m:=5 })))) (.need (x10=false→(0:Int)≤1∧(1:Int)<(w.length:Int)) (.stop x3 { n:=99,fr:=[x6,(1,.i d),(2,.p (.lst .str w)),(6,.i 0),(7,.i q),(9,.i 3),(61,.p (.bool x10)),x5],ck:=x1,m:=5 }))) (.ite (decide (x4>0)) (.need x7 (.need x9 (.need (x13=false→(0:Int)≤1∧(1:Int)<(w.length:Int)) (.stop x3 { n:=99,fr:=[x6,(1,.i d),(2,.p (.lst .str w)),(6,.i 0),(7,.i q),(9,.i 2),(61,.p (.bool x13)),x5],ck:=x1,m:=5 })))) (.need (x11=false→(0:Int)≤1∧(1:Int)<(w.length:Int)) (.stop x3 { n:=99,fr:=[x6,(1,.i d),(2,.p (.lst .str w)),(6,.i 0),(7,.i q),(9,.i 2),(61,.p (.bool x11)),x5],ck:=x1,m:=5 })))))) ?_
 conv=>zeta
 have e0:ETy.get .str w 0=ag w 0:=rfl
 have hw:IntKind.wrap .i64 ((6:Int)+1)=(7:Int):=by rw [bG (by omega) (by omega)]; rfl
 rw [e0,hw]
 refine ⟨fun _=>⟨⟨by omega,by omega⟩,⟨by omega,by omega⟩,fun h=>?_,fun h=>?_⟩,fun h=>Bool.noConfusion h⟩
 · have e:ag w 0=hP:=(eq_of_beq h).symm
   have e2:jY (ag w 0) q=6:=by unfold jY; rw [if_pos e]
   rw [e2]
   exact xM c d 6 w hf h0 Γ
 · have e:ag w 0≠hP:=fun e=>by rw [e] at h; exact absurd h (by decide)
   have e2:jY (ag w 0) q=q:=by unfold jY; rw [if_neg e]
   rw [e2]
   exact xM c d q w hf h0 Γ
def j7:Int:=if u=eY then jY u 5 else jY u q
theorem KF (hf:Fit c 6001) (h0:0<w.length) (Γ:Ctx):zJ51Xj Γ (SdQ c d w (j7 (ag w 0) q)) zXj2 ({ n:=99,fr:=[(0,.x (.c (.loc 0 0))),(1,.i d),(2,.p (.lst .str w)),(6,.i 0),(7,.i q),(8,.i (5))],ck:=(zXj1 c),m:=5 }):=by
 refine jg jN Tryz.func51 (let x1:List Chunk:=(zXj1 c); let x4:=(c.states.length:Int); let x2:=(d>IntKind.wrap .i64 (Stat.depth (ETy.get .stat c.states ((IntKind.wrap .i64 (x4 - 1)).toNat))+(1:Int))); let x3:List PI:=zXj3; let x5:Nat×SV:=(64,.grd 61 false (.p (.str (ETy.get .str w 1)))); let x6:Nat×SV:=(0,.x (.c (.loc 0 0))); let x7:=((0:Int)≤IntKind.wrap .i64 (x4 - 1)∧IntKind.wrap .i64 (x4 - 1)<x4); let x8:List PI:=zXj2; let x9:=((IntKind.wrap .i64 (x4 - 1)).toNat<c.states.length); let x10:=((w.length:Int) != 3||decide (d>(0:Int))); let x11:=((w.length:Int) != 2||decide (d>(0:Int))); let x12:=((w.length:Int) != 3||decide x2); let x13:=((w.length:Int) != 2||decide x2); let x14:=(IntKind.wrap .i64 ((5:Int)+1)); .ite true (.need ((0:Int)≤5∧(5:Int)<(↑(7:Nat):Int)) (.need (inRg 0 w.length) (.ite (eY==ETy.get .str w 0) (.stop x8 { n:=99,fr:=[x6,(1,.i d),(2,.p (.lst .str w)),(6,.i 0),(7,.i 5),(8,.i x14)],ck:=x1,m:=5 }) (.stop x8 { n:=99,fr:=[x6,(1,.i d),(2,.p (.lst .str w)),(6,.i 0),(7,.i q),(8,.i x14)],ck:=x1,m:=5 })))) (.ite (q==(0:Int)) (.ret (.i 0) x1) (.ite (q==(2:Int)||decide (q>(4:Int))) (.ite (decide (x4>0)) (.need x7 (.need x9 (.need (x12=false→(0:Int)≤1∧(1:Int)<(w.length:Int)) (.stop x3 { n:=99,fr:=[x6,(1,.i d),(2,.p (.lst .str w)),(6,.i 0),(7,.i q),(9,.i 3),(61,.p (.bool x12)),x5],ck:=x1,m:=5 })))) (.need (x10=false→(0:Int)≤1∧(1:Int)<(w.length:Int)) (.stop x3 { n:=99,fr:=[x6,(1,.i d),(2,.p (.lst .str w)),(6,.i 0),(7,.i q),(9,.i 3),(61,.p (.bool x10)),x5],ck:=x1,m:=5 }))) (.ite (decide (x4>0)) (.need x7 (.need x9 (.need (x13=false→(0:Int)≤1∧(1:Int)<(w.length:Int)) (.stop x3 { n:=99,fr:=[x6,(1,.i d),(2,.p (.lst .str w)),(6,.i 0),(7,.i q),(9,.i 2),(61,.p (.bool x13)),x5],ck:=x1,m:=5 })))) (.need (x11=false→(0:Int)≤1∧(1:Int)<(w.length:Int)) (.stop x3 { n:=99,fr:=[x6,(1,.i d),(2,.p (.lst .str w)),(6,.i 0),(7,.i q),(9,.i 2),(61,.p (.bool x11)),x5],ck:=x1,m:=5 })))))) ?_
 conv=>zeta
 have e0:ETy.get .str w 0=ag w 0:=rfl
 have hw:IntKind.wrap .i64 ((5:Int)+1)=(6:Int):=by rw [bG (by omega) (by omega)]; rfl
 rw [e0,hw]
 refine ⟨fun _=>⟨⟨by omega,by omega⟩,⟨by omega,by omega⟩,fun h=>?_,fun h=>?_⟩,fun h=>Bool.noConfusion h⟩
 · have e:ag w 0=eY:=(eq_of_beq h).symm
   have e2:j7 (ag w 0) q=jY (ag w 0) 5:=by unfold j7; rw [if_pos e]
   rw [e2]
   exact Kh c d 5 w hf h0 Γ
 · have e:ag w 0≠eY:=fun e=>by rw [e] at h; exact absurd h (by decide)
   have e2:j7 (ag w 0) q=jY (ag w 0) q:=by unfold j7; rw [if_neg e]
   rw [e2]
   exact Kh c d q w hf h0 Γ
def kd:Int:=if u=gx then j7 u 4 else j7 u q
theorem KJ (hf:Fit c 6001) (h0:0<w.length) (Γ:Ctx):zJ51Xj Γ (SdQ c d w (kd (ag w 0) q)) zXj2 ({ n:=99,fr:=[(0,.x (.c (.loc 0 0))),(1,.i d),(2,.p (.lst .str w)),(6,.i 0),(7,.i q),(8,.i (4))],ck:=(zXj1 c),m:=5 }):=by
 refine jg jN Tryz.func51 (let x1:List Chunk:=(zXj1 c); let x4:=(c.states.length:Int); let x2:=(d>IntKind.wrap .i64 (Stat.depth (ETy.get .stat c.states ((IntKind.wrap .i64 (x4 - 1)).toNat))+(1:Int))); let x3:List PI:=zXj3; let x5:Nat×SV:=(64,.grd 61 false (.p (.str (ETy.get .str w 1)))); let x6:Nat×SV:=(0,.x (.c (.loc 0 0))); let x7:=((0:Int)≤IntKind.wrap .i64 (x4 - 1)∧IntKind.wrap .i64 (x4 - 1)<x4); let x8:List PI:=zXj2; let x9:=((IntKind.wrap .i64 (x4 - 1)).toNat<c.states.length); let x10:=((w.length:Int) != 3||decide (d>(0:Int))); let x11:=((w.length:Int) != 2||decide (d>(0:Int))); let x12:=((w.length:Int) != 3||decide x2); let x13:=((w.length:Int) != 2||decide x2); let x14:=(IntKind.wrap .i64 ((4:Int)+1)); .ite true (.need ((0:Int)≤4∧(4:Int)<(↑(7:Nat):Int)) (.need (inRg 0 w.length) (.ite (gx==ETy.get .str w 0) (.stop x8 { n:=99,fr:=[x6,(1,.i d),(2,.p (.lst .str w)),(6,.i 0),(7,.i 4),(8,.i x14)],ck:=x1,m:=5 }) (.stop x8 { n:=99,fr:=[x6,(1,.i d),(2,.p (.lst .str w)),(6,.i 0),(7,.i q),(8,.i x14)],ck:=x1,m:=5 })))) (.ite (q==(0:Int)) (.ret (.i 0) x1) (.ite (q==(2:Int)||decide (q>(4:Int))) (.ite (decide (x4>0)) (.need x7 (.need x9 (.need (x12=false→(0:Int)≤1∧(1:Int)<(w.length:Int)) (.stop x3 { n:=99,fr:=[x6,(1,.i d),(2,.p (.lst .str w)),(6,.i 0),(7,.i q),(9,.i 3),(61,.p (.bool x12)),x5],ck:=x1,m:=5 })))) (.need (x10=false→(0:Int)≤1∧(1:Int)<(w.length:Int)) (.stop x3 { n:=99,fr:=[x6,(1,.i d),(2,.p (.lst .str w)),(6,.i 0),(7,.i q),(9,.i 3),(61,.p (.bool x10)),x5],ck:=x1,m:=5 }))) (.ite (decide (x4>0)) (.need x7 (.need x9 (.need (x13=false→(0:Int)≤1∧(1:Int)<(w.length:Int)) (.stop x3 { n:=99,fr:=[x6,(1,.i d),(2,.p (.lst .str w)),(6,.i 0),(7,.i q),(9,.i 2),(61,.p (.bool x13)),x5],ck:=x1,m:=5 })))) (.need (x11=false→(0:Int)≤1∧(1:Int)<(w.length:Int)) (.stop x3 { n:=99,fr:=[x6,(1,.i d),(2,.p (.lst .str w)),(6,.i 0),(7,.i q),(9,.i 2),(61,.p (.bool x11)),x5],ck:=x1,m:=5 })))))) ?_
 conv=>zeta
 have e0:ETy.get .str w 0=ag w 0:=rfl
 have hw:IntKind.wrap .i64 ((4:Int)+1)=(5:Int):=by rw [bG (by omega) (by omega)]; rfl
 rw [e0,hw]
 refine ⟨fun _=>⟨⟨by omega,by omega⟩,⟨by omega,by omega⟩,fun h=>?_,fun h=>?_⟩,fun h=>Bool.noConfusion h⟩
 · have e:ag w 0=gx:=(eq_of_beq h).symm
   have e2:kd (ag w 0) q=j7 (ag w 0) 4:=by unfold kd; rw [if_pos e]
   rw [e2]
   exact KF c d 4 w hf h0 Γ
 · have e:ag w 0≠gx:=fun e=>by rw [e] at h; exact absurd h (by decide)
   have e2:kd (ag w 0) q=j7 (ag w 0) q:=by unfold kd; rw [if_neg e]
   rw [e2]
   exact KF c d q w hf h0 Γ
def j9:Int:=if u=hO then kd u 3 else kd u q
theorem Ki (hf:Fit c 6001) (h0:0<w.length) (Γ:Ctx):zJ51Xj Γ (SdQ c d w (j9 (ag w 0) q)) zXj2 ({ n:=99,fr:=[(0,.x (.c (.loc 0 0))),(1,.i d),(2,.p (.lst .str w)),(6,.i 0),(7,.i q),(8,.i (3))],ck:=(zXj1 c),m:=5 }):=by
 refine jg jN Tryz.func51 (let x1:List Chunk:=(zXj1 c); let x4:=(c.states.length:Int); let x2:=(d>IntKind.wrap .i64 (Stat.depth (ETy.get .stat c.states ((IntKind.wrap .i64 (x4 - 1)).toNat))+(1:Int))); let x3:List PI:=zXj3; let x5:Nat×SV:=(64,.grd 61 false (.p (.str (ETy.get .str w 1)))); let x6:Nat×SV:=(0,.x (.c (.loc 0 0))); let x7:=((0:Int)≤IntKind.wrap .i64 (x4 - 1)∧IntKind.wrap .i64 (x4 - 1)<x4); let x8:List PI:=zXj2; let x9:=((IntKind.wrap .i64 (x4 - 1)).toNat<c.states.length); let x10:=((w.length:Int) != 3||decide (d>(0:Int))); let x11:=((w.length:Int) != 2||decide (d>(0:Int))); let x12:=((w.length:Int) != 3||decide x2); let x13:=((w.length:Int) != 2||decide x2); let x14:=(IntKind.wrap .i64 ((3:Int)+1)); .ite true (.need ((0:Int)≤3∧(3:Int)<(↑(7:Nat):Int)) (.need (inRg 0 w.length) (.ite (hO==ETy.get .str w 0) (.stop x8 { n:=99,fr:=[x6,(1,.i d),(2,.p (.lst .str w)),(6,.i 0),(7,.i 3),(8,.i x14)],ck:=x1,m:=5 }) (.stop x8 { n:=99,fr:=[x6,(1,.i d),(2,.p (.lst .str w)),(6,.i 0),(7,.i q),(8,.i x14)],ck:=x1,m:=5 })))) (.ite (q==(0:Int)) (.ret (.i 0) x1) (.ite (q==(2:Int)||decide (q>(4:Int))) (.ite (decide (x4>0)) (.need x7 (.need x9 (.need (x12=false→(0:Int)≤1∧(1:Int)<(w.length:Int)) (.stop x3 { n:=99,fr:=[x6,(1,.i d),(2,.p (.lst .str w)),(6,.i 0),(7,.i q),(9,.i 3),(61,.p (.bool x12)),x5],ck:=x1,m:=5 })))) (.need (x10=false→(0:Int)≤1∧(1:Int)<(w.length:Int)) (.stop x3 { n:=99,fr:=[x6,(1,.i d),(2,.p (.lst .str w)),(6,.i 0),(7,.i q),(9,.i 3),(61,.p (.bool x10)),x5],ck:=x1,m:=5 }))) (.ite (decide (x4>0)) (.need x7 (.need x9 (.need (x13=false→(0:Int)≤1∧(1:Int)<(w.length:Int)) (.stop x3 { n:=99,fr:=[x6,(1,.i d),(2,.p (.lst .str w)),(6,.i 0),(7,.i q),(9,.i 2),(61,.p (.bool x13)),x5],ck:=x1,m:=5 })))) (.need (x11=false→(0:Int)≤1∧(1:Int)<(w.length:Int)) (.stop x3 { n:=99,fr:=[x6,(1,.i d),(2,.p (.lst .str w)),(6,.i 0),(7,.i q),(9,.i 2),(61,.p (.bool x11)),x5],ck:=x1,m:=5 })))))) ?_
 conv=>zeta
 have e0:ETy.get .str w 0=ag w 0:=rfl
 have hw:IntKind.wrap .i64 ((3:Int)+1)=(4:Int):=by rw [bG (by omega) (by omega)]; rfl
 rw [e0,hw]
 refine ⟨fun _=>⟨⟨by omega,by omega⟩,⟨by omega,by omega⟩,fun h=>?_,fun h=>?_⟩,fun h=>Bool.noConfusion h⟩
 · have e:ag w 0=hO:=(eq_of_beq h).symm
   have e2:j9 (ag w 0) q=kd (ag w 0) 3:=by unfold j9; rw [if_pos e]
   rw [e2]
   exact KJ c d 3 w hf h0 Γ
 · have e:ag w 0≠hO:=fun e=>by rw [e] at h; exact absurd h (by decide)
   have e2:j9 (ag w 0) q=kd (ag w 0) q:=by unfold j9; rw [if_neg e]
   rw [e2]
   exact KJ c d q w hf h0 Γ
def j0:Int:=if u=jf then j9 u 2 else j9 u q
theorem Ka (hf:Fit c 6001) (h0:0<w.length) (Γ:Ctx):zJ51Xj Γ (SdQ c d w (j0 (ag w 0) q)) zXj2 ({ n:=99,fr:=[(0,.x (.c (.loc 0 0))),(1,.i d),(2,.p (.lst .str w)),(6,.i 0),(7,.i q),(8,.i (2))],ck:=(zXj1 c),m:=5 }):=by
 refine jg jN Tryz.func51 (let x1:List Chunk:=(zXj1 c); let x4:=(c.states.length:Int); let x2:=(d>IntKind.wrap .i64 (Stat.depth (ETy.get .stat c.states ((IntKind.wrap .i64 (x4 - 1)).toNat))+(1:Int))); let x3:List PI:=zXj3; let x5:Nat×SV:=(64,.grd 61 false (.p (.str (ETy.get .str w 1)))); let x6:Nat×SV:=(0,.x (.c (.loc 0 0))); let x7:=((0:Int)≤IntKind.wrap .i64 (x4 - 1)∧IntKind.wrap .i64 (x4 - 1)<x4); let x8:List PI:=zXj2; let x9:=((IntKind.wrap .i64 (x4 - 1)).toNat<c.states.length); let x10:=((w.length:Int) != 3||decide (d>(0:Int))); let x11:=((w.length:Int) != 2||decide (d>(0:Int))); let x12:=((w.length:Int) != 3||decide x2); let x13:=((w.length:Int) != 2||decide x2); let x14:=(IntKind.wrap .i64 ((2:Int)+1)); .ite true (.need ((0:Int)≤2∧(2:Int)<(↑(7:Nat):Int)) (.need (inRg 0 w.length) (.ite (jf==ETy.get .str w 0) (.stop x8 { n:=99,fr:=[x6,(1,.i d),(2,.p (.lst .str w)),(6,.i 0),(7,.i 2),(8,.i x14)],ck:=x1,m:=5 }) (.stop x8 { n:=99,fr:=[x6,(1,.i d),(2,.p (.lst .str w)),(6,.i 0),(7,.i q),(8,.i x14)],ck:=x1,m:=5 })))) (.ite (q==(0:Int)) (.ret (.i 0) x1) (.ite (q==(2:Int)||decide (q>(4:Int))) (.ite (decide (x4>0)) (.need x7 (.need x9 (.need (x12=false→(0:Int)≤1∧(1:Int)<(w.length:Int)) (.stop x3 { n:=99,fr:=[x6,(1,.i d),(2,.p (.lst .str w)),(6,.i 0),(7,.i q),(9,.i 3),(61,.p (.bool x12)),x5],ck:=x1,m:=5 })))) (.need (x10=false→(0:Int)≤1∧(1:Int)<(w.length:Int)) (.stop x3 { n:=99,fr:=[x6,(1,.i d),(2,.p (.lst .str w)),(6,.i 0),(7,.i q),(9,.i 3),(61,.p (.bool x10)),x5],ck:=x1,m:=5 }))) (.ite (decide (x4>0)) (.need x7 (.need x9 (.need (x13=false→(0:Int)≤1∧(1:Int)<(w.length:Int)) (.stop x3 { n:=99,fr:=[x6,(1,.i d),(2,.p (.lst .str w)),(6,.i 0),(7,.i q),(9,.i 2),(61,.p (.bool x13)),x5],ck:=x1,m:=5 })))) (.need (x11=false→(0:Int)≤1∧(1:Int)<(w.length:Int)) (.stop x3 { n:=99,fr:=[x6,(1,.i d),(2,.p (.lst .str w)),(6,.i 0),(7,.i q),(9,.i 2),(61,.p (.bool x11)),x5],ck:=x1,m:=5 })))))) ?_
 conv=>zeta
 have e0:ETy.get .str w 0=ag w 0:=rfl
 have hw:IntKind.wrap .i64 ((2:Int)+1)=(3:Int):=by rw [bG (by omega) (by omega)]; rfl
 rw [e0,hw]
 refine ⟨fun _=>⟨⟨by omega,by omega⟩,⟨by omega,by omega⟩,fun h=>?_,fun h=>?_⟩,fun h=>Bool.noConfusion h⟩
 · have e:ag w 0=jf:=(eq_of_beq h).symm
   have e2:j0 (ag w 0) q=j9 (ag w 0) 2:=by unfold j0; rw [if_pos e]
   rw [e2]
   exact Ki c d 2 w hf h0 Γ
 · have e:ag w 0≠jf:=fun e=>by rw [e] at h; exact absurd h (by decide)
   have e2:j0 (ag w 0) q=j9 (ag w 0) q:=by unfold j0; rw [if_neg e]
   rw [e2]
   exact Ki c d q w hf h0 Γ
def nM:Int:=if u=gu then j0 u 1 else j0 u q
theorem OB (hf:Fit c 6001) (h0:0<w.length) (Γ:Ctx):zJ51Xj Γ (SdQ c d w (nM (ag w 0) q)) zXj2 ({ n:=99,fr:=[(0,.x (.c (.loc 0 0))),(1,.i d),(2,.p (.lst .str w)),(6,.i 0),(7,.i q),(8,.i (1))],ck:=(zXj1 c),m:=5 }):=by
 refine jg jN Tryz.func51 (let x1:List Chunk:=(zXj1 c); let x4:=(c.states.length:Int); let x2:=(d>IntKind.wrap .i64 (Stat.depth (ETy.get .stat c.states ((IntKind.wrap .i64 (x4 - 1)).toNat))+(1:Int))); let x3:List PI:=zXj3; let x5:Nat×SV:=(64,.grd 61 false (.p (.str (ETy.get .str w 1)))); let x6:Nat×SV:=(0,.x (.c (.loc 0 0))); let x7:=((0:Int)≤IntKind.wrap .i64 (x4 - 1)∧IntKind.wrap .i64 (x4 - 1)<x4); let x8:List PI:=zXj2; let x9:=((IntKind.wrap .i64 (x4 - 1)).toNat<c.states.length); let x10:=((w.length:Int) != 3||decide (d>(0:Int))); let x11:=((w.length:Int) != 2||decide (d>(0:Int))); let x12:=((w.length:Int) != 3||decide x2); let x13:=((w.length:Int) != 2||decide x2); let x14:=(IntKind.wrap .i64 ((1:Int)+1)); .ite true (.need ((0:Int)≤1∧(1:Int)<(↑(7:Nat):Int)) (.need (inRg 0 w.length) (.ite (gu==ETy.get .str w 0) (.stop x8 { n:=99,fr:=[x6,(1,.i d),(2,.p (.lst .str w)),(6,.i 0),(7,.i 1),(8,.i x14)],ck:=x1,m:=5 }) (.stop x8 { n:=99,fr:=[x6,(1,.i d),(2,.p (.lst .str w)),(6,.i 0),(7,.i q),(8,.i x14)],ck:=x1,m:=5 })))) (.ite (q==(0:Int)) (.ret (.i 0) x1) (.ite (q==(2:Int)||decide (q>(4:Int))) (.ite (decide (x4>0)) (.need x7 (.need x9 (.need (x12=false→(0:Int)≤1∧(1:Int)<(w.length:Int)) (.stop x3 { n:=99,fr:=[x6,(1,.i d),(2,.p (.lst .str w)),(6,.i 0),(7,.i q),(9,.i 3),(61,.p (.bool x12)),x5],ck:=x1,m:=5 })))) (.need (x10=false→(0:Int)≤1∧(1:Int)<(w.length:Int)) (.stop x3 { n:=99,fr:=[x6,(1,.i d),(2,.p (.lst .str w)),(6,.i 0),(7,.i q),(9,.i 3),(61,.p (.bool x10)),x5],ck:=x1,m:=5 }))) (.ite (decide (x4>0)) (.need x7 (.need x9 (.need (x13=false→(0:Int)≤1∧(1:Int)<(w.length:Int)) (.stop x3 { n:=99,fr:=[x6,(1,.i d),(2,.p (.lst .str w)),(6,.i 0),(7,.i q),(9,.i 2),(61,.p (.bool x13)),x5],ck:=x1,m:=5 })))) (.need (x11=false→(0:Int)≤1∧(1:Int)<(w.length:Int)) (.stop x3 { n:=99,fr:=[x6,(1,.i d),(2,.p (.lst .str w)),(6,.i 0),(7,.i q),(9,.i 2),(61,.p (.bool x11)),x5],ck:=x1,m:=5 })))))) ?_
 conv=>zeta
 have e0:ETy.get .str w 0=ag w 0:=rfl
 have hw:IntKind.wrap .i64 ((1:Int)+1)=(2:Int):=by rw [bG (by omega) (by omega)]; rfl
 rw [e0,hw]
 refine ⟨fun _=>⟨⟨by omega,by omega⟩,⟨by omega,by omega⟩,fun h=>?_,fun h=>?_⟩,fun h=>Bool.noConfusion h⟩
 · have e:ag w 0=gu:=(eq_of_beq h).symm
   have e2:nM (ag w 0) q=j0 (ag w 0) 1:=by unfold nM; rw [if_pos e]
   rw [e2]
   exact Ka c d 1 w hf h0 Γ
 · have e:ag w 0≠gu:=fun e=>by rw [e] at h; exact absurd h (by decide)
   have e2:nM (ag w 0) q=j0 (ag w 0) q:=by unfold nM; rw [if_neg e]
   rw [e2]
   exact Ka c d q w hf h0 Γ
theorem LY:nM u 0=kindOf u:=by
 unfold nM j0 j9 kd j7 jY kindOf
 by_cases h1:u=gu
 · subst h1; rfl
 by_cases h2:u=jf
 · subst h2; rfl
 by_cases h3:u=hO
 · subst h3; rfl
 by_cases h4:u=gx
 · subst h4; rfl
 by_cases h5:u=eY
 · subst h5; rfl
 by_cases h6:u=hP
 · subst h6; rfl
 simp only [if_neg h1,if_neg h2,if_neg h3,if_neg h4,if_neg h5,if_neg h6]
theorem Ix (hf:Fit c 6001) (h0:0<w.length) (Γ:Ctx):zJ51Xj Γ (SdQ c d w (kindOf (ag w 0))) [.code []] (bX Tryz.f51.ntmps [.c (.loc 0 0),.i d,.l .str w] (fW c)):=by
 refine jg ys Tryz.func51 (.stop zXj2 { n:=99,fr:=[(0,.x (.c (.loc 0 0))),(1,.i d),(2,.p (.lst .str w)),(6,.i 0),(7,.i 0),(8,.i 1)],ck:=(zXj1 c),m:=5 }) ?_
 rw [← LY]
 exact OB c d 0 w hf h0 Γ
end Go.Proofs.YtpfidgnkokidoaaGreatDoor
namespace Go.Proofs.YtpfidgnkokidoaaGreatDoor
open Go Go.Ev
set_option maxRecDepth 100000
variable (c:Chart) (d:Int) (w:List Str)
theorem Mw (hf:Fit c 6001) (h0:0<w.length) (h:kindOf (ag w 0)=0):ak Tryz.prog 51 [.c (.loc 0 0),.i d,.l .str w] (fW c) (.x (.i 0)) (fW c) :=
 ak.of Tryz.func51 (by kernel_rfl) (by kernel_rfl) fun Γ=>J.mono (fun v k q=>q.1 h) (Ix c d w hf h0 Γ)
theorem LZ (hf:Fit c 6001) (h0:0<w.length) (h:kindOf (ag w 0)≠0) (ho:(aH (kindOf (ag w 0)) (cj (kindOf (ag w 0))) c d (w.drop 1)).isSome=true):ak Tryz.prog 51 [.c (.loc 0 0),.i d,.l .str w] (fW c) (.x (.i 1)) (ckD (got (aH (kindOf (ag w 0)) (cj (kindOf (ag w 0))) c d (w.drop 1)))):=by
 obtain ⟨c',hc⟩:=cC.1 ho
 rw [yX hc]
 exact ak.renum Tryz.func51 (by kernel_rfl) (by kernel_rfl) rfl fun Γ=>J.mono (fun v k q=>(q.2 h).1 c' hc) (Ix c d w hf h0 Γ)
theorem No (hf:Fit c 6001) (h0:0<w.length) (h:kindOf (ag w 0)≠0) (ho:(aH (kindOf (ag w 0)) (cj (kindOf (ag w 0))) c d (w.drop 1)).isSome=false):ak Tryz.prog 51 [.c (.loc 0 0),.i d,.l .str w] (fW c) (.x (.i 2)) [.dead,.dead,.dead,.dead,.dead] :=
 ak.lost 5 Tryz.func51 (by kernel_rfl) (by kernel_rfl) rfl fun Γ=>J.mono (fun v k q=>(q.2 h).2 (Option.isSome_eq_false_iff.1 ho |> fN.1)) (Ix c d w hf h0 Γ)
noncomputable def xK:Ent:=(51,fun
 | [.c (.loc 0 0),.c (.pd (.int .i64 d)),.c (.pd (.lst .str w))],[.cells [.pd (.str nm),.own 1,.own 2,.own 3,.own 4] 27,.own 9 .str ev,.own 61 .var vs,.own 64 .stat st,.own 68 .tran tr]=>some (some (Fit ⟨nm,ev,vs,st,tr⟩ 6001∧0<w.length∧kindOf (ag w 0)=0),.x (.c (.pd (.int .i64 0))),[.cells [.pd (.str nm),.own 1,.own 2,.own 3,.own 4] 27,.own 9 .str ev,.own 61 .var vs,.own 64 .stat st,.own 68 .tran tr])
 | _,_=>none)
theorem B0:EntOk Tryz.prog xK:=entOk fun vs ck=>by
 unfold xK; dsimp only; split
 · rename_i d w nm ev vs st tr; exact entS fun hp=>Mw ⟨nm,ev,vs,st,tr⟩ d w hp.1 hp.2.1 hp.2.2
 · exact entN
noncomputable def D7:Ent:=(51,fun
 | [.c (.loc 0 0),.c (.pd (.int .i64 d)),.c (.pd (.lst .str w))],[.cells [.pd (.str nm),.own 1,.own 2,.own 3,.own 4] 27,.own 9 .str ev,.own 61 .var vs,.own 64 .stat st,.own 68 .tran tr]=>some (some (Fit ⟨nm,ev,vs,st,tr⟩ 6001∧0<w.length∧kindOf (ag w 0)≠0∧(aH (kindOf (ag w 0)) (cj (kindOf (ag w 0))) ⟨nm,ev,vs,st,tr⟩ d (w.drop 1)).isSome=true),.x (.c (.pd (.int .i64 1))),[.cells [.pd (.str (got (aH (kindOf (ag w 0)) (cj (kindOf (ag w 0))) ⟨nm,ev,vs,st,tr⟩ d (w.drop 1))).name),.own 5,.own 6,.own 7,.own 8] 27,.dead,.dead,.dead,.dead,.own 9 .str (got (aH (kindOf (ag w 0)) (cj (kindOf (ag w 0))) ⟨nm,ev,vs,st,tr⟩ d (w.drop 1))).events,.own 61 .var (got (aH (kindOf (ag w 0)) (cj (kindOf (ag w 0))) ⟨nm,ev,vs,st,tr⟩ d (w.drop 1))).vars,.own 64 .stat (got (aH (kindOf (ag w 0)) (cj (kindOf (ag w 0))) ⟨nm,ev,vs,st,tr⟩ d (w.drop 1))).states,.own 68 .tran (got (aH (kindOf (ag w 0)) (cj (kindOf (ag w 0))) ⟨nm,ev,vs,st,tr⟩ d (w.drop 1))).trans])
 | _,_=>none)
theorem MM:EntOk Tryz.prog D7:=entOk fun vs ck=>by
 unfold D7; dsimp only; split
 · rename_i d w nm ev vs st tr; exact entS fun hp=>LZ ⟨nm,ev,vs,st,tr⟩ d w hp.1 hp.2.1 hp.2.2.1 hp.2.2.2
 · exact entN
noncomputable def DP:Ent:=(51,fun
 | [.c (.loc 0 0),.c (.pd (.int .i64 d)),.c (.pd (.lst .str w))],[.cells [.pd (.str nm),.own 1,.own 2,.own 3,.own 4] 27,.own 9 .str ev,.own 61 .var vs,.own 64 .stat st,.own 68 .tran tr]=>some (some (Fit ⟨nm,ev,vs,st,tr⟩ 6001∧0<w.length∧kindOf (ag w 0)≠0∧(aH (kindOf (ag w 0)) (cj (kindOf (ag w 0))) ⟨nm,ev,vs,st,tr⟩ d (w.drop 1)).isSome=false),.x (.c (.pd (.int .i64 2))),[.dead,.dead,.dead,.dead,.dead])
 | _,_=>none)
theorem MK:EntOk Tryz.prog DP:=entOk fun vs ck=>by
 unfold DP; dsimp only; split
 · rename_i d w nm ev vs st tr; exact entS fun hp=>No ⟨nm,ev,vs,st,tr⟩ d w hp.1 hp.2.1 hp.2.2.1 hp.2.2.2
 · exact entN
end Go.Proofs.YtpfidgnkokidoaaGreatDoor
namespace Go.Proofs.YtpfidgnkokidoaaGreatDoor
open Go Go.Ev
set_option maxRecDepth 100000
noncomputable def Gj:Cfg:=⟨a6,[jb,uk,wX]⟩
theorem Gl:ah Tryz.prog Gj.tab:=(ah.cons gD (ah.cons u6 (ah.cons JJ ah.nil)))
noncomputable def Hs:Cfg:=⟨a6,[jb,uk,xv]⟩
theorem G6:ah Tryz.prog Hs.tab:=(ah.cons gD (ah.cons u6 (ah.cons JC ah.nil)))
def bL (o:Option Chart):Out:=fun v k=>(∀ c',o=some c'→IsD c' v k)∧(o=none→v = .x (.b false))
theorem bL.yes {o:Option Chart} {c':Chart} {v:SV} {k:List Chunk} (h:o=some c') (hr:IsD c' v k):bL o v k:=⟨fun c2 h2=>(by rw [h] at h2; cases h2; exact hr),fun h2=>(by rw [h] at h2; cases h2)⟩
theorem bL.no {o:Option Chart} {k:List Chunk} (h:o=none):bL o (.x (.b false)) k:=⟨fun c2 h2=>(by rw [h] at h2; cases h2),fun _=>rfl⟩
variable (c a:Chart) (w:List Str)
noncomputable def gI:Option Chart:=if ag w 0=iD then gR c 0 (w.drop 1) else if ag w 0=jd then jO c 0 (w.drop 1) else if ag w 0=jC then iI c 0 (w.drop 1) else if ag w 0=gT then gd c 0 (w.drop 1) else none
theorem pV {k:Str} (h:kindOf k=0):k≠gu∧k≠hO∧k≠gx∧k≠jf∧k≠eY∧k≠hP:=by
 refine ⟨?_,?_,?_,?_,?_,?_⟩ <;> (rintro rfl; exact absurd h (by decide))
theorem vE {c:Chart} {w:List Str} (hs:c.states=[]) (h:kindOf (ag w 0)=0):bF c 0 (ag w 0) (w.drop 1)=gI c w:=by
 obtain ⟨h1,h2,h3,h4,h5,h6⟩:=pV h
 unfold bF gI
 simp only [if_neg h1,if_neg h2,if_neg h3,if_neg h4,if_neg h5,if_neg h6]
 have e1:fI c 0 (w.drop 1)=none:=by unfold fI; rw [hs]; rfl
 have e2:gz c 0 (w.drop 1)=none:=by unfold gz; rw [hs]; rfl
 have e3:onC c 0 (w.drop 1)=none:=by unfold onC; exact if_neg fun x=>by have y:=x.1; unfold cB at y; rw [hs] at y; cases y
 rw [e1,e2,e3]
 simp only [ite_self]
theorem kA {c:Chart} {w:List Str} (hs:c.states=[]) (h0:0<w.length) (n:Int):de c 0 (w.drop 1) n=true↔((w.length:Int)=n+1∧aC (ag w 1)=true):=by
 unfold de
 rw [hs,aL]
 have e:ETy.get .str (w.drop 1) 0=ag w 1:=cF w 0
 rw [e]
 simp only [al,af,beq_iff_eq]
 constructor
 · rintro ⟨⟨_,h⟩,h2⟩; exact ⟨by omega,h2⟩
 · rintro ⟨h,h2⟩; exact ⟨⟨⟨by simp,by simp⟩,by omega⟩,h2⟩
theorem kQ (d:Int) (w:List Str):(de c d w 4=true∧(aQ (ag w 1)).2=0∧(aQ (ag w 2)).2=0∧dr (ag w 3)→gd c d w=some { c with vars:=c.vars++[⟨ag w 0,3,(aQ (ag w 1)).1,(aQ (ag w 2)).1,⟨3,ptA (ag w 3),ptB (ag w 3)⟩⟩] })∧(¬(de c d w 4=true∧(aQ (ag w 1)).2=0∧(aQ (ag w 2)).2=0∧dr (ag w 3))→gd c d w=none):=by
 unfold gd
 exact ⟨fun h=>if_pos h,fun h=>if_neg h⟩
theorem vT {c:Chart} {w:List Str} (hs:c.states=[]) (h0:0<w.length)
 (h:¬(aC (ag w 1)=true∧((ag w 0=iD∧w.length=2)∨(ag w 0=jC∧w.length=3∧(ag w 2=ei∨ag w 2=fF))∨((ag w 0=jd∨ag w 0=gT)∧w.length=5)))):gI c w=none:=by
 unfold gI
 by_cases k1:ag w 0=iD
 · rw [if_pos k1]; unfold gR
   refine if_neg fun x=>h ?_
   have:=(kA hs h0 1).1 x
   exact ⟨this.2,.inl ⟨k1,by omega⟩⟩
 rw [if_neg k1]
 by_cases k2:ag w 0=jd
 · rw [if_pos k2]; unfold jO
   refine if_neg fun x=>h ?_
   have:=(kA hs h0 4).1 x.1
   exact ⟨this.2,.inr (.inr ⟨.inl k2,by omega⟩)⟩
 rw [if_neg k2]
 by_cases k3:ag w 0=jC
 · rw [if_pos k3]; unfold iI
   refine if_neg fun x=>h ?_
   have:=(kA hs h0 2).1 x.1
   have y:=x.2
   rw [cF] at y
   exact ⟨this.2,.inr (.inl ⟨k3,by omega,y⟩)⟩
 rw [if_neg k3]
 by_cases k4:ag w 0=gT
 · rw [if_pos k4]
   refine (kQ _ _ _).2 fun x=>h ?_
   have:=(kA hs h0 4).1 x.1
   exact ⟨this.2,.inr (.inr ⟨.inr k4,by omega⟩)⟩
 rw [if_neg k4]
abbrev zXk1:Chunk:=.cells [.pd (.str a.name),.own 1,.own 5,.own 3,.own 4] 27
abbrev zXk2:List Chunk:=[.cells [.pd (.str a.name),.own 1,.own 2,.own 3,.own 4] 27,.own 9 .str a.events,.own 61 .var a.vars,.own 64 .stat a.states,.own 68 .tran a.trans]
abbrev zXk3:Chunk:=.own 64 .stat a.states
theorem Od (hf:Fit c 6001) (hs:c.states=[]) (h0:0<w.length) (hl:∀ x∈w,x.length≤1000000) (Γ:Ctx):J Tryz.prog 52 (az Tryz.f52) Γ (bL (gI c w)) [.code []] (bX Tryz.f52.ntmps [.c (.loc 0 0),.l .str w] (fW c)):=by
 have he:=hf.events
 have hv:=hf.vars
 have g:∀ k,ETy.get .str w k=ag w k:=fun _=>rfl
 have lw:∀ k,k<w.length→(ag w k).length≤1000000:=fun k hk=>hl _ (get_mem hk)
 have A:∀ k,(decide ((w.length:Int)<2) || !aC (ag w 1))=true→bL (gI c w) (.x (.b false)) k:=fun k h=>bL.no (vT hs h0 (by
  rintro ⟨x,y⟩
  rw [x] at h
  simp only [Bool.not_true,eu,decide_eq_true_eq] at h
  rcases y with ⟨_,y⟩ | ⟨_,y,_⟩ | ⟨_,y⟩ <;> omega))
 have B:∀ r (k:List Chunk),aC (ag w 1)=true→(ag w 0==iD&&((w.length:Int)==2))=true→k=HO { c with events:=c.events++[ag w 1] }→r=SV.x (.b true)→bL (gI c w) r k:=fun r k hn h hk hr=>by
  simp only [af,beq_iff_eq] at h
  rw [hr]
  refine bL.yes (c':={ c with events:=c.events++[ag w 1] }) ?_ (IsD.of1 hk)
  unfold gI gR
  rw [if_pos h.1,if_pos ((kA hs h0 1).2 ⟨by omega,hn⟩),cF]
 have C:∀ r (k:List Chunk),aC (ag w 1)=true→(ag w 0==jC&&((w.length:Int)==3)&&(ag w 2==ei||ag w 2==fF))=true→k=xy { c with vars:=c.vars++[⟨ag w 1,2,0,1,⟨2,if ag w 2=ei then 1 else 0,0⟩⟩] }→r=SV.x (.b true)→bL (gI c w) r k:=fun r k hn h hk hr=>by
  simp only [af,aA,beq_iff_eq] at h
  rw [hr]
  refine bL.yes (c':={ c with vars:=c.vars++[⟨ag w 1,2,0,1,⟨2,if ag w 2=ei then 1 else 0,0⟩⟩] }) ?_ (IsD.of2 hk)
  unfold gI iI
  rw [h.1.1,if_neg (by decide),if_neg (by decide),if_pos rfl,cF,cF,if_pos ⟨(kA hs h0 2).2 ⟨by omega,hn⟩,h.2⟩]
 have D:∀ k,(ag w 0==iD&&((w.length:Int)==2))=false→(ag w 0==jC&&((w.length:Int)==3)&&(ag w 2==ei||ag w 2==fF))=false→(((w.length:Int) != 5) || !ag w 0==jd && !ag w 0==gT)=true→bL (gI c w) (.x (.b false)) k:=fun k h1 h2 h3=>bL.no (vT hs h0 (by
  rintro ⟨_,⟨x,y⟩ | ⟨x,y,z⟩ | ⟨x,y⟩⟩
  · rw [x] at h1
    have:((w.length:Int)==2)=true:=by rw [beq_iff_eq]; omega
    rw [this] at h1; exact absurd h1 (by decide)
  · rw [x] at h2
    have e:((w.length:Int)==3)=true:=by rw [beq_iff_eq]; omega
    have e2:(ag w 2==ei||ag w 2==fF)=true:=by simpa using z
    rw [e,e2] at h2; exact absurd h2 (by decide)
  · have e:((w.length:Int) != 5)=false:=by rw [bne_eq_false_iff_eq]; omega
    rw [e] at h3
    rcases x with x | x <;> (rw [x] at h3; exact absurd h3 (by decide))))
 have N5:(((w.length:Int) != 5) || !ag w 0==jd && !ag w 0==gT)=false→w.length=5∧(ag w 0=jd∨ag w 0=gT):=fun h=>by
  rw [aq] at h
  refine ⟨?_,?_⟩
  · have:=h.1; rw [bne_eq_false_iff_eq] at this; omega
  · by_cases x:ag w 0=jd
    · exact .inl x
    · right
      have:=h.2
      rw [show (ag w 0==jd)=false by rw [beq_eq_false_iff_ne]; exact x] at this
      simpa using this
 have I:∀ (k:List Chunk),aC (ag w 1)=true→w.length=5→(ag w 0==jd)=true→k=xy { c with vars:=c.vars++[⟨ag w 1,1,(aQ (ag w 2)).1,(aQ (ag w 3)).1,⟨1,(aQ (ag w 4)).1,0⟩⟩] }→bL (gI c w) (.x (.b ((aQ (ag w 2)).2==0&&(aQ (ag w 3)).2==0&&(aQ (ag w 4)).2==0))) k:=fun k hn h5 hi hk=>by
  have hi':=eq_of_beq hi
  have hh:de c 0 (w.drop 1) 4=true:=(kA hs h0 4).2 ⟨by omega,hn⟩
  rw [lN]
  unfold gI jO
  rw [hi',if_neg (by decide),if_pos rfl]
  simp only [cF]
  by_cases hz:(aQ (ag w 2)).2=0∧(aQ (ag w 3)).2=0∧(aQ (ag w 4)).2=0
  · rw [decide_eq_true hz]
    refine bL.yes (if_pos ⟨hh,hz⟩) (IsD.of2 ?_)
    rw [hk]; unfold N6; simp only [cF]
  · rw [decide_eq_false hz]
    exact bL.no (if_neg fun x=>hz x.2)
 have PT:aC (ag w 1)=true→w.length=5→ag w 0=gT→∀ (k:List Chunk),(dr (ag w 4)→k=xy { c with vars:=c.vars++[⟨ag w 1,3,(aQ (ag w 2)).1,(aQ (ag w 3)).1,⟨3,ptA (ag w 4),ptB (ag w 4)⟩⟩] }→bL (gI c w) (.x (.b ((aQ (ag w 2)).2==0&&(aQ (ag w 3)).2==0&&(0:Int)==0))) k)∧(¬dr (ag w 4)→bL (gI c w) (.x (.b ((aQ (ag w 2)).2==0&&(aQ (ag w 3)).2==0&&(1:Int)==0))) k):=fun hn h5 hi k=>by
  have hh:de c 0 (w.drop 1) 4=true:=(kA hs h0 4).2 ⟨by omega,hn⟩
  have pc:=kQ c 0 (w.drop 1)
  simp only [cF] at pc
  have eo:gI c w=gd c 0 (w.drop 1):=by
   unfold gI; rw [hi,if_neg (by decide),if_neg (by decide),if_neg (by decide),if_pos rfl]
  rw [eo,lN,lN]
  refine ⟨fun hr hk=>?_,fun hr=>?_⟩
  · by_cases hz:(aQ (ag w 2)).2=0∧(aQ (ag w 3)).2=0∧(0:Int)=0
    · rw [decide_eq_true hz]
      exact bL.yes (pc.1 ⟨hh,hz.1,hz.2.1,hr⟩) (IsD.of2 hk)
    · rw [decide_eq_false hz]
      exact bL.no (pc.2 fun x=>hz ⟨x.2.1,x.2.2.1,rfl⟩)
  · rw [decide_eq_false (by omega)]
    exact bL.no (pc.2 fun x=>hr x.2.2.2)
 by_cases hr:dr (ag w 4)
 · refine jg Gl Tryz.func52 (let x6:=(aQ (ETy.get .str w 2)); let x7:=(aQ (ETy.get .str w 3)); let x1:=(c.vars++[{ name:=ETy.get .str w 1,kind:=(3:Int),lo:=x6.1,hi:=x7.1,init:={ kind:=(3:Int),a:=ptA (ETy.get .str w 4),b:=ptB (ETy.get .str w 4) } }]); let x2:=(c.vars++[{ name:=ETy.get .str w 1,kind:=(1:Int),lo:=x6.1,hi:=x7.1,init:={ kind:=(1:Int),a:=(aQ (ETy.get .str w 4)).1,b:=(0:Int) } }]); let x3:Tree:=(.ret (.p (.bool false)) (zXk2 c)); let x4:=(c.vars++[{ name:=ETy.get .str w 1,kind:=(2:Int),lo:=(0:Int),hi:=(1:Int),init:={ kind:=(2:Int),a:=(1:Int),b:=(0:Int) } }]); let x5:=(c.vars++[{ name:=ETy.get .str w 1,kind:=(2:Int),lo:=(0:Int),hi:=(1:Int),init:={ kind:=(2:Int),a:=(0:Int),b:=(0:Int) } }]); let x8:=(ETy.get .str w 0==[98,111,111,108]&&(w.length:Int)==3); let x9:=(ETy.get .str w 2==[116,114,117,101]); let x10:=(c.events++[ETy.get .str w 1]); .need (decide ((w.length:Int)<2)=false→(0:Int)≤1∧(1:Int)<(w.length:Int)) (.ite (decide ((w.length:Int)<2) || !aC (ETy.get .str w 1)) x3 (.need (inRg 1 w.length) (.need (inRg 0 w.length) (.ite (ETy.get .str w 0==[101,118,101,110,116]&&(w.length:Int)==2) (.need (inRg 1 w.length) (.need (room (x10.length) 16) (.ret (.p (.bool true)) [.cells [.pd (.str c.name),.own 5,.own 2,.own 3,.own 4] 27,.dead,.own 61 .var c.vars,zXk3 c,.own 68 .tran c.trans,.own 9 .str x10]))) (.need (inRg 0 w.length) (.need (x8=true→(0:Int)≤2∧(2:Int)<(w.length:Int)) (.need (x8=true∧x9=false→(0:Int)≤2∧(2:Int)<(w.length:Int)) (.ite (ETy.get .str w 0==[98,111,111,108]&&(w.length:Int)==3&&(ETy.get .str w 2==[116,114,117,101]||ETy.get .str w 2==[102,97,108,115,101])) (.need (inRg 2 w.length) (.ite x9 (.need (room (List.length x4) 64) (.ret (.p (.bool true)) [zXk1 c,.own 9 .str c.events,.dead,zXk3 c,.own 68 .tran c.trans,.own 61 .var x4])) (.need (room (List.length x5) 64) (.ret (.p (.bool true)) [zXk1 c,.own 9 .str c.events,.dead,zXk3 c,.own 68 .tran c.trans,.own 61 .var x5])))) (.need (((w.length:Int) != 5)=false→(0:Int)≤0∧(0:Int)<(w.length:Int)) (.need (((w.length:Int) != 5)=false∧(!ETy.get .str w 0==[105,110,116])=true→(0:Int)≤0∧(0:Int)<(w.length:Int)) (.ite ((w.length:Int) != 5 || !ETy.get .str w 0==[105,110,116] && !ETy.get .str w 0==[112,111,105,110,116]) x3 (.need (inRg 2 w.length) (.need ((ETy.get .str w 2).length≤281474976710656) (.need (inRg 3 w.length) (.need ((ETy.get .str w 3).length≤281474976710656) (.need (inRg 0 w.length) (.ite (ETy.get .str w 0==[105,110,116]) (.need (inRg 4 w.length) (.need ((ETy.get .str w 4).length≤281474976710656) (.need (room (List.length x2) 64) (.ret (.p (.bool (x6.2==(0:Int)&&x7.2==(0:Int)&&(aQ (ETy.get .str w 4)).2==(0:Int)))) [zXk1 c,.own 9 .str c.events,.dead,zXk3 c,.own 68 .tran c.trans,.own 61 .var x2])))) (.need (inRg 4 w.length) (.need ((ETy.get .str w 4).length≤1000000∧dr (ETy.get .str w 4)) (.need (room (List.length x1) 64) (.ret (.p (.bool (x6.2==(0:Int)&&x7.2==(0:Int)&&(0:Int)==0))) [zXk1 c,.own 9 .str c.events,.dead,zXk3 c,.own 68 .tran c.trans,.own 61 .var x1])))))))))))))))))))))) ?_
   conv=>zeta
   simp only [g]
   refine ⟨fun h=>by have:=of_decide_eq_false h; omega,fun h=>A _ h,fun h1=>?_⟩
   rw [aq] at h1
   have l2:=of_decide_eq_false h1.1
   have hn:=nf h1.2
   refine ⟨⟨by omega,by omega⟩,⟨by omega,by omega⟩,fun h=>⟨⟨by omega,by omega⟩,yR (by simp only [aj,ai,al]; omega),B _ _ hn h rfl rfl⟩,fun h2=>?_⟩
   refine ⟨⟨by omega,by omega⟩,fun h=>?_,fun h=>?_,fun h=>⟨?_,fun ht=>⟨gV (by simp only [aj,ai,al]; omega),C _ _ hn h (by have e:ag w 2=ei:=eq_of_beq ht; first | (rw [if_pos e]; done) | (rw [if_pos e]; rfl)) rfl⟩,fun ht=>⟨gV (by simp only [aj,ai,al]; omega),C _ _ hn h (by have e:ag w 2≠ei:=beq_eq_false_iff_ne.1 ht; first | (rw [if_neg e]; done) | (rw [if_neg e]; rfl)) rfl⟩⟩,fun h3=>?_⟩
   · simp only [af,beq_iff_eq] at h; omega
   · have:=h.1; simp only [af,beq_iff_eq] at this; omega
   · simp only [af,beq_iff_eq] at h; omega
   · refine ⟨fun h=>⟨by omega,by omega⟩,fun h=>⟨by omega,by omega⟩,fun h=>D _ h2 h3 h,fun h=>?_⟩
     obtain ⟨h5,hw⟩:=N5 h
     have l2:=lw 2 (by omega); have l3:=lw 3 (by omega); have l4:=lw 4 (by omega)
     refine ⟨⟨by omega,by omega⟩,by omega,⟨by omega,by omega⟩,by omega,⟨by omega,by omega⟩,fun hi=>⟨⟨by omega,by omega⟩,by omega,gV (by simp only [aj,ai,al]; omega),I _ hn h5 hi rfl⟩,fun hi=>⟨⟨by omega,by omega⟩,⟨by omega,hr⟩,gV (by simp only [aj,ai,al]; omega),?_⟩⟩
     exact (PT hn h5 (hw.resolve_left (beq_eq_false_iff_ne.1 hi)) _).1 hr rfl
 · refine jg G6 Tryz.func52 (let x6:=(aQ (ETy.get .str w 2)); let x7:=(aQ (ETy.get .str w 3)); let x1:=(c.vars++[{ name:=ETy.get .str w 1,kind:=(1:Int),lo:=x6.1,hi:=x7.1,init:={ kind:=(1:Int),a:=(aQ (ETy.get .str w 4)).1,b:=(0:Int) } }]); let x2:=(c.vars++[{ name:=ETy.get .str w 1,kind:=(3:Int),lo:=x6.1,hi:=x7.1,init:={ kind:=(3:Int),a:=(0:Int),b:=(0:Int) } }]); let x3:Tree:=(.ret (.p (.bool false)) (zXk2 c)); let x4:=(c.vars++[{ name:=ETy.get .str w 1,kind:=(2:Int),lo:=(0:Int),hi:=(1:Int),init:={ kind:=(2:Int),a:=(1:Int),b:=(0:Int) } }]); let x5:=(c.vars++[{ name:=ETy.get .str w 1,kind:=(2:Int),lo:=(0:Int),hi:=(1:Int),init:={ kind:=(2:Int),a:=(0:Int),b:=(0:Int) } }]); let x8:=(ETy.get .str w 0==[98,111,111,108]&&(w.length:Int)==3); let x9:=(ETy.get .str w 2==[116,114,117,101]); let x10:=(c.events++[ETy.get .str w 1]); .need (decide ((w.length:Int)<2)=false→(0:Int)≤1∧(1:Int)<(w.length:Int)) (.ite (decide ((w.length:Int)<2) || !aC (ETy.get .str w 1)) x3 (.need (inRg 1 w.length) (.need (inRg 0 w.length) (.ite (ETy.get .str w 0==[101,118,101,110,116]&&(w.length:Int)==2) (.need (inRg 1 w.length) (.need (room (x10.length) 16) (.ret (.p (.bool true)) [.cells [.pd (.str c.name),.own 5,.own 2,.own 3,.own 4] 27,.dead,.own 61 .var c.vars,zXk3 c,.own 68 .tran c.trans,.own 9 .str x10]))) (.need (inRg 0 w.length) (.need (x8=true→(0:Int)≤2∧(2:Int)<(w.length:Int)) (.need (x8=true∧x9=false→(0:Int)≤2∧(2:Int)<(w.length:Int)) (.ite (ETy.get .str w 0==[98,111,111,108]&&(w.length:Int)==3&&(ETy.get .str w 2==[116,114,117,101]||ETy.get .str w 2==[102,97,108,115,101])) (.need (inRg 2 w.length) (.ite x9 (.need (room (List.length x4) 64) (.ret (.p (.bool true)) [zXk1 c,.own 9 .str c.events,.dead,zXk3 c,.own 68 .tran c.trans,.own 61 .var x4])) (.need (room (List.length x5) 64) (.ret (.p (.bool true)) [zXk1 c,.own 9 .str c.events,.dead,zXk3 c,.own 68 .tran c.trans,.own 61 .var x5])))) (.need (((w.length:Int) != 5)=false→(0:Int)≤0∧(0:Int)<(w.length:Int)) (.need (((w.length:Int) != 5)=false∧(!ETy.get .str w 0==[105,110,116])=true→(0:Int)≤0∧(0:Int)<(w.length:Int)) (.ite ((w.length:Int) != 5 || !ETy.get .str w 0==[105,110,116] && !ETy.get .str w 0==[112,111,105,110,116]) x3 (.need (inRg 2 w.length) (.need ((ETy.get .str w 2).length≤281474976710656) (.need (inRg 3 w.length) (.need ((ETy.get .str w 3).length≤281474976710656) (.need (inRg 0 w.length) (.ite (ETy.get .str w 0==[105,110,116]) (.need (inRg 4 w.length) (.need ((ETy.get .str w 4).length≤281474976710656) (.need (room (List.length x1) 64) (.ret (.p (.bool (x6.2==(0:Int)&&x7.2==(0:Int)&&(aQ (ETy.get .str w 4)).2==(0:Int)))) [zXk1 c,.own 9 .str c.events,.dead,zXk3 c,.own 68 .tran c.trans,.own 61 .var x1])))) (.need (inRg 4 w.length) (.need ((ETy.get .str w 4).length≤1000000∧¬dr (ETy.get .str w 4)) (.need (room (List.length x2) 64) (.ret (.p (.bool (x6.2==(0:Int)&&x7.2==(0:Int)&&(1:Int)==0))) [zXk1 c,.own 9 .str c.events,.dead,zXk3 c,.own 68 .tran c.trans,.own 61 .var x2])))))))))))))))))))))) ?_
   conv=>zeta
   simp only [g]
   refine ⟨fun h=>by have:=of_decide_eq_false h; omega,fun h=>A _ h,fun h1=>?_⟩
   rw [aq] at h1
   have l2:=of_decide_eq_false h1.1
   have hn:=nf h1.2
   refine ⟨⟨by omega,by omega⟩,⟨by omega,by omega⟩,fun h=>⟨⟨by omega,by omega⟩,yR (by simp only [aj,ai,al]; omega),B _ _ hn h rfl rfl⟩,fun h2=>?_⟩
   refine ⟨⟨by omega,by omega⟩,fun h=>?_,fun h=>?_,fun h=>⟨?_,fun ht=>⟨gV (by simp only [aj,ai,al]; omega),C _ _ hn h (by have e:ag w 2=ei:=eq_of_beq ht; first | (rw [if_pos e]; done) | (rw [if_pos e]; rfl)) rfl⟩,fun ht=>⟨gV (by simp only [aj,ai,al]; omega),C _ _ hn h (by have e:ag w 2≠ei:=beq_eq_false_iff_ne.1 ht; first | (rw [if_neg e]; done) | (rw [if_neg e]; rfl)) rfl⟩⟩,fun h3=>?_⟩
   · simp only [af,beq_iff_eq] at h; omega
   · have:=h.1; simp only [af,beq_iff_eq] at this; omega
   · simp only [af,beq_iff_eq] at h; omega
   · refine ⟨fun h=>⟨by omega,by omega⟩,fun h=>⟨by omega,by omega⟩,fun h=>D _ h2 h3 h,fun h=>?_⟩
     obtain ⟨h5,hw⟩:=N5 h
     have l2:=lw 2 (by omega); have l3:=lw 3 (by omega); have l4:=lw 4 (by omega)
     refine ⟨⟨by omega,by omega⟩,by omega,⟨by omega,by omega⟩,by omega,⟨by omega,by omega⟩,fun hi=>⟨⟨by omega,by omega⟩,by omega,gV (by simp only [aj,ai,al]; omega),I _ hn h5 hi rfl⟩,fun hi=>⟨⟨by omega,by omega⟩,⟨by omega,hr⟩,gV (by simp only [aj,ai,al]; omega),?_⟩⟩
     exact (PT hn h5 (hw.resolve_left (beq_eq_false_iff_ne.1 hi)) _).2 hr
end Go.Proofs.YtpfidgnkokidoaaGreatDoor

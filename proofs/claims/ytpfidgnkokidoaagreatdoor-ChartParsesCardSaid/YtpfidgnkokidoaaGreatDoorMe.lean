/- Contracts of the program's reader of expressions, whole. Conditions: texts of at most 2^20 bytes. -/
import Derived.Test.YtpfidgnkokidoaaGreatDoorMd
namespace Go.Proofs.YtpfidgnkokidoaaGreatDoor
open Go Go.Ev
set_option maxRecDepth 100000
def ux (B:Int→Rd→Rd):Ent:=(120,fun
 | [.c (.loc 0 0),.c (.pd (.int .i64 p))],[.cells [.pd (.str s),.pd (.int .i64 pos),.own 1,.pd (.int .i64 bad)] 169,.own 92 .cell out]=>some (some (ak Tryz.prog 120 [.c (.loc 0 0),.i p] [.cells [.pd (.str s),.pd (.int .i64 pos),.own 1,.pd (.int .i64 bad)] 169,.own 92 .cell out] (.tup []) (rd2 s (B p ⟨pos,out,bad⟩))),.tup [],[.cells [.pd (.str s),.pd (.int .i64 (B p ⟨pos,out,bad⟩).pos),.own 2,.pd (.int .i64 (B p ⟨pos,out,bad⟩).bad)] 169,.dead,.own 92 .cell (B p ⟨pos,out,bad⟩).out])
 | _,_=>none)
def xF (B:Rd→Rd):Ent:=(159,fun
 | [.c (.loc 0 0)],[.cells [.pd (.str s),.pd (.int .i64 pos),.own 1,.pd (.int .i64 bad)] 169,.own 92 .cell out]=>some (some (ak Tryz.prog 159 [.c (.loc 0 0)] [.cells [.pd (.str s),.pd (.int .i64 pos),.own 1,.pd (.int .i64 bad)] 169,.own 92 .cell out] (.tup []) (rd2 s (B ⟨pos,out,bad⟩))),.tup [],[.cells [.pd (.str s),.pd (.int .i64 (B ⟨pos,out,bad⟩).pos),.own 2,.pd (.int .i64 (B ⟨pos,out,bad⟩).bad)] 169,.dead,.own 92 .cell (B ⟨pos,out,bad⟩).out])
 | _,_=>none)
def xp (B:Rd→Rd):Ent:=(187,fun
 | [.c (.loc 0 0)],[.cells [.pd (.str s),.pd (.int .i64 pos),.own 1,.pd (.int .i64 bad)] 169,.own 92 .cell out]=>some (some (ak Tryz.prog 187 [.c (.loc 0 0)] [.cells [.pd (.str s),.pd (.int .i64 pos),.own 1,.pd (.int .i64 bad)] 169,.own 92 .cell out] (.tup []) (rd2 s (B ⟨pos,out,bad⟩))),.tup [],[.cells [.pd (.str s),.pd (.int .i64 (B ⟨pos,out,bad⟩).pos),.own 2,.pd (.int .i64 (B ⟨pos,out,bad⟩).bad)] 169,.dead,.own 92 .cell (B ⟨pos,out,bad⟩).out])
 | _,_=>none)
def qF (B:Rd→Rd):Ent:=(210,fun
 | [.c (.loc 0 0),.c (.pd (.str w))],[.cells [.pd (.str s),.pd (.int .i64 pos),.own 1,.pd (.int .i64 bad)] 169,.own 92 .cell out]=>some (some (ak Tryz.prog 210 [.c (.loc 0 0),.s w] [.cells [.pd (.str s),.pd (.int .i64 pos),.own 1,.pd (.int .i64 bad)] 169,.own 92 .cell out] (.tup []) (rd2 s (B ⟨pos,out,bad⟩))),.tup [],[.cells [.pd (.str s),.pd (.int .i64 (B ⟨pos,out,bad⟩).pos),.own 2,.pd (.int .i64 (B ⟨pos,out,bad⟩).bad)] 169,.dead,.own 92 .cell (B ⟨pos,out,bad⟩).out])
 | _,_=>none)
def xo (B:Int→Rd→Rd) (U:Rd→Rd):Cfg:=⟨a6,[ux B,xF U,ti,mi]⟩
def w8 (U A:Rd→Rd):Cfg:=⟨a6,[xF U,xp A,jI,mi]⟩
def tO (B:Int→Rd→Rd) (C:Rd→Rd):Cfg:=⟨a6,[ux B,qF C,nc,xh,pF,mi,jI,gG]⟩
def Ex (B:Int→Rd→Rd):Cfg:=⟨a6,[ux B,nc,pF,mi,jI,gG]⟩
theorem uM {B:Int→Rd→Rd} (vs:List SX) (ck:List Chunk) (p:Option Prop) (ret:SV) (ck':List Chunk) (h:(ux B).2 vs ck=some (p,ret,ck')) (hp:Holds p):ak Tryz.prog (ux B).1 vs ck ret ck':=by
 unfold ux at h
 simp only at h
 split at h
 · simp only [aa,ae] at h
   obtain ⟨rfl,rfl,rfl⟩:=h
   exact hp
 · simp at h
theorem BP {B:Rd→Rd} (vs:List SX) (ck:List Chunk) (p:Option Prop) (ret:SV) (ck':List Chunk) (h:(xF B).2 vs ck=some (p,ret,ck')) (hp:Holds p):ak Tryz.prog (xF B).1 vs ck ret ck':=by
 unfold xF at h
 simp only at h
 split at h
 · simp only [aa,ae] at h
   obtain ⟨rfl,rfl,rfl⟩:=h
   exact hp
 · simp at h
theorem J3 {B:Rd→Rd} (vs:List SX) (ck:List Chunk) (p:Option Prop) (ret:SV) (ck':List Chunk) (h:(xp B).2 vs ck=some (p,ret,ck')) (hp:Holds p):ak Tryz.prog (xp B).1 vs ck ret ck':=by
 unfold xp at h
 simp only at h
 split at h
 · simp only [aa,ae] at h
   obtain ⟨rfl,rfl,rfl⟩:=h
   exact hp
 · simp at h
theorem C3 {B:Rd→Rd} (vs:List SX) (ck:List Chunk) (p:Option Prop) (ret:SV) (ck':List Chunk) (h:(qF B).2 vs ck=some (p,ret,ck')) (hp:Holds p):ak Tryz.prog (qF B).1 vs ck ret ck':=by
 unfold qF at h
 simp only at h
 split at h
 · simp only [aa,ae] at h
   obtain ⟨rfl,rfl,rfl⟩:=h
   exact hp
 · simp at h
theorem rW {B:Int→Rd→Rd} {U:Rd→Rd}:ah Tryz.prog (xo B U).tab:=ah.cons uM (ah.cons BP (ah.cons Fv (ah.cons lh ah.nil)))
theorem rJ {U A:Rd→Rd}:ah Tryz.prog (w8 U A).tab:=ah.cons BP (ah.cons J3 (ah.cons jr (ah.cons lh ah.nil)))
theorem oq {B:Int→Rd→Rd} {C:Rd→Rd}:ah Tryz.prog (tO B C).tab:=ah.cons uM (ah.cons C3 (ah.cons tC (ah.cons IM (ah.cons v8 (ah.cons lh (ah.cons jr (ah.cons fw ah.nil)))))))
theorem As {B:Int→Rd→Rd}:ah Tryz.prog (Ex B).tab:=ah.cons uM (ah.cons tC (ah.cons v8 (ah.cons lh (ah.cons jr (ah.cons fw ah.nil)))))
variable {s:Str}
theorem fD {n:Nat} (h:n≤4000000):room n 32:=by unfold room maxLen; omega
def fY (s:Str) (r:Rd):Prop:=(r.out.length:Int)+(ab s - r.pos)≤3000000∧s.length≤1048576
theorem fY.to {r:Rd} {k:Int} (h:fY s r) (hk:r.pos≤k):fY s (r.to k):=⟨by have:=h.1; simp only [Rd.to]; omega,h.2⟩
theorem fY.out {r o:Rd} (h:fY s r) (hl:Left s r o):o.out.length≤3000000∧(Ok s o→fY s o)∧(o.bad<0→0≤o.pos∧o.pos≤ab s)∧-1≤o.pos∧o.pos≤1099511627775:=by
 have h1:=h.1
 have h2:=h.2
 have hL:ab s=(s.length:Int):=rfl
 rcases hl with ⟨g1,g2,g3⟩ | ⟨g1,g2,g3,g4,g5,g6⟩
 · have:=g1.low; have:=g1.high
   exact ⟨by omega,fun _=>⟨by omega,h2⟩,fun _=>⟨g1.low,g1.high⟩,by omega,by omega⟩
 · refine ⟨by omega,fun hk=>?_,fun _=>by omega,by omega,by omega⟩
   have:=hk.bad; omega
abbrev oi (s:Str) (p:Int) (r o:Rd):Prop:=ak Tryz.prog 120 [.c (.loc 0 0),.i p] (rd1 s r) (.tup []) (rd2 s o)
abbrev ur (s:Str) (r o:Rd):Prop:=ak Tryz.prog 159 [.c (.loc 0 0)] (rd1 s r) (.tup []) (rd2 s o)
abbrev xr (s:Str) (r o:Rd):Prop:=ak Tryz.prog 187 [.c (.loc 0 0)] (rd1 s r) (.tup []) (rd2 s o)
abbrev uP (s w:Str) (r o:Rd):Prop:=ak Tryz.prog 210 [.c (.loc 0 0),.s w] (rd1 s r) (.tup []) (rd2 s o)
theorem nS (q:Rd):bx s q=⟨q.pos+1,q.out,(bx s q).bad⟩:=by
 unfold bx
 split <;> rfl
theorem Iv {k:Int} (h:b8 s k = .par):isD (s.getD k.toNat 0)=false∧bD s k=40:=by
 unfold b8 at h
 split at h; cases h
 split at h; cases h
 split at h; cases h
 split at h; cases h
 split at h
 · rename_i h4 h5; exact ⟨by simpa using h4,h5⟩
 · split at h
   · cases h
   · split at h <;> cases h
theorem GD {k:Int} (h:b8 s k = .leaf):(isD (s.getD k.toNat 0)=false→bD s k≠40)∧(isD (s.getD k.toNat 0)=false→¬(ay s k=reS∧eh s k=true)∧¬(ay s k=imS∧eh s k=true)):=by
 unfold b8 at h
 split at h; cases h
 split at h; cases h
 split at h; cases h
 split at h
 · rename_i h4; exact ⟨fun h5=>(by rw [h4] at h5; cases h5),fun h5=>(by rw [h4] at h5; cases h5)⟩
 · split at h
   · cases h
   · rename_i h5
     split at h
     · cases h
     · rename_i h6
       split at h
       · cases h
       · rename_i h7; exact ⟨fun _=>h5,fun _=>⟨h6,h7⟩⟩
/-! ### calls -/
theorem Hb {w:Str} {r q:Rd} {op:Int} (hw:w=reS∧op=9∨w=imS∧op=10) (hok:Ok s r) (hsl:fY s r) (h3:r.pos+3≤ab s) (hq:oi s 1 (r.to (r.pos+3)) q) (hl:Left s (r.to (r.pos+3)) q):uP s w r ((bx s q).emit ⟨op,0,[]⟩):=by
 have hlow:=hok.low
 have hL:ab s=(s.length:Int):=rfl
 have hs:=hsl.2
 obtain ⟨k1,k2,k3,k4,k5⟩:=(hsl.to (k:=r.pos+3) (by omega)).out hl
 have hw3:IntKind.wrap .i64 (ab w+1)=3:=by rcases hw with ⟨rfl,_⟩ | ⟨rfl,_⟩ <;> decide
 let B:Int→Rd→Rd:=fun _ _=>q
 refine ak.rd Tryz.func210 (by kernel_rfl) (by kernel_rfl) rfl fun Γ=>?_
 refine jg (cfg:=(Ex B)) As Tryz.func210 (let x2:=(Rd.pos r+IntKind.wrap .i64 (ab w+(1:Int))); let x1:=(B (1:Int) { pos:=IntKind.wrap .i64 x2,out:=Rd.out r,bad:=Rd.bad r }); let x4:=(IntKind.wrap .i64 x2); let x3:=(IntKind.wrap .i64 x2+ab (ay s x4)); let x5:=(Rd.bad (bx s { pos:=Rd.pos x1,out:=Rd.out x1,bad:=Rd.bad x1 })); let x6:=(room (List.length (Rd.out x1)+1) 32); .ite (!w==[105,110]) (.need (ak Tryz.prog (120:FuncId) [.c (.loc 0 0),SX.i 1] [.cells [.pd (.str s),.i x4,.own 1,.i (Rd.bad r)] (169:TypeId),.own (92:TypeId) .cell (Rd.out r)] (.tup []) (rd2 s x1)) (.need ((Rd.bad x1<(0:Int)→(0:Int)≤Rd.pos x1∧Rd.pos x1≤ab s)∧(-1:Int)≤Rd.pos x1∧Rd.pos x1≤(1099511627776:Int)) (.ite (w==[105,109]) (.need x6 (.ret (.tup []) [.cells [.pd (.str s),.i (Rd.pos x1+(1:Int)),.own 2,.i x5] 169,.dead,.own 92 .cell (Rd.out x1++[{ op:=(10:Int),a:=(0:Int),name:=[] }])])) (.need x6 (.ret (.tup []) [.cells [.pd (.str s),.i (Rd.pos x1+(1:Int)),.own 2,.i x5] 169,.dead,.own 92 .cell (Rd.out x1++[{ op:=(9:Int),a:=(0:Int),name:=[] }])]))))) (.need (s.length≤1048576∧(0:Int)≤IntKind.wrap .i64 x2∧IntKind.wrap .i64 x2≤ab s) (.ite (!aC (ay s x4)) (.ret (.tup []) [.cells [.pd (.str s),.i x4,.own 1,.i (if Rd.bad r<(0:Int) then IntKind.wrap .i64 x2 else Rd.bad r)] 169,.own 92 .cell (Rd.out r)]) (.need ((Rd.bad r<(0:Int)→(0:Int)≤IntKind.wrap .i64 x3∧IntKind.wrap .i64 x3≤ab s)∧(-1:Int)≤IntKind.wrap .i64 x3∧IntKind.wrap .i64 x3≤(1099511627776:Int)) (.need (room ((Rd.out r).length+1) 32) (.ret (.tup []) [.cells [.pd (.str s),.i (IntKind.wrap .i64 x3+(1:Int)),.own 2,.i (Rd.bad (bx s { pos:=IntKind.wrap .i64 x3,out:=Rd.out r,bad:=Rd.bad r }))] 169,.dead,.own 92 .cell (Rd.out r++[{ op:=(6:Int),a:=(0:Int),name:=ay s x4 }])])))))) ?_
 conv=>zeta
 rw [hw3,bG (n:=r.pos+3) (by omega) (by omega)]
 refine ⟨fun _=>⟨hq,⟨fun h=>k3 h,k4,by show q.pos≤_; omega⟩,fun h=>⟨fD (by show q.out.length+1≤_; omega),RdQ.two ?_⟩,fun h=>⟨fD (by show q.out.length+1≤_; omega),RdQ.two ?_⟩⟩,fun h=>?_⟩
 · have e:op=10:=by
    rcases hw with ⟨rfl,_⟩ | ⟨_,e⟩
    · exact absurd h (by decide)
    · exact e
   subst e; rw [nS q]; rfl
 · have e:op=9:=by
    rcases hw with ⟨_,e⟩ | ⟨rfl,_⟩
    · exact e
    · exact absurd h (by decide)
   subst e; rw [nS q]; rfl
 · exfalso
   rcases hw with ⟨rfl,_⟩ | ⟨rfl,_⟩ <;> exact absurd h (by decide)
theorem Fe {w:Str} {r:Rd} (hw0:w=inS) (hok:Ok s r) (hsl:fY s r) (h3:r.pos+3≤ab s):uP s w r (inR s r):=by
 have hlow:=hok.low
 have hL:ab s=(s.length:Int):=rfl
 have hs:=hsl.2
 have hs1:=hsl.1
 have hb:=hok.bad
 have hw:=jk s (k:=r.pos+3) (by omega) h3
 have hw3:IntKind.wrap .i64 (ab w+1)=3:=by rw [hw0]; decide
 let B:Int→Rd→Rd:=fun _ _=>r
 refine ak.rd Tryz.func210 (by kernel_rfl) (by kernel_rfl) rfl fun Γ=>?_
 refine jg (cfg:=(Ex B)) As Tryz.func210 (let x2:=(Rd.pos r+IntKind.wrap .i64 (ab w+(1:Int))); let x1:=(B (1:Int) { pos:=IntKind.wrap .i64 x2,out:=Rd.out r,bad:=Rd.bad r }); let x4:=(IntKind.wrap .i64 x2); let x3:=(IntKind.wrap .i64 x2+ab (ay s x4)); let x5:=(Rd.bad (bx s { pos:=Rd.pos x1,out:=Rd.out x1,bad:=Rd.bad x1 })); let x6:=(room (List.length (Rd.out x1)+1) 32); .ite (!w==[105,110]) (.need (ak Tryz.prog (120:FuncId) [.c (.loc 0 0),SX.i 1] [.cells [.pd (.str s),.i x4,.own 1,.i (Rd.bad r)] (169:TypeId),.own (92:TypeId) .cell (Rd.out r)] (.tup []) (rd2 s x1)) (.need ((Rd.bad x1<(0:Int)→(0:Int)≤Rd.pos x1∧Rd.pos x1≤ab s)∧(-1:Int)≤Rd.pos x1∧Rd.pos x1≤(1099511627776:Int)) (.ite (w==[105,109]) (.need x6 (.ret (.tup []) [.cells [.pd (.str s),.i (Rd.pos x1+(1:Int)),.own 2,.i x5] 169,.dead,.own 92 .cell (Rd.out x1++[{ op:=(10:Int),a:=(0:Int),name:=[] }])])) (.need x6 (.ret (.tup []) [.cells [.pd (.str s),.i (Rd.pos x1+(1:Int)),.own 2,.i x5] 169,.dead,.own 92 .cell (Rd.out x1++[{ op:=(9:Int),a:=(0:Int),name:=[] }])]))))) (.need (s.length≤1048576∧(0:Int)≤IntKind.wrap .i64 x2∧IntKind.wrap .i64 x2≤ab s) (.ite (!aC (ay s x4)) (.ret (.tup []) [.cells [.pd (.str s),.i x4,.own 1,.i (if Rd.bad r<(0:Int) then IntKind.wrap .i64 x2 else Rd.bad r)] 169,.own 92 .cell (Rd.out r)]) (.need ((Rd.bad r<(0:Int)→(0:Int)≤IntKind.wrap .i64 x3∧IntKind.wrap .i64 x3≤ab s)∧(-1:Int)≤IntKind.wrap .i64 x3∧IntKind.wrap .i64 x3≤(1099511627776:Int)) (.need (room ((Rd.out r).length+1) 32) (.ret (.tup []) [.cells [.pd (.str s),.i (IntKind.wrap .i64 x3+(1:Int)),.own 2,.i (Rd.bad (bx s { pos:=IntKind.wrap .i64 x3,out:=Rd.out r,bad:=Rd.bad r }))] 169,.dead,.own 92 .cell (Rd.out r++[{ op:=(6:Int),a:=(0:Int),name:=ay s x4 }])])))))) ?_
 conv=>zeta
 rw [hw3,bG (n:=r.pos+3) (by omega) (by omega),bG (n:=r.pos+3+_) (by omega) (by omega)]
 refine ⟨fun h=>absurd h (by rw [hw0]; decide),fun _=>⟨⟨hs,by omega,h3⟩,fun h=>RdQ.one ?_,fun h=>⟨⟨fun _=>⟨by omega,hw.2⟩,by omega,by omega⟩,fD (by omega),RdQ.two ?_⟩⟩⟩
 · have h':aC (ay s (r.pos+3))=false:=by simpa using h
   have e:inR s r=(r.to (r.pos+3)).wrong (r.pos+3):=by unfold inR; rw [if_pos h']
   rw [e]; rfl
 · have h':¬aC (ay s (r.pos+3))=false:=by simpa using h
   have e:inR s r=(bx s (r.to (r.pos+3+ab (ay s (r.pos+3))))).emit ⟨6,0,ay s (r.pos+3)⟩:=by unfold inR; rw [if_neg h']
   rw [e,nS (r.to _)]; rfl
/-! ### what holds by itself -/
abbrev zMe1 (a:Str) (b:Rd):List Chunk:=[.cells [.pd (.str a),.i (Rd.pos b),.own 1,.i (if Rd.bad b<(0:Int) then Rd.pos b else Rd.bad b)] 169,.own 92 .cell (Rd.out b)]
abbrev zMe2 (a:Str) (b:Rd):List Chunk:=[.cells [.pd (.str a),.i (Rd.pos b),.own 1,.i (Rd.bad b)] (169:TypeId),.own (92:TypeId) .cell (Rd.out b)]
abbrev zMe3 (a:Rd):Chunk:=.own 92 .cell (Rd.out a++[{ op:=(3:Int),a:=(0:Int),name:=[] }])
abbrev zMe4 (a:Rd):Chunk:=.own 92 .cell (Rd.out a++[{ op:=(4:Int),a:=(0:Int),name:=[] }])
theorem Jn {r q:Rd} (hok:Ok s r) (hsl:fY s r) (hh:b8 s r.pos = .par) (hq:oi s 1 (r.to (r.pos+1)) q) (hl:Left s (r.to (r.pos+1)) q):xr s r (bx s q):=by
 have hlt:=hok.lt (fun x e=>by rw [hh] at e; subst e; simp)
 have hlow:=hok.low
 have hL:ab s=(s.length:Int):=rfl
 have hs:=hsl.2
 obtain ⟨k1,k2,k3,k4,k5⟩:=(hsl.to (k:=r.pos+1) (by omega)).out hl
 obtain ⟨g1,g2⟩:=Iv hh
 let B:Int→Rd→Rd:=fun _ _=>q
 let C:Rd→Rd:=fun _=>q
 refine ak.rd Tryz.func187 (by kernel_rfl) (by kernel_rfl) rfl fun Γ=>?_
 refine jg (cfg:=(tO B C)) oq Tryz.func187 (let x1:=(B (1:Int) { pos:=IntKind.wrap .i64 (Rd.pos r+(1:Int)),out:=Rd.out r,bad:=Rd.bad r }); let x2:=(Rd.pos r+ab (ay s (Rd.pos r))); let x3:=(C { pos:=Rd.pos r,out:=Rd.out r,bad:=Rd.bad r }); let x4:=(bU s { pos:=Rd.pos r,out:=Rd.out r,bad:=Rd.bad r }); let x5:=(List.getD s ((Rd.pos r).toNat) (0:UInt8)); let x6:=(ay s (Rd.pos r)==[105,110]||ay s (Rd.pos r)==[114,101]||ay s (Rd.pos r)==[105,109]); let x7:=((Rd.out r).length+1); let x8:=(IntKind.wrap .i64 x2); let x9:=(IntKind.wrap .i64 x2<ab s); .need ((0:Int)≤Rd.pos r∧Rd.pos r<ab s) (.ite (decide ((↑(x5.toNat):Int)≥48)&&decide ((↑(x5.toNat):Int)≤57)) (.need (s.length≤1048576∧room x7 32∧(0:Int)≤Rd.pos r∧Rd.pos r<ab s∧isD x5=true) (.ret (.tup []) [.cells [.pd (.str s),.i (Rd.pos x4),.own 2,.i (Rd.bad x4)] 169,.dead,.own 92 .cell (Rd.out x4)])) (.ite ((↑(x5.toNat):Int)==40) (.need (ak Tryz.prog (120:FuncId) [.c (.loc 0 0),SX.i 1] [.cells [.pd (.str s),.i (IntKind.wrap .i64 (Rd.pos r+(1:Int))),.own 1,.i (Rd.bad r)] (169:TypeId),.own (92:TypeId) .cell (Rd.out r)] (.tup []) (rd2 s x1)) (.need ((Rd.bad x1<(0:Int)→(0:Int)≤Rd.pos x1∧Rd.pos x1≤ab s)∧(-1:Int)≤Rd.pos x1∧Rd.pos x1≤(1099511627776:Int)) (.ret (.tup []) [.cells [.pd (.str s),.i (Rd.pos x1+(1:Int)),.own 2,.i (Rd.bad (bx s { pos:=Rd.pos x1,out:=Rd.out x1,bad:=Rd.bad x1 }))] 169,.dead,.own 92 .cell (Rd.out x1)]))) (.need (s.length≤1048576∧(0:Int)≤Rd.pos r∧Rd.pos r≤ab s) (.ite (ay s (Rd.pos r)==[116,114,117,101]) (.need (room x7 32) (.ret (.tup []) [.cells [.pd (.str s),.i x8,.own 2,.i (Rd.bad r)] 169,.dead,zMe3 r])) (.ite (ay s (Rd.pos r)==[102,97,108,115,101]) (.need (room x7 32) (.ret (.tup []) [.cells [.pd (.str s),.i x8,.own 2,.i (Rd.bad r)] 169,.dead,zMe4 r])) (.need ((x6&&decide x9)=true→(0:Int)≤IntKind.wrap .i64 x2∧IntKind.wrap .i64 x2<ab s) (.ite (x6&&decide x9&&(↑((List.getD s (x8.toNat) (0:UInt8)).toNat):Int)==40) (.need (ak Tryz.prog (210:FuncId) [.c (.loc 0 0),SX.s (ay s (Rd.pos r))] (zMe2 s r) (.tup []) (rd2 s x3)) (.ret (.tup []) [.cells [.pd (.str s),.i (Rd.pos x3),.own 2,.i (Rd.bad x3)] 169,.dead,.own 92 .cell (Rd.out x3)])) (.ite (aC (ay s (Rd.pos r))) (.need (room x7 32) (.ret (.tup []) [.cells [.pd (.str s),.i x8,.own 2,.i (Rd.bad r)] 169,.dead,.own 92 .cell (Rd.out r++[{ op:=(5:Int),a:=(0:Int),name:=ay s (Rd.pos r) }])])) (.ret (.tup []) (zMe1 s r))))))))))) ?_
 conv=>zeta
 rw [bG (n:=r.pos+1) (by omega) (by omega)]
 refine ⟨⟨hlow,hlt⟩,fun h=>?_,fun _=>⟨fun _=>⟨hq,⟨fun h=>k3 h,k4,by show q.pos≤_; omega⟩,RdQ.two ?_⟩,fun h=>?_⟩⟩
 · have h':isD (s.getD r.pos.toNat 0)=true:=h
   rw [g1] at h'; cases h'
 · rw [nS q]; rfl
 · have h':bD s r.pos≠40:=ne_of_beq_false h
   exact absurd g2 h'
theorem EG {r o:Rd} {op:Int} (hok:Ok s r) (hsl:fY s r) (hh:b8 s r.pos = .call op) (hq:uP s (ay s r.pos) r o):xr s r o:=by
 obtain ⟨g1,g2,g3,g4,g5,g6,hlt⟩:=nr hh
 have hlow:=hok.low
 have hL:ab s=(s.length:Int):=rfl
 have hs:=hsl.2
 have hw:=jk s hok.low hok.high
 let B:Int→Rd→Rd:=fun _ _=>o
 let C:Rd→Rd:=fun _=>o
 refine ak.rd Tryz.func187 (by kernel_rfl) (by kernel_rfl) rfl fun Γ=>?_
 refine jg (cfg:=(tO B C)) oq Tryz.func187 (let x1:=(B (1:Int) { pos:=IntKind.wrap .i64 (Rd.pos r+(1:Int)),out:=Rd.out r,bad:=Rd.bad r }); let x2:=(Rd.pos r+ab (ay s (Rd.pos r))); let x3:=(C { pos:=Rd.pos r,out:=Rd.out r,bad:=Rd.bad r }); let x4:=(bU s { pos:=Rd.pos r,out:=Rd.out r,bad:=Rd.bad r }); let x5:=(List.getD s ((Rd.pos r).toNat) (0:UInt8)); let x6:=(ay s (Rd.pos r)==[105,110]||ay s (Rd.pos r)==[114,101]||ay s (Rd.pos r)==[105,109]); let x7:=((Rd.out r).length+1); let x8:=(IntKind.wrap .i64 x2); let x9:=(IntKind.wrap .i64 x2<ab s); .need ((0:Int)≤Rd.pos r∧Rd.pos r<ab s) (.ite (decide ((↑(x5.toNat):Int)≥48)&&decide ((↑(x5.toNat):Int)≤57)) (.need (s.length≤1048576∧room x7 32∧(0:Int)≤Rd.pos r∧Rd.pos r<ab s∧isD x5=true) (.ret (.tup []) [.cells [.pd (.str s),.i (Rd.pos x4),.own 2,.i (Rd.bad x4)] 169,.dead,.own 92 .cell (Rd.out x4)])) (.ite ((↑(x5.toNat):Int)==40) (.need (ak Tryz.prog (120:FuncId) [.c (.loc 0 0),SX.i 1] [.cells [.pd (.str s),.i (IntKind.wrap .i64 (Rd.pos r+(1:Int))),.own 1,.i (Rd.bad r)] (169:TypeId),.own (92:TypeId) .cell (Rd.out r)] (.tup []) (rd2 s x1)) (.need ((Rd.bad x1<(0:Int)→(0:Int)≤Rd.pos x1∧Rd.pos x1≤ab s)∧(-1:Int)≤Rd.pos x1∧Rd.pos x1≤(1099511627776:Int)) (.ret (.tup []) [.cells [.pd (.str s),.i (Rd.pos x1+(1:Int)),.own 2,.i (Rd.bad (bx s { pos:=Rd.pos x1,out:=Rd.out x1,bad:=Rd.bad x1 }))] 169,.dead,.own 92 .cell (Rd.out x1)]))) (.need (s.length≤1048576∧(0:Int)≤Rd.pos r∧Rd.pos r≤ab s) (.ite (ay s (Rd.pos r)==[116,114,117,101]) (.need (room x7 32) (.ret (.tup []) [.cells [.pd (.str s),.i x8,.own 2,.i (Rd.bad r)] 169,.dead,zMe3 r])) (.ite (ay s (Rd.pos r)==[102,97,108,115,101]) (.need (room x7 32) (.ret (.tup []) [.cells [.pd (.str s),.i x8,.own 2,.i (Rd.bad r)] 169,.dead,zMe4 r])) (.need ((x6&&decide x9)=true→(0:Int)≤IntKind.wrap .i64 x2∧IntKind.wrap .i64 x2<ab s) (.ite (x6&&decide x9&&(↑((List.getD s (x8.toNat) (0:UInt8)).toNat):Int)==40) (.need (ak Tryz.prog (210:FuncId) [.c (.loc 0 0),SX.s (ay s (Rd.pos r))] (zMe2 s r) (.tup []) (rd2 s x3)) (.ret (.tup []) [.cells [.pd (.str s),.i (Rd.pos x3),.own 2,.i (Rd.bad x3)] 169,.dead,.own 92 .cell (Rd.out x3)])) (.ite (aC (ay s (Rd.pos r))) (.need (room x7 32) (.ret (.tup []) [.cells [.pd (.str s),.i x8,.own 2,.i (Rd.bad r)] 169,.dead,.own 92 .cell (Rd.out r++[{ op:=(5:Int),a:=(0:Int),name:=ay s (Rd.pos r) }])])) (.ret (.tup []) (zMe1 s r))))))))))) ?_
 conv=>zeta
 rw [bG (n:=r.pos+ab (ay s r.pos)) (by omega) (by omega)]
 have hc:=g2
 simp only [eh,af,decide_eq_true_eq] at hc
 refine ⟨⟨hlow,by omega⟩,fun h=>?_,fun _=>⟨fun h=>?_,fun _=>⟨⟨hs,hlow,by omega⟩,fun h=>?_,fun _=>⟨fun h=>?_,fun _=>⟨fun h=>⟨by omega,hc.1⟩,fun _=>⟨hq,RdQ.two rfl⟩,fun h=>?_⟩⟩⟩⟩⟩
 · have h':isD (s.getD r.pos.toNat 0)=true:=h
   rw [g6] at h'; cases h'
 · exact absurd (show bD s r.pos=40 from eq_of_beq h) g5
 · have h':=eq_of_beq h
   rcases g1 with ⟨e,_⟩ | ⟨e,_⟩ <;> (rw [e] at h'; exact absurd h' (by decide))
 · have h':=eq_of_beq h
   rcases g1 with ⟨e,_⟩ | ⟨e,_⟩ <;> (rw [e] at h'; exact absurd h' (by decide))
 · exfalso
   have e40:(((s.getD (r.pos+ab (ay s r.pos)).toNat 0).toNat:Int)==40)=true:=hc.2
   rw [decide_eq_true hc.1,e40] at h
   rcases g1 with ⟨e,_⟩ | ⟨e,_⟩ <;> (rw [e] at h; exact absurd h (by decide))
theorem FP {r:Rd} (hok:Ok s r) (hsl:fY s r) (hh:b8 s r.pos = .leaf):xr s r (c6 s r):=by
 have hlt:=hok.lt (fun x e=>by rw [hh] at e; subst e; simp)
 have hlow:=hok.low
 have hL:ab s=(s.length:Int):=rfl
 have hs:=hsl.2
 have hs1:=hsl.1
 have hw:=jk s hok.low hok.high
 have hr:room (r.out.length+1) 32:=fD (by omega)
 obtain ⟨g1,g2⟩:=GD hh
 by_cases hin:ay s r.pos=inS∧eh s r.pos=true∧isD (s.getD r.pos.toNat 0)=false
 · have e:c6 s r=inR s r:=by
    unfold c6
    rw [if_neg (by rw [hin.2.2]; simp),if_neg (by rw [hin.1]; decide),if_neg (by rw [hin.1]; decide),if_pos ⟨hin.1,hin.2.1⟩]
   have hc:=hin.2.1
   have e2:ab inS=2:=by decide
   simp only [eh,hin.1,e2,af,decide_eq_true_eq] at hc
   rw [e]
   have hq:=Fe (w:=inS) rfl hok hsl (by omega)
   let B:Int→Rd→Rd:=fun _ _=>r
   let C:Rd→Rd:=fun _=>inR s r
   refine ak.rd Tryz.func187 (by kernel_rfl) (by kernel_rfl) rfl fun Γ=>?_
   refine jg (cfg:=(tO B C)) oq Tryz.func187 (let x1:=(B (1:Int) { pos:=IntKind.wrap .i64 (Rd.pos r+(1:Int)),out:=Rd.out r,bad:=Rd.bad r }); let x2:=(Rd.pos r+ab (ay s (Rd.pos r))); let x3:=(C { pos:=Rd.pos r,out:=Rd.out r,bad:=Rd.bad r }); let x4:=(bU s { pos:=Rd.pos r,out:=Rd.out r,bad:=Rd.bad r }); let x5:=(List.getD s ((Rd.pos r).toNat) (0:UInt8)); let x6:=(ay s (Rd.pos r)==[105,110]||ay s (Rd.pos r)==[114,101]||ay s (Rd.pos r)==[105,109]); let x7:=((Rd.out r).length+1); let x8:=(IntKind.wrap .i64 x2); let x9:=(IntKind.wrap .i64 x2<ab s); .need ((0:Int)≤Rd.pos r∧Rd.pos r<ab s) (.ite (decide ((↑(x5.toNat):Int)≥48)&&decide ((↑(x5.toNat):Int)≤57)) (.need (s.length≤1048576∧room x7 32∧(0:Int)≤Rd.pos r∧Rd.pos r<ab s∧isD x5=true) (.ret (.tup []) [.cells [.pd (.str s),.i (Rd.pos x4),.own 2,.i (Rd.bad x4)] 169,.dead,.own 92 .cell (Rd.out x4)])) (.ite ((↑(x5.toNat):Int)==40) (.need (ak Tryz.prog (120:FuncId) [.c (.loc 0 0),SX.i 1] [.cells [.pd (.str s),.i (IntKind.wrap .i64 (Rd.pos r+(1:Int))),.own 1,.i (Rd.bad r)] (169:TypeId),.own (92:TypeId) .cell (Rd.out r)] (.tup []) (rd2 s x1)) (.need ((Rd.bad x1<(0:Int)→(0:Int)≤Rd.pos x1∧Rd.pos x1≤ab s)∧(-1:Int)≤Rd.pos x1∧Rd.pos x1≤(1099511627776:Int)) (.ret (.tup []) [.cells [.pd (.str s),.i (Rd.pos x1+(1:Int)),.own 2,.i (Rd.bad (bx s { pos:=Rd.pos x1,out:=Rd.out x1,bad:=Rd.bad x1 }))] 169,.dead,.own 92 .cell (Rd.out x1)]))) (.need (s.length≤1048576∧(0:Int)≤Rd.pos r∧Rd.pos r≤ab s) (.ite (ay s (Rd.pos r)==[116,114,117,101]) (.need (room x7 32) (.ret (.tup []) [.cells [.pd (.str s),.i x8,.own 2,.i (Rd.bad r)] 169,.dead,zMe3 r])) (.ite (ay s (Rd.pos r)==[102,97,108,115,101]) (.need (room x7 32) (.ret (.tup []) [.cells [.pd (.str s),.i x8,.own 2,.i (Rd.bad r)] 169,.dead,zMe4 r])) (.need ((x6&&decide x9)=true→(0:Int)≤IntKind.wrap .i64 x2∧IntKind.wrap .i64 x2<ab s) (.ite (x6&&decide x9&&(↑((List.getD s (x8.toNat) (0:UInt8)).toNat):Int)==40) (.need (ak Tryz.prog (210:FuncId) [.c (.loc 0 0),SX.s (ay s (Rd.pos r))] (zMe2 s r) (.tup []) (rd2 s x3)) (.ret (.tup []) [.cells [.pd (.str s),.i (Rd.pos x3),.own 2,.i (Rd.bad x3)] 169,.dead,.own 92 .cell (Rd.out x3)])) (.ite (aC (ay s (Rd.pos r))) (.need (room x7 32) (.ret (.tup []) [.cells [.pd (.str s),.i x8,.own 2,.i (Rd.bad r)] 169,.dead,.own 92 .cell (Rd.out r++[{ op:=(5:Int),a:=(0:Int),name:=ay s (Rd.pos r) }])])) (.ret (.tup []) (zMe1 s r))))))))))) ?_
   conv=>zeta
   rw [hin.1,e2,bG (n:=r.pos+2) (by omega) (by omega)]
   refine ⟨⟨hlow,by omega⟩,fun h=>?_,fun hd=>⟨fun h=>?_,fun _=>⟨⟨hs,hlow,by omega⟩,fun h=>absurd h (by decide),fun _=>⟨fun h=>absurd h (by decide),fun _=>⟨fun h=>⟨by omega,hc.1⟩,fun _=>⟨hq,RdQ.two rfl⟩,fun h=>?_⟩⟩⟩⟩⟩
   · have h':isD (s.getD r.pos.toNat 0)=true:=h
     rw [hin.2.2] at h'; cases h'
   · exact absurd (show bD s r.pos=40 from eq_of_beq h) (g1 hin.2.2)
   · exfalso
     have e40:(((s.getD (r.pos+2).toNat 0).toNat:Int)==40)=true:=hc.2
     rw [decide_eq_true hc.1,e40] at h
     exact absurd h (by decide)
 · let B:Int→Rd→Rd:=fun _ _=>r
   let C:Rd→Rd:=fun _=>r
   refine ak.rd Tryz.func187 (by kernel_rfl) (by kernel_rfl) rfl fun Γ=>?_
   refine jg (cfg:=(tO B C)) oq Tryz.func187 (let x1:=(B (1:Int) { pos:=IntKind.wrap .i64 (Rd.pos r+(1:Int)),out:=Rd.out r,bad:=Rd.bad r }); let x2:=(Rd.pos r+ab (ay s (Rd.pos r))); let x3:=(C { pos:=Rd.pos r,out:=Rd.out r,bad:=Rd.bad r }); let x4:=(bU s { pos:=Rd.pos r,out:=Rd.out r,bad:=Rd.bad r }); let x5:=(List.getD s ((Rd.pos r).toNat) (0:UInt8)); let x6:=(ay s (Rd.pos r)==[105,110]||ay s (Rd.pos r)==[114,101]||ay s (Rd.pos r)==[105,109]); let x7:=((Rd.out r).length+1); let x8:=(IntKind.wrap .i64 x2); let x9:=(IntKind.wrap .i64 x2<ab s); .need ((0:Int)≤Rd.pos r∧Rd.pos r<ab s) (.ite (decide ((↑(x5.toNat):Int)≥48)&&decide ((↑(x5.toNat):Int)≤57)) (.need (s.length≤1048576∧room x7 32∧(0:Int)≤Rd.pos r∧Rd.pos r<ab s∧isD x5=true) (.ret (.tup []) [.cells [.pd (.str s),.i (Rd.pos x4),.own 2,.i (Rd.bad x4)] 169,.dead,.own 92 .cell (Rd.out x4)])) (.ite ((↑(x5.toNat):Int)==40) (.need (ak Tryz.prog (120:FuncId) [.c (.loc 0 0),SX.i 1] [.cells [.pd (.str s),.i (IntKind.wrap .i64 (Rd.pos r+(1:Int))),.own 1,.i (Rd.bad r)] (169:TypeId),.own (92:TypeId) .cell (Rd.out r)] (.tup []) (rd2 s x1)) (.need ((Rd.bad x1<(0:Int)→(0:Int)≤Rd.pos x1∧Rd.pos x1≤ab s)∧(-1:Int)≤Rd.pos x1∧Rd.pos x1≤(1099511627776:Int)) (.ret (.tup []) [.cells [.pd (.str s),.i (Rd.pos x1+(1:Int)),.own 2,.i (Rd.bad (bx s { pos:=Rd.pos x1,out:=Rd.out x1,bad:=Rd.bad x1 }))] 169,.dead,.own 92 .cell (Rd.out x1)]))) (.need (s.length≤1048576∧(0:Int)≤Rd.pos r∧Rd.pos r≤ab s) (.ite (ay s (Rd.pos r)==[116,114,117,101]) (.need (room x7 32) (.ret (.tup []) [.cells [.pd (.str s),.i x8,.own 2,.i (Rd.bad r)] 169,.dead,zMe3 r])) (.ite (ay s (Rd.pos r)==[102,97,108,115,101]) (.need (room x7 32) (.ret (.tup []) [.cells [.pd (.str s),.i x8,.own 2,.i (Rd.bad r)] 169,.dead,zMe4 r])) (.need ((x6&&decide x9)=true→(0:Int)≤IntKind.wrap .i64 x2∧IntKind.wrap .i64 x2<ab s) (.ite (x6&&decide x9&&(↑((List.getD s (x8.toNat) (0:UInt8)).toNat):Int)==40) (.need (ak Tryz.prog (210:FuncId) [.c (.loc 0 0),SX.s (ay s (Rd.pos r))] (zMe2 s r) (.tup []) (rd2 s x3)) (.ret (.tup []) [.cells [.pd (.str s),.i (Rd.pos x3),.own 2,.i (Rd.bad x3)] 169,.dead,.own 92 .cell (Rd.out x3)])) (.ite (aC (ay s (Rd.pos r))) (.need (room x7 32) (.ret (.tup []) [.cells [.pd (.str s),.i x8,.own 2,.i (Rd.bad r)] 169,.dead,.own 92 .cell (Rd.out r++[{ op:=(5:Int),a:=(0:Int),name:=ay s (Rd.pos r) }])])) (.ret (.tup []) (zMe1 s r))))))))))) ?_
   conv=>zeta
   rw [bG (n:=r.pos+ab (ay s r.pos)) (by omega) (by omega)]
   refine ⟨⟨hlow,hlt⟩,fun h=>⟨⟨hs,hr,hlow,hlt,h⟩,RdQ.two ?_⟩,fun hd=>⟨fun h=>?_,fun _=>⟨⟨hs,hlow,hok.high⟩,fun h=>⟨hr,RdQ.two ?_⟩,fun n1=>⟨fun h=>⟨hr,RdQ.two ?_⟩,fun n2=>⟨fun h=>?_,fun h=>?_,fun n3=>⟨fun h=>⟨hr,RdQ.two ?_⟩,fun h=>RdQ.one ?_⟩⟩⟩⟩⟩⟩
   · have h':isD (s.getD r.pos.toNat 0)=true:=h
     have e:c6 s r=bU s r:=by unfold c6; rw [if_pos h']
     rw [e]; rfl
   · exact absurd (show bD s r.pos=40 from eq_of_beq h) (g1 hd)
   · have h':ay s r.pos=ei:=eq_of_beq h
     have hd':¬isD (s.getD r.pos.toNat 0)=true:=by have:isD (s.getD r.pos.toNat 0)=false:=hd; rw [this]; simp
     have e:c6 s r=(r.emit ⟨3,0,[]⟩).to (r.pos+ab (ay s r.pos)):=by unfold c6; rw [if_neg hd',if_pos h',h']; rfl
     rw [e]; rfl
   · have h':ay s r.pos=fF:=eq_of_beq h
     have hd':¬isD (s.getD r.pos.toNat 0)=true:=by have:isD (s.getD r.pos.toNat 0)=false:=hd; rw [this]; simp
     have e:c6 s r=(r.emit ⟨4,0,[]⟩).to (r.pos+ab (ay s r.pos)):=by
      unfold c6
      have n1':¬ay s r.pos=ei:=ne_of_beq_false n1
      rw [if_neg hd',if_neg n1',if_pos h',h']; rfl
     rw [e]; rfl
   · simp only [af,decide_eq_true_eq] at h
     exact ⟨by omega,h.2⟩
   · exfalso
     have h2:(decide (r.pos+ab (ay s r.pos)<ab s)&&((s.getD (r.pos+ab (ay s r.pos)).toNat 0).toNat:Int)==40)=true:=by
      simp only [af] at h ⊢
      exact ⟨h.1.2,h.2⟩
     have hcb:eh s r.pos=true:=h2
     simp only [af,aA,beq_iff_eq] at h
     rcases h.1.1 with (h1 | h1) | h1
     · exact hin ⟨h1,hcb,hd⟩
     · exact (g2 hd).1 ⟨h1,hcb⟩
     · exact (g2 hd).2 ⟨h1,hcb⟩
   · have hd':¬isD (s.getD r.pos.toNat 0)=true:=by have:isD (s.getD r.pos.toNat 0)=false:=hd; rw [this]; simp
     have e:c6 s r=(r.emit ⟨5,0,ay s r.pos⟩).to (r.pos+ab (ay s r.pos)):=by
      unfold c6
      have n1':¬ay s r.pos=ei:=ne_of_beq_false n1
      have n2':¬ay s r.pos=fF:=ne_of_beq_false n2
      rw [if_neg hd',if_neg n1',if_neg n2',if_neg (fun g=>hin ⟨g.1,g.2,hd⟩),if_pos h]
     rw [e]; rfl
   · have hd':¬isD (s.getD r.pos.toNat 0)=true:=by have:isD (s.getD r.pos.toNat 0)=false:=hd; rw [this]; simp
     have e:c6 s r=r.wrong r.pos:=by
      unfold c6
      have n1':¬ay s r.pos=ei:=ne_of_beq_false n1
      have n2':¬ay s r.pos=fF:=ne_of_beq_false n2
      rw [if_neg hd',if_neg n1',if_neg n2',if_neg (fun g=>hin ⟨g.1,g.2,hd⟩),if_neg (by rw [h]; simp)]
     rw [e]; rfl
end Go.Proofs.YtpfidgnkokidoaaGreatDoor

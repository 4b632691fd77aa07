/- Contracts of the program's reader of expressions, whole. Conditions: texts of at most 2^20 bytes. Contracts of the document's reader of expressions: its small steps. Conditions: places within the text. Numbers told by the document. Conditions: an int64. -/
import Derived.Test.YtpfidgnkokidoaaGreatDoorMd
import Derived.Test.YtpfidgnkokidoaaGreatDoorNc
import Derived.Test.YtpfidgnkokidoaaGreatDoorVc
import Derived.Lib.ItoaMem
namespace Go.Proofs.YtpfidgnkokidoaaGreatDoor
open Go Go.Ev
set_option maxRecDepth 100000
def wF (B:Int→Rd→Rd):Ent:=(120,fun
 | [.c (.loc 0 0),.c (.pd (.int .i64 p))],[.cells [.pd (.str s),.pd (.int .i64 pos),.own 1,.pd (.int .i64 bad)] 169,.own 92 .cell out]=>some (some (ak Tryz.prog 120 [.c (.loc 0 0),.i p] [.cells [.pd (.str s),.pd (.int .i64 pos),.own 1,.pd (.int .i64 bad)] 169,.own 92 .cell out] (.tup []) (rd2 s (B p ⟨pos,out,bad⟩))),.tup [],[.cells [.pd (.str s),.pd (.int .i64 (B p ⟨pos,out,bad⟩).pos),.own 2,.pd (.int .i64 (B p ⟨pos,out,bad⟩).bad)] 169,.dead,.own 92 .cell (B p ⟨pos,out,bad⟩).out])
 | _,_=>none)
def AS (B:Rd→Rd):Ent:=(159,fun
 | [.c (.loc 0 0)],[.cells [.pd (.str s),.pd (.int .i64 pos),.own 1,.pd (.int .i64 bad)] 169,.own 92 .cell out]=>some (some (ak Tryz.prog 159 [.c (.loc 0 0)] [.cells [.pd (.str s),.pd (.int .i64 pos),.own 1,.pd (.int .i64 bad)] 169,.own 92 .cell out] (.tup []) (rd2 s (B ⟨pos,out,bad⟩))),.tup [],[.cells [.pd (.str s),.pd (.int .i64 (B ⟨pos,out,bad⟩).pos),.own 2,.pd (.int .i64 (B ⟨pos,out,bad⟩).bad)] 169,.dead,.own 92 .cell (B ⟨pos,out,bad⟩).out])
 | _,_=>none)
def yS (B:Rd→Rd):Ent:=(187,fun
 | [.c (.loc 0 0)],[.cells [.pd (.str s),.pd (.int .i64 pos),.own 1,.pd (.int .i64 bad)] 169,.own 92 .cell out]=>some (some (ak Tryz.prog 187 [.c (.loc 0 0)] [.cells [.pd (.str s),.pd (.int .i64 pos),.own 1,.pd (.int .i64 bad)] 169,.own 92 .cell out] (.tup []) (rd2 s (B ⟨pos,out,bad⟩))),.tup [],[.cells [.pd (.str s),.pd (.int .i64 (B ⟨pos,out,bad⟩).pos),.own 2,.pd (.int .i64 (B ⟨pos,out,bad⟩).bad)] 169,.dead,.own 92 .cell (B ⟨pos,out,bad⟩).out])
 | _,_=>none)
def r9 (B:Rd→Rd):Ent:=(210,fun
 | [.c (.loc 0 0),.c (.pd (.str w))],[.cells [.pd (.str s),.pd (.int .i64 pos),.own 1,.pd (.int .i64 bad)] 169,.own 92 .cell out]=>some (some (ak Tryz.prog 210 [.c (.loc 0 0),.s w] [.cells [.pd (.str s),.pd (.int .i64 pos),.own 1,.pd (.int .i64 bad)] 169,.own 92 .cell out] (.tup []) (rd2 s (B ⟨pos,out,bad⟩))),.tup [],[.cells [.pd (.str s),.pd (.int .i64 (B ⟨pos,out,bad⟩).pos),.own 2,.pd (.int .i64 (B ⟨pos,out,bad⟩).bad)] 169,.dead,.own 92 .cell (B ⟨pos,out,bad⟩).out])
 | _,_=>none)
def yB (B:Int→Rd→Rd) (U:Rd→Rd):Cfg:=⟨bu,[wF B,AS U,vf,mT]⟩
def yH (U A:Rd→Rd):Cfg:=⟨bu,[AS U,yS A,j1,mT]⟩
def vH (B:Int→Rd→Rd) (C:Rd→Rd):Cfg:=⟨bu,[wF B,r9 C,oq,yN,qo,mT,j1,hG]⟩
def Fw (B:Int→Rd→Rd):Cfg:=⟨bu,[wF B,oq,qo,mT,j1,hG]⟩
theorem wR {B:Int→Rd→Rd} (vs:List SX) (ck:List Chunk) (p:Option Prop) (ret:SV) (ck':List Chunk) (h:(wF B).2 vs ck=some (p,ret,ck')) (hp:Holds p):ak Tryz.prog (wF B).1 vs ck ret ck':=by
 unfold wF at h
 simp only at h
 split at h
 · simp only [aa,ae] at h
   obtain ⟨rfl,rfl,rfl⟩:=h
   exact hp
 · simp at h
theorem C9 {B:Rd→Rd} (vs:List SX) (ck:List Chunk) (p:Option Prop) (ret:SV) (ck':List Chunk) (h:(AS B).2 vs ck=some (p,ret,ck')) (hp:Holds p):ak Tryz.prog (AS B).1 vs ck ret ck':=by
 unfold AS at h
 simp only at h
 split at h
 · simp only [aa,ae] at h
   obtain ⟨rfl,rfl,rfl⟩:=h
   exact hp
 · simp at h
theorem Jc {B:Rd→Rd} (vs:List SX) (ck:List Chunk) (p:Option Prop) (ret:SV) (ck':List Chunk) (h:(yS B).2 vs ck=some (p,ret,ck')) (hp:Holds p):ak Tryz.prog (yS B).1 vs ck ret ck':=by
 unfold yS at h
 simp only at h
 split at h
 · simp only [aa,ae] at h
   obtain ⟨rfl,rfl,rfl⟩:=h
   exact hp
 · simp at h
theorem Eo {B:Rd→Rd} (vs:List SX) (ck:List Chunk) (p:Option Prop) (ret:SV) (ck':List Chunk) (h:(r9 B).2 vs ck=some (p,ret,ck')) (hp:Holds p):ak Tryz.prog (r9 B).1 vs ck ret ck':=by
 unfold r9 at h
 simp only at h
 split at h
 · simp only [aa,ae] at h
   obtain ⟨rfl,rfl,rfl⟩:=h
   exact hp
 · simp at h
theorem tJ {B:Int→Rd→Rd} {U:Rd→Rd}:ai Tryz.prog (yB B U).tab:=ai.cons wR (ai.cons C9 (ai.cons Hb (ai.cons mq ai.nil)))
theorem sU {U A:Rd→Rd}:ai Tryz.prog (yH U A).tab:=ai.cons C9 (ai.cons Jc (ai.cons jZ (ai.cons mq ai.nil)))
theorem oR {B:Int→Rd→Rd} {C:Rd→Rd}:ai Tryz.prog (vH B C).tab:=ai.cons wR (ai.cons Eo (ai.cons tO (ai.cons JJ (ai.cons xx (ai.cons mq (ai.cons jZ (ai.cons fH ai.nil)))))))
theorem Bs {B:Int→Rd→Rd}:ai Tryz.prog (Fw B).tab:=ai.cons wR (ai.cons tO (ai.cons xx (ai.cons mq (ai.cons jZ (ai.cons fH ai.nil)))))
variable {s:Str}
theorem iD {n:Nat} (h:n≤4000000):room n 32:=by unfold room maxLen; omega
def gA (s:Str) (r:Rd):Prop:=(r.out.length:Int)+(af s - r.pos)≤3000000∧s.length≤1048576
theorem gA.to {r:Rd} {k:Int} (h:gA s r) (hk:r.pos≤k):gA s (r.to k):=⟨by have:=h.1; simp only [Rd.to]; omega,h.2⟩
theorem gA.out {r o:Rd} (h:gA s r) (hl:Left s r o):o.out.length≤3000000∧(Ok s o→gA s o)∧(o.bad<0→0≤o.pos∧o.pos≤af s)∧-1≤o.pos∧o.pos≤1099511627775:=by
 have h1:=h.1
 have h2:=h.2
 have hL:af s=(s.length:Int):=rfl
 rcases hl with ⟨g1,g2,g3⟩ | ⟨g1,g2,g3,g4,g5,g6⟩
 · have:=g1.low; have:=g1.high
   exact ⟨by omega,fun _=>⟨by omega,h2⟩,fun _=>⟨g1.low,g1.high⟩,by omega,by omega⟩
 · refine ⟨by omega,fun hk=>?_,fun _=>by omega,by omega,by omega⟩
   have:=hk.bad; omega
abbrev o9 (s:Str) (p:Int) (r o:Rd):Prop:=ak Tryz.prog 120 [.c (.loc 0 0),.i p] (rd1 s r) (.tup []) (rd2 s o)
abbrev wz (s:Str) (r o:Rd):Prop:=ak Tryz.prog 159 [.c (.loc 0 0)] (rd1 s r) (.tup []) (rd2 s o)
abbrev yr (s:Str) (r o:Rd):Prop:=ak Tryz.prog 187 [.c (.loc 0 0)] (rd1 s r) (.tup []) (rd2 s o)
abbrev wo (s w:Str) (r o:Rd):Prop:=ak Tryz.prog 210 [.c (.loc 0 0),.s w] (rd1 s r) (.tup []) (rd2 s o)
theorem oK (q:Rd):bQ s q=⟨q.pos+1,q.out,(bQ s q).bad⟩:=by
 unfold bQ
 split <;> rfl
theorem Ji {k:Int} (h:cw s k = .par):isD (s.getD k.toNat 0)=false∧bU s k=40:=by
 unfold cw at h
 split at h; cases h
 split at h; cases h
 split at h; cases h
 split at h; cases h
 split at h
 · rename_i h4 h5; exact ⟨by simpa using h4,h5⟩
 · split at h
   · cases h
   · split at h <;> cases h
theorem Hq {k:Int} (h:cw s k = .leaf):(isD (s.getD k.toNat 0)=false→bU s k≠40)∧(isD (s.getD k.toNat 0)=false→¬(aG s k=reS∧gH s k=true)∧¬(aG s k=imS∧gH s k=true)):=by
 unfold cw at h
 split at h; cases h
 split at h; cases h
 split at h; cases h
 split at h
 · rename_i h4; exact ⟨fun h5=>(by rw [h4] at h5; cases h5),fun h5=>(by rw [h4] at h5; cases h5)⟩
 · split at h
   · cases h
   · rename_i h5
     split at h
     · cases h
     · rename_i h6
       split at h
       · cases h
       · rename_i h7; exact ⟨fun _=>h5,fun _=>⟨h6,h7⟩⟩
/-! ### calls -/
theorem HE {w:Str} {r q:Rd} {op:Int} (hw:w=reS∧op=9∨w=imS∧op=10) (hok:Ok s r) (hsl:gA s r) (h3:r.pos+3≤af s) (hq:o9 s 1 (r.to (r.pos+3)) q) (hl:Left s (r.to (r.pos+3)) q):wo s w r ((bQ s q).emit ⟨op,0,[]⟩):=by
 have hlow:=hok.low
 have hL:af s=(s.length:Int):=rfl
 have hs:=hsl.2
 obtain ⟨k1,k2,k3,k4,k5⟩:=(hsl.to (k:=r.pos+3) (by omega)).out hl
 have hw3:IntKind.wrap .i64 (af w+1)=3:=by rcases hw with ⟨rfl,_⟩ | ⟨rfl,_⟩ <;> decide
 let B:Int→Rd→Rd:=fun _ _=>q
 refine ak.rd Tryz.func210 (by kernel_rfl) (by kernel_rfl) rfl fun Γ=>?_
 refine jg (cfg:=(Fw B)) Bs Tryz.func210 (let x2:=(Rd.pos r+IntKind.wrap .i64 (af w+(1:Int))); let x1:=(B (1:Int) { pos:=IntKind.wrap .i64 x2,out:=Rd.out r,bad:=Rd.bad r }); let x4:=(IntKind.wrap .i64 x2); let x3:=(IntKind.wrap .i64 x2+af (aG s x4)); let x5:=(Rd.bad (bQ s { pos:=Rd.pos x1,out:=Rd.out x1,bad:=Rd.bad x1 })); let x6:=(room (List.length (Rd.out x1)+1) 32); .ite (!w==[105,110]) (.need (ak Tryz.prog (120:FuncId) [.c (.loc 0 0),SX.i 1] [.cells [.pd (.str s),.i x4,.own 1,.i (Rd.bad r)] (169:TypeId),.own (92:TypeId) .cell (Rd.out r)] (.tup []) (rd2 s x1)) (.need ((Rd.bad x1<(0:Int)→(0:Int)≤Rd.pos x1∧Rd.pos x1≤af s)∧(-1:Int)≤Rd.pos x1∧Rd.pos x1≤(1099511627776:Int)) (.ite (w==[105,109]) (.need x6 (.ret (.tup []) [.cells [.pd (.str s),.i (Rd.pos x1+(1:Int)),.own 2,.i x5] 169,.dead,.own 92 .cell (Rd.out x1++[{ op:=(10:Int),a:=(0:Int),name:=[] }])])) (.need x6 (.ret (.tup []) [.cells [.pd (.str s),.i (Rd.pos x1+(1:Int)),.own 2,.i x5] 169,.dead,.own 92 .cell (Rd.out x1++[{ op:=(9:Int),a:=(0:Int),name:=[] }])]))))) (.need (s.length≤1048576∧(0:Int)≤IntKind.wrap .i64 x2∧IntKind.wrap .i64 x2≤af s) (.ite (!aO (aG s x4)) (.ret (.tup []) [.cells [.pd (.str s),.i x4,.own 1,.i (if Rd.bad r<(0:Int) then IntKind.wrap .i64 x2 else Rd.bad r)] 169,.own 92 .cell (Rd.out r)]) (.need ((Rd.bad r<(0:Int)→(0:Int)≤IntKind.wrap .i64 x3∧IntKind.wrap .i64 x3≤af s)∧(-1:Int)≤IntKind.wrap .i64 x3∧IntKind.wrap .i64 x3≤(1099511627776:Int)) (.need (room ((Rd.out r).length+1) 32) (.ret (.tup []) [.cells [.pd (.str s),.i (IntKind.wrap .i64 x3+(1:Int)),.own 2,.i (Rd.bad (bQ s { pos:=IntKind.wrap .i64 x3,out:=Rd.out r,bad:=Rd.bad r }))] 169,.dead,.own 92 .cell (Rd.out r++[{ op:=(6:Int),a:=(0:Int),name:=aG s x4 }])])))))) ?_
 conv=>zeta
 rw [hw3,cI (n:=r.pos+3) (by omega) (by omega)]
 refine ⟨fun _=>⟨hq,⟨fun h=>k3 h,k4,by show q.pos≤_; omega⟩,fun h=>⟨iD (by show q.out.length+1≤_; omega),RdQ.two ?_⟩,fun h=>⟨iD (by show q.out.length+1≤_; omega),RdQ.two ?_⟩⟩,fun h=>?_⟩
 · have e:op=10:=by
    rcases hw with ⟨rfl,_⟩ | ⟨_,e⟩
    · exact absurd h (by decide)
    · exact e
   subst e; rw [oK q]; rfl
 · have e:op=9:=by
    rcases hw with ⟨_,e⟩ | ⟨rfl,_⟩
    · exact e
    · exact absurd h (by decide)
   subst e; rw [oK q]; rfl
 · exfalso
   rcases hw with ⟨rfl,_⟩ | ⟨rfl,_⟩ <;> exact absurd h (by decide)
theorem HF {w:Str} {r:Rd} (hw0:w=inS) (hok:Ok s r) (hsl:gA s r) (h3:r.pos+3≤af s):wo s w r (inR s r):=by
 have hlow:=hok.low
 have hL:af s=(s.length:Int):=rfl
 have hs:=hsl.2
 have hs1:=hsl.1
 have hb:=hok.bad
 have hw:=mC s (k:=r.pos+3) (by omega) h3
 have hw3:IntKind.wrap .i64 (af w+1)=3:=by rw [hw0]; decide
 let B:Int→Rd→Rd:=fun _ _=>r
 refine ak.rd Tryz.func210 (by kernel_rfl) (by kernel_rfl) rfl fun Γ=>?_
 refine jg (cfg:=(Fw B)) Bs Tryz.func210 (let x2:=(Rd.pos r+IntKind.wrap .i64 (af w+(1:Int))); let x1:=(B (1:Int) { pos:=IntKind.wrap .i64 x2,out:=Rd.out r,bad:=Rd.bad r }); let x4:=(IntKind.wrap .i64 x2); let x3:=(IntKind.wrap .i64 x2+af (aG s x4)); let x5:=(Rd.bad (bQ s { pos:=Rd.pos x1,out:=Rd.out x1,bad:=Rd.bad x1 })); let x6:=(room (List.length (Rd.out x1)+1) 32); .ite (!w==[105,110]) (.need (ak Tryz.prog (120:FuncId) [.c (.loc 0 0),SX.i 1] [.cells [.pd (.str s),.i x4,.own 1,.i (Rd.bad r)] (169:TypeId),.own (92:TypeId) .cell (Rd.out r)] (.tup []) (rd2 s x1)) (.need ((Rd.bad x1<(0:Int)→(0:Int)≤Rd.pos x1∧Rd.pos x1≤af s)∧(-1:Int)≤Rd.pos x1∧Rd.pos x1≤(1099511627776:Int)) (.ite (w==[105,109]) (.need x6 (.ret (.tup []) [.cells [.pd (.str s),.i (Rd.pos x1+(1:Int)),.own 2,.i x5] 169,.dead,.own 92 .cell (Rd.out x1++[{ op:=(10:Int),a:=(0:Int),name:=[] }])])) (.need x6 (.ret (.tup []) [.cells [.pd (.str s),.i (Rd.pos x1+(1:Int)),.own 2,.i x5] 169,.dead,.own 92 .cell (Rd.out x1++[{ op:=(9:Int),a:=(0:Int),name:=[] }])]))))) (.need (s.length≤1048576∧(0:Int)≤IntKind.wrap .i64 x2∧IntKind.wrap .i64 x2≤af s) (.ite (!aO (aG s x4)) (.ret (.tup []) [.cells [.pd (.str s),.i x4,.own 1,.i (if Rd.bad r<(0:Int) then IntKind.wrap .i64 x2 else Rd.bad r)] 169,.own 92 .cell (Rd.out r)]) (.need ((Rd.bad r<(0:Int)→(0:Int)≤IntKind.wrap .i64 x3∧IntKind.wrap .i64 x3≤af s)∧(-1:Int)≤IntKind.wrap .i64 x3∧IntKind.wrap .i64 x3≤(1099511627776:Int)) (.need (room ((Rd.out r).length+1) 32) (.ret (.tup []) [.cells [.pd (.str s),.i (IntKind.wrap .i64 x3+(1:Int)),.own 2,.i (Rd.bad (bQ s { pos:=IntKind.wrap .i64 x3,out:=Rd.out r,bad:=Rd.bad r }))] 169,.dead,.own 92 .cell (Rd.out r++[{ op:=(6:Int),a:=(0:Int),name:=aG s x4 }])])))))) ?_
 conv=>zeta
 rw [hw3,cI (n:=r.pos+3) (by omega) (by omega),cI (n:=r.pos+3+_) (by omega) (by omega)]
 refine ⟨fun h=>absurd h (by rw [hw0]; decide),fun _=>⟨⟨hs,by omega,h3⟩,fun h=>RdQ.one ?_,fun h=>⟨⟨fun _=>⟨by omega,hw.2⟩,by omega,by omega⟩,iD (by omega),RdQ.two ?_⟩⟩⟩
 · have h':aO (aG s (r.pos+3))=false:=by simpa using h
   have e:inR s r=(r.to (r.pos+3)).wrong (r.pos+3):=by unfold inR; rw [if_pos h']
   rw [e]; rfl
 · have h':¬aO (aG s (r.pos+3))=false:=by simpa using h
   have e:inR s r=(bQ s (r.to (r.pos+3+af (aG s (r.pos+3))))).emit ⟨6,0,aG s (r.pos+3)⟩:=by unfold inR; rw [if_neg h']
   rw [e,oK (r.to _)]; rfl
/-! ### what holds by itself -/
abbrev zMe1 (a:Str) (b:Rd):List Chunk:=[.cells [.pd (.str a),.i (Rd.pos b),.own 1,.i (if Rd.bad b<(0:Int) then Rd.pos b else Rd.bad b)] 169,.own 92 .cell (Rd.out b)]
abbrev zMe2 (a:Str) (b:Rd):List Chunk:=[.cells [.pd (.str a),.i (Rd.pos b),.own 1,.i (Rd.bad b)] (169:TypeId),.own (92:TypeId) .cell (Rd.out b)]
abbrev zMe3 (a:Rd):Chunk:=.own 92 .cell (Rd.out a++[{ op:=(3:Int),a:=(0:Int),name:=[] }])
abbrev zMe4 (a:Rd):Chunk:=.own 92 .cell (Rd.out a++[{ op:=(4:Int),a:=(0:Int),name:=[] }])
theorem JE {r q:Rd} (hok:Ok s r) (hsl:gA s r) (hh:cw s r.pos = .par) (hq:o9 s 1 (r.to (r.pos+1)) q) (hl:Left s (r.to (r.pos+1)) q):yr s r (bQ s q):=by
 have hlt:=hok.lt (fun x e=>by rw [hh] at e; subst e; simp)
 have hlow:=hok.low
 have hL:af s=(s.length:Int):=rfl
 have hs:=hsl.2
 obtain ⟨k1,k2,k3,k4,k5⟩:=(hsl.to (k:=r.pos+1) (by omega)).out hl
 obtain ⟨g1,g2⟩:=Ji hh
 let B:Int→Rd→Rd:=fun _ _=>q
 let C:Rd→Rd:=fun _=>q
 refine ak.rd Tryz.func187 (by kernel_rfl) (by kernel_rfl) rfl fun Γ=>?_
 refine jg (cfg:=(vH B C)) oR Tryz.func187 (let x1:=(B (1:Int) { pos:=IntKind.wrap .i64 (Rd.pos r+(1:Int)),out:=Rd.out r,bad:=Rd.bad r }); let x2:=(Rd.pos r+af (aG s (Rd.pos r))); let x3:=(C { pos:=Rd.pos r,out:=Rd.out r,bad:=Rd.bad r }); let x4:=(cC s { pos:=Rd.pos r,out:=Rd.out r,bad:=Rd.bad r }); let x5:=(List.getD s ((Rd.pos r).toNat) (0:UInt8)); let x6:=(aG s (Rd.pos r)==[105,110]||aG s (Rd.pos r)==[114,101]||aG s (Rd.pos r)==[105,109]); let x7:=((Rd.out r).length+1); let x8:=(IntKind.wrap .i64 x2); let x9:=(IntKind.wrap .i64 x2<af s); .need ((0:Int)≤Rd.pos r∧Rd.pos r<af s) (.ite (decide ((↑(x5.toNat):Int)≥48)&&decide ((↑(x5.toNat):Int)≤57)) (.need (s.length≤1048576∧room x7 32∧(0:Int)≤Rd.pos r∧Rd.pos r<af s∧isD x5=true) (.ret (.tup []) [.cells [.pd (.str s),.i (Rd.pos x4),.own 2,.i (Rd.bad x4)] 169,.dead,.own 92 .cell (Rd.out x4)])) (.ite ((↑(x5.toNat):Int)==40) (.need (ak Tryz.prog (120:FuncId) [.c (.loc 0 0),SX.i 1] [.cells [.pd (.str s),.i (IntKind.wrap .i64 (Rd.pos r+(1:Int))),.own 1,.i (Rd.bad r)] (169:TypeId),.own (92:TypeId) .cell (Rd.out r)] (.tup []) (rd2 s x1)) (.need ((Rd.bad x1<(0:Int)→(0:Int)≤Rd.pos x1∧Rd.pos x1≤af s)∧(-1:Int)≤Rd.pos x1∧Rd.pos x1≤(1099511627776:Int)) (.ret (.tup []) [.cells [.pd (.str s),.i (Rd.pos x1+(1:Int)),.own 2,.i (Rd.bad (bQ s { pos:=Rd.pos x1,out:=Rd.out x1,bad:=Rd.bad x1 }))] 169,.dead,.own 92 .cell (Rd.out x1)]))) (.need (s.length≤1048576∧(0:Int)≤Rd.pos r∧Rd.pos r≤af s) (.ite (aG s (Rd.pos r)==[116,114,117,101]) (.need (room x7 32) (.ret (.tup []) [.cells [.pd (.str s),.i x8,.own 2,.i (Rd.bad r)] 169,.dead,zMe3 r])) (.ite (aG s (Rd.pos r)==[102,97,108,115,101]) (.need (room x7 32) (.ret (.tup []) [.cells [.pd (.str s),.i x8,.own 2,.i (Rd.bad r)] 169,.dead,zMe4 r])) (.need ((x6&&decide x9)=true→(0:Int)≤IntKind.wrap .i64 x2∧IntKind.wrap .i64 x2<af s) (.ite (x6&&decide x9&&(↑((List.getD s (x8.toNat) (0:UInt8)).toNat):Int)==40) (.need (ak Tryz.prog (210:FuncId) [.c (.loc 0 0),SX.s (aG s (Rd.pos r))] (zMe2 s r) (.tup []) (rd2 s x3)) (.ret (.tup []) [.cells [.pd (.str s),.i (Rd.pos x3),.own 2,.i (Rd.bad x3)] 169,.dead,.own 92 .cell (Rd.out x3)])) (.ite (aO (aG s (Rd.pos r))) (.need (room x7 32) (.ret (.tup []) [.cells [.pd (.str s),.i x8,.own 2,.i (Rd.bad r)] 169,.dead,.own 92 .cell (Rd.out r++[{ op:=(5:Int),a:=(0:Int),name:=aG s (Rd.pos r) }])])) (.ret (.tup []) (zMe1 s r))))))))))) ?_
 conv=>zeta
 rw [cI (n:=r.pos+1) (by omega) (by omega)]
 refine ⟨⟨hlow,hlt⟩,fun h=>?_,fun _=>⟨fun _=>⟨hq,⟨fun h=>k3 h,k4,by show q.pos≤_; omega⟩,RdQ.two ?_⟩,fun h=>?_⟩⟩
 · have h':isD (s.getD r.pos.toNat 0)=true:=h
   rw [g1] at h'; cases h'
 · rw [oK q]; rfl
 · have h':bU s r.pos≠40:=ne_of_beq_false h
   exact absurd g2 h'
theorem H7 {r o:Rd} {op:Int} (hok:Ok s r) (hsl:gA s r) (hh:cw s r.pos = .call op) (hq:wo s (aG s r.pos) r o):yr s r o:=by
 obtain ⟨g1,g2,g3,g4,g5,g6,hlt⟩:=uT hh
 have hlow:=hok.low
 have hL:af s=(s.length:Int):=rfl
 have hs:=hsl.2
 have hw:=mC s hok.low hok.high
 let B:Int→Rd→Rd:=fun _ _=>o
 let C:Rd→Rd:=fun _=>o
 refine ak.rd Tryz.func187 (by kernel_rfl) (by kernel_rfl) rfl fun Γ=>?_
 refine jg (cfg:=(vH B C)) oR Tryz.func187 (let x1:=(B (1:Int) { pos:=IntKind.wrap .i64 (Rd.pos r+(1:Int)),out:=Rd.out r,bad:=Rd.bad r }); let x2:=(Rd.pos r+af (aG s (Rd.pos r))); let x3:=(C { pos:=Rd.pos r,out:=Rd.out r,bad:=Rd.bad r }); let x4:=(cC s { pos:=Rd.pos r,out:=Rd.out r,bad:=Rd.bad r }); let x5:=(List.getD s ((Rd.pos r).toNat) (0:UInt8)); let x6:=(aG s (Rd.pos r)==[105,110]||aG s (Rd.pos r)==[114,101]||aG s (Rd.pos r)==[105,109]); let x7:=((Rd.out r).length+1); let x8:=(IntKind.wrap .i64 x2); let x9:=(IntKind.wrap .i64 x2<af s); .need ((0:Int)≤Rd.pos r∧Rd.pos r<af s) (.ite (decide ((↑(x5.toNat):Int)≥48)&&decide ((↑(x5.toNat):Int)≤57)) (.need (s.length≤1048576∧room x7 32∧(0:Int)≤Rd.pos r∧Rd.pos r<af s∧isD x5=true) (.ret (.tup []) [.cells [.pd (.str s),.i (Rd.pos x4),.own 2,.i (Rd.bad x4)] 169,.dead,.own 92 .cell (Rd.out x4)])) (.ite ((↑(x5.toNat):Int)==40) (.need (ak Tryz.prog (120:FuncId) [.c (.loc 0 0),SX.i 1] [.cells [.pd (.str s),.i (IntKind.wrap .i64 (Rd.pos r+(1:Int))),.own 1,.i (Rd.bad r)] (169:TypeId),.own (92:TypeId) .cell (Rd.out r)] (.tup []) (rd2 s x1)) (.need ((Rd.bad x1<(0:Int)→(0:Int)≤Rd.pos x1∧Rd.pos x1≤af s)∧(-1:Int)≤Rd.pos x1∧Rd.pos x1≤(1099511627776:Int)) (.ret (.tup []) [.cells [.pd (.str s),.i (Rd.pos x1+(1:Int)),.own 2,.i (Rd.bad (bQ s { pos:=Rd.pos x1,out:=Rd.out x1,bad:=Rd.bad x1 }))] 169,.dead,.own 92 .cell (Rd.out x1)]))) (.need (s.length≤1048576∧(0:Int)≤Rd.pos r∧Rd.pos r≤af s) (.ite (aG s (Rd.pos r)==[116,114,117,101]) (.need (room x7 32) (.ret (.tup []) [.cells [.pd (.str s),.i x8,.own 2,.i (Rd.bad r)] 169,.dead,zMe3 r])) (.ite (aG s (Rd.pos r)==[102,97,108,115,101]) (.need (room x7 32) (.ret (.tup []) [.cells [.pd (.str s),.i x8,.own 2,.i (Rd.bad r)] 169,.dead,zMe4 r])) (.need ((x6&&decide x9)=true→(0:Int)≤IntKind.wrap .i64 x2∧IntKind.wrap .i64 x2<af s) (.ite (x6&&decide x9&&(↑((List.getD s (x8.toNat) (0:UInt8)).toNat):Int)==40) (.need (ak Tryz.prog (210:FuncId) [.c (.loc 0 0),SX.s (aG s (Rd.pos r))] (zMe2 s r) (.tup []) (rd2 s x3)) (.ret (.tup []) [.cells [.pd (.str s),.i (Rd.pos x3),.own 2,.i (Rd.bad x3)] 169,.dead,.own 92 .cell (Rd.out x3)])) (.ite (aO (aG s (Rd.pos r))) (.need (room x7 32) (.ret (.tup []) [.cells [.pd (.str s),.i x8,.own 2,.i (Rd.bad r)] 169,.dead,.own 92 .cell (Rd.out r++[{ op:=(5:Int),a:=(0:Int),name:=aG s (Rd.pos r) }])])) (.ret (.tup []) (zMe1 s r))))))))))) ?_
 conv=>zeta
 rw [cI (n:=r.pos+af (aG s r.pos)) (by omega) (by omega)]
 have hc:=g2
 simp only [gH,ab,decide_eq_true_eq] at hc
 refine ⟨⟨hlow,by omega⟩,fun h=>?_,fun _=>⟨fun h=>?_,fun _=>⟨⟨hs,hlow,by omega⟩,fun h=>?_,fun _=>⟨fun h=>?_,fun _=>⟨fun h=>⟨by omega,hc.1⟩,fun _=>⟨hq,RdQ.two rfl⟩,fun h=>?_⟩⟩⟩⟩⟩
 · have h':isD (s.getD r.pos.toNat 0)=true:=h
   rw [g6] at h'; cases h'
 · exact absurd (show bU s r.pos=40 from eq_of_beq h) g5
 · have h':=eq_of_beq h
   rcases g1 with ⟨e,_⟩ | ⟨e,_⟩ <;> (rw [e] at h'; exact absurd h' (by decide))
 · have h':=eq_of_beq h
   rcases g1 with ⟨e,_⟩ | ⟨e,_⟩ <;> (rw [e] at h'; exact absurd h' (by decide))
 · exfalso
   have e40:(((s.getD (r.pos+af (aG s r.pos)).toNat 0).toNat:Int)==40)=true:=hc.2
   rw [decide_eq_true hc.1,e40] at h
   rcases g1 with ⟨e,_⟩ | ⟨e,_⟩ <;> (rw [e] at h; exact absurd h (by decide))
theorem Iv {r:Rd} (hok:Ok s r) (hsl:gA s r) (hh:cw s r.pos = .leaf):yr s r (eQ s r):=by
 have hlt:=hok.lt (fun x e=>by rw [hh] at e; subst e; simp)
 have hlow:=hok.low
 have hL:af s=(s.length:Int):=rfl
 have hs:=hsl.2
 have hs1:=hsl.1
 have hw:=mC s hok.low hok.high
 have hr:room (r.out.length+1) 32:=iD (by omega)
 obtain ⟨g1,g2⟩:=Hq hh
 by_cases hin:aG s r.pos=inS∧gH s r.pos=true∧isD (s.getD r.pos.toNat 0)=false
 · have e:eQ s r=inR s r:=by
    unfold eQ
    rw [if_neg (by rw [hin.2.2]; simp),if_neg (by rw [hin.1]; decide),if_neg (by rw [hin.1]; decide),if_pos ⟨hin.1,hin.2.1⟩]
   have hc:=hin.2.1
   have e2:af inS=2:=by decide
   simp only [gH,hin.1,e2,ab,decide_eq_true_eq] at hc
   rw [e]
   have hq:=HF (w:=inS) rfl hok hsl (by omega)
   let B:Int→Rd→Rd:=fun _ _=>r
   let C:Rd→Rd:=fun _=>inR s r
   refine ak.rd Tryz.func187 (by kernel_rfl) (by kernel_rfl) rfl fun Γ=>?_
   refine jg (cfg:=(vH B C)) oR Tryz.func187 (let x1:=(B (1:Int) { pos:=IntKind.wrap .i64 (Rd.pos r+(1:Int)),out:=Rd.out r,bad:=Rd.bad r }); let x2:=(Rd.pos r+af (aG s (Rd.pos r))); let x3:=(C { pos:=Rd.pos r,out:=Rd.out r,bad:=Rd.bad r }); let x4:=(cC s { pos:=Rd.pos r,out:=Rd.out r,bad:=Rd.bad r }); let x5:=(List.getD s ((Rd.pos r).toNat) (0:UInt8)); let x6:=(aG s (Rd.pos r)==[105,110]||aG s (Rd.pos r)==[114,101]||aG s (Rd.pos r)==[105,109]); let x7:=((Rd.out r).length+1); let x8:=(IntKind.wrap .i64 x2); let x9:=(IntKind.wrap .i64 x2<af s); .need ((0:Int)≤Rd.pos r∧Rd.pos r<af s) (.ite (decide ((↑(x5.toNat):Int)≥48)&&decide ((↑(x5.toNat):Int)≤57)) (.need (s.length≤1048576∧room x7 32∧(0:Int)≤Rd.pos r∧Rd.pos r<af s∧isD x5=true) (.ret (.tup []) [.cells [.pd (.str s),.i (Rd.pos x4),.own 2,.i (Rd.bad x4)] 169,.dead,.own 92 .cell (Rd.out x4)])) (.ite ((↑(x5.toNat):Int)==40) (.need (ak Tryz.prog (120:FuncId) [.c (.loc 0 0),SX.i 1] [.cells [.pd (.str s),.i (IntKind.wrap .i64 (Rd.pos r+(1:Int))),.own 1,.i (Rd.bad r)] (169:TypeId),.own (92:TypeId) .cell (Rd.out r)] (.tup []) (rd2 s x1)) (.need ((Rd.bad x1<(0:Int)→(0:Int)≤Rd.pos x1∧Rd.pos x1≤af s)∧(-1:Int)≤Rd.pos x1∧Rd.pos x1≤(1099511627776:Int)) (.ret (.tup []) [.cells [.pd (.str s),.i (Rd.pos x1+(1:Int)),.own 2,.i (Rd.bad (bQ s { pos:=Rd.pos x1,out:=Rd.out x1,bad:=Rd.bad x1 }))] 169,.dead,.own 92 .cell (Rd.out x1)]))) (.need (s.length≤1048576∧(0:Int)≤Rd.pos r∧Rd.pos r≤af s) (.ite (aG s (Rd.pos r)==[116,114,117,101]) (.need (room x7 32) (.ret (.tup []) [.cells [.pd (.str s),.i x8,.own 2,.i (Rd.bad r)] 169,.dead,zMe3 r])) (.ite (aG s (Rd.pos r)==[102,97,108,115,101]) (.need (room x7 32) (.ret (.tup []) [.cells [.pd (.str s),.i x8,.own 2,.i (Rd.bad r)] 169,.dead,zMe4 r])) (.need ((x6&&decide x9)=true→(0:Int)≤IntKind.wrap .i64 x2∧IntKind.wrap .i64 x2<af s) (.ite (x6&&decide x9&&(↑((List.getD s (x8.toNat) (0:UInt8)).toNat):Int)==40) (.need (ak Tryz.prog (210:FuncId) [.c (.loc 0 0),SX.s (aG s (Rd.pos r))] (zMe2 s r) (.tup []) (rd2 s x3)) (.ret (.tup []) [.cells [.pd (.str s),.i (Rd.pos x3),.own 2,.i (Rd.bad x3)] 169,.dead,.own 92 .cell (Rd.out x3)])) (.ite (aO (aG s (Rd.pos r))) (.need (room x7 32) (.ret (.tup []) [.cells [.pd (.str s),.i x8,.own 2,.i (Rd.bad r)] 169,.dead,.own 92 .cell (Rd.out r++[{ op:=(5:Int),a:=(0:Int),name:=aG s (Rd.pos r) }])])) (.ret (.tup []) (zMe1 s r))))))))))) ?_
   conv=>zeta
   rw [hin.1,e2,cI (n:=r.pos+2) (by omega) (by omega)]
   refine ⟨⟨hlow,by omega⟩,fun h=>?_,fun hd=>⟨fun h=>?_,fun _=>⟨⟨hs,hlow,by omega⟩,fun h=>absurd h (by decide),fun _=>⟨fun h=>absurd h (by decide),fun _=>⟨fun h=>⟨by omega,hc.1⟩,fun _=>⟨hq,RdQ.two rfl⟩,fun h=>?_⟩⟩⟩⟩⟩
   · have h':isD (s.getD r.pos.toNat 0)=true:=h
     rw [hin.2.2] at h'; cases h'
   · exact absurd (show bU s r.pos=40 from eq_of_beq h) (g1 hin.2.2)
   · exfalso
     have e40:(((s.getD (r.pos+2).toNat 0).toNat:Int)==40)=true:=hc.2
     rw [decide_eq_true hc.1,e40] at h
     exact absurd h (by decide)
 · let B:Int→Rd→Rd:=fun _ _=>r
   let C:Rd→Rd:=fun _=>r
   refine ak.rd Tryz.func187 (by kernel_rfl) (by kernel_rfl) rfl fun Γ=>?_
   refine jg (cfg:=(vH B C)) oR Tryz.func187 (let x1:=(B (1:Int) { pos:=IntKind.wrap .i64 (Rd.pos r+(1:Int)),out:=Rd.out r,bad:=Rd.bad r }); let x2:=(Rd.pos r+af (aG s (Rd.pos r))); let x3:=(C { pos:=Rd.pos r,out:=Rd.out r,bad:=Rd.bad r }); let x4:=(cC s { pos:=Rd.pos r,out:=Rd.out r,bad:=Rd.bad r }); let x5:=(List.getD s ((Rd.pos r).toNat) (0:UInt8)); let x6:=(aG s (Rd.pos r)==[105,110]||aG s (Rd.pos r)==[114,101]||aG s (Rd.pos r)==[105,109]); let x7:=((Rd.out r).length+1); let x8:=(IntKind.wrap .i64 x2); let x9:=(IntKind.wrap .i64 x2<af s); .need ((0:Int)≤Rd.pos r∧Rd.pos r<af s) (.ite (decide ((↑(x5.toNat):Int)≥48)&&decide ((↑(x5.toNat):Int)≤57)) (.need (s.length≤1048576∧room x7 32∧(0:Int)≤Rd.pos r∧Rd.pos r<af s∧isD x5=true) (.ret (.tup []) [.cells [.pd (.str s),.i (Rd.pos x4),.own 2,.i (Rd.bad x4)] 169,.dead,.own 92 .cell (Rd.out x4)])) (.ite ((↑(x5.toNat):Int)==40) (.need (ak Tryz.prog (120:FuncId) [.c (.loc 0 0),SX.i 1] [.cells [.pd (.str s),.i (IntKind.wrap .i64 (Rd.pos r+(1:Int))),.own 1,.i (Rd.bad r)] (169:TypeId),.own (92:TypeId) .cell (Rd.out r)] (.tup []) (rd2 s x1)) (.need ((Rd.bad x1<(0:Int)→(0:Int)≤Rd.pos x1∧Rd.pos x1≤af s)∧(-1:Int)≤Rd.pos x1∧Rd.pos x1≤(1099511627776:Int)) (.ret (.tup []) [.cells [.pd (.str s),.i (Rd.pos x1+(1:Int)),.own 2,.i (Rd.bad (bQ s { pos:=Rd.pos x1,out:=Rd.out x1,bad:=Rd.bad x1 }))] 169,.dead,.own 92 .cell (Rd.out x1)]))) (.need (s.length≤1048576∧(0:Int)≤Rd.pos r∧Rd.pos r≤af s) (.ite (aG s (Rd.pos r)==[116,114,117,101]) (.need (room x7 32) (.ret (.tup []) [.cells [.pd (.str s),.i x8,.own 2,.i (Rd.bad r)] 169,.dead,zMe3 r])) (.ite (aG s (Rd.pos r)==[102,97,108,115,101]) (.need (room x7 32) (.ret (.tup []) [.cells [.pd (.str s),.i x8,.own 2,.i (Rd.bad r)] 169,.dead,zMe4 r])) (.need ((x6&&decide x9)=true→(0:Int)≤IntKind.wrap .i64 x2∧IntKind.wrap .i64 x2<af s) (.ite (x6&&decide x9&&(↑((List.getD s (x8.toNat) (0:UInt8)).toNat):Int)==40) (.need (ak Tryz.prog (210:FuncId) [.c (.loc 0 0),SX.s (aG s (Rd.pos r))] (zMe2 s r) (.tup []) (rd2 s x3)) (.ret (.tup []) [.cells [.pd (.str s),.i (Rd.pos x3),.own 2,.i (Rd.bad x3)] 169,.dead,.own 92 .cell (Rd.out x3)])) (.ite (aO (aG s (Rd.pos r))) (.need (room x7 32) (.ret (.tup []) [.cells [.pd (.str s),.i x8,.own 2,.i (Rd.bad r)] 169,.dead,.own 92 .cell (Rd.out r++[{ op:=(5:Int),a:=(0:Int),name:=aG s (Rd.pos r) }])])) (.ret (.tup []) (zMe1 s r))))))))))) ?_
   conv=>zeta
   rw [cI (n:=r.pos+af (aG s r.pos)) (by omega) (by omega)]
   refine ⟨⟨hlow,hlt⟩,fun h=>⟨⟨hs,hr,hlow,hlt,h⟩,RdQ.two ?_⟩,fun hd=>⟨fun h=>?_,fun _=>⟨⟨hs,hlow,hok.high⟩,fun h=>⟨hr,RdQ.two ?_⟩,fun n1=>⟨fun h=>⟨hr,RdQ.two ?_⟩,fun n2=>⟨fun h=>?_,fun h=>?_,fun n3=>⟨fun h=>⟨hr,RdQ.two ?_⟩,fun h=>RdQ.one ?_⟩⟩⟩⟩⟩⟩
   · have h':isD (s.getD r.pos.toNat 0)=true:=h
     have e:eQ s r=cC s r:=by unfold eQ; rw [if_pos h']
     rw [e]; rfl
   · exact absurd (show bU s r.pos=40 from eq_of_beq h) (g1 hd)
   · have h':aG s r.pos=fm:=eq_of_beq h
     have hd':¬isD (s.getD r.pos.toNat 0)=true:=by have:isD (s.getD r.pos.toNat 0)=false:=hd; rw [this]; simp
     have e:eQ s r=(r.emit ⟨3,0,[]⟩).to (r.pos+af (aG s r.pos)):=by unfold eQ; rw [if_neg hd',if_pos h',h']; rfl
     rw [e]; rfl
   · have h':aG s r.pos=fS:=eq_of_beq h
     have hd':¬isD (s.getD r.pos.toNat 0)=true:=by have:isD (s.getD r.pos.toNat 0)=false:=hd; rw [this]; simp
     have e:eQ s r=(r.emit ⟨4,0,[]⟩).to (r.pos+af (aG s r.pos)):=by
      unfold eQ
      have n1':¬aG s r.pos=fm:=ne_of_beq_false n1
      rw [if_neg hd',if_neg n1',if_pos h',h']; rfl
     rw [e]; rfl
   · simp only [ab,decide_eq_true_eq] at h
     exact ⟨by omega,h.2⟩
   · exfalso
     have h2:(decide (r.pos+af (aG s r.pos)<af s)&&((s.getD (r.pos+af (aG s r.pos)).toNat 0).toNat:Int)==40)=true:=by
      simp only [ab] at h ⊢
      exact ⟨h.1.2,h.2⟩
     have hcb:gH s r.pos=true:=h2
     simp only [ab,aF,beq_iff_eq] at h
     rcases h.1.1 with (h1 | h1) | h1
     · exact hin ⟨h1,hcb,hd⟩
     · exact (g2 hd).1 ⟨h1,hcb⟩
     · exact (g2 hd).2 ⟨h1,hcb⟩
   · have hd':¬isD (s.getD r.pos.toNat 0)=true:=by have:isD (s.getD r.pos.toNat 0)=false:=hd; rw [this]; simp
     have e:eQ s r=(r.emit ⟨5,0,aG s r.pos⟩).to (r.pos+af (aG s r.pos)):=by
      unfold eQ
      have n1':¬aG s r.pos=fm:=ne_of_beq_false n1
      have n2':¬aG s r.pos=fS:=ne_of_beq_false n2
      rw [if_neg hd',if_neg n1',if_neg n2',if_neg (fun g=>hin ⟨g.1,g.2,hd⟩),if_pos h]
     rw [e]; rfl
   · have hd':¬isD (s.getD r.pos.toNat 0)=true:=by have:isD (s.getD r.pos.toNat 0)=false:=hd; rw [this]; simp
     have e:eQ s r=r.wrong r.pos:=by
      unfold eQ
      have n1':¬aG s r.pos=fm:=ne_of_beq_false n1
      have n2':¬aG s r.pos=fS:=ne_of_beq_false n2
      rw [if_neg hd',if_neg n1',if_neg n2',if_neg (fun g=>hin ⟨g.1,g.2,hd⟩),if_neg (by rw [h]; simp)]
     rw [e]; rfl
end Go.Proofs.YtpfidgnkokidoaaGreatDoor
namespace Go.Proofs.YtpfidgnkokidoaaGreatDoor
open Go Go.Ev
set_option maxRecDepth 100000
variable (s:Str) (pos:Int) (out:List Cell) (wt:List Wait)
abbrev mkA:List Chunk:=[Chunk.cells [SC.pd (PD.str s),SC.i pos,SC.own 1,SC.own 2] 209,Chunk.own 92 ETy.cell out,Chunk.own 238 ETy.wait wt]
abbrev mkB:List Chunk:=[Chunk.cells [SC.pd (PD.str s),SC.i (pos),SC.own 3,SC.own 4] 209,Chunk.dead,Chunk.dead,Chunk.own 92 ETy.cell (out),Chunk.own 238 ETy.wait (wt)]
def Ol:Nat→Nat
 | 1=>3
 | 2=>4
 | n=>n
def Od:Nat→Nat
 | 3=>1
 | 4=>2
 | n=>n
theorem rnA:RnW Ol Od 3 (mkA s pos out wt) (mkB s pos out wt):=by
 refine ⟨fun j x' h=>?_,fun j hj=>?_⟩
 · match j,h with
   | 0,h=>right; exact ⟨_,rfl,(au h).symm,rfl,by simp [Chunk.refs,SC.refs,Ol,Od]⟩
   | 1,h=>left; simpa using h.symm
   | 2,h=>left; simpa using h.symm
   | 3,h=>right; exact ⟨_,rfl,(au h).symm,rfl,by simp [Chunk.refs]⟩
   | 4,h=>right; exact ⟨_,rfl,(au h).symm,rfl,by simp [Chunk.refs]⟩
   | j+5,h=>simp at h
 · match j,hj with
   | 0,_=>rfl
   | 1,_=>rfl
   | 2,_=>rfl
def McQ (ret:SV) (pos:Int) (out:List Cell) (wt:List Wait):Out:=fun v c=>v=ret∧Rn 3 c (mkB s pos out wt)
theorem McQ.a {s:Str} {ret:SV} {pos:Int} {out:List Cell} {wt:List Wait} {c:List Chunk} (h:c=mkA s pos out wt):McQ s ret pos out wt ret c:=⟨rfl,by rw [h]; exact ⟨_,_,rnA s pos out wt⟩⟩
theorem McQ.b {s:Str} {ret:SV} {pos:Int} {out:List Cell} {wt:List Wait} {c:List Chunk} (h:c=mkB s pos out wt):McQ s ret pos out wt ret c:=⟨rfl,by rw [h]; exact Rn.refl 3 _⟩
/-! ### signs -/
/-! ### what waits -/
end Go.Proofs.YtpfidgnkokidoaaGreatDoor
namespace Go.Proofs.YtpfidgnkokidoaaGreatDoor
open Go Go.Ev
set_option maxRecDepth 100000
/-! ### plain -/
theorem nL:∀ (l:List UInt8) (a:Nat) (c:UInt8),cT a (l++[c])=10 * cT a l+(c.toNat - 48)
 | [],a,c=>rfl
 | d::r,a,c=>nL r (10 * a+(d.toNat - 48)) c
theorem xo {r:Nat} (h:r<10):(UInt8.ofNat (48+r)).toNat=48+r:=by
 simp only [UInt8.toNat_ofNat']; omega
theorem fZ (u:Nat):(Lib.decDigits u).all isD=true∧Lib.decDigits u≠[]∧cT 0 (Lib.decDigits u)=u∧(1≤u→((Lib.decDigits u).getD 0 0).toNat≠48)∧(u<10→(Lib.decDigits u).length=1):=by
 induction u using Nat.strongRecOn with
 | _ u ih =>
   by_cases h:u<10
   · have e:Lib.decDigits u=[UInt8.ofNat (48+u)]:=Lib.decDigits_one h
     have ed:=xo h
     rw [e]
     refine ⟨?_,by simp,?_,fun h1=>?_,fun _=>rfl⟩
     · simp only [aE,List.all_nil,c8,isD,ed,ab,decide_eq_true_eq]; omega
     · show 10 * 0+((UInt8.ofNat (48+u)).toNat - 48)=u
       rw [ed]; omega
     · show (UInt8.ofNat (48+u)).toNat≠48
       rw [ed]; omega
   · have e:Lib.decDigits u=Lib.decDigits (u / 10)++[UInt8.ofNat (48+u % 10)]:=by rw [Lib.decDigits,dif_neg h]
     have hm:u % 10<10:=Nat.mod_lt _ (by omega)
     have ed:=xo hm
     obtain ⟨i1,i2,i3,i4,_⟩:=ih (u / 10) (by omega)
     rw [e]
     refine ⟨?_,by simp,?_,fun _=>?_,fun h2=>absurd h2 h⟩
     · rw [aQ,i1]
       simp only [aE,List.all_nil,c8,bT,isD,ed,ab,decide_eq_true_eq]; omega
     · rw [nL,i3,ed]; omega
     · have:=i4 (by omega)
       cases hd:Lib.decDigits (u / 10) with
       | nil=>exact absurd hd i2
       | cons c r=>rw [hd] at this; exact this
theorem j8:∀ (k u:Nat),u<10 ^ k→(Lib.decDigits u).length≤k+1
 | 0,u,h=>by
   have:u<10:=by simp at h; omega
   rw [Lib.decDigits_one this]; simp
 | k + 1,u,h=>by
   by_cases h':u<10
   · rw [Lib.decDigits_one h']; simp
   · rw [Lib.decDigits,dif_neg h',ag]
     have:=j8 k (u / 10) (by rw [Nat.pow_succ] at h; omega)
     simp only [ah,aj]; omega
theorem jY (n:Int) (h0 : -9223372036854775808≤n) (h1:n≤9223372036854775807):(Lib.itoa n).length≤22:=by
 unfold Lib.itoa
 split
 · have:=j8 20 n.natAbs (by omega)
   simp only [ah]; omega
 · have:=j8 20 n.toNat (by omega); omega
theorem o3 (n:Int):bb (Lib.itoa n)=if n < -1099511627776∨1099511627776<n then (0,5) else (n,0):=by
 by_cases hn:n<0
 · have e:Lib.itoa n=45::Lib.decDigits n.natAbs:=by unfold Lib.itoa; rw [if_pos hn]
   obtain ⟨i1,i2,i3,i4,_⟩:=fZ n.natAbs
   rw [e,bb,fQ,(jb _).1,(jb _).2,i1,i3]
   have h4:=i4 (by omega)
   have hb:(Lib.decDigits n.natAbs==[] || !true||(((Lib.decDigits n.natAbs).getD 0 0).toNat:Int)==48&&(decide (af (Lib.decDigits n.natAbs)>1)||true))=false:=by
    have h5:((((Lib.decDigits n.natAbs).getD 0 0).toNat:Int)==48)=false:=by rw [beq_eq_false_iff_ne]; omega
    rw [h5]; simp [i2]
   rw [hb,if_neg (by simp)]
   by_cases hr:n < -1099511627776
   · rw [if_pos (by omega),if_pos (.inl hr)]
   · rw [if_neg (by omega),if_pos rfl,if_neg (by omega)]
     congr 1; omega
 · have e:Lib.itoa n=Lib.decDigits n.toNat:=by unfold Lib.itoa; rw [if_neg hn]
   obtain ⟨i1,i2,i3,i4,i5⟩:=fZ n.toNat
   cases hd:Lib.decDigits n.toNat with
   | nil=>exact absurd hd i2
   | cons c r =>
     have hc:c≠45:=by
      rw [hd] at i1
      simp only [aE,ab,isD,decide_eq_true_eq] at i1
      intro hc; subst hc; simp at i1
     rw [e,hd,bb,fQ,(jk r hc).1,(jk r hc).2,← hd,i1,i3]
     have hb:(Lib.decDigits n.toNat==[] || !true||(((Lib.decDigits n.toNat).getD 0 0).toNat:Int)==48&&(decide (af (Lib.decDigits n.toNat)>1)||false))=false:=by
      by_cases h1:1≤n.toNat
      · have h5:((((Lib.decDigits n.toNat).getD 0 0).toNat:Int)==48)=false:=by have:=i4 h1; rw [beq_eq_false_iff_ne]; omega
        rw [h5]; simp [i2]
      · have h5:decide (af (Lib.decDigits n.toNat)>1)=false:=by
         have:=i5 (by omega)
         refine decide_eq_false ?_
         show ¬((Lib.decDigits n.toNat).length:Int)>1
         omega
        rw [h5]; simp [i2]
     rw [hb,if_neg (by simp)]
     by_cases hr:1099511627776<n
     · rw [if_pos (by omega),if_pos (.inr hr)]
     · rw [if_neg (by omega),if_neg (by simp),if_neg (by omega)]
       congr 1; omega
/-! ### the walk -/
end Go.Proofs.YtpfidgnkokidoaaGreatDoor

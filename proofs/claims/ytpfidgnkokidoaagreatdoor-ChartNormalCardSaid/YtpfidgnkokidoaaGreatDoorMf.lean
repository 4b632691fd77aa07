/- The contract of the program's expr.Parse. Conditions: none. -/
import Derived.Test.YtpfidgnkokidoaaGreatDoorNd
namespace Go.Proofs.YtpfidgnkokidoaaGreatDoor
open Go Go.Ev
set_option maxRecDepth 100000
variable {s:Str}
theorem JH {k:Int} (h:cw s k = .fin):k=af s:=by
 unfold cw at h
 split at h
 · assumption
 · repeat' (split at h)
   all_goals cases h
theorem JT {k op:Int} (h:cw s k = .pre op):bU s k=45∧op=7∨bU s k≠45∧bU s k=33∧op=8:=by
 unfold cw at h
 split at h; cases h
 split at h
 · rename_i h1; cases h; exact .inl ⟨h1,rfl⟩
 · rename_i h1
   split at h
   · rename_i h2; cases h; exact .inr ⟨h1,h2,rfl⟩
   · repeat' (split at h)
     all_goals cases h
theorem G4 {k:Int} (h:∀ op,cw s k≠.pre op) (h2:cw s k≠.fin):bU s k≠45∧bU s k≠33:=by
 refine ⟨fun e=>?_,fun e=>?_⟩
 · apply h 7
   unfold cw
   rw [if_neg (fun he=>h2 (by unfold cw; rw [if_pos he])),if_pos e]
 · apply h 8
   unfold cw
   rw [if_neg (fun he=>h2 (by unfold cw; rw [if_pos he])),if_neg (by rw [e]; decide),if_pos e]
abbrev zMf1 (a:Str) (b:Rd):List Chunk:=[.cells [.pd (.str a),.i (Rd.pos b),.own 1,.i (Rd.bad b)] (169:TypeId),.own (92:TypeId) .cell (Rd.out b)]
abbrev zMf2 (a:Str) (b:Rd):List Chunk:=[.cells [.pd (.str a),.i (Rd.pos b),.own 1,.i (if Rd.bad b<(0:Int) then Rd.pos b else Rd.bad b)] 169,.own 92 .cell (Rd.out b)]
theorem KF {r:Rd} (hok:Ok s r) (hh:cw s r.pos = .fin):wz s r (r.wrong r.pos):=by
 have e:=JH hh
 let U:Rd→Rd:=fun _=>r
 let A:Rd→Rd:=fun _=>r
 refine ak.rd Tryz.func159 (by kernel_rfl) (by kernel_rfl) rfl fun Γ=>?_
 refine jg (cfg:=(yH U A)) sU Tryz.func159 (let x1:=(U { pos:=IntKind.wrap .i64 (Rd.pos r+(1:Int)),out:=Rd.out r,bad:=Rd.bad r }); let x2:=(ak Tryz.prog (159:FuncId) [.c (.loc 0 0)] [.cells [.pd (.str s),.i (IntKind.wrap .i64 (Rd.pos r+(1:Int))),.own 1,.i (Rd.bad r)] (169:TypeId),.own (92:TypeId) .cell (Rd.out r)] (.tup []) (rd2 s x1)); let x3:=(A { pos:=Rd.pos r,out:=Rd.out r,bad:=Rd.bad r }); let x4:=(↑((List.getD s ((Rd.pos r).toNat) (0:UInt8)).toNat):Int); let x5:=(room (List.length (Rd.out x1)+1) 32); .ite (decide (Rd.bad r≥(0:Int))||Rd.pos r==af s) (.ret (.tup []) (zMf2 s r)) (.need ((0:Int)≤Rd.pos r∧Rd.pos r<af s) (.ite (x4==45) (.need x2 (.need x5 (.ret (.tup []) [.cells [.pd (.str s),.i (Rd.pos x1),.own 2,.i (Rd.bad x1)] 169,.dead,.own 92 .cell (Rd.out x1++[{ op:=(7:Int),a:=(0:Int),name:=[] }])]))) (.ite (x4==33) (.need x2 (.need x5 (.ret (.tup []) [.cells [.pd (.str s),.i (Rd.pos x1),.own 2,.i (Rd.bad x1)] 169,.dead,.own 92 .cell (Rd.out x1++[{ op:=(8:Int),a:=(0:Int),name:=[] }])]))) (.need (ak Tryz.prog (187:FuncId) [.c (.loc 0 0)] (zMf1 s r) (.tup []) (rd2 s x3)) (.ret (.tup []) [.cells [.pd (.str s),.i (Rd.pos x3),.own 2,.i (Rd.bad x3)] 169,.dead,.own 92 .cell (Rd.out x3)])))))) ?_
 conv=>zeta
 refine ⟨fun _=>RdQ.one rfl,fun h=>?_⟩
 simp only [aI] at h
 exact absurd e (ne_of_beq_false h.2)
theorem Kd {r q:Rd} {op:Int} (hok:Ok s r) (hsl:gA s r) (hh:cw s r.pos = .pre op) (hq:wz s (r.to (r.pos+1)) q) (hl:Left s (r.to (r.pos+1)) q):wz s r (q.emit ⟨op,0,[]⟩):=by
 have hlt:=hok.lt (fun x e=>by rw [hh] at e; subst e; simp)
 have hlow:=hok.low
 have hb:=hok.bad
 have hL:af s=(s.length:Int):=rfl
 have hs:=hsl.2
 obtain ⟨k1,k2,k3,k4,k5⟩:=(hsl.to (k:=r.pos+1) (by omega)).out hl
 have hp:=JT hh
 let U:Rd→Rd:=fun _=>q
 let A:Rd→Rd:=fun _=>q
 refine ak.rd Tryz.func159 (by kernel_rfl) (by kernel_rfl) rfl fun Γ=>?_
 refine jg (cfg:=(yH U A)) sU Tryz.func159 (let x1:=(U { pos:=IntKind.wrap .i64 (Rd.pos r+(1:Int)),out:=Rd.out r,bad:=Rd.bad r }); let x2:=(ak Tryz.prog (159:FuncId) [.c (.loc 0 0)] [.cells [.pd (.str s),.i (IntKind.wrap .i64 (Rd.pos r+(1:Int))),.own 1,.i (Rd.bad r)] (169:TypeId),.own (92:TypeId) .cell (Rd.out r)] (.tup []) (rd2 s x1)); let x3:=(A { pos:=Rd.pos r,out:=Rd.out r,bad:=Rd.bad r }); let x4:=(↑((List.getD s ((Rd.pos r).toNat) (0:UInt8)).toNat):Int); let x5:=(room (List.length (Rd.out x1)+1) 32); .ite (decide (Rd.bad r≥(0:Int))||Rd.pos r==af s) (.ret (.tup []) (zMf2 s r)) (.need ((0:Int)≤Rd.pos r∧Rd.pos r<af s) (.ite (x4==45) (.need x2 (.need x5 (.ret (.tup []) [.cells [.pd (.str s),.i (Rd.pos x1),.own 2,.i (Rd.bad x1)] 169,.dead,.own 92 .cell (Rd.out x1++[{ op:=(7:Int),a:=(0:Int),name:=[] }])]))) (.ite (x4==33) (.need x2 (.need x5 (.ret (.tup []) [.cells [.pd (.str s),.i (Rd.pos x1),.own 2,.i (Rd.bad x1)] 169,.dead,.own 92 .cell (Rd.out x1++[{ op:=(8:Int),a:=(0:Int),name:=[] }])]))) (.need (ak Tryz.prog (187:FuncId) [.c (.loc 0 0)] (zMf1 s r) (.tup []) (rd2 s x3)) (.ret (.tup []) [.cells [.pd (.str s),.i (Rd.pos x3),.own 2,.i (Rd.bad x3)] 169,.dead,.own 92 .cell (Rd.out x3)])))))) ?_
 conv=>zeta
 rw [cI (n:=r.pos+1) (by omega) (by omega)]
 refine ⟨fun h=>?_,fun _=>⟨⟨hlow,hlt⟩,fun h=>⟨hq,iD (by show q.out.length+1≤_; omega),RdQ.two ?_⟩,fun n=>⟨fun h=>⟨hq,iD (by show q.out.length+1≤_; omega),RdQ.two ?_⟩,fun h=>?_⟩⟩⟩
 · simp only [aF,decide_eq_true_eq,beq_iff_eq] at h
   omega
 · have h':bU s r.pos=45:=eq_of_beq h
   have e:op=7:=by rcases hp with ⟨_,e⟩ | ⟨e,_⟩; exact e; exact absurd h' e
   subst e; rfl
 · have h':bU s r.pos=33:=eq_of_beq h
   have e:op=8:=by rcases hp with ⟨e,_⟩ | ⟨_,_,e⟩; (rw [e] at h'; exact absurd h' (by decide)); exact e
   subst e; rfl
 · exfalso
   have n':bU s r.pos≠45:=ne_of_beq_false n
   have h':bU s r.pos≠33:=ne_of_beq_false h
   rcases hp with ⟨e,_⟩ | ⟨_,e,_⟩
   · exact n' e
   · exact h' e
theorem ta {r o:Rd} (hok:Ok s r) (hsl:gA s r) (h1:∀ op,cw s r.pos≠.pre op) (h2:cw s r.pos≠.fin) (hq:yr s r o):wz s r o:=by
 have hlt:=hok.lt (fun x e=>by subst e; exact h2)
 have hlow:=hok.low
 have hb:=hok.bad
 obtain ⟨p1,p2⟩:=G4 h1 h2
 let U:Rd→Rd:=fun _=>o
 let A:Rd→Rd:=fun _=>o
 refine ak.rd Tryz.func159 (by kernel_rfl) (by kernel_rfl) rfl fun Γ=>?_
 refine jg (cfg:=(yH U A)) sU Tryz.func159 (let x1:=(U { pos:=IntKind.wrap .i64 (Rd.pos r+(1:Int)),out:=Rd.out r,bad:=Rd.bad r }); let x2:=(ak Tryz.prog (159:FuncId) [.c (.loc 0 0)] [.cells [.pd (.str s),.i (IntKind.wrap .i64 (Rd.pos r+(1:Int))),.own 1,.i (Rd.bad r)] (169:TypeId),.own (92:TypeId) .cell (Rd.out r)] (.tup []) (rd2 s x1)); let x3:=(A { pos:=Rd.pos r,out:=Rd.out r,bad:=Rd.bad r }); let x4:=(↑((List.getD s ((Rd.pos r).toNat) (0:UInt8)).toNat):Int); let x5:=(room (List.length (Rd.out x1)+1) 32); .ite (decide (Rd.bad r≥(0:Int))||Rd.pos r==af s) (.ret (.tup []) (zMf2 s r)) (.need ((0:Int)≤Rd.pos r∧Rd.pos r<af s) (.ite (x4==45) (.need x2 (.need x5 (.ret (.tup []) [.cells [.pd (.str s),.i (Rd.pos x1),.own 2,.i (Rd.bad x1)] 169,.dead,.own 92 .cell (Rd.out x1++[{ op:=(7:Int),a:=(0:Int),name:=[] }])]))) (.ite (x4==33) (.need x2 (.need x5 (.ret (.tup []) [.cells [.pd (.str s),.i (Rd.pos x1),.own 2,.i (Rd.bad x1)] 169,.dead,.own 92 .cell (Rd.out x1++[{ op:=(8:Int),a:=(0:Int),name:=[] }])]))) (.need (ak Tryz.prog (187:FuncId) [.c (.loc 0 0)] (zMf1 s r) (.tup []) (rd2 s x3)) (.ret (.tup []) [.cells [.pd (.str s),.i (Rd.pos x3),.own 2,.i (Rd.bad x3)] 169,.dead,.own 92 .cell (Rd.out x3)])))))) ?_
 conv=>zeta
 refine ⟨fun h=>?_,fun _=>⟨⟨hlow,hlt⟩,fun h=>absurd (show bU s r.pos=45 from eq_of_beq h) p1,fun _=>⟨fun h=>absurd (show bU s r.pos=33 from eq_of_beq h) p2,fun _=>⟨hq,RdQ.two rfl⟩⟩⟩⟩
 simp only [aF,decide_eq_true_eq,beq_iff_eq] at h
 omega
theorem Bl {p:Int} {r:Rd} (h:¬atEnd s p r):r.bad<0∧(bp (s.drop r.pos.toNat) p).1≠0:=Classical.not_not.1 h
/-! ### the loop -/
def yw (s:Str) (r:Rd) (p:Int) (B:Int→Rd→Rd):Tree:=(.ite (decide (Rd.bad r<(0:Int))) (.need ((0:Int)≤Rd.pos r∧Rd.pos r≤af s) (.ite (Prod.fst (bp (List.drop (Int.toNat (Rd.pos r)) s) p)==(0:Int)) (.ret (.tup []) [.cells [.pd (.str s),.i (Rd.pos r),.own 2,.i (Rd.bad r)] 169,.dead,.own 92 .cell (Rd.out r)]) (.need (ak Tryz.prog (120:FuncId) [.c (.loc 0 0),SX.i (IntKind.wrap .i64 (p+(1:Int)))] [.cells [.pd (.str s),.i (IntKind.wrap .i64 (Rd.pos r+Prod.snd (bp (List.drop (Int.toNat (Rd.pos r)) s) p))),.own 1,.i (Rd.bad r)] (169:TypeId),.own (92:TypeId) .cell (Rd.out r)] (.tup []) (rd2 s (B (IntKind.wrap .i64 (p+(1:Int))) { pos:=IntKind.wrap .i64 (Rd.pos r+Prod.snd (bp (List.drop (Int.toNat (Rd.pos r)) s) p)),out:=Rd.out r,bad:=Rd.bad r }))) (.need (room (List.length (Rd.out (B (IntKind.wrap .i64 (p+(1:Int))) { pos:=IntKind.wrap .i64 (Rd.pos r+Prod.snd (bp (List.drop (Int.toNat (Rd.pos r)) s) p)),out:=Rd.out r,bad:=Rd.bad r }))+1) 32) (.ite (p != (3:Int)) (.stop [.code [0,2],.inScope [0]] { n:=45,fr:=[(0,.x (.c (.loc 0 0))),(1,.i p)],ck:=[.cells [.pd (.str s),.i (Rd.pos (B (IntKind.wrap .i64 (p+(1:Int))) { pos:=IntKind.wrap .i64 (Rd.pos r+Prod.snd (bp (List.drop (Int.toNat (Rd.pos r)) s) p)),out:=Rd.out r,bad:=Rd.bad r })),.own 2,.i (Rd.bad (B (IntKind.wrap .i64 (p+(1:Int))) { pos:=IntKind.wrap .i64 (Rd.pos r+Prod.snd (bp (List.drop (Int.toNat (Rd.pos r)) s) p)),out:=Rd.out r,bad:=Rd.bad r }))] 169,.dead,.own 92 .cell (Rd.out (B (IntKind.wrap .i64 (p+(1:Int))) { pos:=IntKind.wrap .i64 (Rd.pos r+Prod.snd (bp (List.drop (Int.toNat (Rd.pos r)) s) p)),out:=Rd.out r,bad:=Rd.bad r })++[{ op:=Prod.fst (bp (List.drop (Int.toNat (Rd.pos r)) s) p),a:=(0:Int),name:=[] }])],m:=2 }) (.ret (.tup []) [.cells [.pd (.str s),.i (Rd.pos (B (IntKind.wrap .i64 (p+(1:Int))) { pos:=IntKind.wrap .i64 (Rd.pos r+Prod.snd (bp (List.drop (Int.toNat (Rd.pos r)) s) p)),out:=Rd.out r,bad:=Rd.bad r })),.own 2,.i (Rd.bad (B (IntKind.wrap .i64 (p+(1:Int))) { pos:=IntKind.wrap .i64 (Rd.pos r+Prod.snd (bp (List.drop (Int.toNat (Rd.pos r)) s) p)),out:=Rd.out r,bad:=Rd.bad r }))] 169,.dead,.own 92 .cell (Rd.out (B (IntKind.wrap .i64 (p+(1:Int))) { pos:=IntKind.wrap .i64 (Rd.pos r+Prod.snd (bp (List.drop (Int.toNat (Rd.pos r)) s) p)),out:=Rd.out r,bad:=Rd.bad r })++[{ op:=Prod.fst (bp (List.drop (Int.toNat (Rd.pos r)) s) p),a:=(0:Int),name:=[] }])])))))) (.ite true (.ret (.tup []) [.cells [.pd (.str s),.i (Rd.pos r),.own 2,.i (Rd.bad r)] 169,.dead,.own 92 .cell (Rd.out r)]) (.need (ak Tryz.prog (120:FuncId) [.c (.loc 0 0),SX.i (IntKind.wrap .i64 (p+(1:Int)))] [.cells [.pd (.str s),.i (IntKind.wrap .i64 (Rd.pos r+(0:Int))),.own 1,.i (Rd.bad r)] (169:TypeId),.own (92:TypeId) .cell (Rd.out r)] (.tup []) (rd2 s (B (IntKind.wrap .i64 (p+(1:Int))) { pos:=IntKind.wrap .i64 (Rd.pos r+(0:Int)),out:=Rd.out r,bad:=Rd.bad r }))) (.need (room (List.length (Rd.out (B (IntKind.wrap .i64 (p+(1:Int))) { pos:=IntKind.wrap .i64 (Rd.pos r+(0:Int)),out:=Rd.out r,bad:=Rd.bad r }))+1) 32) (.ite (p != (3:Int)) (.stop [.code [0,2],.inScope [0]] { n:=45,fr:=[(0,.x (.c (.loc 0 0))),(1,.i p)],ck:=[.cells [.pd (.str s),.i (Rd.pos (B (IntKind.wrap .i64 (p+(1:Int))) { pos:=IntKind.wrap .i64 (Rd.pos r+(0:Int)),out:=Rd.out r,bad:=Rd.bad r })),.own 2,.i (Rd.bad (B (IntKind.wrap .i64 (p+(1:Int))) { pos:=IntKind.wrap .i64 (Rd.pos r+(0:Int)),out:=Rd.out r,bad:=Rd.bad r }))] 169,.dead,.own 92 .cell (Rd.out (B (IntKind.wrap .i64 (p+(1:Int))) { pos:=IntKind.wrap .i64 (Rd.pos r+(0:Int)),out:=Rd.out r,bad:=Rd.bad r })++[{ op:=(0:Int),a:=(0:Int),name:=[] }])],m:=2 }) (.ret (.tup []) [.cells [.pd (.str s),.i (Rd.pos (B (IntKind.wrap .i64 (p+(1:Int))) { pos:=IntKind.wrap .i64 (Rd.pos r+(0:Int)),out:=Rd.out r,bad:=Rd.bad r })),.own 2,.i (Rd.bad (B (IntKind.wrap .i64 (p+(1:Int))) { pos:=IntKind.wrap .i64 (Rd.pos r+(0:Int)),out:=Rd.out r,bad:=Rd.bad r }))] 169,.dead,.own 92 .cell (Rd.out (B (IntKind.wrap .i64 (p+(1:Int))) { pos:=IntKind.wrap .i64 (Rd.pos r+(0:Int)),out:=Rd.out r,bad:=Rd.bad r })++[{ op:=(0:Int),a:=(0:Int),name:=[] }])]))))))
def La (s:Str) (p:Int) (r o:Rd):Prop:=∀ Γ,J Tryz.prog 120 (aH Tryz.f120) Γ (RdQ s o) [.code [0,2],.inScope [0]] ({ n:=45,fr:=[(0,.x (.c (.loc 0 0))),(1,.i p)],ck:=[.cells [.pd (.str s),SC.i r.pos,.own 2,SC.i r.bad] 169,.dead,.own 92 .cell r.out],m:=2 })
def mr (s:Str) (p:Int) (B:Int→Rd→Rd) (r o:Rd):Prop:=∀ Γ,(yw s r p B).J Tryz.prog 120 (aH Tryz.f120) Γ (RdQ s o)
theorem mr.go {p:Int} {B:Int→Rd→Rd} {r o:Rd} (h:mr s p B r o):La s p r o:=fun Γ=>jg (cfg:=yB B (fun x=>x)) tJ Tryz.func120 (yw s r p B) (h Γ)
theorem Gy {p:Int} {B:Int→Rd→Rd} {r:Rd} (hr:r.bad<0→0≤r.pos∧r.pos≤af s) (he:atEnd s p r):mr s p B r r:=by
 intro Γ
 refine ⟨fun hb=>⟨hr (of_decide_eq_true hb),fun _=>RdQ.two rfl,fun h=>?_⟩,fun _=>⟨fun _=>RdQ.two rfl,fun h=>Bool.noConfusion h⟩⟩
 exact absurd ⟨of_decide_eq_true hb,ne_of_beq_false h⟩ he
theorem GS {p:Int} {B:Int→Rd→Rd} {r q o:Rd} (h1:1≤p) (h5:p≤5) (h3:p≠3) (hok:Ok s r) (hsl:gA s r) (hn:¬atEnd s p r)
 (hB:B (p+1) ⟨r.pos+(bp (s.drop r.pos.toNat) p).2,r.out,r.bad⟩=q) (hq:o9 s (p+1) (r.to (r.pos+(bp (s.drop r.pos.toNat) p).2)) q) (hl:Left s (r.to (r.pos+(bp (s.drop r.pos.toNat) p).2)) q)
 (hj:La s p (q.emit ⟨(bp (s.drop r.pos.toNat) p).1,0,[]⟩) o):mr s p B r o:=by
 intro Γ
 have hlow:=hok.low
 have hL:af s=(s.length:Int):=rfl
 have hs:=hsl.2
 have hb:=hok.bad
 obtain ⟨f1,f2,f3,f4,f5,f6,f7⟩:=gD h1 h5 hok.low hok.high hn
 obtain ⟨k1,_⟩:=(hsl.to (k:=r.pos+(bp (s.drop r.pos.toNat) p).2) (by omega)).out hl
 unfold yw
 rw [cI (n:=r.pos+(bp (s.drop r.pos.toNat) p).2) (by omega) (by omega),cI (n:=p+1) (by omega) (by omega),hB]
 refine ⟨fun _=>⟨⟨hlow,hok.high⟩,fun h=>?_,fun _=>⟨hq,iD (by omega),fun _=>hj Γ,fun h=>?_⟩⟩,fun h=>?_⟩
 · have:=eq_of_beq h; omega
 · simp only [bne_eq_false_iff_eq] at h; exact absurd h h3
 · have:=of_decide_eq_false h; omega
theorem Hx {B:Int→Rd→Rd} {r q:Rd} (hok:Ok s r) (hsl:gA s r) (hn:¬atEnd s 3 r)
 (hB:B 4 ⟨r.pos+(bp (s.drop r.pos.toNat) 3).2,r.out,r.bad⟩=q) (hq:o9 s 4 (r.to (r.pos+(bp (s.drop r.pos.toNat) 3).2)) q) (hl:Left s (r.to (r.pos+(bp (s.drop r.pos.toNat) 3).2)) q):mr s 3 B r (q.emit ⟨(bp (s.drop r.pos.toNat) 3).1,0,[]⟩):=by
 intro Γ
 have hlow:=hok.low
 have hL:af s=(s.length:Int):=rfl
 have hs:=hsl.2
 have hb:=hok.bad
 obtain ⟨f1,f2,f3,f4,f5,f6,f7⟩:=gD (by omega) (by omega) hok.low hok.high hn
 obtain ⟨k1,_⟩:=(hsl.to (k:=r.pos+(bp (s.drop r.pos.toNat) 3).2) (by omega)).out hl
 unfold yw
 rw [cI (n:=r.pos+(bp (s.drop r.pos.toNat) 3).2) (by omega) (by omega),cI (n:=3+1) (by omega) (by omega),show (3:Int)+1=4 from rfl,hB]
 refine ⟨fun _=>⟨⟨hlow,hok.high⟩,fun h=>?_,fun _=>⟨hq,iD (by omega),fun h=>absurd h (by decide),fun h=>RdQ.two rfl⟩⟩,fun h=>?_⟩
 · have:=eq_of_beq h; omega
 · have:=of_decide_eq_false h; omega
theorem M3 {p:Int} {r o:Rd} (hp:p=6) (hq:wz s r o):o9 s p r o:=by
 let B:Int→Rd→Rd:=fun _ _=>o
 let U:Rd→Rd:=fun _=>o
 refine ak.rd Tryz.func120 (by kernel_rfl) (by kernel_rfl) rfl fun Γ=>?_
 refine jg (cfg:=(yB B U)) tJ Tryz.func120 (let x6:=(IntKind.wrap .i64 (p+(1:Int))); let x1:=(B x6 { pos:=Rd.pos r,out:=Rd.out r,bad:=Rd.bad r }); let x8:=(bp (List.drop (Int.toNat (Rd.pos x1)) s) p); let x2:=(B x6 { pos:=IntKind.wrap .i64 (Rd.pos x1+Prod.snd x8),out:=Rd.out x1,bad:=Rd.bad x1 }); let x3:=(B x6 { pos:=IntKind.wrap .i64 (Rd.pos x1+(0:Int)),out:=Rd.out x1,bad:=Rd.bad x1 }); let x4:List Chunk:=[.cells [.pd (.str s),.i (Rd.pos x2),.own 2,.i (Rd.bad x2)] 169,.dead,.own 92 .cell (Rd.out x2++[{ op:=Prod.fst x8,a:=(0:Int),name:=[] }])]; let x5:=(U { pos:=Rd.pos r,out:=Rd.out r,bad:=Rd.bad r }); let x7:List Chunk:=[.cells [.pd (.str s),.i (Rd.pos x3),.own 2,.i (Rd.bad x3)] 169,.dead,.own 92 .cell (Rd.out x3++[{ op:=(0:Int),a:=(0:Int),name:=[] }])]; let x9:Tree:=(.ret (.tup []) [.cells [.pd (.str s),.i (Rd.pos x1),.own 2,.i (Rd.bad x1)] 169,.dead,.own 92 .cell (Rd.out x1)]); let x10:List Chunk:=(zMf1 s r); .ite (p==(6:Int)) (.need (ak Tryz.prog (159:FuncId) [.c (.loc 0 0)] x10 (.tup []) (rd2 s x5)) (.ret (.tup []) [.cells [.pd (.str s),.i (Rd.pos x5),.own 2,.i (Rd.bad x5)] 169,.dead,.own 92 .cell (Rd.out x5)])) (.need (ak Tryz.prog (120:FuncId) [.c (.loc 0 0),SX.i x6] x10 (.tup []) (rd2 s x1)) (.ite (decide (Rd.bad x1<(0:Int))) (.need ((0:Int)≤Rd.pos x1∧Rd.pos x1≤af s) (.ite (Prod.fst x8==(0:Int)) x9 (.need (ak Tryz.prog (120:FuncId) [.c (.loc 0 0),SX.i x6] [.cells [.pd (.str s),.i (IntKind.wrap .i64 (Rd.pos x1+Prod.snd x8)),.own 1,.i (Rd.bad x1)] (169:TypeId),.own (92:TypeId) .cell (Rd.out x1)] (.tup []) (rd2 s x2)) (.need (room (List.length (Rd.out x2)+1) 32) (.ite (p != (3:Int)) (.stop [.code [0,2],.inScope [0]] { n:=45,fr:=[(0,.x (.c (.loc 0 0))),(1,.i p)],ck:=x4,m:=2 }) (.ret (.tup []) x4)))))) (.ite true x9 (.need (ak Tryz.prog (120:FuncId) [.c (.loc 0 0),SX.i x6] [.cells [.pd (.str s),.i (IntKind.wrap .i64 (Rd.pos x1+(0:Int))),.own 1,.i (Rd.bad x1)] (169:TypeId),.own (92:TypeId) .cell (Rd.out x1)] (.tup []) (rd2 s x3)) (.need (room (List.length (Rd.out x3)+1) 32) (.ite (p != (3:Int)) (.stop [.code [0,2],.inScope [0]] { n:=45,fr:=[(0,.x (.c (.loc 0 0))),(1,.i p)],ck:=x7,m:=2 }) (.ret (.tup []) x7)))))))) ?_
 conv=>zeta
 exact ⟨fun _=>⟨hq,RdQ.two rfl⟩,fun h=>absurd hp (ne_of_beq_false h)⟩
theorem OA {p:Int} {r q o:Rd} {B:Int→Rd→Rd} (h1:1≤p) (h5:p≤5) (hq:o9 s (p+1) r q) (hB:B (p+1) r=q) (hl:mr s p B q o):o9 s p r o:=by
 let U:Rd→Rd:=fun x=>x
 refine ak.rd Tryz.func120 (by kernel_rfl) (by kernel_rfl) rfl fun Γ=>?_
 refine jg (cfg:=(yB B (fun x=>x))) tJ Tryz.func120 (let x5:=(IntKind.wrap .i64 (p+(1:Int))); let x1:=(B x5 { pos:=Rd.pos r,out:=Rd.out r,bad:=Rd.bad r }); let x7:=(bp (List.drop (Int.toNat (Rd.pos x1)) s) p); let x2:=(B x5 { pos:=IntKind.wrap .i64 (Rd.pos x1+Prod.snd x7),out:=Rd.out x1,bad:=Rd.bad x1 }); let x3:=(B x5 { pos:=IntKind.wrap .i64 (Rd.pos x1+(0:Int)),out:=Rd.out x1,bad:=Rd.bad x1 }); let x4:List Chunk:=[.cells [.pd (.str s),.i (Rd.pos x2),.own 2,.i (Rd.bad x2)] 169,.dead,.own 92 .cell (Rd.out x2++[{ op:=Prod.fst x7,a:=(0:Int),name:=[] }])]; let x6:List Chunk:=[.cells [.pd (.str s),.i (Rd.pos x3),.own 2,.i (Rd.bad x3)] 169,.dead,.own 92 .cell (Rd.out x3++[{ op:=(0:Int),a:=(0:Int),name:=[] }])]; let x8:Tree:=(.ret (.tup []) [.cells [.pd (.str s),.i (Rd.pos x1),.own 2,.i (Rd.bad x1)] 169,.dead,.own 92 .cell (Rd.out x1)]); let x9:List Chunk:=(zMf1 s r); .ite (p==(6:Int)) (.need (ak Tryz.prog (159:FuncId) [.c (.loc 0 0)] x9 (.tup []) (rd2 s { pos:=Rd.pos r,out:=Rd.out r,bad:=Rd.bad r })) (.ret (.tup []) [.cells [.pd (.str s),.i (Rd.pos { pos:=Rd.pos r,out:=Rd.out r,bad:=Rd.bad r }),.own 2,.i (Rd.bad { pos:=Rd.pos r,out:=Rd.out r,bad:=Rd.bad r })] 169,.dead,.own 92 .cell (Rd.out { pos:=Rd.pos r,out:=Rd.out r,bad:=Rd.bad r })])) (.need (ak Tryz.prog (120:FuncId) [.c (.loc 0 0),SX.i x5] x9 (.tup []) (rd2 s x1)) (.ite (decide (Rd.bad x1<(0:Int))) (.need ((0:Int)≤Rd.pos x1∧Rd.pos x1≤af s) (.ite (Prod.fst x7==(0:Int)) x8 (.need (ak Tryz.prog (120:FuncId) [.c (.loc 0 0),SX.i x5] [.cells [.pd (.str s),.i (IntKind.wrap .i64 (Rd.pos x1+Prod.snd x7)),.own 1,.i (Rd.bad x1)] (169:TypeId),.own (92:TypeId) .cell (Rd.out x1)] (.tup []) (rd2 s x2)) (.need (room (List.length (Rd.out x2)+1) 32) (.ite (p != (3:Int)) (.stop [.code [0,2],.inScope [0]] { n:=45,fr:=[(0,.x (.c (.loc 0 0))),(1,.i p)],ck:=x4,m:=2 }) (.ret (.tup []) x4)))))) (.ite true x8 (.need (ak Tryz.prog (120:FuncId) [.c (.loc 0 0),SX.i x5] [.cells [.pd (.str s),.i (IntKind.wrap .i64 (Rd.pos x1+(0:Int))),.own 1,.i (Rd.bad x1)] (169:TypeId),.own (92:TypeId) .cell (Rd.out x1)] (.tup []) (rd2 s x3)) (.need (room (List.length (Rd.out x3)+1) 32) (.ite (p != (3:Int)) (.stop [.code [0,2],.inScope [0]] { n:=45,fr:=[(0,.x (.c (.loc 0 0))),(1,.i p)],ck:=x6,m:=2 }) (.ret (.tup []) x6)))))))) ?_
 conv=>zeta
 refine ⟨fun h=>by have:=eq_of_beq h; omega,fun _=>⟨?_,?_⟩⟩
 · rw [cI (n:=p+1) (by omega) (by omega),hB]; exact hq
 · have h:=hl Γ
   rw [← hB,← cI (n:=p+1) (by omega) (by omega)] at h
   exact h
def CT (s:Str):Task→Rd→Rd→Prop
 | .bin p,r,o=>Ok s r→gA s r→o9 s p r o
 | .loop p,r,o=>(Ok s r∧gA s r)∨0≤r.bad→∀ x y:Rd,(Ok s r→x.pos≤r.pos)→∃ B:Int→Rd→Rd,B (p+1) x=y∧mr s p B r o
 | .una,r,o=>Ok s r→gA s r→wz s r o
theorem Run.does {t:Task} {r o:Rd} (h:Run s t r o):CT s t r o:=by
 induction h with
 | six _ ih=>intro hok hsl; exact M3 rfl (ih hok hsl)
 | @bin p r q o h1 h5 hr hl ih1 ih2 =>
   intro hok hsl
   have hq:=ih1 hok hsl
   have hleft:=hr.inv hok
   have hout:=hsl.out hleft
   obtain ⟨B,hB,hT⟩:=ih2 (by
    rcases hleft with ⟨g1,_⟩ | ⟨_,g2,_⟩
    · exact .inl ⟨g1,hout.2.1 g1⟩
    · exact .inr g2) r q (fun hk=>by
    rcases hleft with ⟨_,g2,_⟩ | ⟨_,g2,_⟩
    · exact g2
    · have:=hk.bad; omega)
   exact OA h1 h5 hq hB hT
 | @done p r he =>
   intro hok x y _
   refine ⟨fun _ _=>y,rfl,Gy ?_ he⟩
   intro hb
   rcases hok with ⟨h1,_⟩ | h1
   · exact ⟨h1.low,h1.high⟩
   · omega
 | @more p r q o h1 h5 h3 hn hr hl ih1 ih2 =>
   intro hok x y hx
   have hb:r.bad<0:=(Bl hn).1
   have hok':Ok s r∧gA s r:=by rcases hok with h | h; exact h; omega
   obtain ⟨hk,hsl⟩:=hok'
   have hlow:=hk.low
   obtain ⟨f1,f2,f3,f4,f5,f6,f7⟩:=gD h1 h5 hk.low hk.high hn
   have hok1:Ok s (r.to (r.pos+(bp (s.drop r.pos.toNat) p).2)):=⟨hk.bad,by simp only [Rd.to]; omega,by simp only [Rd.to]; omega⟩
   have hsl1:=hsl.to (k:=r.pos+(bp (s.drop r.pos.toNat) p).2) (by omega)
   have hleft:=hr.inv hok1
   have hout:=hsl1.out hleft
   have hxp:=hx hk
   refine ⟨fun _ z=>if z.pos=x.pos then y else q,if_pos rfl,GS h1 h5 h3 hk hsl hn (if_neg (by show ¬r.pos+_=x.pos; omega)) (ih1 hok1 hsl1) hleft ?_⟩
   obtain ⟨B,_,hT⟩:=ih2 (by
    rcases hleft with ⟨g1,g2,g3⟩ | ⟨_,g2,_⟩
    · refine .inl ⟨g1.emit,?_,hsl.2⟩
      have:=hsl.1
      simp only [Rd.to] at g2 g3
      simp only [Rd.emit,ag,ah,aj]; omega
    · exact .inr g2) (q.emit ⟨(bp (s.drop r.pos.toNat) p).1,0,[]⟩) q (fun _=>cd _)
   exact hT.go
 | @once r q hn hr ih1 =>
   intro hok x y hx
   have hb:r.bad<0:=(Bl hn).1
   have hok':Ok s r∧gA s r:=by rcases hok with h | h; exact h; omega
   obtain ⟨hk,hsl⟩:=hok'
   have hlow:=hk.low
   obtain ⟨f1,f2,f3,f4,f5,f6,f7⟩:=gD (by omega) (by omega) hk.low hk.high hn
   have hok1:Ok s (r.to (r.pos+(bp (s.drop r.pos.toNat) 3).2)):=⟨hk.bad,by simp only [Rd.to]; omega,by simp only [Rd.to]; omega⟩
   have hsl1:=hsl.to (k:=r.pos+(bp (s.drop r.pos.toNat) 3).2) (by omega)
   have hxp:=hx hk
   exact ⟨fun _ z=>if z.pos=x.pos then y else q,if_pos rfl,Hx hk hsl hn (if_neg (by show ¬r.pos+_=x.pos; omega)) (ih1 hok1 hsl1) (hr.inv hok1)⟩
 | @lost r hl =>
   intro hok hsl
   have hf:cw s r.pos = .fin:=by rcases hl with h | h; (have:=hok.bad; omega); exact h
   exact KF hok hf
 | @sign r q op hb hh hr ih =>
   intro hok hsl
   have hlt:=hok.lt (fun x e=>by rw [hh] at e; subst e; simp)
   have hlow:=hok.low
   have hok1:Ok s (r.to (r.pos+1)):=⟨hok.bad,by simp only [Rd.to]; omega,by simp only [Rd.to]; omega⟩
   exact Kd hok hsl hh (ih hok1 (hsl.to (by omega))) (hr.inv hok1)
 | @leaf r hb hh=>intro hok hsl; exact ta hok hsl (fun op e=>by rw [hh] at e; cases e) (by rw [hh]; simp) (Iv hok hsl hh)
 | @par r q hb hh hr ih =>
   intro hok hsl
   have hlt:=hok.lt (fun x e=>by rw [hh] at e; subst e; simp)
   have hlow:=hok.low
   have hok1:Ok s (r.to (r.pos+1)):=⟨hok.bad,by simp only [Rd.to]; omega,by simp only [Rd.to]; omega⟩
   exact ta hok hsl (fun op e=>by rw [hh] at e; cases e) (by rw [hh]; simp) (JE hok hsl hh (ih hok1 (hsl.to (by omega))) (hr.inv hok1))
 | @call r q op hb hh hr ih =>
   intro hok hsl
   have hlow:=hok.low
   obtain ⟨g1,g2,g3,g4,g5,g6,hlt⟩:=uT hh
   have hok1:Ok s (r.to (r.pos+3)):=⟨hok.bad,by simp only [Rd.to]; omega,by simp only [Rd.to]; omega⟩
   exact ta hok hsl (fun op e=>by rw [hh] at e; cases e) (by rw [hh]; simp) (H7 hok hsl hh (HE g1 hok hsl hlt (ih hok1 (hsl.to (by omega))) (hr.inv hok1)))
theorem Md (s:Str) (hs:s.length≤1048576):o9 s 1 ⟨0,[], -1⟩ (cK s) :=
 (kq s).does ⟨rfl,cd _,by simp [af]⟩ ⟨by simp [af]; omega,hs⟩
theorem Nx (s:Str) (hs:s.length≤1048576):ak Tryz.prog 120 [.c (.loc 0 0),.i 1] [.cells [.pd (.str s),.i 0,.pd (.v (.slice none 0 0)),.i (-1)] 169] (.tup []) (rd2 s (cK s)) :=
 ak.nilCell (E:=92) (t:=.cell) (k:=2) rfl rfl rfl (Md s hs)
noncomputable def yI:Ent:=(120,fun
 | [.c (.loc 0 0),.c (.pd (.int .i64 1))],[.cells [.pd (.str s),.pd (.int .i64 0),.pd (.v (.slice none 0 0)),.pd (.int .i64 (-1))] 169]=>some (some (s.length≤1048576),.tup [],[.cells [.pd (.str s),.pd (.int .i64 (cK s).pos),.own 2,.pd (.int .i64 (cK s).bad)] 169,.dead,.own 92 .cell (cK s).out])
 | _,_=>none)
theorem IP:EntOk Tryz.prog yI:=entOk fun vs ck=>by
 unfold yI; dsimp only; split
 · rename_i s; exact entS fun hp=>Nx s hp
 · exact entN
noncomputable def Lg:Cfg:=⟨bu,[yI,j1]⟩
theorem KH:ai Tryz.prog Lg.tab:=(ai.cons IP (ai.cons jZ ai.nil))
def cy (s:Str):Prop:=(aR s).2.2=0
theorem Fq (s:Str) (h:(cK s).bad<0):0≤(cK s).pos∧(cK s).pos≤af s:=by
 rcases (kq s).inv ⟨rfl,cd _,by simp [af]⟩ with ⟨g1,_⟩ | ⟨_,g2,_⟩
 · exact ⟨g1.low,g1.high⟩
 · omega
def nC (s:Str):Out:=fun v ck=>(cy s→v = .tup [.c (.own 0),.i 0,.i 0]∧ck=[.own 92 .cell (aR s).1])∧(¬cy s→v = .tup [.c (.pd (.v (.slice none 0 0))),.i (aR s).2.1,.i (aR s).2.2]∧ck=[])
theorem nC.ok {l:List Cell} (h:aR s=(l,0,0)):nC s (.tup [.c (.own 0),.i 0,.i 0]) [.own 92 .cell l]:=by
 refine ⟨fun _=>⟨rfl,by rw [h]⟩,fun hn=>absurd ?_ hn⟩
 show (aR s).2.2=0
 rw [h]
theorem nC.bad {l:List Cell} {k e:Int} (h:aR s=(l,k,e)) (he:e≠0):nC s (.tup [.c (.pd (.v (.slice none 0 0))),.i k,.i e]) []:=by
 refine ⟨fun hn=>absurd hn ?_,fun _=>⟨by rw [h],rfl⟩⟩
 show ¬(aR s).2.2=0
 rw [h]; exact he
theorem uk (s:Str) (Γ:Ctx):J Tryz.prog 86 (aH Tryz.f86) Γ (nC s) [.code []] (cL Tryz.f86.ntmps [.s s] []):=by
 refine jg KH Tryz.func86 (let x3:=(Value.slice none 0 0); let x4:Tree:=(.ret (.tup [.p (.v x3),.i 0,.i 4]) []); let x1:Tree:=(.ite (decide ((↑((Rd.out (cK s)).length):Int)>32)) x4 (.ret (.tup [.c (.own 0),.i 0,.i 0]) [.own 92 .cell (Rd.out (cK s))])); let x2:=(if Rd.bad (cK s)<(0:Int) then Rd.pos (cK s) else Rd.bad (cK s)); .ite (decide (af s>(600:Int))) x4 (.need (s.length≤1048576) (.ite (decide (Rd.bad (cK s)<(0:Int))&&decide (Rd.pos (cK s)<af s)) (.ite (decide (x2≥(0:Int))) (.ret (.tup [.p (.v x3),.i x2,.i 1]) []) x1) (.ite (decide (Rd.bad (cK s)≥(0:Int))) (.ret (.tup [.p (.v x3),.i (Rd.bad (cK s)),.i 1]) []) x1)))) ?_
 conv=>zeta
 have hL:af s=(s.length:Int):=rfl
 refine ⟨fun h=>nC.bad (l:=[]) ?_ (by decide),fun hlen=>⟨?_,fun h=>⟨fun h2=>nC.bad (l:=[]) ?_ (by decide),fun h2=>?_⟩,fun h=>⟨fun h2=>nC.bad (l:=[]) ?_ (by decide),fun h2=>⟨fun h3=>nC.bad (l:=[]) ?_ (by decide),fun h3=>nC.ok ?_⟩⟩⟩⟩
 · unfold aR; rw [if_pos (of_decide_eq_true h)]
 · have:=of_decide_eq_false hlen; omega
 all_goals have hl':¬af s>600:=of_decide_eq_false hlen
 · simp only [ab,decide_eq_true_eq] at h
   unfold aR; rw [if_neg hl',if_neg (by omega),if_pos h.2,if_pos h.1]
 · exfalso
   simp only [ab,decide_eq_true_eq] at h
   have:=of_decide_eq_false h2
   rw [if_pos h.1] at this
   have:=Fq s h.1; omega
 · unfold aR; rw [if_neg hl',if_pos (of_decide_eq_true h2)]
 all_goals
  have hb:¬(cK s).bad≥0:=of_decide_eq_false h2
  have hp:¬(cK s).pos<af s:=fun hh=>by
   rw [decide_eq_true (by omega),decide_eq_true hh] at h; cases h
 · unfold aR; rw [if_neg hl',if_neg hb,if_neg hp,if_pos (of_decide_eq_true h3)]
 · unfold aR; rw [if_neg hl',if_neg hb,if_neg hp,if_neg (of_decide_eq_false h3)]
theorem IB (s:Str) (h:cy s):ak Tryz.prog 86 [.s s] [] (.tup [.c (.own 0),.i 0,.i 0]) [.own 92 .cell (aR s).1] :=
 ak.of Tryz.func86 (by kernel_rfl) (by kernel_rfl) fun Γ=>J.mono (fun _ _ q=>q.1 h) (uk s Γ)
theorem EI (s:Str) (h:¬cy s):ak Tryz.prog 86 [.s s] [] (.tup [.c (.pd (.v (.slice none 0 0))),.i (aR s).2.1,.i (aR s).2.2]) [] :=
 ak.of Tryz.func86 (by kernel_rfl) (by kernel_rfl) fun Γ=>J.mono (fun _ _ q=>q.2 h) (uk s Γ)
noncomputable def rT:Ent:=(86,fun
 | [.c (.pd (.str s))],[]=>some (some (cy s),.tup [.c (.own 0),.c (.pd (.int .i64 0)),.c (.pd (.int .i64 0))],[.own 92 .cell (aR s).1])
 | _,_=>none)
theorem tw:EntOk Tryz.prog rT:=entOk fun vs ck=>by
 unfold rT; dsimp only; split
 · rename_i s; exact entS fun hp=>IB s hp
 · exact entN
noncomputable def rU:Ent:=(86,fun
 | [.c (.pd (.str s))],[]=>some (some (¬cy s),.tup [.c (.pd (.v (.slice none 0 0))),.c (.pd (.int .i64 (aR s).2.1)),.c (.pd (.int .i64 (aR s).2.2))],[])
 | _,_=>none)
theorem tF:EntOk Tryz.prog rU:=entOk fun vs ck=>by
 unfold rU; dsimp only; split
 · rename_i s; exact entS fun hp=>EI s hp
 · exact entN
end Go.Proofs.YtpfidgnkokidoaaGreatDoor

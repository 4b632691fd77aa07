/- The contract of the program's expr.Parse. Conditions: none. -/
import Derived.Test.YtpfidgnkokidoaaGreatDoorMe
namespace Go.Proofs.YtpfidgnkokidoaaGreatDoor
open Go Go.Ev
set_option maxRecDepth 100000
variable {s:Str}
theorem JG {k:Int} (h:b8 s k = .fin):k=ab s:=by
 unfold b8 at h
 split at h
 · assumption
 · repeat' (split at h)
   all_goals cases h
theorem IQ {k op:Int} (h:b8 s k = .pre op):bD s k=45∧op=7∨bD s k≠45∧bD s k=33∧op=8:=by
 unfold b8 at h
 split at h; cases h
 split at h
 · rename_i h1; cases h; exact .inl ⟨h1,rfl⟩
 · rename_i h1
   split at h
   · rename_i h2; cases h; exact .inr ⟨h1,h2,rfl⟩
   · repeat' (split at h)
     all_goals cases h
theorem Ft {k:Int} (h:∀ op,b8 s k≠.pre op) (h2:b8 s k≠.fin):bD s k≠45∧bD s k≠33:=by
 refine ⟨fun e=>?_,fun e=>?_⟩
 · apply h 7
   unfold b8
   rw [if_neg (fun he=>h2 (by unfold b8; rw [if_pos he])),if_pos e]
 · apply h 8
   unfold b8
   rw [if_neg (fun he=>h2 (by unfold b8; rw [if_pos he])),if_neg (by rw [e]; decide),if_pos e]
abbrev zMf1 (a:Str) (b:Rd):List Chunk:=[.cells [.pd (.str a),.i (Rd.pos b),.own 1,.i (Rd.bad b)] (169:TypeId),.own (92:TypeId) .cell (Rd.out b)]
abbrev zMf2 (a:Str) (b:Rd):List Chunk:=[.cells [.pd (.str a),.i (Rd.pos b),.own 1,.i (if Rd.bad b<(0:Int) then Rd.pos b else Rd.bad b)] 169,.own 92 .cell (Rd.out b)]
theorem HP {r:Rd} (hok:Ok s r) (hh:b8 s r.pos = .fin):ur s r (r.wrong r.pos):=by
 have e:=JG hh
 let U:Rd→Rd:=fun _=>r
 let A:Rd→Rd:=fun _=>r
 refine ak.rd Tryz.func159 (by kernel_rfl) (by kernel_rfl) rfl fun Γ=>?_
 refine jg (cfg:=(w8 U A)) rJ Tryz.func159 (let x1:=(U { pos:=IntKind.wrap .i64 (Rd.pos r+(1:Int)),out:=Rd.out r,bad:=Rd.bad r }); let x2:=(ak Tryz.prog (159:FuncId) [.c (.loc 0 0)] [.cells [.pd (.str s),.i (IntKind.wrap .i64 (Rd.pos r+(1:Int))),.own 1,.i (Rd.bad r)] (169:TypeId),.own (92:TypeId) .cell (Rd.out r)] (.tup []) (rd2 s x1)); let x3:=(A { pos:=Rd.pos r,out:=Rd.out r,bad:=Rd.bad r }); let x4:=(↑((List.getD s ((Rd.pos r).toNat) (0:UInt8)).toNat):Int); let x5:=(room (List.length (Rd.out x1)+1) 32); .ite (decide (Rd.bad r≥(0:Int))||Rd.pos r==ab s) (.ret (.tup []) (zMf2 s r)) (.need ((0:Int)≤Rd.pos r∧Rd.pos r<ab s) (.ite (x4==45) (.need x2 (.need x5 (.ret (.tup []) [.cells [.pd (.str s),.i (Rd.pos x1),.own 2,.i (Rd.bad x1)] 169,.dead,.own 92 .cell (Rd.out x1++[{ op:=(7:Int),a:=(0:Int),name:=[] }])]))) (.ite (x4==33) (.need x2 (.need x5 (.ret (.tup []) [.cells [.pd (.str s),.i (Rd.pos x1),.own 2,.i (Rd.bad x1)] 169,.dead,.own 92 .cell (Rd.out x1++[{ op:=(8:Int),a:=(0:Int),name:=[] }])]))) (.need (ak Tryz.prog (187:FuncId) [.c (.loc 0 0)] (zMf1 s r) (.tup []) (rd2 s x3)) (.ret (.tup []) [.cells [.pd (.str s),.i (Rd.pos x3),.own 2,.i (Rd.bad x3)] 169,.dead,.own 92 .cell (Rd.out x3)])))))) ?_
 conv=>zeta
 refine ⟨fun _=>RdQ.one rfl,fun h=>?_⟩
 simp only [aq] at h
 exact absurd e (ne_of_beq_false h.2)
theorem Ia {r q:Rd} {op:Int} (hok:Ok s r) (hsl:fY s r) (hh:b8 s r.pos = .pre op) (hq:ur s (r.to (r.pos+1)) q) (hl:Left s (r.to (r.pos+1)) q):ur s r (q.emit ⟨op,0,[]⟩):=by
 have hlt:=hok.lt (fun x e=>by rw [hh] at e; subst e; simp)
 have hlow:=hok.low
 have hb:=hok.bad
 have hL:ab s=(s.length:Int):=rfl
 have hs:=hsl.2
 obtain ⟨k1,k2,k3,k4,k5⟩:=(hsl.to (k:=r.pos+1) (by omega)).out hl
 have hp:=IQ hh
 let U:Rd→Rd:=fun _=>q
 let A:Rd→Rd:=fun _=>q
 refine ak.rd Tryz.func159 (by kernel_rfl) (by kernel_rfl) rfl fun Γ=>?_
 refine jg (cfg:=(w8 U A)) rJ Tryz.func159 (let x1:=(U { pos:=IntKind.wrap .i64 (Rd.pos r+(1:Int)),out:=Rd.out r,bad:=Rd.bad r }); let x2:=(ak Tryz.prog (159:FuncId) [.c (.loc 0 0)] [.cells [.pd (.str s),.i (IntKind.wrap .i64 (Rd.pos r+(1:Int))),.own 1,.i (Rd.bad r)] (169:TypeId),.own (92:TypeId) .cell (Rd.out r)] (.tup []) (rd2 s x1)); let x3:=(A { pos:=Rd.pos r,out:=Rd.out r,bad:=Rd.bad r }); let x4:=(↑((List.getD s ((Rd.pos r).toNat) (0:UInt8)).toNat):Int); let x5:=(room (List.length (Rd.out x1)+1) 32); .ite (decide (Rd.bad r≥(0:Int))||Rd.pos r==ab s) (.ret (.tup []) (zMf2 s r)) (.need ((0:Int)≤Rd.pos r∧Rd.pos r<ab s) (.ite (x4==45) (.need x2 (.need x5 (.ret (.tup []) [.cells [.pd (.str s),.i (Rd.pos x1),.own 2,.i (Rd.bad x1)] 169,.dead,.own 92 .cell (Rd.out x1++[{ op:=(7:Int),a:=(0:Int),name:=[] }])]))) (.ite (x4==33) (.need x2 (.need x5 (.ret (.tup []) [.cells [.pd (.str s),.i (Rd.pos x1),.own 2,.i (Rd.bad x1)] 169,.dead,.own 92 .cell (Rd.out x1++[{ op:=(8:Int),a:=(0:Int),name:=[] }])]))) (.need (ak Tryz.prog (187:FuncId) [.c (.loc 0 0)] (zMf1 s r) (.tup []) (rd2 s x3)) (.ret (.tup []) [.cells [.pd (.str s),.i (Rd.pos x3),.own 2,.i (Rd.bad x3)] 169,.dead,.own 92 .cell (Rd.out x3)])))))) ?_
 conv=>zeta
 rw [bG (n:=r.pos+1) (by omega) (by omega)]
 refine ⟨fun h=>?_,fun _=>⟨⟨hlow,hlt⟩,fun h=>⟨hq,fD (by show q.out.length+1≤_; omega),RdQ.two ?_⟩,fun n=>⟨fun h=>⟨hq,fD (by show q.out.length+1≤_; omega),RdQ.two ?_⟩,fun h=>?_⟩⟩⟩
 · simp only [aA,decide_eq_true_eq,beq_iff_eq] at h
   omega
 · have h':bD s r.pos=45:=eq_of_beq h
   have e:op=7:=by rcases hp with ⟨_,e⟩ | ⟨e,_⟩; exact e; exact absurd h' e
   subst e; rfl
 · have h':bD s r.pos=33:=eq_of_beq h
   have e:op=8:=by rcases hp with ⟨e,_⟩ | ⟨_,_,e⟩; (rw [e] at h'; exact absurd h' (by decide)); exact e
   subst e; rfl
 · exfalso
   have n':bD s r.pos≠45:=ne_of_beq_false n
   have h':bD s r.pos≠33:=ne_of_beq_false h
   rcases hp with ⟨e,_⟩ | ⟨_,e,_⟩
   · exact n' e
   · exact h' e
theorem rQ {r o:Rd} (hok:Ok s r) (hsl:fY s r) (h1:∀ op,b8 s r.pos≠.pre op) (h2:b8 s r.pos≠.fin) (hq:xr s r o):ur s r o:=by
 have hlt:=hok.lt (fun x e=>by subst e; exact h2)
 have hlow:=hok.low
 have hb:=hok.bad
 obtain ⟨p1,p2⟩:=Ft h1 h2
 let U:Rd→Rd:=fun _=>o
 let A:Rd→Rd:=fun _=>o
 refine ak.rd Tryz.func159 (by kernel_rfl) (by kernel_rfl) rfl fun Γ=>?_
 refine jg (cfg:=(w8 U A)) rJ Tryz.func159 (let x1:=(U { pos:=IntKind.wrap .i64 (Rd.pos r+(1:Int)),out:=Rd.out r,bad:=Rd.bad r }); let x2:=(ak Tryz.prog (159:FuncId) [.c (.loc 0 0)] [.cells [.pd (.str s),.i (IntKind.wrap .i64 (Rd.pos r+(1:Int))),.own 1,.i (Rd.bad r)] (169:TypeId),.own (92:TypeId) .cell (Rd.out r)] (.tup []) (rd2 s x1)); let x3:=(A { pos:=Rd.pos r,out:=Rd.out r,bad:=Rd.bad r }); let x4:=(↑((List.getD s ((Rd.pos r).toNat) (0:UInt8)).toNat):Int); let x5:=(room (List.length (Rd.out x1)+1) 32); .ite (decide (Rd.bad r≥(0:Int))||Rd.pos r==ab s) (.ret (.tup []) (zMf2 s r)) (.need ((0:Int)≤Rd.pos r∧Rd.pos r<ab s) (.ite (x4==45) (.need x2 (.need x5 (.ret (.tup []) [.cells [.pd (.str s),.i (Rd.pos x1),.own 2,.i (Rd.bad x1)] 169,.dead,.own 92 .cell (Rd.out x1++[{ op:=(7:Int),a:=(0:Int),name:=[] }])]))) (.ite (x4==33) (.need x2 (.need x5 (.ret (.tup []) [.cells [.pd (.str s),.i (Rd.pos x1),.own 2,.i (Rd.bad x1)] 169,.dead,.own 92 .cell (Rd.out x1++[{ op:=(8:Int),a:=(0:Int),name:=[] }])]))) (.need (ak Tryz.prog (187:FuncId) [.c (.loc 0 0)] (zMf1 s r) (.tup []) (rd2 s x3)) (.ret (.tup []) [.cells [.pd (.str s),.i (Rd.pos x3),.own 2,.i (Rd.bad x3)] 169,.dead,.own 92 .cell (Rd.out x3)])))))) ?_
 conv=>zeta
 refine ⟨fun h=>?_,fun _=>⟨⟨hlow,hlt⟩,fun h=>absurd (show bD s r.pos=45 from eq_of_beq h) p1,fun _=>⟨fun h=>absurd (show bD s r.pos=33 from eq_of_beq h) p2,fun _=>⟨hq,RdQ.two rfl⟩⟩⟩⟩
 simp only [aA,decide_eq_true_eq,beq_iff_eq] at h
 omega
theorem yh {p:Int} {r:Rd} (h:¬atEnd s p r):r.bad<0∧(bw (s.drop r.pos.toNat) p).1≠0:=Classical.not_not.1 h
/-! ### the loop -/
def wT (s:Str) (r:Rd) (p:Int) (B:Int→Rd→Rd):Tree:=(.ite (decide (Rd.bad r<(0:Int))) (.need ((0:Int)≤Rd.pos r∧Rd.pos r≤ab s) (.ite (Prod.fst (bw (List.drop (Int.toNat (Rd.pos r)) s) p)==(0:Int)) (.ret (.tup []) [.cells [.pd (.str s),.i (Rd.pos r),.own 2,.i (Rd.bad r)] 169,.dead,.own 92 .cell (Rd.out r)]) (.need (ak Tryz.prog (120:FuncId) [.c (.loc 0 0),SX.i (IntKind.wrap .i64 (p+(1:Int)))] [.cells [.pd (.str s),.i (IntKind.wrap .i64 (Rd.pos r+Prod.snd (bw (List.drop (Int.toNat (Rd.pos r)) s) p))),.own 1,.i (Rd.bad r)] (169:TypeId),.own (92:TypeId) .cell (Rd.out r)] (.tup []) (rd2 s (B (IntKind.wrap .i64 (p+(1:Int))) { pos:=IntKind.wrap .i64 (Rd.pos r+Prod.snd (bw (List.drop (Int.toNat (Rd.pos r)) s) p)),out:=Rd.out r,bad:=Rd.bad r }))) (.need (room (List.length (Rd.out (B (IntKind.wrap .i64 (p+(1:Int))) { pos:=IntKind.wrap .i64 (Rd.pos r+Prod.snd (bw (List.drop (Int.toNat (Rd.pos r)) s) p)),out:=Rd.out r,bad:=Rd.bad r }))+1) 32) (.ite (p != (3:Int)) (.stop [.code [0,2],.inScope [0]] { n:=45,fr:=[(0,.x (.c (.loc 0 0))),(1,.i p)],ck:=[.cells [.pd (.str s),.i (Rd.pos (B (IntKind.wrap .i64 (p+(1:Int))) { pos:=IntKind.wrap .i64 (Rd.pos r+Prod.snd (bw (List.drop (Int.toNat (Rd.pos r)) s) p)),out:=Rd.out r,bad:=Rd.bad r })),.own 2,.i (Rd.bad (B (IntKind.wrap .i64 (p+(1:Int))) { pos:=IntKind.wrap .i64 (Rd.pos r+Prod.snd (bw (List.drop (Int.toNat (Rd.pos r)) s) p)),out:=Rd.out r,bad:=Rd.bad r }))] 169,.dead,.own 92 .cell (Rd.out (B (IntKind.wrap .i64 (p+(1:Int))) { pos:=IntKind.wrap .i64 (Rd.pos r+Prod.snd (bw (List.drop (Int.toNat (Rd.pos r)) s) p)),out:=Rd.out r,bad:=Rd.bad r })++[{ op:=Prod.fst (bw (List.drop (Int.toNat (Rd.pos r)) s) p),a:=(0:Int),name:=[] }])],m:=2 }) (.ret (.tup []) [.cells [.pd (.str s),.i (Rd.pos (B (IntKind.wrap .i64 (p+(1:Int))) { pos:=IntKind.wrap .i64 (Rd.pos r+Prod.snd (bw (List.drop (Int.toNat (Rd.pos r)) s) p)),out:=Rd.out r,bad:=Rd.bad r })),.own 2,.i (Rd.bad (B (IntKind.wrap .i64 (p+(1:Int))) { pos:=IntKind.wrap .i64 (Rd.pos r+Prod.snd (bw (List.drop (Int.toNat (Rd.pos r)) s) p)),out:=Rd.out r,bad:=Rd.bad r }))] 169,.dead,.own 92 .cell (Rd.out (B (IntKind.wrap .i64 (p+(1:Int))) { pos:=IntKind.wrap .i64 (Rd.pos r+Prod.snd (bw (List.drop (Int.toNat (Rd.pos r)) s) p)),out:=Rd.out r,bad:=Rd.bad r })++[{ op:=Prod.fst (bw (List.drop (Int.toNat (Rd.pos r)) s) p),a:=(0:Int),name:=[] }])])))))) (.ite true (.ret (.tup []) [.cells [.pd (.str s),.i (Rd.pos r),.own 2,.i (Rd.bad r)] 169,.dead,.own 92 .cell (Rd.out r)]) (.need (ak Tryz.prog (120:FuncId) [.c (.loc 0 0),SX.i (IntKind.wrap .i64 (p+(1:Int)))] [.cells [.pd (.str s),.i (IntKind.wrap .i64 (Rd.pos r+(0:Int))),.own 1,.i (Rd.bad r)] (169:TypeId),.own (92:TypeId) .cell (Rd.out r)] (.tup []) (rd2 s (B (IntKind.wrap .i64 (p+(1:Int))) { pos:=IntKind.wrap .i64 (Rd.pos r+(0:Int)),out:=Rd.out r,bad:=Rd.bad r }))) (.need (room (List.length (Rd.out (B (IntKind.wrap .i64 (p+(1:Int))) { pos:=IntKind.wrap .i64 (Rd.pos r+(0:Int)),out:=Rd.out r,bad:=Rd.bad r }))+1) 32) (.ite (p != (3:Int)) (.stop [.code [0,2],.inScope [0]] { n:=45,fr:=[(0,.x (.c (.loc 0 0))),(1,.i p)],ck:=[.cells [.pd (.str s),.i (Rd.pos (B (IntKind.wrap .i64 (p+(1:Int))) { pos:=IntKind.wrap .i64 (Rd.pos r+(0:Int)),out:=Rd.out r,bad:=Rd.bad r })),.own 2,.i (Rd.bad (B (IntKind.wrap .i64 (p+(1:Int))) { pos:=IntKind.wrap .i64 (Rd.pos r+(0:Int)),out:=Rd.out r,bad:=Rd.bad r }))] 169,.dead,.own 92 .cell (Rd.out (B (IntKind.wrap .i64 (p+(1:Int))) { pos:=IntKind.wrap .i64 (Rd.pos r+(0:Int)),out:=Rd.out r,bad:=Rd.bad r })++[{ op:=(0:Int),a:=(0:Int),name:=[] }])],m:=2 }) (.ret (.tup []) [.cells [.pd (.str s),.i (Rd.pos (B (IntKind.wrap .i64 (p+(1:Int))) { pos:=IntKind.wrap .i64 (Rd.pos r+(0:Int)),out:=Rd.out r,bad:=Rd.bad r })),.own 2,.i (Rd.bad (B (IntKind.wrap .i64 (p+(1:Int))) { pos:=IntKind.wrap .i64 (Rd.pos r+(0:Int)),out:=Rd.out r,bad:=Rd.bad r }))] 169,.dead,.own 92 .cell (Rd.out (B (IntKind.wrap .i64 (p+(1:Int))) { pos:=IntKind.wrap .i64 (Rd.pos r+(0:Int)),out:=Rd.out r,bad:=Rd.bad r })++[{ op:=(0:Int),a:=(0:Int),name:=[] }])]))))))
def Kk (s:Str) (p:Int) (r o:Rd):Prop:=∀ Γ,J Tryz.prog 120 (az Tryz.f120) Γ (RdQ s o) [.code [0,2],.inScope [0]] ({ n:=45,fr:=[(0,.x (.c (.loc 0 0))),(1,.i p)],ck:=[.cells [.pd (.str s),SC.i r.pos,.own 2,SC.i r.bad] 169,.dead,.own 92 .cell r.out],m:=2 })
def ll (s:Str) (p:Int) (B:Int→Rd→Rd) (r o:Rd):Prop:=∀ Γ,(wT s r p B).J Tryz.prog 120 (az Tryz.f120) Γ (RdQ s o)
theorem ll.go {p:Int} {B:Int→Rd→Rd} {r o:Rd} (h:ll s p B r o):Kk s p r o:=fun Γ=>jg (cfg:=xo B (fun x=>x)) rW Tryz.func120 (wT s r p B) (h Γ)
theorem GZ {p:Int} {B:Int→Rd→Rd} {r:Rd} (hr:r.bad<0→0≤r.pos∧r.pos≤ab s) (he:atEnd s p r):ll s p B r r:=by
 intro Γ
 refine ⟨fun hb=>⟨hr (of_decide_eq_true hb),fun _=>RdQ.two rfl,fun h=>?_⟩,fun _=>⟨fun _=>RdQ.two rfl,fun h=>Bool.noConfusion h⟩⟩
 exact absurd ⟨of_decide_eq_true hb,ne_of_beq_false h⟩ he
theorem Ho {p:Int} {B:Int→Rd→Rd} {r q o:Rd} (h1:1≤p) (h5:p≤5) (h3:p≠3) (hok:Ok s r) (hsl:fY s r) (hn:¬atEnd s p r)
 (hB:B (p+1) ⟨r.pos+(bw (s.drop r.pos.toNat) p).2,r.out,r.bad⟩=q) (hq:oi s (p+1) (r.to (r.pos+(bw (s.drop r.pos.toNat) p).2)) q) (hl:Left s (r.to (r.pos+(bw (s.drop r.pos.toNat) p).2)) q)
 (hj:Kk s p (q.emit ⟨(bw (s.drop r.pos.toNat) p).1,0,[]⟩) o):ll s p B r o:=by
 intro Γ
 have hlow:=hok.low
 have hL:ab s=(s.length:Int):=rfl
 have hs:=hsl.2
 have hb:=hok.bad
 obtain ⟨f1,f2,f3,f4,f5,f6,f7⟩:=fv h1 h5 hok.low hok.high hn
 obtain ⟨k1,_⟩:=(hsl.to (k:=r.pos+(bw (s.drop r.pos.toNat) p).2) (by omega)).out hl
 unfold wT
 rw [bG (n:=r.pos+(bw (s.drop r.pos.toNat) p).2) (by omega) (by omega),bG (n:=p+1) (by omega) (by omega),hB]
 refine ⟨fun _=>⟨⟨hlow,hok.high⟩,fun h=>?_,fun _=>⟨hq,fD (by omega),fun _=>hj Γ,fun h=>?_⟩⟩,fun h=>?_⟩
 · have:=eq_of_beq h; omega
 · simp only [bne_eq_false_iff_eq] at h; exact absurd h h3
 · have:=of_decide_eq_false h; omega
theorem GH {B:Int→Rd→Rd} {r q:Rd} (hok:Ok s r) (hsl:fY s r) (hn:¬atEnd s 3 r)
 (hB:B 4 ⟨r.pos+(bw (s.drop r.pos.toNat) 3).2,r.out,r.bad⟩=q) (hq:oi s 4 (r.to (r.pos+(bw (s.drop r.pos.toNat) 3).2)) q) (hl:Left s (r.to (r.pos+(bw (s.drop r.pos.toNat) 3).2)) q):ll s 3 B r (q.emit ⟨(bw (s.drop r.pos.toNat) 3).1,0,[]⟩):=by
 intro Γ
 have hlow:=hok.low
 have hL:ab s=(s.length:Int):=rfl
 have hs:=hsl.2
 have hb:=hok.bad
 obtain ⟨f1,f2,f3,f4,f5,f6,f7⟩:=fv (by omega) (by omega) hok.low hok.high hn
 obtain ⟨k1,_⟩:=(hsl.to (k:=r.pos+(bw (s.drop r.pos.toNat) 3).2) (by omega)).out hl
 unfold wT
 rw [bG (n:=r.pos+(bw (s.drop r.pos.toNat) 3).2) (by omega) (by omega),bG (n:=3+1) (by omega) (by omega),show (3:Int)+1=4 from rfl,hB]
 refine ⟨fun _=>⟨⟨hlow,hok.high⟩,fun h=>?_,fun _=>⟨hq,fD (by omega),fun h=>absurd h (by decide),fun h=>RdQ.two rfl⟩⟩,fun h=>?_⟩
 · have:=eq_of_beq h; omega
 · have:=of_decide_eq_false h; omega
theorem Mb {p:Int} {r o:Rd} (hp:p=6) (hq:ur s r o):oi s p r o:=by
 let B:Int→Rd→Rd:=fun _ _=>o
 let U:Rd→Rd:=fun _=>o
 refine ak.rd Tryz.func120 (by kernel_rfl) (by kernel_rfl) rfl fun Γ=>?_
 refine jg (cfg:=(xo B U)) rW Tryz.func120 (let x6:=(IntKind.wrap .i64 (p+(1:Int))); let x1:=(B x6 { pos:=Rd.pos r,out:=Rd.out r,bad:=Rd.bad r }); let x8:=(bw (List.drop (Int.toNat (Rd.pos x1)) s) p); let x2:=(B x6 { pos:=IntKind.wrap .i64 (Rd.pos x1+Prod.snd x8),out:=Rd.out x1,bad:=Rd.bad x1 }); let x3:=(B x6 { pos:=IntKind.wrap .i64 (Rd.pos x1+(0:Int)),out:=Rd.out x1,bad:=Rd.bad x1 }); let x4:List Chunk:=[.cells [.pd (.str s),.i (Rd.pos x2),.own 2,.i (Rd.bad x2)] 169,.dead,.own 92 .cell (Rd.out x2++[{ op:=Prod.fst x8,a:=(0:Int),name:=[] }])]; let x5:=(U { pos:=Rd.pos r,out:=Rd.out r,bad:=Rd.bad r }); let x7:List Chunk:=[.cells [.pd (.str s),.i (Rd.pos x3),.own 2,.i (Rd.bad x3)] 169,.dead,.own 92 .cell (Rd.out x3++[{ op:=(0:Int),a:=(0:Int),name:=[] }])]; let x9:Tree:=(.ret (.tup []) [.cells [.pd (.str s),.i (Rd.pos x1),.own 2,.i (Rd.bad x1)] 169,.dead,.own 92 .cell (Rd.out x1)]); let x10:List Chunk:=(zMf1 s r); .ite (p==(6:Int)) (.need (ak Tryz.prog (159:FuncId) [.c (.loc 0 0)] x10 (.tup []) (rd2 s x5)) (.ret (.tup []) [.cells [.pd (.str s),.i (Rd.pos x5),.own 2,.i (Rd.bad x5)] 169,.dead,.own 92 .cell (Rd.out x5)])) (.need (ak Tryz.prog (120:FuncId) [.c (.loc 0 0),SX.i x6] x10 (.tup []) (rd2 s x1)) (.ite (decide (Rd.bad x1<(0:Int))) (.need ((0:Int)≤Rd.pos x1∧Rd.pos x1≤ab s) (.ite (Prod.fst x8==(0:Int)) x9 (.need (ak Tryz.prog (120:FuncId) [.c (.loc 0 0),SX.i x6] [.cells [.pd (.str s),.i (IntKind.wrap .i64 (Rd.pos x1+Prod.snd x8)),.own 1,.i (Rd.bad x1)] (169:TypeId),.own (92:TypeId) .cell (Rd.out x1)] (.tup []) (rd2 s x2)) (.need (room (List.length (Rd.out x2)+1) 32) (.ite (p != (3:Int)) (.stop [.code [0,2],.inScope [0]] { n:=45,fr:=[(0,.x (.c (.loc 0 0))),(1,.i p)],ck:=x4,m:=2 }) (.ret (.tup []) x4)))))) (.ite true x9 (.need (ak Tryz.prog (120:FuncId) [.c (.loc 0 0),SX.i x6] [.cells [.pd (.str s),.i (IntKind.wrap .i64 (Rd.pos x1+(0:Int))),.own 1,.i (Rd.bad x1)] (169:TypeId),.own (92:TypeId) .cell (Rd.out x1)] (.tup []) (rd2 s x3)) (.need (room (List.length (Rd.out x3)+1) 32) (.ite (p != (3:Int)) (.stop [.code [0,2],.inScope [0]] { n:=45,fr:=[(0,.x (.c (.loc 0 0))),(1,.i p)],ck:=x7,m:=2 }) (.ret (.tup []) x7)))))))) ?_
 conv=>zeta
 exact ⟨fun _=>⟨hq,RdQ.two rfl⟩,fun h=>absurd hp (ne_of_beq_false h)⟩
theorem Nd {p:Int} {r q o:Rd} {B:Int→Rd→Rd} (h1:1≤p) (h5:p≤5) (hq:oi s (p+1) r q) (hB:B (p+1) r=q) (hl:ll s p B q o):oi s p r o:=by
 let U:Rd→Rd:=fun x=>x
 refine ak.rd Tryz.func120 (by kernel_rfl) (by kernel_rfl) rfl fun Γ=>?_
 refine jg (cfg:=(xo B (fun x=>x))) rW Tryz.func120 (let x5:=(IntKind.wrap .i64 (p+(1:Int))); let x1:=(B x5 { pos:=Rd.pos r,out:=Rd.out r,bad:=Rd.bad r }); let x7:=(bw (List.drop (Int.toNat (Rd.pos x1)) s) p); let x2:=(B x5 { pos:=IntKind.wrap .i64 (Rd.pos x1+Prod.snd x7),out:=Rd.out x1,bad:=Rd.bad x1 }); let x3:=(B x5 { pos:=IntKind.wrap .i64 (Rd.pos x1+(0:Int)),out:=Rd.out x1,bad:=Rd.bad x1 }); let x4:List Chunk:=[.cells [.pd (.str s),.i (Rd.pos x2),.own 2,.i (Rd.bad x2)] 169,.dead,.own 92 .cell (Rd.out x2++[{ op:=Prod.fst x7,a:=(0:Int),name:=[] }])]; let x6:List Chunk:=[.cells [.pd (.str s),.i (Rd.pos x3),.own 2,.i (Rd.bad x3)] 169,.dead,.own 92 .cell (Rd.out x3++[{ op:=(0:Int),a:=(0:Int),name:=[] }])]; let x8:Tree:=(.ret (.tup []) [.cells [.pd (.str s),.i (Rd.pos x1),.own 2,.i (Rd.bad x1)] 169,.dead,.own 92 .cell (Rd.out x1)]); let x9:List Chunk:=(zMf1 s r); .ite (p==(6:Int)) (.need (ak Tryz.prog (159:FuncId) [.c (.loc 0 0)] x9 (.tup []) (rd2 s { pos:=Rd.pos r,out:=Rd.out r,bad:=Rd.bad r })) (.ret (.tup []) [.cells [.pd (.str s),.i (Rd.pos { pos:=Rd.pos r,out:=Rd.out r,bad:=Rd.bad r }),.own 2,.i (Rd.bad { pos:=Rd.pos r,out:=Rd.out r,bad:=Rd.bad r })] 169,.dead,.own 92 .cell (Rd.out { pos:=Rd.pos r,out:=Rd.out r,bad:=Rd.bad r })])) (.need (ak Tryz.prog (120:FuncId) [.c (.loc 0 0),SX.i x5] x9 (.tup []) (rd2 s x1)) (.ite (decide (Rd.bad x1<(0:Int))) (.need ((0:Int)≤Rd.pos x1∧Rd.pos x1≤ab s) (.ite (Prod.fst x7==(0:Int)) x8 (.need (ak Tryz.prog (120:FuncId) [.c (.loc 0 0),SX.i x5] [.cells [.pd (.str s),.i (IntKind.wrap .i64 (Rd.pos x1+Prod.snd x7)),.own 1,.i (Rd.bad x1)] (169:TypeId),.own (92:TypeId) .cell (Rd.out x1)] (.tup []) (rd2 s x2)) (.need (room (List.length (Rd.out x2)+1) 32) (.ite (p != (3:Int)) (.stop [.code [0,2],.inScope [0]] { n:=45,fr:=[(0,.x (.c (.loc 0 0))),(1,.i p)],ck:=x4,m:=2 }) (.ret (.tup []) x4)))))) (.ite true x8 (.need (ak Tryz.prog (120:FuncId) [.c (.loc 0 0),SX.i x5] [.cells [.pd (.str s),.i (IntKind.wrap .i64 (Rd.pos x1+(0:Int))),.own 1,.i (Rd.bad x1)] (169:TypeId),.own (92:TypeId) .cell (Rd.out x1)] (.tup []) (rd2 s x3)) (.need (room (List.length (Rd.out x3)+1) 32) (.ite (p != (3:Int)) (.stop [.code [0,2],.inScope [0]] { n:=45,fr:=[(0,.x (.c (.loc 0 0))),(1,.i p)],ck:=x6,m:=2 }) (.ret (.tup []) x6)))))))) ?_
 conv=>zeta
 refine ⟨fun h=>by have:=eq_of_beq h; omega,fun _=>⟨?_,?_⟩⟩
 · rw [bG (n:=p+1) (by omega) (by omega),hB]; exact hq
 · have h:=hl Γ
   rw [← hB,← bG (n:=p+1) (by omega) (by omega)] at h
   exact h
def CT (s:Str):Task→Rd→Rd→Prop
 | .bin p,r,o=>Ok s r→fY s r→oi s p r o
 | .loop p,r,o=>(Ok s r∧fY s r)∨0≤r.bad→∀ x y:Rd,(Ok s r→x.pos≤r.pos)→∃ B:Int→Rd→Rd,B (p+1) x=y∧ll s p B r o
 | .una,r,o=>Ok s r→fY s r→ur s r o
theorem Run.does {t:Task} {r o:Rd} (h:Run s t r o):CT s t r o:=by
 induction h with
 | six _ ih=>intro hok hsl; exact Mb rfl (ih hok hsl)
 | @bin p r q o h1 h5 hr hl ih1 ih2 =>
   intro hok hsl
   have hq:=ih1 hok hsl
   have hleft:=hr.inv hok
   have hout:=hsl.out hleft
   obtain ⟨B,hB,hT⟩:=ih2 (by
    rcases hleft with ⟨g1,_⟩ | ⟨_,g2,_⟩
    · exact .inl ⟨g1,hout.2.1 g1⟩
    · exact .inr g2) r q (fun hk=>by
    rcases hleft with ⟨_,g2,_⟩ | ⟨_,g2,_⟩
    · exact g2
    · have:=hk.bad; omega)
   exact Nd h1 h5 hq hB hT
 | @done p r he =>
   intro hok x y _
   refine ⟨fun _ _=>y,rfl,GZ ?_ he⟩
   intro hb
   rcases hok with ⟨h1,_⟩ | h1
   · exact ⟨h1.low,h1.high⟩
   · omega
 | @more p r q o h1 h5 h3 hn hr hl ih1 ih2 =>
   intro hok x y hx
   have hb:r.bad<0:=(yh hn).1
   have hok':Ok s r∧fY s r:=by rcases hok with h | h; exact h; omega
   obtain ⟨hk,hsl⟩:=hok'
   have hlow:=hk.low
   obtain ⟨f1,f2,f3,f4,f5,f6,f7⟩:=fv h1 h5 hk.low hk.high hn
   have hok1:Ok s (r.to (r.pos+(bw (s.drop r.pos.toNat) p).2)):=⟨hk.bad,by simp only [Rd.to]; omega,by simp only [Rd.to]; omega⟩
   have hsl1:=hsl.to (k:=r.pos+(bw (s.drop r.pos.toNat) p).2) (by omega)
   have hleft:=hr.inv hok1
   have hout:=hsl1.out hleft
   have hxp:=hx hk
   refine ⟨fun _ z=>if z.pos=x.pos then y else q,if_pos rfl,Ho h1 h5 h3 hk hsl hn (if_neg (by show ¬r.pos+_=x.pos; omega)) (ih1 hok1 hsl1) hleft ?_⟩
   obtain ⟨B,_,hT⟩:=ih2 (by
    rcases hleft with ⟨g1,g2,g3⟩ | ⟨_,g2,_⟩
    · refine .inl ⟨g1.emit,?_,hsl.2⟩
      have:=hsl.1
      simp only [Rd.to] at g2 g3
      simp only [Rd.emit,aj,ai,al]; omega
    · exact .inr g2) (q.emit ⟨(bw (s.drop r.pos.toNat) p).1,0,[]⟩) q (fun _=>cc _)
   exact hT.go
 | @once r q hn hr ih1 =>
   intro hok x y hx
   have hb:r.bad<0:=(yh hn).1
   have hok':Ok s r∧fY s r:=by rcases hok with h | h; exact h; omega
   obtain ⟨hk,hsl⟩:=hok'
   have hlow:=hk.low
   obtain ⟨f1,f2,f3,f4,f5,f6,f7⟩:=fv (by omega) (by omega) hk.low hk.high hn
   have hok1:Ok s (r.to (r.pos+(bw (s.drop r.pos.toNat) 3).2)):=⟨hk.bad,by simp only [Rd.to]; omega,by simp only [Rd.to]; omega⟩
   have hsl1:=hsl.to (k:=r.pos+(bw (s.drop r.pos.toNat) 3).2) (by omega)
   have hxp:=hx hk
   exact ⟨fun _ z=>if z.pos=x.pos then y else q,if_pos rfl,GH hk hsl hn (if_neg (by show ¬r.pos+_=x.pos; omega)) (ih1 hok1 hsl1) (hr.inv hok1)⟩
 | @lost r hl =>
   intro hok hsl
   have hf:b8 s r.pos = .fin:=by rcases hl with h | h; (have:=hok.bad; omega); exact h
   exact HP hok hf
 | @sign r q op hb hh hr ih =>
   intro hok hsl
   have hlt:=hok.lt (fun x e=>by rw [hh] at e; subst e; simp)
   have hlow:=hok.low
   have hok1:Ok s (r.to (r.pos+1)):=⟨hok.bad,by simp only [Rd.to]; omega,by simp only [Rd.to]; omega⟩
   exact Ia hok hsl hh (ih hok1 (hsl.to (by omega))) (hr.inv hok1)
 | @leaf r hb hh=>intro hok hsl; exact rQ hok hsl (fun op e=>by rw [hh] at e; cases e) (by rw [hh]; simp) (FP hok hsl hh)
 | @par r q hb hh hr ih =>
   intro hok hsl
   have hlt:=hok.lt (fun x e=>by rw [hh] at e; subst e; simp)
   have hlow:=hok.low
   have hok1:Ok s (r.to (r.pos+1)):=⟨hok.bad,by simp only [Rd.to]; omega,by simp only [Rd.to]; omega⟩
   exact rQ hok hsl (fun op e=>by rw [hh] at e; cases e) (by rw [hh]; simp) (Jn hok hsl hh (ih hok1 (hsl.to (by omega))) (hr.inv hok1))
 | @call r q op hb hh hr ih =>
   intro hok hsl
   have hlow:=hok.low
   obtain ⟨g1,g2,g3,g4,g5,g6,hlt⟩:=nr hh
   have hok1:Ok s (r.to (r.pos+3)):=⟨hok.bad,by simp only [Rd.to]; omega,by simp only [Rd.to]; omega⟩
   exact rQ hok hsl (fun op e=>by rw [hh] at e; cases e) (by rw [hh]; simp) (EG hok hsl hh (Hb g1 hok hsl hlt (ih hok1 (hsl.to (by omega))) (hr.inv hok1)))
theorem Lg (s:Str) (hs:s.length≤1048576):oi s 1 ⟨0,[], -1⟩ (cu s) :=
 (oc s).does ⟨rfl,cc _,by simp [ab]⟩ ⟨by simp [ab]; omega,hs⟩
theorem MS (s:Str) (hs:s.length≤1048576):ak Tryz.prog 120 [.c (.loc 0 0),.i 1] [.cells [.pd (.str s),.i 0,.pd (.v (.slice none 0 0)),.i (-1)] 169] (.tup []) (rd2 s (cu s)) :=
 ak.nilCell (E:=92) (t:=.cell) (k:=2) rfl rfl rfl (Lg s hs)
noncomputable def wZ:Ent:=(120,fun
 | [.c (.loc 0 0),.c (.pd (.int .i64 1))],[.cells [.pd (.str s),.pd (.int .i64 0),.pd (.v (.slice none 0 0)),.pd (.int .i64 (-1))] 169]=>some (some (s.length≤1048576),.tup [],[.cells [.pd (.str s),.pd (.int .i64 (cu s).pos),.own 2,.pd (.int .i64 (cu s).bad)] 169,.dead,.own 92 .cell (cu s).out])
 | _,_=>none)
theorem JX:EntOk Tryz.prog wZ:=entOk fun vs ck=>by
 unfold wZ; dsimp only; split
 · rename_i s; exact entS fun hp=>MS s hp
 · exact entN
noncomputable def KN:Cfg:=⟨a6,[wZ,jI]⟩
theorem HK:ah Tryz.prog KN.tab:=(ah.cons JX (ah.cons jr ah.nil))
def bC (s:Str):Prop:=(aO s).2.2=0
theorem Db (s:Str) (h:(cu s).bad<0):0≤(cu s).pos∧(cu s).pos≤ab s:=by
 rcases (oc s).inv ⟨rfl,cc _,by simp [ab]⟩ with ⟨g1,_⟩ | ⟨_,g2,_⟩
 · exact ⟨g1.low,g1.high⟩
 · omega
def iP (s:Str):Out:=fun v ck=>(bC s→v = .tup [.c (.own 0),.i 0,.i 0]∧ck=[.own 92 .cell (aO s).1])∧(¬bC s→v = .tup [.c (.pd (.v (.slice none 0 0))),.i (aO s).2.1,.i (aO s).2.2]∧ck=[])
theorem iP.ok {l:List Cell} (h:aO s=(l,0,0)):iP s (.tup [.c (.own 0),.i 0,.i 0]) [.own 92 .cell l]:=by
 refine ⟨fun _=>⟨rfl,by rw [h]⟩,fun hn=>absurd ?_ hn⟩
 show (aO s).2.2=0
 rw [h]
theorem iP.bad {l:List Cell} {k e:Int} (h:aO s=(l,k,e)) (he:e≠0):iP s (.tup [.c (.pd (.v (.slice none 0 0))),.i k,.i e]) []:=by
 refine ⟨fun hn=>absurd hn ?_,fun _=>⟨by rw [h],rfl⟩⟩
 show ¬(aO s).2.2=0
 rw [h]; exact he
theorem sC (s:Str) (Γ:Ctx):J Tryz.prog 86 (az Tryz.f86) Γ (iP s) [.code []] (bX Tryz.f86.ntmps [.s s] []):=by
 refine jg HK Tryz.func86 (let x3:=(Value.slice none 0 0); let x4:Tree:=(.ret (.tup [.p (.v x3),.i 0,.i 4]) []); let x1:Tree:=(.ite (decide ((↑((Rd.out (cu s)).length):Int)>32)) x4 (.ret (.tup [.c (.own 0),.i 0,.i 0]) [.own 92 .cell (Rd.out (cu s))])); let x2:=(if Rd.bad (cu s)<(0:Int) then Rd.pos (cu s) else Rd.bad (cu s)); .ite (decide (ab s>(600:Int))) x4 (.need (s.length≤1048576) (.ite (decide (Rd.bad (cu s)<(0:Int))&&decide (Rd.pos (cu s)<ab s)) (.ite (decide (x2≥(0:Int))) (.ret (.tup [.p (.v x3),.i x2,.i 1]) []) x1) (.ite (decide (Rd.bad (cu s)≥(0:Int))) (.ret (.tup [.p (.v x3),.i (Rd.bad (cu s)),.i 1]) []) x1)))) ?_
 conv=>zeta
 have hL:ab s=(s.length:Int):=rfl
 refine ⟨fun h=>iP.bad (l:=[]) ?_ (by decide),fun hlen=>⟨?_,fun h=>⟨fun h2=>iP.bad (l:=[]) ?_ (by decide),fun h2=>?_⟩,fun h=>⟨fun h2=>iP.bad (l:=[]) ?_ (by decide),fun h2=>⟨fun h3=>iP.bad (l:=[]) ?_ (by decide),fun h3=>iP.ok ?_⟩⟩⟩⟩
 · unfold aO; rw [if_pos (of_decide_eq_true h)]
 · have:=of_decide_eq_false hlen; omega
 all_goals have hl':¬ab s>600:=of_decide_eq_false hlen
 · simp only [af,decide_eq_true_eq] at h
   unfold aO; rw [if_neg hl',if_neg (by omega),if_pos h.2,if_pos h.1]
 · exfalso
   simp only [af,decide_eq_true_eq] at h
   have:=of_decide_eq_false h2
   rw [if_pos h.1] at this
   have:=Db s h.1; omega
 · unfold aO; rw [if_neg hl',if_pos (of_decide_eq_true h2)]
 all_goals
  have hb:¬(cu s).bad≥0:=of_decide_eq_false h2
  have hp:¬(cu s).pos<ab s:=fun hh=>by
   rw [decide_eq_true (by omega),decide_eq_true hh] at h; cases h
 · unfold aO; rw [if_neg hl',if_neg hb,if_neg hp,if_pos (of_decide_eq_true h3)]
 · unfold aO; rw [if_neg hl',if_neg hb,if_neg hp,if_neg (of_decide_eq_false h3)]
theorem EU (s:Str) (h:bC s):ak Tryz.prog 86 [.s s] [] (.tup [.c (.own 0),.i 0,.i 0]) [.own 92 .cell (aO s).1] :=
 ak.of Tryz.func86 (by kernel_rfl) (by kernel_rfl) fun Γ=>J.mono (fun _ _ q=>q.1 h) (sC s Γ)
theorem DA (s:Str) (h:¬bC s):ak Tryz.prog 86 [.s s] [] (.tup [.c (.pd (.v (.slice none 0 0))),.i (aO s).2.1,.i (aO s).2.2]) [] :=
 ak.of Tryz.func86 (by kernel_rfl) (by kernel_rfl) fun Γ=>J.mono (fun _ _ q=>q.2 h) (sC s Γ)
noncomputable def qq:Ent:=(86,fun
 | [.c (.pd (.str s))],[]=>some (some (bC s),.tup [.c (.own 0),.c (.pd (.int .i64 0)),.c (.pd (.int .i64 0))],[.own 92 .cell (aO s).1])
 | _,_=>none)
theorem r5:EntOk Tryz.prog qq:=entOk fun vs ck=>by
 unfold qq; dsimp only; split
 · rename_i s; exact entS fun hp=>EU s hp
 · exact entN
noncomputable def qK:Ent:=(86,fun
 | [.c (.pd (.str s))],[]=>some (some (¬bC s),.tup [.c (.pd (.v (.slice none 0 0))),.c (.pd (.int .i64 (aO s).2.1)),.c (.pd (.int .i64 (aO s).2.2))],[])
 | _,_=>none)
theorem rT:EntOk Tryz.prog qK:=entOk fun vs ck=>by
 unfold qK; dsimp only; split
 · rename_i s; exact entS fun hp=>DA s hp
 · exact entN
end Go.Proofs.YtpfidgnkokidoaaGreatDoor

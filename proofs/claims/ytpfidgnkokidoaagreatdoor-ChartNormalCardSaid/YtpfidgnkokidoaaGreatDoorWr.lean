/- Contracts: the program's charts read. Conditions: none. -/
import Derived.Test.YtpfidgnkokidoaaGreatDoorWn
import Derived.Test.YtpfidgnkokidoaaGreatDoorWp
import Derived.Test.YtpfidgnkokidoaaGreatDoorXb
namespace Go.Proofs.YtpfidgnkokidoaaGreatDoor
open Go Go.Ev
set_option maxRecDepth 100000
/-! ### the kinds of lines, by their functions -/
abbrev zJ8Wr:=J Tryz.prog 8 (aH Tryz.f8)
def kY:List Nat:=[34,35,36,37,38,39,40,41,42,43,44,45,46]
variable (s:Str) (ls:List Str) (c:Chart) (d:Int) (k:Nat) (W:List Str) (w0:Str) (g:Nat) (vs:List SX) (a:Chart) (ck:List Chunk) (w:List Str) (Γ:Ctx)
noncomputable def GC (c:Chart) (d:Int) (w:List Str):Option Chart :=
 if g=34 then jE c d w else if g=35 then nH c d w else if g=36 then kj c d w else if g=37 then jc c d w else if g=38 then aM 1 1 c d w else if g=39 then aM 3 1 c d w else if g=40 then aM 4 1 c d w else if g=41 then aM 2 2 c d w else if g=42 then aM 5 2 c d w else if g=43 then aM 6 2 c d w else if g=44 then iu c d w else if g=45 then ju c d w else onC c d w
noncomputable def DC:Ent:=(g,fun
 | [.c (.loc 0 0),.c (.pd (.lst .str w))],[.cells [.pd (.str nm),.own 1,.own 2,.own 3,.own 4,.pd (.int .i64 d)] 45,.own 9 .str ev,.own 61 .var vs,.own 64 .stat st,.own 68 .tran tr]=>some (some (g∈kY∧Fit ⟨nm,ev,vs,st,tr⟩ 6001∧okW w∧(GC g ⟨nm,ev,vs,st,tr⟩ d w).isSome=true),.x (.c (.pd (.bool true))),[.cells [.pd (.str (got (GC g ⟨nm,ev,vs,st,tr⟩ d w)).name),.own 5,.own 6,.own 7,.own 8,.pd (.int .i64 d)] 45,.dead,.dead,.dead,.dead,.own 9 .str (got (GC g ⟨nm,ev,vs,st,tr⟩ d w)).events,.own 61 .var (got (GC g ⟨nm,ev,vs,st,tr⟩ d w)).vars,.own 64 .stat (got (GC g ⟨nm,ev,vs,st,tr⟩ d w)).states,.own 68 .tran (got (GC g ⟨nm,ev,vs,st,tr⟩ d w)).trans])
 | _,_=>none)
noncomputable def Fz:Ent:=(g,fun
 | [.c (.loc 0 0),.c (.pd (.lst .str w))],[.cells [.pd (.str nm),.own 1,.own 2,.own 3,.own 4,.pd (.int .i64 d)] 45,.own 9 .str ev,.own 61 .var vs,.own 64 .stat st,.own 68 .tran tr]=>some (some (g∈kY∧Fit ⟨nm,ev,vs,st,tr⟩ 6001∧okW w∧(GC g ⟨nm,ev,vs,st,tr⟩ d w).isSome=false),.x (.c (.pd (.bool false))),[.dead,.dead,.dead,.dead,.dead])
 | _,_=>none)
noncomputable def Gf:Cfg:=⟨bu,[DC g]⟩
noncomputable def HS:Cfg:=⟨bu,[Fz g]⟩
theorem qK {g:Nat} (h:g∈kY):g=34∨g=35∨g=36∨g=37∨g=38∨g=39∨g=40∨g=41∨g=42∨g=43∨g=44∨g=45∨g=46:=by simpa [kY] using h
theorem Nl (p:Option Prop) (ret:SV) (ck':List Chunk) (h:(Fz g).2 vs ck=some (p,ret,ck')) (hp:Holds p):ak Tryz.prog (Fz g).1 vs ck ret ck':=by
 unfold Fz at h
 simp only at h
 split at h
 · rename_i w nm d ev vs st tr
   simp only [aa,ae] at h
   obtain ⟨rfl,rfl,rfl⟩:=h
   obtain ⟨hg,h1,h2,h3⟩:=hp
   rcases qK hg with rfl | rfl | rfl | rfl | rfl | rfl | rfl | rfl | rfl | rfl | rfl | rfl | rfl
   · exact Oc ⟨nm,ev,vs,st,tr⟩ d w h1 h3
   · exact N5 ⟨nm,ev,vs,st,tr⟩ d w h1 h2 h3
   · exact OO ⟨nm,ev,vs,st,tr⟩ d w h1 h3
   · exact OK ⟨nm,ev,vs,st,tr⟩ d w h1 h2 h3
   · exact Ka ⟨nm,ev,vs,st,tr⟩ d w h1 h3
   · exact Ml ⟨nm,ev,vs,st,tr⟩ d w h1 h3
   · exact I1 ⟨nm,ev,vs,st,tr⟩ d w h1 h3
   · exact Oz ⟨nm,ev,vs,st,tr⟩ d w h1 h3
   · exact EV ⟨nm,ev,vs,st,tr⟩ d w h1 h3
   · exact L6 ⟨nm,ev,vs,st,tr⟩ d w h1 h3
   · exact OY ⟨nm,ev,vs,st,tr⟩ d w h1 h3
   · exact Pe ⟨nm,ev,vs,st,tr⟩ d w h1 h3
   · exact OP ⟨nm,ev,vs,st,tr⟩ d w h1 h3
 · simp at h
theorem Gh:ai Tryz.prog (HS g).tab:=ai.cons (Nl g) ai.nil
theorem Nw (p:Option Prop) (ret:SV) (ck':List Chunk) (h:(DC g).2 vs ck=some (p,ret,ck')) (hp:Holds p):ak Tryz.prog (DC g).1 vs ck ret ck':=by
 unfold DC at h
 simp only at h
 split at h
 · rename_i w nm d ev vs st tr
   simp only [aa,ae] at h
   obtain ⟨rfl,rfl,rfl⟩:=h
   obtain ⟨hg,h1,h2,h3⟩:=hp
   rcases qK hg with rfl | rfl | rfl | rfl | rfl | rfl | rfl | rfl | rfl | rfl | rfl | rfl | rfl
   · exact Ou ⟨nm,ev,vs,st,tr⟩ d w h1 h3
   · exact L2 ⟨nm,ev,vs,st,tr⟩ d w h1 h2 h3
   · exact OL ⟨nm,ev,vs,st,tr⟩ d w h1 h3
   · exact NO ⟨nm,ev,vs,st,tr⟩ d w h1 h2 h3
   · exact I5 ⟨nm,ev,vs,st,tr⟩ d w h1 h3
   · exact L1 ⟨nm,ev,vs,st,tr⟩ d w h1 h3
   · exact KT ⟨nm,ev,vs,st,tr⟩ d w h1 h3
   · exact OB ⟨nm,ev,vs,st,tr⟩ d w h1 h3
   · exact D1 ⟨nm,ev,vs,st,tr⟩ d w h1 h3
   · exact Me ⟨nm,ev,vs,st,tr⟩ d w h1 h3
   · exact OW ⟨nm,ev,vs,st,tr⟩ d w h1 h3
   · exact OQ ⟨nm,ev,vs,st,tr⟩ d w h1 h3
   · exact Pa ⟨nm,ev,vs,st,tr⟩ d w h1 h3
 · simp at h
theorem Gl:ai Tryz.prog (Gf g).tab:=ai.cons (Nw g) ai.nil
/-! ### the loop over the lines -/
def Lj:Cfg:=⟨bu,[ve,qG,r6]⟩
theorem J2:ai Tryz.prog Lj.tab:=(ai.cons HZ (ai.cons xf (ai.cons EH ai.nil)))
def HV:Cfg:=⟨bu,[DO,hG]⟩
theorem Hw:ai Tryz.prog HV.tab:=(ai.cons L0 (ai.cons fH ai.nil))
def BA:Cfg:=⟨bu,[Eb,hG]⟩
theorem xC:ai Tryz.prog BA.tab:=(ai.cons L9 (ai.cons fH ai.nil))
def CpQ:Out:=fun v k=>(eL s→v = .tup [.agg [.pd (.str (aq s).1.name),.own 0,.own 1,.own 2,.own 3],.i 0,.i 0]∧k=[.own 9 .str (aq s).1.events,.own 61 .var (aq s).1.vars,.own 64 .stat (aq s).1.states,.own 68 .tran (aq s).1.trans])∧(¬eL s→v = .tup [.agg [.pd (.str []),.pd (.v (.slice none 0 0)),.pd (.v (.slice none 0 0)),.pd (.v (.slice none 0 0)),.pd (.v (.slice none 0 0))],.i (aq s).2.1,.i (aq s).2.2]∧k=[])
theorem CpQ.no {s:Str} {n e:Int} (h:aq s=(c7,n,e)) (he:e≠0):CpQ s (.tup [.agg [.pd (.str []),.pd (.v (.slice none 0 0)),.pd (.v (.slice none 0 0)),.pd (.v (.slice none 0 0)),.pd (.v (.slice none 0 0))],.i n,.i e]) []:=by
 refine ⟨fun hr=>absurd ?_ he,fun _=>by rw [h]; exact ⟨rfl,rfl⟩⟩
 have h2:(aq s).2.2=0:=hr
 rw [h] at h2; exact h2
abbrev zWr14:List Chunk:=[.own 9 .str a.events,.own 61 .var a.vars,.own 64 .stat a.states,.own 68 .tran a.trans]
theorem CpQ.yes {s:Str} {c:Chart} {v:SV} {k:List Chunk} (h:aq s=(c,0,0)) (hv:v = .tup [.agg [.pd (.str c.name),.own 0,.own 1,.own 2,.own 3],.i 0,.i 0]) (hk:k=(zWr14 c)):CpQ s v k:=by
 refine ⟨fun _=>by rw [h]; exact ⟨hv,hk⟩,fun hn=>absurd ?_ hn⟩
 show (aq s).2.2=0; rw [h]
def iZ:Prop:=s.length≤6000∧dF s=ls∧dq c7 0 ls=dq c k (ls.drop k)∧Fit c k∧k≤ls.length
theorem iZ.len {s:Str} {ls:List Str} {c:Chart} {k:Nat} (h:iZ s ls c k):ls.length≤6001:=by
 have:=oo s; rw [h.2.1] at this; have:=h.1; omega
theorem iZ.line {s:Str} {ls:List Str} {c:Chart} {k:Nat} (h:iZ s ls c k) (hk:k<ls.length):(ETy.get .str ls k).length≤6000:=by
 have h1:=List.mem_of_getElem? (ETy.getElem?_get (t:=.str) hk)
 have h2:ETy.get .str ls k∈dF s:=by rw [h.2.1]; exact h1
 have:=sj h2; have:=h.1; omega
theorem iZ.bad {s:Str} {ls:List Str} {c:Chart} {k:Nat} (h:iZ s ls c k) (hk:k<ls.length) (hl:dK c k (ETy.get .str ls k)=none):CpQ s (.tup [.agg [.pd (.str []),.pd (.v (.slice none 0 0)),.pd (.v (.slice none 0 0)),.pd (.v (.slice none 0 0)),.pd (.v (.slice none 0 0))],.i (IntKind.wrap .i64 ((k:Int)+1)),.i 1]) []:=by
 have hw:IntKind.wrap .i64 ((k:Int)+1)=(k:Int)+1:=by rw [cI (by have:=h.len; omega) (by have:=h.len; omega)]
 rw [hw]
 refine CpQ.no ?_ (by decide)
 have e:dq c7 0 (dF s)=(c7,some k):=by rw [h.2.1,h.2.2.1,bY (t:=.str) hk,dq,hl]
 rw [aq,if_neg (by have:=h.1; omega),e]
theorem iZ.next {s:Str} {ls:List Str} {c c':Chart} {k:Nat} (h:iZ s ls c k) (hk:k<ls.length) (hl:dK c k (ETy.get .str ls k)=some c'):iZ s ls c' (k+1):=by
 refine ⟨h.1,h.2.1,?_,h.2.2.2.1.line (h.line hk) hl,by omega⟩
 rw [h.2.2.1,bY (t:=.str) hk,dq,hl]
theorem iZ.done {s:Str} {ls:List Str} {c:Chart} {k:Nat} (h:iZ s ls c k) (hk:¬k<ls.length):aq s=(c,0,0):=by
 have e:dq c7 0 (dF s)=(c,none):=by rw [h.2.1,h.2.2.1,b9 hk]; rfl
 rw [aq,if_neg (by have:=h.1; omega),e]
theorem F6 {l:Str} (h:gP l=true) (hl:l.length≤6000):okW (bq l):=by
 intro x hx
 have h1:=o8 (al.1 h x hx)
 refine ⟨?_,hJ h1 fun c hc=>?_⟩
 · have:=oP (l.drop (bE l)) [] x hx
   simp only [aj,bF] at this; omega
 · simp only [fh,ab,decide_eq_true_eq] at hc
   exact decide_eq_true (by omega)
theorem nz:∀ (rest:List UInt8) (cur:Str),(cm cur rest).length≤rest.length+1
 | [],cur=>by simp [cm]
 | c::r,cur=>by
   unfold cm
   cases ((c.toNat:Int)==32)
   · have:=nz r (cur++[c]); simp only [cond_false,ah]; omega
   · have:=nz r []; simp only [cond_true,ah]; omega
theorem B9 (l:Str):(bq l).length≤l.length+1:=by
 have:=nz (l.drop (bE l)) []
 rw [bF] at this
 show (cm [] (l.drop (bE l))).length≤_; omega
abbrev zWr1:PD:=(PD.tbl [([(101:UInt8),118,101,110,116],34),([(105:UInt8),110,116],35),([(98:UInt8),111,111,108],36),([(112:UInt8),111,105,110,116],37),([(98:UInt8),97,115,105,99],38),([(98:UInt8),111,116,104],39),([(102:UInt8),105,110,97,108],40),([(111:UInt8),110,101],41),([(115:UInt8),104,97,108,108,111,119],42),([(100:UInt8),101,101,112],43),([(101:UInt8),110,116,114,121],44),([(101:UInt8),120,105,116],45),([(111:UInt8),110],46)])
abbrev zWr2:Chunk:=.cells [.pd (.str []),.pd (.v (Value.slice none 0 0)),.pd (.v (Value.slice none 0 0)),.pd (.v (Value.slice none 0 0)),.pd (.v (Value.slice none 0 0))] 27
abbrev zWr5:List PI:=[.code [1,1,1,1,0,1,0,0],.inLoop [1,1,1,1,0,1,0,0],.inBlock 0,.code [1,1,1,1,1]]
abbrev zWr7:List PI:=[.ops [1,1,1,1,0,1,0,0,1,1,0,0,1,1,1,1,0,0,1,1,1,1,1] 8,.inBlock 2,.code [1,1,1,1,0,1,0,0,1,1,0,0,1,1,1,1,1],.inBlock 1,.code [1,1,1,1,0,1,0,0,1,1,1],.inLoop [1,1,1,1,0,1,0,0],.inBlock 0,.code [1,1,1,1,1]]
theorem OV (d:Int) (k:Nat) (W:List Str) (w0:Str) (g:Nat) (Γ:Ctx) (hF:iZ s ls c k) (hk:k<ls.length) (hl:dK c k (ETy.get .str ls k)=none):zJ8Wr Γ (CpQ s) zWr7 ({ n:=101,fr:=[(2,.x (.c (.loc 0 0))),(3,.i 0),(4,.i 0),(5,.x (.c (.loc 1 0))),(6,.p zWr1),(23,.x (.c (.own 2))),(24,.i ls.length),(25,.i k),(7,.i k),(49,.p (.bool true)),(50,.x (.c (.fn (.func g) [] []))),(51,.x (.c (.loc 1 0))),(53,.p (.lst .str (((aB W (some 1) none).2)))),(54,.p (.bool false))],ck:=[zWr2,.dead,.own 9 .str ls,.dead,.dead,.dead,.dead] }):=by
 refine jg bH Tryz.func8 (let x1:=(Value.slice none 0 0); let x2:=(IntKind.wrap .i64 ((k:Int)+1)); .ite true (.ret (.tup [.agg [.pd (.str []),.pd (.v x1),.pd (.v x1),.pd (.v x1),.pd (.v x1)],.i x2,.i 1]) []) (.stop zWr5 { n:=101,fr:=[(2,.x (.c (.loc 0 0))),(3,.i 0),(4,.i 0),(5,.x (.c (.loc 1 0))),(6,.p zWr1),(23,.x (.c (.own 2))),(24,.i ls.length),(25,.i x2)],ck:=[.cells [.pd (.str []),.pd (.v x1),.pd (.v x1),.pd (.v x1),.pd (.v x1)] 27,.dead,.own 9 .str ls] })) ?_
 conv=>zeta
 exact ⟨fun _=>hF.bad hk hl,fun x=>Bool.noConfusion x⟩
abbrev zWr6 (a:List Str) (b:Nat) (c:Chart) (d:Int):ST:={ n:=101,fr:=[(2,.x (.c (.loc 0 0))),(3,.i 0),(4,.i 0),(5,.x (.c (.loc 1 0))),(6,.p (PD.tbl cU)),(23,.x (.c (.own 2))),(24,.i ((a.length:Int))),(25,.i (((b+1:Nat):Int)))],ck:=[zWr2,.cells [.pd (.str c.name),.own 3,.own 4,.own 5,.own 6,SC.i d] 45,.own 9 .str a,.own 9 .str c.events,.own 61 .var c.vars,.own 64 .stat c.states,.own 68 .tran c.trans] }
abbrev zWr9 (b:Int):Chunk:=.cells [.pd (.str a.name),.own 3,.own 4,.own 5,.own 6,.i b] 45
abbrev zWr15:Chunk:=.own 64 .stat a.states
abbrev zWr16:Chunk:=.own 68 .tran a.trans
abbrev zWr17:Chunk:=.own 9 .str a.events
abbrev zWr18:Chunk:=.own 61 .var a.vars
theorem OS (w0:Str) (g:Nat) (e:Chart) (Γ:Ctx) (hF:iZ s ls c k) (hk:k<ls.length) (next:zJ8Wr Γ (CpQ s) zWr5 ((zWr6 ls k e d))):zJ8Wr Γ (CpQ s) zWr7 ({ n:=101,fr:=[(2,.x (.c (.loc 0 0))),(3,.i 0),(4,.i 0),(5,.x (.c (.loc 1 0))),(6,.p zWr1),(23,.x (.c (.own 2))),(24,.i ls.length),(25,.i k),(7,.i k),(49,.p (.bool true)),(50,.x (.c (.fn (.func g) [] []))),(51,.x (.c (.loc 1 0))),(53,.p (.lst .str (((aB W (some 1) none).2)))),(54,.p (.bool true))],ck:=[zWr2,.cells [.pd (.str e.name),.own 7,.own 8,.own 9,.own 10,SC.i d] 45,.own 9 .str ls,.dead,.dead,.dead,.dead,zWr17 e,zWr18 e,zWr15 e,zWr16 e] }):=by
 refine jg bH Tryz.func8 (let x1:=(Value.slice none 0 0); let x2:=(IntKind.wrap .i64 ((k:Int)+1)); .ite false (.ret (.tup [.agg [.pd (.str []),.pd (.v x1),.pd (.v x1),.pd (.v x1),.pd (.v x1)],.i x2,.i 1]) []) (.stop zWr5 { n:=101,fr:=[(2,.x (.c (.loc 0 0))),(3,.i 0),(4,.i 0),(5,.x (.c (.loc 1 0))),(6,.p zWr1),(23,.x (.c (.own 2))),(24,.i ls.length),(25,.i x2)],ck:=[.cells [.pd (.str []),.pd (.v x1),.pd (.v x1),.pd (.v x1),.pd (.v x1)] 27,zWr9 e d,.own 9 .str ls,zWr17 e,zWr18 e,zWr15 e,zWr16 e] })) ?_
 conv=>zeta
 have hw:IntKind.wrap .i64 ((k:Int)+1)=((k+1:Nat):Int):=dY (by have:=hF.len; omega)
 rw [hw]
 exact ⟨fun x=>Bool.noConfusion x,fun _=>next⟩
abbrev zWr3:List PI:=[.ops [1,1,1,1,0,1,0,0,1,1,0,0,1,1,1,1,0,0,1,1,1,1,0] 4,.code [1,1,1,1,0,1,0,0,1,1,0,0,1,1,1,1,0,0,1,1,1,1,1],.inBlock 2,.code [1,1,1,1,0,1,0,0,1,1,0,0,1,1,1,1,1],.inBlock 1,.code [1,1,1,1,0,1,0,0,1,1,1],.inLoop [1,1,1,1,0,1,0,0],.inBlock 0,.code [1,1,1,1,1]]
abbrev zWr4 (a:List Str) (b:Nat) (c:Str) (d:Chart) (e:Int) (f:List Str):ST:={ n:=101,fr:=[(2,.x (.c (.loc 0 0))),(3,.i 0),(4,.i 0),(5,.x (.c (.loc 1 0))),(6,.p (PD.tbl cU)),(23,.x (.c (.own 2))),(24,.i a.length),(25,.i b),(7,.i b),(10,.x (.c (.own 7))),(42,.p (PD.tbl cU)),(45,.p (.str c))],ck:=[zWr2,.cells [.pd (.str d.name),.own 3,.own 4,.own 5,.own 6,SC.i e] 45,.own 9 .str a,.own 9 .str d.events,.own 61 .var d.vars,.own 64 .stat d.states,.own 68 .tran d.trans,.own 9 .str f] }
abbrev zWr8 (a:List Str) (b:Nat) (c:List Str) (d:Str) (e:Chart) (f:Int):ST:={ n:=101,fr:=[(2,.x (.c (.loc 0 0))),(3,.i 0),(4,.i 0),(5,.x (.c (.loc 1 0))),(6,.p (PD.tbl cU)),(23,.x (.c (.own 2))),(24,.i a.length),(25,.i b),(7,.i b),(10,.p (.lst .str c)),(42,.p (PD.tbl cU)),(45,.p (.str d))],ck:=[zWr2,.cells [.pd (.str e.name),.own 3,.own 4,.own 5,.own 6,SC.i f] 45,.own 9 .str a,.own 9 .str e.events,.own 61 .var e.vars,.own 64 .stat e.states,.own 68 .tran e.trans,.dead] }
abbrev zWr10:List PI:=[.ops [1,1,1,1,0,1,0,0,1,1,0,0,1,1,1,1,0,0,1,1,1,1,0] 5,.code [1,1,1,1,0,1,0,0,1,1,0,0,1,1,1,1,0,0,1,1,1,1,1],.inBlock 2,.code [1,1,1,1,0,1,0,0,1,1,0,0,1,1,1,1,1],.inBlock 1,.code [1,1,1,1,0,1,0,0,1,1,1],.inLoop [1,1,1,1,0,1,0,0],.inBlock 0,.code [1,1,1,1,1]]
abbrev zWr12:List PI:=[.ops [1,1,1,1,0,1,0,0,1,1,0,0,1,1,1,1,0,0,1,1,1,1,1] 1,.inBlock 2,.code [1,1,1,1,0,1,0,0,1,1,0,0,1,1,1,1,1],.inBlock 1,.code [1,1,1,1,0,1,0,0,1,1,1],.inLoop [1,1,1,1,0,1,0,0],.inBlock 0,.code [1,1,1,1,1]]
theorem Mk (hg:fT cU w0=some g) (hcall:zJ8Wr Γ (CpQ s) [.ops [1,1,1,1,0,1,0,0,1,1,0,0,1,1,1,1,0,0,1,1,1,1,1] 2,.inBlock 2,.code [1,1,1,1,0,1,0,0,1,1,0,0,1,1,1,1,1],.inBlock 1,.code [1,1,1,1,0,1,0,0,1,1,1],.inLoop [1,1,1,1,0,1,0,0],.inBlock 0,.code [1,1,1,1,1]] ({ n:=101,fr:=[(2,.x (.c (.loc 0 0))),(3,.i 0),(4,.i 0),(5,.x (.c (.loc 1 0))),(6,.p zWr1),(23,.x (.c (.own 2))),(24,.i ls.length),(25,.i k),(7,.i k),(10,.p (.lst .str W)),(13,.x (.c (.fn (.func g) [] []))),(47,.x (.c (.fn (.func g) [] []))),(48,.p (.bool true))],ck:=[zWr2,zWr9 c d,.own 9 .str ls,zWr17 c,zWr18 c,zWr15 c,zWr16 c] })):zJ8Wr Γ (CpQ s) zWr3 ((zWr4 ls k w0 c d W)):=by
 have h2:zJ8Wr Γ (CpQ s) zWr10 ({ n:=101,fr:=[(2,.x (.c (.loc 0 0))),(3,.i 0),(4,.i 0),(5,.x (.c (.loc 1 0))),(6,.p (PD.tbl cU)),(23,.x (.c (.own 2))),(24,.i ls.length),(25,.i k),(7,.i k),(10,.p (.lst .str W)),(42,.p (PD.tbl cU)),(45,.p (.str w0)),(46,.x (.c (.fn (.func g) [] [])))],ck:=[zWr2,.cells [.pd (.str c.name),.own 3,.own 4,.own 5,.own 6,SC.i d] 45,.own 9 .str ls,zWr17 c,zWr18 c,zWr15 c,zWr16 c,.dead] }):=by
  refine jg bH Tryz.func8 (.stop zWr12 { n:=101,fr:=[(2,.x (.c (.loc 0 0))),(3,.i 0),(4,.i 0),(5,.x (.c (.loc 1 0))),(6,.p zWr1),(23,.x (.c (.own 2))),(24,.i ls.length),(25,.i k),(7,.i k),(10,.p (.lst .str W)),(13,.x (.c (.fn (.func g) [] []))),(47,.x (.c (.fn (.func g) [] [])))],ck:=[zWr2,zWr9 c d,.own 9 .str ls,zWr17 c,zWr18 c,zWr15 c,zWr16 c] }) ?_
  exact J.fnNil (d:=48) (b:=true) (by kernel_rfl) hcall
 have h1:zJ8Wr Γ (CpQ s) zWr3 ((zWr8 ls k W w0 c d)):=by
  refine J.lookup (d:=46) (m:=42) (kx:=.tmp 45) (et:=53) (l:=cU) (s:=w0) (z:=.v .nilFunc) (zv:=.nilFunc) (by kernel_rfl) rfl rfl rfl (fun hn=>by rw [hg] at hn; cases hn) ?_
  rw [hg]; exact h2
 exact J.freeze bu [7] (by kernel_rfl) h1
abbrev zWr13:List PI:=[.ops [1,1,1,1,0,1,0,0,1,1,0,0,1,1,1,1,0,0,1,1,1,1,1] 7,.inBlock 2,.code [1,1,1,1,0,1,0,0,1,1,0,0,1,1,1,1,1],.inBlock 1,.code [1,1,1,1,0,1,0,0,1,1,1],.inLoop [1,1,1,1,0,1,0,0],.inBlock 0,.code [1,1,1,1,1]]
theorem DD (hF:iZ s ls c k) (hk:k<ls.length) (hW:1≤W.length) (hg:fT cU w0=none) (hl:dK c k (ETy.get .str ls k)=none):zJ8Wr Γ (CpQ s) zWr3 ((zWr4 ls k w0 c d W)):=by
 have h3:zJ8Wr Γ (CpQ s) zWr7 ({ n:=101,fr:=[(2,.x (.c (.loc 0 0))),(3,.i 0),(4,.i 0),(5,.x (.c (.loc 1 0))),(6,.p zWr1),(23,.x (.c (.own 2))),(24,.i ls.length),(25,.i k),(7,.i k),(49,.p (.bool false)),(50,.grd 49 true (.p (.v Value.nilFunc))),(51,.grd 49 true (.c (.loc 1 0))),(53,.grd 49 true (.p (.lst .str ((aB W (some (1:Int)) none).2)))),(54,.grd 49 true (.p (.bool false)))],ck:=[zWr2,zWr9 c d,.own 9 .str ls,zWr17 c,zWr18 c,zWr15 c,zWr16 c] }):=by
  refine jg bH Tryz.func8 (let x1:=(Value.slice none 0 0); let x2:=(IntKind.wrap .i64 ((k:Int)+1)); .ite true (.ret (.tup [.agg [.pd (.str []),.pd (.v x1),.pd (.v x1),.pd (.v x1),.pd (.v x1)],.i x2,.i 1]) []) (.stop zWr5 { n:=101,fr:=[(2,.x (.c (.loc 0 0))),(3,.i 0),(4,.i 0),(5,.x (.c (.loc 1 0))),(6,.p zWr1),(23,.x (.c (.own 2))),(24,.i ls.length),(25,.i x2)],ck:=[.cells [.pd (.str []),.pd (.v x1),.pd (.v x1),.pd (.v x1),.pd (.v x1)] 27,zWr9 c d,.own 9 .str ls,zWr17 c,zWr18 c,zWr15 c,zWr16 c] })) ?_
  conv=>zeta
  exact ⟨fun _=>hF.bad hk hl,fun x=>Bool.noConfusion x⟩
 have h2:zJ8Wr Γ (CpQ s) zWr10 ({ n:=101,fr:=[(2,.x (.c (.loc 0 0))),(3,.i 0),(4,.i 0),(5,.x (.c (.loc 1 0))),(6,.p (PD.tbl cU)),(23,.x (.c (.own 2))),(24,.i ls.length),(25,.i k),(7,.i k),(10,.p (.lst .str W)),(42,.p (PD.tbl cU)),(45,.p (.str w0)),(46,.p (.v Value.nilFunc))],ck:=[zWr2,.cells [.pd (.str c.name),.own 3,.own 4,.own 5,.own 6,SC.i d] 45,.own 9 .str ls,zWr17 c,zWr18 c,zWr15 c,zWr16 c,.dead] }):=by
  refine jg bH Tryz.func8 (.stop zWr12 { n:=101,fr:=[(2,.x (.c (.loc 0 0))),(3,.i 0),(4,.i 0),(5,.x (.c (.loc 1 0))),(6,.p zWr1),(23,.x (.c (.own 2))),(24,.i ls.length),(25,.i k),(7,.i k),(10,.p (.lst .str W)),(13,.p (.v Value.nilFunc)),(47,.p (.v Value.nilFunc))],ck:=[zWr2,zWr9 c d,.own 9 .str ls,zWr17 c,zWr18 c,zWr15 c,zWr16 c] }) ?_
  refine J.fnNil (d:=48) (b:=false) (by kernel_rfl) ?_
  refine jg bH Tryz.func8 (.need (false=true→(0:Int)≤1∧(1:Int)≤(W.length:Int)) (.stop zWr13 { n:=101,fr:=[(2,.x (.c (.loc 0 0))),(3,.i 0),(4,.i 0),(5,.x (.c (.loc 1 0))),(6,.p zWr1),(23,.x (.c (.own 2))),(24,.i ls.length),(25,.i k),(7,.i k),(49,.p (.bool false)),(50,.grd 49 true (.p (.v Value.nilFunc))),(51,.grd 49 true (.c (.loc 1 0))),(53,.grd 49 true (.p (.lst .str ((aB W (some (1:Int)) none).2))))],ck:=[zWr2,zWr9 c d,.own 9 .str ls,zWr17 c,zWr18 c,zWr15 c,zWr16 c] })) ?_
  exact ⟨fun x=>Bool.noConfusion x,J.off 1 7 (by kernel_rfl) h3⟩
 have h1:zJ8Wr Γ (CpQ s) zWr3 ((zWr8 ls k W w0 c d)):=by
  refine J.lookup (d:=46) (m:=42) (kx:=.tmp 45) (et:=53) (l:=cU) (s:=w0) (z:=.v .nilFunc) (zv:=.nilFunc) (by kernel_rfl) rfl rfl rfl (fun _ w=>Tryz.zeroValue53 w) ?_
  rw [hg]; exact h2
 exact J.freeze bu [7] (by kernel_rfl) h1
theorem MF (hF:iZ s ls c k) (hk:k<ls.length) (hW:1≤W.length) (hw:okW W) (hg:g∈kY) (ht:fT cU w0=some g) (hb:dK c k (ETy.get .str ls k)=GC g c d (W.drop 1)) (next:∀ e,dK c k (ETy.get .str ls k)=some e→zJ8Wr Γ (CpQ s) zWr5 ((zWr6 ls k e d))):zJ8Wr Γ (CpQ s) zWr3 ((zWr4 ls k w0 c d W)):=by
 have hf:Fit c 6001:=hF.2.2.2.1.le (by have:=hF.len; omega)
 refine Mk s ls c d k W w0 g Γ ht ?_
 refine J.go (cfg:=cF) bH Tryz.func8 1000 (t:=(.need (true=true→(0:Int)≤1∧(1:Int)≤(W.length:Int)) (.stop zWr13 { n:=101,fr:=[(2,.x (.c (.loc 0 0))),(3,.i 0),(4,.i 0),(5,.x (.c (.loc 1 0))),(6,.p zWr1),(23,.x (.c (.own 2))),(24,.i ls.length),(25,.i k),(7,.i k),(49,.p (.bool true)),(50,.grd 49 true (.c (.fn (.func g) [] []))),(51,.grd 49 true (.c (.loc 1 0))),(53,.grd 49 true (.p (.lst .str ((aB W (some (1:Int)) none).2))))],ck:=[zWr2,zWr9 c d,.own 9 .str ls,zWr17 c,zWr18 c,zWr15 c,zWr16 c] }))) (by rcases qK hg with rfl | rfl | rfl | rfl | rfl | rfl | rfl | rfl | rfl | rfl | rfl | rfl | rfl <;> kernel_rfl) ?_
 refine ⟨fun _=>⟨by omega,by omega⟩,?_⟩
 cases hs:(GC g c d (W.drop 1)).isSome
 · have hn:dK c k (ETy.get .str ls k)=none:=by rw [hb]; exact Option.isSome_eq_false_iff.1 hs |> fun x=>by simpa using x
   exact J.on (cfg:=HS g) (Gh g) (q:=some (g∈kY∧Fit c 6001∧okW (Prod.snd (aB W (some 1) none))∧(GC g c d (Prod.snd (aB W (some 1) none))).isSome=false)) (by rcases qK hg with rfl | rfl | rfl | rfl | rfl | rfl | rfl | rfl | rfl | rfl | rfl | rfl | rfl <;> kernel_rfl) (by exact ⟨hg,hf,by rw [js]; exact hw.drop 1,by rw [js]; exact hs⟩) (OV s ls c d k W w0 g Γ hF hk hn)
 · obtain ⟨e,he⟩:=dM.1 hs
   have hq:got (GC g c d (Prod.snd (aB W (some 1) none)))=e:=by rw [js]; exact IT he
   have key:=OS s ls c d k W w0 g (got (GC g c d (Prod.snd (aB W (some 1) none)))) Γ hF hk (by rw [hq]; exact next e (by rw [hb]; exact he))
   exact J.on (cfg:=Gf g) (Gl g) (q:=some (g∈kY∧Fit c 6001∧okW (Prod.snd (aB W (some 1) none))∧(GC g c d (Prod.snd (aB W (some 1) none))).isSome=true)) (by rcases qK hg with rfl | rfl | rfl | rfl | rfl | rfl | rfl | rfl | rfl | rfl | rfl | rfl | rfl <;> kernel_rfl) (by exact ⟨hg,hf,by rw [js]; exact hw.drop 1,by rw [js]; exact hs⟩) key
theorem Kg {w0:Str} (h:w0≠gl∧w0≠nJ∧w0≠jL∧w0≠jH∧w0≠mB∧w0≠oU∧w0≠mD∧w0≠sZ∧w0≠jX∧w0≠pn∧w0≠iz∧w0≠iW∧w0≠wOn):fT cU w0=none:=by
 obtain ⟨n0,n1,n2,n3,n4,n5,n6,n7,n8,n9,n10,n11,n12⟩:=h
 have ne:∀ a b:Str,b≠a→(a==b)=false:=fun a b h=>by rw [beq_eq_false_iff_ne]; exact fun e=>h e.symm
 simp only [cU,fT]
 rw [ne _ _ n0,ne _ _ n1,ne _ _ n2,ne _ _ n3,ne _ _ n4,ne _ _ n5,ne _ _ n6,ne _ _ n7,ne _ _ n8,ne _ _ n9,ne _ _ n10,ne _ _ n11,ne _ _ n12]
 rfl
theorem HX:(∃ g,fT cU w0=some g∧g∈kY∧ct c d w0 w=GC g c d w)∨(fT cU w0=none∧ct c d w0 w=none):=by
 by_cases k0:w0=gl
 · subst k0; exact .inl ⟨34,by decide,by decide,by rw [ct,if_pos rfl]; rfl⟩
 by_cases k1:w0=nJ
 · subst k1; exact .inl ⟨35,by decide,by decide,by rw [ct,if_neg (by decide),if_pos rfl]; rfl⟩
 by_cases k2:w0=jL
 · subst k2; exact .inl ⟨36,by decide,by decide,by rw [ct,if_neg (by decide),if_neg (by decide),if_pos rfl]; rfl⟩
 by_cases k3:w0=jH
 · subst k3; exact .inl ⟨37,by decide,by decide,by rw [ct,if_neg (by decide),if_neg (by decide),if_neg (by decide),if_pos rfl]; rfl⟩
 by_cases k4:w0=mB
 · subst k4; exact .inl ⟨38,by decide,by decide,by rw [ct,if_neg (by decide),if_neg (by decide),if_neg (by decide),if_neg (by decide),if_pos rfl]; rfl⟩
 by_cases k5:w0=oU
 · subst k5; exact .inl ⟨39,by decide,by decide,by rw [ct,if_neg (by decide),if_neg (by decide),if_neg (by decide),if_neg (by decide),if_neg (by decide),if_pos rfl]; rfl⟩
 by_cases k6:w0=mD
 · subst k6; exact .inl ⟨40,by decide,by decide,by rw [ct,if_neg (by decide),if_neg (by decide),if_neg (by decide),if_neg (by decide),if_neg (by decide),if_neg (by decide),if_pos rfl]; rfl⟩
 by_cases k7:w0=sZ
 · subst k7; exact .inl ⟨41,by decide,by decide,by rw [ct,if_neg (by decide),if_neg (by decide),if_neg (by decide),if_neg (by decide),if_neg (by decide),if_neg (by decide),if_neg (by decide),if_pos rfl]; rfl⟩
 by_cases k8:w0=jX
 · subst k8; exact .inl ⟨42,by decide,by decide,by rw [ct,if_neg (by decide),if_neg (by decide),if_neg (by decide),if_neg (by decide),if_neg (by decide),if_neg (by decide),if_neg (by decide),if_neg (by decide),if_pos rfl]; rfl⟩
 by_cases k9:w0=pn
 · subst k9; exact .inl ⟨43,by decide,by decide,by rw [ct,if_neg (by decide),if_neg (by decide),if_neg (by decide),if_neg (by decide),if_neg (by decide),if_neg (by decide),if_neg (by decide),if_neg (by decide),if_neg (by decide),if_pos rfl]; rfl⟩
 by_cases k10:w0=iz
 · subst k10; exact .inl ⟨44,by decide,by decide,by rw [ct,if_neg (by decide),if_neg (by decide),if_neg (by decide),if_neg (by decide),if_neg (by decide),if_neg (by decide),if_neg (by decide),if_neg (by decide),if_neg (by decide),if_neg (by decide),if_pos rfl]; rfl⟩
 by_cases k11:w0=iW
 · subst k11; exact .inl ⟨45,by decide,by decide,by rw [ct,if_neg (by decide),if_neg (by decide),if_neg (by decide),if_neg (by decide),if_neg (by decide),if_neg (by decide),if_neg (by decide),if_neg (by decide),if_neg (by decide),if_neg (by decide),if_neg (by decide),if_pos rfl]; rfl⟩
 by_cases k12:w0=wOn
 · subst k12; exact .inl ⟨46,by decide,by decide,by rw [ct,if_neg (by decide),if_neg (by decide),if_neg (by decide),if_neg (by decide),if_neg (by decide),if_neg (by decide),if_neg (by decide),if_neg (by decide),if_neg (by decide),if_neg (by decide),if_neg (by decide),if_neg (by decide),if_pos rfl]; rfl⟩
 exact .inr ⟨Kg ⟨k0,k1,k2,k3,k4,k5,k6,k7,k8,k9,k10,k11,k12⟩,by rw [ct,if_neg k0,if_neg k1,if_neg k2,if_neg k3,if_neg k4,if_neg k5,if_neg k6,if_neg k7,if_neg k8,if_neg k9,if_neg k10,if_neg k11,if_neg k12]⟩
abbrev zWr11 (a:List Str) (b:Nat) (c:Chart) (d:Int):ST:={ n:=101,fr:=[(2,.x (.c (.loc 0 0))),(3,.i 0),(4,.i 0),(5,.x (.c (.loc 1 0))),(6,.p (PD.tbl cU)),(23,.x (.c (.own 2))),(24,.i ((a.length:Int))),(25,.i b)],ck:=[zWr2,.cells [.pd (.str c.name),.own 3,.own 4,.own 5,.own 6,SC.i d] 45,.own 9 .str a,.own 9 .str c.events,.own 61 .var c.vars,.own 64 .stat c.states,.own 68 .tran c.trans] }
theorem GH (hF:iZ s ls c k) (hk:¬k<ls.length):zJ8Wr Γ (CpQ s) zWr5 ((zWr11 ls k c d)):=by
 refine jg xC Tryz.func8 (let x1:=zWr1; let x3:=(Value.slice none 0 0); let x2:List Chunk:=[.cells [.pd (.str []),.pd (.v x3),.pd (.v x3),.pd (.v x3),.pd (.v x3)] 27,.cells [.pd (.str c.name),.own 3,.own 4,.own 5,.own 6,.i 0] 45,.own 9 .str ls,zWr17 c,zWr18 c,zWr15 c,zWr16 c]; let x4:List Nat:=[1,1,1,1,0,1,0,0]; let x5:List Nat:=[1,1,1,1,0,1,0,0,1,1,0,0,1,1,1,1,1]; let x6:=(IntKind.wrap .i64 ((k:Int)+1)); let x7:Nat×SV:=(2,.x (.c (.loc 0 0))); let x8:Nat×SV:=(5,.x (.c (.loc 1 0))); .ite (decide ((k:Int)<(ls.length:Int))) (.need (inRg k ls.length) (.need (k<ls.length) (.need ((ETy.get .str ls k).length≤2097152∧gP (ETy.get .str ls k)=false) (.ite true (.ite true (.ret (.tup [.agg [.pd (.str []),.pd (.v x3),.pd (.v x3),.pd (.v x3),.pd (.v x3)],.i x6,.i 1]) []) (.stop [.code x4,.inLoop x4,.inBlock 0,.code [1,1,1,1,1]] { n:=101,fr:=[x7,(3,.i 0),(4,.i 0),x8,(6,.p x1),(23,.x (.c (.own 2))),(24,.i ls.length),(25,.i x6)],ck:=x2 })) (.ite ((k:Int)==0) (.stop [.ops [1,1,1,1,0,1,0,0,1,1,0,0,1,1,1,1,0,0,1,1,1,0,0] 9,.code [1,1,1,1,0,1,0,0,1,1,0,0,1,1,1,1,0,0,1,1,1,0,1],.inBlock 2,.code x5,.inBlock 1,.code [1,1,1,1,0,1,0,0,1,1,1],.inLoop x4,.inBlock 0,.code [1,1,1,1,1]] { n:=101,fr:=[x7,(3,.i 0),(4,.i 0),x8,(6,.p x1),(23,.x (.c (.own 2))),(24,.i ls.length),(25,.i k),(7,.i k),(10,.p (.v x3)),(69,.p (.bool false)),(70,.grd 69 true (.p (.v x3)))],ck:=x2 }) (.stop [.ops [1,1,1,1,0,1,0,0,1,1,0,0,1,1,1,1,0,0,1,1,1,1,0] 2,.code [1,1,1,1,0,1,0,0,1,1,0,0,1,1,1,1,0,0,1,1,1,1,1],.inBlock 2,.code x5,.inBlock 1,.code [1,1,1,1,0,1,0,0,1,1,1],.inLoop x4,.inBlock 0,.code [1,1,1,1,1]] { n:=101,fr:=[x7,(3,.i 0),(4,.i 0),x8,(6,.p x1),(23,.x (.c (.own 2))),(24,.i ls.length),(25,.i k),(7,.i k),(10,.p (.v x3)),(42,.p x1),(43,.p (.v x3))],ck:=x2 })))))) (.ret (.tup [.agg [.pd (.str c.name),.own 0,.own 1,.own 2,.own 3],.i 0,.i 0]) (zWr14 c))) ?_
 conv=>zeta
 rw [show decide ((k:Int)<(ls.length:Int))=false from decide_eq_false (by omega)]
 exact ⟨fun x=>Bool.noConfusion x,fun _=>CpQ.yes (hF.done hk) rfl rfl⟩
theorem LW:∀ (n k:Nat) (c:Chart) (d:Int),ls.length - k≤n→iZ s ls c k→zJ8Wr Γ (CpQ s) zWr5 ((zWr11 ls k c d)):=by
 intro n
 induction n with
 | zero =>
   intro k c d hn hF
   exact GH s ls c d k Γ hF (by omega)
 | succ n ih =>
   intro k c d hn hF
   have hlen:=hF.len
   by_cases hk:k<ls.length
   · have hll:=hF.line hk
     have hw:IntKind.wrap .i64 ((k:Int)+1)=((k+1:Nat):Int):=dY (by omega)
     have next:∀ (d':Int) (e:Chart),dK c k (ETy.get .str ls k)=some e→zJ8Wr Γ (CpQ s) zWr5 ((zWr6 ls k e d')):=fun d' e he=>ih (k+1) e d' (by omega) (hF.next hk he)
     have lt:decide ((k:Int)<(ls.length:Int))=true:=decide_eq_true (by omega)
     cases hok:gP (ETy.get .str ls k)
     · refine jg xC Tryz.func8 (let x1:=zWr1; let x3:=(Value.slice none 0 0); let x2:List Chunk:=[.cells [.pd (.str []),.pd (.v x3),.pd (.v x3),.pd (.v x3),.pd (.v x3)] 27,.cells [.pd (.str c.name),.own 3,.own 4,.own 5,.own 6,.i 0] 45,.own 9 .str ls,zWr17 c,zWr18 c,zWr15 c,zWr16 c]; let x4:List Nat:=[1,1,1,1,0,1,0,0]; let x5:List Nat:=[1,1,1,1,0,1,0,0,1,1,0,0,1,1,1,1,1]; let x6:=(IntKind.wrap .i64 ((k:Int)+1)); let x7:Nat×SV:=(2,.x (.c (.loc 0 0))); let x8:Nat×SV:=(5,.x (.c (.loc 1 0))); .ite (decide ((k:Int)<(ls.length:Int))) (.need (inRg k ls.length) (.need (k<ls.length) (.need ((ETy.get .str ls k).length≤2097152∧gP (ETy.get .str ls k)=false) (.ite true (.ite true (.ret (.tup [.agg [.pd (.str []),.pd (.v x3),.pd (.v x3),.pd (.v x3),.pd (.v x3)],.i x6,.i 1]) []) (.stop [.code x4,.inLoop x4,.inBlock 0,.code [1,1,1,1,1]] { n:=101,fr:=[x7,(3,.i 0),(4,.i 0),x8,(6,.p x1),(23,.x (.c (.own 2))),(24,.i ls.length),(25,.i x6)],ck:=x2 })) (.ite ((k:Int)==0) (.stop [.ops [1,1,1,1,0,1,0,0,1,1,0,0,1,1,1,1,0,0,1,1,1,0,0] 9,.code [1,1,1,1,0,1,0,0,1,1,0,0,1,1,1,1,0,0,1,1,1,0,1],.inBlock 2,.code x5,.inBlock 1,.code [1,1,1,1,0,1,0,0,1,1,1],.inLoop x4,.inBlock 0,.code [1,1,1,1,1]] { n:=101,fr:=[x7,(3,.i 0),(4,.i 0),x8,(6,.p x1),(23,.x (.c (.own 2))),(24,.i ls.length),(25,.i k),(7,.i k),(10,.p (.v x3)),(69,.p (.bool false)),(70,.grd 69 true (.p (.v x3)))],ck:=x2 }) (.stop [.ops [1,1,1,1,0,1,0,0,1,1,0,0,1,1,1,1,0,0,1,1,1,1,0] 2,.code [1,1,1,1,0,1,0,0,1,1,0,0,1,1,1,1,0,0,1,1,1,1,1],.inBlock 2,.code x5,.inBlock 1,.code [1,1,1,1,0,1,0,0,1,1,1],.inLoop x4,.inBlock 0,.code [1,1,1,1,1]] { n:=101,fr:=[x7,(3,.i 0),(4,.i 0),x8,(6,.p x1),(23,.x (.c (.own 2))),(24,.i ls.length),(25,.i k),(7,.i k),(10,.p (.v x3)),(42,.p x1),(43,.p (.v x3))],ck:=x2 })))))) (.ret (.tup [.agg [.pd (.str c.name),.own 0,.own 1,.own 2,.own 3],.i 0,.i 0]) (zWr14 c))) ?_
       conv=>zeta
       have hno:dK c k (ETy.get .str ls k)=none:=by rw [dK,if_neg (by rw [hok]; simp)]
       rw [lt]
       exact ⟨fun _=>⟨⟨by omega,by omega⟩,hk,⟨by omega,hok⟩,fun _=>⟨fun _=>hF.bad hk hno,fun x=>Bool.noConfusion x⟩,fun x=>Bool.noConfusion x⟩,fun x=>Bool.noConfusion x⟩
     · refine jg Hw Tryz.func8 (let x1:=zWr1; let x2:=(bq (ETy.get .str ls k)); let x3:=(Value.slice none 0 0); let x4:=(↑(bE (ETy.get .str ls k)):Int); let x11:=(IntKind.wrap .i64 ((k:Int)+1)); let x5:List (Nat×SV):=[(2,.x (.c (.loc 0 0))),(3,.i 0),(4,.i 0),(5,.x (.c (.loc 1 0))),(6,.p x1),(23,.x (.c (.own 2))),(24,.i ls.length),(25,.i x11)]; let x6:Tree:=(.ret (.tup [.agg [.pd (.str []),.pd (.v x3),.pd (.v x3),.pd (.v x3),.pd (.v x3)],.i x11,.i 1]) []); let x12:List Nat:=[1,1,1,1,0,1,0,0]; let x7:List PI:=[.code x12,.inLoop x12,.inBlock 0,.code [1,1,1,1,1]]; let x8:=(x4==0&&(↑(x2.length):Int)==2&&ETy.get .str x2 0==[99,104,97,114,116]); let x9:=((↑(x2.length):Int) - 1); let x10:=(x4==0&&(↑(x2.length):Int)==2); .ite (decide ((k:Int)<(ls.length:Int))) (.need (inRg k ls.length) (.need (k<ls.length) (.need ((ETy.get .str ls k).length≤2097152∧gP (ETy.get .str ls k)=true) (.ite false (.ite false x6 (.stop x7 { n:=101,fr:=x5,ck:=[.cells [.pd (.str []),.pd (.v x3),.pd (.v x3),.pd (.v x3),.pd (.v x3)] 27,.cells [.pd (.str c.name),.own 3,.own 4,.own 5,.own 6,.i x4] 45,.own 9 .str ls,zWr17 c,zWr18 c,zWr15 c,zWr16 c] })) (.ite ((k:Int)==0) (.need (x10=true→(0:Int)≤0∧(0:Int)<(↑(x2.length):Int)) (.need (x10=true→0<x2.length) (.need (x8=true→(0:Int)≤1∧(1:Int)<(↑(x2.length):Int)) (.need (x8=true→1<x2.length) (.need ((0:Int)≤IntKind.wrap .i64 x9∧IntKind.wrap .i64 x9<(↑(x2.length):Int)) (.need ((IntKind.wrap .i64 x9).toNat<x2.length) (.ite (!(x4==0&&(↑(x2.length):Int)==2&&ETy.get .str x2 0==[99,104,97,114,116]&&aO (ETy.get .str x2 1))) x6 (.stop x7 { n:=101,fr:=x5,ck:=[.cells [.pd (.str []),.pd (.v x3),.pd (.v x3),.pd (.v x3),.pd (.v x3)] 27,.cells [.pd (.str (ETy.get .str x2 ((IntKind.wrap .i64 x9).toNat))),.own 3,.own 4,.own 5,.own 6,.i x4] 45,.own 9 .str ls,zWr17 c,zWr18 c,zWr15 c,zWr16 c] })))))))) (.need ((0:Int)≤0∧(0:Int)<(↑(x2.length):Int)) (.need (0<x2.length) (.stop [.ops [1,1,1,1,0,1,0,0,1,1,0,0,1,1,1,1,0,0,1,1,1,1,0] 4,.code [1,1,1,1,0,1,0,0,1,1,0,0,1,1,1,1,0,0,1,1,1,1,1],.inBlock 2,.code [1,1,1,1,0,1,0,0,1,1,0,0,1,1,1,1,1],.inBlock 1,.code [1,1,1,1,0,1,0,0,1,1,1],.inLoop x12,.inBlock 0,.code [1,1,1,1,1]] { n:=101,fr:=[(2,.x (.c (.loc 0 0))),(3,.i 0),(4,.i 0),(5,.x (.c (.loc 1 0))),(6,.p x1),(23,.x (.c (.own 2))),(24,.i ls.length),(25,.i k),(7,.i k),(10,.x (.c (.own 7))),(42,.p x1),(45,.p (.str (ETy.get .str x2 0)))],ck:=[.cells [.pd (.str []),.pd (.v x3),.pd (.v x3),.pd (.v x3),.pd (.v x3)] 27,.cells [.pd (.str c.name),.own 3,.own 4,.own 5,.own 6,.i x4] 45,.own 9 .str ls,zWr17 c,zWr18 c,zWr15 c,zWr16 c,.own 9 .str x2] })))))))) (.ret (.tup [.agg [.pd (.str c.name),.own 0,.own 1,.own 2,.own 3],.i 0,.i 0]) (zWr14 c))) ?_
       conv=>zeta
       have hW:=F6 hok hll
       have hne:1≤(bq (ETy.get .str ls k)).length:=gh.2 (Ac _)
       have hlc:dK c k (ETy.get .str ls k)=if k=0 then rF c (ETy.get .str ls k) else ct c (bE (ETy.get .str ls k):Nat) (an (bq (ETy.get .str ls k)) 0) ((bq (ETy.get .str ls k)).drop 1):=by rw [dK,if_pos hok]
       have hWl:(bq (ETy.get .str ls k)).length≤6001:=by
        have:=B9 (ETy.get .str ls k); omega
       rw [lt]
       refine ⟨fun _=>⟨⟨by omega,by omega⟩,hk,⟨by omega,hok⟩,fun x=>Bool.noConfusion x,fun _=>⟨fun h0=>?_,fun h0=>⟨⟨by omega,by omega⟩,by omega,?_⟩⟩⟩,fun x=>Bool.noConfusion x⟩
       · have hk0:k=0:=by
          have:(k:Int)=0:=by simpa using h0
          omega
         rw [if_pos hk0] at hlc
         have hix:IntKind.wrap .i64 (((bq (ETy.get .str ls k)).length:Int) - 1)=(((bq (ETy.get .str ls k)).length - 1:Nat):Int):=by rw [cI (by omega) (by omega)]; omega
         have two:((((bE (ETy.get .str ls k):Nat):Int)==0)&&(((bq (ETy.get .str ls k)).length:Int)==2))=true→(bq (ETy.get .str ls k)).length=2:=fun h=>by
          rw [ab] at h
          have:((bq (ETy.get .str ls k)).length:Int)=2:=by simpa using h.2
          omega
         have two':(((((bE (ETy.get .str ls k):Nat):Int)==0)&&(((bq (ETy.get .str ls k)).length:Int)==2))&&(ETy.get .str (bq (ETy.get .str ls k)) 0==[99,104,97,114,116]))=true→(bq (ETy.get .str ls k)).length=2:=fun h=>by
          rw [ab] at h; exact two h.1
         rw [hix,hw,bf]
         refine ⟨fun h=>by have:=two h; omega,fun h=>by have:=two h; omega,fun h=>by have:=two' h; omega,fun h=>by have:=two' h; omega,⟨by omega,by omega⟩,by omega,fun h=>?_,fun h=>?_⟩
         · rw [← hw]
           refine hF.bad hk ?_
           rw [hlc]
           refine if_neg fun x=>?_
           have x3:ETy.get .str (bq (ETy.get .str ls k)) 0=[99,104,97,114,116]:=x.2.2.1
           have x4:aO (ETy.get .str (bq (ETy.get .str ls k)) 1)=true:=x.2.2.2
           rw [x.1,x.2.1,x3,x4] at h
           exact absurd h (by decide)
         · have h':=nf h
           simp only [ab,beq_iff_eq] at h'
           obtain ⟨⟨⟨a1,a2⟩,a3⟩,a4⟩:=h'
           have b1:bE (ETy.get .str ls k)=0:=by omega
           have b2:(bq (ETy.get .str ls k)).length=2:=by omega
           have e1:(bq (ETy.get .str ls k)).length - 1=1:=by omega
           rw [e1]
           exact next ((bE (ETy.get .str ls k):Nat):Int) _ (by rw [hlc]; exact if_pos ⟨b1,b2,a3,a4⟩)
       · have hk0:k≠0:=fun e=>by rw [e] at h0; exact absurd h0 (by decide)
         rw [if_neg hk0] at hlc
         generalize hw0:ETy.get .str (bq (ETy.get .str ls k)) 0=w0
         have hw0':an (bq (ETy.get .str ls k)) 0=w0:=hw0
         rw [hw0'] at hlc
         have nx:=next ((bE (ETy.get .str ls k):Nat):Int)
         generalize ((bE (ETy.get .str ls k):Nat):Int)=dd at *
         clear hw0 hw0'
         generalize hWW:bq (ETy.get .str ls k)=W at *
         rcases HX c dd w0 (W.drop 1) with ⟨g,g1,g2,g3⟩ | ⟨g1,g3⟩
         · exact MF s ls c dd k W w0 g Γ hF hk hne hW g2 g1 (by rw [hlc,g3]) nx
         · exact DD s ls c dd k W w0 Γ hF hk hne g1 (by rw [hlc,g3])
   · exact GH s ls c d k Γ hF hk
theorem Bz:zJ8Wr Γ (CpQ s) [.code []] (cL Tryz.f8.ntmps [.s s] []):=by
 refine jg J2 Tryz.func8 (let x1:=(Value.slice none 0 0); let x2:=(Lib.trimSuffix s [(10:UInt8)]); .ite (decide (af s>(6000:Int))) (.ret (.tup [.agg [.pd (.str []),.pd (.v x1),.pd (.v x1),.pd (.v x1),.pd (.v x1)],.i 0,.i 4]) []) (.need (s.length≤9223372036854775807) (.need (x2.length<4294967281) (.stop zWr5 { n:=101,fr:=[(2,.x (.c (.loc 0 0))),(3,.i 0),(4,.i 0),(5,.x (.c (.loc 1 0))),(6,.p zWr1),(23,.x (.c (.own 2))),(24,.i (↑((dC [] x2).length):Int)),(25,.i 0)],ck:=[.cells [.pd (.str []),.pd (.v x1),.pd (.v x1),.pd (.v x1),.pd (.v x1)] 27,.cells [.pd (.str []),.pd (.v x1),.pd (.v x1),.pd (.v x1),.pd (.v x1),.i 0] 45,.own 9 .str (dC [] x2)] })))) ?_
 conv=>zeta
 have hL:af s=(s.length:Int):=rfl
 refine ⟨fun h=>CpQ.no ?_ (by decide),fun h=>?_⟩
 · have:=of_decide_eq_true h
   rw [aq,if_pos (by omega)]
 · have h':=of_decide_eq_false h
   have hs:s.length≤6000:=by omega
   have ht:(Lib.trimSuffix s [10]).length≤s.length:=by rw [xq]; exact ka s
   refine ⟨by omega,by omega,?_⟩
   have e:dC [] (Lib.trimSuffix s [10])=dF s:=by rw [xq]; rfl
   rw [e]
   refine J.nilCk 1 1 9 .str rfl rfl (by kernel_rfl) ?_
   refine J.nilCk 1 2 61 .var rfl rfl (by kernel_rfl) ?_
   refine J.nilCk 1 3 64 .stat rfl rfl (by kernel_rfl) ?_
   refine J.nilCk 1 4 68 .tran rfl rfl (by kernel_rfl) ?_
   exact LW s (dF s) Γ (dF s).length 0 c7 0 (by omega) ⟨hs,rfl,rfl,Fit.zero,br _⟩
theorem xA (h:eL s):ak Tryz.prog 8 [.s s] [] (.tup [.agg [.pd (.str (aq s).1.name),.own 0,.own 1,.own 2,.own 3],.i 0,.i 0]) [.own 9 .str (aq s).1.events,.own 61 .var (aq s).1.vars,.own 64 .stat (aq s).1.states,.own 68 .tran (aq s).1.trans] :=
 ak.of Tryz.func8 (by kernel_rfl) (by kernel_rfl) fun Γ=>J.mono (fun v ck hq=>hq.1 h) (Bz s Γ)
theorem xP (h:¬eL s):ak Tryz.prog 8 [.s s] [] (.tup [.agg [.pd (.str []),.pd (.v (.slice none 0 0)),.pd (.v (.slice none 0 0)),.pd (.v (.slice none 0 0)),.pd (.v (.slice none 0 0))],.i (aq s).2.1,.i (aq s).2.2]) [] :=
 ak.of Tryz.func8 (by kernel_rfl) (by kernel_rfl) fun Γ=>J.mono (fun v ck hq=>hq.2 h) (Bz s Γ)
noncomputable def vU:Ent:=(8,fun
 | [.c (.pd (.str s))],[]=>some (some (eL s),.tup [.agg [.pd (.str (aq s).1.name),.own 0,.own 1,.own 2,.own 3],.c (.pd (.int .i64 0)),.c (.pd (.int .i64 0))],[.own 9 .str (aq s).1.events,.own 61 .var (aq s).1.vars,.own 64 .stat (aq s).1.states,.own 68 .tran (aq s).1.trans])
 | _,_=>none)
theorem we:EntOk Tryz.prog vU:=entOk fun vs ck=>by
 unfold vU; dsimp only; split
 · rename_i s; exact entS fun hp=>xA s hp
 · exact entN
noncomputable def BB:Ent:=(8,fun
 | [.c (.pd (.str s))],[]=>some (some (¬eL s),.tup [.agg [.pd (.str []),.pd (.v (.slice none 0 0)),.pd (.v (.slice none 0 0)),.pd (.v (.slice none 0 0)),.pd (.v (.slice none 0 0))],.c (.pd (.int .i64 (aq s).2.1)),.c (.pd (.int .i64 (aq s).2.2))],[])
 | _,_=>none)
theorem Dt:EntOk Tryz.prog BB:=entOk fun vs ck=>by
 unfold BB; dsimp only; split
 · rename_i s; exact entS fun hp=>xP s hp
 · exact entN
end Go.Proofs.YtpfidgnkokidoaaGreatDoor

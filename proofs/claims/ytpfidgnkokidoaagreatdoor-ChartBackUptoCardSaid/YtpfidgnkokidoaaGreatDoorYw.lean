/- Contracts: strings.Builder: read once, read again, how long. Conditions: a reading: some bytes. Contracts: the layer's example holds, walked on itself. Conditions: none. -/
import Derived.Test.YtpfidgnkokidoaaGreatDoorYb
import Derived.Test.YtpfidgnkokidoaaGreatDoorDa
import Derived.Test.YtpfidgnkokidoaaGreatDoorNa
import Derived.Test.YtpfidgnkokidoaaGreatDoorShelfi
import Derived.Test.YtpfidgnkokidoaaGreatDoorWr
import Derived.Test.YtpfidgnkokidoaaGreatDoorJp
import Derived.Test.YtpfidgnkokidoaaGreatDoorUq
namespace Go.Proofs.YtpfidgnkokidoaaGreatDoor
open Go Go.Ev Go.RowKit
set_option maxRecDepth 100000
theorem Dk {V:Vn} {vs:List Value} (hv:All2 (SX.R V) [.c (.loc 0 0)] vs):vs=[.pointer (some ⟨V.σ 0,0,none⟩)]:=by
 cases hv with
 | cons a1 hv =>
   cases hv
   have a1':_=Value.pointer (some ⟨V.σ 0,0,none⟩):=a1
   rw [a1']
variable {w:World} {g:Nat} (l:List Int) {n:Nat}
theorem Cy {cur:Array Value} {e:TypeId} (hn:n≠0) (hg:w.heap[g]?=some (.cells cur e (0,0))):(w.drew.freeze ⟨g,0,none⟩ n).heap[g]?=some (.cells cur e (0,n)):=by
 have hg':w.drew.heap[g]?=some (.cells cur e (0,0)):=hg
 unfold World.freeze
 rw [if_neg hn]
 simp [Array.getElem?_modify,hg']
theorem mB {k:Nat} (hk:k≠g):(w.drew.freeze ⟨g,0,none⟩ n).heap[k]?=w.heap[k]?:=by
 unfold World.freeze
 split
 · rfl
 · simp only [Array.getElem?_modify]
   rw [if_neg (Ne.symm hk)]; rfl
theorem AT {cur:Array Value} {e:TypeId} (hn:n≠0) (hg:w.heap[g]?=some (.cells cur e (0,n))):(w.drew.freeze ⟨g,0,none⟩ n).heap[g]?=some (.cells cur e (0,n)):=by
 have hg':w.drew.heap[g]?=some (.cells cur e (0,n)):=hg
 unfold World.freeze
 rw [if_neg hn]
 have h2:¬0=n:=fun e=>hn e.symm
 simp [Array.getElem?_modify,hg',h2]
theorem sL (w:World) (g n:Nat):(w.drew.freeze ⟨g,0,none⟩ n).os=w.os∧(w.drew.freeze ⟨g,0,none⟩ n).tape=w.tape∧(w.drew.freeze ⟨g,0,none⟩ n).output=w.output∧(w.drew.freeze ⟨g,0,none⟩ n).heap.size=w.heap.size:=by
 unfold World.freeze
 split
 · exact ⟨rfl,rfl,rfl,rfl⟩
 · refine ⟨rfl,rfl,rfl,?_⟩
   show (w.drew.heap.modify g _).size=w.heap.size
   rw [Array.size_modify]; rfl
def kS:Prop:=ints (gY l)=l∧l≠[]
abbrev zYc1:Chunk:=.cells [.loc 0 0,.own 1] 73
theorem J9 (h:kS l):ak Tryz.prog 30 [.c (.loc 0 0)] [zYc1,.own 5 .byte l] (.x (.s (gY l))) [.cells [.loc 0 0,.pd (.buf 5 (gY l))] 73,.dead]:=by
 obtain ⟨hl,h0⟩:=h
 generalize gY l=s at *
 subst hl
 have hs0:s≠[]:=by rintro rfl; exact h0 rfl
 have hn0:s.length≠0:=by simpa using hs0
 intro w V vs hw hT hv
 rw [Dk hv]
 obtain ⟨us,hb,hu⟩:=hw.own 0 _ rfl
 obtain ⟨a,b,rfl,ha,hbv⟩:=nE hu
 have ha':a = .pointer (some ⟨V.σ 0,0,none⟩):=ha
 have hb':b=V.ov 1:=hbv
 subst ha'; subst hb'
 obtain ⟨xs,ho,hx,hs1⟩:=hw.own 1 _ rfl
 have hxs:=xF hx
 rw [j1] at ho
 rcases ho.2 with ⟨_,hz⟩ | ⟨g,cap,cur,hv1,_,hg,hnc,hcm,hcs,htake⟩
 · exact absurd hz hn0
 rw [hv1] at hb
 have hsz:cur.size=cap:=by have:cur.size=cap * 1:=hcs; omega
 have hcur:∀ (j:Nat) (x:UInt8),s[j]?=some x→cur[j]?=some (Value.int .u8 x.toNat):=by
  intro j x hj
  have h1:xs[j]?=some (.int .u8 x.toNat):=by rw [hxs]; unfold ints; rw [eZ,List.getElem?_map,hj]; rfl
  have htake':cur.toList.take (s.length * 1)=xs:=htake
  rw [← htake',List.getElem?_take] at h1
  split at h1
  · simpa using h1
  · cases h1
 have hblk:Chunk.blk V 1 (.own 5 .byte (ints s))=some g:=by simp only [Chunk.blk]; rw [hv1]; rfl
 have hb1:=hw.base 1 _ g rfl hblk
 have h01:V.σ 0≠g:=fun e=>by have:=hw.inj 0 1 _ _ g rfl rfl (by rw [← e]; rfl) hblk; cases this
 refine (str_exact (ρ:=Tryz.lays156_ren) { Tryz.lays156 with } Tryz.Builder_Extra_156 (V.σ 0) g cap _ cur (0,0) s w hs0 hb hg hnc hcm (by omega) hcur).mono fun e w' ⟨he,hw'⟩=>?_
 subst he; subst hw'
 have hfr:=sL w g s.length
 have hgr:w.grownBy (w.drew.freeze ⟨g,0,none⟩ s.length) (some g):=⟨hfr.1,hfr.2.1,hfr.2.2.1,by rw [hfr.2.2.2]; exact av _,fun k _ hk=>mB fun e=>hk (by rw [e])⟩
 obtain ⟨V2,hag,hH,_,_,hw2⟩:=hw.regrow rfl (av 2) (some 1) (c:=.dead) (v':=undef) (s':=0) (w':=w.drew.freeze ⟨g,0,none⟩ s.length) (row:=some g) (fun b hb=>⟨1,_,rfl,rfl,by rw [hblk]; exact hb⟩) hgr (fun V' hag hH f1 f2=>⟨trivial,fun b hb=>by simp [Chunk.blk] at hb⟩)
 have hw3:WOk (Go.Ev.entry [zYc1,.own 5 .byte (ints s)] V w) ([zYc1,.dead]++[.dead]) V2 (w.drew.freeze ⟨g,0,none⟩ s.length):=hw2
 have hw4:=hw3.chop
 have s0:V2.σ 0=V.σ 0:=(hag.same 0 (by show 0<2; omega)).1
 obtain ⟨hle,hw5⟩:=Kz hw4 (g:=g) (o:=.cells cur 5 (0,s.length)) (Cy hn0 hg) (by rw [hH]; exact hb1.2) hb1.1 (fun i c hc=>by
  match i with
  | 0 =>
    simp at hc; subst hc
    intro e
    have e':some (V2.σ 0)=some g:=e
    rw [s0] at e'
    exact h01 (ar e')
  | 1=>simp at hc; subst hc; intro e; cases e
  | i+2=>simp at hc)
 have hb2:(w.drew.freeze ⟨g,0,none⟩ s.length).heap[V2.σ 0]?=some (.cells #[.pointer (some ⟨V.σ 0,0,none⟩),.slice (some ⟨g,0,none⟩) s.length cap] 73 (0,0)):=by
  rw [s0,mB h01]; exact hb
 have hw6:=hw5.rewrite (i:=0) rfl (.cells [.loc 0 0,.pd (.buf 5 s)] 73) (w':=w.drew.freeze ⟨g,0,none⟩ s.length) ⟨rfl,rfl,rfl,rfl⟩ (fun _ _=>rfl) rfl ⟨_,hb2,.cons (by show _=Value.pointer (some ⟨V2.σ 0,0,none⟩); rw [s0]) (.cons (PR.buf _ s g cap cur (by simp) hs0 hnc hcm (by omega) hcur) .nil)⟩
 exact ⟨_,_,rfl,PR.str s,hw6⟩
theorem Kj (s:Str):ak Tryz.prog 30 [.c (.loc 0 0)] [.cells [.loc 0 0,.pd (.buf 5 s)] 73] (.x (.s s)) [.cells [.loc 0 0,.pd (.buf 5 s)] 73]:=by
 intro w V vs hw hT hv
 rw [Dk hv]
 obtain ⟨us,hb,hu⟩:=hw.own 0 _ rfl
 obtain ⟨a,b,rfl,ha,hbv⟩:=nE hu
 have hbv':PR V.H (.buf 5 s) b:=hbv
 cases hbv' with
 | buf _ _ g cap cur hbH h0 hnc hcm hcs hcur =>
   have hg:=hw.imm _ _ hbH
   have hn0:s.length≠0:=by simpa using h0
   refine (str_exact (ρ:=Tryz.lays156_ren) { Tryz.lays156 with } Tryz.Builder_Extra_156 (V.σ 0) g cap _ cur (0,s.length) s w h0 hb hg hnc hcm hcs hcur).mono fun e w' ⟨he,hw'⟩=>?_
   subst he; subst hw'
   have hfr:=sL w g s.length
   refine ⟨_,V,rfl,PR.str s,hw.kept ⟨hfr.1,hfr.2.1,hfr.2.2.1,by rw [hfr.2.2.2]; exact av _,fun k _ _=>?_⟩⟩
   by_cases hk:k=g
   · subst hk; rw [AT hn0 hg,hg]
   · exact mB hk
def wg:Ent:=(30,fun
 | [.c (.loc 0 0)],[.cells [.loc 0 0,.own 1] 73,.own 5 .byte l]=>some (some (kS l),.x (.c (.pd (.str (gY l)))),[.cells [.loc 0 0,.pd (.buf 5 (gY l))] 73,.dead])
 | _,_=>none)
theorem wE:EntOk Tryz.prog wg:=entOk fun vs ck=>by
 unfold wg; dsimp only; split
 · rename_i l; exact entS fun hp=>J9 l hp
 · exact entN
def wR:Ent:=(30,fun
 | [.c (.loc 0 0)],[.cells [.loc 0 0,.pd (.buf 5 s)] 73]=>some (none,.x (.c (.pd (.str s))),[.cells [.loc 0 0,.pd (.buf 5 s)] 73])
 | _,_=>none)
theorem w7:EntOk Tryz.prog wR:=entOk fun vs ck=>by
 unfold wR; dsimp only; split
 · rename_i s; exact entS fun hp=>Kj s
 · exact entN
theorem OH:ak Tryz.prog 29 [.c (.loc 0 0)] [zYc1,.own 5 .byte l] (.x (.i l.length)) [zYc1,.own 5 .byte l]:=by
 refine dg bG Tryz.func29 (.ret (.i l.length) [zYc1,.own 5 .byte l]) fun Γ=>?_
 exact ⟨rfl,rfl⟩
def eBl:Ent:=(29,fun
 | [.c (.loc 0 0)],[.cells [.loc 0 0,.own 1] 73,.own 5 .byte l]=>some (none,.x (.c (.pd (.int .i64 l.length))),[.cells [.loc 0 0,.own 1] 73,.own 5 .byte l])
 | _,_=>none)
theorem HX:EntOk Tryz.prog eBl:=entOk fun vs ck=>by
 unfold eBl; dsimp only; split
 · rename_i l; exact entS fun hp=>OH l
 · exact entN
end Go.Proofs.YtpfidgnkokidoaaGreatDoor
namespace Go.Proofs.YtpfidgnkokidoaaGreatDoor
open Go Go.Ev
set_option maxRecDepth 100000
def Ak:Ent:=(8,fun
 | [.c (.pd (.str s))],[]=>bif s==ex1 then some (none,.tup [.agg [.pd (.str [99]),.own 0,.own 1,.own 2,.own 3],.c (.pd (.int .i64 0)),.c (.pd (.int .i64 0))],[.own 9 .str [],.own 61 .var [],.own 64 .stat exC.states,.own 68 .tran exC.trans]) else
   bif s==ex2 then some (none,.tup [.agg [.pd (.str []),.pd (.v (.slice none 0 0)),.pd (.v (.slice none 0 0)),.pd (.v (.slice none 0 0)),.pd (.v (.slice none 0 0))],.c (.pd (.int .i64 2)),.c (.pd (.int .i64 1))],[]) else none
 | _,_=>none)
theorem O0:ak Tryz.prog 8 [.s ex1] [] (.tup [.agg [.pd (.str [99]),.own 0,.own 1,.own 2,.own 3],.i 0,.i 0]) [.own 9 .str [],.own 61 .var [],.own 64 .stat exC.states,.own 68 .tran exC.trans]:=by
 have h:=yf ex1 (by show (br ex1).2.2=0; rw [Db])
 rw [Db] at h
 exact h
theorem OZ:ak Tryz.prog 8 [.s ex2] [] (.tup [.agg [.pd (.str []),.pd (.v (.slice none 0 0)),.pd (.v (.slice none 0 0)),.pd (.v (.slice none 0 0)),.pd (.v (.slice none 0 0))],.i 2,.i 1]) []:=by
 have h:=yl ex2 (fun h=>by
  have h2:(br ex2).2.2=0:=h
  rw [Ii] at h2
  have h3:(1:Int)=0:=h2
  exact absurd h3 (by decide))
 rw [Ii] at h
 exact h
variable (vs:List SX) (ck:List Chunk) (n:Nat)
theorem DD (p:Option Prop) (ret:SV) (ck':List Chunk) (h:Ak.2 vs ck=some (p,ret,ck')) (hp:Holds p):ak Tryz.prog Ak.1 vs ck ret ck':=by
 unfold Ak at h
 simp only at h
 split at h
 · rename_i s
   cases h1:s==ex1
   · rw [h1,cond_false] at h
     cases h2:s==ex2
     · rw [h2,cond_false] at h; cases h
     · rw [h2,cond_true] at h
       simp only [aa,ae] at h
       obtain ⟨rfl,rfl,rfl⟩:=h
       rw [eq_of_beq h2]; exact OZ
   · rw [h1,cond_true] at h
     simp only [aa,ae] at h
     obtain ⟨rfl,rfl,rfl⟩:=h
     rw [eq_of_beq h1]; exact O0
 · cases h
/-! ### the example told -/
noncomputable section
def Lt:Cfg:=⟨bx,[ob]⟩
theorem I4:ai Tryz.prog Lt.tab:=(ai.cons qh ai.nil)
def rGs:Nat×(List SX→List Chunk→Option (Option Prop×SV×List Chunk)):=fV Tryz.prog Lt Tryz.f61 30 61
theorem OX (p:Option Prop) (ret:SV) (ck':List Chunk) (h:rGs.2 vs ck=some (p,ret,ck')) (hp:Holds p):ak Tryz.prog rGs.1 vs ck ret ck':=er I4 Tryz.func61 (by kernel_rfl) h hp
def Lv:Cfg:=⟨bx,[qw]⟩
theorem Jn:ai Tryz.prog Lv.tab:=(ai.cons xn ai.nil)
def rBs:Nat×(List SX→List Chunk→Option (Option Prop×SV×List Chunk)):=fV Tryz.prog Lv Tryz.f60 30 60
theorem OW (p:Option Prop) (ret:SV) (ck':List Chunk) (h:rBs.2 vs ck=some (p,ret,ck')) (hp:Holds p):ak Tryz.prog rBs.1 vs ck ret ck':=er Jn Tryz.func60 (by kernel_rfl) h hp
def rKd:Nat×(List SX→List Chunk→Option (Option Prop×SV×List Chunk)):=fV Tryz.prog cE Tryz.f59 30 59
theorem Oz (p:Option Prop) (ret:SV) (ck':List Chunk) (h:rKd.2 vs ck=some (p,ret,ck')) (hp:Holds p):ak Tryz.prog rKd.1 vs ck ret ck':=er bG Tryz.func59 (by kernel_rfl) h hp
def rOr:Nat×(List SX→List Chunk→Option (Option Prop×SV×List Chunk)):=fV Tryz.prog cE Tryz.f62 30 62
theorem OQ (p:Option Prop) (ret:SV) (ck':List Chunk) (h:rOr.2 vs ck=some (p,ret,ck')) (hp:Holds p):ak Tryz.prog rOr.1 vs ck ret ck':=er bG Tryz.func62 (by kernel_rfl) h hp
def LG:Cfg:=⟨bx,[oM,rGs,rBs,rKd,rOr]⟩
theorem JP:ai Tryz.prog LG.tab:=(ai.cons uB (ai.cons OX (ai.cons OW (ai.cons Oz (ai.cons OQ ai.nil)))))
def rSt:Nat×(List SX→List Chunk→Option (Option Prop×SV×List Chunk)):=fV Tryz.prog LG Tryz.f28 30 28
theorem N5 (p:Option Prop) (ret:SV) (ck':List Chunk) (h:rSt.2 vs ck=some (p,ret,ck')) (hp:Holds p):ak Tryz.prog rSt.1 vs ck ret ck':=er JP Tryz.func28 (by kernel_rfl) h hp
/-! ### held against itself -/
def rEs:Nat×(List SX→List Chunk→Option (Option Prop×SV×List Chunk)):=fV Tryz.prog cE Tryz.f63 30 63
theorem O7 (p:Option Prop) (ret:SV) (ck':List Chunk) (h:rEs.2 vs ck=some (p,ret,ck')) (hp:Holds p):ak Tryz.prog rEs.1 vs ck ret ck':=er bG Tryz.func63 (by kernel_rfl) h hp
def rEv:Nat×(List SX→List Chunk→Option (Option Prop×SV×List Chunk)):=fV Tryz.prog cE Tryz.f64 30 64
theorem O2 (p:Option Prop) (ret:SV) (ck':List Chunk) (h:rEv.2 vs ck=some (p,ret,ck')) (hp:Holds p):ak Tryz.prog rEv.1 vs ck ret ck':=er bG Tryz.func64 (by kernel_rfl) h hp
def rEc:Nat×(List SX→List Chunk→Option (Option Prop×SV×List Chunk)):=fV Tryz.prog cE Tryz.f70 30 70
theorem OJ (p:Option Prop) (ret:SV) (ck':List Chunk) (h:rEc.2 vs ck=some (p,ret,ck')) (hp:Holds p):ak Tryz.prog rEc.1 vs ck ret ck':=er bG Tryz.func70 (by kernel_rfl) h hp
def rEd:Nat×(List SX→List Chunk→Option (Option Prop×SV×List Chunk)):=fV Tryz.prog cE Tryz.f108 30 108
theorem OS (p:Option Prop) (ret:SV) (ck':List Chunk) (h:rEd.2 vs ck=some (p,ret,ck')) (hp:Holds p):ak Tryz.prog rEd.1 vs ck ret ck':=er bG Tryz.func108 (by kernel_rfl) h hp
def LA:Cfg:=⟨bx,[rEd]⟩
theorem JD:ai Tryz.prog LA.tab:=(ai.cons OS ai.nil)
def rSb:Nat×(List SX→List Chunk→Option (Option Prop×SV×List Chunk)):=fV Tryz.prog LA Tryz.f67 30 67
theorem HC (p:Option Prop) (ret:SV) (ck':List Chunk) (h:rSb.2 vs ck=some (p,ret,ck')) (hp:Holds p):ak Tryz.prog rSb.1 vs ck ret ck':=er JD Tryz.func67 (by kernel_rfl) h hp
def Ls:Cfg:=⟨bx,[rSb]⟩
theorem K9:ai Tryz.prog Ls.tab:=(ai.cons HC ai.nil)
def rS1:Nat×(List SX→List Chunk→Option (Option Prop×SV×List Chunk)):=fV Tryz.prog Ls Tryz.f66 30 66
theorem N8 (p:Option Prop) (ret:SV) (ck':List Chunk) (h:rS1.2 vs ck=some (p,ret,ck')) (hp:Holds p):ak Tryz.prog rS1.1 vs ck ret ck':=er K9 Tryz.func66 (by kernel_rfl) h hp
def Lu:Cfg:=⟨bx,[rEc,rSb]⟩
theorem KR:ai Tryz.prog Lu.tab:=(ai.cons OJ (ai.cons HC ai.nil))
def rS2:Nat×(List SX→List Chunk→Option (Option Prop×SV×List Chunk)):=fV Tryz.prog Lu Tryz.f69 30 69
theorem Ox (p:Option Prop) (ret:SV) (ck':List Chunk) (h:rS2.2 vs ck=some (p,ret,ck')) (hp:Holds p):ak Tryz.prog rS2.1 vs ck ret ck':=er KR Tryz.func69 (by kernel_rfl) h hp
def Lr:Cfg:=⟨bx,[rS1]⟩
theorem Kr:ai Tryz.prog Lr.tab:=(ai.cons N8 ai.nil)
def rEt:Nat×(List SX→List Chunk→Option (Option Prop×SV×List Chunk)):=fV Tryz.prog Lr Tryz.f65 30 65
theorem Ot (p:Option Prop) (ret:SV) (ck':List Chunk) (h:rEt.2 vs ck=some (p,ret,ck')) (hp:Holds p):ak Tryz.prog rEt.1 vs ck ret ck':=er Kr Tryz.func65 (by kernel_rfl) h hp
def LB:Cfg:=⟨bx,[rS2]⟩
theorem Jd:ai Tryz.prog LB.tab:=(ai.cons Ox ai.nil)
def rEr:Nat×(List SX→List Chunk→Option (Option Prop×SV×List Chunk)):=fV Tryz.prog LB Tryz.f68 30 68
theorem OB (p:Option Prop) (ret:SV) (ck':List Chunk) (h:rEr.2 vs ck=some (p,ret,ck')) (hp:Holds p):ak Tryz.prog rEr.1 vs ck ret ck':=er Jd Tryz.func68 (by kernel_rfl) h hp
def LC:Cfg:=⟨bx,[rEs,rEv,rEt,rEr]⟩
theorem I5:ai Tryz.prog LC.tab:=(ai.cons O7 (ai.cons O2 (ai.cons Ot (ai.cons OB ai.nil))))
def rSm:Nat×(List SX→List Chunk→Option (Option Prop×SV×List Chunk)):=fV Tryz.prog LC Tryz.f31 30 31
theorem Oo (p:Option Prop) (ret:SV) (ck':List Chunk) (h:rSm.2 vs ck=some (p,ret,ck')) (hp:Holds p):ak Tryz.prog rSm.1 vs ck ret ck':=er I5 Tryz.func31 (by kernel_rfl) h hp
def LM:Cfg:=⟨bx,[B1,AN,eBl,rSt,Ak,rSm,wg,wR]⟩
theorem K1:ai Tryz.prog LM.tab:=(ai.cons DK (ai.cons CY (ai.cons HX (ai.cons N5 (ai.cons DD (ai.cons Oo (ai.cons wE (ai.cons w7 ai.nil))))))))
def rSh:Nat×(List SX→List Chunk→Option (Option Prop×SV×List Chunk)):=fV Tryz.prog LM Tryz.f13 30 13
theorem Pb (p:Option Prop) (ret:SV) (ck':List Chunk) (h:rSh.2 vs ck=some (p,ret,ck')) (hp:Holds p):ak Tryz.prog rSh.1 vs ck ret ck':=er K1 Tryz.func13 (by kernel_rfl) h hp
def Pu:Cfg:=⟨bx,[Ak,rSh]⟩
theorem Jg:ai Tryz.prog Pu.tab:=(ai.cons DD (ai.cons Pb ai.nil))
end
abbrev wkI (i:Int) (n:Nat):Prop:=0≤i∧i<n
abbrev wkF:Prop:=n≤9223372036854775807
abbrev wkR:Prop:=n≤140737488355328
theorem Ee:ak Tryz.prog 10 [] [] (.x (.b true)) []:=by
 refine ak.run Jg Tryz.func10 (by kernel_rfl) (by kernel_rfl) 9 [jY [false=false→jY [true=true→jY [wkI 0 1,wkI 0 1],true=true→jY [wkI 1 2,wkI 1 2,wkI 0 2,wkI 0 2]],kS (ints ex1),wkR 39,jY [wkF 23,wkF 14,wkF 13,wkF 12,wkF 11,wkF 10,wkF 9,wkF 8,wkF 7,wkF 5,0<1,wkI 0 1,wkF 9,wkF 8,wkF 7,wkF 6,jY [wkI 0 6],(0:Int)≤1∧(1:Int)≤9223372036854775807∧wkR 1,1<2,wkI 1 2],wkR 16,jY [0<1,wkI 0 1,wkF 8,wkF 7,wkF 2,wkF 5,wkF 4,wkF 3,jY [wkI 1 6],(0:Int)≤0∧(0:Int)≤9223372036854775807∧wkR 0,0<2,wkI 0 2],wkR 8,wkF 8,wkF 7]] (by kernel_rfl) ?_
 have hb:kS (ints ex1):=⟨by rw [me],Dj (by decide)⟩
 repeat' first
  | exact trivial
  | exact hb
  | decide
  | constructor
  | intro _
def ri:Ent:=(10,fun
 | [],[]=>some (none,.x (.c (.pd (.bool true))),[])
 | _,_=>none)
theorem xp:EntOk Tryz.prog ri:=entOk fun vs ck=>by
 unfold ri; dsimp only; split
 · exact entS fun hp=>Ee
 · exact entN
end Go.Proofs.YtpfidgnkokidoaaGreatDoor

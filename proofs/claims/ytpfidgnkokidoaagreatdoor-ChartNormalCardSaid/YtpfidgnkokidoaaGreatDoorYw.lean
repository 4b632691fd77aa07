/- Contracts: strings.Builder: read once, read again, how long. Conditions: a reading: some bytes. Contracts: the layer's example holds, walked on itself. Conditions: none. -/
import Derived.Test.YtpfidgnkokidoaaGreatDoorYb
import Derived.Test.YtpfidgnkokidoaaGreatDoorDa
import Derived.Test.YtpfidgnkokidoaaGreatDoorShelfi
import Derived.Test.YtpfidgnkokidoaaGreatDoorWr
import Derived.Test.YtpfidgnkokidoaaGreatDoorJp
import Derived.Test.YtpfidgnkokidoaaGreatDoorUp
namespace Go.Proofs.YtpfidgnkokidoaaGreatDoor
open Go Go.Ev Go.RowKit
set_option maxRecDepth 100000
theorem C7 {V:Vn} {vs:List Value} (hv:All2 (SX.R V) [.c (.loc 0 0)] vs):vs=[.pointer (some ⟨V.σ 0,0,none⟩)]:=by
 cases hv with
 | cons a1 hv =>
   cases hv
   have a1':_=Value.pointer (some ⟨V.σ 0,0,none⟩):=a1
   rw [a1']
variable {w:World} {g:Nat} (l:List Int) {n:Nat}
theorem B1 {cur:Array Value} {e:TypeId} (hn:n≠0) (hg:w.heap[g]?=some (.cells cur e (0,0))):(w.drew.freeze ⟨g,0,none⟩ n).heap[g]?=some (.cells cur e (0,n)):=by
 have hg':w.drew.heap[g]?=some (.cells cur e (0,0)):=hg
 unfold World.freeze
 rw [if_neg hn]
 simp [Array.getElem?_modify,hg']
theorem ml {k:Nat} (hk:k≠g):(w.drew.freeze ⟨g,0,none⟩ n).heap[k]?=w.heap[k]?:=by
 unfold World.freeze
 split
 · rfl
 · simp only [Array.getElem?_modify]
   rw [if_neg (Ne.symm hk)]; rfl
theorem yU {cur:Array Value} {e:TypeId} (hn:n≠0) (hg:w.heap[g]?=some (.cells cur e (0,n))):(w.drew.freeze ⟨g,0,none⟩ n).heap[g]?=some (.cells cur e (0,n)):=by
 have hg':w.drew.heap[g]?=some (.cells cur e (0,n)):=hg
 unfold World.freeze
 rw [if_neg hn]
 have h2:¬0=n:=fun e=>hn e.symm
 simp [Array.getElem?_modify,hg',h2]
theorem sN (w:World) (g n:Nat):(w.drew.freeze ⟨g,0,none⟩ n).os=w.os∧(w.drew.freeze ⟨g,0,none⟩ n).tape=w.tape∧(w.drew.freeze ⟨g,0,none⟩ n).output=w.output∧(w.drew.freeze ⟨g,0,none⟩ n).heap.size=w.heap.size:=by
 unfold World.freeze
 split
 · exact ⟨rfl,rfl,rfl,rfl⟩
 · refine ⟨rfl,rfl,rfl,?_⟩
   show (w.drew.heap.modify g _).size=w.heap.size
   rw [Array.size_modify]; rfl
def kB:Prop:=ints (gS l)=l∧l≠[]
abbrev zYc1:Chunk:=.cells [.loc 0 0,.own 1] 73
theorem KO (h:kB l):ak Tryz.prog 30 [.c (.loc 0 0)] [zYc1,.own 5 .byte l] (.x (.s (gS l))) [.cells [.loc 0 0,.pd (.buf 5 (gS l))] 73,.dead]:=by
 obtain ⟨hl,h0⟩:=h
 generalize gS l=s at *
 subst hl
 have hs0:s≠[]:=by rintro rfl; exact h0 rfl
 have hn0:s.length≠0:=by simpa using hs0
 intro w V vs hw hT hv
 rw [C7 hv]
 obtain ⟨us,hb,hu⟩:=hw.own 0 _ rfl
 obtain ⟨a,b,rfl,ha,hbv⟩:=nq hu
 have ha':a = .pointer (some ⟨V.σ 0,0,none⟩):=ha
 have hb':b=V.ov 1:=hbv
 subst ha'; subst hb'
 obtain ⟨xs,ho,hx,hs1⟩:=hw.own 1 _ rfl
 have hxs:=xQ hx
 rw [jQ] at ho
 rcases ho.2 with ⟨_,hz⟩ | ⟨g,cap,cur,hv1,_,hg,hnc,hcm,hcs,htake⟩
 · exact absurd hz hn0
 rw [hv1] at hb
 have hsz:cur.size=cap:=by have:cur.size=cap * 1:=hcs; omega
 have hcur:∀ (j:Nat) (x:UInt8),s[j]?=some x→cur[j]?=some (Value.int .u8 x.toNat):=by
  intro j x hj
  have h1:xs[j]?=some (.int .u8 x.toNat):=by rw [hxs]; unfold ints; rw [eZ,List.getElem?_map,hj]; rfl
  have htake':cur.toList.take (s.length * 1)=xs:=htake
  rw [← htake',List.getElem?_take] at h1
  split at h1
  · simpa using h1
  · cases h1
 have hblk:Chunk.blk V 1 (.own 5 .byte (ints s))=some g:=by simp only [Chunk.blk]; rw [hv1]; rfl
 have hb1:=hw.base 1 _ g rfl hblk
 have h01:V.σ 0≠g:=fun e=>by have:=hw.inj 0 1 _ _ g rfl rfl (by rw [← e]; rfl) hblk; cases this
 refine (str_exact (ρ:=Tryz.lays156_ren) { Tryz.lays156 with } Tryz.Builder_Extra_156 (V.σ 0) g cap _ cur (0,0) s w hs0 hb hg hnc hcm (by omega) hcur).mono fun e w' ⟨he,hw'⟩=>?_
 subst he; subst hw'
 have hfr:=sN w g s.length
 have hgr:w.grownBy (w.drew.freeze ⟨g,0,none⟩ s.length) (some g):=⟨hfr.1,hfr.2.1,hfr.2.2.1,by rw [hfr.2.2.2]; exact aw _,fun k _ hk=>ml fun e=>hk (by rw [e])⟩
 obtain ⟨V2,hag,hH,_,_,hw2⟩:=hw.regrow rfl (aw 2) (some 1) (c:=.dead) (v':=undef) (s':=0) (w':=w.drew.freeze ⟨g,0,none⟩ s.length) (row:=some g) (fun b hb=>⟨1,_,rfl,rfl,by rw [hblk]; exact hb⟩) hgr (fun V' hag hH f1 f2=>⟨trivial,fun b hb=>by simp [Chunk.blk] at hb⟩)
 have hw3:WOk (Go.Ev.entry [zYc1,.own 5 .byte (ints s)] V w) ([zYc1,.dead]++[.dead]) V2 (w.drew.freeze ⟨g,0,none⟩ s.length):=hw2
 have hw4:=hw3.chop
 have s0:V2.σ 0=V.σ 0:=(hag.same 0 (by show 0<2; omega)).1
 obtain ⟨hle,hw5⟩:=I3 hw4 (g:=g) (o:=.cells cur 5 (0,s.length)) (B1 hn0 hg) (by rw [hH]; exact hb1.2) hb1.1 (fun i c hc=>by
  match i with
  | 0 =>
    simp at hc; subst hc
    intro e
    have e':some (V2.σ 0)=some g:=e
    rw [s0] at e'
    exact h01 (au e')
  | 1=>simp at hc; subst hc; intro e; cases e
  | i+2=>simp at hc)
 have hb2:(w.drew.freeze ⟨g,0,none⟩ s.length).heap[V2.σ 0]?=some (.cells #[.pointer (some ⟨V.σ 0,0,none⟩),.slice (some ⟨g,0,none⟩) s.length cap] 73 (0,0)):=by
  rw [s0,ml h01]; exact hb
 have hw6:=hw5.rewrite (i:=0) rfl (.cells [.loc 0 0,.pd (.buf 5 s)] 73) (w':=w.drew.freeze ⟨g,0,none⟩ s.length) ⟨rfl,rfl,rfl,rfl⟩ (fun _ _=>rfl) rfl ⟨_,hb2,.cons (by show _=Value.pointer (some ⟨V2.σ 0,0,none⟩); rw [s0]) (.cons (PR.buf _ s g cap cur (by simp) hs0 hnc hcm (by omega) hcur) .nil)⟩
 exact ⟨_,_,rfl,PR.str s,hw6⟩
theorem Kb (s:Str):ak Tryz.prog 30 [.c (.loc 0 0)] [.cells [.loc 0 0,.pd (.buf 5 s)] 73] (.x (.s s)) [.cells [.loc 0 0,.pd (.buf 5 s)] 73]:=by
 intro w V vs hw hT hv
 rw [C7 hv]
 obtain ⟨us,hb,hu⟩:=hw.own 0 _ rfl
 obtain ⟨a,b,rfl,ha,hbv⟩:=nq hu
 have hbv':PR V.H (.buf 5 s) b:=hbv
 cases hbv' with
 | buf _ _ g cap cur hbH h0 hnc hcm hcs hcur =>
   have hg:=hw.imm _ _ hbH
   have hn0:s.length≠0:=by simpa using h0
   refine (str_exact (ρ:=Tryz.lays156_ren) { Tryz.lays156 with } Tryz.Builder_Extra_156 (V.σ 0) g cap _ cur (0,s.length) s w h0 hb hg hnc hcm hcs hcur).mono fun e w' ⟨he,hw'⟩=>?_
   subst he; subst hw'
   have hfr:=sN w g s.length
   refine ⟨_,V,rfl,PR.str s,hw.kept ⟨hfr.1,hfr.2.1,hfr.2.2.1,by rw [hfr.2.2.2]; exact aw _,fun k _ _=>?_⟩⟩
   by_cases hk:k=g
   · subst hk; rw [yU hn0 hg,hg]
   · exact ml hk
def wD:Ent:=(30,fun
 | [.c (.loc 0 0)],[.cells [.loc 0 0,.own 1] 73,.own 5 .byte l]=>some (some (kB l),.x (.c (.pd (.str (gS l)))),[.cells [.loc 0 0,.pd (.buf 5 (gS l))] 73,.dead])
 | _,_=>none)
theorem wb:EntOk Tryz.prog wD:=entOk fun vs ck=>by
 unfold wD; dsimp only; split
 · rename_i l; exact entS fun hp=>KO l hp
 · exact entN
def vV:Ent:=(30,fun
 | [.c (.loc 0 0)],[.cells [.loc 0 0,.pd (.buf 5 s)] 73]=>some (none,.x (.c (.pd (.str s))),[.cells [.loc 0 0,.pd (.buf 5 s)] 73])
 | _,_=>none)
theorem wI:EntOk Tryz.prog vV:=entOk fun vs ck=>by
 unfold vV; dsimp only; split
 · rename_i s; exact entS fun hp=>Kb s
 · exact entN
theorem N9:ak Tryz.prog 29 [.c (.loc 0 0)] [zYc1,.own 5 .byte l] (.x (.i l.length)) [zYc1,.own 5 .byte l]:=by
 refine dg bH Tryz.func29 (.ret (.i l.length) [zYc1,.own 5 .byte l]) fun Γ=>?_
 exact ⟨rfl,rfl⟩
def eBl:Ent:=(29,fun
 | [.c (.loc 0 0)],[.cells [.loc 0 0,.own 1] 73,.own 5 .byte l]=>some (none,.x (.c (.pd (.int .i64 l.length))),[.cells [.loc 0 0,.own 1] 73,.own 5 .byte l])
 | _,_=>none)
theorem Hn:EntOk Tryz.prog eBl:=entOk fun vs ck=>by
 unfold eBl; dsimp only; split
 · rename_i l; exact entS fun hp=>N9 l
 · exact entN
end Go.Proofs.YtpfidgnkokidoaaGreatDoor
namespace Go.Proofs.YtpfidgnkokidoaaGreatDoor
open Go Go.Ev
set_option maxRecDepth 100000
def y9:Ent:=(8,fun
 | [.c (.pd (.str s))],[]=>bif s==ex1 then some (none,.tup [.agg [.pd (.str [99]),.own 0,.own 1,.own 2,.own 3],.c (.pd (.int .i64 0)),.c (.pd (.int .i64 0))],[.own 9 .str [],.own 61 .var [],.own 64 .stat exC.states,.own 68 .tran exC.trans]) else
   bif s==ex2 then some (none,.tup [.agg [.pd (.str []),.pd (.v (.slice none 0 0)),.pd (.v (.slice none 0 0)),.pd (.v (.slice none 0 0)),.pd (.v (.slice none 0 0))],.c (.pd (.int .i64 2)),.c (.pd (.int .i64 1))],[]) else none
 | _,_=>none)
theorem OC:ak Tryz.prog 8 [.s ex1] [] (.tup [.agg [.pd (.str [99]),.own 0,.own 1,.own 2,.own 3],.i 0,.i 0]) [.own 9 .str [],.own 61 .var [],.own 64 .stat exC.states,.own 68 .tran exC.trans]:=by
 have h:=xA ex1 (by show (aq ex1).2.2=0; rw [Dj])
 rw [Dj] at h
 exact h
theorem ON:ak Tryz.prog 8 [.s ex2] [] (.tup [.agg [.pd (.str []),.pd (.v (.slice none 0 0)),.pd (.v (.slice none 0 0)),.pd (.v (.slice none 0 0)),.pd (.v (.slice none 0 0))],.i 2,.i 1]) []:=by
 have h:=xP ex2 (fun h=>by
  have h2:(aq ex2).2.2=0:=h
  rw [Hu] at h2
  have h3:(1:Int)=0:=h2
  exact absurd h3 (by decide))
 rw [Hu] at h
 exact h
variable (vs:List SX) (ck:List Chunk) (n:Nat)
theorem Dq (p:Option Prop) (ret:SV) (ck':List Chunk) (h:y9.2 vs ck=some (p,ret,ck')) (hp:Holds p):ak Tryz.prog y9.1 vs ck ret ck':=by
 unfold y9 at h
 simp only at h
 split at h
 · rename_i s
   cases h1:s==ex1
   · rw [h1,cond_false] at h
     cases h2:s==ex2
     · rw [h2,cond_false] at h; cases h
     · rw [h2,cond_true] at h
       simp only [aa,ae] at h
       obtain ⟨rfl,rfl,rfl⟩:=h
       rw [eq_of_beq h2]; exact ON
   · rw [h1,cond_true] at h
     simp only [aa,ae] at h
     obtain ⟨rfl,rfl,rfl⟩:=h
     rw [eq_of_beq h1]; exact OC
 · cases h
/-! ### the example told -/
noncomputable section
def Lo:Cfg:=⟨bu,[oy]⟩
theorem I2:ai Tryz.prog Lo.tab:=(ai.cons qq ai.nil)
def rGs:Nat×(List SX→List Chunk→Option (Option Prop×SV×List Chunk)):=fV Tryz.prog Lo Tryz.f61 30 61
theorem OF (p:Option Prop) (ret:SV) (ck':List Chunk) (h:rGs.2 vs ck=some (p,ret,ck')) (hp:Holds p):ak Tryz.prog rGs.1 vs ck ret ck':=eu I2 Tryz.func61 (by kernel_rfl) h hp
def Ls:Cfg:=⟨bu,[rl]⟩
theorem I4:ai Tryz.prog Ls.tab:=(ai.cons xi ai.nil)
def rBs:Nat×(List SX→List Chunk→Option (Option Prop×SV×List Chunk)):=fV Tryz.prog Ls Tryz.f60 30 60
theorem Ow (p:Option Prop) (ret:SV) (ck':List Chunk) (h:rBs.2 vs ck=some (p,ret,ck')) (hp:Holds p):ak Tryz.prog rBs.1 vs ck ret ck':=eu I4 Tryz.func60 (by kernel_rfl) h hp
def rKd:Nat×(List SX→List Chunk→Option (Option Prop×SV×List Chunk)):=fV Tryz.prog cF Tryz.f59 30 59
theorem Oj (p:Option Prop) (ret:SV) (ck':List Chunk) (h:rKd.2 vs ck=some (p,ret,ck')) (hp:Holds p):ak Tryz.prog rKd.1 vs ck ret ck':=eu bH Tryz.func59 (by kernel_rfl) h hp
def rOr:Nat×(List SX→List Chunk→Option (Option Prop×SV×List Chunk)):=fV Tryz.prog cF Tryz.f62 30 62
theorem OI (p:Option Prop) (ret:SV) (ck':List Chunk) (h:rOr.2 vs ck=some (p,ret,ck')) (hp:Holds p):ak Tryz.prog rOr.1 vs ck ret ck':=eu bH Tryz.func62 (by kernel_rfl) h hp
def Lq:Cfg:=⟨bu,[nV,rGs,rBs,rKd,rOr]⟩
theorem KK:ai Tryz.prog Lq.tab:=(ai.cons u7 (ai.cons OF (ai.cons Ow (ai.cons Oj (ai.cons OI ai.nil)))))
def rSt:Nat×(List SX→List Chunk→Option (Option Prop×SV×List Chunk)):=fV Tryz.prog Lq Tryz.f28 30 28
theorem Of (p:Option Prop) (ret:SV) (ck':List Chunk) (h:rSt.2 vs ck=some (p,ret,ck')) (hp:Holds p):ak Tryz.prog rSt.1 vs ck ret ck':=eu KK Tryz.func28 (by kernel_rfl) h hp
/-! ### held against itself -/
def rEs:Nat×(List SX→List Chunk→Option (Option Prop×SV×List Chunk)):=fV Tryz.prog cF Tryz.f63 30 63
theorem N2 (p:Option Prop) (ret:SV) (ck':List Chunk) (h:rEs.2 vs ck=some (p,ret,ck')) (hp:Holds p):ak Tryz.prog rEs.1 vs ck ret ck':=eu bH Tryz.func63 (by kernel_rfl) h hp
def rEv:Nat×(List SX→List Chunk→Option (Option Prop×SV×List Chunk)):=fV Tryz.prog cF Tryz.f64 30 64
theorem N4 (p:Option Prop) (ret:SV) (ck':List Chunk) (h:rEv.2 vs ck=some (p,ret,ck')) (hp:Holds p):ak Tryz.prog rEv.1 vs ck ret ck':=eu bH Tryz.func64 (by kernel_rfl) h hp
def rEc:Nat×(List SX→List Chunk→Option (Option Prop×SV×List Chunk)):=fV Tryz.prog cF Tryz.f70 30 70
theorem NX (p:Option Prop) (ret:SV) (ck':List Chunk) (h:rEc.2 vs ck=some (p,ret,ck')) (hp:Holds p):ak Tryz.prog rEc.1 vs ck ret ck':=eu bH Tryz.func70 (by kernel_rfl) h hp
def rEd:Nat×(List SX→List Chunk→Option (Option Prop×SV×List Chunk)):=fV Tryz.prog cF Tryz.f108 30 108
theorem NU (p:Option Prop) (ret:SV) (ck':List Chunk) (h:rEd.2 vs ck=some (p,ret,ck')) (hp:Holds p):ak Tryz.prog rEd.1 vs ck ret ck':=eu bH Tryz.func108 (by kernel_rfl) h hp
def Lp:Cfg:=⟨bu,[rEd]⟩
theorem KA:ai Tryz.prog Lp.tab:=(ai.cons NU ai.nil)
def rSb:Nat×(List SX→List Chunk→Option (Option Prop×SV×List Chunk)):=fV Tryz.prog Lp Tryz.f67 30 67
theorem IA (p:Option Prop) (ret:SV) (ck':List Chunk) (h:rSb.2 vs ck=some (p,ret,ck')) (hp:Holds p):ak Tryz.prog rSb.1 vs ck ret ck':=eu KA Tryz.func67 (by kernel_rfl) h hp
def K5:Cfg:=⟨bu,[rSb]⟩
theorem Jz:ai Tryz.prog K5.tab:=(ai.cons IA ai.nil)
def rS1:Nat×(List SX→List Chunk→Option (Option Prop×SV×List Chunk)):=fV Tryz.prog K5 Tryz.f66 30 66
theorem N3 (p:Option Prop) (ret:SV) (ck':List Chunk) (h:rS1.2 vs ck=some (p,ret,ck')) (hp:Holds p):ak Tryz.prog rS1.1 vs ck ret ck':=eu Jz Tryz.func66 (by kernel_rfl) h hp
def Le:Cfg:=⟨bu,[rEc,rSb]⟩
theorem Je:ai Tryz.prog Le.tab:=(ai.cons NX (ai.cons IA ai.nil))
def rS2:Nat×(List SX→List Chunk→Option (Option Prop×SV×List Chunk)):=fV Tryz.prog Le Tryz.f69 30 69
theorem NM (p:Option Prop) (ret:SV) (ck':List Chunk) (h:rS2.2 vs ck=some (p,ret,ck')) (hp:Holds p):ak Tryz.prog rS2.1 vs ck ret ck':=eu Je Tryz.func69 (by kernel_rfl) h hp
def Lt:Cfg:=⟨bu,[rS1]⟩
theorem KQ:ai Tryz.prog Lt.tab:=(ai.cons N3 ai.nil)
def rEt:Nat×(List SX→List Chunk→Option (Option Prop×SV×List Chunk)):=fV Tryz.prog Lt Tryz.f65 30 65
theorem NJ (p:Option Prop) (ret:SV) (ck':List Chunk) (h:rEt.2 vs ck=some (p,ret,ck')) (hp:Holds p):ak Tryz.prog rEt.1 vs ck ret ck':=eu KQ Tryz.func65 (by kernel_rfl) h hp
def K9:Cfg:=⟨bu,[rS2]⟩
theorem J8:ai Tryz.prog K9.tab:=(ai.cons NM ai.nil)
def rEr:Nat×(List SX→List Chunk→Option (Option Prop×SV×List Chunk)):=fV Tryz.prog K9 Tryz.f68 30 68
theorem N6 (p:Option Prop) (ret:SV) (ck':List Chunk) (h:rEr.2 vs ck=some (p,ret,ck')) (hp:Holds p):ak Tryz.prog rEr.1 vs ck ret ck':=eu J8 Tryz.func68 (by kernel_rfl) h hp
def Ll:Cfg:=⟨bu,[rEs,rEv,rEt,rEr]⟩
theorem KR:ai Tryz.prog Ll.tab:=(ai.cons N2 (ai.cons N4 (ai.cons NJ (ai.cons N6 ai.nil))))
def rSm:Nat×(List SX→List Chunk→Option (Option Prop×SV×List Chunk)):=fV Tryz.prog Ll Tryz.f31 30 31
theorem N7 (p:Option Prop) (ret:SV) (ck':List Chunk) (h:rSm.2 vs ck=some (p,ret,ck')) (hp:Holds p):ak Tryz.prog rSm.1 vs ck ret ck':=eu KR Tryz.func31 (by kernel_rfl) h hp
def Lx:Cfg:=⟨bu,[Az,Bw,eBl,rSt,y9,rSm,wD,vV]⟩
theorem Kk:ai Tryz.prog Lx.tab:=(ai.cons CJ (ai.cons C6 (ai.cons Hn (ai.cons Of (ai.cons Dq (ai.cons N7 (ai.cons wb (ai.cons wI ai.nil))))))))
def rSh:Nat×(List SX→List Chunk→Option (Option Prop×SV×List Chunk)):=fV Tryz.prog Lx Tryz.f13 30 13
theorem Oi (p:Option Prop) (ret:SV) (ck':List Chunk) (h:rSh.2 vs ck=some (p,ret,ck')) (hp:Holds p):ak Tryz.prog rSh.1 vs ck ret ck':=eu Kk Tryz.func13 (by kernel_rfl) h hp
def O1:Cfg:=⟨bu,[y9,rSh]⟩
theorem KB:ai Tryz.prog O1.tab:=(ai.cons Dq (ai.cons Oi ai.nil))
end
abbrev wkI (i:Int) (n:Nat):Prop:=0≤i∧i<n
abbrev wkF:Prop:=n≤9223372036854775807
abbrev wkR:Prop:=n≤140737488355328
theorem Fx:ak Tryz.prog 10 [] [] (.x (.b true)) []:=by
 refine ak.run KB Tryz.func10 (by kernel_rfl) (by kernel_rfl) 9 [jT [false=false→jT [true=true→jT [wkI 0 1,wkI 0 1],true=true→jT [wkI 1 2,wkI 1 2,wkI 0 2,wkI 0 2]],kB (ints ex1),wkR 39,jT [wkF 23,wkF 14,wkF 13,wkF 12,wkF 11,wkF 10,wkF 9,wkF 8,wkF 7,wkF 5,0<1,wkI 0 1,wkF 9,wkF 8,wkF 7,wkF 6,jT [wkI 0 6],(0:Int)≤1∧(1:Int)≤9223372036854775807∧wkR 1,1<2,wkI 1 2],wkR 16,jT [0<1,wkI 0 1,wkF 8,wkF 7,wkF 2,wkF 5,wkF 4,wkF 3,jT [wkI 1 6],(0:Int)≤0∧(0:Int)≤9223372036854775807∧wkR 0,0<2,wkI 0 2],wkR 8,wkF 8,wkF 7]] (by kernel_rfl) ?_
 have hb:kB (ints ex1):=⟨by rw [lO],Dg (by decide)⟩
 repeat' first
  | exact trivial
  | exact hb
  | decide
  | constructor
  | intro _
def oj:Ent:=(10,fun
 | [],[]=>some (none,.x (.c (.pd (.bool true))),[])
 | _,_=>none)
theorem qE:EntOk Tryz.prog oj:=entOk fun vs ck=>by
 unfold oj; dsimp only; split
 · exact entS fun hp=>Fx
 · exact entN
end Go.Proofs.YtpfidgnkokidoaaGreatDoor

/- Contracts: strings.Builder: read once, read again, how long. Conditions: a reading: some bytes. Contracts: the layer's example holds, walked on itself. Conditions: none. Contracts: charts held against each other, by the program and by the document. Conditions: sizes. Contracts: charts held against each other by the document. Conditions: sizes. -/
import Derived.Test.YtpfidgnkokidoaaGreatDoorYb
import Derived.Test.YtpfidgnkokidoaaGreatDoorDa
import Derived.Test.YtpfidgnkokidoaaGreatDoorShelfi
import Derived.Test.YtpfidgnkokidoaaGreatDoorWr
import Derived.Test.YtpfidgnkokidoaaGreatDoorXb
import Derived.Test.YtpfidgnkokidoaaGreatDoorShelff
namespace Go.Proofs.YtpfidgnkokidoaaGreatDoor
open Go Go.Ev Go.RowKit
set_option maxRecDepth 100000
theorem Bk {V:Vn} {vs:List Value} (hv:All2 (SX.R V) [.c (.loc 0 0)] vs):vs=[.pointer (some ⟨V.σ 0,0,none⟩)]:=by
 cases hv with
 | cons a1 hv =>
   cases hv
   have a1':_=Value.pointer (some ⟨V.σ 0,0,none⟩):=a1
   rw [a1']
variable {w:World} {g:Nat} (l:List Int) {n:Nat}
theorem AI {cur:Array Value} {e:TypeId} (hn:n≠0) (hg:w.heap[g]?=some (.cells cur e (0,0))):(w.drew.freeze ⟨g,0,none⟩ n).heap[g]?=some (.cells cur e (0,n)):=by
 have hg':w.drew.heap[g]?=some (.cells cur e (0,0)):=hg
 unfold World.freeze
 rw [if_neg hn]
 simp [Array.getElem?_modify,hg']
theorem lp {k:Nat} (hk:k≠g):(w.drew.freeze ⟨g,0,none⟩ n).heap[k]?=w.heap[k]?:=by
 unfold World.freeze
 split
 · rfl
 · simp only [Array.getElem?_modify]
   rw [if_neg (Ne.symm hk)]; rfl
theorem yB {cur:Array Value} {e:TypeId} (hn:n≠0) (hg:w.heap[g]?=some (.cells cur e (0,n))):(w.drew.freeze ⟨g,0,none⟩ n).heap[g]?=some (.cells cur e (0,n)):=by
 have hg':w.drew.heap[g]?=some (.cells cur e (0,n)):=hg
 unfold World.freeze
 rw [if_neg hn]
 have h2:¬0=n:=fun e=>hn e.symm
 simp [Array.getElem?_modify,hg',h2]
theorem qU (w:World) (g n:Nat):(w.drew.freeze ⟨g,0,none⟩ n).os=w.os∧(w.drew.freeze ⟨g,0,none⟩ n).tape=w.tape∧(w.drew.freeze ⟨g,0,none⟩ n).output=w.output∧(w.drew.freeze ⟨g,0,none⟩ n).heap.size=w.heap.size:=by
 unfold World.freeze
 split
 · exact ⟨rfl,rfl,rfl,rfl⟩
 · refine ⟨rfl,rfl,rfl,?_⟩
   show (w.drew.heap.modify g _).size=w.heap.size
   rw [Array.size_modify]; rfl
def qG:Prop:=ints (lZ l)=l∧l≠[]
abbrev zYc1:Chunk:=.cells [.loc 0 0,.own 1] 73
theorem H4 (h:qG l):ak Tryz.prog 30 [.c (.loc 0 0)] [zYc1,.own 5 .byte l] (.x (.s (lZ l))) [.cells [.loc 0 0,.pd (.buf 5 (lZ l))] 73,.dead]:=by
 obtain ⟨hl,h0⟩:=h
 generalize lZ l=s at *
 subst hl
 have hs0:s≠[]:=by rintro rfl; exact h0 rfl
 have hn0:s.length≠0:=by simpa using hs0
 intro w V vs hw hT hv
 rw [Bk hv]
 obtain ⟨us,hb,hu⟩:=hw.own 0 _ rfl
 obtain ⟨a,b,rfl,ha,hbv⟩:=l9 hu
 have ha':a = .pointer (some ⟨V.σ 0,0,none⟩):=ha
 have hb':b=V.ov 1:=hbv
 subst ha'; subst hb'
 obtain ⟨xs,ho,hx,hs1⟩:=hw.own 1 _ rfl
 have hxs:=wm hx
 rw [yY] at ho
 rcases ho.2 with ⟨_,hz⟩ | ⟨g,cap,cur,hv1,_,hg,hnc,hcm,hcs,htake⟩
 · exact absurd hz hn0
 rw [hv1] at hb
 have hsz:cur.size=cap:=by have:cur.size=cap * 1:=hcs; omega
 have hcur:∀ (j:Nat) (x:UInt8),s[j]?=some x→cur[j]?=some (Value.int .u8 x.toNat):=by
  intro j x hj
  have h1:xs[j]?=some (.int .u8 x.toNat):=by rw [hxs]; unfold ints; rw [List.map_map,List.getElem?_map,hj]; rfl
  have htake':cur.toList.take (s.length * 1)=xs:=htake
  rw [← htake',List.getElem?_take] at h1
  split at h1
  · simpa using h1
  · cases h1
 have hblk:Chunk.blk V 1 (.own 5 .byte (ints s))=some g:=by simp only [Chunk.blk]; rw [hv1]; rfl
 have hb1:=hw.base 1 _ g rfl hblk
 have h01:V.σ 0≠g:=fun e=>by have:=hw.inj 0 1 _ _ g rfl rfl (by rw [← e]; rfl) hblk; cases this
 refine (str_exact (ρ:=Tryz.lays156_ren) { Tryz.lays156 with } Tryz.Builder_Extra_156 (V.σ 0) g cap _ cur (0,0) s w hs0 hb hg hnc hcm (by omega) hcur).mono fun e w' ⟨he,hw'⟩=>?_
 subst he; subst hw'
 have hfr:=qU w g s.length
 have hgr:w.grownBy (w.drew.freeze ⟨g,0,none⟩ s.length) (some g):=⟨hfr.1,hfr.2.1,hfr.2.2.1,by rw [hfr.2.2.2]; exact aD _,fun k _ hk=>lp fun e=>hk (by rw [e])⟩
 obtain ⟨V2,hag,hH,_,_,hw2⟩:=hw.regrow rfl (aD 2) (some 1) (c:=.dead) (v':=undef) (s':=0) (w':=w.drew.freeze ⟨g,0,none⟩ s.length) (row:=some g) (fun b hb=>⟨1,_,rfl,rfl,by rw [hblk]; exact hb⟩) hgr (fun V' hag hH f1 f2=>⟨trivial,fun b hb=>by simp [Chunk.blk] at hb⟩)
 have hw3:WOk (Go.Ev.entry [zYc1,.own 5 .byte (ints s)] V w) ([zYc1,.dead]++[.dead]) V2 (w.drew.freeze ⟨g,0,none⟩ s.length):=hw2
 have hw4:=hw3.chop
 have s0:V2.σ 0=V.σ 0:=(hag.same 0 (by show 0<2; omega)).1
 obtain ⟨hle,hw5⟩:=IE hw4 (g:=g) (o:=.cells cur 5 (0,s.length)) (AI hn0 hg) (by rw [hH]; exact hb1.2) hb1.1 (fun i c hc=>by
  match i with
  | 0 =>
    simp at hc; subst hc
    intro e
    have e':some (V2.σ 0)=some g:=e
    rw [s0] at e'
    exact h01 (av e')
  | 1=>simp at hc; subst hc; intro e; cases e
  | i+2=>simp at hc)
 have hb2:(w.drew.freeze ⟨g,0,none⟩ s.length).heap[V2.σ 0]?=some (.cells #[.pointer (some ⟨V.σ 0,0,none⟩),.slice (some ⟨g,0,none⟩) s.length cap] 73 (0,0)):=by
  rw [s0,lp h01]; exact hb
 have hw6:=hw5.rewrite (i:=0) rfl (.cells [.loc 0 0,.pd (.buf 5 s)] 73) (w':=w.drew.freeze ⟨g,0,none⟩ s.length) ⟨rfl,rfl,rfl,rfl⟩ (fun _ _=>rfl) rfl ⟨_,hb2,.cons (by show _=Value.pointer (some ⟨V2.σ 0,0,none⟩); rw [s0]) (.cons (PR.buf _ s g cap cur (by simp) hs0 hnc hcm (by omega) hcur) .nil)⟩
 exact ⟨_,_,rfl,PR.str s,hw6⟩
theorem HY (s:Str):ak Tryz.prog 30 [.c (.loc 0 0)] [.cells [.loc 0 0,.pd (.buf 5 s)] 73] (.x (.s s)) [.cells [.loc 0 0,.pd (.buf 5 s)] 73]:=by
 intro w V vs hw hT hv
 rw [Bk hv]
 obtain ⟨us,hb,hu⟩:=hw.own 0 _ rfl
 obtain ⟨a,b,rfl,ha,hbv⟩:=l9 hu
 have hbv':PR V.H (.buf 5 s) b:=hbv
 cases hbv' with
 | buf _ _ g cap cur hbH h0 hnc hcm hcs hcur =>
   have hg:=hw.imm _ _ hbH
   have hn0:s.length≠0:=by simpa using h0
   refine (str_exact (ρ:=Tryz.lays156_ren) { Tryz.lays156 with } Tryz.Builder_Extra_156 (V.σ 0) g cap _ cur (0,s.length) s w h0 hb hg hnc hcm hcs hcur).mono fun e w' ⟨he,hw'⟩=>?_
   subst he; subst hw'
   have hfr:=qU w g s.length
   refine ⟨_,V,rfl,PR.str s,hw.kept ⟨hfr.1,hfr.2.1,hfr.2.2.1,by rw [hfr.2.2.2]; exact aD _,fun k _ _=>?_⟩⟩
   by_cases hk:k=g
   · subst hk; rw [yB hn0 hg,hg]
   · exact lp hk
def Dt:Ent:=(30,fun
 | [.c (.loc 0 0)],[.cells [.loc 0 0,.own 1] 73,.own 5 .byte l]=>some (some (qG l),.x (.c (.pd (.str (lZ l)))),[.cells [.loc 0 0,.pd (.buf 5 (lZ l))] 73,.dead])
 | _,_=>none)
theorem K9:EntOk Tryz.prog Dt:=entOk fun vs ck=>by
 unfold Dt; dsimp only; split
 · rename_i l; exact entS fun hp=>H4 l hp
 · exact entN
def EC:Ent:=(30,fun
 | [.c (.loc 0 0)],[.cells [.loc 0 0,.pd (.buf 5 s)] 73]=>some (none,.x (.c (.pd (.str s))),[.cells [.loc 0 0,.pd (.buf 5 s)] 73])
 | _,_=>none)
theorem K5:EntOk Tryz.prog EC:=entOk fun vs ck=>by
 unfold EC; dsimp only; split
 · rename_i s; exact entS fun hp=>HY s
 · exact entN
theorem Nh:ak Tryz.prog 29 [.c (.loc 0 0)] [zYc1,.own 5 .byte l] (.x (.i l.length)) [zYc1,.own 5 .byte l]:=by
 refine dg aV Tryz.func29 (.ret (.i l.length) [zYc1,.own 5 .byte l]) fun Γ=>?_
 exact ⟨rfl,rfl⟩
def eBl:Ent:=(29,fun
 | [.c (.loc 0 0)],[.cells [.loc 0 0,.own 1] 73,.own 5 .byte l]=>some (none,.x (.c (.pd (.int .i64 l.length))),[.cells [.loc 0 0,.own 1] 73,.own 5 .byte l])
 | _,_=>none)
theorem Oa:EntOk Tryz.prog eBl:=entOk fun vs ck=>by
 unfold eBl; dsimp only; split
 · rename_i l; exact entS fun hp=>Nh l
 · exact entN
end Go.Proofs.YtpfidgnkokidoaaGreatDoor
namespace Go.Proofs.YtpfidgnkokidoaaGreatDoor
open Go Go.Ev
set_option maxRecDepth 100000
def Ak:Ent:=(8,fun
 | [.c (.pd (.str s))],[]=>bif s==ex1 then some (none,.tup [.agg [.pd (.str [99]),.own 0,.own 1,.own 2,.own 3],.c (.pd (.int .i64 0)),.c (.pd (.int .i64 0))],[.own 9 .str [],.own 61 .var [],.own 64 .stat exC.states,.own 68 .tran exC.trans]) else
   bif s==ex2 then some (none,.tup [.agg [.pd (.str []),.pd (.v (.slice none 0 0)),.pd (.v (.slice none 0 0)),.pd (.v (.slice none 0 0)),.pd (.v (.slice none 0 0))],.c (.pd (.int .i64 2)),.c (.pd (.int .i64 1))],[]) else none
 | _,_=>none)
theorem NX:ak Tryz.prog 8 [.s ex1] [] (.tup [.agg [.pd (.str [99]),.own 0,.own 1,.own 2,.own 3],.i 0,.i 0]) [.own 9 .str [],.own 61 .var [],.own 64 .stat exC.states,.own 68 .tran exC.trans]:=by
 have h:=wv ex1 (by show (bm ex1).2.2=0; rw [BG])
 rw [BG] at h
 exact h
theorem Nv:ak Tryz.prog 8 [.s ex2] [] (.tup [.agg [.pd (.str []),.pd (.v (.slice none 0 0)),.pd (.v (.slice none 0 0)),.pd (.v (.slice none 0 0)),.pd (.v (.slice none 0 0))],.i 2,.i 1]) []:=by
 have h:=vV ex2 (fun h=>by
  have h2:(bm ex2).2.2=0:=h
  rw [FG] at h2
  have h3:(1:Int)=0:=h2
  exact absurd h3 (by decide))
 rw [FG] at h
 exact h
variable (vs:List SX) (ck:List Chunk) (n:Nat)
theorem Bp (p:Option Prop) (ret:SV) (ck':List Chunk) (h:Ak.2 vs ck=some (p,ret,ck')) (hp:Holds p):ak Tryz.prog Ak.1 vs ck ret ck':=by
 unfold Ak at h
 simp only at h
 split at h
 · rename_i s
   cases h1:s==ex1
   · rw [h1,cond_false] at h
     cases h2:s==ex2
     · rw [h2,cond_false] at h; cases h
     · rw [h2,cond_true] at h
       simp only [aa,ae] at h
       obtain ⟨rfl,rfl,rfl⟩:=h
       rw [eq_of_beq h2]; exact Nv
   · rw [h1,cond_true] at h
     simp only [aa,ae] at h
     obtain ⟨rfl,rfl,rfl⟩:=h
     rw [eq_of_beq h1]; exact NX
 · cases h
/-! ### the example told -/
noncomputable section
def Ku:Cfg:=⟨a6,[pZ]⟩
theorem J7:ah Tryz.prog Ku.tab:=(ah.cons vm ah.nil)
def rGs:Nat×(List SX→List Chunk→Option (Option Prop×SV×List Chunk)):=fK Tryz.prog Ku Tryz.f61 30 61
theorem Nf (p:Option Prop) (ret:SV) (ck':List Chunk) (h:rGs.2 vs ck=some (p,ret,ck')) (hp:Holds p):ak Tryz.prog rGs.1 vs ck ret ck':=dX J7 Tryz.func61 (by kernel_rfl) h hp
def KW:Cfg:=⟨a6,[tH]⟩
theorem IN:ah Tryz.prog KW.tab:=(ah.cons FA ah.nil)
def rBs:Nat×(List SX→List Chunk→Option (Option Prop×SV×List Chunk)):=fK Tryz.prog KW Tryz.f60 30 60
theorem Nm (p:Option Prop) (ret:SV) (ck':List Chunk) (h:rBs.2 vs ck=some (p,ret,ck')) (hp:Holds p):ak Tryz.prog rBs.1 vs ck ret ck':=dX IN Tryz.func60 (by kernel_rfl) h hp
def rKd:Nat×(List SX→List Chunk→Option (Option Prop×SV×List Chunk)):=fK Tryz.prog bK Tryz.f59 30 59
theorem Nl (p:Option Prop) (ret:SV) (ck':List Chunk) (h:rKd.2 vs ck=some (p,ret,ck')) (hp:Holds p):ak Tryz.prog rKd.1 vs ck ret ck':=dX aV Tryz.func59 (by kernel_rfl) h hp
def rOr:Nat×(List SX→List Chunk→Option (Option Prop×SV×List Chunk)):=fK Tryz.prog bK Tryz.f62 30 62
theorem N1 (p:Option Prop) (ret:SV) (ck':List Chunk) (h:rOr.2 vs ck=some (p,ret,ck')) (hp:Holds p):ak Tryz.prog rOr.1 vs ck ret ck':=dX aV Tryz.func62 (by kernel_rfl) h hp
def Kb:Cfg:=⟨a6,[qB,rGs,rBs,rKd,rOr]⟩
theorem JS:ah Tryz.prog Kb.tab:=(ah.cons DT (ah.cons Nf (ah.cons Nm (ah.cons Nl (ah.cons N1 ah.nil)))))
def rSt:Nat×(List SX→List Chunk→Option (Option Prop×SV×List Chunk)):=fK Tryz.prog Kb Tryz.f28 30 28
theorem NT (p:Option Prop) (ret:SV) (ck':List Chunk) (h:rSt.2 vs ck=some (p,ret,ck')) (hp:Holds p):ak Tryz.prog rSt.1 vs ck ret ck':=dX JS Tryz.func28 (by kernel_rfl) h hp
/-! ### held against itself -/
def rEs:Nat×(List SX→List Chunk→Option (Option Prop×SV×List Chunk)):=fK Tryz.prog bK Tryz.f63 30 63
theorem N3 (p:Option Prop) (ret:SV) (ck':List Chunk) (h:rEs.2 vs ck=some (p,ret,ck')) (hp:Holds p):ak Tryz.prog rEs.1 vs ck ret ck':=dX aV Tryz.func63 (by kernel_rfl) h hp
def rEv:Nat×(List SX→List Chunk→Option (Option Prop×SV×List Chunk)):=fK Tryz.prog bK Tryz.f64 30 64
theorem NO (p:Option Prop) (ret:SV) (ck':List Chunk) (h:rEv.2 vs ck=some (p,ret,ck')) (hp:Holds p):ak Tryz.prog rEv.1 vs ck ret ck':=dX aV Tryz.func64 (by kernel_rfl) h hp
def rEc:Nat×(List SX→List Chunk→Option (Option Prop×SV×List Chunk)):=fK Tryz.prog bK Tryz.f70 30 70
theorem Ny (p:Option Prop) (ret:SV) (ck':List Chunk) (h:rEc.2 vs ck=some (p,ret,ck')) (hp:Holds p):ak Tryz.prog rEc.1 vs ck ret ck':=dX aV Tryz.func70 (by kernel_rfl) h hp
def rEd:Nat×(List SX→List Chunk→Option (Option Prop×SV×List Chunk)):=fK Tryz.prog bK Tryz.f108 30 108
theorem Oc (p:Option Prop) (ret:SV) (ck':List Chunk) (h:rEd.2 vs ck=some (p,ret,ck')) (hp:Holds p):ak Tryz.prog rEd.1 vs ck ret ck':=dX aV Tryz.func108 (by kernel_rfl) h hp
def Kv:Cfg:=⟨a6,[rEd]⟩
theorem JK:ah Tryz.prog Kv.tab:=(ah.cons Oc ah.nil)
def rSb:Nat×(List SX→List Chunk→Option (Option Prop×SV×List Chunk)):=fK Tryz.prog Kv Tryz.f67 30 67
theorem GK (p:Option Prop) (ret:SV) (ck':List Chunk) (h:rSb.2 vs ck=some (p,ret,ck')) (hp:Holds p):ak Tryz.prog rSb.1 vs ck ret ck':=dX JK Tryz.func67 (by kernel_rfl) h hp
def Kt:Cfg:=⟨a6,[rSb]⟩
theorem Ip:ah Tryz.prog Kt.tab:=(ah.cons GK ah.nil)
def rS1:Nat×(List SX→List Chunk→Option (Option Prop×SV×List Chunk)):=fK Tryz.prog Kt Tryz.f66 30 66
theorem Ni (p:Option Prop) (ret:SV) (ck':List Chunk) (h:rS1.2 vs ck=some (p,ret,ck')) (hp:Holds p):ak Tryz.prog rS1.1 vs ck ret ck':=dX Ip Tryz.func66 (by kernel_rfl) h hp
def KE:Cfg:=⟨a6,[rEc,rSb]⟩
theorem Il:ah Tryz.prog KE.tab:=(ah.cons Ny (ah.cons GK ah.nil))
def rS2:Nat×(List SX→List Chunk→Option (Option Prop×SV×List Chunk)):=fK Tryz.prog KE Tryz.f69 30 69
theorem NY (p:Option Prop) (ret:SV) (ck':List Chunk) (h:rS2.2 vs ck=some (p,ret,ck')) (hp:Holds p):ak Tryz.prog rS2.1 vs ck ret ck':=dX Il Tryz.func69 (by kernel_rfl) h hp
def Kj:Cfg:=⟨a6,[rS1]⟩
theorem IL:ah Tryz.prog Kj.tab:=(ah.cons Ni ah.nil)
def rEt:Nat×(List SX→List Chunk→Option (Option Prop×SV×List Chunk)):=fK Tryz.prog Kj Tryz.f65 30 65
theorem Nj (p:Option Prop) (ret:SV) (ck':List Chunk) (h:rEt.2 vs ck=some (p,ret,ck')) (hp:Holds p):ak Tryz.prog rEt.1 vs ck ret ck':=dX IL Tryz.func65 (by kernel_rfl) h hp
def KX:Cfg:=⟨a6,[rS2]⟩
theorem It:ah Tryz.prog KX.tab:=(ah.cons NY ah.nil)
def rEr:Nat×(List SX→List Chunk→Option (Option Prop×SV×List Chunk)):=fK Tryz.prog KX Tryz.f68 30 68
theorem M7 (p:Option Prop) (ret:SV) (ck':List Chunk) (h:rEr.2 vs ck=some (p,ret,ck')) (hp:Holds p):ak Tryz.prog rEr.1 vs ck ret ck':=dX It Tryz.func68 (by kernel_rfl) h hp
def Kg:Cfg:=⟨a6,[rEs,rEv,rEt,rEr]⟩
theorem I7:ah Tryz.prog Kg.tab:=(ah.cons N3 (ah.cons NO (ah.cons Nj (ah.cons M7 ah.nil))))
def rSm:Nat×(List SX→List Chunk→Option (Option Prop×SV×List Chunk)):=fK Tryz.prog Kg Tryz.f31 30 31
theorem NQ (p:Option Prop) (ret:SV) (ck':List Chunk) (h:rSm.2 vs ck=some (p,ret,ck')) (hp:Holds p):ak Tryz.prog rSm.1 vs ck ret ck':=dX I7 Tryz.func31 (by kernel_rfl) h hp
def J9:Cfg:=⟨a6,[Ez,B2,eBl,rSt,Ak,rSm,Dt,EC]⟩
theorem Jx:ah Tryz.prog J9.tab:=(ah.cons Lh (ah.cons MR (ah.cons Oa (ah.cons NT (ah.cons Bp (ah.cons NQ (ah.cons K9 (ah.cons K5 ah.nil))))))))
def rSh:Nat×(List SX→List Chunk→Option (Option Prop×SV×List Chunk)):=fK Tryz.prog J9 Tryz.f13 30 13
theorem NC (p:Option Prop) (ret:SV) (ck':List Chunk) (h:rSh.2 vs ck=some (p,ret,ck')) (hp:Holds p):ak Tryz.prog rSh.1 vs ck ret ck':=dX Jx Tryz.func13 (by kernel_rfl) h hp
def Oy:Cfg:=⟨a6,[Ak,rSh]⟩
theorem H5:ah Tryz.prog Oy.tab:=(ah.cons Bp (ah.cons NC ah.nil))
end
abbrev wkI (i:Int) (n:Nat):Prop:=0≤i∧i<n
abbrev wkF:Prop:=n≤9223372036854775807
abbrev wkR:Prop:=n≤140737488355328
theorem Dk:ak Tryz.prog 10 [] [] (.x (.b true)) []:=by
 refine ak.run H5 Tryz.func10 (by kernel_rfl) (by kernel_rfl) 9 [ji [false=false→ji [true=true→ji [wkI 0 1,wkI 0 1],true=true→ji [wkI 1 2,wkI 1 2,wkI 0 2,wkI 0 2]],qG (ints ex1),wkR 39,ji [wkF 23,wkF 14,wkF 13,wkF 12,wkF 11,wkF 10,wkF 9,wkF 8,wkF 7,wkF 5,0<1,wkI 0 1,wkF 9,wkF 8,wkF 7,wkF 6,ji [wkI 0 6],(0:Int)≤1∧(1:Int)≤9223372036854775807∧wkR 1,1<2,wkI 1 2],wkR 16,ji [0<1,wkI 0 1,wkF 8,wkF 7,wkF 2,wkF 5,wkF 4,wkF 3,ji [wkI 1 6],(0:Int)≤0∧(0:Int)≤9223372036854775807∧wkR 0,0<2,wkI 0 2],wkR 8,wkF 8,wkF 7]] (by kernel_rfl) ?_
 have hb:qG (ints ex1):=⟨by rw [DS],Li (by decide)⟩
 repeat' first
  | exact trivial
  | exact hb
  | decide
  | constructor
  | intro _
def pP:Ent:=(10,fun
 | [],[]=>some (none,.x (.c (.pd (.bool true))),[])
 | _,_=>none)
theorem vw:EntOk Tryz.prog pP:=entOk fun vs ck=>by
 unfold pP; dsimp only; split
 · exact entS fun hp=>Dk
 · exact entN
end Go.Proofs.YtpfidgnkokidoaaGreatDoor
namespace Go.Proofs.YtpfidgnkokidoaaGreatDoor
open Go Go.Ev
set_option maxRecDepth 100000
def qg (x y:Var):Bool:=x.name==y.name&&(x.kind==y.kind&&(x.lo==y.lo&&(x.hi==y.hi&&(x.init.kind==y.init.kind&&(x.init.a==y.init.a&&x.init.b==y.init.b)))))
def nF (x y:Ev.Stat):Bool:=x.name==y.name&&(x.kind==y.kind&&(x.depth==y.depth&&(x.initial==y.initial&&(cO x.entry y.entry&&cO x.leave y.leave))))
def nW (x y:Tran):Bool:=x.src==y.src&&(x.event==y.event&&(eS x.guard y.guard&&(x.dst==y.dst&&cO x.acts y.acts)))
def eX:List Str→List Str→Bool
 | [],[]=>true
 | x::r,y::q=>x==y&&eX r q
 | _,_=>false
def fQ:List Var→List Var→Bool
 | [],[]=>true
 | x::r,y::q=>qg x y&&fQ r q
 | _,_=>false
def eK:List Ev.Stat→List Ev.Stat→Bool
 | [],[]=>true
 | x::r,y::q=>nF x y&&eK r q
 | _,_=>false
def er:List Tran→List Tran→Bool
 | [],[]=>true
 | x::r,y::q=>nW x y&&er r q
 | _,_=>false
def iL (a b:Chart):Bool:=a.name==b.name&&(eX a.events b.events&&(fQ a.vars b.vars&&(eK a.states b.states&&er a.trans b.trans)))
theorem px:∀ a b:List Str,a.length≠b.length→eX a b=false
 | [],[],h=>absurd rfl h
 | [],_::_,_=>rfl
 | _::_,[],_=>rfl
 | x::r,y::q,h=>by rw [eX,px r q (fun e=>h (by simp [e])),bu]
theorem pj:∀ a b:List Var,a.length≠b.length→fQ a b=false
 | [],[],h=>absurd rfl h
 | [],_::_,_=>rfl
 | _::_,[],_=>rfl
 | x::r,y::q,h=>by rw [fQ,pj r q (fun e=>h (by simp [e])),bu]
theorem oF:∀ a b:List Ev.Stat,a.length≠b.length→eK a b=false
 | [],[],h=>absurd rfl h
 | [],_::_,_=>rfl
 | _::_,[],_=>rfl
 | x::r,y::q,h=>by rw [eK,oF r q (fun e=>h (by simp [e])),bu]
theorem oL:∀ a b:List Tran,a.length≠b.length→er a b=false
 | [],[],h=>absurd rfl h
 | [],_::_,_=>rfl
 | _::_,[],_=>rfl
 | x::r,y::q,h=>by rw [er,oL r q (fun e=>h (by simp [e])),bu]
/-! ### the program's -/
end Go.Proofs.YtpfidgnkokidoaaGreatDoor
namespace Go.Proofs.YtpfidgnkokidoaaGreatDoor
open Go Go.Ev
set_option maxRecDepth 100000
abbrev zYe2:List PI:=[.code [1,1,0,1,0,0],.inLoop [1,1,0,1,0,0],.inBlock 0,.code [1,1,1]]
theorem HX (a b:List Str) (Γ:Ctx) (hl:a.length≤maxLen) (hab:a.length=b.length)  : ∀ (n k:Nat),a.length - k≤n→k≤a.length →
 J Tryz.prog 23 (az Tryz.f23) Γ (Eq2 (.x (.b (eX (a.drop k) (b.drop k)))) []) zYe2 ({ n:=26,fr:=[(0,.p (.lst .str a)),(1,.p (.lst .str b)),(4,.p (.bool false)),(5,.i k)],ck:=[],kn:=[4] }):=by
 intro n
 induction n with
 | zero=>?_
 | succ n ih=>?_
 all_goals
  intro k hn hk
  refine jg aV Tryz.func23 (.ite (decide ((k:Int)<(a.length:Int))) (.need (inRg k a.length) (.need (inRg k b.length) (.ite (!ETy.get .str a k==ETy.get .str b k) (.ret (.p (.bool false)) []) (.stop zYe2 { n:=26,fr:=[(0,.p (.lst .str a)),(1,.p (.lst .str b)),(4,.p (.bool false)),(5,.i (IntKind.wrap .i64 ((k:Int)+1)))],ck:=[] })))) (.ret (.p (.bool true)) [])) ?_
  refine ⟨fun hlt=>?_,fun hge=>?_⟩
  · have hk':k<a.length:=by have:=of_decide_eq_true hlt; omega
    rw [dw (t:=.str) (l:=a) hk',dw (t:=.str) (l:=b) (by omega)]
    refine ⟨by omega,by omega,?_⟩
    generalize ETy.get .str a k=x
    generalize ETy.get .str b k=y
    refine ⟨fun h=>?_,fun h=>?_⟩
    · have h':(x==y)=false:=nt h
      rw [eX,h',cJ]; exact ⟨rfl,rfl⟩
    · have h':(x==y)=true:=nf h
      rw [eX,h',cf,cU (ju hk' hl)]
      first
      | (exfalso; omega)
      | exact J.kn [4] (ih (k+1) (by omega) (by omega))
  · have hk2:k=a.length:=by have:=of_decide_eq_false hge; omega
    have e:a.drop k=[]:=dy (by omega)
    have e2:b.drop k=[]:=dy (by omega)
    rw [e,e2]; exact ⟨rfl,rfl⟩
theorem I9 (a b:List Str)  : ak Tryz.prog 23 [.l .str (a),.l .str (b)] [] (.x (.b (eX a b))) []:=by
 refine dg aV Tryz.func23 (.ite ((a.length:Int) != (b.length:Int)) (.ret (.p (.bool false)) []) (.stop zYe2 { n:=26,fr:=[(0,.p (.lst .str a)),(1,.p (.lst .str b)),(4,.p (.bool false)),(5,.i 0)],ck:=[],kn:=[4] })) fun Γ=>?_
 refine ⟨fun h=>?_,fun h=>?_⟩
 · rw [px a b (by have:(a.length:Int)≠b.length:=(by simpa using h); omega)]; exact ⟨rfl,rfl⟩
 · have hab:a.length=b.length:=by
    have:(a.length:Int)=b.length:=by simpa using h
    omega
   exact J.len 0 rfl fun hl=>HX a b Γ hl hab  a.length 0 (by omega) (bJ _)
def Cm:Ent:=(23,fun
 | [.c (.pd (.lst .str a)),.c (.pd (.lst .str b))],[]=>some (none,.x (.c (.pd (.bool (eX a b)))),[])
 | _,_=>none)
theorem LH:EntOk Tryz.prog Cm:=entOk fun vs ck=>by
 unfold Cm; dsimp only; split
 · rename_i a b; exact entS fun hp=>I9 a b
 · exact entN
structure SmallC (c:Chart):Prop where
 events:c.events.length≤2000000
 vars:c.vars.length≤1000000
 states:c.states.length≤1000000
 trans:c.trans.length≤1000000
 stat:∀ s∈c.states,(∀ d∈s.entry,d.expr.length≤1000000)∧∀ d∈s.leave,d.expr.length≤1000000
 tran:∀ t∈c.trans,t.guard.length≤1000000∧∀ d∈t.acts,d.expr.length≤1000000
def o6:Cfg:=⟨a6,[Cm,sY,sQ]⟩
theorem l7:ah Tryz.prog o6.tab:=(ah.cons LH (ah.cons xI (ah.cons HE ah.nil)))
variable (a b:Chart) (Γ:Ctx)
abbrev zYe1:Chunk:=.cells [.pd (.str a.name),.pd (.lst .str a.events),.pd (.lst .var a.vars),.pd (.lst .stat a.states),.pd (.lst .tran a.trans)] 27
abbrev zYe3:List PI:=[.code [1,1,1,1,0,1,0,0],.inLoop [1,1,1,1,0,1,0,0],.inBlock 4,.code [1,1,1,1,1]]
theorem JL (hs:SmallC a) (hab:a.trans.length=b.trans.length):∀ (n k:Nat),a.trans.length - k≤n→k≤a.trans.length →
 J Tryz.prog 11 (az Tryz.f11) Γ (Eq2 (.x (.b (er (a.trans.drop k) (b.trans.drop k)))) []) zYe3 ({ n:=181,fr:=[(2,.x (.c (.loc 0 0))),(3,.x (.c (.loc 1 0))),(4,.p (.bool false)),(9,.i k)],ck:=[zYe1 a,zYe1 b],kn:=[4] }):=by
 intro n
 induction n with
 | zero=>?_
 | succ n ih=>?_
 all_goals
  intro k hn hk
  refine jg l7 Tryz.func11 (let x1:=(ETy.get .tran a.trans k); let x2:=(ETy.get .tran b.trans k); .ite (decide ((k:Int)<(a.trans.length:Int))) (.need (inRg k a.trans.length) (.need (inRg k b.trans.length) (.need ((Tran.src x1 != Tran.src x2 || !Tran.event x1==Tran.event x2 || !Tran.dst x1==Tran.dst x2)=false→(Tran.guard x1).length≤1000000) (.need ((Tran.src x1 != Tran.src x2 || !Tran.event x1==Tran.event x2 || !Tran.dst x1==Tran.dst x2 || !eS (Tran.guard x1) (Tran.guard x2))=false→∀ (d:ETy.den .deed),d∈Tran.acts x1→d.expr.length≤1000000) (.ite (Tran.src x1 != Tran.src x2 || !Tran.event x1==Tran.event x2 || !Tran.dst x1==Tran.dst x2 || !eS (Tran.guard x1) (Tran.guard x2) || !cO (Tran.acts x1) (Tran.acts x2)) (.ret (.p (.bool false)) []) (.stop zYe3 { n:=181,fr:=[(2,.x (.c (.loc 0 0))),(3,.x (.c (.loc 1 0))),(4,.p (.bool false)),(9,.i (IntKind.wrap .i64 ((k:Int)+1)))],ck:=[zYe1 a,zYe1 b],kn:=[4] })))))) (.ret (.p (.bool true)) [])) ?_
  conv=>zeta
  refine ⟨fun hlt=>?_,fun hge=>?_⟩
  · have hk':k<a.trans.length:=by have:=of_decide_eq_true hlt; omega
    have hx:=hs.tran _ (List.mem_of_getElem? (ETy.getElem?_get (t:=.tran) hk'))
    rw [dw (t:=.tran) (l:=a.trans) hk',dw (t:=.tran) (l:=b.trans) (by omega)]
    refine ⟨by omega,by omega,fun _=>hx.1,fun _=>hx.2,?_⟩
    generalize ETy.get .tran a.trans k=x
    generalize ETy.get .tran b.trans k=y
    have e:nW x y = !(x.src != y.src || !(x.event==y.event) || !(x.dst==y.dst) || !eS x.guard y.guard || !cO x.acts y.acts):=by
     simp only [nW,bne,Bool.not_or,Bool.not_not,eH]
     cases x.src==y.src <;> cases x.event==y.event <;> cases x.dst==y.dst <;> cases eS x.guard y.guard <;> rfl
    refine ⟨fun hb=>?_,fun hb=>?_⟩
    · rw [er,e,hb]; exact ⟨rfl,rfl⟩
    · rw [er,e,hb,Bool.not_false,cf,cU (by have:=hs.trans; omega)]
      first
      | (exfalso; omega)
      | exact ih (k+1) (by omega) (by omega)
  · have hk2:k=a.trans.length:=by have:=of_decide_eq_false hge; omega
    have e:a.trans.drop k=[]:=dy (by omega)
    have e2:b.trans.drop k=[]:=dy (by omega)
    rw [e,e2]; exact ⟨rfl,rfl⟩
abbrev zYe4:List PI:=[.code [1,1,1,0,1,0,0],.inLoop [1,1,1,0,1,0,0],.inBlock 2,.code [1,1,1,1]]
theorem HV (hs:SmallC a) (hab:a.states.length=b.states.length) (hab2:a.trans.length=b.trans.length):∀ (n k:Nat),a.states.length - k≤n→k≤a.states.length →
 J Tryz.prog 11 (az Tryz.f11) Γ (Eq2 (.x (.b (eK (a.states.drop k) (b.states.drop k)&&er a.trans b.trans))) []) zYe4 ({ n:=181,fr:=[(2,.x (.c (.loc 0 0))),(3,.x (.c (.loc 1 0))),(4,.p (.bool false)),(6,.i k)],ck:=[zYe1 a,zYe1 b],kn:=[4] }):=by
 intro n
 induction n with
 | zero=>?_
 | succ n ih=>?_
 all_goals
  intro k hn hk
  refine jg l7 Tryz.func11 (let x1:=(ETy.get .stat a.states k); let x2:=(ETy.get .stat b.states k); let x3:List Chunk:=[zYe1 a,zYe1 b]; .ite (decide ((k:Int)<(a.states.length:Int))) (.need (inRg k a.states.length) (.need (inRg k b.states.length) (.need ((!Stat.name x1==Stat.name x2||Stat.kind x1 != Stat.kind x2||Stat.depth x1 != Stat.depth x2 || !Stat.initial x1==Stat.initial x2)=false→∀ (d:ETy.den .deed),d∈Stat.entry x1→d.expr.length≤1000000) (.need ((!Stat.name x1==Stat.name x2||Stat.kind x1 != Stat.kind x2||Stat.depth x1 != Stat.depth x2 || !Stat.initial x1==Stat.initial x2 || !cO (Stat.entry x1) (Stat.entry x2))=false→∀ (d:ETy.den .deed),d∈Stat.leave x1→d.expr.length≤1000000) (.ite (!Stat.name x1==Stat.name x2||Stat.kind x1 != Stat.kind x2||Stat.depth x1 != Stat.depth x2 || !Stat.initial x1==Stat.initial x2 || !cO (Stat.entry x1) (Stat.entry x2) || !cO (Stat.leave x1) (Stat.leave x2)) (.ret (.p (.bool false)) []) (.stop zYe4 { n:=181,fr:=[(2,.x (.c (.loc 0 0))),(3,.x (.c (.loc 1 0))),(4,.p (.bool false)),(6,.i (IntKind.wrap .i64 ((k:Int)+1)))],ck:=x3,kn:=[4] })))))) (.stop zYe3 { n:=181,fr:=[(2,.x (.c (.loc 0 0))),(3,.x (.c (.loc 1 0))),(4,.p (.bool false)),(9,.i 0)],ck:=x3,kn:=[4] })) ?_
  conv=>zeta
  refine ⟨fun hlt=>?_,fun hge=>?_⟩
  · have hk':k<a.states.length:=by have:=of_decide_eq_true hlt; omega
    have hx:=hs.stat _ (List.mem_of_getElem? (ETy.getElem?_get (t:=.stat) hk'))
    rw [dw (t:=.stat) (l:=a.states) hk',dw (t:=.stat) (l:=b.states) (by omega)]
    refine ⟨by omega,by omega,fun _=>hx.1,fun _=>hx.2,?_⟩
    generalize ETy.get .stat a.states k=x
    generalize ETy.get .stat b.states k=y
    have e:nF x y = !(!(x.name==y.name)||x.kind != y.kind||x.depth != y.depth || !(x.initial==y.initial) || !cO x.entry y.entry || !cO x.leave y.leave):=by
     simp only [nF,bne,Bool.not_or,Bool.not_not,eH]
    refine ⟨fun hb=>?_,fun hb=>?_⟩
    · rw [eK,e,hb]; exact ⟨rfl,rfl⟩
    · rw [eK,e,hb,Bool.not_false,cf,cU (by have:=hs.states; omega)]
      first
      | (exfalso; omega)
      | exact ih (k+1) (by omega) (by omega)
  · have hk2:k=a.states.length:=by have:=of_decide_eq_false hge; omega
    have e:a.states.drop k=[]:=dy (by omega)
    have e2:b.states.drop k=[]:=dy (by omega)
    rw [e,e2]
    exact JL a b Γ hs hab2 a.trans.length 0 (by omega) (by omega)
theorem IU (hs:SmallC a) (hv:a.vars.length=b.vars.length) (hab:a.states.length=b.states.length) (hab2:a.trans.length=b.trans.length):∀ (n k:Nat),a.vars.length - k≤n→k≤a.vars.length →
 J Tryz.prog 11 (az Tryz.f11) Γ (Eq2 (.x (.b (fQ (a.vars.drop k) (b.vars.drop k)&&(eK a.states b.states&&er a.trans b.trans)))) []) zYe2 ({ n:=181,fr:=[(2,.x (.c (.loc 0 0))),(3,.x (.c (.loc 1 0))),(4,.p (.bool false)),(5,.i k)],ck:=[zYe1 a,zYe1 b],kn:=[4] }):=by
 intro n
 induction n with
 | zero=>?_
 | succ n ih=>?_
 all_goals
  intro k hn hk
  refine jg l7 Tryz.func11 (let x1:List Chunk:=[zYe1 a,zYe1 b]; let x2:=(ETy.get .var a.vars k); let x3:=(ETy.get .var b.vars k); .ite (decide ((k:Int)<(a.vars.length:Int))) (.need (inRg k a.vars.length) (.need (inRg k b.vars.length) (.ite (!(Var.name x2==Var.name x3&&(Var.kind x2==Var.kind x3&&(Var.lo x2==Var.lo x3&&(Var.hi x2==Var.hi x3&&(Val.kind (Var.init x2)==Val.kind (Var.init x3)&&(Val.a (Var.init x2)==Val.a (Var.init x3)&&Val.b (Var.init x2)==Val.b (Var.init x3)))))))) (.ret (.p (.bool false)) []) (.stop zYe2 { n:=181,fr:=[(2,.x (.c (.loc 0 0))),(3,.x (.c (.loc 1 0))),(4,.p (.bool false)),(5,.i (IntKind.wrap .i64 ((k:Int)+1)))],ck:=x1 })))) (.stop zYe4 { n:=181,fr:=[(2,.x (.c (.loc 0 0))),(3,.x (.c (.loc 1 0))),(4,.p (.bool false)),(6,.i 0)],ck:=x1,kn:=[4] })) ?_
  conv=>zeta
  refine ⟨fun hlt=>?_,fun hge=>?_⟩
  · have hk':k<a.vars.length:=by have:=of_decide_eq_true hlt; omega
    rw [dw (t:=.var) (l:=a.vars) hk',dw (t:=.var) (l:=b.vars) (by omega)]
    refine ⟨by omega,by omega,?_⟩
    generalize ETy.get .var a.vars k=x
    generalize ETy.get .var b.vars k=y
    refine ⟨fun hb=>?_,fun hb=>?_⟩
    · have h':qg x y=false:=nt hb
      rw [fQ,h']; exact ⟨rfl,rfl⟩
    · have h':qg x y=true:=nf hb
      rw [fQ,h',cf,cU (by have:=hs.vars; omega)]
      first
      | (exfalso; omega)
      | exact J.kn [4] (ih (k+1) (by omega) (by omega))
  · have hk2:k=a.vars.length:=by have:=of_decide_eq_false hge; omega
    have e:a.vars.drop k=[]:=dy (by omega)
    have e2:b.vars.drop k=[]:=dy (by omega)
    rw [e,e2]
    exact HV a b Γ hs hab hab2 a.states.length 0 (by omega) (by omega)
theorem sH (hs:SmallC a):ak Tryz.prog 11 [.e .chart a,.e .chart b] [] (.x (.b (iL a b))) []:=by
 refine dg l7 Tryz.func11 (.ite (!a.name==b.name || !eX a.events b.events||(a.vars.length:Int) != (b.vars.length:Int)||(a.states.length:Int) != (b.states.length:Int)||(a.trans.length:Int) != (b.trans.length:Int)) (.ret (.p (.bool false)) []) (.stop zYe2 { n:=181,fr:=[(2,.x (.c (.loc 0 0))),(3,.x (.c (.loc 1 0))),(4,.p (.bool false)),(5,.i 0)],ck:=[zYe1 a,zYe1 b],kn:=[4] })) fun Γ=>?_
 refine ⟨fun h=>?_,fun h=>?_⟩
 · have:iL a b=false:=by
    simp only [aA,bne_iff_ne,aE,ne_eq,Int.natCast_inj] at h
    unfold iL
    rcases h with (((h | h) | h) | h) | h
    · rw [h]; rfl
    · rw [h,cJ,bu]
    · rw [pj _ _ h,cJ,bu,bu]
    · rw [oF _ _ h,cJ,bu,bu,bu]
    · rw [oL _ _ h,bu,bu,bu,bu]
   rw [this]; exact ⟨rfl,rfl⟩
 · simp only [aq,bne_eq_false_iff_eq,ct,Int.natCast_inj] at h
   obtain ⟨⟨⟨⟨h1,h2⟩,h3⟩,h4⟩,h5⟩:=h
   have:iL a b=(fQ (a.vars.drop 0) (b.vars.drop 0)&&(eK a.states b.states&&er a.trans b.trans)):=by
    unfold iL; rw [h1,h2]; simp
   rw [this]
   exact IU a b Γ hs h3 h4 h5 a.vars.length 0 (by omega) (by omega)
def sX:Ent:=(11,fun
 | [.agg [.pd (.str a),.pd (.lst .str b),.pd (.lst .var c),.pd (.lst .stat d),.pd (.lst .tran e)],.agg [.pd (.str f),.pd (.lst .str g),.pd (.lst .var h),.pd (.lst .stat i),.pd (.lst .tran j)]],[]=>some (some (SmallC ⟨a,b,c,d,e⟩),.x (.c (.pd (.bool (iL ⟨a,b,c,d,e⟩ ⟨f,g,h,i,j⟩)))),[])
 | _,_=>none)
theorem Ha:EntOk Tryz.prog sX:=entOk fun vs ck=>by
 unfold sX; dsimp only; split
 · rename_i a b c d e f g h i j; exact entS fun hp=>sH ⟨a,b,c,d,e⟩ ⟨f,g,h,i,j⟩ hp
 · exact entN
/-! ### alike: the same -/
theorem nu:∀ a b:List Cell,eS a b=true↔a=b
 | [],[]=>by simp [eS]
 | [],_::_=>by simp [eS]
 | _::_,[]=>by simp [eS]
 | ⟨x1,x2,x3⟩::r,⟨y1,y2,y3⟩::q=>by simp [eS,nu r q,and_assoc]
theorem kE:∀ a b:List Deed,cO a b=true↔a=b
 | [],[]=>by simp [cO]
 | [],_::_=>by simp [cO]
 | _::_,[]=>by simp [cO]
 | ⟨x1,x2,x3⟩::r,⟨y1,y2,y3⟩::q=>by simp [cO,oh,nu,kE r q,and_assoc]
theorem pN:∀ a b:List Str,eX a b=true↔a=b
 | [],[]=>by simp [eX]
 | [],_::_=>by simp [eX]
 | _::_,[]=>by simp [eX]
 | x::r,y::q=>by simp [eX,pN r q]
theorem pC:∀ a b:List Var,fQ a b=true↔a=b
 | [],[]=>by simp [fQ]
 | [],_::_=>by simp [fQ]
 | _::_,[]=>by simp [fQ]
 | ⟨x1,x2,x3,x4,x5,x6,x7⟩::r,⟨y1,y2,y3,y4,y5,y6,y7⟩::q=>by simp [fQ,qg,pC r q,and_assoc]
theorem oG:∀ a b:List Ev.Stat,eK a b=true↔a=b
 | [],[]=>by simp [eK]
 | [],_::_=>by simp [eK]
 | _::_,[]=>by simp [eK]
 | ⟨x1,x2,x3,x4,x5,x6⟩::r,⟨y1,y2,y3,y4,y5,y6⟩::q=>by simp [eK,nF,kE,oG r q,and_assoc]
theorem oP:∀ a b:List Tran,er a b=true↔a=b
 | [],[]=>by simp [er]
 | [],_::_=>by simp [er]
 | _::_,[]=>by simp [er]
 | ⟨x1,x2,x3,x4,x5⟩::r,⟨y1,y2,y3,y4,y5⟩::q=>by simp [er,nW,kE,nu,oP r q,and_assoc]
theorem Ht:iL a b=true↔a=b:=by
 obtain ⟨x1,x2,x3,x4,x5⟩:=a
 obtain ⟨y1,y2,y3,y4,y5⟩:=b
 simp [iL,pN,pC,oG,oP]
theorem Cu:iL a a=true:=(Ht a a).2 rfl
end Go.Proofs.YtpfidgnkokidoaaGreatDoor

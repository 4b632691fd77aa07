/- Contracts: strings.LastIndexAny at signs, of ASCII texts. Conditions: texts that are ASCII. -/
import Derived.Test.YtpfidgnkokidoaaGreatDoorUp
import Derived.Test.YtpfidgnkokidoaaGreatDoorVc
import Derived.Test.YtpfidgnkokidoaaGreatDoorShelfi
namespace Go.Proofs.YtpfidgnkokidoaaGreatDoor
open Go Go.Ev Go.RowKit
set_option maxRecDepth 100000
/-! ### plain: the last sign -/
variable (s:Str) (c:UInt8) (r:Int) (Γ:Ctx)
def lz:Bool:=c==43||c==45
def gC (s:Str):Nat→Int
 | 0=>-1
 | k+1=>if lz (s.getD k 0)=true then (k:Int) else gC s k
def aJ:Int:=gC s s.length
theorem sM {s:Str}:∀ (n k:Nat),(∀ j,k≤j→j<k+n→lz (s.getD j 0)=false)→gC s (k+n)=gC s k
 | 0,k,_=>rfl
 | n+1,k,h=>by
   rw [← gR,gC,if_neg (by rw [h (k+n) (by omega) (by omega)]; simp)]
   exact sM n k fun j h1 h2=>h j h1 (by omega)
theorem pY (s:Str):∀ k, -1≤gC s k∧gC s k<k
 | 0=>by simp [gC]
 | k+1=>by
   rw [gC]; split
   · omega
   · have:=pY s k; omega
theorem EX {a r:Str} {c:UInt8} (hc:lz c=true) (hr:∀ x∈r,lz x=false):aJ (a++c::r)=(a.length:Int):=by
 unfold aJ
 have e:(a++c::r).length=(a.length+1)+r.length:=by simp; omega
 rw [e,sM r.length (a.length+1),gC,if_pos]
 · rw [List.getD_eq_getElem?_getD,List.getElem?_append_right (aw _),gu]; exact hc
 · intro j h1 h2
   have:(a++c::r)[j]?=r[j - (a.length+1)]?:=by
    rw [List.getElem?_append_right (by omega),show j - a.length=(j - (a.length+1))+1 by omega,List.getElem?_cons_succ]
   rw [List.getD_eq_getElem?_getD,this,List.getElem?_eq_getElem (by omega)]
   exact hr _ (ew _)
def Ax:List SC:=[SC.pd (PD.bool false),SC.pd (PD.bool false),SC.pd (PD.bool false),SC.pd (PD.bool false),SC.pd (PD.bool false),SC.pd (PD.bool false),SC.pd (PD.bool false),SC.pd (PD.bool false),SC.pd (PD.bool false),SC.pd (PD.bool false),SC.pd (PD.bool false),SC.pd (PD.bool false),SC.pd (PD.bool false),SC.pd (PD.bool false),SC.pd (PD.bool false),SC.pd (PD.bool false),SC.pd (PD.bool false),SC.pd (PD.bool false),SC.pd (PD.bool false),SC.pd (PD.bool false),SC.pd (PD.bool false),SC.pd (PD.bool false),SC.pd (PD.bool false),SC.pd (PD.bool false),SC.pd (PD.bool false),SC.pd (PD.bool false),SC.pd (PD.bool false),SC.pd (PD.bool false),SC.pd (PD.bool false),SC.pd (PD.bool false),SC.pd (PD.bool false),SC.pd (PD.bool false),SC.pd (PD.bool false),SC.pd (PD.bool false),SC.pd (PD.bool false),SC.pd (PD.bool false),SC.pd (PD.bool false),SC.pd (PD.bool false),SC.pd (PD.bool false),SC.pd (PD.bool false),SC.pd (PD.bool false),SC.pd (PD.bool false),SC.pd (PD.bool false),SC.pd (PD.bool true),SC.pd (PD.bool false),SC.pd (PD.bool true),SC.pd (PD.bool false),SC.pd (PD.bool false),SC.pd (PD.bool false),SC.pd (PD.bool false),SC.pd (PD.bool false),SC.pd (PD.bool false),SC.pd (PD.bool false),SC.pd (PD.bool false),SC.pd (PD.bool false),SC.pd (PD.bool false),SC.pd (PD.bool false),SC.pd (PD.bool false),SC.pd (PD.bool false),SC.pd (PD.bool false),SC.pd (PD.bool false),SC.pd (PD.bool false),SC.pd (PD.bool false),SC.pd (PD.bool false),SC.pd (PD.bool false),SC.pd (PD.bool false),SC.pd (PD.bool false),SC.pd (PD.bool false),SC.pd (PD.bool false),SC.pd (PD.bool false),SC.pd (PD.bool false),SC.pd (PD.bool false),SC.pd (PD.bool false),SC.pd (PD.bool false),SC.pd (PD.bool false),SC.pd (PD.bool false),SC.pd (PD.bool false),SC.pd (PD.bool false),SC.pd (PD.bool false),SC.pd (PD.bool false),SC.pd (PD.bool false),SC.pd (PD.bool false),SC.pd (PD.bool false),SC.pd (PD.bool false),SC.pd (PD.bool false),SC.pd (PD.bool false),SC.pd (PD.bool false),SC.pd (PD.bool false),SC.pd (PD.bool false),SC.pd (PD.bool false),SC.pd (PD.bool false),SC.pd (PD.bool false),SC.pd (PD.bool false),SC.pd (PD.bool false),SC.pd (PD.bool false),SC.pd (PD.bool false),SC.pd (PD.bool false),SC.pd (PD.bool false),SC.pd (PD.bool false),SC.pd (PD.bool false),SC.pd (PD.bool false),SC.pd (PD.bool false),SC.pd (PD.bool false),SC.pd (PD.bool false),SC.pd (PD.bool false),SC.pd (PD.bool false),SC.pd (PD.bool false),SC.pd (PD.bool false),SC.pd (PD.bool false),SC.pd (PD.bool false),SC.pd (PD.bool false),SC.pd (PD.bool false),SC.pd (PD.bool false),SC.pd (PD.bool false),SC.pd (PD.bool false),SC.pd (PD.bool false),SC.pd (PD.bool false),SC.pd (PD.bool false),SC.pd (PD.bool false),SC.pd (PD.bool false),SC.pd (PD.bool false),SC.pd (PD.bool false),SC.pd (PD.bool false),SC.pd (PD.bool false),SC.pd (PD.bool false),SC.pd (PD.bool false),SC.pd (PD.bool false),SC.pd (PD.bool false),SC.pd (PD.bool false),SC.pd (PD.bool false),SC.pd (PD.bool false),SC.pd (PD.bool false),SC.pd (PD.bool false),SC.pd (PD.bool false),SC.pd (PD.bool false),SC.pd (PD.bool false),SC.pd (PD.bool false),SC.pd (PD.bool false),SC.pd (PD.bool false),SC.pd (PD.bool false),SC.pd (PD.bool false),SC.pd (PD.bool false),SC.pd (PD.bool false),SC.pd (PD.bool false),SC.pd (PD.bool false),SC.pd (PD.bool false),SC.pd (PD.bool false),SC.pd (PD.bool false),SC.pd (PD.bool false),SC.pd (PD.bool false),SC.pd (PD.bool false),SC.pd (PD.bool false),SC.pd (PD.bool false),SC.pd (PD.bool false),SC.pd (PD.bool false),SC.pd (PD.bool false),SC.pd (PD.bool false),SC.pd (PD.bool false),SC.pd (PD.bool false),SC.pd (PD.bool false),SC.pd (PD.bool false),SC.pd (PD.bool false),SC.pd (PD.bool false),SC.pd (PD.bool false),SC.pd (PD.bool false),SC.pd (PD.bool false),SC.pd (PD.bool false),SC.pd (PD.bool false),SC.pd (PD.bool false),SC.pd (PD.bool false),SC.pd (PD.bool false),SC.pd (PD.bool false),SC.pd (PD.bool false),SC.pd (PD.bool false),SC.pd (PD.bool false),SC.pd (PD.bool false),SC.pd (PD.bool false),SC.pd (PD.bool false),SC.pd (PD.bool false),SC.pd (PD.bool false),SC.pd (PD.bool false),SC.pd (PD.bool false),SC.pd (PD.bool false),SC.pd (PD.bool false),SC.pd (PD.bool false),SC.pd (PD.bool false),SC.pd (PD.bool false),SC.pd (PD.bool false),SC.pd (PD.bool false),SC.pd (PD.bool false),SC.pd (PD.bool false),SC.pd (PD.bool false),SC.pd (PD.bool false),SC.pd (PD.bool false),SC.pd (PD.bool false),SC.pd (PD.bool false),SC.pd (PD.bool false),SC.pd (PD.bool false),SC.pd (PD.bool false),SC.pd (PD.bool false),SC.pd (PD.bool false),SC.pd (PD.bool false),SC.pd (PD.bool false),SC.pd (PD.bool false),SC.pd (PD.bool false),SC.pd (PD.bool false),SC.pd (PD.bool false),SC.pd (PD.bool false),SC.pd (PD.bool false),SC.pd (PD.bool false),SC.pd (PD.bool false),SC.pd (PD.bool false),SC.pd (PD.bool false),SC.pd (PD.bool false),SC.pd (PD.bool false),SC.pd (PD.bool false),SC.pd (PD.bool false),SC.pd (PD.bool false),SC.pd (PD.bool false),SC.pd (PD.bool false),SC.pd (PD.bool false),SC.pd (PD.bool false),SC.pd (PD.bool false),SC.pd (PD.bool false),SC.pd (PD.bool false),SC.pd (PD.bool false),SC.pd (PD.bool false),SC.pd (PD.bool false),SC.pd (PD.bool false),SC.pd (PD.bool false),SC.pd (PD.bool false),SC.pd (PD.bool false),SC.pd (PD.bool false),SC.pd (PD.bool false),SC.pd (PD.bool false),SC.pd (PD.bool false),SC.pd (PD.bool false),SC.pd (PD.bool false),SC.pd (PD.bool false),SC.pd (PD.bool false),SC.pd (PD.bool false),SC.pd (PD.bool false),SC.pd (PD.bool false),SC.pd (PD.bool false),SC.pd (PD.bool false),SC.pd (PD.bool false),SC.pd (PD.bool false),SC.pd (PD.bool false),SC.pd (PD.bool false),SC.pd (PD.bool false),SC.pd (PD.bool false),SC.pd (PD.bool false),SC.pd (PD.bool false),SC.pd (PD.bool false),SC.pd (PD.bool false),SC.pd (PD.bool false)]
def ll:Int:=if r=43 then 0 else if r=45 then 1 else -1
def isSet:List SC→List SC→Bool
 | [],[]=>true
 | .pd (.bool a)::l,.pd (.bool b)::m=>(a==b)&&isSet l m
 | _,_=>false
def FF:Ent:=(155,fun
 | [.c (.loc 0 0),.c (.pd (.int .u8 c))],[.cells l e]=>bif isSet l Ax then some (some (0≤c∧c<256),.x (.c (.pd (.bool (c==43||c==45)))),[.cells l e]) else none
 | _,_=>none)
def iK:Int:=(((s.getD (s.length - 1) 0).toNat:Nat):Int)
theorem GV:((((c.toNat:Nat):Int)==43)||(((c.toNat:Nat):Int)==45))=lz c:=by
 have h:∀ d:UInt8,(((c.toNat:Nat):Int)==((d.toNat:Nat):Int))=(c==d):=fun d=>by
  rw [cM,beq_iff_eq,beq_iff_eq]
  exact ⟨fun e=>gp.1 (by omega),fun e=>by rw [e]⟩
 have h1:=h 43; have h2:=h 45
 unfold lz; rw [← h1,← h2]; rfl
theorem Lw {c:UInt8} (h:c.toNat<128):decide (ll ((c.toNat:Nat):Int)≥0)=lz c:=by
 rw [← GV]
 unfold ll
 by_cases h1:((c.toNat:Nat):Int)=43
 · rw [h1]; rfl
 · by_cases h2:((c.toNat:Nat):Int)=45
   · rw [h2]; rfl
   · rw [if_neg h1,if_neg h2,beq_eq_false_iff_ne.2 h1,beq_eq_false_iff_ne.2 h2]; rfl
theorem wrap32 {n:Int} (h0:0≤n) (h1:n<2147483648):IntKind.wrap .i32 n=n:=by
 unfold IntKind.wrap
 simp only [IntKind.bits,IntKind.signed]
 simp
 omega
def Ea:List Bool:=(List.range 256).map fun i=>i==43||i==45
theorem Dn:Ax=Ea.map fun b=>.pd (.bool b):=by kernel_rfl
theorem Al:∀ {l:List SC} {m:List Bool},isSet l (m.map fun b=>.pd (.bool b))=true→l=m.map fun b=>.pd (.bool b)
 | [],[],_=>rfl
 | [],b::m,h=>by simp [isSet] at h
 | x::l,[],h=>by
   cases x with
   | pd p=>cases p <;> simp [isSet] at h
   | _=>simp [isSet] at h
 | x :: l,b::m,h=>by
   cases x with
   | pd p =>
     cases p with
     | bool a =>
       simp only [ay,isSet,ab,beq_iff_eq] at h
       rw [h.1,Al h.2]; rfl
     | _=>simp [isSet] at h
   | _=>simp [isSet] at h
theorem Kz:∀ n,n<256→Ea[n]?=some (n==43||n==45):=by
 intro n hn; unfold Ea; rw [List.getElem?_map,List.getElem?_range hn]; rfl
theorem xv {V:Vn}:∀ l:List Bool,All2 (SC.R V) (l.map fun b=>.pd (.bool b)) (l.map Value.bool)
 | []=>.nil
 | b::l=>.cons (.bool b) (xv l)
theorem M8 (vs:List SX) (ck:List Chunk) (p:Option Prop) (ret:SV) (ck':List Chunk) (h:FF.2 vs ck=some (p,ret,ck')) (hp:Holds p):ak Tryz.prog FF.1 vs ck ret ck':=by
 unfold FF at h
 simp only at h
 split at h
 · rename_i c l e
   cases hs:isSet l Ax
   · rw [hs] at h; cases h
   · rw [hs] at h
     simp only [cond_true,aa,ae] at h
     obtain ⟨rfl,rfl,rfl⟩:=h
     rw [Dn] at hs
     have hl:=Al hs
     have hc:0≤c∧c<256:=hp
     obtain ⟨n,rfl⟩:=dX hc.1
     have hn:n<256:=by omega
     intro w V vs hw hT hv
     cases hv with
     | cons a1 hv=>cases hv with
       | cons a2 hv =>
         cases hv
         have a1':_=Value.pointer (some ⟨V.σ 0,0,none⟩):=a1
         have a2':PR V.H (.int .u8 (n:Int)) _:=a2
         subst a1'
         cases a2'
         obtain ⟨us,h1,h2⟩:=hw.own 0 _ rfl
         have hus:us[n]?=some (.bool (n==43||n==45)):=by
          rw [hl] at h2
          obtain ⟨u,h3,h4⟩:=h2.get (i:=n) (a:=.pd (.bool (n==43||n==45))) (by rw [List.getElem?_map,Kz n hn]; rfl)
          have h5:PR V.H (.bool (n==43||n==45)) u:=h4
          cases h5; exact h3
         have hnat:((UInt8.ofNat n).toNat:Int)=(n:Int):=by rw [UInt8.toNat_ofNat']; omega
         have key:=Tryz.asciiSet_contains (V.σ 0) (UInt8.ofNat n) (n==43||n==45) w (by
          have h6:(UInt8.ofNat n).toNat=n:=by omega
          simp only [World.cell?,h1,h6]
          simpa using hus)
         rw [hnat] at key
         refine key.mono fun e w' ⟨he,hw'⟩=>?_
         subst he; subst hw'
         refine ⟨_,V,rfl,?_,hw⟩
         have:(((n:Int)==43)||((n:Int)==45))=(n==43||n==45):=by
          rw [cM]; simp only [aF,beq_iff_eq]; omega
         rw [this]
         exact PR.bool _
 · cases h
theorem KW (h0:0≤r) (h1:r<128):ak Tryz.prog 153 [.s [43,45],.c (.pd (.int .i32 r))] [] (.x (.i (ll r))) []:=by
 intro w V vs hw hT hv
 cases hv with
 | cons a1 hv=>cases hv with
   | cons a2 hv =>
     cases hv
     have a1':PR V.H (.str [43,45]) _:=a1
     have a2':PR V.H (.int .i32 r) _:=a2
     cases a1'; cases a2'
     refine (Tryz.strings_IndexRune_ascii (bs [43,45]) r w h0 h1).mono fun e w' ⟨he,hw'⟩=>?_
     subst he; subst hw'
     refine ⟨_,V,rfl,?_,hw⟩
     have e:Lib.indexByte (bs [43,45]).data.toList r.toNat.toUInt8=ll r:=by
      obtain ⟨n,rfl⟩:=dX h0
      have hn:n<128:=by omega
      have:∀ n:Fin 128,Lib.indexByte [43,45] (n.val.toUInt8)=ll (n.val:Int):=by decide
      exact this ⟨n,hn⟩
     rw [e]
     exact PR.int _ _
def Ew:Ent:=(153,fun
 | [.c (.pd (.str [43,45])),.c (.pd (.int .i32 r))],[]=>some (some (0≤r∧r<128),.x (.c (.pd (.int .i64 (ll r)))),[])
 | _,_=>none)
theorem MG:EntOk Tryz.prog Ew:=entOk fun vs ck=>by
 unfold Ew; dsimp only; split
 · rename_i r; exact entS fun hp=>KW r hp.1 hp.2
 · exact entN
theorem JF (n:Int):ak Tryz.prog 154 [.i n] [] (.x (.b (decide (n>8)))) []:=by
 refine dg bH Tryz.func154 (.ret (.p (.bool (decide (n>(8:Int))))) []) fun Γ=>⟨rfl,rfl⟩
def DR:Ent:=(154,fun
 | [.c (.pd (.int .i64 n))],[]=>some (none,.x (.c (.pd (.bool (decide (n>8))))),[])
 | _,_=>none)
theorem Ni:EntOk Tryz.prog DR:=entOk fun vs ck=>by
 unfold DR; dsimp only; split
 · rename_i n; exact entS fun hp=>JF n
 · exact entN
theorem HH {l:Str} (h:l.all (fun c=>decide (c.toNat<128))=true):∀ (j:Nat) (b:UInt8),l[j]?=some b→b.toNat<128:=fun j b hb=>of_decide_eq_true (al.1 h b (List.mem_of_getElem? hb))
theorem LM:ak Tryz.prog 146 [.s [43,45]] [] (.tup [.agg Ax,.b true]) []:=by
 intro w V vs hw hT hv
 cases hv with
 | cons a1 hv =>
   cases hv
   have a1':PR V.H (.str [43,45]) _:=a1
   cases a1'
   refine (Tryz.strings_makeASCIISet (fun w=>Tryz.zeroValue190 w) (bs [43,45]) w (by decide) (HH (by decide))).mono fun e w' ⟨he,hw'⟩=>?_
   subst he; subst hw'
   refine ⟨_,V,rfl,⟨_,rfl,.cons ⟨Ea.map Value.bool,?_,by rw [Dn]; exact xv _⟩ (.cons (PR.bool true) .nil)⟩,hw.kept ⟨rfl,rfl,rfl,by simp,fun k hk _=>Below.heap_alloc w _ k hk⟩⟩
   congr 1
def eMk:Ent:=(146,fun
 | [.c (.pd (.str [43,45]))],[]=>some (none,.tup [.agg Ax,.c (.pd (.bool true))],[])
 | _,_=>none)
theorem NI:EntOk Tryz.prog eMk:=entOk fun vs ck=>by
 unfold eMk; dsimp only; split
 · exact entS fun hp=>LM
 · exact entN
theorem MH (h0:0<s.length) (h1:iK s<128) (hs:s.length≤9223372036854775807):ak Tryz.prog 156 [.s s] [] (.tup [.c (.pd (.int .i32 (iK s))),.i 1]) []:=by
 refine dg bH Tryz.func156 (let x2:=(af s - (1:Int)); let x1:=(↑((List.getD s ((IntKind.wrap .i64 x2).toNat) (0:UInt8)).toNat):Int); .ite (af s==(0:Int)) (.ret (.tup [.p (.int .i32 (65533:Int)),.i 0]) []) (.need ((0:Int)≤IntKind.wrap .i64 x2∧IntKind.wrap .i64 x2<af s) (.ite (decide (IntKind.wrap .i32 x1<128)) (.ret (.tup [.p (.int .i32 (IntKind.wrap .i32 x1)),.i 1]) []) (.stop [.code [1,1,1,1,1,1,1,0,1,0,0],.inLoop [1,1,1,1,1,1,1,0,1,0,0],.inBlock 0,.code [1,1,1,1,1,1,1,1]] { n:=51,fr:=[(0,.p (.str s)),(2,.p (.int .i32 (IntKind.wrap .i32 x1))),(3,.i 0),(4,.i (af s)),(5,.i (IntKind.wrap .i64 (IntKind.wrap .i64 x2 - (1:Int)))),(6,.i (if (0:Int)>IntKind.wrap .i64 (af s - (4:Int)) then (0:Int) else IntKind.wrap .i64 (af s - (4:Int))))],ck:=[] })))) fun Γ=>?_
 conv=>zeta
 have hL:af s=(s.length:Int):=rfl
 have hw:IntKind.wrap .i64 (af s - 1)=((s.length - 1:Nat):Int):=by rw [cI (by omega) (by omega)]; omega
 rw [hw]
 have e:((UInt8.toNat (List.getD s (Int.toNat ((s.length - 1:Nat):Int)) 0):Nat):Int)=iK s:=by rw [bf]; rfl
 rw [e,wrap32 (by unfold iK; omega) (by omega)]
 refine ⟨fun h=>?_,fun _=>⟨⟨by omega,by omega⟩,fun _=>⟨rfl,rfl⟩,fun h=>?_⟩⟩
 · have:af s=0:=by simpa using h
   omega
 · have:=of_decide_eq_false h; omega
def eDl:Ent:=(156,fun
 | [.c (.pd (.str s))],[]=>some (some (0<s.length∧iK s<128∧s.length≤9223372036854775807),.tup [.c (.pd (.int .i32 (iK s))),.c (.pd (.int .i64 1))],[])
 | _,_=>none)
theorem Ob:EntOk Tryz.prog eDl:=entOk fun vs ck=>by
 unfold eDl; dsimp only; split
 · rename_i s; exact entS fun hp=>MH s hp.1 hp.2.1 hp.2.2
 · exact entN
def rY:Cfg:=⟨bu,[Ew,DR,eMk,FF,eDl]⟩
theorem mz:ai Tryz.prog rY.tab:=(ai.cons MG (ai.cons Ni (ai.cons NI (ai.cons M8 (ai.cons Ob ai.nil)))))
abbrev zXc1:List Chunk:=[.cells [.pd (.bool false),.pd (.bool false),.pd (.bool false),.pd (.bool false),.pd (.bool false),.pd (.bool false),.pd (.bool false),.pd (.bool false),.pd (.bool false),.pd (.bool false),.pd (.bool false),.pd (.bool false),.pd (.bool false),.pd (.bool false),.pd (.bool false),.pd (.bool false),.pd (.bool false),.pd (.bool false),.pd (.bool false),.pd (.bool false),.pd (.bool false),.pd (.bool false),.pd (.bool false),.pd (.bool false),.pd (.bool false),.pd (.bool false),.pd (.bool false),.pd (.bool false),.pd (.bool false),.pd (.bool false),.pd (.bool false),.pd (.bool false),.pd (.bool false),.pd (.bool false),.pd (.bool false),.pd (.bool false),.pd (.bool false),.pd (.bool false),.pd (.bool false),.pd (.bool false),.pd (.bool false),.pd (.bool false),.pd (.bool false),.pd (.bool true),.pd (.bool false),.pd (.bool true),.pd (.bool false),.pd (.bool false),.pd (.bool false),.pd (.bool false),.pd (.bool false),.pd (.bool false),.pd (.bool false),.pd (.bool false),.pd (.bool false),.pd (.bool false),.pd (.bool false),.pd (.bool false),.pd (.bool false),.pd (.bool false),.pd (.bool false),.pd (.bool false),.pd (.bool false),.pd (.bool false),.pd (.bool false),.pd (.bool false),.pd (.bool false),.pd (.bool false),.pd (.bool false),.pd (.bool false),.pd (.bool false),.pd (.bool false),.pd (.bool false),.pd (.bool false),.pd (.bool false),.pd (.bool false),.pd (.bool false),.pd (.bool false),.pd (.bool false),.pd (.bool false),.pd (.bool false),.pd (.bool false),.pd (.bool false),.pd (.bool false),.pd (.bool false),.pd (.bool false),.pd (.bool false),.pd (.bool false),.pd (.bool false),.pd (.bool false),.pd (.bool false),.pd (.bool false),.pd (.bool false),.pd (.bool false),.pd (.bool false),.pd (.bool false),.pd (.bool false),.pd (.bool false),.pd (.bool false),.pd (.bool false),.pd (.bool false),.pd (.bool false),.pd (.bool false),.pd (.bool false),.pd (.bool false),.pd (.bool false),.pd (.bool false),.pd (.bool false),.pd (.bool false),.pd (.bool false),.pd (.bool false),.pd (.bool false),.pd (.bool false),.pd (.bool false),.pd (.bool false),.pd (.bool false),.pd (.bool false),.pd (.bool false),.pd (.bool false),.pd (.bool false),.pd (.bool false),.pd (.bool false),.pd (.bool false),.pd (.bool false),.pd (.bool false),.pd (.bool false),.pd (.bool false),.pd (.bool false),.pd (.bool false),.pd (.bool false),.pd (.bool false),.pd (.bool false),.pd (.bool false),.pd (.bool false),.pd (.bool false),.pd (.bool false),.pd (.bool false),.pd (.bool false),.pd (.bool false),.pd (.bool false),.pd (.bool false),.pd (.bool false),.pd (.bool false),.pd (.bool false),.pd (.bool false),.pd (.bool false),.pd (.bool false),.pd (.bool false),.pd (.bool false),.pd (.bool false),.pd (.bool false),.pd (.bool false),.pd (.bool false),.pd (.bool false),.pd (.bool false),.pd (.bool false),.pd (.bool false),.pd (.bool false),.pd (.bool false),.pd (.bool false),.pd (.bool false),.pd (.bool false),.pd (.bool false),.pd (.bool false),.pd (.bool false),.pd (.bool false),.pd (.bool false),.pd (.bool false),.pd (.bool false),.pd (.bool false),.pd (.bool false),.pd (.bool false),.pd (.bool false),.pd (.bool false),.pd (.bool false),.pd (.bool false),.pd (.bool false),.pd (.bool false),.pd (.bool false),.pd (.bool false),.pd (.bool false),.pd (.bool false),.pd (.bool false),.pd (.bool false),.pd (.bool false),.pd (.bool false),.pd (.bool false),.pd (.bool false),.pd (.bool false),.pd (.bool false),.pd (.bool false),.pd (.bool false),.pd (.bool false),.pd (.bool false),.pd (.bool false),.pd (.bool false),.pd (.bool false),.pd (.bool false),.pd (.bool false),.pd (.bool false),.pd (.bool false),.pd (.bool false),.pd (.bool false),.pd (.bool false),.pd (.bool false),.pd (.bool false),.pd (.bool false),.pd (.bool false),.pd (.bool false),.pd (.bool false),.pd (.bool false),.pd (.bool false),.pd (.bool false),.pd (.bool false),.pd (.bool false),.pd (.bool false),.pd (.bool false),.pd (.bool false),.pd (.bool false),.pd (.bool false),.pd (.bool false),.pd (.bool false),.pd (.bool false),.pd (.bool false),.pd (.bool false),.pd (.bool false),.pd (.bool false),.pd (.bool false),.pd (.bool false),.pd (.bool false),.pd (.bool false),.pd (.bool false),.pd (.bool false),.pd (.bool false),.pd (.bool false),.pd (.bool false),.pd (.bool false),.pd (.bool false),.pd (.bool false),.pd (.bool false),.pd (.bool false),.pd (.bool false),.pd (.bool false),.pd (.bool false),.pd (.bool false),.pd (.bool false),.pd (.bool false),.pd (.bool false),.pd (.bool false),.pd (.bool false),.pd (.bool false),.pd (.bool false),.pd (.bool false),.pd (.bool false),.pd (.bool false),.pd (.bool false)] 190]
abbrev zXc2:List PI:=[.code [1,1,1,0,1,0,1,1,0,0,1,0,0],.inLoop [1,1,1,0,1,0,1,1,0,0,1,0,0],.inBlock 0,.code [1,1,1,0,1,0,1,1,0,1],.code [1,1,1,1]]
theorem MX (hs:s.length≤9223372036854775807):∀ k:Nat,k≤s.length →
 J Tryz.prog 117 (aH Tryz.f117) Γ (Eq2 (.x (.i (gC s k))) []) zXc2 ({ n:=96,fr:=[(0,.p (.str s)),(1,.p (.str [43,45])),(4,.i 0),(6,.x (.c (.loc 0 0))),(8,.i (((k:Int) - 1)))],ck:=zXc1 }):=by
 intro k
 induction k with
 | zero=>?_
 | succ k ih=>?_
 all_goals
  intro hk
  have hL:af s=(s.length:Int):=rfl
 · refine jg mz Tryz.func117 (let x1:=(↑((List.getD s 0 (0:UInt8)).toNat):Int); .ite false (.need ((0:Int)≤(↑(0:Nat):Int) - 1∧(↑(0:Nat):Int) - 1<af s) (.need ((0:Int)≤x1∧x1<256) (.ite (x1==43||x1==45) (.ret (.i ((↑(0:Nat):Int) - 1)) []) (.stop zXc2 { n:=96,fr:=[(0,.p (.str s)),(1,.p (.str [43,45])),(4,.i 0),(6,.x (.c (.loc 0 0))),(8,.i (IntKind.wrap .i64 ((↑(0:Nat):Int) - 1 - (1:Int))))],ck:=zXc1 })))) (.ret (.i (-1:Int)) [])) ?_
   conv=>zeta
   exact ⟨fun h=>Bool.noConfusion h,fun _=>⟨rfl,rfl⟩⟩
 · refine jg mz Tryz.func117 (let x1:=(↑((List.getD s (((↑(k+1):Int) - 1).toNat) (0:UInt8)).toNat):Int); .ite (decide ((↑(k+1):Int) - 1≥(0:Int))) (.need ((0:Int)≤(↑(k+1):Int) - 1∧(↑(k+1):Int) - 1<af s) (.need ((0:Int)≤x1∧x1<256) (.ite (x1==43||x1==45) (.ret (.i ((↑(k+1):Int) - 1)) []) (.stop zXc2 { n:=96,fr:=[(0,.p (.str s)),(1,.p (.str [43,45])),(4,.i 0),(6,.x (.c (.loc 0 0))),(8,.i (IntKind.wrap .i64 ((↑(k+1):Int) - 1 - (1:Int))))],ck:=zXc1 })))) (.ret (.i (-1:Int)) [])) ?_
   conv=>zeta
   have hk1:(((k+1:Nat):Int) - 1)=(k:Int):=by omega
   rw [hk1]
   have hb:=UInt8.toNat_lt (s.getD k 0)
   rw [bf,GV]
   refine ⟨fun _=>⟨⟨by omega,by omega⟩,⟨by omega,by omega⟩,fun h=>⟨?_,rfl⟩,fun h=>?_⟩,fun h=>absurd (of_decide_eq_false h) (by omega)⟩
   · rw [gC,if_pos h]
   · rw [gC,if_neg (by rw [h]; simp),cI (by omega) (by omega)]
     exact ih (by omega)
abbrev zXc3:List PI:=[.code [1,1,1,1,1,0,1,0,0],.inLoop [1,1,1,1,1,0,1,0,0],.inBlock 4,.code [1,1,1,1,1,1]]
theorem Ke (hs:s.length≤9223372036854775807) (ha:s.all (fun c=>decide (c.toNat<128))=true):∀ k:Nat,k≤s.length →
 J Tryz.prog 117 (aH Tryz.f117) Γ (Eq2 (.x (.i (gC s k))) []) zXc3 ({ n:=96,fr:=[(0,.p (.str s)),(1,.p (.str [43,45])),(4,.i 0),(13,.i ((k:Int)))],ck:=[] }):=by
 intro k
 induction k with
 | zero=>?_
 | succ k ih=>?_
 all_goals
  intro hk
  have hL:af s=(s.length:Int):=rfl
 · refine jg mz Tryz.func117 (let x1:=((aB s none (some (↑(0:Nat):Int))).2); let x2:=(IntKind.wrap .i64 ((↑(0:Nat):Int) - 1)); .ite false (.need ((0:Int)≤(↑(0:Nat):Int)∧(↑(0:Nat):Int)≤(s.length:Int)) (.need (0<x1.length∧iK x1<(128:Int)∧x1.length≤9223372036854775807) (.need ((0:Int)≤iK x1∧iK x1<(128:Int)) (.ite false (.ret (.i x2) []) (.stop zXc3 { n:=96,fr:=[(0,.p (.str s)),(1,.p (.str [43,45])),(4,.i 0),(13,.i x2)],ck:=[] }))))) (.ret (.i (-1:Int)) [])) ?_
   conv=>zeta
   exact ⟨fun h=>Bool.noConfusion h,fun _=>⟨rfl,rfl⟩⟩
 · refine jg mz Tryz.func117 (let x1:=((aB s none (some (↑(k+1):Int))).2); let x2:=(IntKind.wrap .i64 ((↑(k+1):Int) - 1)); .ite (decide ((↑(k+1):Int)>0)) (.need ((0:Int)≤(↑(k+1):Int)∧(↑(k+1):Int)≤(s.length:Int)) (.need (0<x1.length∧iK x1<(128:Int)∧x1.length≤9223372036854775807) (.need ((0:Int)≤iK x1∧iK x1<(128:Int)) (.ite (decide (ll (iK x1)≥(0:Int))) (.ret (.i x2) []) (.stop zXc3 { n:=96,fr:=[(0,.p (.str s)),(1,.p (.str [43,45])),(4,.i 0),(13,.i x2)],ck:=[] }))))) (.ret (.i (-1:Int)) [])) ?_
   conv=>zeta
   have ht:(aB s none (some ((k+1:Nat):Int))).2=s.take (k+1):=by simp [aB]
   have hl:iK (s.take (k+1))=(((s.getD k 0).toNat:Nat):Int):=by
    have e1:(s.take (k+1)).length - 1=k:=by rw [bw]; omega
    unfold iK
    rw [e1]
    congr 2
    simp only [List.getD_eq_getElem?_getD,List.getElem?_take,if_pos (Nat.lt_succ_self k)]
   have hc:(s.getD k 0).toNat<128:=by
    have:s.getD k 0∈s:=by
     rw [List.getD_eq_getElem?_getD,List.getElem?_eq_getElem (by omega)]
     exact ew _
    exact of_decide_eq_true (al.1 ha _ this)
   have hlen:(s.take (k+1)).length=k+1:=by rw [bw]; omega
   have hw:IntKind.wrap .i64 (((k+1:Nat):Int) - 1)=(k:Int):=by rw [cI (by omega) (by omega)]; omega
   rw [ht,hl,Lw hc,hw,hlen]
   refine ⟨fun _=>⟨⟨by omega,by omega⟩,⟨by omega,by omega,by omega⟩,⟨by omega,by omega⟩,fun h=>⟨?_,rfl⟩,fun h=>?_⟩,fun h=>absurd (of_decide_eq_false h) (by omega)⟩
   · rw [gC,if_pos h]
   · rw [gC,if_neg (by rw [h]; simp)]
     exact ih (by omega)
theorem By (hs:s.length≤9223372036854775807) (ha:s.all (fun c=>decide (c.toNat<128))=true):ak Tryz.prog 117 [.s s,.s [43,45]] [] (.x (.i (aJ s))) []:=by
 refine dg mz Tryz.func117 (let x2:List PI:=[.code [1,1,1,1,0,1,0,1,1,0,1,0,0],.inLoop [1,1,1,1,0,1,0,1,1,0,1,0,0],.inBlock 2,.code [1,1,1,1,0,1,0,1,1,1],.code [1,1,1,1,1]]; let x4:Nat×SV:=(1,.p (.str [43,45])); let x1:Tree:=(.ite false (.need ((0:Int)≤0∧(0:Int)<af [(43:UInt8),45]) (.ite false (.stop x2 { n:=96,fr:=[(0,.p (.str s)),x4,(4,.i 0),(9,.p (.int .i32 (65533:Int))),(10,.i (af s))],ck:=[] }) (.stop x2 { n:=96,fr:=[(0,.p (.str s)),x4,(4,.i 0),(9,.p (.int .i32 (IntKind.wrap .i32 (↑(43:Nat):Int)))),(10,.i (af s))],ck:=[] }))) (.stop zXc3 { n:=96,fr:=[(0,.p (.str s)),x4,(4,.i 0),(13,.i (af s))],ck:=[] })); let x3:=(↑((List.getD s 0 (0:UInt8)).toNat):Int); let x5:Tree:=(.ret (.i (-1:Int)) []); .ite false x5 (.ite (af s==(1:Int)) (.need ((0:Int)≤0∧(0:Int)<af s) (.ite (decide (IntKind.wrap .i32 x3≥128)) (.need ((0:Int)≤65533∧(65533:Int)<128) (.ite false (.ret (.i 0) []) x5)) (.need ((0:Int)≤IntKind.wrap .i32 x3∧IntKind.wrap .i32 x3<128) (.ite (decide (ll (IntKind.wrap .i32 x3)≥(0:Int))) (.ret (.i 0) []) x5)))) (.ite (decide (af s>(8:Int))) (.ite true (.stop zXc2 { n:=96,fr:=[(0,.p (.str s)),x4,(4,.i 0),(6,.x (.c (.loc 0 0))),(8,.i (IntKind.wrap .i64 (af s - (1:Int))))],ck:=zXc1 }) x1) x1))) fun Γ=>?_
 conv=>zeta
 have hL:af s=(s.length:Int):=rfl
 have long:=MX s Γ hs s.length (aw _)
 have short:=Ke s Γ hs ha s.length (aw _)
 have hb:=UInt8.toNat_lt (s.getD 0 0)
 have hw1:0<s.length→IntKind.wrap .i64 (af s - 1)=(s.length:Int) - 1:=fun h=>by rw [cI (by omega) (by omega)]; omega
 refine ⟨fun h=>Bool.noConfusion h,fun _=>⟨fun h1=>?_,fun h1=>⟨fun h8=>⟨fun _=>?_,fun h=>Bool.noConfusion h⟩,fun h8=>⟨fun h=>Bool.noConfusion h,fun _=>?_⟩⟩⟩⟩
 · have h1':s.length=1:=by
    have:af s=1:=by simpa using h1
    omega
   have hc:(s.getD 0 0).toNat<128:=by
    have:s.getD 0 0∈s:=by
     rw [List.getD_eq_getElem?_getD,List.getElem?_eq_getElem (by omega)]
     exact ew _
    exact of_decide_eq_true (al.1 ha _ this)
   have e0:(0:Int).toNat=0:=rfl
   simp only [e0,wrap32 (n:=(((s.getD 0 0).toNat:Nat):Int)) (by omega) (by omega),Lw hc]
   have hv:aJ s=if lz (s.getD 0 0)=true then 0 else -1:=by
    unfold aJ; rw [h1']; rfl
   refine ⟨⟨by omega,by omega⟩,fun h=>absurd (of_decide_eq_true h) (by omega),fun _=>⟨⟨by omega,by omega⟩,fun h=>⟨?_,rfl⟩,fun h=>⟨?_,rfl⟩⟩⟩
   · rw [hv,if_pos h]
   · rw [hv,if_neg (by rw [h]; simp)]
 · have h8':8<af s:=of_decide_eq_true h8
   rw [hw1 (by omega)]
   exact long
 · exact short
def yJ:Ent:=(117,fun
 | [.c (.pd (.str s)),.c (.pd (.str [43,45]))],[]=>some (some (s.length≤9223372036854775807∧s.all (fun c=>decide (c.toNat<128))=true),.x (.c (.pd (.int .i64 (aJ s)))),[])
 | _,_=>none)
theorem Ku:EntOk Tryz.prog yJ:=entOk fun vs ck=>by
 unfold yJ; dsimp only; split
 · rename_i s; exact entS fun hp=>By s hp.1 hp.2
 · exact entN
end Go.Proofs.YtpfidgnkokidoaaGreatDoor

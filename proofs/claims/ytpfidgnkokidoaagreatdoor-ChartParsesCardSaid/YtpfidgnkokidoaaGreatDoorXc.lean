/- Contracts: strings.LastIndexAny at signs, of ASCII texts. Conditions: texts that are ASCII. -/
import Derived.Test.YtpfidgnkokidoaaGreatDoorShelff
import Derived.Test.YtpfidgnkokidoaaGreatDoorVc
import Derived.Test.YtpfidgnkokidoaaGreatDoorShelfi
namespace Go.Proofs.YtpfidgnkokidoaaGreatDoor
open Go Go.Ev Go.RowKit
set_option maxRecDepth 100000
/-! ### plain: the last sign -/
variable (s:Str) (c:UInt8) (r:Int) (Γ:Ctx)
def kB:Bool:=c==43||c==45
def gf (s:Str):Nat→Int
 | 0=>-1
 | k+1=>if kB (s.getD k 0)=true then (k:Int) else gf s k
def aN:Int:=gf s s.length
theorem qY {s:Str}:∀ (n k:Nat),(∀ j,k≤j→j<k+n→kB (s.getD j 0)=false)→gf s (k+n)=gf s k
 | 0,k,_=>rfl
 | n+1,k,h=>by
   rw [← gp,gf,if_neg (by rw [h (k+n) (by omega) (by omega)]; simp)]
   exact qY n k fun j h1 h2=>h j h1 (by omega)
theorem oM (s:Str):∀ k, -1≤gf s k∧gf s k<k
 | 0=>by simp [gf]
 | k+1=>by
   rw [gf]; split
   · omega
   · have:=oM s k; omega
theorem CH {a r:Str} {c:UInt8} (hc:kB c=true) (hr:∀ x∈r,kB x=false):aN (a++c::r)=(a.length:Int):=by
 unfold aN
 have e:(a++c::r).length=(a.length+1)+r.length:=by simp; omega
 rw [e,qY r.length (a.length+1),gf,if_pos]
 · rw [List.getD_eq_getElem?_getD,List.getElem?_append_right (aD _),Nat.sub_self]; exact hc
 · intro j h1 h2
   have:(a++c::r)[j]?=r[j - (a.length+1)]?:=by
    rw [List.getElem?_append_right (by omega),show j - a.length=(j - (a.length+1))+1 by omega,List.getElem?_cons_succ]
   rw [List.getD_eq_getElem?_getD,this,List.getElem?_eq_getElem (by omega)]
   exact hr _ (dY _)
def Af:List SC:=[SC.pd (PD.bool false),SC.pd (PD.bool false),SC.pd (PD.bool false),SC.pd (PD.bool false),SC.pd (PD.bool false),SC.pd (PD.bool false),SC.pd (PD.bool false),SC.pd (PD.bool false),SC.pd (PD.bool false),SC.pd (PD.bool false),SC.pd (PD.bool false),SC.pd (PD.bool false),SC.pd (PD.bool false),SC.pd (PD.bool false),SC.pd (PD.bool false),SC.pd (PD.bool false),SC.pd (PD.bool false),SC.pd (PD.bool false),SC.pd (PD.bool false),SC.pd (PD.bool false),SC.pd (PD.bool false),SC.pd (PD.bool false),SC.pd (PD.bool false),SC.pd (PD.bool false),SC.pd (PD.bool false),SC.pd (PD.bool false),SC.pd (PD.bool false),SC.pd (PD.bool false),SC.pd (PD.bool false),SC.pd (PD.bool false),SC.pd (PD.bool false),SC.pd (PD.bool false),SC.pd (PD.bool false),SC.pd (PD.bool false),SC.pd (PD.bool false),SC.pd (PD.bool false),SC.pd (PD.bool false),SC.pd (PD.bool false),SC.pd (PD.bool false),SC.pd (PD.bool false),SC.pd (PD.bool false),SC.pd (PD.bool false),SC.pd (PD.bool false),SC.pd (PD.bool true),SC.pd (PD.bool false),SC.pd (PD.bool true),SC.pd (PD.bool false),SC.pd (PD.bool false),SC.pd (PD.bool false),SC.pd (PD.bool false),SC.pd (PD.bool false),SC.pd (PD.bool false),SC.pd (PD.bool false),SC.pd (PD.bool false),SC.pd (PD.bool false),SC.pd (PD.bool false),SC.pd (PD.bool false),SC.pd (PD.bool false),SC.pd (PD.bool false),SC.pd (PD.bool false),SC.pd (PD.bool false),SC.pd (PD.bool false),SC.pd (PD.bool false),SC.pd (PD.bool false),SC.pd (PD.bool false),SC.pd (PD.bool false),SC.pd (PD.bool false),SC.pd (PD.bool false),SC.pd (PD.bool false),SC.pd (PD.bool false),SC.pd (PD.bool false),SC.pd (PD.bool false),SC.pd (PD.bool false),SC.pd (PD.bool false),SC.pd (PD.bool false),SC.pd (PD.bool false),SC.pd (PD.bool false),SC.pd (PD.bool false),SC.pd (PD.bool false),SC.pd (PD.bool false),SC.pd (PD.bool false),SC.pd (PD.bool false),SC.pd (PD.bool false),SC.pd (PD.bool false),SC.pd (PD.bool false),SC.pd (PD.bool false),SC.pd (PD.bool false),SC.pd (PD.bool false),SC.pd (PD.bool false),SC.pd (PD.bool false),SC.pd (PD.bool false),SC.pd (PD.bool false),SC.pd (PD.bool false),SC.pd (PD.bool false),SC.pd (PD.bool false),SC.pd (PD.bool false),SC.pd (PD.bool false),SC.pd (PD.bool false),SC.pd (PD.bool false),SC.pd (PD.bool false),SC.pd (PD.bool false),SC.pd (PD.bool false),SC.pd (PD.bool false),SC.pd (PD.bool false),SC.pd (PD.bool false),SC.pd (PD.bool false),SC.pd (PD.bool false),SC.pd (PD.bool false),SC.pd (PD.bool false),SC.pd (PD.bool false),SC.pd (PD.bool false),SC.pd (PD.bool false),SC.pd (PD.bool false),SC.pd (PD.bool false),SC.pd (PD.bool false),SC.pd (PD.bool false),SC.pd (PD.bool false),SC.pd (PD.bool false),SC.pd (PD.bool false),SC.pd (PD.bool false),SC.pd (PD.bool false),SC.pd (PD.bool false),SC.pd (PD.bool false),SC.pd (PD.bool false),SC.pd (PD.bool false),SC.pd (PD.bool false),SC.pd (PD.bool false),SC.pd (PD.bool false),SC.pd (PD.bool false),SC.pd (PD.bool false),SC.pd (PD.bool false),SC.pd (PD.bool false),SC.pd (PD.bool false),SC.pd (PD.bool false),SC.pd (PD.bool false),SC.pd (PD.bool false),SC.pd (PD.bool false),SC.pd (PD.bool false),SC.pd (PD.bool false),SC.pd (PD.bool false),SC.pd (PD.bool false),SC.pd (PD.bool false),SC.pd (PD.bool false),SC.pd (PD.bool false),SC.pd (PD.bool false),SC.pd (PD.bool false),SC.pd (PD.bool false),SC.pd (PD.bool false),SC.pd (PD.bool false),SC.pd (PD.bool false),SC.pd (PD.bool false),SC.pd (PD.bool false),SC.pd (PD.bool false),SC.pd (PD.bool false),SC.pd (PD.bool false),SC.pd (PD.bool false),SC.pd (PD.bool false),SC.pd (PD.bool false),SC.pd (PD.bool false),SC.pd (PD.bool false),SC.pd (PD.bool false),SC.pd (PD.bool false),SC.pd (PD.bool false),SC.pd (PD.bool false),SC.pd (PD.bool false),SC.pd (PD.bool false),SC.pd (PD.bool false),SC.pd (PD.bool false),SC.pd (PD.bool false),SC.pd (PD.bool false),SC.pd (PD.bool false),SC.pd (PD.bool false),SC.pd (PD.bool false),SC.pd (PD.bool false),SC.pd (PD.bool false),SC.pd (PD.bool false),SC.pd (PD.bool false),SC.pd (PD.bool false),SC.pd (PD.bool false),SC.pd (PD.bool false),SC.pd (PD.bool false),SC.pd (PD.bool false),SC.pd (PD.bool false),SC.pd (PD.bool false),SC.pd (PD.bool false),SC.pd (PD.bool false),SC.pd (PD.bool false),SC.pd (PD.bool false),SC.pd (PD.bool false),SC.pd (PD.bool false),SC.pd (PD.bool false),SC.pd (PD.bool false),SC.pd (PD.bool false),SC.pd (PD.bool false),SC.pd (PD.bool false),SC.pd (PD.bool false),SC.pd (PD.bool false),SC.pd (PD.bool false),SC.pd (PD.bool false),SC.pd (PD.bool false),SC.pd (PD.bool false),SC.pd (PD.bool false),SC.pd (PD.bool false),SC.pd (PD.bool false),SC.pd (PD.bool false),SC.pd (PD.bool false),SC.pd (PD.bool false),SC.pd (PD.bool false),SC.pd (PD.bool false),SC.pd (PD.bool false),SC.pd (PD.bool false),SC.pd (PD.bool false),SC.pd (PD.bool false),SC.pd (PD.bool false),SC.pd (PD.bool false),SC.pd (PD.bool false),SC.pd (PD.bool false),SC.pd (PD.bool false),SC.pd (PD.bool false),SC.pd (PD.bool false),SC.pd (PD.bool false),SC.pd (PD.bool false),SC.pd (PD.bool false),SC.pd (PD.bool false),SC.pd (PD.bool false),SC.pd (PD.bool false),SC.pd (PD.bool false),SC.pd (PD.bool false),SC.pd (PD.bool false),SC.pd (PD.bool false),SC.pd (PD.bool false),SC.pd (PD.bool false),SC.pd (PD.bool false),SC.pd (PD.bool false),SC.pd (PD.bool false),SC.pd (PD.bool false),SC.pd (PD.bool false),SC.pd (PD.bool false),SC.pd (PD.bool false),SC.pd (PD.bool false),SC.pd (PD.bool false),SC.pd (PD.bool false),SC.pd (PD.bool false),SC.pd (PD.bool false),SC.pd (PD.bool false),SC.pd (PD.bool false),SC.pd (PD.bool false),SC.pd (PD.bool false),SC.pd (PD.bool false),SC.pd (PD.bool false),SC.pd (PD.bool false),SC.pd (PD.bool false),SC.pd (PD.bool false),SC.pd (PD.bool false),SC.pd (PD.bool false),SC.pd (PD.bool false)]
def kq:Int:=if r=43 then 0 else if r=45 then 1 else -1
def isSet:List SC→List SC→Bool
 | [],[]=>true
 | .pd (.bool a)::l,.pd (.bool b)::m=>(a==b)&&isSet l m
 | _,_=>false
def B8:Ent:=(155,fun
 | [.c (.loc 0 0),.c (.pd (.int .u8 c))],[.cells l e]=>bif isSet l Af then some (some (0≤c∧c<256),.x (.c (.pd (.bool (c==43||c==45)))),[.cells l e]) else none
 | _,_=>none)
def ia:Int:=(((s.getD (s.length - 1) 0).toNat:Nat):Int)
theorem Fy:((((c.toNat:Nat):Int)==43)||(((c.toNat:Nat):Int)==45))=kB c:=by
 have h:∀ d:UInt8,(((c.toNat:Nat):Int)==((d.toNat:Nat):Int))=(c==d):=fun d=>by
  rw [bV,beq_iff_eq,beq_iff_eq]
  exact ⟨fun e=>cy.1 (by omega),fun e=>by rw [e]⟩
 have h1:=h 43; have h2:=h 45
 unfold kB; rw [← h1,← h2]; rfl
theorem KB {c:UInt8} (h:c.toNat<128):decide (kq ((c.toNat:Nat):Int)≥0)=kB c:=by
 rw [← Fy]
 unfold kq
 by_cases h1:((c.toNat:Nat):Int)=43
 · rw [h1]; rfl
 · by_cases h2:((c.toNat:Nat):Int)=45
   · rw [h2]; rfl
   · rw [if_neg h1,if_neg h2,beq_eq_false_iff_ne.2 h1,beq_eq_false_iff_ne.2 h2]; rfl
theorem wrap32 {n:Int} (h0:0≤n) (h1:n<2147483648):IntKind.wrap .i32 n=n:=by
 unfold IntKind.wrap
 simp only [IntKind.bits,IntKind.signed]
 simp
 omega
def DY:List Bool:=(List.range 256).map fun i=>i==43||i==45
theorem BM:Af=DY.map fun b=>.pd (.bool b):=by kernel_rfl
theorem yu:∀ {l:List SC} {m:List Bool},isSet l (m.map fun b=>.pd (.bool b))=true→l=m.map fun b=>.pd (.bool b)
 | [],[],_=>rfl
 | [],b::m,h=>by simp [isSet] at h
 | x::l,[],h=>by
   cases x with
   | pd p=>cases p <;> simp [isSet] at h
   | _=>simp [isSet] at h
 | x :: l,b::m,h=>by
   cases x with
   | pd p =>
     cases p with
     | bool a =>
       simp only [aJ,isSet,af,beq_iff_eq] at h
       rw [h.1,yu h.2]; rfl
     | _=>simp [isSet] at h
   | _=>simp [isSet] at h
theorem JE:∀ n,n<256→DY[n]?=some (n==43||n==45):=by
 intro n hn; unfold DY; rw [List.getElem?_map,List.getElem?_range hn]; rfl
theorem wB {V:Vn}:∀ l:List Bool,All2 (SC.R V) (l.map fun b=>.pd (.bool b)) (l.map Value.bool)
 | []=>.nil
 | b::l=>.cons (.bool b) (wB l)
theorem L1 (vs:List SX) (ck:List Chunk) (p:Option Prop) (ret:SV) (ck':List Chunk) (h:B8.2 vs ck=some (p,ret,ck')) (hp:Holds p):ak Tryz.prog B8.1 vs ck ret ck':=by
 unfold B8 at h
 simp only at h
 split at h
 · rename_i c l e
   cases hs:isSet l Af
   · rw [hs] at h; cases h
   · rw [hs] at h
     simp only [cond_true,aa,ae] at h
     obtain ⟨rfl,rfl,rfl⟩:=h
     rw [BM] at hs
     have hl:=yu hs
     have hc:0≤c∧c<256:=hp
     obtain ⟨n,rfl⟩:=cS hc.1
     have hn:n<256:=by omega
     intro w V vs hw hT hv
     cases hv with
     | cons a1 hv=>cases hv with
       | cons a2 hv =>
         cases hv
         have a1':_=Value.pointer (some ⟨V.σ 0,0,none⟩):=a1
         have a2':PR V.H (.int .u8 (n:Int)) _:=a2
         subst a1'
         cases a2'
         obtain ⟨us,h1,h2⟩:=hw.own 0 _ rfl
         have hus:us[n]?=some (.bool (n==43||n==45)):=by
          rw [hl] at h2
          obtain ⟨u,h3,h4⟩:=h2.get (i:=n) (a:=.pd (.bool (n==43||n==45))) (by rw [List.getElem?_map,JE n hn]; rfl)
          have h5:PR V.H (.bool (n==43||n==45)) u:=h4
          cases h5; exact h3
         have hnat:((UInt8.ofNat n).toNat:Int)=(n:Int):=by rw [UInt8.toNat_ofNat']; omega
         have key:=Tryz.asciiSet_contains (V.σ 0) (UInt8.ofNat n) (n==43||n==45) w (by
          have h6:(UInt8.ofNat n).toNat=n:=by omega
          simp only [World.cell?,h1,h6]
          simpa using hus)
         rw [hnat] at key
         refine key.mono fun e w' ⟨he,hw'⟩=>?_
         subst he; subst hw'
         refine ⟨_,V,rfl,?_,hw⟩
         have:(((n:Int)==43)||((n:Int)==45))=(n==43||n==45):=by
          rw [bV]; simp only [aA,beq_iff_eq]; omega
         rw [this]
         exact PR.bool _
 · cases h
theorem Ik (h0:0≤r) (h1:r<128):ak Tryz.prog 153 [.s [43,45],.c (.pd (.int .i32 r))] [] (.x (.i (kq r))) []:=by
 intro w V vs hw hT hv
 cases hv with
 | cons a1 hv=>cases hv with
   | cons a2 hv =>
     cases hv
     have a1':PR V.H (.str [43,45]) _:=a1
     have a2':PR V.H (.int .i32 r) _:=a2
     cases a1'; cases a2'
     refine (Tryz.strings_IndexRune_ascii (bs [43,45]) r w h0 h1).mono fun e w' ⟨he,hw'⟩=>?_
     subst he; subst hw'
     refine ⟨_,V,rfl,?_,hw⟩
     have e:Lib.indexByte (bs [43,45]).data.toList r.toNat.toUInt8=kq r:=by
      obtain ⟨n,rfl⟩:=cS h0
      have hn:n<128:=by omega
      have:∀ n:Fin 128,Lib.indexByte [43,45] (n.val.toUInt8)=kq (n.val:Int):=by decide
      exact this ⟨n,hn⟩
     rw [e]
     exact PR.int _ _
def DO:Ent:=(153,fun
 | [.c (.pd (.str [43,45])),.c (.pd (.int .i32 r))],[]=>some (some (0≤r∧r<128),.x (.c (.pd (.int .i64 (kq r)))),[])
 | _,_=>none)
theorem LF:EntOk Tryz.prog DO:=entOk fun vs ck=>by
 unfold DO; dsimp only; split
 · rename_i r; exact entS fun hp=>Ik r hp.1 hp.2
 · exact entN
theorem JU (n:Int):ak Tryz.prog 154 [.i n] [] (.x (.b (decide (n>8)))) []:=by
 refine dg aV Tryz.func154 (.ret (.p (.bool (decide (n>(8:Int))))) []) fun Γ=>⟨rfl,rfl⟩
def B3:Ent:=(154,fun
 | [.c (.pd (.int .i64 n))],[]=>some (none,.x (.c (.pd (.bool (decide (n>8))))),[])
 | _,_=>none)
theorem LG:EntOk Tryz.prog B3:=entOk fun vs ck=>by
 unfold B3; dsimp only; split
 · rename_i n; exact entS fun hp=>JU n
 · exact entN
theorem E4 {l:Str} (h:l.all (fun c=>decide (c.toNat<128))=true):∀ (j:Nat) (b:UInt8),l[j]?=some b→b.toNat<128:=fun j b hb=>of_decide_eq_true (an.1 h b (List.mem_of_getElem? hb))
theorem MJ:ak Tryz.prog 146 [.s [43,45]] [] (.tup [.agg Af,.b true]) []:=by
 intro w V vs hw hT hv
 cases hv with
 | cons a1 hv =>
   cases hv
   have a1':PR V.H (.str [43,45]) _:=a1
   cases a1'
   refine (Tryz.strings_makeASCIISet (fun w=>Tryz.zeroValue190 w) (bs [43,45]) w (by decide) (E4 (by decide))).mono fun e w' ⟨he,hw'⟩=>?_
   subst he; subst hw'
   refine ⟨_,V,rfl,⟨_,rfl,.cons ⟨DY.map Value.bool,?_,by rw [BM]; exact wB _⟩ (.cons (PR.bool true) .nil)⟩,hw.kept ⟨rfl,rfl,rfl,by simp,fun k hk _=>Below.heap_alloc w _ k hk⟩⟩
   congr 1
def eMk:Ent:=(146,fun
 | [.c (.pd (.str [43,45]))],[]=>some (none,.tup [.agg Af,.c (.pd (.bool true))],[])
 | _,_=>none)
theorem N7:EntOk Tryz.prog eMk:=entOk fun vs ck=>by
 unfold eMk; dsimp only; split
 · exact entS fun hp=>MJ
 · exact entN
theorem Mu (h0:0<s.length) (h1:ia s<128) (hs:s.length≤9223372036854775807):ak Tryz.prog 156 [.s s] [] (.tup [.c (.pd (.int .i32 (ia s))),.i 1]) []:=by
 refine dg aV Tryz.func156 (let x2:=(ab s - (1:Int)); let x1:=(↑((List.getD s ((IntKind.wrap .i64 x2).toNat) (0:UInt8)).toNat):Int); .ite (ab s==(0:Int)) (.ret (.tup [.p (.int .i32 (65533:Int)),.i 0]) []) (.need ((0:Int)≤IntKind.wrap .i64 x2∧IntKind.wrap .i64 x2<ab s) (.ite (decide (IntKind.wrap .i32 x1<128)) (.ret (.tup [.p (.int .i32 (IntKind.wrap .i32 x1)),.i 1]) []) (.stop [.code [1,1,1,1,1,1,1,0,1,0,0],.inLoop [1,1,1,1,1,1,1,0,1,0,0],.inBlock 0,.code [1,1,1,1,1,1,1,1]] { n:=51,fr:=[(0,.p (.str s)),(2,.p (.int .i32 (IntKind.wrap .i32 x1))),(3,.i 0),(4,.i (ab s)),(5,.i (IntKind.wrap .i64 (IntKind.wrap .i64 x2 - (1:Int)))),(6,.i (if (0:Int)>IntKind.wrap .i64 (ab s - (4:Int)) then (0:Int) else IntKind.wrap .i64 (ab s - (4:Int))))],ck:=[] })))) fun Γ=>?_
 conv=>zeta
 have hL:ab s=(s.length:Int):=rfl
 have hw:IntKind.wrap .i64 (ab s - 1)=((s.length - 1:Nat):Int):=by rw [bG (by omega) (by omega)]; omega
 rw [hw]
 have e:((UInt8.toNat (List.getD s (Int.toNat ((s.length - 1:Nat):Int)) 0):Nat):Int)=ia s:=by rw [aI]; rfl
 rw [e,wrap32 (by unfold ia; omega) (by omega)]
 refine ⟨fun h=>?_,fun _=>⟨⟨by omega,by omega⟩,fun _=>⟨rfl,rfl⟩,fun h=>?_⟩⟩
 · have:ab s=0:=by simpa using h
   omega
 · have:=of_decide_eq_false h; omega
def eDl:Ent:=(156,fun
 | [.c (.pd (.str s))],[]=>some (some (0<s.length∧ia s<128∧s.length≤9223372036854775807),.tup [.c (.pd (.int .i32 (ia s))),.c (.pd (.int .i64 1))],[])
 | _,_=>none)
theorem Nc:EntOk Tryz.prog eDl:=entOk fun vs ck=>by
 unfold eDl; dsimp only; split
 · rename_i s; exact entS fun hp=>Mu s hp.1 hp.2.1 hp.2.2
 · exact entN
def qI:Cfg:=⟨a6,[DO,B3,eMk,B8,eDl]⟩
theorem lj:ah Tryz.prog qI.tab:=(ah.cons LF (ah.cons LG (ah.cons N7 (ah.cons L1 (ah.cons Nc ah.nil)))))
abbrev zXc1:List Chunk:=[.cells [.pd (.bool false),.pd (.bool false),.pd (.bool false),.pd (.bool false),.pd (.bool false),.pd (.bool false),.pd (.bool false),.pd (.bool false),.pd (.bool false),.pd (.bool false),.pd (.bool false),.pd (.bool false),.pd (.bool false),.pd (.bool false),.pd (.bool false),.pd (.bool false),.pd (.bool false),.pd (.bool false),.pd (.bool false),.pd (.bool false),.pd (.bool false),.pd (.bool false),.pd (.bool false),.pd (.bool false),.pd (.bool false),.pd (.bool false),.pd (.bool false),.pd (.bool false),.pd (.bool false),.pd (.bool false),.pd (.bool false),.pd (.bool false),.pd (.bool false),.pd (.bool false),.pd (.bool false),.pd (.bool false),.pd (.bool false),.pd (.bool false),.pd (.bool false),.pd (.bool false),.pd (.bool false),.pd (.bool false),.pd (.bool false),.pd (.bool true),.pd (.bool false),.pd (.bool true),.pd (.bool false),.pd (.bool false),.pd (.bool false),.pd (.bool false),.pd (.bool false),.pd (.bool false),.pd (.bool false),.pd (.bool false),.pd (.bool false),.pd (.bool false),.pd (.bool false),.pd (.bool false),.pd (.bool false),.pd (.bool false),.pd (.bool false),.pd (.bool false),.pd (.bool false),.pd (.bool false),.pd (.bool false),.pd (.bool false),.pd (.bool false),.pd (.bool false),.pd (.bool false),.pd (.bool false),.pd (.bool false),.pd (.bool false),.pd (.bool false),.pd (.bool false),.pd (.bool false),.pd (.bool false),.pd (.bool false),.pd (.bool false),.pd (.bool false),.pd (.bool false),.pd (.bool false),.pd (.bool false),.pd (.bool false),.pd (.bool false),.pd (.bool false),.pd (.bool false),.pd (.bool false),.pd (.bool false),.pd (.bool false),.pd (.bool false),.pd (.bool false),.pd (.bool false),.pd (.bool false),.pd (.bool false),.pd (.bool false),.pd (.bool false),.pd (.bool false),.pd (.bool false),.pd (.bool false),.pd (.bool false),.pd (.bool false),.pd (.bool false),.pd (.bool false),.pd (.bool false),.pd (.bool false),.pd (.bool false),.pd (.bool false),.pd (.bool false),.pd (.bool false),.pd (.bool false),.pd (.bool false),.pd (.bool false),.pd (.bool false),.pd (.bool false),.pd (.bool false),.pd (.bool false),.pd (.bool false),.pd (.bool false),.pd (.bool false),.pd (.bool false),.pd (.bool false),.pd (.bool false),.pd (.bool false),.pd (.bool false),.pd (.bool false),.pd (.bool false),.pd (.bool false),.pd (.bool false),.pd (.bool false),.pd (.bool false),.pd (.bool false),.pd (.bool false),.pd (.bool false),.pd (.bool false),.pd (.bool false),.pd (.bool false),.pd (.bool false),.pd (.bool false),.pd (.bool false),.pd (.bool false),.pd (.bool false),.pd (.bool false),.pd (.bool false),.pd (.bool false),.pd (.bool false),.pd (.bool false),.pd (.bool false),.pd (.bool false),.pd (.bool false),.pd (.bool false),.pd (.bool false),.pd (.bool false),.pd (.bool false),.pd (.bool false),.pd (.bool false),.pd (.bool false),.pd (.bool false),.pd (.bool false),.pd (.bool false),.pd (.bool false),.pd (.bool false),.pd (.bool false),.pd (.bool false),.pd (.bool false),.pd (.bool false),.pd (.bool false),.pd (.bool false),.pd (.bool false),.pd (.bool false),.pd (.bool false),.pd (.bool false),.pd (.bool false),.pd (.bool false),.pd (.bool false),.pd (.bool false),.pd (.bool false),.pd (.bool false),.pd (.bool false),.pd (.bool false),.pd (.bool false),.pd (.bool false),.pd (.bool false),.pd (.bool false),.pd (.bool false),.pd (.bool false),.pd (.bool false),.pd (.bool false),.pd (.bool false),.pd (.bool false),.pd (.bool false),.pd (.bool false),.pd (.bool false),.pd (.bool false),.pd (.bool false),.pd (.bool false),.pd (.bool false),.pd (.bool false),.pd (.bool false),.pd (.bool false),.pd (.bool false),.pd (.bool false),.pd (.bool false),.pd (.bool false),.pd (.bool false),.pd (.bool false),.pd (.bool false),.pd (.bool false),.pd (.bool false),.pd (.bool false),.pd (.bool false),.pd (.bool false),.pd (.bool false),.pd (.bool false),.pd (.bool false),.pd (.bool false),.pd (.bool false),.pd (.bool false),.pd (.bool false),.pd (.bool false),.pd (.bool false),.pd (.bool false),.pd (.bool false),.pd (.bool false),.pd (.bool false),.pd (.bool false),.pd (.bool false),.pd (.bool false),.pd (.bool false),.pd (.bool false),.pd (.bool false),.pd (.bool false),.pd (.bool false),.pd (.bool false),.pd (.bool false),.pd (.bool false),.pd (.bool false),.pd (.bool false),.pd (.bool false),.pd (.bool false),.pd (.bool false),.pd (.bool false),.pd (.bool false),.pd (.bool false),.pd (.bool false),.pd (.bool false),.pd (.bool false),.pd (.bool false),.pd (.bool false),.pd (.bool false),.pd (.bool false),.pd (.bool false),.pd (.bool false),.pd (.bool false),.pd (.bool false),.pd (.bool false),.pd (.bool false)] 190]
abbrev zXc2:List PI:=[.code [1,1,1,0,1,0,1,1,0,0,1,0,0],.inLoop [1,1,1,0,1,0,1,1,0,0,1,0,0],.inBlock 0,.code [1,1,1,0,1,0,1,1,0,1],.code [1,1,1,1]]
theorem Mh (hs:s.length≤9223372036854775807):∀ k:Nat,k≤s.length →
 J Tryz.prog 117 (az Tryz.f117) Γ (Eq2 (.x (.i (gf s k))) []) zXc2 ({ n:=96,fr:=[(0,.p (.str s)),(1,.p (.str [43,45])),(4,.i 0),(6,.x (.c (.loc 0 0))),(8,.i (((k:Int) - 1)))],ck:=zXc1 }):=by
 intro k
 induction k with
 | zero=>?_
 | succ k ih=>?_
 all_goals
  intro hk
  have hL:ab s=(s.length:Int):=rfl
 · refine jg lj Tryz.func117 (let x1:=(↑((List.getD s 0 (0:UInt8)).toNat):Int); .ite false (.need ((0:Int)≤(↑(0:Nat):Int) - 1∧(↑(0:Nat):Int) - 1<ab s) (.need ((0:Int)≤x1∧x1<256) (.ite (x1==43||x1==45) (.ret (.i ((↑(0:Nat):Int) - 1)) []) (.stop zXc2 { n:=96,fr:=[(0,.p (.str s)),(1,.p (.str [43,45])),(4,.i 0),(6,.x (.c (.loc 0 0))),(8,.i (IntKind.wrap .i64 ((↑(0:Nat):Int) - 1 - (1:Int))))],ck:=zXc1 })))) (.ret (.i (-1:Int)) [])) ?_
   conv=>zeta
   exact ⟨fun h=>Bool.noConfusion h,fun _=>⟨rfl,rfl⟩⟩
 · refine jg lj Tryz.func117 (let x1:=(↑((List.getD s (((↑(k+1):Int) - 1).toNat) (0:UInt8)).toNat):Int); .ite (decide ((↑(k+1):Int) - 1≥(0:Int))) (.need ((0:Int)≤(↑(k+1):Int) - 1∧(↑(k+1):Int) - 1<ab s) (.need ((0:Int)≤x1∧x1<256) (.ite (x1==43||x1==45) (.ret (.i ((↑(k+1):Int) - 1)) []) (.stop zXc2 { n:=96,fr:=[(0,.p (.str s)),(1,.p (.str [43,45])),(4,.i 0),(6,.x (.c (.loc 0 0))),(8,.i (IntKind.wrap .i64 ((↑(k+1):Int) - 1 - (1:Int))))],ck:=zXc1 })))) (.ret (.i (-1:Int)) [])) ?_
   conv=>zeta
   have hk1:(((k+1:Nat):Int) - 1)=(k:Int):=by omega
   rw [hk1]
   have hb:=UInt8.toNat_lt (s.getD k 0)
   rw [aI,Fy]
   refine ⟨fun _=>⟨⟨by omega,by omega⟩,⟨by omega,by omega⟩,fun h=>⟨?_,rfl⟩,fun h=>?_⟩,fun h=>absurd (of_decide_eq_false h) (by omega)⟩
   · rw [gf,if_pos h]
   · rw [gf,if_neg (by rw [h]; simp),bG (by omega) (by omega)]
     exact ih (by omega)
abbrev zXc3:List PI:=[.code [1,1,1,1,1,0,1,0,0],.inLoop [1,1,1,1,1,0,1,0,0],.inBlock 4,.code [1,1,1,1,1,1]]
theorem J6 (hs:s.length≤9223372036854775807) (ha:s.all (fun c=>decide (c.toNat<128))=true):∀ k:Nat,k≤s.length →
 J Tryz.prog 117 (az Tryz.f117) Γ (Eq2 (.x (.i (gf s k))) []) zXc3 ({ n:=96,fr:=[(0,.p (.str s)),(1,.p (.str [43,45])),(4,.i 0),(13,.i ((k:Int)))],ck:=[] }):=by
 intro k
 induction k with
 | zero=>?_
 | succ k ih=>?_
 all_goals
  intro hk
  have hL:ab s=(s.length:Int):=rfl
 · refine jg lj Tryz.func117 (let x1:=((aw s none (some (↑(0:Nat):Int))).2); let x2:=(IntKind.wrap .i64 ((↑(0:Nat):Int) - 1)); .ite false (.need ((0:Int)≤(↑(0:Nat):Int)∧(↑(0:Nat):Int)≤(s.length:Int)) (.need (0<x1.length∧ia x1<(128:Int)∧x1.length≤9223372036854775807) (.need ((0:Int)≤ia x1∧ia x1<(128:Int)) (.ite false (.ret (.i x2) []) (.stop zXc3 { n:=96,fr:=[(0,.p (.str s)),(1,.p (.str [43,45])),(4,.i 0),(13,.i x2)],ck:=[] }))))) (.ret (.i (-1:Int)) [])) ?_
   conv=>zeta
   exact ⟨fun h=>Bool.noConfusion h,fun _=>⟨rfl,rfl⟩⟩
 · refine jg lj Tryz.func117 (let x1:=((aw s none (some (↑(k+1):Int))).2); let x2:=(IntKind.wrap .i64 ((↑(k+1):Int) - 1)); .ite (decide ((↑(k+1):Int)>0)) (.need ((0:Int)≤(↑(k+1):Int)∧(↑(k+1):Int)≤(s.length:Int)) (.need (0<x1.length∧ia x1<(128:Int)∧x1.length≤9223372036854775807) (.need ((0:Int)≤ia x1∧ia x1<(128:Int)) (.ite (decide (kq (ia x1)≥(0:Int))) (.ret (.i x2) []) (.stop zXc3 { n:=96,fr:=[(0,.p (.str s)),(1,.p (.str [43,45])),(4,.i 0),(13,.i x2)],ck:=[] }))))) (.ret (.i (-1:Int)) [])) ?_
   conv=>zeta
   have ht:(aw s none (some ((k+1:Nat):Int))).2=s.take (k+1):=by simp [aw]
   have hl:ia (s.take (k+1))=(((s.getD k 0).toNat:Nat):Int):=by
    have e1:(s.take (k+1)).length - 1=k:=by rw [bo]; omega
    unfold ia
    rw [e1]
    congr 2
    simp only [List.getD_eq_getElem?_getD,List.getElem?_take,if_pos (Nat.lt_succ_self k)]
   have hc:(s.getD k 0).toNat<128:=by
    have:s.getD k 0∈s:=by
     rw [List.getD_eq_getElem?_getD,List.getElem?_eq_getElem (by omega)]
     exact dY _
    exact of_decide_eq_true (an.1 ha _ this)
   have hlen:(s.take (k+1)).length=k+1:=by rw [bo]; omega
   have hw:IntKind.wrap .i64 (((k+1:Nat):Int) - 1)=(k:Int):=by rw [bG (by omega) (by omega)]; omega
   rw [ht,hl,KB hc,hw,hlen]
   refine ⟨fun _=>⟨⟨by omega,by omega⟩,⟨by omega,by omega,by omega⟩,⟨by omega,by omega⟩,fun h=>⟨?_,rfl⟩,fun h=>?_⟩,fun h=>absurd (of_decide_eq_false h) (by omega)⟩
   · rw [gf,if_pos h]
   · rw [gf,if_neg (by rw [h]; simp)]
     exact ih (by omega)
theorem ym (hs:s.length≤9223372036854775807) (ha:s.all (fun c=>decide (c.toNat<128))=true):ak Tryz.prog 117 [.s s,.s [43,45]] [] (.x (.i (aN s))) []:=by
 refine dg lj Tryz.func117 (let x2:List PI:=[.code [1,1,1,1,0,1,0,1,1,0,1,0,0],.inLoop [1,1,1,1,0,1,0,1,1,0,1,0,0],.inBlock 2,.code [1,1,1,1,0,1,0,1,1,1],.code [1,1,1,1,1]]; let x4:Nat×SV:=(1,.p (.str [43,45])); let x1:Tree:=(.ite false (.need ((0:Int)≤0∧(0:Int)<ab [(43:UInt8),45]) (.ite false (.stop x2 { n:=96,fr:=[(0,.p (.str s)),x4,(4,.i 0),(9,.p (.int .i32 (65533:Int))),(10,.i (ab s))],ck:=[] }) (.stop x2 { n:=96,fr:=[(0,.p (.str s)),x4,(4,.i 0),(9,.p (.int .i32 (IntKind.wrap .i32 (↑(43:Nat):Int)))),(10,.i (ab s))],ck:=[] }))) (.stop zXc3 { n:=96,fr:=[(0,.p (.str s)),x4,(4,.i 0),(13,.i (ab s))],ck:=[] })); let x3:=(↑((List.getD s 0 (0:UInt8)).toNat):Int); let x5:Tree:=(.ret (.i (-1:Int)) []); .ite false x5 (.ite (ab s==(1:Int)) (.need ((0:Int)≤0∧(0:Int)<ab s) (.ite (decide (IntKind.wrap .i32 x3≥128)) (.need ((0:Int)≤65533∧(65533:Int)<128) (.ite false (.ret (.i 0) []) x5)) (.need ((0:Int)≤IntKind.wrap .i32 x3∧IntKind.wrap .i32 x3<128) (.ite (decide (kq (IntKind.wrap .i32 x3)≥(0:Int))) (.ret (.i 0) []) x5)))) (.ite (decide (ab s>(8:Int))) (.ite true (.stop zXc2 { n:=96,fr:=[(0,.p (.str s)),x4,(4,.i 0),(6,.x (.c (.loc 0 0))),(8,.i (IntKind.wrap .i64 (ab s - (1:Int))))],ck:=zXc1 }) x1) x1))) fun Γ=>?_
 conv=>zeta
 have hL:ab s=(s.length:Int):=rfl
 have long:=Mh s Γ hs s.length (aD _)
 have short:=J6 s Γ hs ha s.length (aD _)
 have hb:=UInt8.toNat_lt (s.getD 0 0)
 have hw1:0<s.length→IntKind.wrap .i64 (ab s - 1)=(s.length:Int) - 1:=fun h=>by rw [bG (by omega) (by omega)]; omega
 refine ⟨fun h=>Bool.noConfusion h,fun _=>⟨fun h1=>?_,fun h1=>⟨fun h8=>⟨fun _=>?_,fun h=>Bool.noConfusion h⟩,fun h8=>⟨fun h=>Bool.noConfusion h,fun _=>?_⟩⟩⟩⟩
 · have h1':s.length=1:=by
    have:ab s=1:=by simpa using h1
    omega
   have hc:(s.getD 0 0).toNat<128:=by
    have:s.getD 0 0∈s:=by
     rw [List.getD_eq_getElem?_getD,List.getElem?_eq_getElem (by omega)]
     exact dY _
    exact of_decide_eq_true (an.1 ha _ this)
   have e0:(0:Int).toNat=0:=rfl
   simp only [e0,wrap32 (n:=(((s.getD 0 0).toNat:Nat):Int)) (by omega) (by omega),KB hc]
   have hv:aN s=if kB (s.getD 0 0)=true then 0 else -1:=by
    unfold aN; rw [h1']; rfl
   refine ⟨⟨by omega,by omega⟩,fun h=>absurd (of_decide_eq_true h) (by omega),fun _=>⟨⟨by omega,by omega⟩,fun h=>⟨?_,rfl⟩,fun h=>⟨?_,rfl⟩⟩⟩
   · rw [hv,if_pos h]
   · rw [hv,if_neg (by rw [h]; simp)]
 · have h8':8<ab s:=of_decide_eq_true h8
   rw [hw1 (by omega)]
   exact long
 · exact short
def wS:Ent:=(117,fun
 | [.c (.pd (.str s)),.c (.pd (.str [43,45]))],[]=>some (some (s.length≤9223372036854775807∧s.all (fun c=>decide (c.toNat<128))=true),.x (.c (.pd (.int .i64 (aN s)))),[])
 | _,_=>none)
theorem I8:EntOk Tryz.prog wS:=entOk fun vs ck=>by
 unfold wS; dsimp only; split
 · rename_i s; exact entS fun hp=>ym s hp.1 hp.2
 · exact entN
end Go.Proofs.YtpfidgnkokidoaaGreatDoor

/- The library's contracts of the shelf, laid at this dump by the kit's tools. Conditions: each one's own. The library's contracts of the shelf, laid at this dump by the kit's tools. Conditions: each one's own. Contracts: strings.TrimPrefix, TrimSuffix, Split at line feeds, Repeat. Conditions: texts that are not too long; the library's variable. Contracts of the program's functions on points: made, parted. Conditions: none. Contracts: points told and read. Conditions: texts that are ASCII. Contracts: the program's reader of charts: points' lines. Conditions: sizes. Contracts: the kinds of lines, a map. Conditions: none. -/
import Derived.Shelf.Lays
import Derived.Shelf.Strings.Repeat
import Derived.Test.YtpfidgnkokidoaaGreatDoorProg
import Derived.Shelf.Strings.Prefix
import Derived.Test.YtpfidgnkokidoaaGreatDoorShelfi
import Derived.Test.YtpfidgnkokidoaaGreatDoorKi
import Derived.Test.YtpfidgnkokidoaaGreatDoorDa
import Derived.Test.YtpfidgnkokidoaaGreatDoorWm
import Derived.Test.YtpfidgnkokidoaaGreatDoorWn
import Derived.Test.YtpfidgnkokidoaaGreatDoorVc
namespace Go.Proofs
open Go.Shelf
def Tryz.lays105_ren:Go.Shelf.Ren:=⟨fun | 105=>58 | 212=>98 | 99=>99 | 165=>100 | 166=>26 | 170=>29 | 169=>30 | 263=>133 | 264=>134 | 206=>135 | 240=>54 | 241=>136 | 276=>96 | 277=>176 | n=>n,fun | 9=>9 | 3=>3 | 4=>4 | 20=>20 | 0=>0 | 46=>145 | 109=>146 | 5=>5 | 72=>73 | 76=>76 | 51=>179 | 146=>180 | 53=>182 | 148=>183 | 70=>70 | 37=>71 | 75=>75 | 127=>103 | 164=>141 | 80=>81 | n=>n,fun | n=>n⟩
theorem Tryz.lays105:Go.Proofs.Lays.n105 Tryz.prog Tryz.lays105_ren:={
 mixed:=by kernel_rfl
 f99:=Tryz.func99.trans (congrArg some (by kernel_rfl))
 f105:=Tryz.func58.trans (congrArg some (by kernel_rfl))
 f165:=Tryz.func100.trans (congrArg some (by kernel_rfl))
 f166:=Tryz.func26.trans (congrArg some (by kernel_rfl))
 f169:=Tryz.func30.trans (congrArg some (by kernel_rfl))
 f170:=Tryz.func29.trans (congrArg some (by kernel_rfl))
 f206:=Tryz.func135.trans (congrArg some (by kernel_rfl))
 f212:=Tryz.func98.trans (congrArg some (by kernel_rfl))
 f240:=Tryz.func54.trans (congrArg some (by kernel_rfl))
 f241:=Tryz.func136.trans (congrArg some (by kernel_rfl))
 f263:=Tryz.func133.trans (congrArg some (by kernel_rfl))
 f264:=Tryz.func134.trans (congrArg some (by kernel_rfl))
 f276:=Tryz.func96.trans (congrArg some (by kernel_rfl))
 f277:=Tryz.func176.trans (congrArg some (by kernel_rfl))
 t0:=Tryz.underlying0
 a0:=Tryz.isAgg0
 z0:=Tryz.sizeOf0
 v0:=Tryz.zeroValue0
 t3:=Tryz.underlying3
 a3:=Tryz.isAgg3
 z3:=Tryz.sizeOf3
 v3:=Tryz.zeroValue3
 t4:=Tryz.underlying4
 a4:=Tryz.isAgg4
 z4:=Tryz.sizeOf4
 v4:=Tryz.zeroValue4
 t5:=Tryz.underlying5
 a5:=Tryz.isAgg5
 z5:=Tryz.sizeOf5
 v5:=Tryz.zeroValue5
 t9:=Tryz.underlying9
 a9:=Tryz.isAgg9
 z9:=Tryz.sizeOf9
 v9:=Tryz.zeroValue9
 t20:=Tryz.underlying20
 a20:=Tryz.isAgg20
 z20:=Tryz.sizeOf20
 v20:=Tryz.zeroValue20
 t37:=Tryz.underlying71
 a37:=Tryz.isAgg71
 z37:=Tryz.sizeOf71
 v37:=Tryz.zeroValue71
 t46:=Tryz.underlying145
 a46:=Tryz.isAgg145
 z46:=Tryz.sizeOf145
 v46:=Tryz.zeroValue145
 t51:=Tryz.underlying179
 a51:=Tryz.isAgg179
 z51:=Tryz.sizeOf179
 v51:=Tryz.zeroValue179
 t53:=Tryz.underlying182
 a53:=Tryz.isAgg182
 z53:=Tryz.sizeOf182
 v53:=Tryz.zeroValue182
 t70:=Tryz.underlying70
 a70:=Tryz.isAgg70
 z70:=Tryz.sizeOf70
 v70:=Tryz.zeroValue70
 t72:=Tryz.underlying73
 a72:=Tryz.isAgg73
 z72:=Tryz.sizeOf73
 v72:=Tryz.zeroValue73
 t75:=Tryz.underlying75
 a75:=Tryz.isAgg75
 z75:=Tryz.sizeOf75
 v75:=Tryz.zeroValue75
 t76:=Tryz.underlying76
 a76:=Tryz.isAgg76
 z76:=Tryz.sizeOf76
 v76:=Tryz.zeroValue76
 t109:=Tryz.underlying146
 a109:=Tryz.isAgg146
 z109:=Tryz.sizeOf146
 v109:=Tryz.zeroValue146
 t127:=Tryz.underlying103
 a127:=Tryz.isAgg103
 z127:=Tryz.sizeOf103
 v127:=Tryz.zeroValue103
 t146:=Tryz.underlying180
 a146:=Tryz.isAgg180
 z146:=Tryz.sizeOf180
 v146:=Tryz.zeroValue180
 t148:=Tryz.underlying183
 a148:=Tryz.isAgg183
 z148:=Tryz.sizeOf183
 v148:=Tryz.zeroValue183
 t164:=Tryz.underlying141
 a164:=Tryz.isAgg141
 z164:=Tryz.sizeOf141
 v164:=Tryz.zeroValue141 }
theorem Tryz.Builder_Extra_105:Builder.Extra Tryz.prog Tryz.lays105_ren:={
 sizeBuilder:=by kernel_rfl
 liesBuilder:=by kernel_rfl
 t5:=Tryz.underlying5
 a5:=Tryz.isAgg5
 z5:=Tryz.sizeOf5
 v5:=Tryz.zeroValue5
 infoByte:=by kernel_rfl
 cellsByte:=by kernel_rfl
 sizeByte:=by kernel_rfl
 neB5:=by decide }
open Go.RowKit Go.Lib in
theorem Tryz.strings_Repeat (s:ByteArray) (c:Nat) (w:World) (hc:c≤9223372036854775807) (hlen:s.size * c≤140737488355328) :
 Calls Tryz.prog 58 #[.string s,.int .i64 c] w fun e w'=>e = .returned (.string ⟨(Lib.repeatL s.data.toList c).toArray⟩)∧Below w.heap.size w w':=Any.strings_Repeat Tryz.lays105 Tryz.Builder_Extra_105 s c w hc hlen
def Tryz.lays101_ren:Go.Shelf.Ren:=⟨fun | 101=>118 | 208=>157 | 206=>135 | n=>n,fun | 9=>9 | 4=>4 | 3=>3 | n=>n,fun | n=>n⟩
theorem Tryz.lays101:Go.Proofs.Lays.n101 Tryz.prog Tryz.lays101_ren:={
 mixed:=by kernel_rfl
 f101:=Tryz.func118.trans (congrArg some (by kernel_rfl))
 f206:=Tryz.func135.trans (congrArg some (by kernel_rfl))
 f208:=Tryz.func157.trans (congrArg some (by kernel_rfl))
 t3:=Tryz.underlying3
 a3:=Tryz.isAgg3
 z3:=Tryz.sizeOf3
 v3:=Tryz.zeroValue3
 t4:=Tryz.underlying4
 a4:=Tryz.isAgg4
 z4:=Tryz.sizeOf4
 v4:=Tryz.zeroValue4
 t9:=Tryz.underlying9
 a9:=Tryz.isAgg9
 z9:=Tryz.sizeOf9
 v9:=Tryz.zeroValue9 }
def Tryz.lays102_ren:Go.Shelf.Ren:=⟨fun | 102=>18 | 209=>48 | 207=>91 | n=>n,fun | 9=>9 | 4=>4 | 3=>3 | n=>n,fun | n=>n⟩
theorem Tryz.lays102:Go.Proofs.Lays.n102 Tryz.prog Tryz.lays102_ren:={
 mixed:=by kernel_rfl
 f102:=Tryz.func18.trans (congrArg some (by kernel_rfl))
 f207:=Tryz.func91.trans (congrArg some (by kernel_rfl))
 f209:=Tryz.func48.trans (congrArg some (by kernel_rfl))
 t3:=Tryz.underlying3
 a3:=Tryz.isAgg3
 z3:=Tryz.sizeOf3
 v3:=Tryz.zeroValue3
 t4:=Tryz.underlying4
 a4:=Tryz.isAgg4
 z4:=Tryz.sizeOf4
 v4:=Tryz.zeroValue4
 t9:=Tryz.underlying9
 a9:=Tryz.isAgg9
 z9:=Tryz.sizeOf9
 v9:=Tryz.zeroValue9 }
open Go.RowKit Go.Lib in
theorem Tryz.strings_TrimPrefix (s p:ByteArray) (w:World) :
 Calls Tryz.prog 118 #[.string s,.string p] w fun e w'=>e = .returned (.string ⟨(Lib.trimPrefix s.data.toList p.data.toList).toArray⟩)∧w'=w:=Any.strings_TrimPrefix Tryz.lays101 s p w
open Go.RowKit Go.Lib in
theorem Tryz.strings_TrimSuffix (s p:ByteArray) (w:World) (hs:s.size≤9223372036854775807) :
 Calls Tryz.prog 18 #[.string s,.string p] w fun e w'=>e = .returned (.string ⟨(Lib.trimSuffix s.data.toList p.data.toList).toArray⟩)∧w'=w:=Any.strings_TrimSuffix Tryz.lays102 s p w hs
end Go.Proofs
namespace Go.Proofs.YtpfidgnkokidoaaGreatDoor
open Go Go.Ev Go.RowKit
set_option maxRecDepth 100000
variable (s:Str) (n:Int) (p:Str)
theorem wh:Lib.trimSuffix s [10]=il s:=by
 have h:Lib.hasSuffix s [10]=uc s:=by
  rw [bV]
  unfold Lib.hasSuffix uc
  rw [List.isSuffixOf_iff_suffix,beq_iff_eq,List.getLast?_eq_some_iff]
  exact ⟨fun ⟨t,ht⟩=>⟨t,ht.symm⟩,fun ⟨t,ht⟩=>⟨t,ht.symm⟩⟩
 unfold Lib.trimSuffix il
 rw [h]
 split
 · rw [List.dropLast_eq_take]; rfl
 · rfl
theorem sr (hs:s.length≤9223372036854775807):ak Tryz.prog 18 [.s s,.s p] [] (.x (.s (Lib.trimSuffix s p))) []:=by
 intro w V vs hw hT hv
 rw [lM hv]
 have hsz:(bs s).size=s.length:=eB s
 refine (Tryz.strings_TrimSuffix (bs s) (bs p) w (by omega)).mono fun e w' ⟨he,hw'⟩=>?_
 subst he; subst hw'
 refine ⟨_,V,rfl,?_,hw.kept ⟨rfl,rfl,rfl,aD _,fun _ _ _=>rfl⟩⟩
 rw [cQ,cQ]
 exact PR.str (Lib.trimSuffix s p)
def po:Ent:=(18,fun
 | [.c (.pd (.str s)),.c (.pd (.str p))],[]=>some (some (s.length≤9223372036854775807),.x (.c (.pd (.str (Lib.trimSuffix s p)))),[])
 | _,_=>none)
theorem vY:EntOk Tryz.prog po:=entOk fun vs ck=>by
 unfold po; dsimp only; split
 · rename_i s p; exact entS fun hp=>sr s p hp
 · exact entN
theorem sE:ak Tryz.prog 118 [.s s,.s p] [] (.x (.s (Lib.trimPrefix s p))) []:=by
 intro w V vs hw hT hv
 rw [lM hv]
 refine (Tryz.strings_TrimPrefix (bs s) (bs p) w).mono fun e w' ⟨he,hw'⟩=>?_
 subst he; subst hw'
 refine ⟨_,V,rfl,?_,hw.kept ⟨rfl,rfl,rfl,aD _,fun _ _ _=>rfl⟩⟩
 rw [cQ,cQ]
 exact PR.str (Lib.trimPrefix s p)
def td:Ent:=(118,fun
 | [.c (.pd (.str s)),.c (.pd (.str p))],[]=>some (none,.x (.c (.pd (.str (Lib.trimPrefix s p)))),[])
 | _,_=>none)
theorem FW:EntOk Tryz.prog td:=entOk fun vs ck=>by
 unfold td; dsimp only; split
 · rename_i s p; exact entS fun hp=>sE s p
 · exact entN
theorem AN (hs:s.length<4294967281):ak Tryz.prog 17 [.s s,.s [10]] [] (.x (.c (.own 0))) [.own 9 .str (dT [] s)]:=by
 intro w V vs hw hT hv
 rw [lM hv]
 obtain ⟨m,hm⟩:=mu hT hw.imm
 have hp:=Bi s
 have hl:=congrArg List.length hp
 rw [cq] at hl
 have hc:Lib.countB (bs s) ⟨#[10]⟩+1=(dT [] s).length:=by
  rw [← hl]; exact (Lib.splitB_all ⟨#[10]⟩ (by decide) 0 _ (bs s) rfl).symm
 refine (Tryz.strings_Split (bs s) (bs [10]) m w (by rw [eB]; exact hs) hm (by decide)).mono fun e w' ⟨he,hw'⟩=>?_
 subst he; subst hw'
 have hcells:(Lib.splitB (bs [10]) 0 (Lib.countB (bs s) (bs [10])) (bs s)).map Value.string=(dT [] s).map fun s=>Value.string (bs s):=by
  rw [← hp,List.map_map]
  exact eQ fun x _=>by simp [kj]
 have hc':Lib.countB (bs s) (bs [10])+1=(dT [] s).length:=hc
 rw [hcells,hc']
 have hlen:=ru s
 obtain ⟨V2,hag,_,_,e2,hw2⟩:=hw.regrow (ck:=[]) rfl (bJ _) none (c:=.own 9 .str (dT [] s)) (v':=.slice (some ⟨w.heap.size,0,none⟩) (dT [] s).length (dT [] s).length) (s':=w.heap.size) (w':=w.alloc (.cells ((dT [] s).map fun s=>Value.string (bs s)).toArray 9)) (row:=none) (by simp) (World.grownBy_alloc w _ none) (fun V' hag hH f1 f2=>by
  have f3:V'.ov 0 = .slice (some ⟨w.heap.size,0,none⟩) (dT [] s).length (dT [] s).length:=f2
  have f4:V'.σ 0=w.heap.size:=f1
  refine ⟨⟨(dT [] s).map fun s=>Value.string (bs s),?_,rV _,fun b hb=>?_⟩,fun b hb=>?_⟩
  · rw [f2]
    have:=World.ownsRow_lit (base:=0) (size:=1) (e:=9) w ((dT [] s).map fun s=>Value.string (bs s)).toArray (dT [] s).length (bJ _) (by unfold maxLen; omega) (by simp)
    exact this
  · rw [f2] at hb; simp only [Value.ownBlock,aa] at hb; rw [f1,← hb]
  · right; simp only [Chunk.blk] at hb; rw [f2] at hb; simp only [Value.ownBlock,aa] at hb; omega)
 exact ⟨_,V2,rfl,e2.symm,hw2⟩
def qh:Ent:=(17,fun
 | [.c (.pd (.str s)),.c (.pd (.str [10]))],[]=>some (some (s.length<4294967281),.x (.c (.own 0)),[.own 9 .str (dT [] s)])
 | _,_=>none)
theorem D9:EntOk Tryz.prog qh:=entOk fun vs ck=>by
 unfold qh; dsimp only; split
 · rename_i s; exact entS fun hp=>AN s hp
 · exact entN
def Jv:Str:=Lib.repeatL s n.toNat
theorem Ba (h0:0≤n) (hn:n≤9223372036854775807) (hl:s.length * n.toNat≤140737488355328):ak Tryz.prog 58 [.s s,.i n] [] (.x (.s (Jv s n))) []:=by
 intro w V vs hw hT hv
 cases hv with
 | cons a1 hv=>cases hv with
   | cons a2 hv =>
     cases hv
     have a1':PR V.H (.str s) _:=a1
     have a2':PR V.H (.int .i64 n) _:=a2
     cases a1'; cases a2'
     obtain ⟨k,rfl⟩:=cS h0
     have hsz:(bs s).size=s.length:=eB s
     refine (Tryz.strings_Repeat (bs s) k w (by omega) (by rw [hsz]; exact hl)).mono fun e w' ⟨he,hb⟩=>?_
     subst he
     refine ⟨_,V,rfl,?_,hw.kept (jU hb)⟩
     rw [cQ]
     exact PR.str (Jv s k)
def qB:Ent:=(58,fun
 | [.c (.pd (.str s)),.c (.pd (.int .i64 n))],[]=>some (some (0≤n∧n≤9223372036854775807∧s.length * n.toNat≤140737488355328),.x (.c (.pd (.str (Jv s n)))),[])
 | _,_=>none)
theorem DT:EntOk Tryz.prog qB:=entOk fun vs ck=>by
 unfold qB; dsimp only; split
 · rename_i s n; exact entS fun hp=>Ba s n hp.1 hp.2.1 hp.2.2
 · exact entN
end Go.Proofs.YtpfidgnkokidoaaGreatDoor
namespace Go.Proofs.YtpfidgnkokidoaaGreatDoor
open Go Go.Ev
set_option maxRecDepth 100000
theorem Cv (x:Nat):ak Tryz.prog 158 [.c (.pd (.fl (some x)))] [] (.x (.b (gP x))) []:=by
 refine dg aV Tryz.func158 (let x1:=(dR x 13920626448202203136==some Ordering.gt||dR x 13920626448202203136==some Ordering.eq); let x2:=(dR x 4697254411347427328==some Ordering.lt||dR x 4697254411347427328==some Ordering.eq); .need ((x1&&x2)=true→kg .i64 x) (.ret (.p (.bool (x1&&x2&&dR x (FloatKind.nearest FloatKind.f64 (fV x))==some Ordering.eq))) [])) fun Γ=>?_
 conv=>zeta
 exact ⟨fun h=>nq h,rfl,rfl⟩
def tc:Ent:=(158,fun
 | [.c (.pd (.fl (some x)))],[]=>some (none,.x (.c (.pd (.bool (gP x)))),[])
 | _,_=>none)
theorem GM:EntOk Tryz.prog tc:=entOk fun vs ck=>by
 unfold tc; dsimp only; split
 · rename_i x; exact entS fun hp=>Cv x
 · exact entN
def yz:Cfg:=⟨a6,[tc]⟩
theorem A6:ah Tryz.prog yz.tab:=(ah.cons GM ah.nil)
theorem AE (p:Nat×Nat):ak Tryz.prog 119 [.c (.pd (.cx (some p)))] [] (.x (.b (ez p))) []:=by
 refine dg A6 Tryz.func119 (.ret (.p (.bool (gP (Prod.fst p)&&gP (Prod.snd p)))) []) fun Γ=>?_
 exact ⟨rfl,rfl⟩
theorem AP (o:Option (Nat×Nat)) (h:o.isSome=true):ak Tryz.prog 119 [.c (.pd (.cx o))] [] (.x (.b (p8 o))) []:=by
 obtain ⟨p,rfl⟩:=cC.1 h
 exact AE p
def qv:Ent:=(119,fun
 | [.c (.pd (.cx o))],[]=>some (some (o.isSome=true),.x (.c (.pd (.bool (p8 o)))),[])
 | _,_=>none)
theorem C0:EntOk Tryz.prog qv:=entOk fun vs ck=>by
 unfold qv; dsimp only; split
 · rename_i o; exact entS fun hp=>AP o hp
 · exact entN
def xS:Cfg:=⟨a6,[qv]⟩
theorem Bg:ah Tryz.prog xS.tab:=(ah.cons C0 ah.nil)
theorem DG (a b:Int):ak Tryz.prog 56 [.i a,.i b] [] (.tup [.c (.pd (.cx (some (cX a b)))),.i (iX a b)]) []:=by
 refine dg aV Tryz.func56 (.ite (decide (a<(-1048576:Int))||decide (a>(1048576:Int))||decide (b<(-1048576:Int))||decide (b>(1048576:Int))) (.ret (.tup [.p (.cx (some (0,0))),.i 5]) []) (.ret (.tup [.p (.cx (some (FloatKind.nearest FloatKind.f64 a,FloatKind.nearest FloatKind.f64 b))),.i 0]) [])) fun Γ=>?_
 refine ⟨fun h=>⟨?_,rfl⟩,fun h=>⟨?_,rfl⟩⟩
 · have:(pIn a&&pIn b)=false:=by
    simp only [aA,decide_eq_true_eq] at h
    simp only [pIn,c8,decide_eq_false_iff_not]; omega
   simp [cX,iX,this]
 · have:(pIn a&&pIn b)=true:=by
    simp only [aq,decide_eq_false_iff_not] at h
    simp only [pIn,af,decide_eq_true_eq]; omega
   simp [cX,iX,this,num]
def sB:Ent:=(56,fun
 | [.c (.pd (.int .i64 a)),.c (.pd (.int .i64 b))],[]=>some (none,.tup [.c (.pd (.cx (some (cX a b)))),.c (.pd (.int .i64 (iX a b)))],[])
 | _,_=>none)
theorem FS:EntOk Tryz.prog sB:=entOk fun vs ck=>by
 unfold sB; dsimp only; split
 · rename_i a b; exact entS fun hp=>DG a b
 · exact entN
theorem Bb (p:Nat×Nat):ak Tryz.prog 81 [.c (.pd (.cx (some p)))] [] (.tup [.i (dG p),.i (dK p),.i (ke p)]) []:=by
 refine dg Bg Tryz.func81 (.need (Option.isSome (some p)=true) (.ite (!p8 (some p)) (.ret (.tup [.i 0,.i 0,.i 12]) []) (.need (kg .i64 (Prod.fst p)) (.need (kg .i64 (Prod.snd p)) (.ret (.tup [.i (fV (Prod.fst p)),.i (fV (Prod.snd p)),.i 0]) []))))) fun Γ=>?_
 refine ⟨rfl,fun h=>?_,fun h=>?_⟩
 · have h':ez p=false:=by simpa [p8] using h
   refine ⟨?_,rfl⟩; simp [dG,dK,ke,h']
 · have h':ez p=true:=by simpa [p8] using h
   obtain ⟨h1,h2⟩:=xA h'
   refine ⟨h1,h2,?_,rfl⟩; simp [dG,dK,ke,h']
def mS:Ent:=(81,fun
 | [.c (.pd (.cx (some p)))],[]=>some (none,.tup [.c (.pd (.int .i64 (dG p))),.c (.pd (.int .i64 (dK p))),.c (.pd (.int .i64 (ke p)))],[])
 | _,_=>none)
theorem ph:EntOk Tryz.prog mS:=entOk fun vs ck=>by
 unfold mS; dsimp only; split
 · rename_i p; exact entS fun hp=>Bb p
 · exact entN
end Go.Proofs.YtpfidgnkokidoaaGreatDoor
namespace Go.Proofs.YtpfidgnkokidoaaGreatDoor
open Go Go.Ev
set_option maxRecDepth 100000
/-! ### the program's -/
abbrev zJ80Xd:=J Tryz.prog 80 (az Tryz.f80)
theorem IG {p:Nat×Nat} : -1048576≤dG p∧dG p≤1048576:=by
 unfold dG; split
 · rename_i h; exact eO (sU h).2.2.1
 · omega
theorem IW {p:Nat×Nat} : -1048576≤dK p∧dK p≤1048576:=by
 unfold dK; split
 · rename_i h; exact eO (sU h).2.2.2
 · omega
def Hu:Cfg:=⟨a6,[mS,eFi]⟩
theorem Ga:ah Tryz.prog Hu.tab:=(ah.cons ph (ah.cons Ng ah.nil))
theorem HR (p:Nat×Nat) (h:ez p=true):ak Tryz.prog 57 [.c (.pd (.cx (some p)))] [] (.tup [.s (gB (dG p) (dK p)),.i 0]) []:=by
 refine dg Ga Tryz.func57 (let x1:=((-9223372036854775808:Int)≤dG p∧dG p≤(9223372036854775807:Int)); let x2:=((-9223372036854775808:Int)≤dK p∧dK p≤(9223372036854775807:Int)); .ite (ke p != (0:Int)) (.ret (.tup [.p (.str []),.i (ke p)]) []) (.ite (decide (dK p<(0:Int))) (.need x1 (.need ((Lib.itoa (dG p)).length+0≤9223372036854775807) (.need x2 (.need ((Lib.itoa (dG p)++[]).length+(Lib.itoa (dK p)).length≤9223372036854775807) (.need ((Lib.itoa (dG p)++[]++Lib.itoa (dK p)).length+1≤9223372036854775807) (.ret (.tup [.p (.str (Lib.itoa (dG p)++[]++Lib.itoa (dK p)++[(105:UInt8)])),.i 0]) [])))))) (.need x1 (.need ((Lib.itoa (dG p)).length+1≤9223372036854775807) (.need x2 (.need ((Lib.itoa (dG p)++[(43:UInt8)]).length+(Lib.itoa (dK p)).length≤9223372036854775807) (.need ((Lib.itoa (dG p)++[(43:UInt8)]++Lib.itoa (dK p)).length+1≤9223372036854775807) (.ret (.tup [.p (.str (Lib.itoa (dG p)++[(43:UInt8)]++Lib.itoa (dK p)++[(105:UInt8)])),.i 0]) [])))))))) fun Γ=>?_
 conv=>zeta
 have hA:=IG (p:=p)
 have hB:=IW (p:=p)
 have hE:ke p=0:=by unfold ke; rw [if_pos h]
 have pa:pIn (dG p)=true:=by simp only [pIn,af,decide_eq_true_eq]; exact hA
 have pb:pIn (dK p)=true:=by simp only [pIn,af,decide_eq_true_eq]; exact hB
 have lA:=(kJ pa).1
 have lB:=(kJ pb).1
 rw [hE]
 refine ⟨fun h=>Bool.noConfusion h,fun _=>⟨fun h=>?_,fun h=>?_⟩⟩
 · have h':=of_decide_eq_true h
   refine ⟨⟨by omega,by omega⟩,by omega,⟨by omega,by omega⟩,by simp only [aj,al]; omega,by simp only [aj,al]; omega,?_,rfl⟩
   unfold gB; rw [if_pos h']
 · have h':=of_decide_eq_false h
   refine ⟨⟨by omega,by omega⟩,by omega,⟨by omega,by omega⟩,by simp only [aj,ai,al]; omega,by simp only [aj,ai,al]; omega,?_,rfl⟩
   unfold gB; rw [if_neg h']
def Er:Ent:=(57,fun
 | [.c (.pd (.cx (some p)))],[]=>some (some (ez p=true),.tup [.c (.pd (.str (gB (dG p) (dK p)))),.c (.pd (.int .i64 0))],[])
 | _,_=>none)
theorem L2:EntOk Tryz.prog Er:=entOk fun vs ck=>by
 unfold Er; dsimp only; split
 · rename_i p; exact entS fun hp=>HR p hp
 · exact entN
def l8:Cfg:=⟨a6,[wS,po,td,sB,Er]⟩
theorem ja:ah Tryz.prog l8.tab:=(ah.cons I8 (ah.cons vY (ah.cons FW (ah.cons FS (ah.cons L2 ah.nil)))))
variable {a b:Int} (s:Str)
theorem kN (ha:pIn a=true) (hb:pIn b=true):ez (cX a b)=true∧dG (cX a b)=a∧dK (cX a b)=b∧ke (cX a b)=0:=by
 have h1:=eO ha; have h2:=eO hb
 have e:cX a b=(num a,num b):=by unfold cX; rw [ha,hb]; rfl
 have hp:=Mk (a:=a) (b:=b) (by omega) (by omega)
 have hr:ez (num a,num b)=true:=by rw [vq hp,ha,hb]; rfl
 rw [e]
 refine ⟨hr,?_,?_,?_⟩
 · unfold dG; rw [if_pos hr]; exact rF hp.1
 · unfold dK; rw [if_pos hr]; exact rF hp.2
 · unfold ke; rw [if_pos hr]
theorem vu (h:(pIn a&&pIn b)=false):cX a b=(0,0)∧iX a b=5:=by
 unfold cX iX; rw [h]; exact ⟨rfl,rfl⟩
theorem MF (ha:pIn a=true) (hb:pIn b=true):iX a b=0:=by unfold iX; rw [ha,hb]; rfl
def tS:Cfg:=⟨a6,[nn]⟩
theorem pY:ah Tryz.prog tS.tab:=(ah.cons ta ah.nil)
def tU:Cfg:=⟨a6,[mX]⟩
theorem oR:ah Tryz.prog tU.tab:=(ah.cons sI ah.nil)
theorem Dj:ez (0,0)=true:=by rw [vq (p:=(0,0)) ⟨Ad,Ad⟩]; decide
theorem Eo (a b:Int):ez (cX a b)=true:=by
 cases h:(pIn a&&pIn b)
 · rw [(vu h).1]; exact Dj
 · rw [af] at h; exact (kN h.1 h.2).1
def PrQ:Out:=fun v k=>(dr s→v = .tup [.c (.pd (.cx (some (cX (ptA s) (ptB s))))),.i 0])∧(¬dr s→v = .tup [.c (.pd (.cx (some (0,0)))),.i 1])∧k=[]
theorem PrQ.no {s:Str} (h:¬dr s):PrQ s (.tup [.c (.pd (.cx (some (0,0)))),.i 1]) []:=⟨fun h'=>absurd h' h,fun _=>rfl,rfl⟩
theorem PrQ.yes {s:Str} {a b:Int} (h:lv s (a,b)):PrQ s (.tup [.c (.pd (.cx (some (cX a b)))),.i 0]) []:=by
 have hr:dr s:=⟨(a,b),h⟩
 obtain ⟨g1,g2,g3⟩:=nQ hr
 obtain ⟨k1,k2,k3⟩:=h
 have:=vC g1 g2 k1 k2 (g3.trans k3.symm)
 have t1:ptA s=a:=this.1
 have t2:ptB s=b:=this.2
 exact ⟨fun _=>by rw [t1,t2],fun h'=>absurd hr h',rfl⟩
theorem FY {s:Str} {k:Int}:(aw s none (some k)).2=s.take k.toNat:=by simp [aw]
theorem nX {s:Str} {k:Int}:(aw s (some k) none).2=s.drop k.toNat:=by simp [aw]
abbrev zXd1:List PI:=[.ops [1,1,1,1,0] 6,.code [1,1,1,1,1]]
theorem BU (hs:s.length≤1000000) (ha:s.all (fun c=>decide (c.toNat<128))=true) (Γ:Ctx):zJ80Xd Γ (PrQ s) [.code []] (bX Tryz.f80.ntmps [.s s] []):=by
 refine jg ja Tryz.func80 (.need (s.length≤9223372036854775807∧(List.all s fun c=>decide (UInt8.toNat c<128))=true) (.ite (decide (aN s<(1:Int))||decide (ab s>(20:Int))) (.ret (.tup [.p (.cx (some (0,0))),.i 1]) []) (.need ((0:Int)≤aN s∧aN s≤(s.length:Int)) (.stop [.ops [1,1,1,0] 3,.code [1,1,1,1]] { n:=67,fr:=[(0,.p (.str s)),(2,.p (.cx (some (0,0)))),(3,.i 0),(4,.i (aN s)),(25,.p (.str ((aw s none (some (aN s))).2)))],ck:=[] })))) ?_
 have hL:ab s=(s.length:Int):=rfl
 have hb:=oM s s.length
 have hb1 : -1≤aN s∧aN s<s.length:=hb
 have facts:∀ a b:Int,lv s (a,b)→aN s=((Lib.itoa a).length:Int)∧s.length≤20∧0<(Lib.itoa a).length∧(aw s none (some (aN s))).2=Lib.itoa a∧(Lib.trimPrefix (Lib.trimSuffix (Prod.snd (aw s (some (aN s)) none)) [(105:UInt8)]) [(43:UInt8)])=Lib.itoa b:=fun a b h=>by
  obtain ⟨f1,f2,f3,f4,f5⟩:=mE h
  refine ⟨f1,f2,f3,?_,?_⟩
  · rw [FY,f1,aI]; exact f4
  · rw [nX,f1,aI]; exact f5
 refine ⟨⟨by omega,ha⟩,fun h=>PrQ.no ?_,fun h=>⟨?_,?_⟩⟩
 · rintro ⟨⟨a,b⟩,hp⟩
   obtain ⟨f1,f2,f3,_⟩:=facts a b hp
   rw [aA] at h
   rcases h with h | h
   · have:=of_decide_eq_true h; omega
   · have:=of_decide_eq_true h; omega
 · rw [aq] at h
   have:=of_decide_eq_false h.1
   omega
 · rw [aq] at h
   have hk1:=of_decide_eq_false h.1
   have hk2:=of_decide_eq_false h.2
   have lX:(aw s none (some (aN s))).2.length≤281474976710656:=by rw [FY,bo]; omega
   have lY:(Lib.trimPrefix (Lib.trimSuffix (Prod.snd (aw s (some (aN s)) none)) [(105:UInt8)]) [(43:UInt8)]).length≤281474976710656:=by
    have h1:∀ (a p:Str),(Lib.trimPrefix a p).length≤a.length:=fun a p=>by unfold Lib.trimPrefix; split; rw [aL]; omega; exact aD _
    have h2:∀ (a p:Str),(Lib.trimSuffix a p).length≤a.length:=fun a p=>by unfold Lib.trimSuffix; split; rw [bo]; omega; exact aD _
    have h3:=h1 (Lib.trimSuffix (Prod.snd (aw s (some (aN s)) none)) [(105:UInt8)]) [(43:UInt8)]
    have h4:=h2 (Prod.snd (aw s (some (aN s)) none)) [(105:UInt8)]
    have h5:(Prod.snd (aw s (some (aN s)) none)).length≤s.length:=by rw [nX,aL]; omega
    omega
   have ld:(Prod.snd (aw s (some (aN s)) none)).length≤9223372036854775807:=by rw [nX,aL]; omega
   have pokX:dz (aw s none (some (aN s))).2=false→¬dr s:=fun hp=>by
    rintro ⟨⟨a,b⟩,q⟩
    obtain ⟨_,_,_,f4,_⟩:=facts a b q
    rw [f4,(gl (n:=a) (by have:=eO q.1; omega) (by have:=eO q.1; omega)).1] at hp; cases hp
   have pokY:dz (Lib.trimPrefix (Lib.trimSuffix (Prod.snd (aw s (some (aN s)) none)) [(105:UInt8)]) [(43:UInt8)])=false→¬dr s:=fun hp=>by
    rintro ⟨⟨a,b⟩,q⟩
    obtain ⟨_,_,_,_,f5⟩:=facts a b q
    rw [f5,(gl (n:=b) (by have:=eO q.2.1; omega) (by have:=eO q.2.1; omega)).1] at hp; cases hp
   cases hX:dz (aw s none (some (aN s))).2
   · have hno:=pokX hX
     have h0:zJ80Xd Γ (PrQ s) [.ops [1,1,1,0] 4,.code [1,1,1,1]] ({ n:=67,fr:=[(0,.p (.str s)),(2,.p (.cx (some (0,0)))),(3,.i 0),(4,.i (aN s)),(25,.p (.str ((aw s none (some (aN s))).2))),(26,.tup [.i (aZ (aw s none (some (aN s))).2),.c (.pd .err)])],ck:=[] }):=by
      refine jg ja Tryz.func80 (.need ((0:Int)≤aN s∧aN s≤(s.length:Int)) (.need (((aw s (some (aN s)) none).2).length≤9223372036854775807) (.stop [.ops [1,1,1,1,0] 5,.code [1,1,1,1,1]] { n:=67,fr:=[(0,.p (.str s)),(2,.p (.cx (some (0,0)))),(3,.i 0),(5,.i (aZ ((aw s none (some (aN s))).2))),(6,.x (.c (.pd .err))),(34,.p (.str (Lib.trimPrefix (Lib.trimSuffix ((aw s (some (aN s)) none).2) [(105:UInt8)]) [(43:UInt8)])))],ck:=[] }))) ?_
      refine ⟨⟨by omega,by omega⟩,ld,?_⟩
      cases hY:dz (Lib.trimPrefix (Lib.trimSuffix (Prod.snd (aw s (some (aN s)) none)) [(105:UInt8)]) [(43:UInt8)])
      · have hz:zJ80Xd Γ (PrQ s) zXd1 ({ n:=67,fr:=[(0,.p (.str s)),(2,.p (.cx (some (0,0)))),(3,.i 0),(5,.i (aZ ((aw s none (some (aN s))).2))),(6,.x (.c (.pd .err))),(34,.p (.str (Lib.trimPrefix (Lib.trimSuffix ((aw s (some (aN s)) none).2) [(105:UInt8)]) [(43:UInt8)]))),(35,.tup [.i (aZ (Lib.trimPrefix (Lib.trimSuffix ((aw s (some (aN s)) none).2) [(105:UInt8)]) [(43:UInt8)])),.c (.pd .err)])],ck:=[] }):=by
         refine jg ja Tryz.func80 (let x3:=(aZ ((aw s none (some (aN s))).2)); let x2:=(aZ (Lib.trimPrefix (Lib.trimSuffix ((aw s (some (aN s)) none).2) [(105:UInt8)]) [(43:UInt8)])); let x1:=(cX x3 x2); let x4:Tree:=(.ret (.tup [.p (.cx (some (0,0))),.i 1]) []); .ite true x4 (.need (ez x1=true) (.ite (iX x3 x2 != (0:Int)||(0:Int) != 0 || !gB (dG x1) (dK x1)==s) x4 (.ret (.tup [.p (.cx (some x1)),.i 0]) [])))) ?_
         conv=>zeta
         exact ⟨fun _=>PrQ.no hno,fun x=>Bool.noConfusion x⟩
        exact J.step (cfg:=tU) oR (q:=some (_∧_)) (by kernel_rfl) ⟨lY,hY⟩ hz
      · have hz:zJ80Xd Γ (PrQ s) zXd1 ({ n:=67,fr:=[(0,.p (.str s)),(2,.p (.cx (some (0,0)))),(3,.i 0),(5,.i (aZ ((aw s none (some (aN s))).2))),(6,.x (.c (.pd .err))),(34,.p (.str (Lib.trimPrefix (Lib.trimSuffix ((aw s (some (aN s)) none).2) [(105:UInt8)]) [(43:UInt8)]))),(35,.tup [.i (aZ (Lib.trimPrefix (Lib.trimSuffix ((aw s (some (aN s)) none).2) [(105:UInt8)]) [(43:UInt8)])),.p (.v Value.nilIface)])],ck:=[] }):=by
         refine jg ja Tryz.func80 (let x3:=(aZ ((aw s none (some (aN s))).2)); let x2:=(aZ (Lib.trimPrefix (Lib.trimSuffix ((aw s (some (aN s)) none).2) [(105:UInt8)]) [(43:UInt8)])); let x1:=(cX x3 x2); let x4:Tree:=(.ret (.tup [.p (.cx (some (0,0))),.i 1]) []); .ite true x4 (.need (ez x1=true) (.ite (iX x3 x2 != (0:Int)||(0:Int) != 0 || !gB (dG x1) (dK x1)==s) x4 (.ret (.tup [.p (.cx (some x1)),.i 0]) [])))) ?_
         conv=>zeta
         exact ⟨fun _=>PrQ.no hno,fun x=>Bool.noConfusion x⟩
        exact J.step (cfg:=tS) pY (q:=some (_∧_)) (by kernel_rfl) ⟨lY,hY⟩ hz
     exact J.step (cfg:=tU) oR (q:=some (_∧_)) (by kernel_rfl) ⟨lX,hX⟩ h0
   · have h0 : zJ80Xd Γ (PrQ s) [.ops [1,1,1,0] 4,.code [1,1,1,1]] ({ n:=67,fr:=[(0,.p (.str s)),(2,.p (.cx (some (0,0)))),(3,.i 0),(4,.i (aN s)),(25,.p (.str ((aw s none (some (aN s))).2))),(26,.tup [.i (aZ (aw s none (some (aN s))).2),.p (.v Value.nilIface)])],ck:=[] }):=by
      refine jg ja Tryz.func80 (.need ((0:Int)≤aN s∧aN s≤(s.length:Int)) (.need (((aw s (some (aN s)) none).2).length≤9223372036854775807) (.stop [.ops [1,1,1,1,0] 5,.code [1,1,1,1,1]] { n:=67,fr:=[(0,.p (.str s)),(2,.p (.cx (some (0,0)))),(3,.i 0),(5,.i (aZ ((aw s none (some (aN s))).2))),(6,.p (.v Value.nilIface)),(34,.p (.str (Lib.trimPrefix (Lib.trimSuffix ((aw s (some (aN s)) none).2) [(105:UInt8)]) [(43:UInt8)])))],ck:=[] }))) ?_
      refine ⟨⟨by omega,by omega⟩,ld,?_⟩
      cases hY:dz (Lib.trimPrefix (Lib.trimSuffix (Prod.snd (aw s (some (aN s)) none)) [(105:UInt8)]) [(43:UInt8)])
      · have hno:=pokY hY
        have hz:zJ80Xd Γ (PrQ s) zXd1 ({ n:=67,fr:=[(0,.p (.str s)),(2,.p (.cx (some (0,0)))),(3,.i 0),(5,.i (aZ ((aw s none (some (aN s))).2))),(6,.p (.v Value.nilIface)),(34,.p (.str (Lib.trimPrefix (Lib.trimSuffix ((aw s (some (aN s)) none).2) [(105:UInt8)]) [(43:UInt8)]))),(35,.tup [.i (aZ (Lib.trimPrefix (Lib.trimSuffix ((aw s (some (aN s)) none).2) [(105:UInt8)]) [(43:UInt8)])),.c (.pd .err)])],ck:=[] }):=by
         refine jg ja Tryz.func80 (let x3:=(aZ ((aw s none (some (aN s))).2)); let x2:=(aZ (Lib.trimPrefix (Lib.trimSuffix ((aw s (some (aN s)) none).2) [(105:UInt8)]) [(43:UInt8)])); let x1:=(cX x3 x2); let x4:Tree:=(.ret (.tup [.p (.cx (some (0,0))),.i 1]) []); .ite true x4 (.need (ez x1=true) (.ite (iX x3 x2 != (0:Int)||(0:Int) != 0 || !gB (dG x1) (dK x1)==s) x4 (.ret (.tup [.p (.cx (some x1)),.i 0]) [])))) ?_
         conv=>zeta
         exact ⟨fun _=>PrQ.no hno,fun x=>Bool.noConfusion x⟩
        exact J.step (cfg:=tU) oR (q:=some (_∧_)) (by kernel_rfl) ⟨lY,hY⟩ hz
      · have hz:zJ80Xd Γ (PrQ s) zXd1 ({ n:=67,fr:=[(0,.p (.str s)),(2,.p (.cx (some (0,0)))),(3,.i 0),(5,.i (aZ ((aw s none (some (aN s))).2))),(6,.p (.v Value.nilIface)),(34,.p (.str (Lib.trimPrefix (Lib.trimSuffix ((aw s (some (aN s)) none).2) [(105:UInt8)]) [(43:UInt8)]))),(35,.tup [.i (aZ (Lib.trimPrefix (Lib.trimSuffix ((aw s (some (aN s)) none).2) [(105:UInt8)]) [(43:UInt8)])),.p (.v Value.nilIface)])],ck:=[] }):=by
         refine jg ja Tryz.func80 (let x3:=(aZ ((aw s none (some (aN s))).2)); let x2:=(aZ (Lib.trimPrefix (Lib.trimSuffix ((aw s (some (aN s)) none).2) [(105:UInt8)]) [(43:UInt8)])); let x1:=(cX x3 x2); let x4:Tree:=(.ret (.tup [.p (.cx (some (0,0))),.i 1]) []); .ite false x4 (.need (ez x1=true) (.ite (iX x3 x2 != (0:Int)||(0:Int) != 0 || !gB (dG x1) (dK x1)==s) x4 (.ret (.tup [.p (.cx (some x1)),.i 0]) [])))) ?_
         conv=>zeta
         have of_pt:∀ a b:Int,lv s (a,b)→aZ (aw s none (some (aN s))).2=a∧aZ (Lib.trimPrefix (Lib.trimSuffix (Prod.snd (aw s (some (aN s)) none)) [(105:UInt8)]) [(43:UInt8)])=b:=fun a b q=>by
          obtain ⟨_,_,_,f4,f5⟩:=facts a b q
          rw [f4,f5]
          exact ⟨(gl (n:=a) (by have:=eO q.1; omega) (by have:=eO q.1; omega)).2,(gl (n:=b) (by have:=eO q.2.1; omega) (by have:=eO q.2.1; omega)).2⟩
         generalize aZ (aw s none (some (aN s))).2=a at of_pt ⊢
         generalize aZ (Lib.trimPrefix (Lib.trimSuffix (Prod.snd (aw s (some (aN s)) none)) [(105:UInt8)]) [(43:UInt8)])=b at of_pt ⊢
         refine ⟨fun x=>Bool.noConfusion x,fun _=>⟨Eo a b,fun hb=>PrQ.no ?_,fun hb=>PrQ.yes ?_⟩⟩
         · rintro ⟨⟨x,y⟩,q⟩
           obtain ⟨rfl,rfl⟩:=of_pt x y q
           obtain ⟨m1,m2,m3,m4⟩:=kN q.1 q.2.1
           rw [MF q.1 q.2.1,m2,m3] at hb
           have e:gB a b=s:=q.2.2
           rw [e] at hb
           simp at hb
         · simp only [aq,bne_eq_false_iff_eq,ct] at hb
           cases hin:(pIn a&&pIn b)
           · rw [(vu hin).2] at hb; exact absurd hb.1.1 (by decide)
           · rw [af] at hin
             obtain ⟨m1,m2,m3,m4⟩:=kN hin.1 hin.2
             rw [m2,m3] at hb
             exact ⟨hin.1,hin.2,eq_of_beq hb.2⟩
        exact J.step (cfg:=tS) pY (q:=some (_∧_)) (by kernel_rfl) ⟨lY,hY⟩ hz
     exact J.step (cfg:=tS) pY (q:=some (_∧_)) (by kernel_rfl) ⟨lX,hX⟩ h0
theorem IC (hs:s.length≤1000000) (ha:s.all (fun c=>decide (c.toNat<128))=true) (h:dr s):ak Tryz.prog 80 [.s s] [] (.tup [.c (.pd (.cx (some (cX (ptA s) (ptB s))))),.i 0]) [] :=
 ak.of Tryz.func80 (by kernel_rfl) (by kernel_rfl) fun Γ=>J.mono (fun v k q=>⟨q.1 h,q.2.2⟩) (BU s hs ha Γ)
theorem HN (hs:s.length≤1000000) (ha:s.all (fun c=>decide (c.toNat<128))=true) (h:¬dr s):ak Tryz.prog 80 [.s s] [] (.tup [.c (.pd (.cx (some (0,0)))),.i 1]) [] :=
 ak.of Tryz.func80 (by kernel_rfl) (by kernel_rfl) fun Γ=>J.mono (fun v k q=>⟨q.2.1 h,q.2.2⟩) (BU s hs ha Γ)
noncomputable def xm:Ent:=(80,fun
 | [.c (.pd (.str s))],[]=>some (some (s.length≤1000000∧s.all (fun c=>decide (c.toNat<128))=true∧dr s),.tup [.c (.pd (.cx (some (cX (ptA s) (ptB s))))),.c (.pd (.int .i64 0))],[])
 | _,_=>none)
theorem IT:EntOk Tryz.prog xm:=entOk fun vs ck=>by
 unfold xm; dsimp only; split
 · rename_i s; exact entS fun hp=>IC s hp.1 hp.2.1 hp.2.2
 · exact entN
noncomputable def wU:Ent:=(80,fun
 | [.c (.pd (.str s))],[]=>some (some (s.length≤1000000∧s.all (fun c=>decide (c.toNat<128))=true∧¬dr s),.tup [.c (.pd (.cx (some (0,0)))),.c (.pd (.int .i64 1))],[])
 | _,_=>none)
theorem Jw:EntOk Tryz.prog wU:=entOk fun vs ck=>by
 unfold wU; dsimp only; split
 · rename_i s; exact entS fun hp=>HN s hp.1 hp.2.1 hp.2.2
 · exact entN
end Go.Proofs.YtpfidgnkokidoaaGreatDoor
namespace Go.Proofs.YtpfidgnkokidoaaGreatDoor
open Go Go.Ev
set_option maxRecDepth 100000
noncomputable def Fk:Cfg:=⟨a6,[nU,xm,mS,um]⟩
theorem G3:ah Tryz.prog Fk.tab:=(ah.cons nL (ah.cons IT (ah.cons ph (ah.cons ug ah.nil))))
noncomputable def FK:Cfg:=⟨a6,[nU,wU,mS,um]⟩
theorem EZ:ah Tryz.prog FK.tab:=(ah.cons nL (ah.cons Jw (ah.cons ph (ah.cons ug ah.nil))))
abbrev zWq1 (a:Chart) (b:Int):List Chunk:=[.cells [.pd (.str a.name),.own 1,.own 2,.own 3,.own 4,.i b] 45,.own 9 .str a.events,.own 61 .var a.vars,.own 64 .stat a.states,.own 68 .tran a.trans]
variable (c:Chart) (d:Int) (w:List Str)
theorem Kx (hf:Fit c 6001) (hw:okW w) (Γ:Ctx):J Tryz.prog 37 (az Tryz.f37) Γ (bN (gd c d w) d) [.code []] (bX Tryz.f37.ntmps [.c (.loc 0 0),.l .str w] (rdK c d)):=by
 have he:=hf.vars
 have e3:ETy.get .str w 3=ag w 3:=rfl
 by_cases hr:dr (ag w 3)
 · refine jg G3 Tryz.func37 (let x2:=((aw w (some (1:Int)) none).2); let x3:=(cX (ptA (ETy.get .str w 3)) (ptB (ETy.get .str w 3))); let x1:Var:={ name:=ETy.get .str w 0,kind:=(3:Int),lo:=(aQ (ag x2 0)).1,hi:=(aQ (ag x2 1)).1,init:={ kind:=(3:Int),a:=dG x3,b:=dK x3 } }; .need ((1:Int)≤4) (.ite (!de c d w (4:Int)) (.ret (.p (.bool false)) (zWq1 c d)) (.need (inRg 0 w.length) (.need (inRg 3 w.length) (.need ((ETy.get .str w 3).length≤1000000∧(List.all (ETy.get .str w 3) fun c=>decide (UInt8.toNat c<128))=true∧dr (ETy.get .str w 3)) (.need ((0:Int)≤1∧(1:Int)≤(w.length:Int)) (.need (2≤x2.length∧okW x2) (.need (room (List.length (c.vars++[x1])) 64) (.ret (.p (.bool ((aQ (ag x2 0)).2==(0:Int)&&(aQ (ag x2 1)).2==(0:Int)&&(0:Int)==0))) [.cells [.pd (.str c.name),.own 1,.own 5,.own 3,.own 4,.i d] 45,.own 9 .str c.events,.dead,.own 64 .stat c.states,.own 68 .tran c.trans,.own 61 .var (c.vars++[x1])]))))))))) ?_
   conv=>zeta
   refine ⟨by omega,fun h=>?_,fun h=>?_⟩
   · refine bN.no (gY ?_)
     rintro ⟨g,_⟩
     rw [show de c d w 4=true from g] at h; cases h
   · have g:de c d w 4=true:=nf h
     obtain ⟨_,_,hn,_⟩:=jL (n:=4) g
     obtain ⟨l3,a3⟩:=hw.at (k:=3) (by omega)
     obtain ⟨q1,q2,q3⟩:=nQ hr
     obtain ⟨_,m2,m3,_⟩:=kN q1 q2
     have m2':dG (cX (ptA (ag w 3)) (ptB (ag w 3)))=ptA (ag w 3):=m2
     have m3':dK (cX (ptA (ag w 3)) (ptB (ag w 3)))=ptB (ag w 3):=m3
     rw [iM,cF,cF,e3,m2',m3']
     refine ⟨⟨by omega,by omega⟩,⟨by omega,by omega⟩,⟨by omega,a3,hr⟩,⟨by omega,by omega⟩,⟨by rw [aL]; omega,hw.drop 1⟩,gV (by simp only [aj,ai,al]; omega),?_⟩
     rw [lN]
     by_cases hk:(aQ (ag w 1)).2=0∧(aQ (ag w 2)).2=0∧(0:Int)=0
     · rw [decide_eq_true hk]
       exact bN.yes (if_pos ⟨g,hk.1,hk.2.1,hr⟩) (IsR.of2 rfl)
     · rw [decide_eq_false hk]
       exact bN.no (gY fun x=>hk ⟨x.2.1,x.2.2.1,rfl⟩)
 · have hno:gd c d w=none:=gY fun x=>hr x.2.2.2
   refine jg EZ Tryz.func37 (let x2:=((aw w (some (1:Int)) none).2); let x1:Var:={ name:=ETy.get .str w 0,kind:=(3:Int),lo:=(aQ (ag x2 0)).1,hi:=(aQ (ag x2 1)).1,init:={ kind:=(3:Int),a:=dG (0,0),b:=dK (0,0) } }; .need ((1:Int)≤4) (.ite (!de c d w (4:Int)) (.ret (.p (.bool false)) (zWq1 c d)) (.need (inRg 0 w.length) (.need (inRg 3 w.length) (.need ((ETy.get .str w 3).length≤1000000∧(List.all (ETy.get .str w 3) fun c=>decide (UInt8.toNat c<128))=true∧¬dr (ETy.get .str w 3)) (.need ((0:Int)≤1∧(1:Int)≤(w.length:Int)) (.need (2≤x2.length∧okW x2) (.need (room (List.length (c.vars++[x1])) 64) (.ret (.p (.bool ((aQ (ag x2 0)).2==(0:Int)&&(aQ (ag x2 1)).2==(0:Int)&&(1:Int)==0))) [.cells [.pd (.str c.name),.own 1,.own 5,.own 3,.own 4,.i d] 45,.own 9 .str c.events,.dead,.own 64 .stat c.states,.own 68 .tran c.trans,.own 61 .var (c.vars++[x1])]))))))))) ?_
   conv=>zeta
   refine ⟨by omega,fun h=>bN.no hno,fun h=>?_⟩
   have g:de c d w 4=true:=nf h
   obtain ⟨_,_,hn,_⟩:=jL (n:=4) g
   obtain ⟨l3,a3⟩:=hw.at (k:=3) (by omega)
   refine ⟨⟨by omega,by omega⟩,⟨by omega,by omega⟩,⟨by rw [e3]; omega,a3,hr⟩,⟨by omega,by omega⟩,⟨by rw [iM,aL]; omega,by rw [iM]; exact hw.drop 1⟩,gV (by simp only [aj,ai,al]; omega),?_⟩
   have e1:((1:Int)==0)=false:=by decide
   rw [e1,bu]
   exact bN.no hno
theorem MY (hf:Fit c 6001) (hw:okW w) (h:(gd c d w).isSome=true):ak Tryz.prog 37 [.c (.loc 0 0),.l .str w] (rdK c d) (.x (.b true)) (ckR (got (gd c d w)) d) :=
 step_ok Tryz.func37 (by kernel_rfl) (by kernel_rfl) rfl (Kx c d w hf hw) h
theorem M8 (hf:Fit c 6001) (hw:okW w) (h:(gd c d w).isSome=false):ak Tryz.prog 37 [.c (.loc 0 0),.l .str w] (rdK c d) (.x (.b false)) [.dead,.dead,.dead,.dead,.dead] :=
 jW Tryz.func37 (by kernel_rfl) (by kernel_rfl) (Kx c d w hf hw) h
end Go.Proofs.YtpfidgnkokidoaaGreatDoor
namespace Go.Proofs.YtpfidgnkokidoaaGreatDoor
open Go Go.Ev
set_option maxRecDepth 100000
def cV:List (Str×Nat):=[([101,118,101,110,116],34),([105,110,116],35),([98,111,111,108],36),([112,111,105,110,116],37),([98,97,115,105,99],38),([98,111,116,104],39),([102,105,110,97,108],40),([111,110,101],41),([115,104,97,108,108,111,119],42),([100,101,101,112],43),([101,110,116,114,121],44),([101,120,105,116],45),([111,110],46)]
theorem Ef:ak Tryz.prog 16 [] [] (.x (.p (.tbl cV))) []:=by
 refine dg aV Tryz.func16 (.stop [.ops [1,0] 0,.code [1,1]] { n:=3,fr:=[(0,.p (.v (Value.map none)))],ck:=[] }) fun Γ=>?_
 refine J.makeTbl (d:=1) (n:=13) (l:=cV.map fun p=>(bs p.1,p.2)) (by kernel_rfl) ?_
 have e:keyed (cV.map fun p=>(bs p.1,p.2))=cV:=by decide
 rw [e]
 refine jg aV Tryz.func16 (.ret (.p (PD.tbl [([(101:UInt8),118,101,110,116],34),([(105:UInt8),110,116],35),([(98:UInt8),111,111,108],36),([(112:UInt8),111,105,110,116],37),([(98:UInt8),97,115,105,99],38),([(98:UInt8),111,116,104],39),([(102:UInt8),105,110,97,108],40),([(111:UInt8),110,101],41),([(115:UInt8),104,97,108,108,111,119],42),([(100:UInt8),101,101,112],43),([(101:UInt8),110,116,114,121],44),([(101:UInt8),120,105,116],45),([(111:UInt8),110],46)])) []) ?_
 exact ⟨rfl,rfl⟩
def sP:Ent:=(16,fun
 | [],[]=>some (none,.x (.c (.pd (.tbl cV))),[])
 | _,_=>none)
theorem Hj:EntOk Tryz.prog sP:=entOk fun vs ck=>by
 unfold sP; dsimp only; split
 · exact entS fun hp=>Ef
 · exact entN
end Go.Proofs.YtpfidgnkokidoaaGreatDoor

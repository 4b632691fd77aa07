/- The library's contracts of the shelf, laid at this dump by the kit's tools. Conditions: each one's own. The library's contracts of the shelf, laid at this dump by the kit's tools. Conditions: each one's own. Contracts: strings.TrimPrefix, TrimSuffix, Split at line feeds, Repeat. Conditions: texts that are not too long; the library's variable. Contracts of the program's functions on points: made, parted. Conditions: none. -/
import Derived.Shelf.Lays
import Derived.Shelf.Strings.Repeat
import Derived.Test.YtpfidgnkokidoaaGreatDoorProg
import Derived.Shelf.Strings.Prefix
import Derived.Test.YtpfidgnkokidoaaGreatDoorShelfi
import Derived.Test.YtpfidgnkokidoaaGreatDoorShelfb
import Derived.Test.YtpfidgnkokidoaaGreatDoorDa
import Derived.Test.YtpfidgnkokidoaaGreatDoorId
namespace Go.Proofs
open Go.Shelf
def Tryz.lays105_ren:Go.Shelf.Ren:=⟨fun | 105=>58 | 212=>98 | 99=>99 | 165=>100 | 166=>26 | 170=>29 | 169=>30 | 263=>133 | 264=>134 | 206=>135 | 240=>54 | 241=>136 | 276=>96 | 277=>176 | n=>n,fun | 9=>9 | 3=>3 | 4=>4 | 20=>20 | 0=>0 | 46=>145 | 109=>146 | 5=>5 | 72=>73 | 76=>76 | 51=>179 | 146=>180 | 53=>182 | 148=>183 | 70=>70 | 37=>71 | 75=>75 | 127=>103 | 164=>141 | 80=>81 | n=>n,fun | n=>n⟩
theorem Tryz.lays105:Go.Proofs.Lays.n105 Tryz.prog Tryz.lays105_ren:={
 mixed:=by kernel_rfl
 f99:=Tryz.func99.trans (congrArg some (by kernel_rfl))
 f105:=Tryz.func58.trans (congrArg some (by kernel_rfl))
 f165:=Tryz.func100.trans (congrArg some (by kernel_rfl))
 f166:=Tryz.func26.trans (congrArg some (by kernel_rfl))
 f169:=Tryz.func30.trans (congrArg some (by kernel_rfl))
 f170:=Tryz.func29.trans (congrArg some (by kernel_rfl))
 f206:=Tryz.func135.trans (congrArg some (by kernel_rfl))
 f212:=Tryz.func98.trans (congrArg some (by kernel_rfl))
 f240:=Tryz.func54.trans (congrArg some (by kernel_rfl))
 f241:=Tryz.func136.trans (congrArg some (by kernel_rfl))
 f263:=Tryz.func133.trans (congrArg some (by kernel_rfl))
 f264:=Tryz.func134.trans (congrArg some (by kernel_rfl))
 f276:=Tryz.func96.trans (congrArg some (by kernel_rfl))
 f277:=Tryz.func176.trans (congrArg some (by kernel_rfl))
 t0:=Tryz.underlying0
 a0:=Tryz.isAgg0
 z0:=Tryz.sizeOf0
 v0:=Tryz.zeroValue0
 t3:=Tryz.underlying3
 a3:=Tryz.isAgg3
 z3:=Tryz.sizeOf3
 v3:=Tryz.zeroValue3
 t4:=Tryz.underlying4
 a4:=Tryz.isAgg4
 z4:=Tryz.sizeOf4
 v4:=Tryz.zeroValue4
 t5:=Tryz.underlying5
 a5:=Tryz.isAgg5
 z5:=Tryz.sizeOf5
 v5:=Tryz.zeroValue5
 t9:=Tryz.underlying9
 a9:=Tryz.isAgg9
 z9:=Tryz.sizeOf9
 v9:=Tryz.zeroValue9
 t20:=Tryz.underlying20
 a20:=Tryz.isAgg20
 z20:=Tryz.sizeOf20
 v20:=Tryz.zeroValue20
 t37:=Tryz.underlying71
 a37:=Tryz.isAgg71
 z37:=Tryz.sizeOf71
 v37:=Tryz.zeroValue71
 t46:=Tryz.underlying145
 a46:=Tryz.isAgg145
 z46:=Tryz.sizeOf145
 v46:=Tryz.zeroValue145
 t51:=Tryz.underlying179
 a51:=Tryz.isAgg179
 z51:=Tryz.sizeOf179
 v51:=Tryz.zeroValue179
 t53:=Tryz.underlying182
 a53:=Tryz.isAgg182
 z53:=Tryz.sizeOf182
 v53:=Tryz.zeroValue182
 t70:=Tryz.underlying70
 a70:=Tryz.isAgg70
 z70:=Tryz.sizeOf70
 v70:=Tryz.zeroValue70
 t72:=Tryz.underlying73
 a72:=Tryz.isAgg73
 z72:=Tryz.sizeOf73
 v72:=Tryz.zeroValue73
 t75:=Tryz.underlying75
 a75:=Tryz.isAgg75
 z75:=Tryz.sizeOf75
 v75:=Tryz.zeroValue75
 t76:=Tryz.underlying76
 a76:=Tryz.isAgg76
 z76:=Tryz.sizeOf76
 v76:=Tryz.zeroValue76
 t109:=Tryz.underlying146
 a109:=Tryz.isAgg146
 z109:=Tryz.sizeOf146
 v109:=Tryz.zeroValue146
 t127:=Tryz.underlying103
 a127:=Tryz.isAgg103
 z127:=Tryz.sizeOf103
 v127:=Tryz.zeroValue103
 t146:=Tryz.underlying180
 a146:=Tryz.isAgg180
 z146:=Tryz.sizeOf180
 v146:=Tryz.zeroValue180
 t148:=Tryz.underlying183
 a148:=Tryz.isAgg183
 z148:=Tryz.sizeOf183
 v148:=Tryz.zeroValue183
 t164:=Tryz.underlying141
 a164:=Tryz.isAgg141
 z164:=Tryz.sizeOf141
 v164:=Tryz.zeroValue141 }
theorem Tryz.Builder_Extra_105:Builder.Extra Tryz.prog Tryz.lays105_ren:={
 sizeBuilder:=by kernel_rfl
 liesBuilder:=by kernel_rfl
 t5:=Tryz.underlying5
 a5:=Tryz.isAgg5
 z5:=Tryz.sizeOf5
 v5:=Tryz.zeroValue5
 infoByte:=by kernel_rfl
 cellsByte:=by kernel_rfl
 sizeByte:=by kernel_rfl
 neB5:=by decide }
open Go.RowKit Go.Lib in
theorem Tryz.strings_Repeat (s:ByteArray) (c:Nat) (w:World) (hc:c≤9223372036854775807) (hlen:s.size * c≤140737488355328) :
 Calls Tryz.prog 58 #[.string s,.int .i64 c] w fun e w'=>e = .returned (.string ⟨(Lib.repeatL s.data.toList c).toArray⟩)∧Below w.heap.size w w':=Any.strings_Repeat Tryz.lays105 Tryz.Builder_Extra_105 s c w hc hlen
def Tryz.lays101_ren:Go.Shelf.Ren:=⟨fun | 101=>118 | 208=>157 | 206=>135 | n=>n,fun | 9=>9 | 4=>4 | 3=>3 | n=>n,fun | n=>n⟩
theorem Tryz.lays101:Go.Proofs.Lays.n101 Tryz.prog Tryz.lays101_ren:={
 mixed:=by kernel_rfl
 f101:=Tryz.func118.trans (congrArg some (by kernel_rfl))
 f206:=Tryz.func135.trans (congrArg some (by kernel_rfl))
 f208:=Tryz.func157.trans (congrArg some (by kernel_rfl))
 t3:=Tryz.underlying3
 a3:=Tryz.isAgg3
 z3:=Tryz.sizeOf3
 v3:=Tryz.zeroValue3
 t4:=Tryz.underlying4
 a4:=Tryz.isAgg4
 z4:=Tryz.sizeOf4
 v4:=Tryz.zeroValue4
 t9:=Tryz.underlying9
 a9:=Tryz.isAgg9
 z9:=Tryz.sizeOf9
 v9:=Tryz.zeroValue9 }
def Tryz.lays102_ren:Go.Shelf.Ren:=⟨fun | 102=>18 | 209=>48 | 207=>91 | n=>n,fun | 9=>9 | 4=>4 | 3=>3 | n=>n,fun | n=>n⟩
theorem Tryz.lays102:Go.Proofs.Lays.n102 Tryz.prog Tryz.lays102_ren:={
 mixed:=by kernel_rfl
 f102:=Tryz.func18.trans (congrArg some (by kernel_rfl))
 f207:=Tryz.func91.trans (congrArg some (by kernel_rfl))
 f209:=Tryz.func48.trans (congrArg some (by kernel_rfl))
 t3:=Tryz.underlying3
 a3:=Tryz.isAgg3
 z3:=Tryz.sizeOf3
 v3:=Tryz.zeroValue3
 t4:=Tryz.underlying4
 a4:=Tryz.isAgg4
 z4:=Tryz.sizeOf4
 v4:=Tryz.zeroValue4
 t9:=Tryz.underlying9
 a9:=Tryz.isAgg9
 z9:=Tryz.sizeOf9
 v9:=Tryz.zeroValue9 }
open Go.RowKit Go.Lib in
theorem Tryz.strings_TrimPrefix (s p:ByteArray) (w:World) :
 Calls Tryz.prog 118 #[.string s,.string p] w fun e w'=>e = .returned (.string ⟨(Lib.trimPrefix s.data.toList p.data.toList).toArray⟩)∧w'=w:=Any.strings_TrimPrefix Tryz.lays101 s p w
open Go.RowKit Go.Lib in
theorem Tryz.strings_TrimSuffix (s p:ByteArray) (w:World) (hs:s.size≤9223372036854775807) :
 Calls Tryz.prog 18 #[.string s,.string p] w fun e w'=>e = .returned (.string ⟨(Lib.trimSuffix s.data.toList p.data.toList).toArray⟩)∧w'=w:=Any.strings_TrimSuffix Tryz.lays102 s p w hs
end Go.Proofs
namespace Go.Proofs.YtpfidgnkokidoaaGreatDoor
open Go Go.Ev Go.RowKit
set_option maxRecDepth 100000
variable (s:Str) (n:Int) (p:Str)
theorem xq:Lib.trimSuffix s [10]=jN s:=by
 have h:Lib.hasSuffix s [10]=uS s:=by
  rw [cM]
  unfold Lib.hasSuffix uS
  rw [List.isSuffixOf_iff_suffix,beq_iff_eq,List.getLast?_eq_some_iff]
  exact ⟨fun ⟨t,ht⟩=>⟨t,ht.symm⟩,fun ⟨t,ht⟩=>⟨t,ht.symm⟩⟩
 unfold Lib.trimSuffix jN
 rw [h]
 split
 · rw [List.dropLast_eq_take]; rfl
 · rfl
theorem uU (hs:s.length≤9223372036854775807):ak Tryz.prog 18 [.s s,.s p] [] (.x (.s (Lib.trimSuffix s p))) []:=by
 intro w V vs hw hT hv
 rw [mj hv]
 have hsz:(bs s).size=s.length:=eP s
 refine (Tryz.strings_TrimSuffix (bs s) (bs p) w (by omega)).mono fun e w' ⟨he,hw'⟩=>?_
 subst he; subst hw'
 refine ⟨_,V,rfl,?_,hw.kept ⟨rfl,rfl,rfl,aw _,fun _ _ _=>rfl⟩⟩
 rw [cE,cE]
 exact PR.str (Lib.trimSuffix s p)
def qG:Ent:=(18,fun
 | [.c (.pd (.str s)),.c (.pd (.str p))],[]=>some (some (s.length≤9223372036854775807),.x (.c (.pd (.str (Lib.trimSuffix s p)))),[])
 | _,_=>none)
theorem xf:EntOk Tryz.prog qG:=entOk fun vs ck=>by
 unfold qG; dsimp only; split
 · rename_i s p; exact entS fun hp=>uU s p hp
 · exact entN
theorem tK:ak Tryz.prog 118 [.s s,.s p] [] (.x (.s (Lib.trimPrefix s p))) []:=by
 intro w V vs hw hT hv
 rw [mj hv]
 refine (Tryz.strings_TrimPrefix (bs s) (bs p) w).mono fun e w' ⟨he,hw'⟩=>?_
 subst he; subst hw'
 refine ⟨_,V,rfl,?_,hw.kept ⟨rfl,rfl,rfl,aw _,fun _ _ _=>rfl⟩⟩
 rw [cE,cE]
 exact PR.str (Lib.trimPrefix s p)
def vi:Ent:=(118,fun
 | [.c (.pd (.str s)),.c (.pd (.str p))],[]=>some (none,.x (.c (.pd (.str (Lib.trimPrefix s p)))),[])
 | _,_=>none)
theorem H6:EntOk Tryz.prog vi:=entOk fun vs ck=>by
 unfold vi; dsimp only; split
 · rename_i s p; exact entS fun hp=>tK s p
 · exact entN
theorem Cn (hs:s.length<4294967281):ak Tryz.prog 17 [.s s,.s [10]] [] (.x (.c (.own 0))) [.own 9 .str (dC [] s)]:=by
 intro w V vs hw hT hv
 rw [mj hv]
 obtain ⟨m,hm⟩:=nG hT hw.imm
 have hp:=Cg s
 have hl:=congrArg List.length hp
 rw [bD] at hl
 have hc:Lib.countB (bs s) ⟨#[10]⟩+1=(dC [] s).length:=by
  rw [← hl]; exact (Lib.splitB_all ⟨#[10]⟩ (by decide) 0 _ (bs s) rfl).symm
 refine (Tryz.strings_Split (bs s) (bs [10]) m w (by rw [eP]; exact hs) hm (by decide)).mono fun e w' ⟨he,hw'⟩=>?_
 subst he; subst hw'
 have hcells:(Lib.splitB (bs [10]) 0 (Lib.countB (bs s) (bs [10])) (bs s)).map Value.string=(dC [] s).map fun s=>Value.string (bs s):=by
  rw [← hp,eZ]
  exact fg fun x _=>by simp [lh]
 have hc':Lib.countB (bs s) (bs [10])+1=(dC [] s).length:=hc
 rw [hcells,hc']
 have hlen:=sw s
 obtain ⟨V2,hag,_,_,e2,hw2⟩:=hw.regrow (ck:=[]) rfl (br _) none (c:=.own 9 .str (dC [] s)) (v':=.slice (some ⟨w.heap.size,0,none⟩) (dC [] s).length (dC [] s).length) (s':=w.heap.size) (w':=w.alloc (.cells ((dC [] s).map fun s=>Value.string (bs s)).toArray 9)) (row:=none) (by simp) (World.grownBy_alloc w _ none) (fun V' hag hH f1 f2=>by
  have f3:V'.ov 0 = .slice (some ⟨w.heap.size,0,none⟩) (dC [] s).length (dC [] s).length:=f2
  have f4:V'.σ 0=w.heap.size:=f1
  refine ⟨⟨(dC [] s).map fun s=>Value.string (bs s),?_,tn _,fun b hb=>?_⟩,fun b hb=>?_⟩
  · rw [f2]
    have:=World.ownsRow_lit (base:=0) (size:=1) (e:=9) w ((dC [] s).map fun s=>Value.string (bs s)).toArray (dC [] s).length (br _) (by unfold maxLen; omega) (by simp)
    exact this
  · rw [f2] at hb; simp only [Value.ownBlock,aa] at hb; rw [f1,← hb]
  · right; simp only [Chunk.blk] at hb; rw [f2] at hb; simp only [Value.ownBlock,aa] at hb; omega)
 exact ⟨_,V2,rfl,e2.symm,hw2⟩
def r6:Ent:=(17,fun
 | [.c (.pd (.str s)),.c (.pd (.str [10]))],[]=>some (some (s.length<4294967281),.x (.c (.own 0)),[.own 9 .str (dC [] s)])
 | _,_=>none)
theorem EH:EntOk Tryz.prog r6:=entOk fun vs ck=>by
 unfold r6; dsimp only; split
 · rename_i s; exact entS fun hp=>Cn s hp
 · exact entN
def b8:Str:=Lib.repeatL s n.toNat
theorem B8 (h0:0≤n) (hn:n≤9223372036854775807) (hl:s.length * n.toNat≤140737488355328):ak Tryz.prog 58 [.s s,.i n] [] (.x (.s (b8 s n))) []:=by
 intro w V vs hw hT hv
 cases hv with
 | cons a1 hv=>cases hv with
   | cons a2 hv =>
     cases hv
     have a1':PR V.H (.str s) _:=a1
     have a2':PR V.H (.int .i64 n) _:=a2
     cases a1'; cases a2'
     obtain ⟨k,rfl⟩:=dX h0
     have hsz:(bs s).size=s.length:=eP s
     refine (Tryz.strings_Repeat (bs s) k w (by omega) (by rw [hsz]; exact hl)).mono fun e w' ⟨he,hb⟩=>?_
     subst he
     refine ⟨_,V,rfl,?_,hw.kept (jP hb)⟩
     rw [cE]
     exact PR.str (b8 s k)
def nV:Ent:=(58,fun
 | [.c (.pd (.str s)),.c (.pd (.int .i64 n))],[]=>some (some (0≤n∧n≤9223372036854775807∧s.length * n.toNat≤140737488355328),.x (.c (.pd (.str (b8 s n)))),[])
 | _,_=>none)
theorem u7:EntOk Tryz.prog nV:=entOk fun vs ck=>by
 unfold nV; dsimp only; split
 · rename_i s n; exact entS fun hp=>B8 s n hp.1 hp.2.1 hp.2.2
 · exact entN
end Go.Proofs.YtpfidgnkokidoaaGreatDoor
namespace Go.Proofs.YtpfidgnkokidoaaGreatDoor
open Go Go.Ev
set_option maxRecDepth 100000
theorem FI (x:Nat):ak Tryz.prog 158 [.c (.pd (.fl (some x)))] [] (.x (.b (iy x))) []:=by
 refine dg bH Tryz.func158 (let x1:=(dU x 13920626448202203136==some Ordering.gt||dU x 13920626448202203136==some Ordering.eq); let x2:=(dU x 4697254411347427328==some Ordering.lt||dU x 4697254411347427328==some Ordering.eq); .need ((x1&&x2)=true→lf .i64 x) (.ret (.p (.bool (x1&&x2&&dU x (FloatKind.nearest FloatKind.f64 (gm x))==some Ordering.eq))) [])) fun Γ=>?_
 conv=>zeta
 exact ⟨fun h=>pB h,rfl,rfl⟩
def vk:Ent:=(158,fun
 | [.c (.pd (.fl (some x)))],[]=>some (none,.x (.c (.pd (.bool (iy x)))),[])
 | _,_=>none)
theorem Ia:EntOk Tryz.prog vk:=entOk fun vs ck=>by
 unfold vk; dsimp only; split
 · rename_i x; exact entS fun hp=>FI x
 · exact entN
def AQ:Cfg:=⟨bu,[vk]⟩
theorem Cb:ai Tryz.prog AQ.tab:=(ai.cons Ia ai.nil)
theorem Ce (p:Nat×Nat):ak Tryz.prog 119 [.c (.pd (.cx (some p)))] [] (.x (.b (eC p))) []:=by
 refine dg Cb Tryz.func119 (.ret (.p (.bool (iy (Prod.fst p)&&iy (Prod.snd p)))) []) fun Γ=>?_
 exact ⟨rfl,rfl⟩
theorem B3 (o:Option (Nat×Nat)) (h:o.isSome=true):ak Tryz.prog 119 [.c (.pd (.cx o))] [] (.x (.b (qZ o))) []:=by
 obtain ⟨p,rfl⟩:=dM.1 h
 exact Ce p
def rD:Ent:=(119,fun
 | [.c (.pd (.cx o))],[]=>some (some (o.isSome=true),.x (.c (.pd (.bool (qZ o)))),[])
 | _,_=>none)
theorem FA:EntOk Tryz.prog rD:=entOk fun vs ck=>by
 unfold rD; dsimp only; split
 · rename_i o; exact entS fun hp=>B3 o hp
 · exact entN
def Bc:Cfg:=⟨bu,[rD]⟩
theorem CB:ai Tryz.prog Bc.tab:=(ai.cons FA ai.nil)
theorem Fk (a b:Int):ak Tryz.prog 56 [.i a,.i b] [] (.tup [.c (.pd (.cx (some (bX a b)))),.i (jK a b)]) []:=by
 refine dg bH Tryz.func56 (.ite (decide (a<(-1048576:Int))||decide (a>(1048576:Int))||decide (b<(-1048576:Int))||decide (b>(1048576:Int))) (.ret (.tup [.p (.cx (some (0,0))),.i 5]) []) (.ret (.tup [.p (.cx (some (FloatKind.nearest FloatKind.f64 a,FloatKind.nearest FloatKind.f64 b))),.i 0]) [])) fun Γ=>?_
 refine ⟨fun h=>⟨?_,rfl⟩,fun h=>⟨?_,rfl⟩⟩
 · have:(pIn a&&pIn b)=false:=by
    simp only [aF,decide_eq_true_eq] at h
    simp only [pIn,fI,decide_eq_false_iff_not]; omega
   simp [bX,jK,this]
 · have:(pIn a&&pIn b)=true:=by
    simp only [aI,decide_eq_false_iff_not] at h
    simp only [pIn,ab,decide_eq_true_eq]; omega
   simp [bX,jK,this,num]
def rh:Ent:=(56,fun
 | [.c (.pd (.int .i64 a)),.c (.pd (.int .i64 b))],[]=>some (none,.tup [.c (.pd (.cx (some (bX a b)))),.c (.pd (.int .i64 (jK a b)))],[])
 | _,_=>none)
theorem xR:EntOk Tryz.prog rh:=entOk fun vs ck=>by
 unfold rh; dsimp only; split
 · rename_i a b; exact entS fun hp=>Fk a b
 · exact entN
theorem Ci (p:Nat×Nat):ak Tryz.prog 81 [.c (.pd (.cx (some p)))] [] (.tup [.i (cP p),.i (cQ p),.i (kP p)]) []:=by
 refine dg CB Tryz.func81 (.need (Option.isSome (some p)=true) (.ite (!qZ (some p)) (.ret (.tup [.i 0,.i 0,.i 12]) []) (.need (lf .i64 (Prod.fst p)) (.need (lf .i64 (Prod.snd p)) (.ret (.tup [.i (gm (Prod.fst p)),.i (gm (Prod.snd p)),.i 0]) []))))) fun Γ=>?_
 refine ⟨rfl,fun h=>?_,fun h=>?_⟩
 · have h':eC p=false:=by simpa [qZ] using h
   refine ⟨?_,rfl⟩; simp [cP,cQ,kP,h']
 · have h':eC p=true:=by simpa [qZ] using h
   obtain ⟨h1,h2⟩:=Am h'
   refine ⟨h1,h2,?_,rfl⟩; simp [cP,cQ,kP,h']
def oc:Ent:=(81,fun
 | [.c (.pd (.cx (some p)))],[]=>some (none,.tup [.c (.pd (.int .i64 (cP p))),.c (.pd (.int .i64 (cQ p))),.c (.pd (.int .i64 (kP p)))],[])
 | _,_=>none)
theorem qM:EntOk Tryz.prog oc:=entOk fun vs ck=>by
 unfold oc; dsimp only; split
 · rename_i p; exact entS fun hp=>Ci p
 · exact entN
end Go.Proofs.YtpfidgnkokidoaaGreatDoor

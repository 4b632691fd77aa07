/- Contracts: strings.Cut, Split, Join. Conditions: texts that are not too long; the library's variable. The library's contracts of strconv.ParseInt at base 10, 64 bits, laid at this dump by the kit's tools. Conditions: the errors' variables. The library's contracts of strings.Trim, laid at this dump by the kit's tools. Conditions: none. Contracts: strconv.ParseInt, strings.Trim, words.Number. Conditions: texts that are not too long; the errors' variables. Numbers read: the program's, the document's. Conditions: texts of at most 2^48 bytes. -/
import Derived.Test.YtpfidgnkokidoaaGreatDoorDa
import Derived.Test.YtpfidgnkokidoaaGreatDoorShelff
import Derived.Shelf.LaysC
import Derived.Shelf.Strconv.ErrVarParseInt
import Derived.Test.YtpfidgnkokidoaaGreatDoorProg
import Derived.Shelf.Lays
import Derived.Shelf.Strings.Trim
import Derived.Shelf.Strings.SlTrimAscii
import Derived.Test.YtpfidgnkokidoaaGreatDoorNr
import Derived.Lib.AtoiErrMem
namespace Go.Proofs.YtpfidgnkokidoaaGreatDoor
open Go Go.Ev Go.RowKit
set_option maxRecDepth 100000
variable {V:Vn} (s:Str)
theorem mu {w:World} (hT:kG Tryz.prog V.H) (hi:HIn V.H w):∃ m,w.cell? ⟨0,0,none⟩=some (.int .i64 m):=by
 obtain ⟨g,cs,e,fr,m,h1,h2,h3⟩:=hT.2.2.2 (by kernel_rfl)
 have e1:g=0:=(av ((show Tryz.prog.globalNamed "internal/bytealg.MaxLen"=some 0 by kernel_rfl).symm.trans h1)).symm
 subst e1
 have h4:=hi _ _ h2
 exact ⟨m,by simp only [World.cell?,h4]; exact h3⟩
theorem lM {a b:Str} {vs:List Value} (hv:All2 (SX.R V) [SX.s a,SX.s b] vs):vs=[.string (bs a),.string (bs b)]:=by
 cases hv with
 | cons a1 hv=>cases hv with
   | cons a2 hv =>
     cases hv
     have a1':PR V.H (.str a) _:=a1
     have a2':PR V.H (.str b) _:=a2
     cases a1'; cases a2'
     rfl
theorem HT (hs:s.length<4294967281):ak Tryz.prog 162 [.s s,.s [61]] [] (.tup [.s (da s),.s (bO s),.b (df s)]) []:=by
 intro w V vs hw hT hv
 rw [lM hv]
 obtain ⟨m,hm⟩:=mu hT hw.imm
 refine (Tryz.strings_Cut (bs s) (bs [61]) m w (by rw [eB]; exact hs) hm).mono fun e w' ⟨he,n,hw'⟩=>?_
 subst he; subst hw'
 refine ⟨_,V,rfl,?_,hw.kept ⟨rfl,rfl,rfl,aD _,fun _ _ _=>rfl⟩⟩
 rw [cQ,cQ,N9]
 have key:(if df s=true then (da s,bO s,true) else (s,[],false))=(da s,bO s,df s):=by
  cases h:df s
  · obtain ⟨h1,h2⟩:=NP s h
    rw [h1,h2]; rfl
  · rfl
 rw [key]
 exact ⟨_,rfl,.cons (PR.str _) (.cons (PR.str _) (.cons (PR.bool _) .nil))⟩
def tg:Ent:=(162,fun
 | [.c (.pd (.str s)),.c (.pd (.str [61]))],[]=>some (some (s.length<4294967281),.tup [.c (.pd (.str (da s))),.c (.pd (.str (bO s))),.c (.pd (.bool (df s)))],[])
 | _,_=>none)
theorem yq:EntOk Tryz.prog tg:=entOk fun vs ck=>by
 unfold tg; dsimp only; split
 · rename_i s; exact entS fun hp=>HT s hp
 · exact entN
theorem mD:∀ (s cur:Str),(ba cur s).length=s.countP (·==59)+1
 | [],cur=>rfl
 | c::r,cur=>by
   rw [ba,List.countP_cons]
   cases h:c==59
   · rw [cond_false,mD r]; simp
   · rw [cond_true,ai,mD r]; simp
theorem xU:(ba [] s).length≤s.length+1:=by
 rw [mD]; have:=List.countP_le_length (p:=(·==(59:UInt8))) (l:=s); omega
theorem rV {H:Mem}:∀ (l:List Str),All2 (PR H) (l.flatMap ETy.str.enc) (l.map fun s=>Value.string (bs s))
 | []=>.nil
 | s::r=>.cons (.str s) (rV r)
theorem Dy (hs:s.length<4294967281):ak Tryz.prog 17 [.s s,.s [59]] [] (.x (.c (.own 0))) [.own 9 .str (ba [] s)]:=by
 intro w V vs hw hT hv
 rw [lM hv]
 obtain ⟨m,hm⟩:=mu hT hw.imm
 have hp:=AX s
 have hl:=congrArg List.length hp
 rw [cq] at hl
 have hc:Lib.countB (bs s) ⟨#[59]⟩+1=(ba [] s).length:=by
  rw [← hl]; exact (Lib.splitB_all ⟨#[59]⟩ (by decide) 0 _ (bs s) rfl).symm
 refine (Tryz.strings_Split (bs s) (bs [59]) m w (by rw [eB]; exact hs) hm (by decide)).mono fun e w' ⟨he,hw'⟩=>?_
 subst he; subst hw'
 have hcells:(Lib.splitB (bs [59]) 0 (Lib.countB (bs s) (bs [59])) (bs s)).map Value.string=(ba [] s).map fun s=>Value.string (bs s):=by
  rw [← hp,List.map_map]
  exact eQ fun x _=>by simp [kj]
 have hc':Lib.countB (bs s) (bs [59])+1=(ba [] s).length:=hc
 rw [hcells,hc']
 have hlen:=xU s
 obtain ⟨V2,hag,_,_,e2,hw2⟩:=hw.regrow (ck:=[]) rfl (bJ _) none (c:=.own 9 .str (ba [] s)) (v':=.slice (some ⟨w.heap.size,0,none⟩) (ba [] s).length (ba [] s).length) (s':=w.heap.size) (w':=w.alloc (.cells ((ba [] s).map fun s=>Value.string (bs s)).toArray 9)) (row:=none) (by simp) (World.grownBy_alloc w _ none) (fun V' hag hH f1 f2=>by
  have f3:V'.ov 0 = .slice (some ⟨w.heap.size,0,none⟩) (ba [] s).length (ba [] s).length:=f2
  have f4:V'.σ 0=w.heap.size:=f1
  refine ⟨⟨(ba [] s).map fun s=>Value.string (bs s),?_,rV _,fun b hb=>?_⟩,fun b hb=>?_⟩
  · rw [f2]
    have:=World.ownsRow_lit (base:=0) (size:=1) (e:=9) w ((ba [] s).map fun s=>Value.string (bs s)).toArray (ba [] s).length (bJ _) (by unfold maxLen; omega) (by simp)
    exact this
  · rw [f2] at hb; simp only [Value.ownBlock,aa] at hb; rw [f1,← hb]
  · right; simp only [Chunk.blk] at hb; rw [f2] at hb; simp only [Value.ownBlock,aa] at hb; omega)
 exact ⟨_,V2,rfl,e2.symm,hw2⟩
def tA:Ent:=(17,fun
 | [.c (.pd (.str s)),.c (.pd (.str [59]))],[]=>some (some (s.length<4294967281),.x (.c (.own 0)),[.own 9 .str (ba [] s)])
 | _,_=>none)
theorem Gk:EntOk Tryz.prog tA:=entOk fun vs ck=>by
 unfold tA; dsimp only; split
 · rename_i s; exact entS fun hp=>Dy s hp
 · exact entN
end Go.Proofs.YtpfidgnkokidoaaGreatDoor
namespace Go.Proofs
open Go.Shelf
def Tryz.laysC174_ren:Go.Shelf.Ren:=⟨fun | 174=>116 | 247=>151 | 245=>152 | 287=>179 | 279=>180 | 280=>181 | 281=>182 | 282=>183 | 321=>202 | 322=>203 | 316=>204 | 171=>206 | 205=>205 | 243=>215 | 246=>132 | 283=>172 | 284=>173 | 285=>174 | 286=>175 | 129=>198 | 317=>197 | 318=>199 | 319=>200 | 320=>201 | 337=>213 | 338=>214 | n=>n,fun | 9=>9 | 3=>3 | 2=>2 | 75=>75 | 85=>164 | 4=>4 | 167=>222 | 5=>5 | 53=>182 | 175=>223 | 46=>145 | 168=>225 | 37=>71 | 0=>0 | 210=>245 | 21=>21 | 127=>103 | 145=>252 | 143=>250 | 171=>213 | 173=>216 | 212=>240 | 51=>179 | 20=>20 | 213=>241 | 232=>253 | 233=>254 | 80=>81 | n=>n,fun | 15=>4 | 16=>5 | 17=>3 | 18=>6 | 19=>7 | n=>n⟩
theorem Tryz.laysC174:Go.Proofs.LaysC.n174 Tryz.prog Tryz.laysC174_ren:={
 mixed:=by kernel_rfl
 f129:=Tryz.func198.trans (congrArg some (by kernel_rfl))
 f171:=Tryz.func206.trans (congrArg some (by kernel_rfl))
 f174:=Tryz.func116.trans (congrArg some (by kernel_rfl))
 f205:=Tryz.func205.trans (congrArg some (by kernel_rfl))
 f243:=Tryz.func215.trans (congrArg some (by kernel_rfl))
 f245:=Tryz.func152.trans (congrArg some (by kernel_rfl))
 f246:=Tryz.func132.trans (congrArg some (by kernel_rfl))
 f247:=Tryz.func151.trans (congrArg some (by kernel_rfl))
 f279:=Tryz.func180.trans (congrArg some (by kernel_rfl))
 f280:=Tryz.func181.trans (congrArg some (by kernel_rfl))
 f281:=Tryz.func182.trans (congrArg some (by kernel_rfl))
 f282:=Tryz.func183.trans (congrArg some (by kernel_rfl))
 f283:=Tryz.func172.trans (congrArg some (by kernel_rfl))
 f284:=Tryz.func173.trans (congrArg some (by kernel_rfl))
 f285:=Tryz.func174.trans (congrArg some (by kernel_rfl))
 f286:=Tryz.func175.trans (congrArg some (by kernel_rfl))
 f287:=Tryz.func179.trans (congrArg some (by kernel_rfl))
 f316:=Tryz.func204.trans (congrArg some (by kernel_rfl))
 f317:=Tryz.func197.trans (congrArg some (by kernel_rfl))
 f318:=Tryz.func199.trans (congrArg some (by kernel_rfl))
 f319:=Tryz.func200.trans (congrArg some (by kernel_rfl))
 f320:=Tryz.func201.trans (congrArg some (by kernel_rfl))
 f321:=Tryz.func202.trans (congrArg some (by kernel_rfl))
 f322:=Tryz.func203.trans (congrArg some (by kernel_rfl))
 f337:=Tryz.func213.trans (congrArg some (by kernel_rfl))
 f338:=Tryz.func214.trans (congrArg some (by kernel_rfl))
 t0:=Tryz.underlying0
 a0:=Tryz.isAgg0
 z0:=Tryz.sizeOf0
 v0:=Tryz.zeroValue0
 t2:=Tryz.underlying2
 a2:=Tryz.isAgg2
 z2:=Tryz.sizeOf2
 v2:=Tryz.zeroValue2
 t3:=Tryz.underlying3
 a3:=Tryz.isAgg3
 z3:=Tryz.sizeOf3
 v3:=Tryz.zeroValue3
 t4:=Tryz.underlying4
 a4:=Tryz.isAgg4
 z4:=Tryz.sizeOf4
 v4:=Tryz.zeroValue4
 t5:=Tryz.underlying5
 a5:=Tryz.isAgg5
 z5:=Tryz.sizeOf5
 v5:=Tryz.zeroValue5
 t9:=Tryz.underlying9
 a9:=Tryz.isAgg9
 z9:=Tryz.sizeOf9
 v9:=Tryz.zeroValue9
 t20:=Tryz.underlying20
 a20:=Tryz.isAgg20
 z20:=Tryz.sizeOf20
 v20:=Tryz.zeroValue20
 t21:=Tryz.underlying21
 a21:=Tryz.isAgg21
 z21:=Tryz.sizeOf21
 v21:=Tryz.zeroValue21
 t37:=Tryz.underlying71
 a37:=Tryz.isAgg71
 z37:=Tryz.sizeOf71
 v37:=Tryz.zeroValue71
 t46:=Tryz.underlying145
 a46:=Tryz.isAgg145
 z46:=Tryz.sizeOf145
 v46:=Tryz.zeroValue145
 t51:=Tryz.underlying179
 a51:=Tryz.isAgg179
 z51:=Tryz.sizeOf179
 v51:=Tryz.zeroValue179
 t53:=Tryz.underlying182
 a53:=Tryz.isAgg182
 z53:=Tryz.sizeOf182
 v53:=Tryz.zeroValue182
 t75:=Tryz.underlying75
 a75:=Tryz.isAgg75
 z75:=Tryz.sizeOf75
 v75:=Tryz.zeroValue75
 t85:=Tryz.underlying164
 a85:=Tryz.isAgg164
 z85:=Tryz.sizeOf164
 v85:=Tryz.zeroValue164
 t127:=Tryz.underlying103
 a127:=Tryz.isAgg103
 z127:=Tryz.sizeOf103
 v127:=Tryz.zeroValue103
 t143:=Tryz.underlying250
 a143:=Tryz.isAgg250
 z143:=Tryz.sizeOf250
 v143:=Tryz.zeroValue250
 t145:=Tryz.underlying252
 a145:=Tryz.isAgg252
 z145:=Tryz.sizeOf252
 v145:=Tryz.zeroValue252
 t167:=Tryz.underlying222
 a167:=Tryz.isAgg222
 z167:=Tryz.sizeOf222
 v167:=Tryz.zeroValue222
 t168:=Tryz.underlying225
 a168:=Tryz.isAgg225
 z168:=Tryz.sizeOf225
 v168:=Tryz.zeroValue225
 t171:=Tryz.underlying213
 a171:=Tryz.isAgg213
 z171:=Tryz.sizeOf213
 v171:=Tryz.zeroValue213
 t173:=Tryz.underlying216
 a173:=Tryz.isAgg216
 z173:=Tryz.sizeOf216
 v173:=Tryz.zeroValue216
 t175:=Tryz.underlying223
 a175:=Tryz.isAgg223
 z175:=Tryz.sizeOf223
 v175:=Tryz.zeroValue223
 t210:=Tryz.underlying245
 a210:=Tryz.isAgg245
 z210:=Tryz.sizeOf245
 v210:=Tryz.zeroValue245
 t212:=Tryz.underlying240
 a212:=Tryz.isAgg240
 z212:=Tryz.sizeOf240
 v212:=Tryz.zeroValue240
 t213:=Tryz.underlying241
 a213:=Tryz.isAgg241
 z213:=Tryz.sizeOf241
 t232:=Tryz.underlying253
 a232:=Tryz.isAgg253
 z232:=Tryz.sizeOf253
 v232:=Tryz.zeroValue253
 t233:=Tryz.underlying254
 a233:=Tryz.isAgg254
 z233:=Tryz.sizeOf254
 v233:=Tryz.zeroValue254
 g15:=by kernel_rfl
 g16:=by kernel_rfl
 g17:=by kernel_rfl
 g18:=by kernel_rfl
 g19:=by kernel_rfl
 t80:=Tryz.underlying81
 a80:=Tryz.isAgg81
 z80:=Tryz.sizeOf81
 v80:=Tryz.zeroValue81
 i0:=by kernel_rfl
 i2:=by kernel_rfl
 i3:=by kernel_rfl
 i4:=by kernel_rfl
 i5:=by kernel_rfl
 i9:=by kernel_rfl
 i20:=by kernel_rfl
 i21:=by kernel_rfl
 i37:=by kernel_rfl
 i46:=by kernel_rfl
 i51:=by kernel_rfl
 i53:=by kernel_rfl
 i75:=by kernel_rfl
 i80:=by kernel_rfl
 i85:=by kernel_rfl
 i127:=by kernel_rfl
 i143:=by kernel_rfl
 i145:=by kernel_rfl
 i167:=by kernel_rfl
 i168:=by kernel_rfl
 i171:=by kernel_rfl
 i173:=by kernel_rfl
 i175:=by kernel_rfl
 i210:=by kernel_rfl
 i212:=by kernel_rfl
 i232:=by kernel_rfl
 i233:=by kernel_rfl
 m15:=by kernel_rfl
 m16:=by kernel_rfl
 m17:=by kernel_rfl
 m18:=by kernel_rfl
 m19:=by kernel_rfl
 c0:=by kernel_rfl
 c2:=by kernel_rfl
 c3:=by kernel_rfl
 c4:=by kernel_rfl
 c5:=by kernel_rfl
 c9:=by kernel_rfl
 c20:=by kernel_rfl
 c21:=by kernel_rfl
 c37:=by kernel_rfl
 c46:=by kernel_rfl
 c51:=by kernel_rfl
 c53:=by kernel_rfl
 c75:=by kernel_rfl
 c80:=by kernel_rfl
 c85:=by kernel_rfl
 c127:=by kernel_rfl
 c143:=by kernel_rfl
 c145:=by kernel_rfl
 c167:=by kernel_rfl
 c168:=by kernel_rfl
 c171:=by kernel_rfl
 c173:=by kernel_rfl
 c175:=by kernel_rfl
 c210:=by kernel_rfl
 c212:=by kernel_rfl
 c213:=by kernel_rfl
 c232:=by kernel_rfl
 c233:=by kernel_rfl }
open Go.RowKit in
theorem Tryz.strconv_ParseInt_10_at64_ok (s:ByteArray) (hmax:s.size≤9223372036854775806) (v:Int) (h:Lib.parseIntB 64 s.data.toList = .ok v) (w:World) :
 Calls Tryz.prog 116 #[.string s,.int .i64 10,.int .i64 64] w fun e w'=>e = .returned (.tuple #[.int .i64 v,.nilIface])∧(w'=w∨∃ t,w'=Lib.bytesWorld w 5 t):=Any.strconv_ParseInt_10_at64_ok Tryz.laysC174 s hmax v h w
open Go.RowKit in
theorem Tryz.strconv_ParseInt_10_at64_syntax_var (s:ByteArray) (hlim:s.size≤281474976710656) (h:Lib.parseIntB 64 s.data.toList = .syntax) (tp:TypeId) (p:Value) (w:World) (hvar:w.var? Tryz.prog "strconv.ErrSyntax"=some #[.iface tp p]) :
 Calls Tryz.prog 116 #[.string s,.int .i64 10,.int .i64 64] w fun e w'=>∃ N,e = .returned (.tuple #[.int .i64 (0),.iface 225 (.pointer (some ⟨N,0,none⟩))])∧w.heap.size≤N∧w'.heap[N]?=some (.cells #[.string ⟨#[80,97,114,115,101,73,110,116]⟩,.string s,.iface tp p] 245 (0,0))∧Below w.heap.size w w':=Any.strconv_ParseInt_10_at64_syntax_var Tryz.laysC174 s hlim h tp p w hvar
open Go.RowKit in
theorem Tryz.strconv_ParseInt_10_at64_range_var (s:ByteArray) (hlim:s.size≤281474976710656) (h:Lib.parseIntB 64 s.data.toList = .range) (tp:TypeId) (p:Value) (w:World) (hvar:w.var? Tryz.prog "strconv.ErrRange"=some #[.iface tp p]) :
 Calls Tryz.prog 116 #[.string s,.int .i64 10,.int .i64 64] w fun e w'=>∃ N,e = .returned (.tuple #[.int .i64 (Lib.intSat 64 s.data.toList),.iface 225 (.pointer (some ⟨N,0,none⟩))])∧w.heap.size≤N∧w'.heap[N]?=some (.cells #[.string ⟨#[80,97,114,115,101,73,110,116]⟩,.string s,.iface tp p] 245 (0,0))∧Below w.heap.size w w':=Any.strconv_ParseInt_10_at64_range_var Tryz.laysC174 s hlim h tp p w hvar
end Go.Proofs
namespace Go.Proofs
open Go.Shelf
def Tryz.lays160_ren:Go.Shelf.Ren:=⟨fun | 160=>115 | 232=>145 | 231=>144 | 227=>146 | 234=>148 | 233=>147 | 236=>150 | 235=>149 | 228=>155 | 271=>156 | 151=>178 | 197=>124 | 120=>186 | 152=>153 | 260=>164 | 137=>184 | 119=>185 | 224=>167 | 225=>166 | 217=>165 | 266=>191 | n=>n,fun | 9=>9 | 4=>4 | 3=>3 | 5=>5 | 117=>191 | 116=>190 | 0=>0 | 124=>194 | 21=>21 | 105=>173 | 46=>145 | 119=>232 | 139=>235 | 138=>234 | n=>n,fun | 3=>1 | 4=>2 | n=>n⟩
theorem Tryz.lays160:Go.Proofs.Lays.n160 Tryz.prog Tryz.lays160_ren:={
 mixed:=by kernel_rfl
 f119:=Tryz.func185.trans (congrArg some (by kernel_rfl))
 f120:=Tryz.func186.trans (congrArg some (by kernel_rfl))
 f137:=Tryz.func184.trans (congrArg some (by kernel_rfl))
 f151:=Tryz.func178.trans (congrArg some (by kernel_rfl))
 f152:=Tryz.func153.trans (congrArg some (by kernel_rfl))
 f160:=Tryz.func115.trans (congrArg some (by kernel_rfl))
 f197:=Tryz.func124.trans (congrArg some (by kernel_rfl))
 f217:=Tryz.func165.trans (congrArg some (by kernel_rfl))
 f224:=Tryz.func167.trans (congrArg some (by kernel_rfl))
 f225:=Tryz.func166.trans (congrArg some (by kernel_rfl))
 f227:=Tryz.func146.trans (congrArg some (by kernel_rfl))
 f228:=Tryz.func155.trans (congrArg some (by kernel_rfl))
 f231:=Tryz.func144.trans (congrArg some (by kernel_rfl))
 f232:=Tryz.func145.trans (congrArg some (by kernel_rfl))
 f233:=Tryz.func147.trans (congrArg some (by kernel_rfl))
 f234:=Tryz.func148.trans (congrArg some (by kernel_rfl))
 f235:=Tryz.func149.trans (congrArg some (by kernel_rfl))
 f236:=Tryz.func150.trans (congrArg some (by kernel_rfl))
 f260:=Tryz.func164.trans (congrArg some (by kernel_rfl))
 f266:=Tryz.func191.trans (congrArg some (by kernel_rfl))
 f271:=Tryz.func156.trans (congrArg some (by kernel_rfl))
 t0:=Tryz.underlying0
 a0:=Tryz.isAgg0
 z0:=Tryz.sizeOf0
 v0:=Tryz.zeroValue0
 t3:=Tryz.underlying3
 a3:=Tryz.isAgg3
 z3:=Tryz.sizeOf3
 v3:=Tryz.zeroValue3
 t4:=Tryz.underlying4
 a4:=Tryz.isAgg4
 z4:=Tryz.sizeOf4
 v4:=Tryz.zeroValue4
 t5:=Tryz.underlying5
 a5:=Tryz.isAgg5
 z5:=Tryz.sizeOf5
 v5:=Tryz.zeroValue5
 t9:=Tryz.underlying9
 a9:=Tryz.isAgg9
 z9:=Tryz.sizeOf9
 v9:=Tryz.zeroValue9
 t21:=Tryz.underlying21
 a21:=Tryz.isAgg21
 z21:=Tryz.sizeOf21
 v21:=Tryz.zeroValue21
 t46:=Tryz.underlying145
 a46:=Tryz.isAgg145
 z46:=Tryz.sizeOf145
 v46:=Tryz.zeroValue145
 t105:=Tryz.underlying173
 a105:=Tryz.isAgg173
 z105:=Tryz.sizeOf173
 v105:=Tryz.zeroValue173
 t116:=Tryz.underlying190
 a116:=Tryz.isAgg190
 z116:=Tryz.sizeOf190
 t117:=Tryz.underlying191
 a117:=Tryz.isAgg191
 z117:=Tryz.sizeOf191
 v117:=Tryz.zeroValue191
 t119:=Tryz.underlying232
 a119:=Tryz.isAgg232
 z119:=Tryz.sizeOf232
 t124:=Tryz.underlying194
 a124:=Tryz.isAgg194
 z124:=Tryz.sizeOf194
 v124:=Tryz.zeroValue194
 t138:=Tryz.underlying234
 a138:=Tryz.isAgg234
 z138:=Tryz.sizeOf234
 v138:=Tryz.zeroValue234
 t139:=Tryz.underlying235
 a139:=Tryz.isAgg235
 z139:=Tryz.sizeOf235
 v139:=Tryz.zeroValue235
 g3:=by kernel_rfl
 g4:=by kernel_rfl }
end Go.Proofs
namespace Go.Proofs.YtpfidgnkokidoaaGreatDoor
open Go Go.Ev Go.RowKit
set_option maxRecDepth 100000
variable (s:Str)
def aZ:Int:=match Lib.parseIntB 64 s with
 | .ok v=>v
 | .syntax=>0
 | .range=>Lib.intSat 64 s
def dz:Bool:=match Lib.parseIntB 64 s with
 | .ok _=>true
 | _=>false
def gE:Str:=[48,49,50,51,52,53,54,55,56,57]
def kK:Str:=Lib.trimS s gE
theorem tJ {V:Vn} {s:Str} {vs:List Value} (hv:All2 (SX.R V) [SX.s s,SX.i 10,SX.i 64] vs):vs=[.string (bs s),.int .i64 10,.int .i64 64]:=by
 cases hv with
 | cons a1 hv=>cases hv with
   | cons a2 hv=>cases hv with
     | cons a3 hv =>
       cases hv
       have a1':PR V.H (.str s) _:=a1
       have a2':PR V.H (.int .i64 10) _:=a2
       have a3':PR V.H (.int .i64 64) _:=a3
       cases a1'; cases a2'; cases a3'
       rfl
theorem HL (hs:s.length≤281474976710656) (h:dz s=true):ak Tryz.prog 116 [.s s,.i 10,.i 64] [] (.tup [.i (aZ s),.c (.pd (.v .nilIface))]) []:=by
 intro w V vs hw hT hv
 rw [tJ hv]
 have hsz:(bs s).size=s.length:=eB s
 unfold dz at h
 split at h
 · rename_i v hp
   refine (Tryz.strconv_ParseInt_10_at64_ok (bs s) (by omega) v (by rw [cQ]; exact hp) w).mono fun e w' ⟨he,hw'⟩=>?_
   subst he
   have hb:Below w.heap.size w w':=by
    rcases hw' with rfl | ⟨t,rfl⟩
    · exact Below.refl _ _
    · exact Lib.bytesWorld_below w _ t
   have ev:aZ s=v:=by simp [aZ,hp]
   exact ⟨_,V,rfl,⟨_,rfl,.cons (by rw [ev]; exact PR.int _ _) (.cons (PR.v _ rfl) .nil)⟩,hw.kept (jU hb)⟩
 · cases h
theorem GB (hs:s.length≤281474976710656) (h:dz s=false):ak Tryz.prog 116 [.s s,.i 10,.i 64] [] (.tup [.i (aZ s),.c (.pd .err)]) []:=by
 intro w V vs hw hT hv
 rw [tJ hv]
 have hsz:(bs s).size=s.length:=eB s
 unfold dz at h
 split at h
 · cases h
 · rename_i hn
   rcases hp:Lib.parseIntB 64 s with v | - | -
   · exact absurd hp (hn v)
   · obtain ⟨tp,p,hm⟩:=(hT.2.1) (by kernel_rfl)
     refine (Tryz.strconv_ParseInt_10_at64_syntax_var (bs s) (by omega) (by rw [cQ]; exact hp) tp p w (hm.world hw.imm)).mono fun e w' ⟨N,he,_,_,hb⟩=>?_
     subst he
     have ev:aZ s=0:=by simp [aZ,hp]
     exact ⟨_,V,rfl,⟨_,rfl,.cons (by rw [ev]; exact PR.int _ _) (.cons (PR.err _ _) .nil)⟩,hw.kept (jU hb)⟩
   · obtain ⟨tp,p,hm⟩:=(hT.2.2.1) (by kernel_rfl)
     refine (Tryz.strconv_ParseInt_10_at64_range_var (bs s) (by omega) (by rw [cQ]; exact hp) tp p w (hm.world hw.imm)).mono fun e w' ⟨N,he,_,_,hb⟩=>?_
     subst he
     have ev:aZ s=Lib.intSat 64 s:=by simp [aZ,hp]
     exact ⟨_,V,rfl,⟨_,rfl,.cons (by rw [ev]; have:=PR.int (H:=V.H) .i64 (Lib.intSat 64 s); rw [cQ]; exact this) (.cons (PR.err _ _) .nil)⟩,hw.kept (jU hb)⟩
theorem GY (hs:s.length≤9223372036854775807):ak Tryz.prog 115 [.s s,.s gE] [] (.x (.s (kK s))) []:=by
 intro w V vs hw hT hv
 cases hv with
 | cons a1 hv=>cases hv with
   | cons a2 hv =>
     cases hv
     have a1':PR V.H (.str s) _:=a1
     have a2':PR V.H (.str gE) _:=a2
     cases a1'; cases a2'
     have hsz:(bs s).size=s.length:=eB s
     refine (Any.strings_Trim_laid Tryz.lays160 (by kernel_rfl) (bs s) (bs gE) w (by omega) (by decide) (Go.Proofs.ascii_of_all (by decide))).mono fun e w' ⟨he,hb⟩=>?_
     subst he
     refine ⟨_,V,rfl,?_,hw.kept (jU hb)⟩
     have e1:(bs s).data.toList=s:=cQ s
     have e2:(bs gE).data.toList=gE:=cQ gE
     rw [e1,e2]
     exact PR.str (kK s)
def nn:Ent:=(116,fun
 | [.c (.pd (.str s)),.c (.pd (.int .i64 10)),.c (.pd (.int .i64 64))],[]=>some (some (s.length≤281474976710656∧dz s=true),.tup [.c (.pd (.int .i64 (aZ s))),.c (.pd (.v .nilIface))],[])
 | _,_=>none)
theorem ta:EntOk Tryz.prog nn:=entOk fun vs ck=>by
 unfold nn; dsimp only; split
 · rename_i s; exact entS fun hp=>HL s hp.1 hp.2
 · exact entN
def mX:Ent:=(116,fun
 | [.c (.pd (.str s)),.c (.pd (.int .i64 10)),.c (.pd (.int .i64 64))],[]=>some (some (s.length≤281474976710656∧dz s=false),.tup [.c (.pd (.int .i64 (aZ s))),.c (.pd .err)],[])
 | _,_=>none)
theorem sI:EntOk Tryz.prog mX:=entOk fun vs ck=>by
 unfold mX; dsimp only; split
 · rename_i s; exact entS fun hp=>GB s hp.1 hp.2
 · exact entN
def tK:Ent:=(115,fun
 | [.c (.pd (.str s)),.c (.pd (.str [48,49,50,51,52,53,54,55,56,57]))],[]=>some (some (s.length≤9223372036854775807),.x (.c (.pd (.str (kK s)))),[])
 | _,_=>none)
theorem Al:EntOk Tryz.prog tK:=entOk fun vs ck=>by
 unfold tK; dsimp only; split
 · rename_i s; exact entS fun hp=>GY s hp
 · exact entN
def Hp:Cfg:=⟨a6,[p5,tK,nn]⟩
theorem FV:ah Tryz.prog Hp.tab:=(ah.cons mV (ah.cons Al (ah.cons ta ah.nil)))
def Fg:Cfg:=⟨a6,[p5,tK,mX]⟩
theorem EN:ah Tryz.prog Fg.tab:=(ah.cons mV (ah.cons Al (ah.cons sI ah.nil)))
end Go.Proofs.YtpfidgnkokidoaaGreatDoor
namespace Go.Proofs.YtpfidgnkokidoaaGreatDoor
open Go Go.Ev
set_option maxRecDepth 100000
/-! ### plain -/
variable (c:UInt8) (r s:Str)
def isD:Bool:=decide (48≤(c.toNat:Int))&&decide ((c.toNat:Int)≤57)
def cI:Nat→List UInt8→Nat
 | a,[]=>a
 | a,c::r=>cI (10 * a+(c.toNat - 48)) r
def fh:Bool:=bf s [45]==[] || !(bf s [45]).all isD||(((bf s [45]).getD 0 0).toNat:Int)==48&&(decide (ab (bf s [45])>1)||aS s [45])
def aQ:Int×Int:=if fh s=true then (0,1) else if 1099511627776<cI 0 (bf s [45]) then (0,5) else (if aS s [45]=true then -(cI 0 (bf s [45]):Int) else (cI 0 (bf s [45]):Int),0)
theorem LU:gE.contains c=isD c:=by
 rw [bV]
 simp only [gE,isD,List.contains_eq_mem,bg,List.not_mem_nil,or_false,decide_eq_true_eq,af]
 constructor
 · intro h
   rcases h with rfl | rfl | rfl | rfl | rfl | rfl | rfl | rfl | rfl | rfl <;> decide
 · intro h
   have hn:c.toNat=48∨c.toNat=49∨c.toNat=50∨c.toNat=51∨c.toNat=52∨c.toNat=53∨c.toNat=54∨c.toNat=55∨c.toNat=56∨c.toNat=57:=by omega
   have key:∀ d:UInt8,c.toNat=d.toNat→c=d:=fun d h=>cy.1 h
   rcases hn with h | h | h | h | h | h | h | h | h | h
   · exact .inl (key 48 h)
   · exact .inr (.inl (key 49 h))
   · exact .inr (.inr (.inl (key 50 h)))
   · exact .inr (.inr (.inr (.inl (key 51 h))))
   · exact .inr (.inr (.inr (.inr (.inl (key 52 h)))))
   · exact .inr (.inr (.inr (.inr (.inr (.inl (key 53 h))))))
   · exact .inr (.inr (.inr (.inr (.inr (.inr (.inl (key 54 h)))))))
   · exact .inr (.inr (.inr (.inr (.inr (.inr (.inr (.inl (key 55 h))))))))
   · exact .inr (.inr (.inr (.inr (.inr (.inr (.inr (.inr (.inl (key 56 h)))))))))
   · exact .inr (.inr (.inr (.inr (.inr (.inr (.inr (.inr (.inr (key 57 h)))))))))
theorem dropWhile_nil {p:UInt8→Bool}:∀ {l:List UInt8},l.dropWhile p=[]↔∀ x∈l,p x=true
 | []=>by simp
 | c::r=>by
   rw [List.dropWhile_cons]
   by_cases h:p c=true
   · rw [if_pos h,dropWhile_nil]; simp [h]
   · rw [if_neg h]; simp [h]
theorem nh {p:UInt8→Bool} {a:UInt8} {r:List UInt8}:∀ {l:List UInt8},l.dropWhile p=a::r→p a=false
 | [],h=>by simp at h
 | c :: l,h=>by
   rw [List.dropWhile_cons] at h
   by_cases hc:p c=true
   · rw [if_pos hc] at h; exact nh h
   · rw [if_neg hc] at h
     simp only [fU] at h
     rw [← h.1]; simpa using hc
theorem xW (l:Str):(kK l==[])=l.all isD:=by
 have hp:(fun c=>gE.contains c)=isD:=funext LU
 have e:kK l=((l.reverse.dropWhile isD).reverse).dropWhile isD:=by
  show ((l.reverse.dropWhile (gE.contains ·)).reverse).dropWhile (gE.contains ·)=_
  rw [hp]
 rw [e,bV,beq_iff_eq,an]
 constructor
 · intro h
   have h1:=dropWhile_nil.1 h
   have h2:l.reverse.dropWhile isD=[]:=by
    cases hx:l.reverse.dropWhile isD with
    | nil=>rfl
    | cons a r =>
      exfalso
      have h3:=h1 a (by rw [hx]; simp)
      have h4:=nh hx
      rw [h3] at h4; cases h4
   intro x hx
   exact dropWhile_nil.1 h2 x (by simpa using hx)
 · intro h
   have h2:l.reverse.dropWhile isD=[]:=dropWhile_nil.2 fun x hx=>h x (by simpa using hx)
   rw [h2]; rfl
theorem mP:∀ (l:List UInt8) (a:Nat),a≤cI a l
 | [],a=>aD _
 | c::r,a=>by
   have h1:=mP r (10 * a+(c.toNat - 48))
   have h2:a≤10 * a+(c.toNat - 48):=by omega
   exact bq h2 h1
theorem Ac (M:Nat) (hM:M=18446744073709551615):∀ (l:List UInt8) (a:Nat),l.all isD=true→a≤M→Lib.parseUintM M a l=if cI a l≤M then .ok (cI a l) else .range
 | [],a,_,h=>by
   have e:cI a []=a:=rfl
   rw [e,if_pos h]; rfl
 | c :: r,a,h,ha=>by
   simp only [bA,af] at h
   have hd:48≤c.toNat∧c.toNat≤57:=by
    have:=h.1
    simp only [isD,af,decide_eq_true_eq] at this
    omega
   have hge:=mP r (10 * a+(c.toNat - 48))
   have hc:a * 10+(c.toNat - 48)=10 * a+(c.toNat - 48):=by omega
   have hv:cI a (c::r)=cI (10 * a+(c.toNat - 48)) r:=rfl
   have hu:Lib.parseUintM M a (c::r)=if 48≤c.toNat∧c.toNat≤57 then (if 1844674407370955162≤a then .range else if M<a * 10+(c.toNat - 48) then .range else Lib.parseUintM M (a * 10+(c.toNat - 48)) r) else .syntax:=rfl
   rw [hu,if_pos hd,hv,hc]
   generalize 10 * a+(c.toNat - 48)=b at *
   by_cases h1:1844674407370955162≤a
   · rw [if_pos h1,if_neg (by omega)]
   · rw [if_neg h1]
     by_cases h2:M<b
     · rw [if_pos h2,if_neg (by omega)]
     · rw [if_neg h2]
       exact Ac M hM r b h.2 (by omega)
theorem fE:bf (45::r) [45]=r∧aS (45::r) [45]=true:=by
 have h:aS (45::r) [45]=true:=by simp [aS,ab]; omega
 exact ⟨by rw [bf,h]; rfl,h⟩
theorem fg {c:UInt8} (r:Str) (h:c≠45):bf (c::r) [45]=c::r∧aS (c::r) [45]=false:=by
 have h':aS (c::r) [45]=false:=by simp [aS,ab,h]
 exact ⟨by rw [bf,h']; rfl,h'⟩
theorem BW:bf [] [45]=[]∧aS [] [45]=false:=by decide
theorem lU {s:Str} (h:fh s=false):(dz s=true→aZ s=if aS s [45]=true then -(cI 0 (bf s [45]):Int) else (cI 0 (bf s [45]):Int))∧(dz s=false→9223372036854775808≤cI 0 (bf s [45])):=by
 simp only [fh,aq,ct] at h
 obtain ⟨⟨hne,hall⟩,_⟩:=h
 cases s with
 | nil=>rw [BW.1] at hne; simp at hne
 | cons c r =>
   by_cases hc:c=45
   · subst hc
     rw [(fE r).1] at hne hall ⊢
     rw [(fE r).2]
     have hr:r≠[]:=by simpa using hne
     have hu:Lib.parseUintB 64 r=if cI 0 r≤18446744073709551615 then .ok (cI 0 r) else .range:=by
      rw [Lib.parseUintB,if_neg hr]; exact Ac _ rfl r 0 hall (bJ _)
     have hp:Lib.parseIntB 64 (45::r)=if cI 0 r≤18446744073709551615 then (if 9223372036854775808<cI 0 r then .range else .ok (-(cI 0 r:Int))) else .range:=by
      simp only [Lib.parseIntB]
      have e1:((45:UInt8).toNat=43∨(45:UInt8).toNat=45):=.inr rfl
      rw [if_pos e1,hu]
      by_cases hv:cI 0 r≤18446744073709551615
      · rw [if_pos hv,if_pos hv]; simp
      · rw [if_neg hv,if_neg hv]
     unfold dz aZ
     rw [hp]
     by_cases hv:cI 0 r≤18446744073709551615
     · rw [if_pos hv]
       by_cases h2:9223372036854775808<cI 0 r
       · rw [if_pos h2]; exact ⟨fun h=>absurd h (by simp),fun _=>by omega⟩
       · rw [if_neg h2]; exact ⟨fun _=>by simp,fun h=>absurd h (by simp)⟩
     · rw [if_neg hv]; exact ⟨fun h=>absurd h (by simp),fun _=>by omega⟩
   · rw [(fg r hc).1] at hne hall ⊢
     rw [(fg r hc).2]
     have hdig:48≤c.toNat:=by
      have:=hall
      simp only [bA,af,isD,decide_eq_true_eq] at this; omega
     have hu:Lib.parseUintB 64 (c::r)=if cI 0 (c::r)≤18446744073709551615 then .ok (cI 0 (c::r)) else .range:=by
      rw [Lib.parseUintB,if_neg (by simp)]; exact Ac _ rfl (c::r) 0 hall (bJ _)
     have hp:Lib.parseIntB 64 (c::r)=if cI 0 (c::r)≤18446744073709551615 then (if 9223372036854775808≤cI 0 (c::r) then .range else .ok (cI 0 (c::r):Int)) else .range:=by
      simp only [Lib.parseIntB]
      have e1:¬(c.toNat=43∨c.toNat=45):=by omega
      have e2:¬c.toNat=45:=by omega
      rw [if_neg e1,hu]
      by_cases hv:cI 0 (c::r)≤18446744073709551615
      · rw [if_pos hv,if_pos hv]; simp [e2]
      · rw [if_neg hv,if_neg hv]
     unfold dz aZ
     rw [hp]
     by_cases hv:cI 0 (c::r)≤18446744073709551615
     · rw [if_pos hv]
       by_cases h2:9223372036854775808≤cI 0 (c::r)
       · rw [if_pos h2]; exact ⟨fun h=>absurd h (by simp),fun _=>by omega⟩
       · rw [if_neg h2]; exact ⟨fun _=>by simp,fun h=>absurd h (by simp)⟩
     · rw [if_neg hv]; exact ⟨fun h=>absurd h (by simp),fun _=>by omega⟩
/-! ### the program's -/
theorem AK (hs:s.length≤281474976710656):ak Tryz.prog 78 [.s s] [] (je (aQ s)) []:=by
 have hcl:(bf s [45]).length≤s.length:=by
  unfold bf
  cases aS s [45]
  · exact aD _
  · simp only [cond_true,aL]; omega
 have hL:ab (bf s [45])=((bf s [45]).length:Int):=rfl
 have hpos:(bf s [45]==[])=false→0<(bf s [45]).length:=fun h=>dW.2 (by simpa using h)
 cases hok:dz s
 · refine dg EN Tryz.func78 (let x1:=(bf s [(45:UInt8)]); .need ((bf s [(45:UInt8)]==[])=false→x1.length≤9223372036854775807) (.need ((bf s [(45:UInt8)]==[] || !kK x1==[])=false→(0:Int)≤0∧(0:Int)<ab x1) (.ite (bf s [(45:UInt8)]==[] || !kK x1==[]||(↑((List.getD x1 0 (0:UInt8)).toNat):Int)==48&&(decide (ab x1>(1:Int))||aS s [(45:UInt8)])) (.ret (.tup [.i 0,.i 1]) []) (.need (s.length≤281474976710656∧dz s=false) (.ite true (.ret (.tup [.i 0,.i 5]) []) (.ret (.tup [.i (aZ s),.i 0]) [])))))) fun Γ=>?_
   conv=>zeta
   rw [xW]
   refine ⟨fun _=>by omega,fun h=>?_,fun h=>⟨congrArg je (a₁:=(0,1)) ?_,rfl⟩,fun h=>⟨⟨hs,hok⟩,fun _=>⟨congrArg je (a₁:=(0,5)) ?_,rfl⟩,fun h=>Bool.noConfusion h⟩⟩
   · simp only [aq] at h
     have:=hpos h.1; omega
   · have hb:fh s=true:=h
     rw [aQ,if_pos hb]
   · have hb:fh s=false:=h
     have:=(lU hb).2 hok
     rw [aQ,if_neg (by rw [hb]; simp),if_pos (by omega)]
 · refine dg FV Tryz.func78 (let x1:=(bf s [(45:UInt8)]); .need ((bf s [(45:UInt8)]==[])=false→x1.length≤9223372036854775807) (.need ((bf s [(45:UInt8)]==[] || !kK x1==[])=false→(0:Int)≤0∧(0:Int)<ab x1) (.ite (bf s [(45:UInt8)]==[] || !kK x1==[]||(↑((List.getD x1 0 (0:UInt8)).toNat):Int)==48&&(decide (ab x1>(1:Int))||aS s [(45:UInt8)])) (.ret (.tup [.i 0,.i 1]) []) (.need (s.length≤281474976710656∧dz s=true) (.ite (false||decide (aZ s>(1099511627776:Int))||decide (aZ s<(-1099511627776:Int))) (.ret (.tup [.i 0,.i 5]) []) (.ret (.tup [.i (aZ s),.i 0]) [])))))) fun Γ=>?_
   conv=>zeta
   rw [xW]
   refine ⟨fun _=>by omega,fun h=>?_,fun h=>⟨congrArg je (a₁:=(0,1)) ?_,rfl⟩,fun h=>⟨⟨hs,hok⟩,fun g=>⟨congrArg je (a₁:=(0,5)) ?_,rfl⟩,fun g=>⟨congrArg je (a₁:=(aZ s,0)) ?_,rfl⟩⟩⟩
   · simp only [aq] at h
     have:=hpos h.1; omega
   · have hb:fh s=true:=h
     rw [aQ,if_pos hb]
   · have hb:fh s=false:=h
     have hv:=(lU hb).1 hok
     simp only [cl,aA,decide_eq_true_eq] at g
     rw [aQ,if_neg (by rw [hb]; simp),if_pos]
     rw [hv] at g
     split at g <;> omega
   · have hb:fh s=false:=h
     have hv:=(lU hb).1 hok
     simp only [cl,aq,decide_eq_false_iff_not] at g
     rw [aQ,if_neg (by rw [hb]; simp),if_neg,hv]
     rw [hv] at g
     split at g <;> omega
end Go.Proofs.YtpfidgnkokidoaaGreatDoor

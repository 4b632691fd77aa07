/- The library's contracts of strconv.ParseInt at base 10, 64 bits, laid at this dump by the kit's tools. Conditions: the errors' variables. The library's contracts of strings.Trim, laid at this dump by the kit's tools. Conditions: none. Contracts: strconv.ParseInt, strings.Trim, words.Number. Conditions: texts that are not too long; the errors' variables. -/
import Derived.Shelf.LaysC
import Derived.Shelf.Strconv.ErrVarParseInt
import Derived.Test.YtpfidgnkokidoaaGreatDoorProg
import Derived.Shelf.Lays
import Derived.Shelf.Strings.Trim
import Derived.Shelf.Strings.SlTrimAscii
import Derived.Test.YtpfidgnkokidoaaGreatDoorKd
import Derived.Lib.AtoiErrMem
namespace Go.Proofs
open Go.Shelf
def Tryz.laysC174_ren : Go.Shelf.Ren := ⟨fun | 174 => 116 | 247 => 151 | 245 => 152 | 287 => 179 | 279 => 180 | 280 => 181 | 281 => 182 | 282 => 183 | 321 => 202 | 322 => 203 | 316 => 204 | 171 => 206 | 205 => 205 | 243 => 215 | 246 => 132 | 283 => 172 | 284 => 173 | 285 => 174 | 286 => 175 | 129 => 198 | 317 => 197 | 318 => 199 | 319 => 200 | 320 => 201 | 337 => 213 | 338 => 214 | n => n, fun | 9 => 9 | 3 => 3 | 2 => 2 | 75 => 75 | 85 => 164 | 4 => 4 | 167 => 222 | 5 => 5 | 53 => 182 | 175 => 223 | 46 => 145 | 168 => 225 | 37 => 71 | 0 => 0 | 210 => 245 | 21 => 21 | 127 => 103 | 145 => 252 | 143 => 250 | 171 => 213 | 173 => 216 | 212 => 240 | 51 => 179 | 20 => 20 | 213 => 241 | 232 => 253 | 233 => 254 | 80 => 81 | n => n, fun | 15 => 4 | 16 => 5 | 17 => 3 | 18 => 6 | 19 => 7 | n => n⟩
theorem Tryz.laysC174 : Go.Proofs.LaysC.n174 Tryz.prog Tryz.laysC174_ren := {
 mixed := by kernel_rfl
 f129 := Tryz.func198.trans (congrArg some (by kernel_rfl))
 f171 := Tryz.func206.trans (congrArg some (by kernel_rfl))
 f174 := Tryz.func116.trans (congrArg some (by kernel_rfl))
 f205 := Tryz.func205.trans (congrArg some (by kernel_rfl))
 f243 := Tryz.func215.trans (congrArg some (by kernel_rfl))
 f245 := Tryz.func152.trans (congrArg some (by kernel_rfl))
 f246 := Tryz.func132.trans (congrArg some (by kernel_rfl))
 f247 := Tryz.func151.trans (congrArg some (by kernel_rfl))
 f279 := Tryz.func180.trans (congrArg some (by kernel_rfl))
 f280 := Tryz.func181.trans (congrArg some (by kernel_rfl))
 f281 := Tryz.func182.trans (congrArg some (by kernel_rfl))
 f282 := Tryz.func183.trans (congrArg some (by kernel_rfl))
 f283 := Tryz.func172.trans (congrArg some (by kernel_rfl))
 f284 := Tryz.func173.trans (congrArg some (by kernel_rfl))
 f285 := Tryz.func174.trans (congrArg some (by kernel_rfl))
 f286 := Tryz.func175.trans (congrArg some (by kernel_rfl))
 f287 := Tryz.func179.trans (congrArg some (by kernel_rfl))
 f316 := Tryz.func204.trans (congrArg some (by kernel_rfl))
 f317 := Tryz.func197.trans (congrArg some (by kernel_rfl))
 f318 := Tryz.func199.trans (congrArg some (by kernel_rfl))
 f319 := Tryz.func200.trans (congrArg some (by kernel_rfl))
 f320 := Tryz.func201.trans (congrArg some (by kernel_rfl))
 f321 := Tryz.func202.trans (congrArg some (by kernel_rfl))
 f322 := Tryz.func203.trans (congrArg some (by kernel_rfl))
 f337 := Tryz.func213.trans (congrArg some (by kernel_rfl))
 f338 := Tryz.func214.trans (congrArg some (by kernel_rfl))
 t0 := Tryz.underlying0
 a0 := Tryz.isAgg0
 z0 := Tryz.sizeOf0
 v0 := Tryz.zeroValue0
 t2 := Tryz.underlying2
 a2 := Tryz.isAgg2
 z2 := Tryz.sizeOf2
 v2 := Tryz.zeroValue2
 t3 := Tryz.underlying3
 a3 := Tryz.isAgg3
 z3 := Tryz.sizeOf3
 v3 := Tryz.zeroValue3
 t4 := Tryz.underlying4
 a4 := Tryz.isAgg4
 z4 := Tryz.sizeOf4
 v4 := Tryz.zeroValue4
 t5 := Tryz.underlying5
 a5 := Tryz.isAgg5
 z5 := Tryz.sizeOf5
 v5 := Tryz.zeroValue5
 t9 := Tryz.underlying9
 a9 := Tryz.isAgg9
 z9 := Tryz.sizeOf9
 v9 := Tryz.zeroValue9
 t20 := Tryz.underlying20
 a20 := Tryz.isAgg20
 z20 := Tryz.sizeOf20
 v20 := Tryz.zeroValue20
 t21 := Tryz.underlying21
 a21 := Tryz.isAgg21
 z21 := Tryz.sizeOf21
 v21 := Tryz.zeroValue21
 t37 := Tryz.underlying71
 a37 := Tryz.isAgg71
 z37 := Tryz.sizeOf71
 v37 := Tryz.zeroValue71
 t46 := Tryz.underlying145
 a46 := Tryz.isAgg145
 z46 := Tryz.sizeOf145
 v46 := Tryz.zeroValue145
 t51 := Tryz.underlying179
 a51 := Tryz.isAgg179
 z51 := Tryz.sizeOf179
 v51 := Tryz.zeroValue179
 t53 := Tryz.underlying182
 a53 := Tryz.isAgg182
 z53 := Tryz.sizeOf182
 v53 := Tryz.zeroValue182
 t75 := Tryz.underlying75
 a75 := Tryz.isAgg75
 z75 := Tryz.sizeOf75
 v75 := Tryz.zeroValue75
 t85 := Tryz.underlying164
 a85 := Tryz.isAgg164
 z85 := Tryz.sizeOf164
 v85 := Tryz.zeroValue164
 t127 := Tryz.underlying103
 a127 := Tryz.isAgg103
 z127 := Tryz.sizeOf103
 v127 := Tryz.zeroValue103
 t143 := Tryz.underlying250
 a143 := Tryz.isAgg250
 z143 := Tryz.sizeOf250
 v143 := Tryz.zeroValue250
 t145 := Tryz.underlying252
 a145 := Tryz.isAgg252
 z145 := Tryz.sizeOf252
 v145 := Tryz.zeroValue252
 t167 := Tryz.underlying222
 a167 := Tryz.isAgg222
 z167 := Tryz.sizeOf222
 v167 := Tryz.zeroValue222
 t168 := Tryz.underlying225
 a168 := Tryz.isAgg225
 z168 := Tryz.sizeOf225
 v168 := Tryz.zeroValue225
 t171 := Tryz.underlying213
 a171 := Tryz.isAgg213
 z171 := Tryz.sizeOf213
 v171 := Tryz.zeroValue213
 t173 := Tryz.underlying216
 a173 := Tryz.isAgg216
 z173 := Tryz.sizeOf216
 v173 := Tryz.zeroValue216
 t175 := Tryz.underlying223
 a175 := Tryz.isAgg223
 z175 := Tryz.sizeOf223
 v175 := Tryz.zeroValue223
 t210 := Tryz.underlying245
 a210 := Tryz.isAgg245
 z210 := Tryz.sizeOf245
 v210 := Tryz.zeroValue245
 t212 := Tryz.underlying240
 a212 := Tryz.isAgg240
 z212 := Tryz.sizeOf240
 v212 := Tryz.zeroValue240
 t213 := Tryz.underlying241
 a213 := Tryz.isAgg241
 z213 := Tryz.sizeOf241
 t232 := Tryz.underlying253
 a232 := Tryz.isAgg253
 z232 := Tryz.sizeOf253
 v232 := Tryz.zeroValue253
 t233 := Tryz.underlying254
 a233 := Tryz.isAgg254
 z233 := Tryz.sizeOf254
 v233 := Tryz.zeroValue254
 g15 := by kernel_rfl
 g16 := by kernel_rfl
 g17 := by kernel_rfl
 g18 := by kernel_rfl
 g19 := by kernel_rfl
 t80 := Tryz.underlying81
 a80 := Tryz.isAgg81
 z80 := Tryz.sizeOf81
 v80 := Tryz.zeroValue81
 i0 := by kernel_rfl
 i2 := by kernel_rfl
 i3 := by kernel_rfl
 i4 := by kernel_rfl
 i5 := by kernel_rfl
 i9 := by kernel_rfl
 i20 := by kernel_rfl
 i21 := by kernel_rfl
 i37 := by kernel_rfl
 i46 := by kernel_rfl
 i51 := by kernel_rfl
 i53 := by kernel_rfl
 i75 := by kernel_rfl
 i80 := by kernel_rfl
 i85 := by kernel_rfl
 i127 := by kernel_rfl
 i143 := by kernel_rfl
 i145 := by kernel_rfl
 i167 := by kernel_rfl
 i168 := by kernel_rfl
 i171 := by kernel_rfl
 i173 := by kernel_rfl
 i175 := by kernel_rfl
 i210 := by kernel_rfl
 i212 := by kernel_rfl
 i232 := by kernel_rfl
 i233 := by kernel_rfl
 m15 := by kernel_rfl
 m16 := by kernel_rfl
 m17 := by kernel_rfl
 m18 := by kernel_rfl
 m19 := by kernel_rfl
 c0 := by kernel_rfl
 c2 := by kernel_rfl
 c3 := by kernel_rfl
 c4 := by kernel_rfl
 c5 := by kernel_rfl
 c9 := by kernel_rfl
 c20 := by kernel_rfl
 c21 := by kernel_rfl
 c37 := by kernel_rfl
 c46 := by kernel_rfl
 c51 := by kernel_rfl
 c53 := by kernel_rfl
 c75 := by kernel_rfl
 c80 := by kernel_rfl
 c85 := by kernel_rfl
 c127 := by kernel_rfl
 c143 := by kernel_rfl
 c145 := by kernel_rfl
 c167 := by kernel_rfl
 c168 := by kernel_rfl
 c171 := by kernel_rfl
 c173 := by kernel_rfl
 c175 := by kernel_rfl
 c210 := by kernel_rfl
 c212 := by kernel_rfl
 c213 := by kernel_rfl
 c232 := by kernel_rfl
 c233 := by kernel_rfl }
open Go.RowKit in
theorem Tryz.strconv_ParseInt_10_at64_ok (s : ByteArray) (hmax : s.size ≤ 9223372036854775806) (v : Int) (h : Lib.parseIntB 64 s.data.toList = .ok v) (w : World) :
 Calls Tryz.prog 116 #[.string s, .int .i64 10, .int .i64 64] w fun e w' => e = .returned (.tuple #[.int .i64 v, .nilIface]) ∧ (w' = w ∨ ∃ t, w' = Lib.bytesWorld w 5 t) := Any.strconv_ParseInt_10_at64_ok Tryz.laysC174 s hmax v h w
open Go.RowKit in
theorem Tryz.strconv_ParseInt_10_at64_syntax_var (s : ByteArray) (hlim : s.size ≤ 281474976710656) (h : Lib.parseIntB 64 s.data.toList = .syntax) (tp : TypeId) (p : Value) (w : World) (hvar : w.var? Tryz.prog "strconv.ErrSyntax" = some #[.iface tp p]) :
 Calls Tryz.prog 116 #[.string s, .int .i64 10, .int .i64 64] w fun e w' => ∃ N, e = .returned (.tuple #[.int .i64 (0), .iface 225 (.pointer (some ⟨N, 0, none⟩))]) ∧ w.heap.size ≤ N ∧ w'.heap[N]? = some (.cells #[.string ⟨#[80, 97, 114, 115, 101, 73, 110, 116]⟩, .string s, .iface tp p] 245 (0, 0)) ∧ Below w.heap.size w w' := Any.strconv_ParseInt_10_at64_syntax_var Tryz.laysC174 s hlim h tp p w hvar
open Go.RowKit in
theorem Tryz.strconv_ParseInt_10_at64_range_var (s : ByteArray) (hlim : s.size ≤ 281474976710656) (h : Lib.parseIntB 64 s.data.toList = .range) (tp : TypeId) (p : Value) (w : World) (hvar : w.var? Tryz.prog "strconv.ErrRange" = some #[.iface tp p]) :
 Calls Tryz.prog 116 #[.string s, .int .i64 10, .int .i64 64] w fun e w' => ∃ N, e = .returned (.tuple #[.int .i64 (Lib.intSat 64 s.data.toList), .iface 225 (.pointer (some ⟨N, 0, none⟩))]) ∧ w.heap.size ≤ N ∧ w'.heap[N]? = some (.cells #[.string ⟨#[80, 97, 114, 115, 101, 73, 110, 116]⟩, .string s, .iface tp p] 245 (0, 0)) ∧ Below w.heap.size w w' := Any.strconv_ParseInt_10_at64_range_var Tryz.laysC174 s hlim h tp p w hvar
def Tryz.lays160_ren : Go.Shelf.Ren := ⟨fun | 160 => 115 | 232 => 145 | 231 => 144 | 227 => 146 | 234 => 148 | 233 => 147 | 236 => 150 | 235 => 149 | 228 => 155 | 271 => 156 | 151 => 178 | 197 => 124 | 120 => 186 | 152 => 153 | 260 => 164 | 137 => 184 | 119 => 185 | 224 => 167 | 225 => 166 | 217 => 165 | 266 => 191 | n => n, fun | 9 => 9 | 4 => 4 | 3 => 3 | 5 => 5 | 117 => 191 | 116 => 190 | 0 => 0 | 124 => 194 | 21 => 21 | 105 => 173 | 46 => 145 | 119 => 232 | 139 => 235 | 138 => 234 | n => n, fun | 3 => 1 | 4 => 2 | n => n⟩
theorem Tryz.lays160 : Go.Proofs.Lays.n160 Tryz.prog Tryz.lays160_ren := {
 mixed := by kernel_rfl
 f119 := Tryz.func185.trans (congrArg some (by kernel_rfl))
 f120 := Tryz.func186.trans (congrArg some (by kernel_rfl))
 f137 := Tryz.func184.trans (congrArg some (by kernel_rfl))
 f151 := Tryz.func178.trans (congrArg some (by kernel_rfl))
 f152 := Tryz.func153.trans (congrArg some (by kernel_rfl))
 f160 := Tryz.func115.trans (congrArg some (by kernel_rfl))
 f197 := Tryz.func124.trans (congrArg some (by kernel_rfl))
 f217 := Tryz.func165.trans (congrArg some (by kernel_rfl))
 f224 := Tryz.func167.trans (congrArg some (by kernel_rfl))
 f225 := Tryz.func166.trans (congrArg some (by kernel_rfl))
 f227 := Tryz.func146.trans (congrArg some (by kernel_rfl))
 f228 := Tryz.func155.trans (congrArg some (by kernel_rfl))
 f231 := Tryz.func144.trans (congrArg some (by kernel_rfl))
 f232 := Tryz.func145.trans (congrArg some (by kernel_rfl))
 f233 := Tryz.func147.trans (congrArg some (by kernel_rfl))
 f234 := Tryz.func148.trans (congrArg some (by kernel_rfl))
 f235 := Tryz.func149.trans (congrArg some (by kernel_rfl))
 f236 := Tryz.func150.trans (congrArg some (by kernel_rfl))
 f260 := Tryz.func164.trans (congrArg some (by kernel_rfl))
 f266 := Tryz.func191.trans (congrArg some (by kernel_rfl))
 f271 := Tryz.func156.trans (congrArg some (by kernel_rfl))
 t0 := Tryz.underlying0
 a0 := Tryz.isAgg0
 z0 := Tryz.sizeOf0
 v0 := Tryz.zeroValue0
 t3 := Tryz.underlying3
 a3 := Tryz.isAgg3
 z3 := Tryz.sizeOf3
 v3 := Tryz.zeroValue3
 t4 := Tryz.underlying4
 a4 := Tryz.isAgg4
 z4 := Tryz.sizeOf4
 v4 := Tryz.zeroValue4
 t5 := Tryz.underlying5
 a5 := Tryz.isAgg5
 z5 := Tryz.sizeOf5
 v5 := Tryz.zeroValue5
 t9 := Tryz.underlying9
 a9 := Tryz.isAgg9
 z9 := Tryz.sizeOf9
 v9 := Tryz.zeroValue9
 t21 := Tryz.underlying21
 a21 := Tryz.isAgg21
 z21 := Tryz.sizeOf21
 v21 := Tryz.zeroValue21
 t46 := Tryz.underlying145
 a46 := Tryz.isAgg145
 z46 := Tryz.sizeOf145
 v46 := Tryz.zeroValue145
 t105 := Tryz.underlying173
 a105 := Tryz.isAgg173
 z105 := Tryz.sizeOf173
 v105 := Tryz.zeroValue173
 t116 := Tryz.underlying190
 a116 := Tryz.isAgg190
 z116 := Tryz.sizeOf190
 t117 := Tryz.underlying191
 a117 := Tryz.isAgg191
 z117 := Tryz.sizeOf191
 v117 := Tryz.zeroValue191
 t119 := Tryz.underlying232
 a119 := Tryz.isAgg232
 z119 := Tryz.sizeOf232
 t124 := Tryz.underlying194
 a124 := Tryz.isAgg194
 z124 := Tryz.sizeOf194
 v124 := Tryz.zeroValue194
 t138 := Tryz.underlying234
 a138 := Tryz.isAgg234
 z138 := Tryz.sizeOf234
 v138 := Tryz.zeroValue234
 t139 := Tryz.underlying235
 a139 := Tryz.isAgg235
 z139 := Tryz.sizeOf235
 v139 := Tryz.zeroValue235
 g3 := by kernel_rfl
 g4 := by kernel_rfl }
end Go.Proofs
namespace Go.Proofs.YtpfidgnkokidoaaGreatDoor
open Go Go.Ev Go.RowKit
set_option maxRecDepth 100000
variable (s : Str)
def aJ : Int := match Lib.parseIntB 64 s with
 | .ok v => v
 | .syntax => 0
 | .range => Lib.intSat 64 s
def cy : Bool := match Lib.parseIntB 64 s with
 | .ok _ => true
 | _ => false
def eY : Str := [48, 49, 50, 51, 52, 53, 54, 55, 56, 57]
def iS : Str := Lib.trimS s eY
theorem pz {V : Vn} {s : Str} {vs : List Value} (hv : All2 (SX.R V) [SX.s s, SX.i 10, SX.i 64] vs) : vs = [.string (bs s), .int .i64 10, .int .i64 64] := by
 cases hv with
 | cons a1 hv => cases hv with
   | cons a2 hv => cases hv with
     | cons a3 hv =>
       cases hv
       have a1' : PR V.H (.str s) _ := a1
       have a2' : PR V.H (.int .i64 10) _ := a2
       have a3' : PR V.H (.int .i64 64) _ := a3
       cases a1'; cases a2'; cases a3'
       rfl
theorem C9 (hs : s.length ≤ 281474976710656) (h : cy s = true) : ah Tryz.prog 116 [.s s, .i 10, .i 64] [] (.tup [.i (aJ s), .c (.pd (.v .nilIface))]) [] := by
 intro w V vs hw hT hv
 rw [pz hv]
 have hsz : (bs s).size = s.length := dq s
 unfold cy at h
 split at h
 · rename_i v hp
   refine (Tryz.strconv_ParseInt_10_at64_ok (bs s) (by omega) v (by rw [bX]; exact hp) w).mono fun e w' ⟨he, hw'⟩ => ?_
   subst he
   have hb : Below w.heap.size w w' := by
    rcases hw' with rfl | ⟨t, rfl⟩
    · exact Below.refl _ _
    · exact Lib.bytesWorld_below w _ t
   have ev : aJ s = v := by simp [aJ, hp]
   exact ⟨_, V, rfl, ⟨_, rfl, .cons (by rw [ev]; exact PR.int _ _) (.cons (PR.v _ rfl) .nil)⟩, hw.kept (gX hb)⟩
 · cases h
theorem yW (hs : s.length ≤ 281474976710656) (h : cy s = false) : ah Tryz.prog 116 [.s s, .i 10, .i 64] [] (.tup [.i (aJ s), .c (.pd .err)]) [] := by
 intro w V vs hw hT hv
 rw [pz hv]
 have hsz : (bs s).size = s.length := dq s
 unfold cy at h
 split at h
 · cases h
 · rename_i hn
   rcases hp : Lib.parseIntB 64 s with v | - | -
   · exact absurd hp (hn v)
   · obtain ⟨tp, p, hm⟩ := (hT.2.1) (by kernel_rfl)
     refine (Tryz.strconv_ParseInt_10_at64_syntax_var (bs s) (by omega) (by rw [bX]; exact hp) tp p w (hm.world hw.imm)).mono fun e w' ⟨N, he, _, _, hb⟩ => ?_
     subst he
     have ev : aJ s = 0 := by simp [aJ, hp]
     exact ⟨_, V, rfl, ⟨_, rfl, .cons (by rw [ev]; exact PR.int _ _) (.cons (PR.err _ _) .nil)⟩, hw.kept (gX hb)⟩
   · obtain ⟨tp, p, hm⟩ := (hT.2.2.1) (by kernel_rfl)
     refine (Tryz.strconv_ParseInt_10_at64_range_var (bs s) (by omega) (by rw [bX]; exact hp) tp p w (hm.world hw.imm)).mono fun e w' ⟨N, he, _, _, hb⟩ => ?_
     subst he
     have ev : aJ s = Lib.intSat 64 s := by simp [aJ, hp]
     exact ⟨_, V, rfl, ⟨_, rfl, .cons (by rw [ev]; have := PR.int (H := V.H) .i64 (Lib.intSat 64 s); rw [bX]; exact this) (.cons (PR.err _ _) .nil)⟩, hw.kept (gX hb)⟩
theorem yR (hs : s.length ≤ 9223372036854775807) : ah Tryz.prog 115 [.s s, .s eY] [] (.x (.s (iS s))) [] := by
 intro w V vs hw hT hv
 cases hv with
 | cons a1 hv => cases hv with
   | cons a2 hv =>
     cases hv
     have a1' : PR V.H (.str s) _ := a1
     have a2' : PR V.H (.str eY) _ := a2
     cases a1'; cases a2'
     have hsz : (bs s).size = s.length := dq s
     refine (Any.strings_Trim_laid Tryz.lays160 (by kernel_rfl) (bs s) (bs eY) w (by omega) (by decide) (Go.Proofs.ascii_of_all (by decide))).mono fun e w' ⟨he, hb⟩ => ?_
     subst he
     refine ⟨_, V, rfl, ?_, hw.kept (gX hb)⟩
     have e1 : (bs s).data.toList = s := bX s
     have e2 : (bs eY).data.toList = eY := bX eY
     rw [e1, e2]
     exact PR.str (iS s)
def kB : Ent := (116, fun
 | [.c (.pd (.str s)), .c (.pd (.int .i64 10)), .c (.pd (.int .i64 64))], [] => some (some (s.length ≤ 281474976710656 ∧ cy s = true), .tup [.c (.pd (.int .i64 (aJ s))), .c (.pd (.v .nilIface))], [])
 | _, _ => none)
theorem o9 : EntOk Tryz.prog kB := entOk fun vs ck => by
 unfold kB; dsimp only; split
 · rename_i s; exact entS fun hp => C9 s hp.1 hp.2
 · exact entN
def kq : Ent := (116, fun
 | [.c (.pd (.str s)), .c (.pd (.int .i64 10)), .c (.pd (.int .i64 64))], [] => some (some (s.length ≤ 281474976710656 ∧ cy s = false), .tup [.c (.pd (.int .i64 (aJ s))), .c (.pd .err)], [])
 | _, _ => none)
theorem o2 : EntOk Tryz.prog kq := entOk fun vs ck => by
 unfold kq; dsimp only; split
 · rename_i s; exact entS fun hp => yW s hp.1 hp.2
 · exact entN
def oW : Ent := (115, fun
 | [.c (.pd (.str s)), .c (.pd (.str [48, 49, 50, 51, 52, 53, 54, 55, 56, 57]))], [] => some (some (s.length ≤ 9223372036854775807), .x (.c (.pd (.str (iS s)))), [])
 | _, _ => none)
theorem tK : EntOk Tryz.prog oW := entOk fun vs ck => by
 unfold oW; dsimp only; split
 · rename_i s; exact entS fun hp => yR s hp
 · exact entN
def Bp : Cfg := ⟨bn, [lQ, oW, kB]⟩
theorem Bi : ag Tryz.prog Bp.tab := (ag.cons kC (ag.cons tK (ag.cons o9 ag.nil)))
def Bb : Cfg := ⟨bn, [lQ, oW, kq]⟩
theorem yx : ag Tryz.prog Bb.tab := (ag.cons kC (ag.cons tK (ag.cons o2 ag.nil)))
end Go.Proofs.YtpfidgnkokidoaaGreatDoor

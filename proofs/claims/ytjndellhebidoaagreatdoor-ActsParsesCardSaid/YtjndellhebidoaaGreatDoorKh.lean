/- The library's contracts of strconv.ParseInt at base 10, 64 bits, laid at this dump by the kit's tools. Conditions: the errors' variables. The library's contracts of strings.Trim, laid at this dump by the kit's tools. Conditions: none. Contracts: strconv.ParseInt, strings.Trim, words.Number. Conditions: texts that are not too long; the errors' variables. -/
import Derived.Shelf.LaysC
import Derived.Shelf.Strconv.ErrVarParseInt
import Derived.Test.YtjndellhebidoaaGreatDoorProg
import Derived.Shelf.Lays
import Derived.Shelf.Strings.Trim
import Derived.Shelf.Strings.SlTrimAscii
import Derived.Test.YtjndellhebidoaaGreatDoorNa
import Derived.Test.YtjndellhebidoaaGreatDoorPX
import Derived.Lib.AtoiErrMem
namespace Go.Proofs
open Go.Shelf
def Tryz.laysC174_ren : Go.Shelf.Ren := ⟨fun | 174 => 168 | 247 => 178 | 245 => 179 | 287 => 183 | 279 => 184 | 280 => 185 | 281 => 186 | 282 => 187 | 321 => 190 | 322 => 191 | 316 => 192 | 171 => 194 | 205 => 193 | 243 => 197 | 246 => 148 | 283 => 157 | 284 => 158 | 285 => 159 | 286 => 160 | 129 => 163 | 317 => 162 | 318 => 164 | 319 => 165 | 320 => 166 | 337 => 169 | 338 => 170 | n => n, fun | 9 => 9 | 3 => 3 | 2 => 2 | 75 => 110 | 85 => 208 | 4 => 4 | 167 => 222 | 5 => 5 | 53 => 178 | 175 => 223 | 46 => 173 | 168 => 225 | 37 => 105 | 0 => 0 | 210 => 232 | 21 => 21 | 127 => 146 | 145 => 237 | 143 => 235 | 171 => 196 | 173 => 199 | 212 => 203 | 51 => 191 | 20 => 20 | 213 => 204 | 232 => 219 | 233 => 220 | 80 => 113 | n => n, fun | 15 => 6 | 16 => 7 | 17 => 3 | 18 => 4 | 19 => 5 | n => n⟩
theorem Tryz.laysC174 : Go.Proofs.LaysC.n174 Tryz.prog Tryz.laysC174_ren := {
  mixed := by kernel_rfl
  f129 := Tryz.func163.trans (congrArg some (by kernel_rfl))
  f171 := Tryz.func194.trans (congrArg some (by kernel_rfl))
  f174 := Tryz.func168.trans (congrArg some (by kernel_rfl))
  f205 := Tryz.func193.trans (congrArg some (by kernel_rfl))
  f243 := Tryz.func197.trans (congrArg some (by kernel_rfl))
  f245 := Tryz.func179.trans (congrArg some (by kernel_rfl))
  f246 := Tryz.func148.trans (congrArg some (by kernel_rfl))
  f247 := Tryz.func178.trans (congrArg some (by kernel_rfl))
  f279 := Tryz.func184.trans (congrArg some (by kernel_rfl))
  f280 := Tryz.func185.trans (congrArg some (by kernel_rfl))
  f281 := Tryz.func186.trans (congrArg some (by kernel_rfl))
  f282 := Tryz.func187.trans (congrArg some (by kernel_rfl))
  f283 := Tryz.func157.trans (congrArg some (by kernel_rfl))
  f284 := Tryz.func158.trans (congrArg some (by kernel_rfl))
  f285 := Tryz.func159.trans (congrArg some (by kernel_rfl))
  f286 := Tryz.func160.trans (congrArg some (by kernel_rfl))
  f287 := Tryz.func183.trans (congrArg some (by kernel_rfl))
  f316 := Tryz.func192.trans (congrArg some (by kernel_rfl))
  f317 := Tryz.func162.trans (congrArg some (by kernel_rfl))
  f318 := Tryz.func164.trans (congrArg some (by kernel_rfl))
  f319 := Tryz.func165.trans (congrArg some (by kernel_rfl))
  f320 := Tryz.func166.trans (congrArg some (by kernel_rfl))
  f321 := Tryz.func190.trans (congrArg some (by kernel_rfl))
  f322 := Tryz.func191.trans (congrArg some (by kernel_rfl))
  f337 := Tryz.func169.trans (congrArg some (by kernel_rfl))
  f338 := Tryz.func170.trans (congrArg some (by kernel_rfl))
  t0 := Tryz.underlying0
  a0 := Tryz.isAgg0
  z0 := Tryz.sizeOf0
  v0 := Tryz.zeroValue0
  t2 := Tryz.underlying2
  a2 := Tryz.isAgg2
  z2 := Tryz.sizeOf2
  v2 := Tryz.zeroValue2
  t3 := Tryz.underlying3
  a3 := Tryz.isAgg3
  z3 := Tryz.sizeOf3
  v3 := Tryz.zeroValue3
  t4 := Tryz.underlying4
  a4 := Tryz.isAgg4
  z4 := Tryz.sizeOf4
  v4 := Tryz.zeroValue4
  t5 := Tryz.underlying5
  a5 := Tryz.isAgg5
  z5 := Tryz.sizeOf5
  v5 := Tryz.zeroValue5
  t9 := Tryz.underlying9
  a9 := Tryz.isAgg9
  z9 := Tryz.sizeOf9
  v9 := Tryz.zeroValue9
  t20 := Tryz.underlying20
  a20 := Tryz.isAgg20
  z20 := Tryz.sizeOf20
  v20 := Tryz.zeroValue20
  t21 := Tryz.underlying21
  a21 := Tryz.isAgg21
  z21 := Tryz.sizeOf21
  v21 := Tryz.zeroValue21
  t37 := Tryz.underlying105
  a37 := Tryz.isAgg105
  z37 := Tryz.sizeOf105
  v37 := Tryz.zeroValue105
  t46 := Tryz.underlying173
  a46 := Tryz.isAgg173
  z46 := Tryz.sizeOf173
  v46 := Tryz.zeroValue173
  t51 := Tryz.underlying191
  a51 := Tryz.isAgg191
  z51 := Tryz.sizeOf191
  v51 := Tryz.zeroValue191
  t53 := Tryz.underlying178
  a53 := Tryz.isAgg178
  z53 := Tryz.sizeOf178
  v53 := Tryz.zeroValue178
  t75 := Tryz.underlying110
  a75 := Tryz.isAgg110
  z75 := Tryz.sizeOf110
  v75 := Tryz.zeroValue110
  t85 := Tryz.underlying208
  a85 := Tryz.isAgg208
  z85 := Tryz.sizeOf208
  v85 := Tryz.zeroValue208
  t127 := Tryz.underlying146
  a127 := Tryz.isAgg146
  z127 := Tryz.sizeOf146
  v127 := Tryz.zeroValue146
  t143 := Tryz.underlying235
  a143 := Tryz.isAgg235
  z143 := Tryz.sizeOf235
  v143 := Tryz.zeroValue235
  t145 := Tryz.underlying237
  a145 := Tryz.isAgg237
  z145 := Tryz.sizeOf237
  v145 := Tryz.zeroValue237
  t167 := Tryz.underlying222
  a167 := Tryz.isAgg222
  z167 := Tryz.sizeOf222
  v167 := Tryz.zeroValue222
  t168 := Tryz.underlying225
  a168 := Tryz.isAgg225
  z168 := Tryz.sizeOf225
  v168 := Tryz.zeroValue225
  t171 := Tryz.underlying196
  a171 := Tryz.isAgg196
  z171 := Tryz.sizeOf196
  v171 := Tryz.zeroValue196
  t173 := Tryz.underlying199
  a173 := Tryz.isAgg199
  z173 := Tryz.sizeOf199
  v173 := Tryz.zeroValue199
  t175 := Tryz.underlying223
  a175 := Tryz.isAgg223
  z175 := Tryz.sizeOf223
  v175 := Tryz.zeroValue223
  t210 := Tryz.underlying232
  a210 := Tryz.isAgg232
  z210 := Tryz.sizeOf232
  v210 := Tryz.zeroValue232
  t212 := Tryz.underlying203
  a212 := Tryz.isAgg203
  z212 := Tryz.sizeOf203
  v212 := Tryz.zeroValue203
  t213 := Tryz.underlying204
  a213 := Tryz.isAgg204
  z213 := Tryz.sizeOf204
  t232 := Tryz.underlying219
  a232 := Tryz.isAgg219
  z232 := Tryz.sizeOf219
  v232 := Tryz.zeroValue219
  t233 := Tryz.underlying220
  a233 := Tryz.isAgg220
  z233 := Tryz.sizeOf220
  v233 := Tryz.zeroValue220
  g15 := by kernel_rfl
  g16 := by kernel_rfl
  g17 := by kernel_rfl
  g18 := by kernel_rfl
  g19 := by kernel_rfl
  t80 := Tryz.underlying113
  a80 := Tryz.isAgg113
  z80 := Tryz.sizeOf113
  v80 := Tryz.zeroValue113
  i0 := by kernel_rfl
  i2 := by kernel_rfl
  i3 := by kernel_rfl
  i4 := by kernel_rfl
  i5 := by kernel_rfl
  i9 := by kernel_rfl
  i20 := by kernel_rfl
  i21 := by kernel_rfl
  i37 := by kernel_rfl
  i46 := by kernel_rfl
  i51 := by kernel_rfl
  i53 := by kernel_rfl
  i75 := by kernel_rfl
  i80 := by kernel_rfl
  i85 := by kernel_rfl
  i127 := by kernel_rfl
  i143 := by kernel_rfl
  i145 := by kernel_rfl
  i167 := by kernel_rfl
  i168 := by kernel_rfl
  i171 := by kernel_rfl
  i173 := by kernel_rfl
  i175 := by kernel_rfl
  i210 := by kernel_rfl
  i212 := by kernel_rfl
  i232 := by kernel_rfl
  i233 := by kernel_rfl
  m15 := by kernel_rfl
  m16 := by kernel_rfl
  m17 := by kernel_rfl
  m18 := by kernel_rfl
  m19 := by kernel_rfl
  c0 := by kernel_rfl
  c2 := by kernel_rfl
  c3 := by kernel_rfl
  c4 := by kernel_rfl
  c5 := by kernel_rfl
  c9 := by kernel_rfl
  c20 := by kernel_rfl
  c21 := by kernel_rfl
  c37 := by kernel_rfl
  c46 := by kernel_rfl
  c51 := by kernel_rfl
  c53 := by kernel_rfl
  c75 := by kernel_rfl
  c80 := by kernel_rfl
  c85 := by kernel_rfl
  c127 := by kernel_rfl
  c143 := by kernel_rfl
  c145 := by kernel_rfl
  c167 := by kernel_rfl
  c168 := by kernel_rfl
  c171 := by kernel_rfl
  c173 := by kernel_rfl
  c175 := by kernel_rfl
  c210 := by kernel_rfl
  c212 := by kernel_rfl
  c213 := by kernel_rfl
  c232 := by kernel_rfl
  c233 := by kernel_rfl }
open Go.RowKit in
/-- strconv.ParseInt(s, 10, 64), AT EVERY STRING THAT SPELLS AN int64 ('Lib.parseIntB 64 s.data.toList = .ok v'): v, AND NO ERROR. (LAID: no walk: one application.) -/
theorem Tryz.strconv_ParseInt_10_at64_ok (s : ByteArray) (hmax : s.size ≤ 9223372036854775806) (v : Int) (h : Lib.parseIntB 64 s.data.toList = .ok v) (w : World) :
    Calls Tryz.prog 168 #[.string s, .int .i64 10, .int .i64 64] w fun e w' => e = .returned (.tuple #[.int .i64 v, .nilIface]) ∧ (w' = w ∨ ∃ t, w' = Lib.bytesWorld w 5 t) := Any.strconv_ParseInt_10_at64_ok Tryz.laysC174 s hmax v h w
open Go.RowKit in
theorem Tryz.strconv_ParseInt_10_at64_syntax_var (s : ByteArray) (hlim : s.size ≤ 281474976710656) (h : Lib.parseIntB 64 s.data.toList = .syntax) (tp : TypeId) (p : Value) (w : World) (hvar : w.var? Tryz.prog "strconv.ErrSyntax" = some #[.iface tp p]) :
    Calls Tryz.prog 168 #[.string s, .int .i64 10, .int .i64 64] w fun e w' => ∃ N, e = .returned (.tuple #[.int .i64 (0), .iface 225 (.pointer (some ⟨N, 0, none⟩))]) ∧ w.heap.size ≤ N ∧ w'.heap[N]? = some (.cells #[.string ⟨#[80, 97, 114, 115, 101, 73, 110, 116]⟩, .string s, .iface tp p] 232 (0, 0)) ∧ Below w.heap.size w w' := Any.strconv_ParseInt_10_at64_syntax_var Tryz.laysC174 s hlim h tp p w hvar
open Go.RowKit in
theorem Tryz.strconv_ParseInt_10_at64_range_var (s : ByteArray) (hlim : s.size ≤ 281474976710656) (h : Lib.parseIntB 64 s.data.toList = .range) (tp : TypeId) (p : Value) (w : World) (hvar : w.var? Tryz.prog "strconv.ErrRange" = some #[.iface tp p]) :
    Calls Tryz.prog 168 #[.string s, .int .i64 10, .int .i64 64] w fun e w' => ∃ N, e = .returned (.tuple #[.int .i64 (Lib.intSat 64 s.data.toList), .iface 225 (.pointer (some ⟨N, 0, none⟩))]) ∧ w.heap.size ≤ N ∧ w'.heap[N]? = some (.cells #[.string ⟨#[80, 97, 114, 115, 101, 73, 110, 116]⟩, .string s, .iface tp p] 232 (0, 0)) ∧ Below w.heap.size w w' := Any.strconv_ParseInt_10_at64_range_var Tryz.laysC174 s hlim h tp p w hvar
end Go.Proofs
namespace Go.Proofs
open Go.Shelf
def Tryz.lays160_ren : Go.Shelf.Ren := ⟨fun | 160 => 167 | 232 => 172 | 231 => 171 | 227 => 173 | 234 => 175 | 233 => 174 | 236 => 177 | 235 => 176 | 228 => 180 | 271 => 182 | 151 => 181 | 197 => 107 | 120 => 189 | 152 => 188 | 260 => 130 | 137 => 195 | 119 => 196 | 224 => 133 | 225 => 132 | 217 => 131 | 266 => 150 | n => n, fun | 9 => 9 | 4 => 4 | 3 => 3 | 5 => 5 | 117 => 214 | 116 => 213 | 0 => 0 | 124 => 217 | 21 => 21 | 105 => 148 | 46 => 173 | 119 => 187 | 139 => 190 | 138 => 189 | n => n, fun | 3 => 1 | 4 => 2 | n => n⟩
theorem Tryz.lays160 : Go.Proofs.Lays.n160 Tryz.prog Tryz.lays160_ren := {
  mixed := by kernel_rfl
  f119 := Tryz.func196.trans (congrArg some (by kernel_rfl))
  f120 := Tryz.func189.trans (congrArg some (by kernel_rfl))
  f137 := Tryz.func195.trans (congrArg some (by kernel_rfl))
  f151 := Tryz.func181.trans (congrArg some (by kernel_rfl))
  f152 := Tryz.func188.trans (congrArg some (by kernel_rfl))
  f160 := Tryz.func167.trans (congrArg some (by kernel_rfl))
  f197 := Tryz.func107.trans (congrArg some (by kernel_rfl))
  f217 := Tryz.func131.trans (congrArg some (by kernel_rfl))
  f224 := Tryz.func133.trans (congrArg some (by kernel_rfl))
  f225 := Tryz.func132.trans (congrArg some (by kernel_rfl))
  f227 := Tryz.func173.trans (congrArg some (by kernel_rfl))
  f228 := Tryz.func180.trans (congrArg some (by kernel_rfl))
  f231 := Tryz.func171.trans (congrArg some (by kernel_rfl))
  f232 := Tryz.func172.trans (congrArg some (by kernel_rfl))
  f233 := Tryz.func174.trans (congrArg some (by kernel_rfl))
  f234 := Tryz.func175.trans (congrArg some (by kernel_rfl))
  f235 := Tryz.func176.trans (congrArg some (by kernel_rfl))
  f236 := Tryz.func177.trans (congrArg some (by kernel_rfl))
  f260 := Tryz.func130.trans (congrArg some (by kernel_rfl))
  f266 := Tryz.func150.trans (congrArg some (by kernel_rfl))
  f271 := Tryz.func182.trans (congrArg some (by kernel_rfl))
  t0 := Tryz.underlying0
  a0 := Tryz.isAgg0
  z0 := Tryz.sizeOf0
  v0 := Tryz.zeroValue0
  t3 := Tryz.underlying3
  a3 := Tryz.isAgg3
  z3 := Tryz.sizeOf3
  v3 := Tryz.zeroValue3
  t4 := Tryz.underlying4
  a4 := Tryz.isAgg4
  z4 := Tryz.sizeOf4
  v4 := Tryz.zeroValue4
  t5 := Tryz.underlying5
  a5 := Tryz.isAgg5
  z5 := Tryz.sizeOf5
  v5 := Tryz.zeroValue5
  t9 := Tryz.underlying9
  a9 := Tryz.isAgg9
  z9 := Tryz.sizeOf9
  v9 := Tryz.zeroValue9
  t21 := Tryz.underlying21
  a21 := Tryz.isAgg21
  z21 := Tryz.sizeOf21
  v21 := Tryz.zeroValue21
  t46 := Tryz.underlying173
  a46 := Tryz.isAgg173
  z46 := Tryz.sizeOf173
  v46 := Tryz.zeroValue173
  t105 := Tryz.underlying148
  a105 := Tryz.isAgg148
  z105 := Tryz.sizeOf148
  v105 := Tryz.zeroValue148
  t116 := Tryz.underlying213
  a116 := Tryz.isAgg213
  z116 := Tryz.sizeOf213
  t117 := Tryz.underlying214
  a117 := Tryz.isAgg214
  z117 := Tryz.sizeOf214
  v117 := Tryz.zeroValue214
  t119 := Tryz.underlying187
  a119 := Tryz.isAgg187
  z119 := Tryz.sizeOf187
  t124 := Tryz.underlying217
  a124 := Tryz.isAgg217
  z124 := Tryz.sizeOf217
  v124 := Tryz.zeroValue217
  t138 := Tryz.underlying189
  a138 := Tryz.isAgg189
  z138 := Tryz.sizeOf189
  v138 := Tryz.zeroValue189
  t139 := Tryz.underlying190
  a139 := Tryz.isAgg190
  z139 := Tryz.sizeOf190
  v139 := Tryz.zeroValue190
  g3 := by kernel_rfl
  g4 := by kernel_rfl }
end Go.Proofs
namespace Go.Proofs.YtjndellhebidoaaGreatDoor
open Go Go.Ev Go.RowKit
set_option maxRecDepth 100000
def parsedM (s : Str) : Int := match Lib.parseIntB 64 s with
  | .ok v => v
  | .syntax => 0
  | .range => Lib.intSat 64 s
def parsedOk (s : Str) : Bool := match Lib.parseIntB 64 s with
  | .ok _ => true
  | _ => false
def digitsS : Str := [48, 49, 50, 51, 52, 53, 54, 55, 56, 57]
def trimM (s : Str) : Str := Lib.trimS s digitsS
theorem parse_args {V : Vn} {s : Str} {vs : List Value} (hv : All2 (SX.R V) [SX.s s, SX.i 10, SX.i 64] vs) : vs = [.string (bs s), .int .i64 10, .int .i64 64] := by
  cases hv with
  | cons a1 hv => cases hv with
    | cons a2 hv => cases hv with
      | cons a3 hv =>
        cases hv
        have a1' : PR V.H (.str s) _ := a1
        have a2' : PR V.H (.int .i64 10) _ := a2
        have a3' : PR V.H (.int .i64 64) _ := a3
        cases a1'; cases a2'; cases a3'
        rfl
theorem parse_ok (s : Str) (hs : s.length ≤ 281474976710656) (h : parsedOk s = true) : Does Tryz.prog 168 [.s s, .i 10, .i 64] [] (.tup [.i (parsedM s), .c (.pd (.v .nilIface))]) [] := by
  intro w V vs hw hT hv
  rw [parse_args hv]
  have hsz : (bs s).size = s.length := bs_size s
  unfold parsedOk at h
  split at h
  · rename_i v hp
    refine (Tryz.strconv_ParseInt_10_at64_ok (bs s) (by omega) v (by rw [bs_toList]; exact hp) w).mono fun e w' ⟨he, hw'⟩ => ?_
    subst he
    have hb : Below w.heap.size w w' := by
      rcases hw' with rfl | ⟨t, rfl⟩
      · exact Below.refl _ _
      · exact Lib.bytesWorld_below w _ t
    have ev : parsedM s = v := by simp [parsedM, hp]
    exact ⟨_, V, rfl, ⟨_, rfl, .cons (by rw [ev]; exact PR.int _ _) (.cons (PR.v _ rfl) .nil)⟩, hw.kept (fr_below hb)⟩
  · cases h
theorem parse_bad (s : Str) (hs : s.length ≤ 281474976710656) (h : parsedOk s = false) : Does Tryz.prog 168 [.s s, .i 10, .i 64] [] (.tup [.i (parsedM s), .c (.pd .err)]) [] := by
  intro w V vs hw hT hv
  rw [parse_args hv]
  have hsz : (bs s).size = s.length := bs_size s
  unfold parsedOk at h
  split at h
  · cases h
  · rename_i hn
    rcases hp : Lib.parseIntB 64 s with v | - | -
    · exact absurd hp (hn v)
    · obtain ⟨tp, p, hm⟩ := (hT.2.1) (by kernel_rfl)
      refine (Tryz.strconv_ParseInt_10_at64_syntax_var (bs s) (by omega) (by rw [bs_toList]; exact hp) tp p w (hm.world hw.imm)).mono fun e w' ⟨N, he, _, _, hb⟩ => ?_
      subst he
      have ev : parsedM s = 0 := by simp [parsedM, hp]
      exact ⟨_, V, rfl, ⟨_, rfl, .cons (by rw [ev]; exact PR.int _ _) (.cons (PR.err _ _) .nil)⟩, hw.kept (fr_below hb)⟩
    · obtain ⟨tp, p, hm⟩ := (hT.2.2.1) (by kernel_rfl)
      refine (Tryz.strconv_ParseInt_10_at64_range_var (bs s) (by omega) (by rw [bs_toList]; exact hp) tp p w (hm.world hw.imm)).mono fun e w' ⟨N, he, _, _, hb⟩ => ?_
      subst he
      have ev : parsedM s = Lib.intSat 64 s := by simp [parsedM, hp]
      exact ⟨_, V, rfl, ⟨_, rfl, .cons (by rw [ev]; have := PR.int (H := V.H) .i64 (Lib.intSat 64 s); rw [bs_toList]; exact this) (.cons (PR.err _ _) .nil)⟩, hw.kept (fr_below hb)⟩
theorem trim_spec (s : Str) (hs : s.length ≤ 9223372036854775807) : Does Tryz.prog 167 [.s s, .s digitsS] [] (.x (.s (trimM s))) [] := by
  intro w V vs hw hT hv
  cases hv with
  | cons a1 hv => cases hv with
    | cons a2 hv =>
      cases hv
      have a1' : PR V.H (.str s) _ := a1
      have a2' : PR V.H (.str digitsS) _ := a2
      cases a1'; cases a2'
      have hsz : (bs s).size = s.length := bs_size s
      refine (Any.strings_Trim_laid Tryz.lays160 (by kernel_rfl) (bs s) (bs digitsS) w (by omega) (by decide) (Go.Proofs.ascii_of_all (by decide))).mono fun e w' ⟨he, hb⟩ => ?_
      subst he
      refine ⟨_, V, rfl, ?_, hw.kept (fr_below hb)⟩
      have e1 : (bs s).data.toList = s := bs_toList s
      have e2 : (bs digitsS).data.toList = digitsS := bs_toList digitsS
      rw [e1, e2]
      exact PR.str (trimM s)
def eParse1 : Nat × (List SX → List Chunk → Option (Option Prop × SV × List Chunk)) := (168, fun
  | [.c (.pd (.str s)), .c (.pd (.int .i64 10)), .c (.pd (.int .i64 64))], [] => some (some (s.length ≤ 281474976710656 ∧ parsedOk s = true), .tup [.c (.pd (.int .i64 (parsedM s))), .c (.pd (.v .nilIface))], [])
  | _, _ => none)
theorem eParse1_ok (vs : List SX) (ck : List Chunk) (p : Option Prop) (ret : SV) (ck' : List Chunk) (h : eParse1.2 vs ck = some (p, ret, ck')) (hp : Holds p) : Does Tryz.prog eParse1.1 vs ck ret ck' := by
  unfold eParse1 at h
  simp only at h
  split at h
  · rename_i s
    simp only [Option.some.injEq, Prod.mk.injEq] at h
    obtain ⟨rfl, rfl, rfl⟩ := h
    exact parse_ok s hp.1 hp.2
  · simp at h
def eParse0 : Nat × (List SX → List Chunk → Option (Option Prop × SV × List Chunk)) := (168, fun
  | [.c (.pd (.str s)), .c (.pd (.int .i64 10)), .c (.pd (.int .i64 64))], [] => some (some (s.length ≤ 281474976710656 ∧ parsedOk s = false), .tup [.c (.pd (.int .i64 (parsedM s))), .c (.pd .err)], [])
  | _, _ => none)
theorem eParse0_ok (vs : List SX) (ck : List Chunk) (p : Option Prop) (ret : SV) (ck' : List Chunk) (h : eParse0.2 vs ck = some (p, ret, ck')) (hp : Holds p) : Does Tryz.prog eParse0.1 vs ck ret ck' := by
  unfold eParse0 at h
  simp only at h
  split at h
  · rename_i s
    simp only [Option.some.injEq, Prod.mk.injEq] at h
    obtain ⟨rfl, rfl, rfl⟩ := h
    exact parse_bad s hp.1 hp.2
  · simp at h
def eTrim : Nat × (List SX → List Chunk → Option (Option Prop × SV × List Chunk)) := (167, fun
  | [.c (.pd (.str s)), .c (.pd (.str [48, 49, 50, 51, 52, 53, 54, 55, 56, 57]))], [] => some (some (s.length ≤ 9223372036854775807), .x (.c (.pd (.str (trimM s)))), [])
  | _, _ => none)
theorem eTrim_ok (vs : List SX) (ck : List Chunk) (p : Option Prop) (ret : SV) (ck' : List Chunk) (h : eTrim.2 vs ck = some (p, ret, ck')) (hp : Holds p) : Does Tryz.prog eTrim.1 vs ck ret ck' := by
  unfold eTrim at h
  simp only at h
  split at h
  · rename_i s
    simp only [Option.some.injEq, Prod.mk.injEq] at h
    obtain ⟨rfl, rfl, rfl⟩ := h
    exact trim_spec s hp
  · simp at h
def cfgNb1 : Cfg := ⟨tys0, [eCut, eTrim, eParse1]⟩
theorem cfgNb1_ok : TabOk Tryz.prog cfgNb1.tab := (TabOk.cons eCut_ok (TabOk.cons eTrim_ok (TabOk.cons eParse1_ok TabOk.nil)))
def cfgNb0 : Cfg := ⟨tys0, [eCut, eTrim, eParse0]⟩
theorem cfgNb0_ok : TabOk Tryz.prog cfgNb0.tab := (TabOk.cons eCut_ok (TabOk.cons eTrim_ok (TabOk.cons eParse0_ok TabOk.nil)))
end Go.Proofs.YtjndellhebidoaaGreatDoor

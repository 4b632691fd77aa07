/- The library's contracts of strings.Trim, laid at this dump by the kit's tools. Conditions: none. Contracts: strconv.ParseInt, strings.Trim, words.Number. Conditions: texts that are not too long; the errors' variables. -/
import Derived.Shelf.Lays
import Derived.Shelf.Strings.Trim
import Derived.Shelf.Strings.SlTrimAscii
import Derived.Test.YtjndellhebidoaaDoorProg
import Derived.Test.YtjndellhebidoaaDoorNa
import Derived.Test.YtjndellhebidoaaDoorShelfb
import Derived.Lib.AtoiErrMem
namespace Go.Proofs
open Go.Shelf
def Tryd.lays160_ren : Go.Shelf.Ren := ⟨fun | 160 => 65 | 232 => 71 | 231 => 70 | 227 => 72 | 234 => 74 | 233 => 73 | 236 => 76 | 235 => 75 | 228 => 79 | 271 => 82 | 151 => 81 | 197 => 80 | 120 => 90 | 152 => 89 | 260 => 88 | 137 => 96 | 119 => 97 | 224 => 98 | 225 => 99 | 217 => 101 | 266 => 102 | n => n, fun | 9 => 9 | 4 => 4 | 3 => 3 | 5 => 5 | 117 => 103 | 116 => 102 | 0 => 0 | 124 => 106 | 21 => 21 | 105 => 110 | 46 => 90 | 119 => 125 | 139 => 128 | 138 => 127 | n => n, fun | 3 => 5 | 4 => 6 | n => n⟩
theorem Tryd.lays160 : Go.Proofs.Lays.n160 Tryd.prog Tryd.lays160_ren := {
  mixed := by kernel_rfl
  f119 := Tryd.func97.trans (congrArg some (by kernel_rfl))
  f120 := Tryd.func90.trans (congrArg some (by kernel_rfl))
  f137 := Tryd.func96.trans (congrArg some (by kernel_rfl))
  f151 := Tryd.func81.trans (congrArg some (by kernel_rfl))
  f152 := Tryd.func89.trans (congrArg some (by kernel_rfl))
  f160 := Tryd.func65.trans (congrArg some (by kernel_rfl))
  f197 := Tryd.func80.trans (congrArg some (by kernel_rfl))
  f217 := Tryd.func101.trans (congrArg some (by kernel_rfl))
  f224 := Tryd.func98.trans (congrArg some (by kernel_rfl))
  f225 := Tryd.func99.trans (congrArg some (by kernel_rfl))
  f227 := Tryd.func72.trans (congrArg some (by kernel_rfl))
  f228 := Tryd.func79.trans (congrArg some (by kernel_rfl))
  f231 := Tryd.func70.trans (congrArg some (by kernel_rfl))
  f232 := Tryd.func71.trans (congrArg some (by kernel_rfl))
  f233 := Tryd.func73.trans (congrArg some (by kernel_rfl))
  f234 := Tryd.func74.trans (congrArg some (by kernel_rfl))
  f235 := Tryd.func75.trans (congrArg some (by kernel_rfl))
  f236 := Tryd.func76.trans (congrArg some (by kernel_rfl))
  f260 := Tryd.func88.trans (congrArg some (by kernel_rfl))
  f266 := Tryd.func102.trans (congrArg some (by kernel_rfl))
  f271 := Tryd.func82.trans (congrArg some (by kernel_rfl))
  t0 := Tryd.underlying0
  a0 := Tryd.isAgg0
  z0 := Tryd.sizeOf0
  v0 := Tryd.zeroValue0
  t3 := Tryd.underlying3
  a3 := Tryd.isAgg3
  z3 := Tryd.sizeOf3
  v3 := Tryd.zeroValue3
  t4 := Tryd.underlying4
  a4 := Tryd.isAgg4
  z4 := Tryd.sizeOf4
  v4 := Tryd.zeroValue4
  t5 := Tryd.underlying5
  a5 := Tryd.isAgg5
  z5 := Tryd.sizeOf5
  v5 := Tryd.zeroValue5
  t9 := Tryd.underlying9
  a9 := Tryd.isAgg9
  z9 := Tryd.sizeOf9
  v9 := Tryd.zeroValue9
  t21 := Tryd.underlying21
  a21 := Tryd.isAgg21
  z21 := Tryd.sizeOf21
  v21 := Tryd.zeroValue21
  t46 := Tryd.underlying90
  a46 := Tryd.isAgg90
  z46 := Tryd.sizeOf90
  v46 := Tryd.zeroValue90
  t105 := Tryd.underlying110
  a105 := Tryd.isAgg110
  z105 := Tryd.sizeOf110
  v105 := Tryd.zeroValue110
  t116 := Tryd.underlying102
  a116 := Tryd.isAgg102
  z116 := Tryd.sizeOf102
  t117 := Tryd.underlying103
  a117 := Tryd.isAgg103
  z117 := Tryd.sizeOf103
  v117 := Tryd.zeroValue103
  t119 := Tryd.underlying125
  a119 := Tryd.isAgg125
  z119 := Tryd.sizeOf125
  t124 := Tryd.underlying106
  a124 := Tryd.isAgg106
  z124 := Tryd.sizeOf106
  v124 := Tryd.zeroValue106
  t138 := Tryd.underlying127
  a138 := Tryd.isAgg127
  z138 := Tryd.sizeOf127
  v138 := Tryd.zeroValue127
  t139 := Tryd.underlying128
  a139 := Tryd.isAgg128
  z139 := Tryd.sizeOf128
  v139 := Tryd.zeroValue128
  g3 := by kernel_rfl
  g4 := by kernel_rfl }
open Go.RowKit in
/-- strings.Trim: "Trim returns a slice of the string s with all leading and trailing Unicode code points contained in cutset removed.": AT A cutset OF ONE ASCII BYTE. THE WORLD BEHIND IT: as it was, or (where s is not empty) with ONE DRAW MORE off the tape: the statement 'return trimLeftByte(trimRightByte(s, c), c)' draws its order of evaluation. (LAID: no walk: one application.) -/
theorem Tryd.strings_Trim_one (s : ByteArray) (c : UInt8) (hc : c.toNat < 128) (w : World) (hs : s.size ≤ 9223372036854775807) :
    Calls Tryd.prog 65 #[.string s, .string ⟨#[c]⟩] w fun e w' => e = .returned (.string ⟨(Lib.trimB s.data.toList c).toArray⟩) ∧ (w' = w ∨ w' = w.drew) := Any.strings_Trim_one Tryd.lays160 s c hc w hs
end Go.Proofs
namespace Go.Proofs.YtjndellhebidoaaDoor
open Go Go.Ev Go.RowKit
set_option maxRecDepth 100000
def parsedM (s : Str) : Int := match Lib.parseIntB 64 s with
  | .ok v => v
  | .syntax => 0
  | .range => Lib.intSat 64 s
def parsedOk (s : Str) : Bool := match Lib.parseIntB 64 s with
  | .ok _ => true
  | _ => false
def digitsS : Str := [48, 49, 50, 51, 52, 53, 54, 55, 56, 57]
def trimM (s : Str) : Str := Lib.trimS s digitsS
theorem parse_args {V : Vn} {s : Str} {vs : List Value} (hv : All2 (SX.R V) [SX.s s, SX.i 10, SX.i 64] vs) : vs = [.string (bs s), .int .i64 10, .int .i64 64] := by
  cases hv with
  | cons a1 hv => cases hv with
    | cons a2 hv => cases hv with
      | cons a3 hv =>
        cases hv
        have a1' : PR V.H (.str s) _ := a1
        have a2' : PR V.H (.int .i64 10) _ := a2
        have a3' : PR V.H (.int .i64 64) _ := a3
        cases a1'; cases a2'; cases a3'
        rfl
theorem parse_ok (s : Str) (hs : s.length ≤ 281474976710656) (h : parsedOk s = true) : Does Tryd.prog 66 [.s s, .i 10, .i 64] [] (.tup [.i (parsedM s), .c (.pd (.v .nilIface))]) [] := by
  intro w V vs hw hT hv
  rw [parse_args hv]
  have hsz : (bs s).size = s.length := bs_size s
  unfold parsedOk at h
  split at h
  · rename_i v hp
    refine (Tryd.strconv_ParseInt_10_at64_ok (bs s) (by omega) v (by rw [bs_toList]; exact hp) w).mono fun e w' ⟨he, hw'⟩ => ?_
    subst he
    have hb : Below w.heap.size w w' := by
      rcases hw' with rfl | ⟨t, rfl⟩
      · exact Below.refl _ _
      · exact Lib.bytesWorld_below w _ t
    have ev : parsedM s = v := by simp [parsedM, hp]
    exact ⟨_, V, rfl, ⟨_, rfl, .cons (by rw [ev]; exact PR.int _ _) (.cons (PR.v _ rfl) .nil)⟩, hw.kept (fr_below hb)⟩
  · cases h
theorem parse_bad (s : Str) (hs : s.length ≤ 281474976710656) (h : parsedOk s = false) : Does Tryd.prog 66 [.s s, .i 10, .i 64] [] (.tup [.i (parsedM s), .c (.pd .err)]) [] := by
  intro w V vs hw hT hv
  rw [parse_args hv]
  have hsz : (bs s).size = s.length := bs_size s
  unfold parsedOk at h
  split at h
  · cases h
  · rename_i hn
    rcases hp : Lib.parseIntB 64 s with v | - | -
    · exact absurd hp (hn v)
    · obtain ⟨tp, p, hm⟩ := (hT.2.1) (by kernel_rfl)
      refine (Tryd.strconv_ParseInt_10_at64_syntax_var (bs s) (by omega) (by rw [bs_toList]; exact hp) tp p w (hm.world hw.imm)).mono fun e w' ⟨N, he, _, _, hb⟩ => ?_
      subst he
      have ev : parsedM s = 0 := by simp [parsedM, hp]
      exact ⟨_, V, rfl, ⟨_, rfl, .cons (by rw [ev]; exact PR.int _ _) (.cons (PR.err _ _) .nil)⟩, hw.kept (fr_below hb)⟩
    · obtain ⟨tp, p, hm⟩ := (hT.2.2) (by kernel_rfl)
      refine (Tryd.strconv_ParseInt_10_at64_range_var (bs s) (by omega) (by rw [bs_toList]; exact hp) tp p w (hm.world hw.imm)).mono fun e w' ⟨N, he, _, _, hb⟩ => ?_
      subst he
      have ev : parsedM s = Lib.intSat 64 s := by simp [parsedM, hp]
      exact ⟨_, V, rfl, ⟨_, rfl, .cons (by rw [ev]; have := PR.int (H := V.H) .i64 (Lib.intSat 64 s); rw [bs_toList]; exact this) (.cons (PR.err _ _) .nil)⟩, hw.kept (fr_below hb)⟩
theorem trim_spec (s : Str) (hs : s.length ≤ 9223372036854775807) : Does Tryd.prog 65 [.s s, .s digitsS] [] (.x (.s (trimM s))) [] := by
  intro w V vs hw hT hv
  cases hv with
  | cons a1 hv => cases hv with
    | cons a2 hv =>
      cases hv
      have a1' : PR V.H (.str s) _ := a1
      have a2' : PR V.H (.str digitsS) _ := a2
      cases a1'; cases a2'
      have hsz : (bs s).size = s.length := bs_size s
      refine (Any.strings_Trim_laid Tryd.lays160 (by kernel_rfl) (bs s) (bs digitsS) w (by omega) (by decide) (Go.Proofs.ascii_of_all (by decide))).mono fun e w' ⟨he, hb⟩ => ?_
      subst he
      refine ⟨_, V, rfl, ?_, hw.kept (fr_below hb)⟩
      have e1 : (bs s).data.toList = s := bs_toList s
      have e2 : (bs digitsS).data.toList = digitsS := bs_toList digitsS
      rw [e1, e2]
      exact PR.str (trimM s)
def eParse1 : Nat × (List SX → List Chunk → Option (Option Prop × SV × List Chunk)) := (66, fun
  | [.c (.pd (.str s)), .c (.pd (.int .i64 10)), .c (.pd (.int .i64 64))], [] => some (some (s.length ≤ 281474976710656 ∧ parsedOk s = true), .tup [.c (.pd (.int .i64 (parsedM s))), .c (.pd (.v .nilIface))], [])
  | _, _ => none)
theorem eParse1_ok (vs : List SX) (ck : List Chunk) (p : Option Prop) (ret : SV) (ck' : List Chunk) (h : eParse1.2 vs ck = some (p, ret, ck')) (hp : Holds p) : Does Tryd.prog eParse1.1 vs ck ret ck' := by
  unfold eParse1 at h
  simp only at h
  split at h
  · rename_i s
    simp only [Option.some.injEq, Prod.mk.injEq] at h
    obtain ⟨rfl, rfl, rfl⟩ := h
    exact parse_ok s hp.1 hp.2
  · simp at h
def eParse0 : Nat × (List SX → List Chunk → Option (Option Prop × SV × List Chunk)) := (66, fun
  | [.c (.pd (.str s)), .c (.pd (.int .i64 10)), .c (.pd (.int .i64 64))], [] => some (some (s.length ≤ 281474976710656 ∧ parsedOk s = false), .tup [.c (.pd (.int .i64 (parsedM s))), .c (.pd .err)], [])
  | _, _ => none)
theorem eParse0_ok (vs : List SX) (ck : List Chunk) (p : Option Prop) (ret : SV) (ck' : List Chunk) (h : eParse0.2 vs ck = some (p, ret, ck')) (hp : Holds p) : Does Tryd.prog eParse0.1 vs ck ret ck' := by
  unfold eParse0 at h
  simp only at h
  split at h
  · rename_i s
    simp only [Option.some.injEq, Prod.mk.injEq] at h
    obtain ⟨rfl, rfl, rfl⟩ := h
    exact parse_bad s hp.1 hp.2
  · simp at h
def eTrim : Nat × (List SX → List Chunk → Option (Option Prop × SV × List Chunk)) := (65, fun
  | [.c (.pd (.str s)), .c (.pd (.str [48, 49, 50, 51, 52, 53, 54, 55, 56, 57]))], [] => some (some (s.length ≤ 9223372036854775807), .x (.c (.pd (.str (trimM s)))), [])
  | _, _ => none)
theorem eTrim_ok (vs : List SX) (ck : List Chunk) (p : Option Prop) (ret : SV) (ck' : List Chunk) (h : eTrim.2 vs ck = some (p, ret, ck')) (hp : Holds p) : Does Tryd.prog eTrim.1 vs ck ret ck' := by
  unfold eTrim at h
  simp only at h
  split at h
  · rename_i s
    simp only [Option.some.injEq, Prod.mk.injEq] at h
    obtain ⟨rfl, rfl, rfl⟩ := h
    exact trim_spec s hp
  · simp at h
def cfgNb1 : Cfg := ⟨tys0, [eCut, eTrim, eParse1]⟩
theorem cfgNb1_ok : TabOk Tryd.prog cfgNb1.tab := (TabOk.cons eCut_ok (TabOk.cons eTrim_ok (TabOk.cons eParse1_ok TabOk.nil)))
def cfgNb0 : Cfg := ⟨tys0, [eCut, eTrim, eParse0]⟩
theorem cfgNb0_ok : TabOk Tryd.prog cfgNb0.tab := (TabOk.cons eCut_ok (TabOk.cons eTrim_ok (TabOk.cons eParse0_ok TabOk.nil)))
end Go.Proofs.YtjndellhebidoaaDoor

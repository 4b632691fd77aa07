/- Contracts: strconv.ParseInt, strings.Trim, words.Number. Conditions: texts that are not too long; the errors' variables. -/
import Derived.Test.YtjndellhebidoaaDoorNa
import Derived.Test.YtjndellhebidoaaDoorKa
import Derived.Test.YtjndellhebidoaaDoorShelfb
import Derived.Test.YtjndellhebidoaaDoorShelfc
import Derived.Lib.AtoiErrMem
namespace Go.Proofs.YtjndellhebidoaaDoor
open Go Go.Ev Go.RowKit
set_option maxRecDepth 100000
def parsedM (s : Str) : Int := match Lib.parseIntB 64 s with
  | .ok v => v
  | .syntax => 0
  | .range => Lib.intSat 64 s
def parsedOk (s : Str) : Bool := match Lib.parseIntB 64 s with
  | .ok _ => true
  | _ => false
def digitsS : Str := [48, 49, 50, 51, 52, 53, 54, 55, 56, 57]
def trimM (s : Str) : Str := Lib.trimS s digitsS
theorem parse_args {V : Vn} {s : Str} {vs : List Value} (hv : All2 (SX.R V) [SX.s s, SX.i 10, SX.i 64] vs) : vs = [.string (bs s), .int .i64 10, .int .i64 64] := by
  cases hv with
  | cons a1 hv => cases hv with
    | cons a2 hv => cases hv with
      | cons a3 hv =>
        cases hv
        have a1' : PR V.H (.str s) _ := a1
        have a2' : PR V.H (.int .i64 10) _ := a2
        have a3' : PR V.H (.int .i64 64) _ := a3
        cases a1'; cases a2'; cases a3'
        rfl
theorem parse_ok (s : Str) (hs : s.length ≤ 281474976710656) (h : parsedOk s = true) : Does Tryd.prog 66 [.s s, .i 10, .i 64] [] (.tup [.i (parsedM s), .c (.pd (.v .nilIface))]) [] := by
  intro w V vs hw hT hv
  rw [parse_args hv]
  have hsz : (bs s).size = s.length := bs_size s
  unfold parsedOk at h
  split at h
  · rename_i v hp
    refine (Tryd.strconv_ParseInt_10_at64_ok (bs s) (by omega) v (by rw [bs_toList]; exact hp) w).mono fun e w' ⟨he, hw'⟩ => ?_
    subst he
    have hb : Below w.heap.size w w' := by
      rcases hw' with rfl | ⟨t, rfl⟩
      · exact Below.refl _ _
      · exact Lib.bytesWorld_below w _ t
    have ev : parsedM s = v := by simp [parsedM, hp]
    exact ⟨_, V, rfl, ⟨_, rfl, .cons (by rw [ev]; exact PR.int _ _) (.cons (PR.v _ rfl) .nil)⟩, hw.kept (fr_below hb)⟩
  · cases h
theorem parse_bad (s : Str) (hs : s.length ≤ 281474976710656) (h : parsedOk s = false) : Does Tryd.prog 66 [.s s, .i 10, .i 64] [] (.tup [.i (parsedM s), .c (.pd .err)]) [] := by
  intro w V vs hw hT hv
  rw [parse_args hv]
  have hsz : (bs s).size = s.length := bs_size s
  unfold parsedOk at h
  split at h
  · cases h
  · rename_i hn
    rcases hp : Lib.parseIntB 64 s with v | - | -
    · exact absurd hp (hn v)
    · obtain ⟨tp, p, hm⟩ := (hT.2.1) (by kernel_rfl)
      refine (Tryd.strconv_ParseInt_10_at64_syntax_var (bs s) (by omega) (by rw [bs_toList]; exact hp) tp p w (hm.world hw.imm)).mono fun e w' ⟨N, he, _, _, hb⟩ => ?_
      subst he
      have ev : parsedM s = 0 := by simp [parsedM, hp]
      exact ⟨_, V, rfl, ⟨_, rfl, .cons (by rw [ev]; exact PR.int _ _) (.cons (PR.err _ _) .nil)⟩, hw.kept (fr_below hb)⟩
    · obtain ⟨tp, p, hm⟩ := (hT.2.2) (by kernel_rfl)
      refine (Tryd.strconv_ParseInt_10_at64_range_var (bs s) (by omega) (by rw [bs_toList]; exact hp) tp p w (hm.world hw.imm)).mono fun e w' ⟨N, he, _, _, hb⟩ => ?_
      subst he
      have ev : parsedM s = Lib.intSat 64 s := by simp [parsedM, hp]
      exact ⟨_, V, rfl, ⟨_, rfl, .cons (by rw [ev]; have := PR.int (H := V.H) .i64 (Lib.intSat 64 s); rw [bs_toList]; exact this) (.cons (PR.err _ _) .nil)⟩, hw.kept (fr_below hb)⟩
theorem trim_spec (s : Str) (hs : s.length ≤ 9223372036854775807) : Does Tryd.prog 65 [.s s, .s digitsS] [] (.x (.s (trimM s))) [] := by
  intro w V vs hw hT hv
  cases hv with
  | cons a1 hv => cases hv with
    | cons a2 hv =>
      cases hv
      have a1' : PR V.H (.str s) _ := a1
      have a2' : PR V.H (.str digitsS) _ := a2
      cases a1'; cases a2'
      have hsz : (bs s).size = s.length := bs_size s
      refine (Any.strings_Trim_laid Tryd.lays160 (by kernel_rfl) (bs s) (bs digitsS) w (by omega) (by decide) (Go.Proofs.ascii_of_all (by decide))).mono fun e w' ⟨he, hb⟩ => ?_
      subst he
      refine ⟨_, V, rfl, ?_, hw.kept (fr_below hb)⟩
      have e1 : (bs s).data.toList = s := bs_toList s
      have e2 : (bs digitsS).data.toList = digitsS := bs_toList digitsS
      rw [e1, e2]
      exact PR.str (trimM s)
def eParse1 : Nat × (List SX → List Chunk → Option (Option Prop × SV × List Chunk)) := (66, fun
  | [.c (.pd (.str s)), .c (.pd (.int .i64 10)), .c (.pd (.int .i64 64))], [] => some (some (s.length ≤ 281474976710656 ∧ parsedOk s = true), .tup [.c (.pd (.int .i64 (parsedM s))), .c (.pd (.v .nilIface))], [])
  | _, _ => none)
theorem eParse1_ok (vs : List SX) (ck : List Chunk) (p : Option Prop) (ret : SV) (ck' : List Chunk) (h : eParse1.2 vs ck = some (p, ret, ck')) (hp : Holds p) : Does Tryd.prog eParse1.1 vs ck ret ck' := by
  unfold eParse1 at h
  simp only at h
  split at h
  · rename_i s
    simp only [Option.some.injEq, Prod.mk.injEq] at h
    obtain ⟨rfl, rfl, rfl⟩ := h
    exact parse_ok s hp.1 hp.2
  · simp at h
def eParse0 : Nat × (List SX → List Chunk → Option (Option Prop × SV × List Chunk)) := (66, fun
  | [.c (.pd (.str s)), .c (.pd (.int .i64 10)), .c (.pd (.int .i64 64))], [] => some (some (s.length ≤ 281474976710656 ∧ parsedOk s = false), .tup [.c (.pd (.int .i64 (parsedM s))), .c (.pd .err)], [])
  | _, _ => none)
theorem eParse0_ok (vs : List SX) (ck : List Chunk) (p : Option Prop) (ret : SV) (ck' : List Chunk) (h : eParse0.2 vs ck = some (p, ret, ck')) (hp : Holds p) : Does Tryd.prog eParse0.1 vs ck ret ck' := by
  unfold eParse0 at h
  simp only at h
  split at h
  · rename_i s
    simp only [Option.some.injEq, Prod.mk.injEq] at h
    obtain ⟨rfl, rfl, rfl⟩ := h
    exact parse_bad s hp.1 hp.2
  · simp at h
def eTrim : Nat × (List SX → List Chunk → Option (Option Prop × SV × List Chunk)) := (65, fun
  | [.c (.pd (.str s)), .c (.pd (.str [48, 49, 50, 51, 52, 53, 54, 55, 56, 57]))], [] => some (some (s.length ≤ 9223372036854775807), .x (.c (.pd (.str (trimM s)))), [])
  | _, _ => none)
theorem eTrim_ok (vs : List SX) (ck : List Chunk) (p : Option Prop) (ret : SV) (ck' : List Chunk) (h : eTrim.2 vs ck = some (p, ret, ck')) (hp : Holds p) : Does Tryd.prog eTrim.1 vs ck ret ck' := by
  unfold eTrim at h
  simp only at h
  split at h
  · rename_i s
    simp only [Option.some.injEq, Prod.mk.injEq] at h
    obtain ⟨rfl, rfl, rfl⟩ := h
    exact trim_spec s hp
  · simp at h
def cfgNb1 : Cfg := ⟨tys0, [eCut, eTrim, eParse1]⟩
theorem cfgNb1_ok : TabOk Tryd.prog cfgNb1.tab := (TabOk.cons eCut_ok (TabOk.cons eTrim_ok (TabOk.cons eParse1_ok TabOk.nil)))
def cfgNb0 : Cfg := ⟨tys0, [eCut, eTrim, eParse0]⟩
theorem cfgNb0_ok : TabOk Tryd.prog cfgNb0.tab := (TabOk.cons eCut_ok (TabOk.cons eTrim_ok (TabOk.cons eParse0_ok TabOk.nil)))
end Go.Proofs.YtjndellhebidoaaDoor

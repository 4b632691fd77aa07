/- The library's contracts of strings.Trim, laid at this dump by the kit's tools. Conditions: none. Contracts: strconv.ParseInt, strings.Trim, words.Number. Conditions: texts that are not too long; the errors' variables. Numbers read: the program's, the document's. Conditions: texts of at most 2^48 bytes. -/
import Derived.Shelf.Lays
import Derived.Shelf.Strings.Trim
import Derived.Shelf.Strings.SlTrimAscii
import Derived.Test.YtjndellhebidoaaDoorProg
import Derived.Test.YtjndellhebidoaaDoorNa
import Derived.Test.YtjndellhebidoaaDoorShelfb
import Derived.Lib.AtoiErrMem
namespace Go.Proofs
open Go.Shelf
def Tryd.lays160_ren : Go.Shelf.Ren := ⟨fun | 160 => 65 | 232 => 71 | 231 => 70 | 227 => 72 | 234 => 74 | 233 => 73 | 236 => 76 | 235 => 75 | 228 => 79 | 271 => 82 | 151 => 81 | 197 => 80 | 120 => 90 | 152 => 89 | 260 => 88 | 137 => 96 | 119 => 97 | 224 => 98 | 225 => 99 | 217 => 101 | 266 => 102 | n => n, fun | 9 => 9 | 4 => 4 | 3 => 3 | 5 => 5 | 117 => 103 | 116 => 102 | 0 => 0 | 124 => 106 | 21 => 21 | 105 => 110 | 46 => 90 | 119 => 125 | 139 => 128 | 138 => 127 | n => n, fun | 3 => 5 | 4 => 6 | n => n⟩
theorem Tryd.lays160 : Go.Proofs.Lays.n160 Tryd.prog Tryd.lays160_ren := {
  mixed := by kernel_rfl
  f119 := Tryd.func97.trans (congrArg some (by kernel_rfl))
  f120 := Tryd.func90.trans (congrArg some (by kernel_rfl))
  f137 := Tryd.func96.trans (congrArg some (by kernel_rfl))
  f151 := Tryd.func81.trans (congrArg some (by kernel_rfl))
  f152 := Tryd.func89.trans (congrArg some (by kernel_rfl))
  f160 := Tryd.func65.trans (congrArg some (by kernel_rfl))
  f197 := Tryd.func80.trans (congrArg some (by kernel_rfl))
  f217 := Tryd.func101.trans (congrArg some (by kernel_rfl))
  f224 := Tryd.func98.trans (congrArg some (by kernel_rfl))
  f225 := Tryd.func99.trans (congrArg some (by kernel_rfl))
  f227 := Tryd.func72.trans (congrArg some (by kernel_rfl))
  f228 := Tryd.func79.trans (congrArg some (by kernel_rfl))
  f231 := Tryd.func70.trans (congrArg some (by kernel_rfl))
  f232 := Tryd.func71.trans (congrArg some (by kernel_rfl))
  f233 := Tryd.func73.trans (congrArg some (by kernel_rfl))
  f234 := Tryd.func74.trans (congrArg some (by kernel_rfl))
  f235 := Tryd.func75.trans (congrArg some (by kernel_rfl))
  f236 := Tryd.func76.trans (congrArg some (by kernel_rfl))
  f260 := Tryd.func88.trans (congrArg some (by kernel_rfl))
  f266 := Tryd.func102.trans (congrArg some (by kernel_rfl))
  f271 := Tryd.func82.trans (congrArg some (by kernel_rfl))
  t0 := Tryd.underlying0
  a0 := Tryd.isAgg0
  z0 := Tryd.sizeOf0
  v0 := Tryd.zeroValue0
  t3 := Tryd.underlying3
  a3 := Tryd.isAgg3
  z3 := Tryd.sizeOf3
  v3 := Tryd.zeroValue3
  t4 := Tryd.underlying4
  a4 := Tryd.isAgg4
  z4 := Tryd.sizeOf4
  v4 := Tryd.zeroValue4
  t5 := Tryd.underlying5
  a5 := Tryd.isAgg5
  z5 := Tryd.sizeOf5
  v5 := Tryd.zeroValue5
  t9 := Tryd.underlying9
  a9 := Tryd.isAgg9
  z9 := Tryd.sizeOf9
  v9 := Tryd.zeroValue9
  t21 := Tryd.underlying21
  a21 := Tryd.isAgg21
  z21 := Tryd.sizeOf21
  v21 := Tryd.zeroValue21
  t46 := Tryd.underlying90
  a46 := Tryd.isAgg90
  z46 := Tryd.sizeOf90
  v46 := Tryd.zeroValue90
  t105 := Tryd.underlying110
  a105 := Tryd.isAgg110
  z105 := Tryd.sizeOf110
  v105 := Tryd.zeroValue110
  t116 := Tryd.underlying102
  a116 := Tryd.isAgg102
  z116 := Tryd.sizeOf102
  t117 := Tryd.underlying103
  a117 := Tryd.isAgg103
  z117 := Tryd.sizeOf103
  v117 := Tryd.zeroValue103
  t119 := Tryd.underlying125
  a119 := Tryd.isAgg125
  z119 := Tryd.sizeOf125
  t124 := Tryd.underlying106
  a124 := Tryd.isAgg106
  z124 := Tryd.sizeOf106
  v124 := Tryd.zeroValue106
  t138 := Tryd.underlying127
  a138 := Tryd.isAgg127
  z138 := Tryd.sizeOf127
  v138 := Tryd.zeroValue127
  t139 := Tryd.underlying128
  a139 := Tryd.isAgg128
  z139 := Tryd.sizeOf128
  v139 := Tryd.zeroValue128
  g3 := by kernel_rfl
  g4 := by kernel_rfl }
open Go.RowKit in
/-- strings.Trim: "Trim returns a slice of the string s with all leading and trailing Unicode code points contained in cutset removed.": AT A cutset OF ONE ASCII BYTE. THE WORLD BEHIND IT: as it was, or (where s is not empty) with ONE DRAW MORE off the tape: the statement 'return trimLeftByte(trimRightByte(s, c), c)' draws its order of evaluation. (LAID: no walk: one application.) -/
theorem Tryd.strings_Trim_one (s : ByteArray) (c : UInt8) (hc : c.toNat < 128) (w : World) (hs : s.size ≤ 9223372036854775807) :
    Calls Tryd.prog 65 #[.string s, .string ⟨#[c]⟩] w fun e w' => e = .returned (.string ⟨(Lib.trimB s.data.toList c).toArray⟩) ∧ (w' = w ∨ w' = w.drew) := Any.strings_Trim_one Tryd.lays160 s c hc w hs
end Go.Proofs
namespace Go.Proofs.YtjndellhebidoaaDoor
open Go Go.Ev Go.RowKit
set_option maxRecDepth 100000
def parsedM (s : Str) : Int := match Lib.parseIntB 64 s with
  | .ok v => v
  | .syntax => 0
  | .range => Lib.intSat 64 s
def parsedOk (s : Str) : Bool := match Lib.parseIntB 64 s with
  | .ok _ => true
  | _ => false
def digitsS : Str := [48, 49, 50, 51, 52, 53, 54, 55, 56, 57]
def trimM (s : Str) : Str := Lib.trimS s digitsS
theorem parse_args {V : Vn} {s : Str} {vs : List Value} (hv : All2 (SX.R V) [SX.s s, SX.i 10, SX.i 64] vs) : vs = [.string (bs s), .int .i64 10, .int .i64 64] := by
  cases hv with
  | cons a1 hv => cases hv with
    | cons a2 hv => cases hv with
      | cons a3 hv =>
        cases hv
        have a1' : PR V.H (.str s) _ := a1
        have a2' : PR V.H (.int .i64 10) _ := a2
        have a3' : PR V.H (.int .i64 64) _ := a3
        cases a1'; cases a2'; cases a3'
        rfl
theorem parse_ok (s : Str) (hs : s.length ≤ 281474976710656) (h : parsedOk s = true) : Does Tryd.prog 66 [.s s, .i 10, .i 64] [] (.tup [.i (parsedM s), .c (.pd (.v .nilIface))]) [] := by
  intro w V vs hw hT hv
  rw [parse_args hv]
  have hsz : (bs s).size = s.length := bs_size s
  unfold parsedOk at h
  split at h
  · rename_i v hp
    refine (Tryd.strconv_ParseInt_10_at64_ok (bs s) (by omega) v (by rw [bs_toList]; exact hp) w).mono fun e w' ⟨he, hw'⟩ => ?_
    subst he
    have hb : Below w.heap.size w w' := by
      rcases hw' with rfl | ⟨t, rfl⟩
      · exact Below.refl _ _
      · exact Lib.bytesWorld_below w _ t
    have ev : parsedM s = v := by simp [parsedM, hp]
    exact ⟨_, V, rfl, ⟨_, rfl, .cons (by rw [ev]; exact PR.int _ _) (.cons (PR.v _ rfl) .nil)⟩, hw.kept (fr_below hb)⟩
  · cases h
theorem parse_bad (s : Str) (hs : s.length ≤ 281474976710656) (h : parsedOk s = false) : Does Tryd.prog 66 [.s s, .i 10, .i 64] [] (.tup [.i (parsedM s), .c (.pd .err)]) [] := by
  intro w V vs hw hT hv
  rw [parse_args hv]
  have hsz : (bs s).size = s.length := bs_size s
  unfold parsedOk at h
  split at h
  · cases h
  · rename_i hn
    rcases hp : Lib.parseIntB 64 s with v | - | -
    · exact absurd hp (hn v)
    · obtain ⟨tp, p, hm⟩ := (hT.2.1) (by kernel_rfl)
      refine (Tryd.strconv_ParseInt_10_at64_syntax_var (bs s) (by omega) (by rw [bs_toList]; exact hp) tp p w (hm.world hw.imm)).mono fun e w' ⟨N, he, _, _, hb⟩ => ?_
      subst he
      have ev : parsedM s = 0 := by simp [parsedM, hp]
      exact ⟨_, V, rfl, ⟨_, rfl, .cons (by rw [ev]; exact PR.int _ _) (.cons (PR.err _ _) .nil)⟩, hw.kept (fr_below hb)⟩
    · obtain ⟨tp, p, hm⟩ := (hT.2.2) (by kernel_rfl)
      refine (Tryd.strconv_ParseInt_10_at64_range_var (bs s) (by omega) (by rw [bs_toList]; exact hp) tp p w (hm.world hw.imm)).mono fun e w' ⟨N, he, _, _, hb⟩ => ?_
      subst he
      have ev : parsedM s = Lib.intSat 64 s := by simp [parsedM, hp]
      exact ⟨_, V, rfl, ⟨_, rfl, .cons (by rw [ev]; have := PR.int (H := V.H) .i64 (Lib.intSat 64 s); rw [bs_toList]; exact this) (.cons (PR.err _ _) .nil)⟩, hw.kept (fr_below hb)⟩
theorem trim_spec (s : Str) (hs : s.length ≤ 9223372036854775807) : Does Tryd.prog 65 [.s s, .s digitsS] [] (.x (.s (trimM s))) [] := by
  intro w V vs hw hT hv
  cases hv with
  | cons a1 hv => cases hv with
    | cons a2 hv =>
      cases hv
      have a1' : PR V.H (.str s) _ := a1
      have a2' : PR V.H (.str digitsS) _ := a2
      cases a1'; cases a2'
      have hsz : (bs s).size = s.length := bs_size s
      refine (Any.strings_Trim_laid Tryd.lays160 (by kernel_rfl) (bs s) (bs digitsS) w (by omega) (by decide) (Go.Proofs.ascii_of_all (by decide))).mono fun e w' ⟨he, hb⟩ => ?_
      subst he
      refine ⟨_, V, rfl, ?_, hw.kept (fr_below hb)⟩
      have e1 : (bs s).data.toList = s := bs_toList s
      have e2 : (bs digitsS).data.toList = digitsS := bs_toList digitsS
      rw [e1, e2]
      exact PR.str (trimM s)
def eParse1 : Nat × (List SX → List Chunk → Option (Option Prop × SV × List Chunk)) := (66, fun
  | [.c (.pd (.str s)), .c (.pd (.int .i64 10)), .c (.pd (.int .i64 64))], [] => some (some (s.length ≤ 281474976710656 ∧ parsedOk s = true), .tup [.c (.pd (.int .i64 (parsedM s))), .c (.pd (.v .nilIface))], [])
  | _, _ => none)
theorem eParse1_ok (vs : List SX) (ck : List Chunk) (p : Option Prop) (ret : SV) (ck' : List Chunk) (h : eParse1.2 vs ck = some (p, ret, ck')) (hp : Holds p) : Does Tryd.prog eParse1.1 vs ck ret ck' := by
  unfold eParse1 at h
  simp only at h
  split at h
  · rename_i s
    simp only [Option.some.injEq, Prod.mk.injEq] at h
    obtain ⟨rfl, rfl, rfl⟩ := h
    exact parse_ok s hp.1 hp.2
  · simp at h
def eParse0 : Nat × (List SX → List Chunk → Option (Option Prop × SV × List Chunk)) := (66, fun
  | [.c (.pd (.str s)), .c (.pd (.int .i64 10)), .c (.pd (.int .i64 64))], [] => some (some (s.length ≤ 281474976710656 ∧ parsedOk s = false), .tup [.c (.pd (.int .i64 (parsedM s))), .c (.pd .err)], [])
  | _, _ => none)
theorem eParse0_ok (vs : List SX) (ck : List Chunk) (p : Option Prop) (ret : SV) (ck' : List Chunk) (h : eParse0.2 vs ck = some (p, ret, ck')) (hp : Holds p) : Does Tryd.prog eParse0.1 vs ck ret ck' := by
  unfold eParse0 at h
  simp only at h
  split at h
  · rename_i s
    simp only [Option.some.injEq, Prod.mk.injEq] at h
    obtain ⟨rfl, rfl, rfl⟩ := h
    exact parse_bad s hp.1 hp.2
  · simp at h
def eTrim : Nat × (List SX → List Chunk → Option (Option Prop × SV × List Chunk)) := (65, fun
  | [.c (.pd (.str s)), .c (.pd (.str [48, 49, 50, 51, 52, 53, 54, 55, 56, 57]))], [] => some (some (s.length ≤ 9223372036854775807), .x (.c (.pd (.str (trimM s)))), [])
  | _, _ => none)
theorem eTrim_ok (vs : List SX) (ck : List Chunk) (p : Option Prop) (ret : SV) (ck' : List Chunk) (h : eTrim.2 vs ck = some (p, ret, ck')) (hp : Holds p) : Does Tryd.prog eTrim.1 vs ck ret ck' := by
  unfold eTrim at h
  simp only at h
  split at h
  · rename_i s
    simp only [Option.some.injEq, Prod.mk.injEq] at h
    obtain ⟨rfl, rfl, rfl⟩ := h
    exact trim_spec s hp
  · simp at h
def cfgNb1 : Cfg := ⟨tys0, [eCut, eTrim, eParse1]⟩
theorem cfgNb1_ok : TabOk Tryd.prog cfgNb1.tab := (TabOk.cons eCut_ok (TabOk.cons eTrim_ok (TabOk.cons eParse1_ok TabOk.nil)))
def cfgNb0 : Cfg := ⟨tys0, [eCut, eTrim, eParse0]⟩
theorem cfgNb0_ok : TabOk Tryd.prog cfgNb0.tab := (TabOk.cons eCut_ok (TabOk.cons eTrim_ok (TabOk.cons eParse0_ok TabOk.nil)))
end Go.Proofs.YtjndellhebidoaaDoor
namespace Go.Proofs.YtjndellhebidoaaDoor
open Go Go.Ev
set_option maxRecDepth 100000
/-! ### plain -/
def isD (c : UInt8) : Bool := decide (48 ≤ (c.toNat : Int)) && decide ((c.toNat : Int) ≤ 57)
def valD : Nat → List UInt8 → Nat
  | a, [] => a
  | a, c :: r => valD (10 * a + (c.toNat - 48)) r
def formBad (s : Str) : Bool := cutP s [45] == [] || !(cutP s [45]).all isD || (((cutP s [45]).getD 0 0).toNat : Int) == 48 && (decide (strLen (cutP s [45]) > 1) || hasP s [45])
def numM (s : Str) : Int × Int := if formBad s = true then (0, 1) else if 1099511627776 < valD 0 (cutP s [45]) then (0, 5) else (if hasP s [45] = true then -(valD 0 (cutP s [45]) : Int) else (valD 0 (cutP s [45]) : Int), 0)
theorem isD_set (c : UInt8) : digitsS.contains c = isD c := by
  rw [Bool.eq_iff_iff]
  simp only [digitsS, isD, List.contains_eq_mem, List.mem_cons, List.not_mem_nil, or_false, decide_eq_true_eq, Bool.and_eq_true]
  constructor
  · intro h
    rcases h with rfl | rfl | rfl | rfl | rfl | rfl | rfl | rfl | rfl | rfl <;> decide
  · intro h
    have hn : c.toNat = 48 ∨ c.toNat = 49 ∨ c.toNat = 50 ∨ c.toNat = 51 ∨ c.toNat = 52 ∨ c.toNat = 53 ∨ c.toNat = 54 ∨ c.toNat = 55 ∨ c.toNat = 56 ∨ c.toNat = 57 := by omega
    have key : ∀ d : UInt8, c.toNat = d.toNat → c = d := fun d h => UInt8.toNat_inj.1 h
    rcases hn with h | h | h | h | h | h | h | h | h | h
    · exact .inl (key 48 h)
    · exact .inr (.inl (key 49 h))
    · exact .inr (.inr (.inl (key 50 h)))
    · exact .inr (.inr (.inr (.inl (key 51 h))))
    · exact .inr (.inr (.inr (.inr (.inl (key 52 h)))))
    · exact .inr (.inr (.inr (.inr (.inr (.inl (key 53 h))))))
    · exact .inr (.inr (.inr (.inr (.inr (.inr (.inl (key 54 h)))))))
    · exact .inr (.inr (.inr (.inr (.inr (.inr (.inr (.inl (key 55 h))))))))
    · exact .inr (.inr (.inr (.inr (.inr (.inr (.inr (.inr (.inl (key 56 h)))))))))
    · exact .inr (.inr (.inr (.inr (.inr (.inr (.inr (.inr (.inr (key 57 h)))))))))
theorem dropWhile_nil {p : UInt8 → Bool} : ∀ {l : List UInt8}, l.dropWhile p = [] ↔ ∀ x ∈ l, p x = true
  | [] => by simp
  | c :: r => by
    rw [List.dropWhile_cons]
    by_cases h : p c = true
    · rw [if_pos h, dropWhile_nil]; simp [h]
    · rw [if_neg h]; simp [h]
theorem dropWhile_head {p : UInt8 → Bool} {a : UInt8} {r : List UInt8} : ∀ {l : List UInt8}, l.dropWhile p = a :: r → p a = false
  | [], h => by simp at h
  | c :: l, h => by
    rw [List.dropWhile_cons] at h
    by_cases hc : p c = true
    · rw [if_pos hc] at h; exact dropWhile_head h
    · rw [if_neg hc] at h
      simp only [List.cons.injEq] at h
      rw [← h.1]; simpa using hc
theorem trim_nil (l : Str) : (trimM l == []) = l.all isD := by
  have hp : (fun c => digitsS.contains c) = isD := funext isD_set
  have e : trimM l = ((l.reverse.dropWhile isD).reverse).dropWhile isD := by
    show ((l.reverse.dropWhile (digitsS.contains ·)).reverse).dropWhile (digitsS.contains ·) = _
    rw [hp]
  rw [e, Bool.eq_iff_iff, beq_iff_eq, List.all_eq_true]
  constructor
  · intro h
    have h1 := dropWhile_nil.1 h
    have h2 : l.reverse.dropWhile isD = [] := by
      cases hx : l.reverse.dropWhile isD with
      | nil => rfl
      | cons a r =>
        exfalso
        have h3 := h1 a (by rw [hx]; simp)
        have h4 := dropWhile_head hx
        rw [h3] at h4; cases h4
    intro x hx
    exact dropWhile_nil.1 h2 x (by simpa using hx)
  · intro h
    have h2 : l.reverse.dropWhile isD = [] := dropWhile_nil.2 fun x hx => h x (by simpa using hx)
    rw [h2]; rfl
theorem valD_ge : ∀ (l : List UInt8) (a : Nat), a ≤ valD a l
  | [], a => Nat.le_refl _
  | c :: r, a => by
    have h1 := valD_ge r (10 * a + (c.toNat - 48))
    have h2 : a ≤ 10 * a + (c.toNat - 48) := by omega
    exact Nat.le_trans h2 h1
theorem parseM (M : Nat) (hM : M = 18446744073709551615) : ∀ (l : List UInt8) (a : Nat), l.all isD = true → a ≤ M → Lib.parseUintM M a l = if valD a l ≤ M then .ok (valD a l) else .range
  | [], a, _, h => by
    have e : valD a [] = a := rfl
    rw [e, if_pos h]; rfl
  | c :: r, a, h, ha => by
    simp only [List.all_cons, Bool.and_eq_true] at h
    have hd : 48 ≤ c.toNat ∧ c.toNat ≤ 57 := by
      have := h.1
      simp only [isD, Bool.and_eq_true, decide_eq_true_eq] at this
      omega
    have hge := valD_ge r (10 * a + (c.toNat - 48))
    have hc : a * 10 + (c.toNat - 48) = 10 * a + (c.toNat - 48) := by omega
    have hv : valD a (c :: r) = valD (10 * a + (c.toNat - 48)) r := rfl
    have hu : Lib.parseUintM M a (c :: r) = if 48 ≤ c.toNat ∧ c.toNat ≤ 57 then (if 1844674407370955162 ≤ a then .range else if M < a * 10 + (c.toNat - 48) then .range else Lib.parseUintM M (a * 10 + (c.toNat - 48)) r) else .syntax := rfl
    rw [hu, if_pos hd, hv, hc]
    generalize 10 * a + (c.toNat - 48) = b at *
    by_cases h1 : 1844674407370955162 ≤ a
    · rw [if_pos h1, if_neg (by omega)]
    · rw [if_neg h1]
      by_cases h2 : M < b
      · rw [if_pos h2, if_neg (by omega)]
      · rw [if_neg h2]
        exact parseM M hM r b h.2 (by omega)
theorem cut_minus (r : Str) : cutP (45 :: r) [45] = r ∧ hasP (45 :: r) [45] = true := by
  have h : hasP (45 :: r) [45] = true := by simp [hasP, strLen]; omega
  exact ⟨by rw [cutP, h]; rfl, h⟩
theorem cut_other {c : UInt8} (r : Str) (h : c ≠ 45) : cutP (c :: r) [45] = c :: r ∧ hasP (c :: r) [45] = false := by
  have h' : hasP (c :: r) [45] = false := by simp [hasP, strLen, h]
  exact ⟨by rw [cutP, h']; rfl, h'⟩
theorem cut_nil : cutP [] [45] = [] ∧ hasP [] [45] = false := by decide
/-- What the library's reading gives of a right form. -/
theorem parsed_of {s : Str} (h : formBad s = false) : (parsedOk s = true → parsedM s = if hasP s [45] = true then -(valD 0 (cutP s [45]) : Int) else (valD 0 (cutP s [45]) : Int)) ∧ (parsedOk s = false → 9223372036854775808 ≤ valD 0 (cutP s [45])) := by
  simp only [formBad, Bool.or_eq_false_iff, Bool.not_eq_false'] at h
  obtain ⟨⟨hne, hall⟩, _⟩ := h
  cases s with
  | nil => rw [cut_nil.1] at hne; simp at hne
  | cons c r =>
    by_cases hc : c = 45
    · subst hc
      rw [(cut_minus r).1] at hne hall ⊢
      rw [(cut_minus r).2]
      have hr : r ≠ [] := by simpa using hne
      have hu : Lib.parseUintB 64 r = if valD 0 r ≤ 18446744073709551615 then .ok (valD 0 r) else .range := by
        rw [Lib.parseUintB, if_neg hr]; exact parseM _ rfl r 0 hall (Nat.zero_le _)
      have hp : Lib.parseIntB 64 (45 :: r) = if valD 0 r ≤ 18446744073709551615 then (if 9223372036854775808 < valD 0 r then .range else .ok (-(valD 0 r : Int))) else .range := by
        simp only [Lib.parseIntB]
        have e1 : ((45 : UInt8).toNat = 43 ∨ (45 : UInt8).toNat = 45) := .inr rfl
        rw [if_pos e1, hu]
        by_cases hv : valD 0 r ≤ 18446744073709551615
        · rw [if_pos hv, if_pos hv]; simp
        · rw [if_neg hv, if_neg hv]
      unfold parsedOk parsedM
      rw [hp]
      by_cases hv : valD 0 r ≤ 18446744073709551615
      · rw [if_pos hv]
        by_cases h2 : 9223372036854775808 < valD 0 r
        · rw [if_pos h2]; exact ⟨fun h => absurd h (by simp), fun _ => by omega⟩
        · rw [if_neg h2]; exact ⟨fun _ => by simp, fun h => absurd h (by simp)⟩
      · rw [if_neg hv]; exact ⟨fun h => absurd h (by simp), fun _ => by omega⟩
    · rw [(cut_other r hc).1] at hne hall ⊢
      rw [(cut_other r hc).2]
      have hdig : 48 ≤ c.toNat := by
        have := hall
        simp only [List.all_cons, Bool.and_eq_true, isD, decide_eq_true_eq] at this; omega
      have hu : Lib.parseUintB 64 (c :: r) = if valD 0 (c :: r) ≤ 18446744073709551615 then .ok (valD 0 (c :: r)) else .range := by
        rw [Lib.parseUintB, if_neg (by simp)]; exact parseM _ rfl (c :: r) 0 hall (Nat.zero_le _)
      have hp : Lib.parseIntB 64 (c :: r) = if valD 0 (c :: r) ≤ 18446744073709551615 then (if 9223372036854775808 ≤ valD 0 (c :: r) then .range else .ok (valD 0 (c :: r) : Int)) else .range := by
        simp only [Lib.parseIntB]
        have e1 : ¬ (c.toNat = 43 ∨ c.toNat = 45) := by omega
        have e2 : ¬ c.toNat = 45 := by omega
        rw [if_neg e1, hu]
        by_cases hv : valD 0 (c :: r) ≤ 18446744073709551615
        · rw [if_pos hv, if_pos hv]; simp [e2]
        · rw [if_neg hv, if_neg hv]
      unfold parsedOk parsedM
      rw [hp]
      by_cases hv : valD 0 (c :: r) ≤ 18446744073709551615
      · rw [if_pos hv]
        by_cases h2 : 9223372036854775808 ≤ valD 0 (c :: r)
        · rw [if_pos h2]; exact ⟨fun h => absurd h (by simp), fun _ => by omega⟩
        · rw [if_neg h2]; exact ⟨fun _ => by simp, fun h => absurd h (by simp)⟩
      · rw [if_neg hv]; exact ⟨fun h => absurd h (by simp), fun _ => by omega⟩
/-! ### the program's -/
theorem number_spec (s : Str) (hs : s.length ≤ 281474976710656) : Does Tryd.prog 58 [.s s] [] (intP (numM s)) [] := by
  have hcl : (cutP s [45]).length ≤ s.length := by
    unfold cutP
    cases hasP s [45]
    · exact Nat.le_refl _
    · simp only [cond_true, List.length_drop]; omega
  have hL : strLen (cutP s [45]) = ((cutP s [45]).length : Int) := rfl
  have hpos : (cutP s [45] == []) = false → 0 < (cutP s [45]).length := fun h => List.length_pos_iff.2 (by simpa using h)
  cases hok : parsedOk s
  · refine Does.go (cfg := cfgNb0) cfgNb0_ok Tryd.func58 (by kernel_rfl) (by kernel_rfl) (t := (Tree.need ((cutP s [(45 : UInt8)] == []) = false → List.length (cutP s [(45 : UInt8)]) ≤ (9223372036854775807 : Nat)) (Tree.need ((cutP s [(45 : UInt8)] == [] || !trimM (cutP s [(45 : UInt8)]) == []) = false → (0 : Int) ≤ (0 : Int) ∧ (0 : Int) < strLen (cutP s [(45 : UInt8)])) (Tree.ite (cutP s [(45 : UInt8)] == [] || !trimM (cutP s [(45 : UInt8)]) == [] || (↑(UInt8.toNat (List.getD (cutP s [(45 : UInt8)]) (0 : Nat) (0 : UInt8))) : Int) == (48 : Int) && (decide (strLen (cutP s [(45 : UInt8)]) > (1 : Int)) || hasP s [(45 : UInt8)])) (Tree.ret (SV.tup [SX.c (SC.pd (PD.int IntKind.i64 (0 : Int))), SX.c (SC.pd (PD.int IntKind.i64 (1 : Int)))]) []) (Tree.need (List.length s ≤ (281474976710656 : Nat) ∧ parsedOk s = false) (Tree.ite true (Tree.ret (SV.tup [SX.c (SC.pd (PD.int IntKind.i64 (0 : Int))), SX.c (SC.pd (PD.int IntKind.i64 (5 : Int)))]) []) (Tree.ret (SV.tup [SX.c (SC.pd (PD.int IntKind.i64 (parsedM s))), SX.c (SC.pd (PD.int IntKind.i64 (0 : Int)))]) []))))))) (by kernel_rfl) fun Γ => ?_
    rw [trim_nil]
    refine ⟨fun _ => by omega, fun h => ?_, fun h => ⟨congrArg intP (a₁ := (0, 1)) ?_, rfl⟩, fun h => ⟨⟨hs, hok⟩, fun _ => ⟨congrArg intP (a₁ := (0, 5)) ?_, rfl⟩, fun h => Bool.noConfusion h⟩⟩
    · simp only [Bool.or_eq_false_iff] at h
      have := hpos h.1; omega
    · have hb : formBad s = true := h
      rw [numM, if_pos hb]
    · have hb : formBad s = false := h
      have := (parsed_of hb).2 hok
      rw [numM, if_neg (by rw [hb]; simp), if_pos (by omega)]
  · refine Does.go (cfg := cfgNb1) cfgNb1_ok Tryd.func58 (by kernel_rfl) (by kernel_rfl) (t := (Tree.need ((cutP s [(45 : UInt8)] == []) = false → List.length (cutP s [(45 : UInt8)]) ≤ (9223372036854775807 : Nat)) (Tree.need ((cutP s [(45 : UInt8)] == [] || !trimM (cutP s [(45 : UInt8)]) == []) = false → (0 : Int) ≤ (0 : Int) ∧ (0 : Int) < strLen (cutP s [(45 : UInt8)])) (Tree.ite (cutP s [(45 : UInt8)] == [] || !trimM (cutP s [(45 : UInt8)]) == [] || (↑(UInt8.toNat (List.getD (cutP s [(45 : UInt8)]) (0 : Nat) (0 : UInt8))) : Int) == (48 : Int) && (decide (strLen (cutP s [(45 : UInt8)]) > (1 : Int)) || hasP s [(45 : UInt8)])) (Tree.ret (SV.tup [SX.c (SC.pd (PD.int IntKind.i64 (0 : Int))), SX.c (SC.pd (PD.int IntKind.i64 (1 : Int)))]) []) (Tree.need (List.length s ≤ (281474976710656 : Nat) ∧ parsedOk s = true) (Tree.ite (false || decide (parsedM s > (1099511627776 : Int)) || decide (parsedM s < (-1099511627776 : Int))) (Tree.ret (SV.tup [SX.c (SC.pd (PD.int IntKind.i64 (0 : Int))), SX.c (SC.pd (PD.int IntKind.i64 (5 : Int)))]) []) (Tree.ret (SV.tup [SX.c (SC.pd (PD.int IntKind.i64 (parsedM s))), SX.c (SC.pd (PD.int IntKind.i64 (0 : Int)))]) []))))))) (by kernel_rfl) fun Γ => ?_
    rw [trim_nil]
    refine ⟨fun _ => by omega, fun h => ?_, fun h => ⟨congrArg intP (a₁ := (0, 1)) ?_, rfl⟩, fun h => ⟨⟨hs, hok⟩, fun g => ⟨congrArg intP (a₁ := (0, 5)) ?_, rfl⟩, fun g => ⟨congrArg intP (a₁ := (parsedM s, 0)) ?_, rfl⟩⟩⟩
    · simp only [Bool.or_eq_false_iff] at h
      have := hpos h.1; omega
    · have hb : formBad s = true := h
      rw [numM, if_pos hb]
    · have hb : formBad s = false := h
      have hv := (parsed_of hb).1 hok
      simp only [Bool.false_or, Bool.or_eq_true, decide_eq_true_eq] at g
      rw [numM, if_neg (by rw [hb]; simp), if_pos]
      rw [hv] at g
      split at g <;> omega
    · have hb : formBad s = false := h
      have hv := (parsed_of hb).1 hok
      simp only [Bool.false_or, Bool.or_eq_false_iff, decide_eq_false_iff_not] at g
      rw [numM, if_neg (by rw [hb]; simp), if_neg, hv]
      rw [hv] at g
      split at g <;> omega
end Go.Proofs.YtjndellhebidoaaDoor

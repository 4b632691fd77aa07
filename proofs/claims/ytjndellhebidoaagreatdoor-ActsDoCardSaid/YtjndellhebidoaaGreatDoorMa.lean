/- The library's contracts of strings.Trim, laid at this dump by the kit's tools. Conditions: none. Contracts: strconv.ParseInt, strings.Trim, words.Number. Conditions: texts that are not too long; the errors' variables. Numbers read: the program's, the document's. Conditions: texts of at most 2^48 bytes. Expressions read, as a plain relation: what the program's reader does. Conditions: none. -/
import Derived.Shelf.Lays
import Derived.Shelf.Strings.Trim
import Derived.Shelf.Strings.SlTrimAscii
import Derived.Test.YtjndellhebidoaaGreatDoorProg
import Derived.Test.YtjndellhebidoaaGreatDoorNa
import Derived.Test.YtjndellhebidoaaGreatDoorPX
import Derived.Test.YtjndellhebidoaaGreatDoorShelfb
import Derived.Lib.AtoiErrMem
namespace Go.Proofs
open Go.Shelf
def Tryz.lays160_ren : Go.Shelf.Ren := ⟨fun | 160 => 167 | 232 => 172 | 231 => 171 | 227 => 173 | 234 => 175 | 233 => 174 | 236 => 177 | 235 => 176 | 228 => 180 | 271 => 182 | 151 => 181 | 197 => 107 | 120 => 189 | 152 => 188 | 260 => 130 | 137 => 195 | 119 => 196 | 224 => 133 | 225 => 132 | 217 => 131 | 266 => 150 | n => n, fun | 9 => 9 | 4 => 4 | 3 => 3 | 5 => 5 | 117 => 214 | 116 => 213 | 0 => 0 | 124 => 217 | 21 => 21 | 105 => 148 | 46 => 173 | 119 => 187 | 139 => 190 | 138 => 189 | n => n, fun | 3 => 1 | 4 => 2 | n => n⟩
theorem Tryz.lays160 : Go.Proofs.Lays.n160 Tryz.prog Tryz.lays160_ren := {
  mixed := by kernel_rfl
  f119 := Tryz.func196.trans (congrArg some (by kernel_rfl))
  f120 := Tryz.func189.trans (congrArg some (by kernel_rfl))
  f137 := Tryz.func195.trans (congrArg some (by kernel_rfl))
  f151 := Tryz.func181.trans (congrArg some (by kernel_rfl))
  f152 := Tryz.func188.trans (congrArg some (by kernel_rfl))
  f160 := Tryz.func167.trans (congrArg some (by kernel_rfl))
  f197 := Tryz.func107.trans (congrArg some (by kernel_rfl))
  f217 := Tryz.func131.trans (congrArg some (by kernel_rfl))
  f224 := Tryz.func133.trans (congrArg some (by kernel_rfl))
  f225 := Tryz.func132.trans (congrArg some (by kernel_rfl))
  f227 := Tryz.func173.trans (congrArg some (by kernel_rfl))
  f228 := Tryz.func180.trans (congrArg some (by kernel_rfl))
  f231 := Tryz.func171.trans (congrArg some (by kernel_rfl))
  f232 := Tryz.func172.trans (congrArg some (by kernel_rfl))
  f233 := Tryz.func174.trans (congrArg some (by kernel_rfl))
  f234 := Tryz.func175.trans (congrArg some (by kernel_rfl))
  f235 := Tryz.func176.trans (congrArg some (by kernel_rfl))
  f236 := Tryz.func177.trans (congrArg some (by kernel_rfl))
  f260 := Tryz.func130.trans (congrArg some (by kernel_rfl))
  f266 := Tryz.func150.trans (congrArg some (by kernel_rfl))
  f271 := Tryz.func182.trans (congrArg some (by kernel_rfl))
  t0 := Tryz.underlying0
  a0 := Tryz.isAgg0
  z0 := Tryz.sizeOf0
  v0 := Tryz.zeroValue0
  t3 := Tryz.underlying3
  a3 := Tryz.isAgg3
  z3 := Tryz.sizeOf3
  v3 := Tryz.zeroValue3
  t4 := Tryz.underlying4
  a4 := Tryz.isAgg4
  z4 := Tryz.sizeOf4
  v4 := Tryz.zeroValue4
  t5 := Tryz.underlying5
  a5 := Tryz.isAgg5
  z5 := Tryz.sizeOf5
  v5 := Tryz.zeroValue5
  t9 := Tryz.underlying9
  a9 := Tryz.isAgg9
  z9 := Tryz.sizeOf9
  v9 := Tryz.zeroValue9
  t21 := Tryz.underlying21
  a21 := Tryz.isAgg21
  z21 := Tryz.sizeOf21
  v21 := Tryz.zeroValue21
  t46 := Tryz.underlying173
  a46 := Tryz.isAgg173
  z46 := Tryz.sizeOf173
  v46 := Tryz.zeroValue173
  t105 := Tryz.underlying148
  a105 := Tryz.isAgg148
  z105 := Tryz.sizeOf148
  v105 := Tryz.zeroValue148
  t116 := Tryz.underlying213
  a116 := Tryz.isAgg213
  z116 := Tryz.sizeOf213
  t117 := Tryz.underlying214
  a117 := Tryz.isAgg214
  z117 := Tryz.sizeOf214
  v117 := Tryz.zeroValue214
  t119 := Tryz.underlying187
  a119 := Tryz.isAgg187
  z119 := Tryz.sizeOf187
  t124 := Tryz.underlying217
  a124 := Tryz.isAgg217
  z124 := Tryz.sizeOf217
  v124 := Tryz.zeroValue217
  t138 := Tryz.underlying189
  a138 := Tryz.isAgg189
  z138 := Tryz.sizeOf189
  v138 := Tryz.zeroValue189
  t139 := Tryz.underlying190
  a139 := Tryz.isAgg190
  z139 := Tryz.sizeOf190
  v139 := Tryz.zeroValue190
  g3 := by kernel_rfl
  g4 := by kernel_rfl }
end Go.Proofs
namespace Go.Proofs.YtjndellhebidoaaGreatDoor
open Go Go.Ev Go.RowKit
set_option maxRecDepth 100000
def parsedM (s : Str) : Int := match Lib.parseIntB 64 s with
  | .ok v => v
  | .syntax => 0
  | .range => Lib.intSat 64 s
def parsedOk (s : Str) : Bool := match Lib.parseIntB 64 s with
  | .ok _ => true
  | _ => false
def digitsS : Str := [48, 49, 50, 51, 52, 53, 54, 55, 56, 57]
def trimM (s : Str) : Str := Lib.trimS s digitsS
theorem parse_args {V : Vn} {s : Str} {vs : List Value} (hv : All2 (SX.R V) [SX.s s, SX.i 10, SX.i 64] vs) : vs = [.string (bs s), .int .i64 10, .int .i64 64] := by
  cases hv with
  | cons a1 hv => cases hv with
    | cons a2 hv => cases hv with
      | cons a3 hv =>
        cases hv
        have a1' : PR V.H (.str s) _ := a1
        have a2' : PR V.H (.int .i64 10) _ := a2
        have a3' : PR V.H (.int .i64 64) _ := a3
        cases a1'; cases a2'; cases a3'
        rfl
theorem parse_ok (s : Str) (hs : s.length ≤ 281474976710656) (h : parsedOk s = true) : Does Tryz.prog 168 [.s s, .i 10, .i 64] [] (.tup [.i (parsedM s), .c (.pd (.v .nilIface))]) [] := by
  intro w V vs hw hT hv
  rw [parse_args hv]
  have hsz : (bs s).size = s.length := bs_size s
  unfold parsedOk at h
  split at h
  · rename_i v hp
    refine (Tryz.strconv_ParseInt_10_at64_ok (bs s) (by omega) v (by rw [bs_toList]; exact hp) w).mono fun e w' ⟨he, hw'⟩ => ?_
    subst he
    have hb : Below w.heap.size w w' := by
      rcases hw' with rfl | ⟨t, rfl⟩
      · exact Below.refl _ _
      · exact Lib.bytesWorld_below w _ t
    have ev : parsedM s = v := by simp [parsedM, hp]
    exact ⟨_, V, rfl, ⟨_, rfl, .cons (by rw [ev]; exact PR.int _ _) (.cons (PR.v _ rfl) .nil)⟩, hw.kept (fr_below hb)⟩
  · cases h
theorem parse_bad (s : Str) (hs : s.length ≤ 281474976710656) (h : parsedOk s = false) : Does Tryz.prog 168 [.s s, .i 10, .i 64] [] (.tup [.i (parsedM s), .c (.pd .err)]) [] := by
  intro w V vs hw hT hv
  rw [parse_args hv]
  have hsz : (bs s).size = s.length := bs_size s
  unfold parsedOk at h
  split at h
  · cases h
  · rename_i hn
    rcases hp : Lib.parseIntB 64 s with v | - | -
    · exact absurd hp (hn v)
    · obtain ⟨tp, p, hm⟩ := (hT.2.1) (by kernel_rfl)
      refine (Tryz.strconv_ParseInt_10_at64_syntax_var (bs s) (by omega) (by rw [bs_toList]; exact hp) tp p w (hm.world hw.imm)).mono fun e w' ⟨N, he, _, _, hb⟩ => ?_
      subst he
      have ev : parsedM s = 0 := by simp [parsedM, hp]
      exact ⟨_, V, rfl, ⟨_, rfl, .cons (by rw [ev]; exact PR.int _ _) (.cons (PR.err _ _) .nil)⟩, hw.kept (fr_below hb)⟩
    · obtain ⟨tp, p, hm⟩ := (hT.2.2.1) (by kernel_rfl)
      refine (Tryz.strconv_ParseInt_10_at64_range_var (bs s) (by omega) (by rw [bs_toList]; exact hp) tp p w (hm.world hw.imm)).mono fun e w' ⟨N, he, _, _, hb⟩ => ?_
      subst he
      have ev : parsedM s = Lib.intSat 64 s := by simp [parsedM, hp]
      exact ⟨_, V, rfl, ⟨_, rfl, .cons (by rw [ev]; have := PR.int (H := V.H) .i64 (Lib.intSat 64 s); rw [bs_toList]; exact this) (.cons (PR.err _ _) .nil)⟩, hw.kept (fr_below hb)⟩
theorem trim_spec (s : Str) (hs : s.length ≤ 9223372036854775807) : Does Tryz.prog 167 [.s s, .s digitsS] [] (.x (.s (trimM s))) [] := by
  intro w V vs hw hT hv
  cases hv with
  | cons a1 hv => cases hv with
    | cons a2 hv =>
      cases hv
      have a1' : PR V.H (.str s) _ := a1
      have a2' : PR V.H (.str digitsS) _ := a2
      cases a1'; cases a2'
      have hsz : (bs s).size = s.length := bs_size s
      refine (Any.strings_Trim_laid Tryz.lays160 (by kernel_rfl) (bs s) (bs digitsS) w (by omega) (by decide) (Go.Proofs.ascii_of_all (by decide))).mono fun e w' ⟨he, hb⟩ => ?_
      subst he
      refine ⟨_, V, rfl, ?_, hw.kept (fr_below hb)⟩
      have e1 : (bs s).data.toList = s := bs_toList s
      have e2 : (bs digitsS).data.toList = digitsS := bs_toList digitsS
      rw [e1, e2]
      exact PR.str (trimM s)
def eParse1 : Nat × (List SX → List Chunk → Option (Option Prop × SV × List Chunk)) := (168, fun
  | [.c (.pd (.str s)), .c (.pd (.int .i64 10)), .c (.pd (.int .i64 64))], [] => some (some (s.length ≤ 281474976710656 ∧ parsedOk s = true), .tup [.c (.pd (.int .i64 (parsedM s))), .c (.pd (.v .nilIface))], [])
  | _, _ => none)
theorem eParse1_ok (vs : List SX) (ck : List Chunk) (p : Option Prop) (ret : SV) (ck' : List Chunk) (h : eParse1.2 vs ck = some (p, ret, ck')) (hp : Holds p) : Does Tryz.prog eParse1.1 vs ck ret ck' := by
  unfold eParse1 at h
  simp only at h
  split at h
  · rename_i s
    simp only [Option.some.injEq, Prod.mk.injEq] at h
    obtain ⟨rfl, rfl, rfl⟩ := h
    exact parse_ok s hp.1 hp.2
  · simp at h
def eParse0 : Nat × (List SX → List Chunk → Option (Option Prop × SV × List Chunk)) := (168, fun
  | [.c (.pd (.str s)), .c (.pd (.int .i64 10)), .c (.pd (.int .i64 64))], [] => some (some (s.length ≤ 281474976710656 ∧ parsedOk s = false), .tup [.c (.pd (.int .i64 (parsedM s))), .c (.pd .err)], [])
  | _, _ => none)
theorem eParse0_ok (vs : List SX) (ck : List Chunk) (p : Option Prop) (ret : SV) (ck' : List Chunk) (h : eParse0.2 vs ck = some (p, ret, ck')) (hp : Holds p) : Does Tryz.prog eParse0.1 vs ck ret ck' := by
  unfold eParse0 at h
  simp only at h
  split at h
  · rename_i s
    simp only [Option.some.injEq, Prod.mk.injEq] at h
    obtain ⟨rfl, rfl, rfl⟩ := h
    exact parse_bad s hp.1 hp.2
  · simp at h
def eTrim : Nat × (List SX → List Chunk → Option (Option Prop × SV × List Chunk)) := (167, fun
  | [.c (.pd (.str s)), .c (.pd (.str [48, 49, 50, 51, 52, 53, 54, 55, 56, 57]))], [] => some (some (s.length ≤ 9223372036854775807), .x (.c (.pd (.str (trimM s)))), [])
  | _, _ => none)
theorem eTrim_ok (vs : List SX) (ck : List Chunk) (p : Option Prop) (ret : SV) (ck' : List Chunk) (h : eTrim.2 vs ck = some (p, ret, ck')) (hp : Holds p) : Does Tryz.prog eTrim.1 vs ck ret ck' := by
  unfold eTrim at h
  simp only at h
  split at h
  · rename_i s
    simp only [Option.some.injEq, Prod.mk.injEq] at h
    obtain ⟨rfl, rfl, rfl⟩ := h
    exact trim_spec s hp
  · simp at h
def cfgNb1 : Cfg := ⟨tys0, [eCut, eTrim, eParse1]⟩
theorem cfgNb1_ok : TabOk Tryz.prog cfgNb1.tab := (TabOk.cons eCut_ok (TabOk.cons eTrim_ok (TabOk.cons eParse1_ok TabOk.nil)))
def cfgNb0 : Cfg := ⟨tys0, [eCut, eTrim, eParse0]⟩
theorem cfgNb0_ok : TabOk Tryz.prog cfgNb0.tab := (TabOk.cons eCut_ok (TabOk.cons eTrim_ok (TabOk.cons eParse0_ok TabOk.nil)))
end Go.Proofs.YtjndellhebidoaaGreatDoor
namespace Go.Proofs.YtjndellhebidoaaGreatDoor
open Go Go.Ev
set_option maxRecDepth 100000
/-! ### plain -/
def isD (c : UInt8) : Bool := decide (48 ≤ (c.toNat : Int)) && decide ((c.toNat : Int) ≤ 57)
def valD : Nat → List UInt8 → Nat
  | a, [] => a
  | a, c :: r => valD (10 * a + (c.toNat - 48)) r
def formBad (s : Str) : Bool := cutP s [45] == [] || !(cutP s [45]).all isD || (((cutP s [45]).getD 0 0).toNat : Int) == 48 && (decide (strLen (cutP s [45]) > 1) || hasP s [45])
def numM (s : Str) : Int × Int := if formBad s = true then (0, 1) else if 1099511627776 < valD 0 (cutP s [45]) then (0, 5) else (if hasP s [45] = true then -(valD 0 (cutP s [45]) : Int) else (valD 0 (cutP s [45]) : Int), 0)
theorem isD_set (c : UInt8) : digitsS.contains c = isD c := by
  rw [Bool.eq_iff_iff]
  simp only [digitsS, isD, List.contains_eq_mem, List.mem_cons, List.not_mem_nil, or_false, decide_eq_true_eq, Bool.and_eq_true]
  constructor
  · intro h
    rcases h with rfl | rfl | rfl | rfl | rfl | rfl | rfl | rfl | rfl | rfl <;> decide
  · intro h
    have hn : c.toNat = 48 ∨ c.toNat = 49 ∨ c.toNat = 50 ∨ c.toNat = 51 ∨ c.toNat = 52 ∨ c.toNat = 53 ∨ c.toNat = 54 ∨ c.toNat = 55 ∨ c.toNat = 56 ∨ c.toNat = 57 := by omega
    have key : ∀ d : UInt8, c.toNat = d.toNat → c = d := fun d h => UInt8.toNat_inj.1 h
    rcases hn with h | h | h | h | h | h | h | h | h | h
    · exact .inl (key 48 h)
    · exact .inr (.inl (key 49 h))
    · exact .inr (.inr (.inl (key 50 h)))
    · exact .inr (.inr (.inr (.inl (key 51 h))))
    · exact .inr (.inr (.inr (.inr (.inl (key 52 h)))))
    · exact .inr (.inr (.inr (.inr (.inr (.inl (key 53 h))))))
    · exact .inr (.inr (.inr (.inr (.inr (.inr (.inl (key 54 h)))))))
    · exact .inr (.inr (.inr (.inr (.inr (.inr (.inr (.inl (key 55 h))))))))
    · exact .inr (.inr (.inr (.inr (.inr (.inr (.inr (.inr (.inl (key 56 h)))))))))
    · exact .inr (.inr (.inr (.inr (.inr (.inr (.inr (.inr (.inr (key 57 h)))))))))
theorem dropWhile_nil {p : UInt8 → Bool} : ∀ {l : List UInt8}, l.dropWhile p = [] ↔ ∀ x ∈ l, p x = true
  | [] => by simp
  | c :: r => by
    rw [List.dropWhile_cons]
    by_cases h : p c = true
    · rw [if_pos h, dropWhile_nil]; simp [h]
    · rw [if_neg h]; simp [h]
theorem dropWhile_head {p : UInt8 → Bool} {a : UInt8} {r : List UInt8} : ∀ {l : List UInt8}, l.dropWhile p = a :: r → p a = false
  | [], h => by simp at h
  | c :: l, h => by
    rw [List.dropWhile_cons] at h
    by_cases hc : p c = true
    · rw [if_pos hc] at h; exact dropWhile_head h
    · rw [if_neg hc] at h
      simp only [List.cons.injEq] at h
      rw [← h.1]; simpa using hc
theorem trim_nil (l : Str) : (trimM l == []) = l.all isD := by
  have hp : (fun c => digitsS.contains c) = isD := funext isD_set
  have e : trimM l = ((l.reverse.dropWhile isD).reverse).dropWhile isD := by
    show ((l.reverse.dropWhile (digitsS.contains ·)).reverse).dropWhile (digitsS.contains ·) = _
    rw [hp]
  rw [e, Bool.eq_iff_iff, beq_iff_eq, List.all_eq_true]
  constructor
  · intro h
    have h1 := dropWhile_nil.1 h
    have h2 : l.reverse.dropWhile isD = [] := by
      cases hx : l.reverse.dropWhile isD with
      | nil => rfl
      | cons a r =>
        exfalso
        have h3 := h1 a (by rw [hx]; simp)
        have h4 := dropWhile_head hx
        rw [h3] at h4; cases h4
    intro x hx
    exact dropWhile_nil.1 h2 x (by simpa using hx)
  · intro h
    have h2 : l.reverse.dropWhile isD = [] := dropWhile_nil.2 fun x hx => h x (by simpa using hx)
    rw [h2]; rfl
theorem valD_ge : ∀ (l : List UInt8) (a : Nat), a ≤ valD a l
  | [], a => Nat.le_refl _
  | c :: r, a => by
    have h1 := valD_ge r (10 * a + (c.toNat - 48))
    have h2 : a ≤ 10 * a + (c.toNat - 48) := by omega
    exact Nat.le_trans h2 h1
theorem parseM (M : Nat) (hM : M = 18446744073709551615) : ∀ (l : List UInt8) (a : Nat), l.all isD = true → a ≤ M → Lib.parseUintM M a l = if valD a l ≤ M then .ok (valD a l) else .range
  | [], a, _, h => by
    have e : valD a [] = a := rfl
    rw [e, if_pos h]; rfl
  | c :: r, a, h, ha => by
    simp only [List.all_cons, Bool.and_eq_true] at h
    have hd : 48 ≤ c.toNat ∧ c.toNat ≤ 57 := by
      have := h.1
      simp only [isD, Bool.and_eq_true, decide_eq_true_eq] at this
      omega
    have hge := valD_ge r (10 * a + (c.toNat - 48))
    have hc : a * 10 + (c.toNat - 48) = 10 * a + (c.toNat - 48) := by omega
    have hv : valD a (c :: r) = valD (10 * a + (c.toNat - 48)) r := rfl
    have hu : Lib.parseUintM M a (c :: r) = if 48 ≤ c.toNat ∧ c.toNat ≤ 57 then (if 1844674407370955162 ≤ a then .range else if M < a * 10 + (c.toNat - 48) then .range else Lib.parseUintM M (a * 10 + (c.toNat - 48)) r) else .syntax := rfl
    rw [hu, if_pos hd, hv, hc]
    generalize 10 * a + (c.toNat - 48) = b at *
    by_cases h1 : 1844674407370955162 ≤ a
    · rw [if_pos h1, if_neg (by omega)]
    · rw [if_neg h1]
      by_cases h2 : M < b
      · rw [if_pos h2, if_neg (by omega)]
      · rw [if_neg h2]
        exact parseM M hM r b h.2 (by omega)
theorem cut_minus (r : Str) : cutP (45 :: r) [45] = r ∧ hasP (45 :: r) [45] = true := by
  have h : hasP (45 :: r) [45] = true := by simp [hasP, strLen]; omega
  exact ⟨by rw [cutP, h]; rfl, h⟩
theorem cut_other {c : UInt8} (r : Str) (h : c ≠ 45) : cutP (c :: r) [45] = c :: r ∧ hasP (c :: r) [45] = false := by
  have h' : hasP (c :: r) [45] = false := by simp [hasP, strLen, h]
  exact ⟨by rw [cutP, h']; rfl, h'⟩
theorem cut_nil : cutP [] [45] = [] ∧ hasP [] [45] = false := by decide
theorem parsed_of {s : Str} (h : formBad s = false) : (parsedOk s = true → parsedM s = if hasP s [45] = true then -(valD 0 (cutP s [45]) : Int) else (valD 0 (cutP s [45]) : Int)) ∧ (parsedOk s = false → 9223372036854775808 ≤ valD 0 (cutP s [45])) := by
  simp only [formBad, Bool.or_eq_false_iff, Bool.not_eq_false'] at h
  obtain ⟨⟨hne, hall⟩, _⟩ := h
  cases s with
  | nil => rw [cut_nil.1] at hne; simp at hne
  | cons c r =>
    by_cases hc : c = 45
    · subst hc
      rw [(cut_minus r).1] at hne hall ⊢
      rw [(cut_minus r).2]
      have hr : r ≠ [] := by simpa using hne
      have hu : Lib.parseUintB 64 r = if valD 0 r ≤ 18446744073709551615 then .ok (valD 0 r) else .range := by
        rw [Lib.parseUintB, if_neg hr]; exact parseM _ rfl r 0 hall (Nat.zero_le _)
      have hp : Lib.parseIntB 64 (45 :: r) = if valD 0 r ≤ 18446744073709551615 then (if 9223372036854775808 < valD 0 r then .range else .ok (-(valD 0 r : Int))) else .range := by
        simp only [Lib.parseIntB]
        have e1 : ((45 : UInt8).toNat = 43 ∨ (45 : UInt8).toNat = 45) := .inr rfl
        rw [if_pos e1, hu]
        by_cases hv : valD 0 r ≤ 18446744073709551615
        · rw [if_pos hv, if_pos hv]; simp
        · rw [if_neg hv, if_neg hv]
      unfold parsedOk parsedM
      rw [hp]
      by_cases hv : valD 0 r ≤ 18446744073709551615
      · rw [if_pos hv]
        by_cases h2 : 9223372036854775808 < valD 0 r
        · rw [if_pos h2]; exact ⟨fun h => absurd h (by simp), fun _ => by omega⟩
        · rw [if_neg h2]; exact ⟨fun _ => by simp, fun h => absurd h (by simp)⟩
      · rw [if_neg hv]; exact ⟨fun h => absurd h (by simp), fun _ => by omega⟩
    · rw [(cut_other r hc).1] at hne hall ⊢
      rw [(cut_other r hc).2]
      have hdig : 48 ≤ c.toNat := by
        have := hall
        simp only [List.all_cons, Bool.and_eq_true, isD, decide_eq_true_eq] at this; omega
      have hu : Lib.parseUintB 64 (c :: r) = if valD 0 (c :: r) ≤ 18446744073709551615 then .ok (valD 0 (c :: r)) else .range := by
        rw [Lib.parseUintB, if_neg (by simp)]; exact parseM _ rfl (c :: r) 0 hall (Nat.zero_le _)
      have hp : Lib.parseIntB 64 (c :: r) = if valD 0 (c :: r) ≤ 18446744073709551615 then (if 9223372036854775808 ≤ valD 0 (c :: r) then .range else .ok (valD 0 (c :: r) : Int)) else .range := by
        simp only [Lib.parseIntB]
        have e1 : ¬ (c.toNat = 43 ∨ c.toNat = 45) := by omega
        have e2 : ¬ c.toNat = 45 := by omega
        rw [if_neg e1, hu]
        by_cases hv : valD 0 (c :: r) ≤ 18446744073709551615
        · rw [if_pos hv, if_pos hv]; simp [e2]
        · rw [if_neg hv, if_neg hv]
      unfold parsedOk parsedM
      rw [hp]
      by_cases hv : valD 0 (c :: r) ≤ 18446744073709551615
      · rw [if_pos hv]
        by_cases h2 : 9223372036854775808 ≤ valD 0 (c :: r)
        · rw [if_pos h2]; exact ⟨fun h => absurd h (by simp), fun _ => by omega⟩
        · rw [if_neg h2]; exact ⟨fun _ => by simp, fun h => absurd h (by simp)⟩
      · rw [if_neg hv]; exact ⟨fun h => absurd h (by simp), fun _ => by omega⟩
/-! ### the program's -/
theorem number_spec (s : Str) (hs : s.length ≤ 281474976710656) : Does Tryz.prog 161 [.s s] [] (intP (numM s)) [] := by
  have hcl : (cutP s [45]).length ≤ s.length := by
    unfold cutP
    cases hasP s [45]
    · exact Nat.le_refl _
    · simp only [cond_true, List.length_drop]; omega
  have hL : strLen (cutP s [45]) = ((cutP s [45]).length : Int) := rfl
  have hpos : (cutP s [45] == []) = false → 0 < (cutP s [45]).length := fun h => List.length_pos_iff.2 (by simpa using h)
  cases hok : parsedOk s
  · refine Does.go (cfg := cfgNb0) cfgNb0_ok Tryz.func161 (by kernel_rfl) (by kernel_rfl) (t := (.need ((cutP s [(45 : UInt8)] == []) = false → List.length (cutP s [(45 : UInt8)]) ≤ 9223372036854775807) (.need ((cutP s [(45 : UInt8)] == [] || !trimM (cutP s [(45 : UInt8)]) == []) = false → (0 : Int) ≤ (0 : Int) ∧ (0 : Int) < strLen (cutP s [(45 : UInt8)])) (.ite (cutP s [(45 : UInt8)] == [] || !trimM (cutP s [(45 : UInt8)]) == [] || (↑(UInt8.toNat (List.getD (cutP s [(45 : UInt8)]) 0 (0 : UInt8))) : Int) == (48 : Int) && (decide (strLen (cutP s [(45 : UInt8)]) > (1 : Int)) || hasP s [(45 : UInt8)])) (.ret (.tup [.i (0 : Int), .i (1 : Int)]) []) (.need (List.length s ≤ 281474976710656 ∧ parsedOk s = false) (.ite true (.ret (.tup [.i (0 : Int), .i (5 : Int)]) []) (.ret (.tup [.i (parsedM s), .i (0 : Int)]) []))))))) (by kernel_rfl) fun Γ => ?_
    rw [trim_nil]
    refine ⟨fun _ => by omega, fun h => ?_, fun h => ⟨congrArg intP (a₁ := (0, 1)) ?_, rfl⟩, fun h => ⟨⟨hs, hok⟩, fun _ => ⟨congrArg intP (a₁ := (0, 5)) ?_, rfl⟩, fun h => Bool.noConfusion h⟩⟩
    · simp only [Bool.or_eq_false_iff] at h
      have := hpos h.1; omega
    · have hb : formBad s = true := h
      rw [numM, if_pos hb]
    · have hb : formBad s = false := h
      have := (parsed_of hb).2 hok
      rw [numM, if_neg (by rw [hb]; simp), if_pos (by omega)]
  · refine Does.go (cfg := cfgNb1) cfgNb1_ok Tryz.func161 (by kernel_rfl) (by kernel_rfl) (t := (.need ((cutP s [(45 : UInt8)] == []) = false → List.length (cutP s [(45 : UInt8)]) ≤ 9223372036854775807) (.need ((cutP s [(45 : UInt8)] == [] || !trimM (cutP s [(45 : UInt8)]) == []) = false → (0 : Int) ≤ (0 : Int) ∧ (0 : Int) < strLen (cutP s [(45 : UInt8)])) (.ite (cutP s [(45 : UInt8)] == [] || !trimM (cutP s [(45 : UInt8)]) == [] || (↑(UInt8.toNat (List.getD (cutP s [(45 : UInt8)]) 0 (0 : UInt8))) : Int) == (48 : Int) && (decide (strLen (cutP s [(45 : UInt8)]) > (1 : Int)) || hasP s [(45 : UInt8)])) (.ret (.tup [.i (0 : Int), .i (1 : Int)]) []) (.need (List.length s ≤ 281474976710656 ∧ parsedOk s = true) (.ite (false || decide (parsedM s > (1099511627776 : Int)) || decide (parsedM s < (-1099511627776 : Int))) (.ret (.tup [.i (0 : Int), .i (5 : Int)]) []) (.ret (.tup [.i (parsedM s), .i (0 : Int)]) []))))))) (by kernel_rfl) fun Γ => ?_
    rw [trim_nil]
    refine ⟨fun _ => by omega, fun h => ?_, fun h => ⟨congrArg intP (a₁ := (0, 1)) ?_, rfl⟩, fun h => ⟨⟨hs, hok⟩, fun g => ⟨congrArg intP (a₁ := (0, 5)) ?_, rfl⟩, fun g => ⟨congrArg intP (a₁ := (parsedM s, 0)) ?_, rfl⟩⟩⟩
    · simp only [Bool.or_eq_false_iff] at h
      have := hpos h.1; omega
    · have hb : formBad s = true := h
      rw [numM, if_pos hb]
    · have hb : formBad s = false := h
      have hv := (parsed_of hb).1 hok
      simp only [Bool.false_or, Bool.or_eq_true, decide_eq_true_eq] at g
      rw [numM, if_neg (by rw [hb]; simp), if_pos]
      rw [hv] at g
      split at g <;> omega
    · have hb : formBad s = false := h
      have hv := (parsed_of hb).1 hok
      simp only [Bool.false_or, Bool.or_eq_false_iff, decide_eq_false_iff_not] at g
      rw [numM, if_neg (by rw [hb]; simp), if_neg, hv]
      rw [hv] at g
      split at g <;> omega
end Go.Proofs.YtjndellhebidoaaGreatDoor
namespace Go.Proofs.YtjndellhebidoaaGreatDoor
open Go Go.Ev
set_option maxRecDepth 100000
structure Rd where
  pos : Int
  out : List Cell
  bad : Int
def Rd.wrong (r : Rd) (k : Int) : Rd := ⟨r.pos, r.out, if r.bad < 0 then k else r.bad⟩
def Rd.emit (r : Rd) (c : Cell) : Rd := ⟨r.pos, r.out ++ [c], r.bad⟩
def Rd.to (r : Rd) (k : Int) : Rd := ⟨k, r.out, r.bad⟩
def byteAt (s : Str) (k : Int) : Int := ((s.getD k.toNat 0).toNat : Int)
def signM (op : Int) : Str × Int :=
  bif op == 23 then ([124], 1) else bif op == 22 then ([38], 2) else bif op == 16 then ([61], 3) else bif op == 17 then ([33, 61], 3) else bif op == 18 then ([60], 3) else bif op == 19 then ([60, 61], 3)
  else bif op == 20 then ([62], 3) else bif op == 21 then ([62, 61], 3) else bif op == 11 then ([43], 4) else bif op == 12 then ([45], 4) else bif op == 13 then ([42], 5) else bif op == 14 then ([47], 5) else bif op == 15 then ([37], 5)
  else bif op == 7 then ([45], 6) else bif op == 8 then ([33], 6) else ([], 7)
def opsL : List Int := [17, 19, 21, 18, 20, 16, 23, 22, 11, 12, 13, 14, 15]
def operGo (rest : Str) (p : Int) : List Int → Int × Int
  | [] => (0, 0)
  | op :: l => bif (signM op).2 == p && hasP rest (signM op).1 then (op, strLen (signM op).1) else operGo rest p l
def operM (rest : Str) (p : Int) : Int × Int := operGo rest p opsL
def oneOp (a : UInt8) : Int := if a = 43 then 11 else if a = 45 then 12 else if a = 42 then 13 else if a = 47 then 14 else if a = 37 then 15 else if a = 61 then 16 else if a = 60 then 18 else if a = 62 then 20 else if a = 38 then 22 else if a = 124 then 23 else 0
def twoOp (a b : UInt8) : Int := if b = 61 then (if a = 33 then 17 else if a = 60 then 19 else if a = 62 then 21 else 0) else 0
def opAt1 (a : UInt8) : Int × Int := if oneOp a = 0 then (0, 0) else (oneOp a, 1)
def opAhead : Str → Int × Int
  | [] => (0, 0)
  | [a] => opAt1 a
  | a :: b :: _ => if twoOp a b = 0 then opAt1 a else (twoOp a b, 2)
def wordB (c : UInt8) : Bool := (decide ((c.toNat : Int) ≥ 97) && decide ((c.toNat : Int) ≤ 122)) || (decide ((c.toNat : Int) ≥ 48) && decide ((c.toNat : Int) ≤ 57)) || (c.toNat : Int) == 95
def wordM (s : Str) (k : Int) : Str := (s.drop k.toNat).takeWhile wordB
def trueS : Str := [116, 114, 117, 101]
def falseS : Str := [102, 97, 108, 115, 101]
def inS : Str := [105, 110]
def reS : Str := [114, 101]
def imS : Str := [105, 109]
def callB (s : Str) (k : Int) : Bool := decide (k + strLen (wordM s k) < strLen s) && byteAt s (k + strLen (wordM s k)) == 40
def closeR (s : Str) (r : Rd) : Rd := (if r.bad < 0 ∧ (r.pos = strLen s ∨ byteAt s r.pos ≠ 41) then r.wrong r.pos else r).to (r.pos + 1)
def numEnd (s : Str) (k : Int) : Int := if byteAt s k = 48 then k + 1 else k + strLen ((s.drop k.toNat).takeWhile isD)
def numImag (s : Str) (k : Int) : Bool := decide (numEnd s k < strLen s) && byteAt s (numEnd s k) == 105
def numText (s : Str) (k : Int) : Str := (s.take (numEnd s k).toNat).drop k.toNat
def numC (s : Str) (k : Int) : Cell := ⟨if numImag s k = true then 2 else 1, (numM (numText s k)).1, []⟩
def numberR (s : Str) (r : Rd) : Rd :=
  if (numM (numText s r.pos)).2 ≠ 0 ∨ wantsC (numC s r.pos) < 0 then r.wrong r.pos
  else (r.to (if numImag s r.pos = true then numEnd s r.pos + 1 else numEnd s r.pos)).emit (numC s r.pos)
def inR (s : Str) (r : Rd) : Rd :=
  if nameM (wordM s (r.pos + 3)) = false then (r.to (r.pos + 3)).wrong (r.pos + 3)
  else (closeR s (r.to (r.pos + 3 + strLen (wordM s (r.pos + 3))))).emit ⟨6, 0, wordM s (r.pos + 3)⟩
def leafR (s : Str) (r : Rd) : Rd :=
  if isD (s.getD r.pos.toNat 0) = true then numberR s r
  else if wordM s r.pos = trueS then (r.emit ⟨3, 0, []⟩).to (r.pos + 4)
  else if wordM s r.pos = falseS then (r.emit ⟨4, 0, []⟩).to (r.pos + 5)
  else if wordM s r.pos = inS ∧ callB s r.pos = true then inR s r
  else if nameM (wordM s r.pos) = true then (r.emit ⟨5, 0, wordM s r.pos⟩).to (r.pos + strLen (wordM s r.pos))
  else r.wrong r.pos
inductive Hd where
  | fin
  | pre (op : Int)
  | par
  | call (op : Int)
  | leaf
def headM (s : Str) (k : Int) : Hd :=
  if k = strLen s then .fin else if byteAt s k = 45 then .pre 7 else if byteAt s k = 33 then .pre 8
  else if isD (s.getD k.toNat 0) = true then .leaf else if byteAt s k = 40 then .par
  else if wordM s k = reS ∧ callB s k = true then .call 9 else if wordM s k = imS ∧ callB s k = true then .call 10 else .leaf
def atEnd (s : Str) (p : Int) (r : Rd) : Prop := ¬ (r.bad < 0 ∧ (operM (s.drop r.pos.toNat) p).1 ≠ 0)
inductive Task where
  | bin (p : Int)
  | loop (p : Int)
  | una
inductive Run (s : Str) : Task → Rd → Rd → Prop where
  | six {r q : Rd} : Run s .una r q → Run s (.bin 6) r q
  | bin {p : Int} {r q o : Rd} : 1 ≤ p → p ≤ 5 → Run s (.bin (p + 1)) r q → Run s (.loop p) q o → Run s (.bin p) r o
  | done {p : Int} {r : Rd} : atEnd s p r → Run s (.loop p) r r
  | more {p : Int} {r q o : Rd} : 1 ≤ p → p ≤ 5 → p ≠ 3 → ¬ atEnd s p r → Run s (.bin (p + 1)) (r.to (r.pos + (operM (s.drop r.pos.toNat) p).2)) q → Run s (.loop p) (q.emit ⟨(operM (s.drop r.pos.toNat) p).1, 0, []⟩) o → Run s (.loop p) r o
  | once {r q : Rd} : ¬ atEnd s 3 r → Run s (.bin 4) (r.to (r.pos + (operM (s.drop r.pos.toNat) 3).2)) q → Run s (.loop 3) r (q.emit ⟨(operM (s.drop r.pos.toNat) 3).1, 0, []⟩)
  | lost {r : Rd} : 0 ≤ r.bad ∨ headM s r.pos = .fin → Run s .una r (r.wrong r.pos)
  | sign {r q : Rd} {op : Int} : r.bad < 0 → headM s r.pos = .pre op → Run s .una (r.to (r.pos + 1)) q → Run s .una r (q.emit ⟨op, 0, []⟩)
  | leaf {r : Rd} : r.bad < 0 → headM s r.pos = .leaf → Run s .una r (leafR s r)
  | par {r q : Rd} : r.bad < 0 → headM s r.pos = .par → Run s (.bin 1) (r.to (r.pos + 1)) q → Run s .una r (closeR s q)
  | call {r q : Rd} {op : Int} : r.bad < 0 → headM s r.pos = .call op → Run s (.bin 1) (r.to (r.pos + 3)) q → Run s .una r ((closeR s q).emit ⟨op, 0, []⟩)
/-! ### signs -/
theorem hasP_one (a x : UInt8) : hasP [a] [x] = (a == x) := by simp [hasP, strLen]
theorem hasP_one2 (a x y : UInt8) : hasP [a] [x, y] = false := by simp [hasP, strLen]
theorem hasP_two (a b x : UInt8) (r : Str) : hasP (a :: b :: r) [x] = (a == x) := by
  have h : decide (strLen (a :: b :: r) ≥ strLen [x]) = true := decide_eq_true (by simp [strLen]; omega)
  rw [hasP, h]
  show ([a] == [x]) = _
  simp
theorem hasP_two2 (a b x y : UInt8) (r : Str) : hasP (a :: b :: r) [x, y] = (a == x && b == y) := by
  have h : decide (strLen (a :: b :: r) ≥ strLen [x, y]) = true := decide_eq_true (by simp [strLen]; omega)
  rw [hasP, h]
  show ([a, b] == [x, y]) = _
  simp
theorem oper_one (a : UInt8) (p : Int) (h1 : 1 ≤ p) (h5 : p ≤ 5) : operM [a] p = if (signM (opAhead [a]).1).2 = p then opAhead [a] else (0, 0) := by
  have hp : p = 1 ∨ p = 2 ∨ p = 3 ∨ p = 4 ∨ p = 5 := by omega
  by_cases e0 : a = 43
  · subst e0; rcases hp with rfl | rfl | rfl | rfl | rfl <;> rfl
  by_cases e1 : a = 45
  · subst e1; rcases hp with rfl | rfl | rfl | rfl | rfl <;> rfl
  by_cases e2 : a = 42
  · subst e2; rcases hp with rfl | rfl | rfl | rfl | rfl <;> rfl
  by_cases e3 : a = 47
  · subst e3; rcases hp with rfl | rfl | rfl | rfl | rfl <;> rfl
  by_cases e4 : a = 37
  · subst e4; rcases hp with rfl | rfl | rfl | rfl | rfl <;> rfl
  by_cases e5 : a = 61
  · subst e5; rcases hp with rfl | rfl | rfl | rfl | rfl <;> rfl
  by_cases e6 : a = 60
  · subst e6; rcases hp with rfl | rfl | rfl | rfl | rfl <;> rfl
  by_cases e7 : a = 62
  · subst e7; rcases hp with rfl | rfl | rfl | rfl | rfl <;> rfl
  by_cases e8 : a = 38
  · subst e8; rcases hp with rfl | rfl | rfl | rfl | rfl <;> rfl
  by_cases e9 : a = 124
  · subst e9; rcases hp with rfl | rfl | rfl | rfl | rfl <;> rfl
  have q : ∀ x : UInt8, ¬ a = x → (a == x) = false := fun x h => beq_eq_false_iff_ne.2 h
  have e : opAhead [a] = (0, 0) := by simp only [opAhead, opAt1, oneOp, e0, e1, e2, e3, e4, e5, e6, e7, e8, e9, if_false, if_true]
  rw [e]
  have hs : (signM ((0, 0) : Int × Int).1).2 ≠ p := by show (7 : Int) ≠ p; omega
  rw [if_neg hs]
  simp [operM, opsL, operGo, signM, hasP_one, hasP_one2, q _ e0, q _ e1, q _ e2, q _ e3, q _ e4, q _ e5, q _ e6, q _ e7, q _ e8, q _ e9]
theorem oper_same (a b : UInt8) (r : Str) (p : Int) (h : (b == 61) = false ∨ (a == 33) = false ∧ (a == 60) = false ∧ (a == 62) = false) : operM (a :: b :: r) p = operM [a] p ∧ opAhead (a :: b :: r) = opAhead [a] := by
  refine ⟨?_, ?_⟩
  · rcases h with h | ⟨h1, h2, h3⟩
    · simp [operM, opsL, operGo, signM, hasP_one, hasP_one2, hasP_two, hasP_two2, h]
    · simp [operM, opsL, operGo, signM, hasP_one, hasP_one2, hasP_two, hasP_two2, h1, h2, h3]
  · have e : twoOp a b = 0 := by
      unfold twoOp
      rcases h with h | ⟨h1, h2, h3⟩
      · rw [if_neg (by simpa using h)]
      · have g1 : ¬ a = 33 := by simpa using h1
        have g2 : ¬ a = 60 := by simpa using h2
        have g3 : ¬ a = 62 := by simpa using h3
        simp [g1, g2, g3]
    simp only [opAhead, e, if_true]
theorem oper_two (a : UInt8) (r : Str) (p : Int) (h1 : 1 ≤ p) (h5 : p ≤ 5) (ha : a = 33 ∨ a = 60 ∨ a = 62) : operM (a :: 61 :: r) p = if (signM (opAhead (a :: 61 :: r)).1).2 = p then opAhead (a :: 61 :: r) else (0, 0) := by
  have hp : p = 1 ∨ p = 2 ∨ p = 3 ∨ p = 4 ∨ p = 5 := by omega
  rcases ha with rfl | rfl | rfl <;> rcases hp with rfl | rfl | rfl | rfl | rfl <;> simp [operM, opsL, operGo, signM, hasP_two, hasP_two2, opAhead, twoOp, strLen]
theorem oper_ahead (rest : Str) (p : Int) (h1 : 1 ≤ p) (h5 : p ≤ 5) : operM rest p = if (signM (opAhead rest).1).2 = p then opAhead rest else (0, 0) := by
  match rest with
  | [] =>
    have hp : p = 1 ∨ p = 2 ∨ p = 3 ∨ p = 4 ∨ p = 5 := by omega
    rcases hp with rfl | rfl | rfl | rfl | rfl <;> rfl
  | [a] => exact oper_one a p h1 h5
  | a :: b :: r =>
    by_cases h : (b == 61) = false ∨ (a == 33) = false ∧ (a == 60) = false ∧ (a == 62) = false
    · obtain ⟨e1, e2⟩ := oper_same a b r p h
      rw [e1, e2]; exact oper_one a p h1 h5
    · simp only [not_or, Bool.not_eq_false, beq_iff_eq] at h
      obtain ⟨rfl, h⟩ := h
      refine oper_two a r p h1 h5 ?_
      by_cases h3 : a = 33
      · exact .inl h3
      · by_cases h4 : a = 60
        · exact .inr (.inl h4)
        · by_cases h6 : a = 62
          · exact .inr (.inr h6)
          · exact absurd ⟨beq_eq_false_iff_ne.2 h3, beq_eq_false_iff_ne.2 h4, beq_eq_false_iff_ne.2 h6⟩ h
theorem ahead_facts (rest : Str) : opAhead rest = (0, 0) ∨ (11 ≤ (opAhead rest).1 ∧ (opAhead rest).1 ≤ 23 ∧ 1 ≤ (opAhead rest).2 ∧ (opAhead rest).2 ≤ strLen rest ∧ (opAhead rest).2 ≤ 2 ∧ 1 ≤ (signM (opAhead rest).1).2 ∧ (signM (opAhead rest).1).2 ≤ 5) := by
  have key : ∀ a : UInt8, opAt1 a = (0, 0) ∨ (11 ≤ (opAt1 a).1 ∧ (opAt1 a).1 ≤ 23 ∧ (opAt1 a).2 = 1 ∧ 1 ≤ (signM (opAt1 a).1).2 ∧ (signM (opAt1 a).1).2 ≤ 5) := by
    intro a
    unfold opAt1 oneOp
    repeat' split
    all_goals first | (left; rfl) | (right; decide) | skip
    all_goals simp at *
  match rest with
  | [] => exact .inl rfl
  | [a] =>
    rcases key a with h | ⟨h1, h2, h3, h4, h5⟩
    · exact .inl h
    · right
      have e : (opAhead [a]).2 = 1 := h3
      have hl : strLen [a] = 1 := rfl
      refine ⟨h1, h2, ?_, ?_, ?_, h4, h5⟩ <;> omega
  | a :: b :: r =>
    have hl : strLen (a :: b :: r) = (r.length : Int) + 2 := by simp [strLen]; omega
    by_cases h2 : twoOp a b = 0
    · have e : opAhead (a :: b :: r) = opAt1 a := by simp only [opAhead, h2, if_true]
      rw [e, hl]
      rcases key a with h | ⟨h1, h2, h3, h4, h5⟩
      · exact .inl h
      · right; exact ⟨h1, h2, by omega, by omega, by omega, h4, h5⟩
    · have e : opAhead (a :: b :: r) = (twoOp a b, 2) := by simp only [opAhead, h2, if_false]
      rw [e, hl]
      right
      have ht : twoOp a b = 17 ∨ twoOp a b = 19 ∨ twoOp a b = 21 := by
        unfold twoOp at h2 ⊢
        repeat' (split at h2)
        all_goals first | (exact absurd rfl h2) | skip
        · rename_i g1 g2; rw [if_pos g1, if_pos g2]; exact .inl rfl
        · rename_i g1 g2 g3; rw [if_pos g1, if_neg g2, if_pos g3]; exact .inr (.inl rfl)
        · rename_i g1 g2 g3 g4; rw [if_pos g1, if_neg g2, if_neg g3, if_pos g4]; exact .inr (.inr rfl)
      rcases ht with e | e | e <;> rw [e] <;> exact ⟨by decide, by decide, by decide, by show (2 : Int) ≤ _; omega, by decide, by decide, by decide⟩
end Go.Proofs.YtjndellhebidoaaGreatDoor

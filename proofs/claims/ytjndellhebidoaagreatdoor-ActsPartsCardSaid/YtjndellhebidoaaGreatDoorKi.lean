/- The library's contracts of strings.Trim, laid at this dump by the kit's tools. Conditions: none. Contracts: strconv.ParseInt, strings.Trim, words.Number. Conditions: texts that are not too long; the errors' variables. Numbers read: the program's, the document's. Conditions: texts of at most 2^48 bytes. -/
import Derived.Shelf.Lays
import Derived.Shelf.Strings.Trim
import Derived.Shelf.Strings.SlTrimAscii
import Derived.Test.YtjndellhebidoaaGreatDoorProg
import Derived.Test.YtjndellhebidoaaGreatDoorNa
import Derived.Test.YtjndellhebidoaaGreatDoorPX
import Derived.Test.YtjndellhebidoaaGreatDoorShelfb
import Derived.Lib.AtoiErrMem
namespace Go.Proofs
open Go.Shelf
def Tryz.lays160_ren : Go.Shelf.Ren := ⟨fun | 160 => 167 | 232 => 172 | 231 => 171 | 227 => 173 | 234 => 175 | 233 => 174 | 236 => 177 | 235 => 176 | 228 => 180 | 271 => 182 | 151 => 181 | 197 => 107 | 120 => 189 | 152 => 188 | 260 => 130 | 137 => 195 | 119 => 196 | 224 => 133 | 225 => 132 | 217 => 131 | 266 => 150 | n => n, fun | 9 => 9 | 4 => 4 | 3 => 3 | 5 => 5 | 117 => 214 | 116 => 213 | 0 => 0 | 124 => 217 | 21 => 21 | 105 => 148 | 46 => 173 | 119 => 187 | 139 => 190 | 138 => 189 | n => n, fun | 3 => 1 | 4 => 2 | n => n⟩
theorem Tryz.lays160 : Go.Proofs.Lays.n160 Tryz.prog Tryz.lays160_ren := {
  mixed := by kernel_rfl
  f119 := Tryz.func196.trans (congrArg some (by kernel_rfl))
  f120 := Tryz.func189.trans (congrArg some (by kernel_rfl))
  f137 := Tryz.func195.trans (congrArg some (by kernel_rfl))
  f151 := Tryz.func181.trans (congrArg some (by kernel_rfl))
  f152 := Tryz.func188.trans (congrArg some (by kernel_rfl))
  f160 := Tryz.func167.trans (congrArg some (by kernel_rfl))
  f197 := Tryz.func107.trans (congrArg some (by kernel_rfl))
  f217 := Tryz.func131.trans (congrArg some (by kernel_rfl))
  f224 := Tryz.func133.trans (congrArg some (by kernel_rfl))
  f225 := Tryz.func132.trans (congrArg some (by kernel_rfl))
  f227 := Tryz.func173.trans (congrArg some (by kernel_rfl))
  f228 := Tryz.func180.trans (congrArg some (by kernel_rfl))
  f231 := Tryz.func171.trans (congrArg some (by kernel_rfl))
  f232 := Tryz.func172.trans (congrArg some (by kernel_rfl))
  f233 := Tryz.func174.trans (congrArg some (by kernel_rfl))
  f234 := Tryz.func175.trans (congrArg some (by kernel_rfl))
  f235 := Tryz.func176.trans (congrArg some (by kernel_rfl))
  f236 := Tryz.func177.trans (congrArg some (by kernel_rfl))
  f260 := Tryz.func130.trans (congrArg some (by kernel_rfl))
  f266 := Tryz.func150.trans (congrArg some (by kernel_rfl))
  f271 := Tryz.func182.trans (congrArg some (by kernel_rfl))
  t0 := Tryz.underlying0
  a0 := Tryz.isAgg0
  z0 := Tryz.sizeOf0
  v0 := Tryz.zeroValue0
  t3 := Tryz.underlying3
  a3 := Tryz.isAgg3
  z3 := Tryz.sizeOf3
  v3 := Tryz.zeroValue3
  t4 := Tryz.underlying4
  a4 := Tryz.isAgg4
  z4 := Tryz.sizeOf4
  v4 := Tryz.zeroValue4
  t5 := Tryz.underlying5
  a5 := Tryz.isAgg5
  z5 := Tryz.sizeOf5
  v5 := Tryz.zeroValue5
  t9 := Tryz.underlying9
  a9 := Tryz.isAgg9
  z9 := Tryz.sizeOf9
  v9 := Tryz.zeroValue9
  t21 := Tryz.underlying21
  a21 := Tryz.isAgg21
  z21 := Tryz.sizeOf21
  v21 := Tryz.zeroValue21
  t46 := Tryz.underlying173
  a46 := Tryz.isAgg173
  z46 := Tryz.sizeOf173
  v46 := Tryz.zeroValue173
  t105 := Tryz.underlying148
  a105 := Tryz.isAgg148
  z105 := Tryz.sizeOf148
  v105 := Tryz.zeroValue148
  t116 := Tryz.underlying213
  a116 := Tryz.isAgg213
  z116 := Tryz.sizeOf213
  t117 := Tryz.underlying214
  a117 := Tryz.isAgg214
  z117 := Tryz.sizeOf214
  v117 := Tryz.zeroValue214
  t119 := Tryz.underlying187
  a119 := Tryz.isAgg187
  z119 := Tryz.sizeOf187
  t124 := Tryz.underlying217
  a124 := Tryz.isAgg217
  z124 := Tryz.sizeOf217
  v124 := Tryz.zeroValue217
  t138 := Tryz.underlying189
  a138 := Tryz.isAgg189
  z138 := Tryz.sizeOf189
  v138 := Tryz.zeroValue189
  t139 := Tryz.underlying190
  a139 := Tryz.isAgg190
  z139 := Tryz.sizeOf190
  v139 := Tryz.zeroValue190
  g3 := by kernel_rfl
  g4 := by kernel_rfl }
end Go.Proofs
namespace Go.Proofs.YtjndellhebidoaaGreatDoor
open Go Go.Ev Go.RowKit
set_option maxRecDepth 100000
def parsedM (s : Str) : Int := match Lib.parseIntB 64 s with
  | .ok v => v
  | .syntax => 0
  | .range => Lib.intSat 64 s
def parsedOk (s : Str) : Bool := match Lib.parseIntB 64 s with
  | .ok _ => true
  | _ => false
def digitsS : Str := [48, 49, 50, 51, 52, 53, 54, 55, 56, 57]
def trimM (s : Str) : Str := Lib.trimS s digitsS
theorem parse_args {V : Vn} {s : Str} {vs : List Value} (hv : All2 (SX.R V) [SX.s s, SX.i 10, SX.i 64] vs) : vs = [.string (bs s), .int .i64 10, .int .i64 64] := by
  cases hv with
  | cons a1 hv => cases hv with
    | cons a2 hv => cases hv with
      | cons a3 hv =>
        cases hv
        have a1' : PR V.H (.str s) _ := a1
        have a2' : PR V.H (.int .i64 10) _ := a2
        have a3' : PR V.H (.int .i64 64) _ := a3
        cases a1'; cases a2'; cases a3'
        rfl
theorem parse_ok (s : Str) (hs : s.length ≤ 281474976710656) (h : parsedOk s = true) : Does Tryz.prog 168 [.s s, .i 10, .i 64] [] (.tup [.i (parsedM s), .c (.pd (.v .nilIface))]) [] := by
  intro w V vs hw hT hv
  rw [parse_args hv]
  have hsz : (bs s).size = s.length := bs_size s
  unfold parsedOk at h
  split at h
  · rename_i v hp
    refine (Tryz.strconv_ParseInt_10_at64_ok (bs s) (by omega) v (by rw [bs_toList]; exact hp) w).mono fun e w' ⟨he, hw'⟩ => ?_
    subst he
    have hb : Below w.heap.size w w' := by
      rcases hw' with rfl | ⟨t, rfl⟩
      · exact Below.refl _ _
      · exact Lib.bytesWorld_below w _ t
    have ev : parsedM s = v := by simp [parsedM, hp]
    exact ⟨_, V, rfl, ⟨_, rfl, .cons (by rw [ev]; exact PR.int _ _) (.cons (PR.v _ rfl) .nil)⟩, hw.kept (fr_below hb)⟩
  · cases h
theorem parse_bad (s : Str) (hs : s.length ≤ 281474976710656) (h : parsedOk s = false) : Does Tryz.prog 168 [.s s, .i 10, .i 64] [] (.tup [.i (parsedM s), .c (.pd .err)]) [] := by
  intro w V vs hw hT hv
  rw [parse_args hv]
  have hsz : (bs s).size = s.length := bs_size s
  unfold parsedOk at h
  split at h
  · cases h
  · rename_i hn
    rcases hp : Lib.parseIntB 64 s with v | - | -
    · exact absurd hp (hn v)
    · obtain ⟨tp, p, hm⟩ := (hT.2.1) (by kernel_rfl)
      refine (Tryz.strconv_ParseInt_10_at64_syntax_var (bs s) (by omega) (by rw [bs_toList]; exact hp) tp p w (hm.world hw.imm)).mono fun e w' ⟨N, he, _, _, hb⟩ => ?_
      subst he
      have ev : parsedM s = 0 := by simp [parsedM, hp]
      exact ⟨_, V, rfl, ⟨_, rfl, .cons (by rw [ev]; exact PR.int _ _) (.cons (PR.err _ _) .nil)⟩, hw.kept (fr_below hb)⟩
    · obtain ⟨tp, p, hm⟩ := (hT.2.2.1) (by kernel_rfl)
      refine (Tryz.strconv_ParseInt_10_at64_range_var (bs s) (by omega) (by rw [bs_toList]; exact hp) tp p w (hm.world hw.imm)).mono fun e w' ⟨N, he, _, _, hb⟩ => ?_
      subst he
      have ev : parsedM s = Lib.intSat 64 s := by simp [parsedM, hp]
      exact ⟨_, V, rfl, ⟨_, rfl, .cons (by rw [ev]; have := PR.int (H := V.H) .i64 (Lib.intSat 64 s); rw [bs_toList]; exact this) (.cons (PR.err _ _) .nil)⟩, hw.kept (fr_below hb)⟩
theorem trim_spec (s : Str) (hs : s.length ≤ 9223372036854775807) : Does Tryz.prog 167 [.s s, .s digitsS] [] (.x (.s (trimM s))) [] := by
  intro w V vs hw hT hv
  cases hv with
  | cons a1 hv => cases hv with
    | cons a2 hv =>
      cases hv
      have a1' : PR V.H (.str s) _ := a1
      have a2' : PR V.H (.str digitsS) _ := a2
      cases a1'; cases a2'
      have hsz : (bs s).size = s.length := bs_size s
      refine (Any.strings_Trim_laid Tryz.lays160 (by kernel_rfl) (bs s) (bs digitsS) w (by omega) (by decide) (Go.Proofs.ascii_of_all (by decide))).mono fun e w' ⟨he, hb⟩ => ?_
      subst he
      refine ⟨_, V, rfl, ?_, hw.kept (fr_below hb)⟩
      have e1 : (bs s).data.toList = s := bs_toList s
      have e2 : (bs digitsS).data.toList = digitsS := bs_toList digitsS
      rw [e1, e2]
      exact PR.str (trimM s)
def eParse1 : Nat × (List SX → List Chunk → Option (Option Prop × SV × List Chunk)) := (168, fun
  | [.c (.pd (.str s)), .c (.pd (.int .i64 10)), .c (.pd (.int .i64 64))], [] => some (some (s.length ≤ 281474976710656 ∧ parsedOk s = true), .tup [.c (.pd (.int .i64 (parsedM s))), .c (.pd (.v .nilIface))], [])
  | _, _ => none)
theorem eParse1_ok (vs : List SX) (ck : List Chunk) (p : Option Prop) (ret : SV) (ck' : List Chunk) (h : eParse1.2 vs ck = some (p, ret, ck')) (hp : Holds p) : Does Tryz.prog eParse1.1 vs ck ret ck' := by
  unfold eParse1 at h
  simp only at h
  split at h
  · rename_i s
    simp only [Option.some.injEq, Prod.mk.injEq] at h
    obtain ⟨rfl, rfl, rfl⟩ := h
    exact parse_ok s hp.1 hp.2
  · simp at h
def eParse0 : Nat × (List SX → List Chunk → Option (Option Prop × SV × List Chunk)) := (168, fun
  | [.c (.pd (.str s)), .c (.pd (.int .i64 10)), .c (.pd (.int .i64 64))], [] => some (some (s.length ≤ 281474976710656 ∧ parsedOk s = false), .tup [.c (.pd (.int .i64 (parsedM s))), .c (.pd .err)], [])
  | _, _ => none)
theorem eParse0_ok (vs : List SX) (ck : List Chunk) (p : Option Prop) (ret : SV) (ck' : List Chunk) (h : eParse0.2 vs ck = some (p, ret, ck')) (hp : Holds p) : Does Tryz.prog eParse0.1 vs ck ret ck' := by
  unfold eParse0 at h
  simp only at h
  split at h
  · rename_i s
    simp only [Option.some.injEq, Prod.mk.injEq] at h
    obtain ⟨rfl, rfl, rfl⟩ := h
    exact parse_bad s hp.1 hp.2
  · simp at h
def eTrim : Nat × (List SX → List Chunk → Option (Option Prop × SV × List Chunk)) := (167, fun
  | [.c (.pd (.str s)), .c (.pd (.str [48, 49, 50, 51, 52, 53, 54, 55, 56, 57]))], [] => some (some (s.length ≤ 9223372036854775807), .x (.c (.pd (.str (trimM s)))), [])
  | _, _ => none)
theorem eTrim_ok (vs : List SX) (ck : List Chunk) (p : Option Prop) (ret : SV) (ck' : List Chunk) (h : eTrim.2 vs ck = some (p, ret, ck')) (hp : Holds p) : Does Tryz.prog eTrim.1 vs ck ret ck' := by
  unfold eTrim at h
  simp only at h
  split at h
  · rename_i s
    simp only [Option.some.injEq, Prod.mk.injEq] at h
    obtain ⟨rfl, rfl, rfl⟩ := h
    exact trim_spec s hp
  · simp at h
def cfgNb1 : Cfg := ⟨tys0, [eCut, eTrim, eParse1]⟩
theorem cfgNb1_ok : TabOk Tryz.prog cfgNb1.tab := (TabOk.cons eCut_ok (TabOk.cons eTrim_ok (TabOk.cons eParse1_ok TabOk.nil)))
def cfgNb0 : Cfg := ⟨tys0, [eCut, eTrim, eParse0]⟩
theorem cfgNb0_ok : TabOk Tryz.prog cfgNb0.tab := (TabOk.cons eCut_ok (TabOk.cons eTrim_ok (TabOk.cons eParse0_ok TabOk.nil)))
end Go.Proofs.YtjndellhebidoaaGreatDoor
namespace Go.Proofs.YtjndellhebidoaaGreatDoor
open Go Go.Ev
set_option maxRecDepth 100000
/-! ### plain -/
def isD (c : UInt8) : Bool := decide (48 ≤ (c.toNat : Int)) && decide ((c.toNat : Int) ≤ 57)
def valD : Nat → List UInt8 → Nat
  | a, [] => a
  | a, c :: r => valD (10 * a + (c.toNat - 48)) r
def formBad (s : Str) : Bool := cutP s [45] == [] || !(cutP s [45]).all isD || (((cutP s [45]).getD 0 0).toNat : Int) == 48 && (decide (strLen (cutP s [45]) > 1) || hasP s [45])
def numM (s : Str) : Int × Int := if formBad s = true then (0, 1) else if 1099511627776 < valD 0 (cutP s [45]) then (0, 5) else (if hasP s [45] = true then -(valD 0 (cutP s [45]) : Int) else (valD 0 (cutP s [45]) : Int), 0)
theorem isD_set (c : UInt8) : digitsS.contains c = isD c := by
  rw [Bool.eq_iff_iff]
  simp only [digitsS, isD, List.contains_eq_mem, List.mem_cons, List.not_mem_nil, or_false, decide_eq_true_eq, Bool.and_eq_true]
  constructor
  · intro h
    rcases h with rfl | rfl | rfl | rfl | rfl | rfl | rfl | rfl | rfl | rfl <;> decide
  · intro h
    have hn : c.toNat = 48 ∨ c.toNat = 49 ∨ c.toNat = 50 ∨ c.toNat = 51 ∨ c.toNat = 52 ∨ c.toNat = 53 ∨ c.toNat = 54 ∨ c.toNat = 55 ∨ c.toNat = 56 ∨ c.toNat = 57 := by omega
    have key : ∀ d : UInt8, c.toNat = d.toNat → c = d := fun d h => UInt8.toNat_inj.1 h
    rcases hn with h | h | h | h | h | h | h | h | h | h
    · exact .inl (key 48 h)
    · exact .inr (.inl (key 49 h))
    · exact .inr (.inr (.inl (key 50 h)))
    · exact .inr (.inr (.inr (.inl (key 51 h))))
    · exact .inr (.inr (.inr (.inr (.inl (key 52 h)))))
    · exact .inr (.inr (.inr (.inr (.inr (.inl (key 53 h))))))
    · exact .inr (.inr (.inr (.inr (.inr (.inr (.inl (key 54 h)))))))
    · exact .inr (.inr (.inr (.inr (.inr (.inr (.inr (.inl (key 55 h))))))))
    · exact .inr (.inr (.inr (.inr (.inr (.inr (.inr (.inr (.inl (key 56 h)))))))))
    · exact .inr (.inr (.inr (.inr (.inr (.inr (.inr (.inr (.inr (key 57 h)))))))))
theorem dropWhile_nil {p : UInt8 → Bool} : ∀ {l : List UInt8}, l.dropWhile p = [] ↔ ∀ x ∈ l, p x = true
  | [] => by simp
  | c :: r => by
    rw [List.dropWhile_cons]
    by_cases h : p c = true
    · rw [if_pos h, dropWhile_nil]; simp [h]
    · rw [if_neg h]; simp [h]
theorem dropWhile_head {p : UInt8 → Bool} {a : UInt8} {r : List UInt8} : ∀ {l : List UInt8}, l.dropWhile p = a :: r → p a = false
  | [], h => by simp at h
  | c :: l, h => by
    rw [List.dropWhile_cons] at h
    by_cases hc : p c = true
    · rw [if_pos hc] at h; exact dropWhile_head h
    · rw [if_neg hc] at h
      simp only [List.cons.injEq] at h
      rw [← h.1]; simpa using hc
theorem trim_nil (l : Str) : (trimM l == []) = l.all isD := by
  have hp : (fun c => digitsS.contains c) = isD := funext isD_set
  have e : trimM l = ((l.reverse.dropWhile isD).reverse).dropWhile isD := by
    show ((l.reverse.dropWhile (digitsS.contains ·)).reverse).dropWhile (digitsS.contains ·) = _
    rw [hp]
  rw [e, Bool.eq_iff_iff, beq_iff_eq, List.all_eq_true]
  constructor
  · intro h
    have h1 := dropWhile_nil.1 h
    have h2 : l.reverse.dropWhile isD = [] := by
      cases hx : l.reverse.dropWhile isD with
      | nil => rfl
      | cons a r =>
        exfalso
        have h3 := h1 a (by rw [hx]; simp)
        have h4 := dropWhile_head hx
        rw [h3] at h4; cases h4
    intro x hx
    exact dropWhile_nil.1 h2 x (by simpa using hx)
  · intro h
    have h2 : l.reverse.dropWhile isD = [] := dropWhile_nil.2 fun x hx => h x (by simpa using hx)
    rw [h2]; rfl
theorem valD_ge : ∀ (l : List UInt8) (a : Nat), a ≤ valD a l
  | [], a => Nat.le_refl _
  | c :: r, a => by
    have h1 := valD_ge r (10 * a + (c.toNat - 48))
    have h2 : a ≤ 10 * a + (c.toNat - 48) := by omega
    exact Nat.le_trans h2 h1
theorem parseM (M : Nat) (hM : M = 18446744073709551615) : ∀ (l : List UInt8) (a : Nat), l.all isD = true → a ≤ M → Lib.parseUintM M a l = if valD a l ≤ M then .ok (valD a l) else .range
  | [], a, _, h => by
    have e : valD a [] = a := rfl
    rw [e, if_pos h]; rfl
  | c :: r, a, h, ha => by
    simp only [List.all_cons, Bool.and_eq_true] at h
    have hd : 48 ≤ c.toNat ∧ c.toNat ≤ 57 := by
      have := h.1
      simp only [isD, Bool.and_eq_true, decide_eq_true_eq] at this
      omega
    have hge := valD_ge r (10 * a + (c.toNat - 48))
    have hc : a * 10 + (c.toNat - 48) = 10 * a + (c.toNat - 48) := by omega
    have hv : valD a (c :: r) = valD (10 * a + (c.toNat - 48)) r := rfl
    have hu : Lib.parseUintM M a (c :: r) = if 48 ≤ c.toNat ∧ c.toNat ≤ 57 then (if 1844674407370955162 ≤ a then .range else if M < a * 10 + (c.toNat - 48) then .range else Lib.parseUintM M (a * 10 + (c.toNat - 48)) r) else .syntax := rfl
    rw [hu, if_pos hd, hv, hc]
    generalize 10 * a + (c.toNat - 48) = b at *
    by_cases h1 : 1844674407370955162 ≤ a
    · rw [if_pos h1, if_neg (by omega)]
    · rw [if_neg h1]
      by_cases h2 : M < b
      · rw [if_pos h2, if_neg (by omega)]
      · rw [if_neg h2]
        exact parseM M hM r b h.2 (by omega)
theorem cut_minus (r : Str) : cutP (45 :: r) [45] = r ∧ hasP (45 :: r) [45] = true := by
  have h : hasP (45 :: r) [45] = true := by simp [hasP, strLen]; omega
  exact ⟨by rw [cutP, h]; rfl, h⟩
theorem cut_other {c : UInt8} (r : Str) (h : c ≠ 45) : cutP (c :: r) [45] = c :: r ∧ hasP (c :: r) [45] = false := by
  have h' : hasP (c :: r) [45] = false := by simp [hasP, strLen, h]
  exact ⟨by rw [cutP, h']; rfl, h'⟩
theorem cut_nil : cutP [] [45] = [] ∧ hasP [] [45] = false := by decide
theorem parsed_of {s : Str} (h : formBad s = false) : (parsedOk s = true → parsedM s = if hasP s [45] = true then -(valD 0 (cutP s [45]) : Int) else (valD 0 (cutP s [45]) : Int)) ∧ (parsedOk s = false → 9223372036854775808 ≤ valD 0 (cutP s [45])) := by
  simp only [formBad, Bool.or_eq_false_iff, Bool.not_eq_false'] at h
  obtain ⟨⟨hne, hall⟩, _⟩ := h
  cases s with
  | nil => rw [cut_nil.1] at hne; simp at hne
  | cons c r =>
    by_cases hc : c = 45
    · subst hc
      rw [(cut_minus r).1] at hne hall ⊢
      rw [(cut_minus r).2]
      have hr : r ≠ [] := by simpa using hne
      have hu : Lib.parseUintB 64 r = if valD 0 r ≤ 18446744073709551615 then .ok (valD 0 r) else .range := by
        rw [Lib.parseUintB, if_neg hr]; exact parseM _ rfl r 0 hall (Nat.zero_le _)
      have hp : Lib.parseIntB 64 (45 :: r) = if valD 0 r ≤ 18446744073709551615 then (if 9223372036854775808 < valD 0 r then .range else .ok (-(valD 0 r : Int))) else .range := by
        simp only [Lib.parseIntB]
        have e1 : ((45 : UInt8).toNat = 43 ∨ (45 : UInt8).toNat = 45) := .inr rfl
        rw [if_pos e1, hu]
        by_cases hv : valD 0 r ≤ 18446744073709551615
        · rw [if_pos hv, if_pos hv]; simp
        · rw [if_neg hv, if_neg hv]
      unfold parsedOk parsedM
      rw [hp]
      by_cases hv : valD 0 r ≤ 18446744073709551615
      · rw [if_pos hv]
        by_cases h2 : 9223372036854775808 < valD 0 r
        · rw [if_pos h2]; exact ⟨fun h => absurd h (by simp), fun _ => by omega⟩
        · rw [if_neg h2]; exact ⟨fun _ => by simp, fun h => absurd h (by simp)⟩
      · rw [if_neg hv]; exact ⟨fun h => absurd h (by simp), fun _ => by omega⟩
    · rw [(cut_other r hc).1] at hne hall ⊢
      rw [(cut_other r hc).2]
      have hdig : 48 ≤ c.toNat := by
        have := hall
        simp only [List.all_cons, Bool.and_eq_true, isD, decide_eq_true_eq] at this; omega
      have hu : Lib.parseUintB 64 (c :: r) = if valD 0 (c :: r) ≤ 18446744073709551615 then .ok (valD 0 (c :: r)) else .range := by
        rw [Lib.parseUintB, if_neg (by simp)]; exact parseM _ rfl (c :: r) 0 hall (Nat.zero_le _)
      have hp : Lib.parseIntB 64 (c :: r) = if valD 0 (c :: r) ≤ 18446744073709551615 then (if 9223372036854775808 ≤ valD 0 (c :: r) then .range else .ok (valD 0 (c :: r) : Int)) else .range := by
        simp only [Lib.parseIntB]
        have e1 : ¬ (c.toNat = 43 ∨ c.toNat = 45) := by omega
        have e2 : ¬ c.toNat = 45 := by omega
        rw [if_neg e1, hu]
        by_cases hv : valD 0 (c :: r) ≤ 18446744073709551615
        · rw [if_pos hv, if_pos hv]; simp [e2]
        · rw [if_neg hv, if_neg hv]
      unfold parsedOk parsedM
      rw [hp]
      by_cases hv : valD 0 (c :: r) ≤ 18446744073709551615
      · rw [if_pos hv]
        by_cases h2 : 9223372036854775808 ≤ valD 0 (c :: r)
        · rw [if_pos h2]; exact ⟨fun h => absurd h (by simp), fun _ => by omega⟩
        · rw [if_neg h2]; exact ⟨fun _ => by simp, fun h => absurd h (by simp)⟩
      · rw [if_neg hv]; exact ⟨fun h => absurd h (by simp), fun _ => by omega⟩
/-! ### the program's -/
theorem number_spec (s : Str) (hs : s.length ≤ 281474976710656) : Does Tryz.prog 161 [.s s] [] (intP (numM s)) [] := by
  have hcl : (cutP s [45]).length ≤ s.length := by
    unfold cutP
    cases hasP s [45]
    · exact Nat.le_refl _
    · simp only [cond_true, List.length_drop]; omega
  have hL : strLen (cutP s [45]) = ((cutP s [45]).length : Int) := rfl
  have hpos : (cutP s [45] == []) = false → 0 < (cutP s [45]).length := fun h => List.length_pos_iff.2 (by simpa using h)
  cases hok : parsedOk s
  · refine Does.go (cfg := cfgNb0) cfgNb0_ok Tryz.func161 (by kernel_rfl) (by kernel_rfl) (t := (.need ((cutP s [(45 : UInt8)] == []) = false → List.length (cutP s [(45 : UInt8)]) ≤ 9223372036854775807) (.need ((cutP s [(45 : UInt8)] == [] || !trimM (cutP s [(45 : UInt8)]) == []) = false → (0 : Int) ≤ (0 : Int) ∧ (0 : Int) < strLen (cutP s [(45 : UInt8)])) (.ite (cutP s [(45 : UInt8)] == [] || !trimM (cutP s [(45 : UInt8)]) == [] || (↑(UInt8.toNat (List.getD (cutP s [(45 : UInt8)]) 0 (0 : UInt8))) : Int) == (48 : Int) && (decide (strLen (cutP s [(45 : UInt8)]) > (1 : Int)) || hasP s [(45 : UInt8)])) (.ret (.tup [.i (0 : Int), .i (1 : Int)]) []) (.need (List.length s ≤ 281474976710656 ∧ parsedOk s = false) (.ite true (.ret (.tup [.i (0 : Int), .i (5 : Int)]) []) (.ret (.tup [.i (parsedM s), .i (0 : Int)]) []))))))) (by kernel_rfl) fun Γ => ?_
    rw [trim_nil]
    refine ⟨fun _ => by omega, fun h => ?_, fun h => ⟨congrArg intP (a₁ := (0, 1)) ?_, rfl⟩, fun h => ⟨⟨hs, hok⟩, fun _ => ⟨congrArg intP (a₁ := (0, 5)) ?_, rfl⟩, fun h => Bool.noConfusion h⟩⟩
    · simp only [Bool.or_eq_false_iff] at h
      have := hpos h.1; omega
    · have hb : formBad s = true := h
      rw [numM, if_pos hb]
    · have hb : formBad s = false := h
      have := (parsed_of hb).2 hok
      rw [numM, if_neg (by rw [hb]; simp), if_pos (by omega)]
  · refine Does.go (cfg := cfgNb1) cfgNb1_ok Tryz.func161 (by kernel_rfl) (by kernel_rfl) (t := (.need ((cutP s [(45 : UInt8)] == []) = false → List.length (cutP s [(45 : UInt8)]) ≤ 9223372036854775807) (.need ((cutP s [(45 : UInt8)] == [] || !trimM (cutP s [(45 : UInt8)]) == []) = false → (0 : Int) ≤ (0 : Int) ∧ (0 : Int) < strLen (cutP s [(45 : UInt8)])) (.ite (cutP s [(45 : UInt8)] == [] || !trimM (cutP s [(45 : UInt8)]) == [] || (↑(UInt8.toNat (List.getD (cutP s [(45 : UInt8)]) 0 (0 : UInt8))) : Int) == (48 : Int) && (decide (strLen (cutP s [(45 : UInt8)]) > (1 : Int)) || hasP s [(45 : UInt8)])) (.ret (.tup [.i (0 : Int), .i (1 : Int)]) []) (.need (List.length s ≤ 281474976710656 ∧ parsedOk s = true) (.ite (false || decide (parsedM s > (1099511627776 : Int)) || decide (parsedM s < (-1099511627776 : Int))) (.ret (.tup [.i (0 : Int), .i (5 : Int)]) []) (.ret (.tup [.i (parsedM s), .i (0 : Int)]) []))))))) (by kernel_rfl) fun Γ => ?_
    rw [trim_nil]
    refine ⟨fun _ => by omega, fun h => ?_, fun h => ⟨congrArg intP (a₁ := (0, 1)) ?_, rfl⟩, fun h => ⟨⟨hs, hok⟩, fun g => ⟨congrArg intP (a₁ := (0, 5)) ?_, rfl⟩, fun g => ⟨congrArg intP (a₁ := (parsedM s, 0)) ?_, rfl⟩⟩⟩
    · simp only [Bool.or_eq_false_iff] at h
      have := hpos h.1; omega
    · have hb : formBad s = true := h
      rw [numM, if_pos hb]
    · have hb : formBad s = false := h
      have hv := (parsed_of hb).1 hok
      simp only [Bool.false_or, Bool.or_eq_true, decide_eq_true_eq] at g
      rw [numM, if_neg (by rw [hb]; simp), if_pos]
      rw [hv] at g
      split at g <;> omega
    · have hb : formBad s = false := h
      have hv := (parsed_of hb).1 hok
      simp only [Bool.false_or, Bool.or_eq_false_iff, decide_eq_false_iff_not] at g
      rw [numM, if_neg (by rw [hb]; simp), if_neg, hv]
      rw [hv] at g
      split at g <;> omega
end Go.Proofs.YtjndellhebidoaaGreatDoor

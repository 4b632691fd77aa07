/- Contracts: strings.LastIndexAny at signs. Conditions: texts that are not too long; the tables of unicode/utf8. -/
import Derived.Test.YtndkapkejmkphaaDoorRb
import Derived.Test.YtndkapkejmkphaaDoorShelfi
import Derived.Test.YtndkapkejmkphaaDoorRn
namespace Go.Proofs.YtndkapkejmkphaaDoor
open Go Go.Ev Go.RowKit
set_option maxRecDepth 100000
/-! ### plain: the last sign -/
def isPM (c : UInt8) : Bool := c == 43 || c == 45
def lastPM (s : Str) : Nat → Int
  | 0 => -1
  | k + 1 => if isPM (s.getD k 0) = true then (k : Int) else lastPM s k
def lastAny (s : Str) : Int := lastPM s s.length
theorem lastPM_skip {s : Str} : ∀ (n k : Nat), (∀ j, k ≤ j → j < k + n → isPM (s.getD j 0) = false) → lastPM s (k + n) = lastPM s k
  | 0, k, _ => rfl
  | n + 1, k, h => by
    rw [← Nat.add_assoc, lastPM, if_neg (by rw [h (k + n) (by omega) (by omega)]; simp)]
    exact lastPM_skip n k fun j h1 h2 => h j h1 (by omega)
theorem lastPM_bounds (s : Str) : ∀ k, -1 ≤ lastPM s k ∧ lastPM s k < k
  | 0 => by simp [lastPM]
  | k + 1 => by
    rw [lastPM]; split
    · omega
    · have := lastPM_bounds s k; omega
theorem lastAny_at {a r : Str} {c : UInt8} (hc : isPM c = true) (hr : ∀ x ∈ r, isPM x = false) : lastAny (a ++ c :: r) = (a.length : Int) := by
  unfold lastAny
  have e : (a ++ c :: r).length = (a.length + 1) + r.length := by simp; omega
  rw [e, lastPM_skip r.length (a.length + 1), lastPM, if_pos]
  · rw [List.getD_eq_getElem?_getD, List.getElem?_append_right (Nat.le_refl _), Nat.sub_self]; exact hc
  · intro j h1 h2
    have : (a ++ c :: r)[j]? = r[j - (a.length + 1)]? := by
      rw [List.getElem?_append_right (by omega), show j - a.length = (j - (a.length + 1)) + 1 by omega, List.getElem?_cons_succ]
    rw [List.getD_eq_getElem?_getD, this, List.getElem?_eq_getElem (by omega)]
    exact hr _ (List.getElem_mem _)
def setL : List SC := [SC.pd (PD.bool false), SC.pd (PD.bool false), SC.pd (PD.bool false), SC.pd (PD.bool false), SC.pd (PD.bool false), SC.pd (PD.bool false), SC.pd (PD.bool false), SC.pd (PD.bool false), SC.pd (PD.bool false), SC.pd (PD.bool false), SC.pd (PD.bool false), SC.pd (PD.bool false), SC.pd (PD.bool false), SC.pd (PD.bool false), SC.pd (PD.bool false), SC.pd (PD.bool false), SC.pd (PD.bool false), SC.pd (PD.bool false), SC.pd (PD.bool false), SC.pd (PD.bool false), SC.pd (PD.bool false), SC.pd (PD.bool false), SC.pd (PD.bool false), SC.pd (PD.bool false), SC.pd (PD.bool false), SC.pd (PD.bool false), SC.pd (PD.bool false), SC.pd (PD.bool false), SC.pd (PD.bool false), SC.pd (PD.bool false), SC.pd (PD.bool false), SC.pd (PD.bool false), SC.pd (PD.bool false), SC.pd (PD.bool false), SC.pd (PD.bool false), SC.pd (PD.bool false), SC.pd (PD.bool false), SC.pd (PD.bool false), SC.pd (PD.bool false), SC.pd (PD.bool false), SC.pd (PD.bool false), SC.pd (PD.bool false), SC.pd (PD.bool false), SC.pd (PD.bool true), SC.pd (PD.bool false), SC.pd (PD.bool true), SC.pd (PD.bool false), SC.pd (PD.bool false), SC.pd (PD.bool false), SC.pd (PD.bool false), SC.pd (PD.bool false), SC.pd (PD.bool false), SC.pd (PD.bool false), SC.pd (PD.bool false), SC.pd (PD.bool false), SC.pd (PD.bool false), SC.pd (PD.bool false), SC.pd (PD.bool false), SC.pd (PD.bool false), SC.pd (PD.bool false), SC.pd (PD.bool false), SC.pd (PD.bool false), SC.pd (PD.bool false), SC.pd (PD.bool false), SC.pd (PD.bool false), SC.pd (PD.bool false), SC.pd (PD.bool false), SC.pd (PD.bool false), SC.pd (PD.bool false), SC.pd (PD.bool false), SC.pd (PD.bool false), SC.pd (PD.bool false), SC.pd (PD.bool false), SC.pd (PD.bool false), SC.pd (PD.bool false), SC.pd (PD.bool false), SC.pd (PD.bool false), SC.pd (PD.bool false), SC.pd (PD.bool false), SC.pd (PD.bool false), SC.pd (PD.bool false), SC.pd (PD.bool false), SC.pd (PD.bool false), SC.pd (PD.bool false), SC.pd (PD.bool false), SC.pd (PD.bool false), SC.pd (PD.bool false), SC.pd (PD.bool false), SC.pd (PD.bool false), SC.pd (PD.bool false), SC.pd (PD.bool false), SC.pd (PD.bool false), SC.pd (PD.bool false), SC.pd (PD.bool false), SC.pd (PD.bool false), SC.pd (PD.bool false), SC.pd (PD.bool false), SC.pd (PD.bool false), SC.pd (PD.bool false), SC.pd (PD.bool false), SC.pd (PD.bool false), SC.pd (PD.bool false), SC.pd (PD.bool false), SC.pd (PD.bool false), SC.pd (PD.bool false), SC.pd (PD.bool false), SC.pd (PD.bool false), SC.pd (PD.bool false), SC.pd (PD.bool false), SC.pd (PD.bool false), SC.pd (PD.bool false), SC.pd (PD.bool false), SC.pd (PD.bool false), SC.pd (PD.bool false), SC.pd (PD.bool false), SC.pd (PD.bool false), SC.pd (PD.bool false), SC.pd (PD.bool false), SC.pd (PD.bool false), SC.pd (PD.bool false), SC.pd (PD.bool false), SC.pd (PD.bool false), SC.pd (PD.bool false), SC.pd (PD.bool false), SC.pd (PD.bool false), SC.pd (PD.bool false), SC.pd (PD.bool false), SC.pd (PD.bool false), SC.pd (PD.bool false), SC.pd (PD.bool false), SC.pd (PD.bool false), SC.pd (PD.bool false), SC.pd (PD.bool false), SC.pd (PD.bool false), SC.pd (PD.bool false), SC.pd (PD.bool false), SC.pd (PD.bool false), SC.pd (PD.bool false), SC.pd (PD.bool false), SC.pd (PD.bool false), SC.pd (PD.bool false), SC.pd (PD.bool false), SC.pd (PD.bool false), SC.pd (PD.bool false), SC.pd (PD.bool false), SC.pd (PD.bool false), SC.pd (PD.bool false), SC.pd (PD.bool false), SC.pd (PD.bool false), SC.pd (PD.bool false), SC.pd (PD.bool false), SC.pd (PD.bool false), SC.pd (PD.bool false), SC.pd (PD.bool false), SC.pd (PD.bool false), SC.pd (PD.bool false), SC.pd (PD.bool false), SC.pd (PD.bool false), SC.pd (PD.bool false), SC.pd (PD.bool false), SC.pd (PD.bool false), SC.pd (PD.bool false), SC.pd (PD.bool false), SC.pd (PD.bool false), SC.pd (PD.bool false), SC.pd (PD.bool false), SC.pd (PD.bool false), SC.pd (PD.bool false), SC.pd (PD.bool false), SC.pd (PD.bool false), SC.pd (PD.bool false), SC.pd (PD.bool false), SC.pd (PD.bool false), SC.pd (PD.bool false), SC.pd (PD.bool false), SC.pd (PD.bool false), SC.pd (PD.bool false), SC.pd (PD.bool false), SC.pd (PD.bool false), SC.pd (PD.bool false), SC.pd (PD.bool false), SC.pd (PD.bool false), SC.pd (PD.bool false), SC.pd (PD.bool false), SC.pd (PD.bool false), SC.pd (PD.bool false), SC.pd (PD.bool false), SC.pd (PD.bool false), SC.pd (PD.bool false), SC.pd (PD.bool false), SC.pd (PD.bool false), SC.pd (PD.bool false), SC.pd (PD.bool false), SC.pd (PD.bool false), SC.pd (PD.bool false), SC.pd (PD.bool false), SC.pd (PD.bool false), SC.pd (PD.bool false), SC.pd (PD.bool false), SC.pd (PD.bool false), SC.pd (PD.bool false), SC.pd (PD.bool false), SC.pd (PD.bool false), SC.pd (PD.bool false), SC.pd (PD.bool false), SC.pd (PD.bool false), SC.pd (PD.bool false), SC.pd (PD.bool false), SC.pd (PD.bool false), SC.pd (PD.bool false), SC.pd (PD.bool false), SC.pd (PD.bool false), SC.pd (PD.bool false), SC.pd (PD.bool false), SC.pd (PD.bool false), SC.pd (PD.bool false), SC.pd (PD.bool false), SC.pd (PD.bool false), SC.pd (PD.bool false), SC.pd (PD.bool false), SC.pd (PD.bool false), SC.pd (PD.bool false), SC.pd (PD.bool false), SC.pd (PD.bool false), SC.pd (PD.bool false), SC.pd (PD.bool false), SC.pd (PD.bool false), SC.pd (PD.bool false), SC.pd (PD.bool false), SC.pd (PD.bool false), SC.pd (PD.bool false), SC.pd (PD.bool false), SC.pd (PD.bool false), SC.pd (PD.bool false), SC.pd (PD.bool false), SC.pd (PD.bool false), SC.pd (PD.bool false), SC.pd (PD.bool false), SC.pd (PD.bool false), SC.pd (PD.bool false), SC.pd (PD.bool false), SC.pd (PD.bool false), SC.pd (PD.bool false), SC.pd (PD.bool false), SC.pd (PD.bool false), SC.pd (PD.bool false), SC.pd (PD.bool false), SC.pd (PD.bool false), SC.pd (PD.bool false), SC.pd (PD.bool false), SC.pd (PD.bool false), SC.pd (PD.bool false), SC.pd (PD.bool false), SC.pd (PD.bool false), SC.pd (PD.bool false), SC.pd (PD.bool false)]
def signIx (r : Int) : Int := if r = 43 then 0 else if r = 45 then 1 else -1
def isSet : List SC → List SC → Bool
  | [], [] => true
  | .pd (.bool a) :: l, .pd (.bool b) :: m => (a == b) && isSet l m
  | _, _ => false
def eCon : Nat × (List SX → List Chunk → Option (Option Prop × SV × List Chunk)) := (22, fun
  | [.c (.loc 0 0), .c (.pd (.int .u8 c))], [.cells l e] => bif isSet l setL then some (some (0 ≤ c ∧ c < 256), .x (.c (.pd (.bool (c == 43 || c == 45)))), [.cells l e]) else none
  | _, _ => none)
def dlR (s : Str) : Int := ((Lib.decodeLastL s).1 : Int)
def dlN (s : Str) : Int := ((Lib.decodeLastL s).2 : Int)
theorem pm_int (c : UInt8) : ((((c.toNat : Nat) : Int) == 43) || (((c.toNat : Nat) : Int) == 45)) = isPM c := by
  have h : ∀ d : UInt8, (((c.toNat : Nat) : Int) == ((d.toNat : Nat) : Int)) = (c == d) := fun d => by
    rw [Bool.eq_iff_iff, beq_iff_eq, beq_iff_eq]
    exact ⟨fun e => UInt8.toNat_inj.1 (by omega), fun e => by rw [e]⟩
  have h1 := h 43; have h2 := h 45
  unfold isPM; rw [← h1, ← h2]; rfl
theorem pm_ix {c : UInt8} (h : c.toNat < 128) : decide (signIx ((c.toNat : Nat) : Int) ≥ 0) = isPM c := by
  rw [← pm_int]
  unfold signIx
  by_cases h1 : ((c.toNat : Nat) : Int) = 43
  · rw [h1]; rfl
  · by_cases h2 : ((c.toNat : Nat) : Int) = 45
    · rw [h2]; rfl
    · rw [if_neg h1, if_neg h2, beq_eq_false_iff_ne.2 h1, beq_eq_false_iff_ne.2 h2]; rfl
theorem wrap32 {n : Int} (h0 : 0 ≤ n) (h1 : n < 2147483648) : IntKind.wrap .i32 n = n := by
  unfold IntKind.wrap
  simp only [IntKind.bits, IntKind.signed]
  simp
  omega
def setB : List Bool := (List.range 256).map fun i => i == 43 || i == 45
theorem setL_eq : setL = setB.map fun b => .pd (.bool b) := by kernel_rfl
theorem isSet_eq : ∀ {l : List SC} {m : List Bool}, isSet l (m.map fun b => .pd (.bool b)) = true → l = m.map fun b => .pd (.bool b)
  | [], [], _ => rfl
  | [], b :: m, h => by simp [isSet] at h
  | x :: l, [], h => by
    cases x with
    | pd p => cases p <;> simp [isSet] at h
    | _ => simp [isSet] at h
  | x :: l, b :: m, h => by
    cases x with
    | pd p =>
      cases p with
      | bool a =>
        simp only [List.map_cons, isSet, Bool.and_eq_true, beq_iff_eq] at h
        rw [h.1, isSet_eq h.2]; rfl
      | _ => simp [isSet] at h
    | _ => simp [isSet] at h
theorem setB_get : ∀ n, n < 256 → setB[n]? = some (n == 43 || n == 45) := by
  intro n hn; unfold setB; rw [List.getElem?_map, List.getElem?_range hn]; rfl
theorem bools_all {V : Vn} : ∀ l : List Bool, All2 (SC.R V) (l.map fun b => .pd (.bool b)) (l.map Value.bool)
  | [] => .nil
  | b :: l => .cons (.bool b) (bools_all l)
theorem eCon_ok (vs : List SX) (ck : List Chunk) (p : Option Prop) (ret : SV) (ck' : List Chunk) (h : eCon.2 vs ck = some (p, ret, ck')) (hp : Holds p) : Does Tryd.prog eCon.1 vs ck ret ck' := by
  unfold eCon at h
  simp only at h
  split at h
  · rename_i c l e
    cases hs : isSet l setL
    · rw [hs] at h; cases h
    · rw [hs] at h
      simp only [cond_true, Option.some.injEq, Prod.mk.injEq] at h
      obtain ⟨rfl, rfl, rfl⟩ := h
      rw [setL_eq] at hs
      have hl := isSet_eq hs
      have hc : 0 ≤ c ∧ c < 256 := hp
      obtain ⟨n, rfl⟩ := Int.eq_ofNat_of_zero_le hc.1
      have hn : n < 256 := by omega
      intro w V vs hw hT hv
      cases hv with
      | cons a1 hv => cases hv with
        | cons a2 hv =>
          cases hv
          have a1' : _ = Value.pointer (some ⟨V.σ 0, 0, none⟩) := a1
          have a2' : PR V.H (.int .u8 (n : Int)) _ := a2
          subst a1'
          cases a2'
          obtain ⟨us, h1, h2⟩ := hw.own 0 _ rfl
          have hus : us[n]? = some (.bool (n == 43 || n == 45)) := by
            rw [hl] at h2
            obtain ⟨u, h3, h4⟩ := h2.get (i := n) (a := .pd (.bool (n == 43 || n == 45))) (by rw [List.getElem?_map, setB_get n hn]; rfl)
            have h5 : PR V.H (.bool (n == 43 || n == 45)) u := h4
            cases h5; exact h3
          have hnat : ((UInt8.ofNat n).toNat : Int) = (n : Int) := by rw [UInt8.toNat_ofNat']; omega
          have key := Tryd.asciiSet_contains (V.σ 0) (UInt8.ofNat n) (n == 43 || n == 45) w (by
            have h6 : (UInt8.ofNat n).toNat = n := by omega
            simp only [World.cell?, h1, h6]
            simpa using hus)
          rw [hnat] at key
          refine key.mono fun e w' ⟨he, hw'⟩ => ?_
          subst he; subst hw'
          refine ⟨_, V, rfl, ?_, hw⟩
          have : (((n : Int) == 43) || ((n : Int) == 45)) = (n == 43 || n == 45) := by
            rw [Bool.eq_iff_iff]; simp only [Bool.or_eq_true, beq_iff_eq]; omega
          rw [this]
          exact PR.bool _
  · cases h
theorem ix_any (r : Int) (h : (0 ≤ r ∧ r < 55296) ∨ (57344 ≤ r ∧ r ≤ 1114111)) : Does Tryd.prog 19 [.s [43, 45], .c (.pd (.int .i32 r))] [] (.x (.i (signIx r))) [] := by
  intro w V vs hw hT hv
  cases hv with
  | cons a1 hv => cases hv with
    | cons a2 hv =>
      cases hv
      have a1' : PR V.H (.str [43, 45]) _ := a1
      have a2' : PR V.H (.int .i32 r) _ := a2
      cases a1'; cases a2'
      by_cases h1 : r < 128
      · have h0 : 0 ≤ r := by omega
        refine (Tryd.strings_IndexRune_ascii (bs [43, 45]) r w h0 h1).mono fun e w' ⟨he, hw'⟩ => ?_
        subst he; subst hw'
        refine ⟨_, V, rfl, ?_, hw⟩
        have e : Lib.indexByte (bs [43, 45]).data.toList r.toNat.toUInt8 = signIx r := by
          obtain ⟨n, rfl⟩ := Int.eq_ofNat_of_zero_le h0
          have hn : n < 128 := by omega
          have : ∀ n : Fin 128, Lib.indexByte [43, 45] (n.val.toUInt8) = signIx (n.val : Int) := by decide
          exact this ⟨n, hn⟩
        rw [e]
        exact PR.int _ _
      · refine (ixr_high r w (by omega) (by omega)).mono fun e w' ⟨he, hb⟩ => ?_
        subst he
        refine ⟨_, V, rfl, ?_, hw.kept (fr_below hb)⟩
        have e : signIx r = -1 := by unfold signIx; rw [if_neg (by omega), if_neg (by omega)]
        rw [e]
        exact PR.int _ _
def eIxr : Nat × (List SX → List Chunk → Option (Option Prop × SV × List Chunk)) := (19, fun
  | [.c (.pd (.str [43, 45])), .c (.pd (.int .i32 r))], [] => some (some ((0 ≤ r ∧ r < 55296) ∨ (57344 ≤ r ∧ r ≤ 1114111)), .x (.c (.pd (.int .i64 (signIx r)))), [])
  | _, _ => none)
theorem eIxr_ok (vs : List SX) (ck : List Chunk) (p : Option Prop) (ret : SV) (ck' : List Chunk) (h : eIxr.2 vs ck = some (p, ret, ck')) (hp : Holds p) : Does Tryd.prog eIxr.1 vs ck ret ck' := by
  unfold eIxr at h
  simp only at h
  split at h
  · rename_i r
    simp only [Option.some.injEq, Prod.mk.injEq] at h
    obtain ⟨rfl, rfl, rfl⟩ := h
    exact ix_any r hp
  · simp at h
theorem use_spec (n : Int) : Does Tryd.prog 20 [.i n] [] (.x (.b (decide (n > 8)))) [] := by
  refine Does.go (cfg := cfg0) cfg0_ok Tryd.func20 (by kernel_rfl) (by kernel_rfl) (t := (.ret (.p (.bool (decide (n > (8 : Int))))) [])) (by kernel_rfl) fun Γ => ⟨rfl, rfl⟩
def eUse : Nat × (List SX → List Chunk → Option (Option Prop × SV × List Chunk)) := (20, fun
  | [.c (.pd (.int .i64 n))], [] => some (none, .x (.c (.pd (.bool (decide (n > 8))))), [])
  | _, _ => none)
theorem eUse_ok (vs : List SX) (ck : List Chunk) (p : Option Prop) (ret : SV) (ck' : List Chunk) (h : eUse.2 vs ck = some (p, ret, ck')) (hp : Holds p) : Does Tryd.prog eUse.1 vs ck ret ck' := by
  unfold eUse at h
  simp only at h
  split at h
  · rename_i n
    simp only [Option.some.injEq, Prod.mk.injEq] at h
    obtain ⟨rfl, rfl, rfl⟩ := h
    exact use_spec n
  · simp at h
theorem ascii_all {l : Str} (h : l.all (fun c => decide (c.toNat < 128)) = true) : ∀ (j : Nat) (b : UInt8), l[j]? = some b → b.toNat < 128 := fun j b hb => of_decide_eq_true (List.all_eq_true.1 h b (List.mem_of_getElem? hb))
theorem mk_spec : Does Tryd.prog 21 [.s [43, 45]] [] (.tup [.agg setL, .b true]) [] := by
  intro w V vs hw hT hv
  cases hv with
  | cons a1 hv =>
    cases hv
    have a1' : PR V.H (.str [43, 45]) _ := a1
    cases a1'
    refine (Tryd.strings_makeASCIISet (fun w => Tryd.zeroValue51 w) (bs [43, 45]) w (by decide) (ascii_all (by decide))).mono fun e w' ⟨he, hw'⟩ => ?_
    subst he; subst hw'
    refine ⟨_, V, rfl, ⟨_, rfl, .cons ⟨setB.map Value.bool, ?_, by rw [setL_eq]; exact bools_all _⟩ (.cons (PR.bool true) .nil)⟩, hw.kept ⟨rfl, rfl, rfl, by simp, fun k hk _ => Below.heap_alloc w _ k hk⟩⟩
    congr 1
def eMk : Nat × (List SX → List Chunk → Option (Option Prop × SV × List Chunk)) := (21, fun
  | [.c (.pd (.str [43, 45]))], [] => some (none, .tup [.agg setL, .c (.pd (.bool true))], [])
  | _, _ => none)
theorem eMk_ok (vs : List SX) (ck : List Chunk) (p : Option Prop) (ret : SV) (ck' : List Chunk) (h : eMk.2 vs ck = some (p, ret, ck')) (hp : Holds p) : Does Tryd.prog eMk.1 vs ck ret ck' := by
  unfold eMk at h
  simp only at h
  split at h
  · simp only [Option.some.injEq, Prod.mk.injEq] at h
    obtain ⟨rfl, rfl, rfl⟩ := h
    exact mk_spec
  · simp at h
theorem dl_any (s : Str) (hs : s.length ≤ 9223372036854775807) : Does Tryd.prog 23 [.s s] [] (.tup [.c (.pd (.int .i32 (dlR s))), .i (dlN s)]) [] := by
  intro w V vs hw hT hv
  cases hv with
  | cons a1 hv =>
    cases hv
    have a1' : PR V.H (.str s) _ := a1
    cases a1'
    refine (dlast_calls (bs s) w (by rw [bs_size]; exact hs) (mu8_world hw.imm hT.2.2.2.2 (by kernel_rfl))).mono fun e w' ⟨he, hb⟩ => ?_
    subst he
    refine ⟨_, V, rfl, ⟨_, rfl, ?_⟩, hw.kept (fr_below hb)⟩
    rw [bs_toList]
    exact .cons (PR.int _ _) (.cons (PR.int _ _) .nil)
def eDl : Nat × (List SX → List Chunk → Option (Option Prop × SV × List Chunk)) := (23, fun
  | [.c (.pd (.str s))], [] => some (some (s.length ≤ 9223372036854775807), .tup [.c (.pd (.int .i32 (dlR s))), .c (.pd (.int .i64 (dlN s)))], [])
  | _, _ => none)
theorem eDl_ok (vs : List SX) (ck : List Chunk) (p : Option Prop) (ret : SV) (ck' : List Chunk) (h : eDl.2 vs ck = some (p, ret, ck')) (hp : Holds p) : Does Tryd.prog eDl.1 vs ck ret ck' := by
  unfold eDl at h
  simp only at h
  split at h
  · rename_i s
    simp only [Option.some.injEq, Prod.mk.injEq] at h
    obtain ⟨rfl, rfl, rfl⟩ := h
    exact dl_any s hp
  · simp at h
theorem pm_high {c : UInt8} (h : 128 ≤ c.toNat) : isPM c = false := by
  cases hb : isPM c
  · rfl
  · simp only [isPM, Bool.or_eq_true, beq_iff_eq] at hb
    rcases hb with rfl | rfl <;> simp at h
theorem decN_facts (n b0 b1 b2 b3 : Nat) : Lib.decodeN n b0 b1 b2 b3 = (b0, 1) ∧ b0 < 128 ∨ 128 ≤ b0 ∧ (Lib.decodeN n b0 b1 b2 b3 = (65533, 1)
    ∨ ((Lib.decodeN n b0 b1 b2 b3).2 = 2 ∧ 128 ≤ b1 ∧ 128 ≤ (Lib.decodeN n b0 b1 b2 b3).1 ∧ (Lib.decodeN n b0 b1 b2 b3).1 < 55296)
    ∨ ((Lib.decodeN n b0 b1 b2 b3).2 = 3 ∧ 128 ≤ b1 ∧ 128 ≤ b2 ∧ 128 ≤ (Lib.decodeN n b0 b1 b2 b3).1 ∧ ((Lib.decodeN n b0 b1 b2 b3).1 < 55296 ∨ 57344 ≤ (Lib.decodeN n b0 b1 b2 b3).1 ∧ (Lib.decodeN n b0 b1 b2 b3).1 ≤ 1114111))
    ∨ ((Lib.decodeN n b0 b1 b2 b3).2 = 4 ∧ 128 ≤ b1 ∧ 128 ≤ b2 ∧ 128 ≤ b3 ∧ 128 ≤ (Lib.decodeN n b0 b1 b2 b3).1 ∧ ((Lib.decodeN n b0 b1 b2 b3).1 < 55296 ∨ 57344 ≤ (Lib.decodeN n b0 b1 b2 b3).1 ∧ (Lib.decodeN n b0 b1 b2 b3).1 ≤ 1114111))) := by
  unfold Lib.decodeN
  repeat' split
  · left; exact ⟨rfl, by omega⟩
  all_goals
    right
    refine ⟨by omega, ?_⟩
  · right; left; refine ⟨rfl, ?_, ?_, ?_⟩ <;> (try simp only) <;> omega
  · left; rfl
  · right; right; left; refine ⟨rfl, ?_, ?_, ?_, ?_⟩ <;> (try simp only) <;> omega
  · left; rfl
  · right; right; right; refine ⟨rfl, ?_, ?_, ?_, ?_, ?_⟩ <;> (try simp only) <;> omega
  · left; rfl
  · left; rfl
theorem dl_facts (s : Str) (h0 : 0 < s.length) : ((s.getD (s.length - 1) 0).toNat < 128 ∧ dlR s = ((s.getD (s.length - 1) 0).toNat : Int) ∧ dlN s = 1)
    ∨ (128 ≤ dlR s ∧ (dlR s < 55296 ∨ 57344 ≤ dlR s ∧ dlR s ≤ 1114111) ∧ ∃ n : Nat, dlN s = (n : Int) ∧ 1 ≤ n ∧ n ≤ s.length ∧ ∀ j, s.length - n ≤ j → j < s.length → isPM (s.getD j 0) = false) := by
  have hne : s ≠ [] := fun e => by rw [e] at h0; simp at h0
  unfold dlR dlN Lib.decodeLastL
  rw [if_neg hne]
  by_cases hl : (s.getD (s.length - 1) 0).toNat < 128
  · rw [if_pos hl]; exact .inl ⟨hl, rfl, rfl⟩
  · rw [if_neg hl]
    have hst := Lib.lastStart_lt s hne
    have hlast : ∀ j, s.length - 1 ≤ j → j < s.length → isPM (s.getD j 0) = false := fun j h1 h2 => by
      rw [show j = s.length - 1 by omega]; exact pm_high (by omega)
    right
    simp only
    generalize Lib.lastStart s = m at hst ⊢
    by_cases hc : m + (Lib.decodeL (s.drop m)).2 = s.length
    · rw [if_pos hc]
      have ed : Lib.decodeL (s.drop m) = Lib.decodeN (s.drop m).length (s.getD m 0).toNat (s.getD (m + 1) 0).toNat (s.getD (m + 2) 0).toNat (s.getD (m + 3) 0).toNat := by
        have hg : ∀ i, (⟨(s.drop m).toArray⟩ : ByteArray).get! i = s.getD (m + i) 0 := fun i => by
          rw [← Lib.getD_get!]
          show (s.drop m).getD i 0 = _
          simp only [List.getD_eq_getElem?_getD, List.getElem?_drop]
        unfold Lib.decodeL
        rw [Lib.decode_at, hg, hg, hg, hg]
        congr 1
      have hf := decN_facts (s.drop m).length (s.getD m 0).toNat (s.getD (m + 1) 0).toNat (s.getD (m + 2) 0).toNat (s.getD (m + 3) 0).toNat
      rw [← ed] at hf
      generalize Lib.decodeL (s.drop m) = d at hc hf ⊢
      obtain ⟨r, n⟩ := d
      simp only at hc hf ⊢
      rcases hf with ⟨h1, h2⟩ | ⟨hb0, h1 | ⟨h1, h2, h3⟩ | ⟨h1, h2, h3, h4⟩ | ⟨h1, h2, h3, h4, h5⟩⟩
      · rw [Prod.mk.injEq] at h1
        rw [show m = s.length - 1 by omega] at h2; omega
      · rw [Prod.mk.injEq] at h1
        refine ⟨by omega, by omega, n, rfl, by omega, by omega, fun j g1 g2 => hlast j (by omega) g2⟩
      · refine ⟨by omega, by omega, n, rfl, by omega, by omega, fun j g1 g2 => ?_⟩
        have : j = m ∨ j = m + 1 := by omega
        rcases this with rfl | rfl <;> exact pm_high (by assumption)
      · refine ⟨by omega, by omega, n, rfl, by omega, by omega, fun j g1 g2 => ?_⟩
        have : j = m ∨ j = m + 1 ∨ j = m + 2 := by omega
        rcases this with rfl | rfl | rfl <;> exact pm_high (by assumption)
      · refine ⟨by omega, by omega, n, rfl, by omega, by omega, fun j g1 g2 => ?_⟩
        have : j = m ∨ j = m + 1 ∨ j = m + 2 ∨ j = m + 3 := by omega
        rcases this with rfl | rfl | rfl | rfl <;> exact pm_high (by assumption)
    · rw [if_neg hc]
      exact ⟨by decide, by decide, 1, rfl, by omega, by omega, hlast⟩
def cfgLa : Cfg := ⟨tys0, [eIxr, eUse, eMk, eCon, eDl]⟩
theorem cfgLa_ok : TabOk Tryd.prog cfgLa.tab := (TabOk.cons eIxr_ok (TabOk.cons eUse_ok (TabOk.cons eMk_ok (TabOk.cons eCon_ok (TabOk.cons eDl_ok TabOk.nil)))))

theorem la_long (s : Str) (Γ : Ctx) (hs : s.length ≤ 9223372036854775807) : ∀ k : Nat, k ≤ s.length →
    J Tryd.prog 8 (bodyOf Tryd.f8) Γ (Eq2 (.x (.i (lastPM s k))) []) [.code [1, 1, 1, 0, 1, 0, 1, 1, 0, 0, 1, 0, 0], .inLoop [1, 1, 1, 0, 1, 0, 1, 1, 0, 0, 1, 0, 0], .inBlock 0, .code [1, 1, 1, 0, 1, 0, 1, 1, 0, 1], .code [1, 1, 1, 1]] ({ n := 96, fr := [(0, .p (.str s)), (1, .p (.str [(43 : UInt8), 45])), (4, .i (0 : Int)), (6, .x (.c (.loc 0 0))), (8, .i (((k : Int) - 1)))], ck := [.cells [.pd (.bool false), .pd (.bool false), .pd (.bool false), .pd (.bool false), .pd (.bool false), .pd (.bool false), .pd (.bool false), .pd (.bool false), .pd (.bool false), .pd (.bool false), .pd (.bool false), .pd (.bool false), .pd (.bool false), .pd (.bool false), .pd (.bool false), .pd (.bool false), .pd (.bool false), .pd (.bool false), .pd (.bool false), .pd (.bool false), .pd (.bool false), .pd (.bool false), .pd (.bool false), .pd (.bool false), .pd (.bool false), .pd (.bool false), .pd (.bool false), .pd (.bool false), .pd (.bool false), .pd (.bool false), .pd (.bool false), .pd (.bool false), .pd (.bool false), .pd (.bool false), .pd (.bool false), .pd (.bool false), .pd (.bool false), .pd (.bool false), .pd (.bool false), .pd (.bool false), .pd (.bool false), .pd (.bool false), .pd (.bool false), .pd (.bool true), .pd (.bool false), .pd (.bool true), .pd (.bool false), .pd (.bool false), .pd (.bool false), .pd (.bool false), .pd (.bool false), .pd (.bool false), .pd (.bool false), .pd (.bool false), .pd (.bool false), .pd (.bool false), .pd (.bool false), .pd (.bool false), .pd (.bool false), .pd (.bool false), .pd (.bool false), .pd (.bool false), .pd (.bool false), .pd (.bool false), .pd (.bool false), .pd (.bool false), .pd (.bool false), .pd (.bool false), .pd (.bool false), .pd (.bool false), .pd (.bool false), .pd (.bool false), .pd (.bool false), .pd (.bool false), .pd (.bool false), .pd (.bool false), .pd (.bool false), .pd (.bool false), .pd (.bool false), .pd (.bool false), .pd (.bool false), .pd (.bool false), .pd (.bool false), .pd (.bool false), .pd (.bool false), .pd (.bool false), .pd (.bool false), .pd (.bool false), .pd (.bool false), .pd (.bool false), .pd (.bool false), .pd (.bool false), .pd (.bool false), .pd (.bool false), .pd (.bool false), .pd (.bool false), .pd (.bool false), .pd (.bool false), .pd (.bool false), .pd (.bool false), .pd (.bool false), .pd (.bool false), .pd (.bool false), .pd (.bool false), .pd (.bool false), .pd (.bool false), .pd (.bool false), .pd (.bool false), .pd (.bool false), .pd (.bool false), .pd (.bool false), .pd (.bool false), .pd (.bool false), .pd (.bool false), .pd (.bool false), .pd (.bool false), .pd (.bool false), .pd (.bool false), .pd (.bool false), .pd (.bool false), .pd (.bool false), .pd (.bool false), .pd (.bool false), .pd (.bool false), .pd (.bool false), .pd (.bool false), .pd (.bool false), .pd (.bool false), .pd (.bool false), .pd (.bool false), .pd (.bool false), .pd (.bool false), .pd (.bool false), .pd (.bool false), .pd (.bool false), .pd (.bool false), .pd (.bool false), .pd (.bool false), .pd (.bool false), .pd (.bool false), .pd (.bool false), .pd (.bool false), .pd (.bool false), .pd (.bool false), .pd (.bool false), .pd (.bool false), .pd (.bool false), .pd (.bool false), .pd (.bool false), .pd (.bool false), .pd (.bool false), .pd (.bool false), .pd (.bool false), .pd (.bool false), .pd (.bool false), .pd (.bool false), .pd (.bool false), .pd (.bool false), .pd (.bool false), .pd (.bool false), .pd (.bool false), .pd (.bool false), .pd (.bool false), .pd (.bool false), .pd (.bool false), .pd (.bool false), .pd (.bool false), .pd (.bool false), .pd (.bool false), .pd (.bool false), .pd (.bool false), .pd (.bool false), .pd (.bool false), .pd (.bool false), .pd (.bool false), .pd (.bool false), .pd (.bool false), .pd (.bool false), .pd (.bool false), .pd (.bool false), .pd (.bool false), .pd (.bool false), .pd (.bool false), .pd (.bool false), .pd (.bool false), .pd (.bool false), .pd (.bool false), .pd (.bool false), .pd (.bool false), .pd (.bool false), .pd (.bool false), .pd (.bool false), .pd (.bool false), .pd (.bool false), .pd (.bool false), .pd (.bool false), .pd (.bool false), .pd (.bool false), .pd (.bool false), .pd (.bool false), .pd (.bool false), .pd (.bool false), .pd (.bool false), .pd (.bool false), .pd (.bool false), .pd (.bool false), .pd (.bool false), .pd (.bool false), .pd (.bool false), .pd (.bool false), .pd (.bool false), .pd (.bool false), .pd (.bool false), .pd (.bool false), .pd (.bool false), .pd (.bool false), .pd (.bool false), .pd (.bool false), .pd (.bool false), .pd (.bool false), .pd (.bool false), .pd (.bool false), .pd (.bool false), .pd (.bool false), .pd (.bool false), .pd (.bool false), .pd (.bool false), .pd (.bool false), .pd (.bool false), .pd (.bool false), .pd (.bool false), .pd (.bool false), .pd (.bool false), .pd (.bool false), .pd (.bool false), .pd (.bool false), .pd (.bool false), .pd (.bool false), .pd (.bool false), .pd (.bool false), .pd (.bool false), .pd (.bool false), .pd (.bool false), .pd (.bool false), .pd (.bool false), .pd (.bool false), .pd (.bool false), .pd (.bool false), .pd (.bool false), .pd (.bool false), .pd (.bool false), .pd (.bool false), .pd (.bool false), .pd (.bool false), .pd (.bool false), .pd (.bool false)] 51] }) := by
  intro k
  induction k with
  | zero => ?_
  | succ k ih => ?_
  all_goals
    intro hk
    have hL : strLen s = (s.length : Int) := rfl
  · refine J.go (cfg := cfgLa) cfgLa_ok Tryd.func8 1000 (t := (.ite false (.need ((0 : Int) ≤ (↑(0 : Nat) : Int) - (1 : Int) ∧ (↑(0 : Nat) : Int) - (1 : Int) < strLen s) (.need ((0 : Int) ≤ (↑(UInt8.toNat (List.getD s 0 (0 : UInt8))) : Int) ∧ (↑(UInt8.toNat (List.getD s 0 (0 : UInt8))) : Int) < (256 : Int)) (.ite ((↑(UInt8.toNat (List.getD s 0 (0 : UInt8))) : Int) == (43 : Int) || (↑(UInt8.toNat (List.getD s 0 (0 : UInt8))) : Int) == (45 : Int)) (.ret (.i ((↑(0 : Nat) : Int) - (1 : Int))) []) (.stop [.code [1, 1, 1, 0, 1, 0, 1, 1, 0, 0, 1, 0, 0], .inLoop [1, 1, 1, 0, 1, 0, 1, 1, 0, 0, 1, 0, 0], .inBlock 0, .code [1, 1, 1, 0, 1, 0, 1, 1, 0, 1], .code [1, 1, 1, 1]] { n := 96, fr := [(0, .p (.str s)), (1, .p (.str [(43 : UInt8), 45])), (4, .i (0 : Int)), (6, .x (.c (.loc 0 0))), (8, .i (IntKind.wrap .i64 ((↑(0 : Nat) : Int) - (1 : Int) - (1 : Int))))], ck := [.cells [.pd (.bool false), .pd (.bool false), .pd (.bool false), .pd (.bool false), .pd (.bool false), .pd (.bool false), .pd (.bool false), .pd (.bool false), .pd (.bool false), .pd (.bool false), .pd (.bool false), .pd (.bool false), .pd (.bool false), .pd (.bool false), .pd (.bool false), .pd (.bool false), .pd (.bool false), .pd (.bool false), .pd (.bool false), .pd (.bool false), .pd (.bool false), .pd (.bool false), .pd (.bool false), .pd (.bool false), .pd (.bool false), .pd (.bool false), .pd (.bool false), .pd (.bool false), .pd (.bool false), .pd (.bool false), .pd (.bool false), .pd (.bool false), .pd (.bool false), .pd (.bool false), .pd (.bool false), .pd (.bool false), .pd (.bool false), .pd (.bool false), .pd (.bool false), .pd (.bool false), .pd (.bool false), .pd (.bool false), .pd (.bool false), .pd (.bool true), .pd (.bool false), .pd (.bool true), .pd (.bool false), .pd (.bool false), .pd (.bool false), .pd (.bool false), .pd (.bool false), .pd (.bool false), .pd (.bool false), .pd (.bool false), .pd (.bool false), .pd (.bool false), .pd (.bool false), .pd (.bool false), .pd (.bool false), .pd (.bool false), .pd (.bool false), .pd (.bool false), .pd (.bool false), .pd (.bool false), .pd (.bool false), .pd (.bool false), .pd (.bool false), .pd (.bool false), .pd (.bool false), .pd (.bool false), .pd (.bool false), .pd (.bool false), .pd (.bool false), .pd (.bool false), .pd (.bool false), .pd (.bool false), .pd (.bool false), .pd (.bool false), .pd (.bool false), .pd (.bool false), .pd (.bool false), .pd (.bool false), .pd (.bool false), .pd (.bool false), .pd (.bool false), .pd (.bool false), .pd (.bool false), .pd (.bool false), .pd (.bool false), .pd (.bool false), .pd (.bool false), .pd (.bool false), .pd (.bool false), .pd (.bool false), .pd (.bool false), .pd (.bool false), .pd (.bool false), .pd (.bool false), .pd (.bool false), .pd (.bool false), .pd (.bool false), .pd (.bool false), .pd (.bool false), .pd (.bool false), .pd (.bool false), .pd (.bool false), .pd (.bool false), .pd (.bool false), .pd (.bool false), .pd (.bool false), .pd (.bool false), .pd (.bool false), .pd (.bool false), .pd (.bool false), .pd (.bool false), .pd (.bool false), .pd (.bool false), .pd (.bool false), .pd (.bool false), .pd (.bool false), .pd (.bool false), .pd (.bool false), .pd (.bool false), .pd (.bool false), .pd (.bool false), .pd (.bool false), .pd (.bool false), .pd (.bool false), .pd (.bool false), .pd (.bool false), .pd (.bool false), .pd (.bool false), .pd (.bool false), .pd (.bool false), .pd (.bool false), .pd (.bool false), .pd (.bool false), .pd (.bool false), .pd (.bool false), .pd (.bool false), .pd (.bool false), .pd (.bool false), .pd (.bool false), .pd (.bool false), .pd (.bool false), .pd (.bool false), .pd (.bool false), .pd (.bool false), .pd (.bool false), .pd (.bool false), .pd (.bool false), .pd (.bool false), .pd (.bool false), .pd (.bool false), .pd (.bool false), .pd (.bool false), .pd (.bool false), .pd (.bool false), .pd (.bool false), .pd (.bool false), .pd (.bool false), .pd (.bool false), .pd (.bool false), .pd (.bool false), .pd (.bool false), .pd (.bool false), .pd (.bool false), .pd (.bool false), .pd (.bool false), .pd (.bool false), .pd (.bool false), .pd (.bool false), .pd (.bool false), .pd (.bool false), .pd (.bool false), .pd (.bool false), .pd (.bool false), .pd (.bool false), .pd (.bool false), .pd (.bool false), .pd (.bool false), .pd (.bool false), .pd (.bool false), .pd (.bool false), .pd (.bool false), .pd (.bool false), .pd (.bool false), .pd (.bool false), .pd (.bool false), .pd (.bool false), .pd (.bool false), .pd (.bool false), .pd (.bool false), .pd (.bool false), .pd (.bool false), .pd (.bool false), .pd (.bool false), .pd (.bool false), .pd (.bool false), .pd (.bool false), .pd (.bool false), .pd (.bool false), .pd (.bool false), .pd (.bool false), .pd (.bool false), .pd (.bool false), .pd (.bool false), .pd (.bool false), .pd (.bool false), .pd (.bool false), .pd (.bool false), .pd (.bool false), .pd (.bool false), .pd (.bool false), .pd (.bool false), .pd (.bool false), .pd (.bool false), .pd (.bool false), .pd (.bool false), .pd (.bool false), .pd (.bool false), .pd (.bool false), .pd (.bool false), .pd (.bool false), .pd (.bool false), .pd (.bool false), .pd (.bool false), .pd (.bool false), .pd (.bool false), .pd (.bool false), .pd (.bool false), .pd (.bool false), .pd (.bool false), .pd (.bool false), .pd (.bool false), .pd (.bool false), .pd (.bool false), .pd (.bool false), .pd (.bool false), .pd (.bool false), .pd (.bool false), .pd (.bool false), .pd (.bool false), .pd (.bool false), .pd (.bool false), .pd (.bool false), .pd (.bool false), .pd (.bool false), .pd (.bool false), .pd (.bool false), .pd (.bool false), .pd (.bool false), .pd (.bool false), .pd (.bool false), .pd (.bool false), .pd (.bool false)] 51] })))) (.ret (.i (-1 : Int)) []))) (by kernel_rfl) ?_
    exact ⟨fun h => Bool.noConfusion h, fun _ => ⟨rfl, rfl⟩⟩
  · refine J.go (cfg := cfgLa) cfgLa_ok Tryd.func8 1000 (t := (.ite (decide ((↑(k + 1) : Int) - (1 : Int) ≥ (0 : Int))) (.need ((0 : Int) ≤ (↑(k + 1) : Int) - (1 : Int) ∧ (↑(k + 1) : Int) - (1 : Int) < strLen s) (.need ((0 : Int) ≤ (↑(UInt8.toNat (List.getD s (Int.toNat ((↑(k + 1) : Int) - (1 : Int))) (0 : UInt8))) : Int) ∧ (↑(UInt8.toNat (List.getD s (Int.toNat ((↑(k + 1) : Int) - (1 : Int))) (0 : UInt8))) : Int) < (256 : Int)) (.ite ((↑(UInt8.toNat (List.getD s (Int.toNat ((↑(k + 1) : Int) - (1 : Int))) (0 : UInt8))) : Int) == (43 : Int) || (↑(UInt8.toNat (List.getD s (Int.toNat ((↑(k + 1) : Int) - (1 : Int))) (0 : UInt8))) : Int) == (45 : Int)) (.ret (.i ((↑(k + 1) : Int) - (1 : Int))) []) (.stop [.code [1, 1, 1, 0, 1, 0, 1, 1, 0, 0, 1, 0, 0], .inLoop [1, 1, 1, 0, 1, 0, 1, 1, 0, 0, 1, 0, 0], .inBlock 0, .code [1, 1, 1, 0, 1, 0, 1, 1, 0, 1], .code [1, 1, 1, 1]] { n := 96, fr := [(0, .p (.str s)), (1, .p (.str [(43 : UInt8), 45])), (4, .i (0 : Int)), (6, .x (.c (.loc 0 0))), (8, .i (IntKind.wrap .i64 ((↑(k + 1) : Int) - (1 : Int) - (1 : Int))))], ck := [.cells [.pd (.bool false), .pd (.bool false), .pd (.bool false), .pd (.bool false), .pd (.bool false), .pd (.bool false), .pd (.bool false), .pd (.bool false), .pd (.bool false), .pd (.bool false), .pd (.bool false), .pd (.bool false), .pd (.bool false), .pd (.bool false), .pd (.bool false), .pd (.bool false), .pd (.bool false), .pd (.bool false), .pd (.bool false), .pd (.bool false), .pd (.bool false), .pd (.bool false), .pd (.bool false), .pd (.bool false), .pd (.bool false), .pd (.bool false), .pd (.bool false), .pd (.bool false), .pd (.bool false), .pd (.bool false), .pd (.bool false), .pd (.bool false), .pd (.bool false), .pd (.bool false), .pd (.bool false), .pd (.bool false), .pd (.bool false), .pd (.bool false), .pd (.bool false), .pd (.bool false), .pd (.bool false), .pd (.bool false), .pd (.bool false), .pd (.bool true), .pd (.bool false), .pd (.bool true), .pd (.bool false), .pd (.bool false), .pd (.bool false), .pd (.bool false), .pd (.bool false), .pd (.bool false), .pd (.bool false), .pd (.bool false), .pd (.bool false), .pd (.bool false), .pd (.bool false), .pd (.bool false), .pd (.bool false), .pd (.bool false), .pd (.bool false), .pd (.bool false), .pd (.bool false), .pd (.bool false), .pd (.bool false), .pd (.bool false), .pd (.bool false), .pd (.bool false), .pd (.bool false), .pd (.bool false), .pd (.bool false), .pd (.bool false), .pd (.bool false), .pd (.bool false), .pd (.bool false), .pd (.bool false), .pd (.bool false), .pd (.bool false), .pd (.bool false), .pd (.bool false), .pd (.bool false), .pd (.bool false), .pd (.bool false), .pd (.bool false), .pd (.bool false), .pd (.bool false), .pd (.bool false), .pd (.bool false), .pd (.bool false), .pd (.bool false), .pd (.bool false), .pd (.bool false), .pd (.bool false), .pd (.bool false), .pd (.bool false), .pd (.bool false), .pd (.bool false), .pd (.bool false), .pd (.bool false), .pd (.bool false), .pd (.bool false), .pd (.bool false), .pd (.bool false), .pd (.bool false), .pd (.bool false), .pd (.bool false), .pd (.bool false), .pd (.bool false), .pd (.bool false), .pd (.bool false), .pd (.bool false), .pd (.bool false), .pd (.bool false), .pd (.bool false), .pd (.bool false), .pd (.bool false), .pd (.bool false), .pd (.bool false), .pd (.bool false), .pd (.bool false), .pd (.bool false), .pd (.bool false), .pd (.bool false), .pd (.bool false), .pd (.bool false), .pd (.bool false), .pd (.bool false), .pd (.bool false), .pd (.bool false), .pd (.bool false), .pd (.bool false), .pd (.bool false), .pd (.bool false), .pd (.bool false), .pd (.bool false), .pd (.bool false), .pd (.bool false), .pd (.bool false), .pd (.bool false), .pd (.bool false), .pd (.bool false), .pd (.bool false), .pd (.bool false), .pd (.bool false), .pd (.bool false), .pd (.bool false), .pd (.bool false), .pd (.bool false), .pd (.bool false), .pd (.bool false), .pd (.bool false), .pd (.bool false), .pd (.bool false), .pd (.bool false), .pd (.bool false), .pd (.bool false), .pd (.bool false), .pd (.bool false), .pd (.bool false), .pd (.bool false), .pd (.bool false), .pd (.bool false), .pd (.bool false), .pd (.bool false), .pd (.bool false), .pd (.bool false), .pd (.bool false), .pd (.bool false), .pd (.bool false), .pd (.bool false), .pd (.bool false), .pd (.bool false), .pd (.bool false), .pd (.bool false), .pd (.bool false), .pd (.bool false), .pd (.bool false), .pd (.bool false), .pd (.bool false), .pd (.bool false), .pd (.bool false), .pd (.bool false), .pd (.bool false), .pd (.bool false), .pd (.bool false), .pd (.bool false), .pd (.bool false), .pd (.bool false), .pd (.bool false), .pd (.bool false), .pd (.bool false), .pd (.bool false), .pd (.bool false), .pd (.bool false), .pd (.bool false), .pd (.bool false), .pd (.bool false), .pd (.bool false), .pd (.bool false), .pd (.bool false), .pd (.bool false), .pd (.bool false), .pd (.bool false), .pd (.bool false), .pd (.bool false), .pd (.bool false), .pd (.bool false), .pd (.bool false), .pd (.bool false), .pd (.bool false), .pd (.bool false), .pd (.bool false), .pd (.bool false), .pd (.bool false), .pd (.bool false), .pd (.bool false), .pd (.bool false), .pd (.bool false), .pd (.bool false), .pd (.bool false), .pd (.bool false), .pd (.bool false), .pd (.bool false), .pd (.bool false), .pd (.bool false), .pd (.bool false), .pd (.bool false), .pd (.bool false), .pd (.bool false), .pd (.bool false), .pd (.bool false), .pd (.bool false), .pd (.bool false), .pd (.bool false), .pd (.bool false), .pd (.bool false), .pd (.bool false), .pd (.bool false), .pd (.bool false), .pd (.bool false), .pd (.bool false), .pd (.bool false), .pd (.bool false), .pd (.bool false), .pd (.bool false), .pd (.bool false), .pd (.bool false), .pd (.bool false), .pd (.bool false), .pd (.bool false), .pd (.bool false), .pd (.bool false), .pd (.bool false), .pd (.bool false), .pd (.bool false), .pd (.bool false)] 51] })))) (.ret (.i (-1 : Int)) []))) (by kernel_rfl) ?_
    have hk1 : (((k + 1 : Nat) : Int) - 1) = (k : Int) := by omega
    rw [hk1]
    have hb := UInt8.toNat_lt (s.getD k 0)
    rw [Int.toNat_natCast, pm_int]
    refine ⟨fun _ => ⟨⟨by omega, by omega⟩, ⟨by omega, by omega⟩, fun h => ⟨?_, rfl⟩, fun h => ?_⟩, fun h => absurd (of_decide_eq_false h) (by omega)⟩
    · rw [lastPM, if_pos h]
    · rw [lastPM, if_neg (by rw [h]; simp), wrapI (by omega) (by omega)]
      exact ih (by omega)
theorem la_short (s : Str) (Γ : Ctx) (hs : s.length ≤ 9223372036854775807) : ∀ m k : Nat, k ≤ m → k ≤ s.length →
    J Tryd.prog 8 (bodyOf Tryd.f8) Γ (Eq2 (.x (.i (lastPM s k))) []) [.code [1, 1, 1, 1, 1, 0, 1, 0, 0], .inLoop [1, 1, 1, 1, 1, 0, 1, 0, 0], .inBlock 4, .code [1, 1, 1, 1, 1, 1]] ({ n := 96, fr := [(0, .p (.str s)), (1, .p (.str [(43 : UInt8), 45])), (4, .i (0 : Int)), (13, .i ((k : Int)))], ck := [] }) := by
  have hL : strLen s = (s.length : Int) := rfl
  have z : J Tryd.prog 8 (bodyOf Tryd.f8) Γ (Eq2 (.x (.i (lastPM s 0))) []) [.code [1, 1, 1, 1, 1, 0, 1, 0, 0], .inLoop [1, 1, 1, 1, 1, 0, 1, 0, 0], .inBlock 4, .code [1, 1, 1, 1, 1, 1]] ({ n := 96, fr := [(0, .p (.str s)), (1, .p (.str [(43 : UInt8), 45])), (4, .i (0 : Int)), (13, .i ((0 : Int)))], ck := [] }) := by
    refine J.go (cfg := cfgLa) cfgLa_ok Tryd.func8 1000 (t := (.ite false (.need ((0 : Int) ≤ (↑(0 : Nat) : Int) ∧ (↑(0 : Nat) : Int) ≤ (↑(List.length s) : Int)) (.need (List.length (Prod.snd (cutL s none (some (↑(0 : Nat) : Int)))) ≤ 9223372036854775807) (.need ((0 : Int) ≤ dlR (Prod.snd (cutL s none (some (↑(0 : Nat) : Int)))) ∧ dlR (Prod.snd (cutL s none (some (↑(0 : Nat) : Int)))) < (55296 : Int) ∨ (57344 : Int) ≤ dlR (Prod.snd (cutL s none (some (↑(0 : Nat) : Int)))) ∧ dlR (Prod.snd (cutL s none (some (↑(0 : Nat) : Int)))) ≤ (1114111 : Int)) (.ite false (.ret (.i (IntKind.wrap .i64 ((↑(0 : Nat) : Int) - dlN (Prod.snd (cutL s none (some (↑(0 : Nat) : Int))))))) []) (.stop [.code [1, 1, 1, 1, 1, 0, 1, 0, 0], .inLoop [1, 1, 1, 1, 1, 0, 1, 0, 0], .inBlock 4, .code [1, 1, 1, 1, 1, 1]] { n := 96, fr := [(0, .p (.str s)), (1, .p (.str [(43 : UInt8), 45])), (4, .i (0 : Int)), (13, .i (IntKind.wrap .i64 ((↑(0 : Nat) : Int) - dlN (Prod.snd (cutL s none (some (↑(0 : Nat) : Int)))))))], ck := [] }))))) (.ret (.i (-1 : Int)) []))) (by kernel_rfl) ?_
    exact ⟨fun h => Bool.noConfusion h, fun _ => ⟨rfl, rfl⟩⟩
  intro m
  induction m with
  | zero => intro k hm hk; obtain rfl : k = 0 := by omega
            exact z
  | succ m ih =>
    intro k hm hk
    cases k with
    | zero => exact z
    | succ k =>
      refine J.go (cfg := cfgLa) cfgLa_ok Tryd.func8 1000 (t := (.ite (decide ((↑(k + 1) : Int) > (0 : Int))) (.need ((0 : Int) ≤ (↑(k + 1) : Int) ∧ (↑(k + 1) : Int) ≤ (↑(List.length s) : Int)) (.need (List.length (Prod.snd (cutL s none (some (↑(k + 1) : Int)))) ≤ 9223372036854775807) (.need ((0 : Int) ≤ dlR (Prod.snd (cutL s none (some (↑(k + 1) : Int)))) ∧ dlR (Prod.snd (cutL s none (some (↑(k + 1) : Int)))) < (55296 : Int) ∨ (57344 : Int) ≤ dlR (Prod.snd (cutL s none (some (↑(k + 1) : Int)))) ∧ dlR (Prod.snd (cutL s none (some (↑(k + 1) : Int)))) ≤ (1114111 : Int)) (.ite (decide (signIx (dlR (Prod.snd (cutL s none (some (↑(k + 1) : Int))))) ≥ (0 : Int))) (.ret (.i (IntKind.wrap .i64 ((↑(k + 1) : Int) - dlN (Prod.snd (cutL s none (some (↑(k + 1) : Int))))))) []) (.stop [.code [1, 1, 1, 1, 1, 0, 1, 0, 0], .inLoop [1, 1, 1, 1, 1, 0, 1, 0, 0], .inBlock 4, .code [1, 1, 1, 1, 1, 1]] { n := 96, fr := [(0, .p (.str s)), (1, .p (.str [(43 : UInt8), 45])), (4, .i (0 : Int)), (13, .i (IntKind.wrap .i64 ((↑(k + 1) : Int) - dlN (Prod.snd (cutL s none (some (↑(k + 1) : Int)))))))], ck := [] }))))) (.ret (.i (-1 : Int)) []))) (by kernel_rfl) ?_
      have ht : (cutL s none (some ((k + 1 : Nat) : Int))).2 = s.take (k + 1) := by simp [cutL]
      have hlen : (s.take (k + 1)).length = k + 1 := by rw [List.length_take]; omega
      have hg : ∀ j, j < k + 1 → (s.take (k + 1)).getD j 0 = s.getD j 0 := fun j hj => by
        simp only [List.getD_eq_getElem?_getD, List.getElem?_take, if_pos hj]
      have hf := dl_facts (s.take (k + 1)) (by omega)
      rw [hlen, show k + 1 - 1 = k by omega, hg k (by omega)] at hf
      rw [ht]
      generalize dlR (s.take (k + 1)) = r at hf ⊢
      generalize dlN (s.take (k + 1)) = n at hf ⊢
      rcases hf with ⟨h1, rfl, rfl⟩ | ⟨h1, h2, c, rfl, h3, h4, h5⟩
      · have hw : IntKind.wrap .i64 (((k + 1 : Nat) : Int) - 1) = (k : Int) := by rw [wrapI (by omega) (by omega)]; omega
        rw [pm_ix h1, hw]
        refine ⟨fun _ => ⟨⟨by omega, by omega⟩, by omega, by omega, fun h => ⟨?_, rfl⟩, fun h => ?_⟩, fun h => absurd (of_decide_eq_false h) (by omega)⟩
        · rw [lastPM, if_pos h]
        · rw [lastPM, if_neg (by rw [h]; simp)]
          exact ih k (by omega) (by omega)
      · have hw : IntKind.wrap .i64 (((k + 1 : Nat) : Int) - (c : Int)) = ((k + 1 - c : Nat) : Int) := by rw [wrapI (by omega) (by omega)]; omega
        have hx : decide (signIx r ≥ 0) = false := by unfold signIx; rw [if_neg (by omega), if_neg (by omega)]; decide
        have hsk : lastPM s (k + 1) = lastPM s (k + 1 - c) := by
          have := lastPM_skip (s := s) c (k + 1 - c) fun j g1 g2 => by
            rw [← hg j (by omega)]; exact h5 j (by omega) (by omega)
          rw [show k + 1 - c + c = k + 1 by omega] at this
          exact this
        rw [hx, hw]
        refine ⟨fun _ => ⟨⟨by omega, by omega⟩, by omega, by omega, fun h => Bool.noConfusion h, fun h => ?_⟩, fun h => absurd (of_decide_eq_false h) (by omega)⟩
        rw [hsk]
        exact ih (k + 1 - c) (by omega) (by omega)
theorem lastAny_spec (s : Str) (hs : s.length ≤ 9223372036854775807) : Does Tryd.prog 8 [.s s, .s [43, 45]] [] (.x (.i (lastAny s))) [] := by
  refine Does.go (cfg := cfgLa) cfgLa_ok Tryd.func8 (by kernel_rfl) (by kernel_rfl) (t := (.ite false (.ret (.i (-1 : Int)) []) (.ite (strLen s == (1 : Int)) (.need ((0 : Int) ≤ (0 : Int) ∧ (0 : Int) < strLen s) (.ite (decide (IntKind.wrap .i32 (↑(UInt8.toNat (List.getD s 0 (0 : UInt8))) : Int) ≥ (128 : Int))) (.need ((0 : Int) ≤ (65533 : Int) ∧ (65533 : Int) < (55296 : Int) ∨ (57344 : Int) ≤ (65533 : Int) ∧ (65533 : Int) ≤ (1114111 : Int)) (.ite false (.ret (.i (0 : Int)) []) (.ret (.i (-1 : Int)) []))) (.need ((0 : Int) ≤ IntKind.wrap .i32 (↑(UInt8.toNat (List.getD s 0 (0 : UInt8))) : Int) ∧ IntKind.wrap .i32 (↑(UInt8.toNat (List.getD s 0 (0 : UInt8))) : Int) < (55296 : Int) ∨ (57344 : Int) ≤ IntKind.wrap .i32 (↑(UInt8.toNat (List.getD s 0 (0 : UInt8))) : Int) ∧ IntKind.wrap .i32 (↑(UInt8.toNat (List.getD s 0 (0 : UInt8))) : Int) ≤ (1114111 : Int)) (.ite (decide (signIx (IntKind.wrap .i32 (↑(UInt8.toNat (List.getD s 0 (0 : UInt8))) : Int)) ≥ (0 : Int))) (.ret (.i (0 : Int)) []) (.ret (.i (-1 : Int)) []))))) (.ite (decide (strLen s > (8 : Int))) (.ite true (.stop [.code [1, 1, 1, 0, 1, 0, 1, 1, 0, 0, 1, 0, 0], .inLoop [1, 1, 1, 0, 1, 0, 1, 1, 0, 0, 1, 0, 0], .inBlock 0, .code [1, 1, 1, 0, 1, 0, 1, 1, 0, 1], .code [1, 1, 1, 1]] { n := 96, fr := [(0, .p (.str s)), (1, .p (.str [(43 : UInt8), 45])), (4, .i (0 : Int)), (6, .x (.c (.loc 0 0))), (8, .i (IntKind.wrap .i64 (strLen s - (1 : Int))))], ck := [.cells [.pd (.bool false), .pd (.bool false), .pd (.bool false), .pd (.bool false), .pd (.bool false), .pd (.bool false), .pd (.bool false), .pd (.bool false), .pd (.bool false), .pd (.bool false), .pd (.bool false), .pd (.bool false), .pd (.bool false), .pd (.bool false), .pd (.bool false), .pd (.bool false), .pd (.bool false), .pd (.bool false), .pd (.bool false), .pd (.bool false), .pd (.bool false), .pd (.bool false), .pd (.bool false), .pd (.bool false), .pd (.bool false), .pd (.bool false), .pd (.bool false), .pd (.bool false), .pd (.bool false), .pd (.bool false), .pd (.bool false), .pd (.bool false), .pd (.bool false), .pd (.bool false), .pd (.bool false), .pd (.bool false), .pd (.bool false), .pd (.bool false), .pd (.bool false), .pd (.bool false), .pd (.bool false), .pd (.bool false), .pd (.bool false), .pd (.bool true), .pd (.bool false), .pd (.bool true), .pd (.bool false), .pd (.bool false), .pd (.bool false), .pd (.bool false), .pd (.bool false), .pd (.bool false), .pd (.bool false), .pd (.bool false), .pd (.bool false), .pd (.bool false), .pd (.bool false), .pd (.bool false), .pd (.bool false), .pd (.bool false), .pd (.bool false), .pd (.bool false), .pd (.bool false), .pd (.bool false), .pd (.bool false), .pd (.bool false), .pd (.bool false), .pd (.bool false), .pd (.bool false), .pd (.bool false), .pd (.bool false), .pd (.bool false), .pd (.bool false), .pd (.bool false), .pd (.bool false), .pd (.bool false), .pd (.bool false), .pd (.bool false), .pd (.bool false), .pd (.bool false), .pd (.bool false), .pd (.bool false), .pd (.bool false), .pd (.bool false), .pd (.bool false), .pd (.bool false), .pd (.bool false), .pd (.bool false), .pd (.bool false), .pd (.bool false), .pd (.bool false), .pd (.bool false), .pd (.bool false), .pd (.bool false), .pd (.bool false), .pd (.bool false), .pd (.bool false), .pd (.bool false), .pd (.bool false), .pd (.bool false), .pd (.bool false), .pd (.bool false), .pd (.bool false), .pd (.bool false), .pd (.bool false), .pd (.bool false), .pd (.bool false), .pd (.bool false), .pd (.bool false), .pd (.bool false), .pd (.bool false), .pd (.bool false), .pd (.bool false), .pd (.bool false), .pd (.bool false), .pd (.bool false), .pd (.bool false), .pd (.bool false), .pd (.bool false), .pd (.bool false), .pd (.bool false), .pd (.bool false), .pd (.bool false), .pd (.bool false), .pd (.bool false), .pd (.bool false), .pd (.bool false), .pd (.bool false), .pd (.bool false), .pd (.bool false), .pd (.bool false), .pd (.bool false), .pd (.bool false), .pd (.bool false), .pd (.bool false), .pd (.bool false), .pd (.bool false), .pd (.bool false), .pd (.bool false), .pd (.bool false), .pd (.bool false), .pd (.bool false), .pd (.bool false), .pd (.bool false), .pd (.bool false), .pd (.bool false), .pd (.bool false), .pd (.bool false), .pd (.bool false), .pd (.bool false), .pd (.bool false), .pd (.bool false), .pd (.bool false), .pd (.bool false), .pd (.bool false), .pd (.bool false), .pd (.bool false), .pd (.bool false), .pd (.bool false), .pd (.bool false), .pd (.bool false), .pd (.bool false), .pd (.bool false), .pd (.bool false), .pd (.bool false), .pd (.bool false), .pd (.bool false), .pd (.bool false), .pd (.bool false), .pd (.bool false), .pd (.bool false), .pd (.bool false), .pd (.bool false), .pd (.bool false), .pd (.bool false), .pd (.bool false), .pd (.bool false), .pd (.bool false), .pd (.bool false), .pd (.bool false), .pd (.bool false), .pd (.bool false), .pd (.bool false), .pd (.bool false), .pd (.bool false), .pd (.bool false), .pd (.bool false), .pd (.bool false), .pd (.bool false), .pd (.bool false), .pd (.bool false), .pd (.bool false), .pd (.bool false), .pd (.bool false), .pd (.bool false), .pd (.bool false), .pd (.bool false), .pd (.bool false), .pd (.bool false), .pd (.bool false), .pd (.bool false), .pd (.bool false), .pd (.bool false), .pd (.bool false), .pd (.bool false), .pd (.bool false), .pd (.bool false), .pd (.bool false), .pd (.bool false), .pd (.bool false), .pd (.bool false), .pd (.bool false), .pd (.bool false), .pd (.bool false), .pd (.bool false), .pd (.bool false), .pd (.bool false), .pd (.bool false), .pd (.bool false), .pd (.bool false), .pd (.bool false), .pd (.bool false), .pd (.bool false), .pd (.bool false), .pd (.bool false), .pd (.bool false), .pd (.bool false), .pd (.bool false), .pd (.bool false), .pd (.bool false), .pd (.bool false), .pd (.bool false), .pd (.bool false), .pd (.bool false), .pd (.bool false), .pd (.bool false), .pd (.bool false), .pd (.bool false), .pd (.bool false), .pd (.bool false), .pd (.bool false), .pd (.bool false), .pd (.bool false), .pd (.bool false), .pd (.bool false), .pd (.bool false), .pd (.bool false), .pd (.bool false), .pd (.bool false), .pd (.bool false), .pd (.bool false), .pd (.bool false), .pd (.bool false), .pd (.bool false), .pd (.bool false), .pd (.bool false)] 51] }) (.ite false (.need ((0 : Int) ≤ (0 : Int) ∧ (0 : Int) < strLen [(43 : UInt8), 45]) (.ite false (.stop [.code [1, 1, 1, 1, 0, 1, 0, 1, 1, 0, 1, 0, 0], .inLoop [1, 1, 1, 1, 0, 1, 0, 1, 1, 0, 1, 0, 0], .inBlock 2, .code [1, 1, 1, 1, 0, 1, 0, 1, 1, 1], .code [1, 1, 1, 1, 1]] { n := 96, fr := [(0, .p (.str s)), (1, .p (.str [(43 : UInt8), 45])), (4, .i (0 : Int)), (9, .p (.int .i32 (65533 : Int))), (10, .i (strLen s))], ck := [] }) (.stop [.code [1, 1, 1, 1, 0, 1, 0, 1, 1, 0, 1, 0, 0], .inLoop [1, 1, 1, 1, 0, 1, 0, 1, 1, 0, 1, 0, 0], .inBlock 2, .code [1, 1, 1, 1, 0, 1, 0, 1, 1, 1], .code [1, 1, 1, 1, 1]] { n := 96, fr := [(0, .p (.str s)), (1, .p (.str [(43 : UInt8), 45])), (4, .i (0 : Int)), (9, .p (.int .i32 (IntKind.wrap .i32 (↑(43 : Nat) : Int)))), (10, .i (strLen s))], ck := [] }))) (.stop [.code [1, 1, 1, 1, 1, 0, 1, 0, 0], .inLoop [1, 1, 1, 1, 1, 0, 1, 0, 0], .inBlock 4, .code [1, 1, 1, 1, 1, 1]] { n := 96, fr := [(0, .p (.str s)), (1, .p (.str [(43 : UInt8), 45])), (4, .i (0 : Int)), (13, .i (strLen s))], ck := [] }))) (.ite false (.need ((0 : Int) ≤ (0 : Int) ∧ (0 : Int) < strLen [(43 : UInt8), 45]) (.ite false (.stop [.code [1, 1, 1, 1, 0, 1, 0, 1, 1, 0, 1, 0, 0], .inLoop [1, 1, 1, 1, 0, 1, 0, 1, 1, 0, 1, 0, 0], .inBlock 2, .code [1, 1, 1, 1, 0, 1, 0, 1, 1, 1], .code [1, 1, 1, 1, 1]] { n := 96, fr := [(0, .p (.str s)), (1, .p (.str [(43 : UInt8), 45])), (4, .i (0 : Int)), (9, .p (.int .i32 (65533 : Int))), (10, .i (strLen s))], ck := [] }) (.stop [.code [1, 1, 1, 1, 0, 1, 0, 1, 1, 0, 1, 0, 0], .inLoop [1, 1, 1, 1, 0, 1, 0, 1, 1, 0, 1, 0, 0], .inBlock 2, .code [1, 1, 1, 1, 0, 1, 0, 1, 1, 1], .code [1, 1, 1, 1, 1]] { n := 96, fr := [(0, .p (.str s)), (1, .p (.str [(43 : UInt8), 45])), (4, .i (0 : Int)), (9, .p (.int .i32 (IntKind.wrap .i32 (↑(43 : Nat) : Int)))), (10, .i (strLen s))], ck := [] }))) (.stop [.code [1, 1, 1, 1, 1, 0, 1, 0, 0], .inLoop [1, 1, 1, 1, 1, 0, 1, 0, 0], .inBlock 4, .code [1, 1, 1, 1, 1, 1]] { n := 96, fr := [(0, .p (.str s)), (1, .p (.str [(43 : UInt8), 45])), (4, .i (0 : Int)), (13, .i (strLen s))], ck := [] })))))) (by kernel_rfl) fun Γ => ?_
  have hL : strLen s = (s.length : Int) := rfl
  have long := la_long s Γ hs s.length (Nat.le_refl _)
  have short := la_short s Γ hs s.length s.length (Nat.le_refl _) (Nat.le_refl _)
  have hb := UInt8.toNat_lt (s.getD 0 0)
  have hw1 : 0 < s.length → IntKind.wrap .i64 (strLen s - 1) = (s.length : Int) - 1 := fun h => by rw [wrapI (by omega) (by omega)]; omega
  refine ⟨fun h => Bool.noConfusion h, fun _ => ⟨fun h1 => ?_, fun h1 => ⟨fun h8 => ⟨fun _ => ?_, fun h => Bool.noConfusion h⟩, fun h8 => ⟨fun h => Bool.noConfusion h, fun _ => ?_⟩⟩⟩⟩
  · have h1' : s.length = 1 := by have : strLen s = 1 := by simpa using h1
                                  omega
    have e0 : (0 : Int).toNat = 0 := rfl
    have hv : lastAny s = if isPM (s.getD 0 0) = true then 0 else -1 := by
      unfold lastAny; rw [h1']; rfl
    simp only [e0, wrap32 (n := (((s.getD 0 0).toNat : Nat) : Int)) (by omega) (by omega)]
    refine ⟨⟨by omega, by omega⟩, fun h => ?_, fun h => ?_⟩
    · have h' := of_decide_eq_true h
      have hp := pm_high (c := s.getD 0 0) (by omega)
      refine ⟨by omega, fun h => absurd h (by decide), fun _ => ⟨?_, rfl⟩⟩
      rw [hv, if_neg (by rw [hp]; simp)]
    · have h' := of_decide_eq_false h
      simp only [pm_ix (c := s.getD 0 0) (by omega)]
      refine ⟨by omega, fun h => ⟨?_, rfl⟩, fun h => ⟨?_, rfl⟩⟩
      · rw [hv, if_pos h]
      · rw [hv, if_neg (by rw [h]; simp)]
  · have h8' : 8 < strLen s := of_decide_eq_true h8
    rw [hw1 (by omega)]
    exact long
  · exact short
def eLany : Nat × (List SX → List Chunk → Option (Option Prop × SV × List Chunk)) := (8, fun
  | [.c (.pd (.str s)), .c (.pd (.str [43, 45]))], [] => some (some (s.length ≤ 9223372036854775807), .x (.c (.pd (.int .i64 (lastAny s)))), [])
  | _, _ => none)
theorem eLany_ok (vs : List SX) (ck : List Chunk) (p : Option Prop) (ret : SV) (ck' : List Chunk) (h : eLany.2 vs ck = some (p, ret, ck')) (hp : Holds p) : Does Tryd.prog eLany.1 vs ck ret ck' := by
  unfold eLany at h
  simp only at h
  split at h
  · rename_i s
    simp only [Option.some.injEq, Prod.mk.injEq] at h
    obtain ⟨rfl, rfl, rfl⟩ := h
    exact lastAny_spec s hp
  · simp at h
end Go.Proofs.YtndkapkejmkphaaDoor

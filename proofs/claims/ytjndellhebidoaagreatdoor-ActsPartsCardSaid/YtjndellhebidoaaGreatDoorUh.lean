/- Contracts: an action read. Conditions: texts that are not too long. Contracts: blocks read. Conditions: none. -/
import Derived.Test.YtjndellhebidoaaGreatDoorMr
import Derived.Test.YtjndellhebidoaaGreatDoorMf
import Derived.Test.YtjndellhebidoaaGreatDoorOd
import Derived.Test.YtjndellhebidoaaGreatDoorUd
namespace Go.Proofs.YtjndellhebidoaaGreatDoor
open Go Go.Ev
set_option maxRecDepth 100000
/-! ### the program's -/
noncomputable def cfgAp1 : Cfg := ⟨tys0, [eCut, eEvent, eCutB, nPar1, eName, ePlainA]⟩
theorem cfgAp1_ok : TabOk Tryz.prog cfgAp1.tab := (TabOk.cons eCut_ok (TabOk.cons eEvent_ok (TabOk.cons eCutB_ok (TabOk.cons nPar1_ok (TabOk.cons eName_ok (TabOk.cons ePlainA_ok TabOk.nil))))))
noncomputable def cfgAp0 : Cfg := ⟨tys0, [eCut, eEvent, eCutB, nPar0, eName, ePlainA]⟩
theorem cfgAp0_ok : TabOk Tryz.prog cfgAp0.tab := (TabOk.cons eCut_ok (TabOk.cons eEvent_ok (TabOk.cons eCutB_ok (TabOk.cons nPar0_ok (TabOk.cons eName_ok (TabOk.cons ePlainA_ok TabOk.nil))))))
abbrev nilV : SC := .pd (.v (.slice none 0 0))
theorem ap_raise (s : Str) (h : hasP s raiseS = true) : Does Tryz.prog 25 [.s s] [] (.tup [.agg [.i 2, .pd (.str (cutP s raiseS)), nilV], .b (deedOk ⟨2, cutP s raiseS, []⟩)]) [] := by
  refine Does.go (cfg := cfgAp0) cfgAp0_ok Tryz.func25 (by kernel_rfl) (by kernel_rfl) (t := (.ite (hasP s [(114 : UInt8), 97, 105, 115, 101, 58]) (.ret (.tup [.agg [.i (2 : Int), .pd (.str (cutP s [(114 : UInt8), 97, 105, 115, 101, 58])), .pd (.v (Value.slice none 0 0))], .p (.bool (eventM (cutP s [(114 : UInt8), 97, 105, 115, 101, 58])))]) []) (.ite (hasP s [(115 : UInt8), 101, 110, 100, 58]) (.ret (.tup [.agg [.i (3 : Int), .pd (.str (cutP s [(115 : UInt8), 101, 110, 100, 58])), .pd (.v (Value.slice none 0 0))], .p (.bool (eventM (cutP s [(115 : UInt8), 101, 110, 100, 58])))]) []) (.need (List.length s < 4294967281) (.need (¬readsE (postM s)) (.ret (.tup [.agg [.i (1 : Int), .pd (.str (preM s)), .pd (.v (Value.slice none 0 0))], .p (.bool (hasEq s && nameM (preM s) && Prod.snd (Prod.snd (parseE (postM s))) == (0 : Int) && plainM []))]) [])))))) (by kernel_rfl) fun Γ => ?_
  have hb : deedOk ⟨2, cutP s raiseS, []⟩ = eventM (cutP s raiseS) := by show (eventM _ && true) = _; rw [Bool.and_true]
  rw [hb]
  exact ⟨fun _ => ⟨rfl, rfl⟩, fun h' => absurd h (by rw [show hasP s raiseS = false from h']; simp)⟩
theorem ap_send (s : Str) (h0 : hasP s raiseS = false) (h : hasP s sendS = true) : Does Tryz.prog 25 [.s s] [] (.tup [.agg [.i 3, .pd (.str (cutP s sendS)), nilV], .b (deedOk ⟨3, cutP s sendS, []⟩)]) [] := by
  refine Does.go (cfg := cfgAp0) cfgAp0_ok Tryz.func25 (by kernel_rfl) (by kernel_rfl) (t := (.ite (hasP s [(114 : UInt8), 97, 105, 115, 101, 58]) (.ret (.tup [.agg [.i (2 : Int), .pd (.str (cutP s [(114 : UInt8), 97, 105, 115, 101, 58])), .pd (.v (Value.slice none 0 0))], .p (.bool (eventM (cutP s [(114 : UInt8), 97, 105, 115, 101, 58])))]) []) (.ite (hasP s [(115 : UInt8), 101, 110, 100, 58]) (.ret (.tup [.agg [.i (3 : Int), .pd (.str (cutP s [(115 : UInt8), 101, 110, 100, 58])), .pd (.v (Value.slice none 0 0))], .p (.bool (eventM (cutP s [(115 : UInt8), 101, 110, 100, 58])))]) []) (.need (List.length s < 4294967281) (.need (¬readsE (postM s)) (.ret (.tup [.agg [.i (1 : Int), .pd (.str (preM s)), .pd (.v (Value.slice none 0 0))], .p (.bool (hasEq s && nameM (preM s) && Prod.snd (Prod.snd (parseE (postM s))) == (0 : Int) && plainM []))]) [])))))) (by kernel_rfl) fun Γ => ?_
  have hb : deedOk ⟨3, cutP s sendS, []⟩ = eventM (cutP s sendS) := by show (eventM _ && true) = _; rw [Bool.and_true]
  rw [hb]
  exact ⟨fun h' => absurd (show hasP s raiseS = true from h') (by rw [h0]; simp), fun _ => ⟨fun _ => ⟨rfl, rfl⟩, fun h' => absurd h (by rw [show hasP s sendS = false from h']; simp)⟩⟩
theorem ap_set (s : Str) (hs : s.length < 4294967281) (h0 : hasP s raiseS = false) (h1 : hasP s sendS = false) (h : readsE (postM s)) :
    Does Tryz.prog 25 [.s s] [] (.tup [.agg [.i 1, .pd (.str (preM s)), .own 0], .b (hasEq s && deedOk ⟨1, preM s, (parseE (postM s)).1⟩)]) [.own 88 .cell (parseE (postM s)).1] := by
  refine Does.go (cfg := cfgAp1) cfgAp1_ok Tryz.func25 (by kernel_rfl) (by kernel_rfl) (t := (.ite (hasP s [(114 : UInt8), 97, 105, 115, 101, 58]) (.ret (.tup [.agg [.i (2 : Int), .pd (.str (cutP s [(114 : UInt8), 97, 105, 115, 101, 58])), .pd (.v (Value.slice none 0 0))], .p (.bool (eventM (cutP s [(114 : UInt8), 97, 105, 115, 101, 58])))]) []) (.ite (hasP s [(115 : UInt8), 101, 110, 100, 58]) (.ret (.tup [.agg [.i (3 : Int), .pd (.str (cutP s [(115 : UInt8), 101, 110, 100, 58])), .pd (.v (Value.slice none 0 0))], .p (.bool (eventM (cutP s [(115 : UInt8), 101, 110, 100, 58])))]) []) (.need (List.length s < 4294967281) (.need (readsE (postM s)) (.ret (.tup [.agg [.i (1 : Int), .pd (.str (preM s)), .own 0], .p (.bool (hasEq s && nameM (preM s) && (0 : Int) == (0 : Int) && plainM (Prod.fst (parseE (postM s)))))]) [.own 88 .cell (Prod.fst (parseE (postM s)))])))))) (by kernel_rfl) fun Γ => ?_
  refine ⟨fun h' => absurd (show hasP s raiseS = true from h') (by rw [h0]; simp), fun _ => ⟨fun h' => absurd (show hasP s sendS = true from h') (by rw [h1]; simp), fun _ => ⟨hs, h, ?_, rfl⟩⟩⟩
  have hb : (hasEq s && deedOk ⟨1, preM s, (parseE (postM s)).1⟩) = (hasEq s && nameM (preM s) && (0 : Int) == 0 && plainM (parseE (postM s)).1) := by
    show (hasEq s && (nameM (preM s) && plainM (parseE (postM s)).1)) = _
    rw [show ((0 : Int) == 0) = true from rfl, Bool.and_true, Bool.and_assoc]
  rw [hb]
theorem ap_none (s : Str) (hs : s.length < 4294967281) (h0 : hasP s raiseS = false) (h1 : hasP s sendS = false) (h : ¬ readsE (postM s)) :
    Does Tryz.prog 25 [.s s] [] (.tup [.agg [.i 1, .pd (.str (preM s)), nilV], .b false]) [] := by
  refine Does.go (cfg := cfgAp0) cfgAp0_ok Tryz.func25 (by kernel_rfl) (by kernel_rfl) (t := (.ite (hasP s [(114 : UInt8), 97, 105, 115, 101, 58]) (.ret (.tup [.agg [.i (2 : Int), .pd (.str (cutP s [(114 : UInt8), 97, 105, 115, 101, 58])), .pd (.v (Value.slice none 0 0))], .p (.bool (eventM (cutP s [(114 : UInt8), 97, 105, 115, 101, 58])))]) []) (.ite (hasP s [(115 : UInt8), 101, 110, 100, 58]) (.ret (.tup [.agg [.i (3 : Int), .pd (.str (cutP s [(115 : UInt8), 101, 110, 100, 58])), .pd (.v (Value.slice none 0 0))], .p (.bool (eventM (cutP s [(115 : UInt8), 101, 110, 100, 58])))]) []) (.need (List.length s < 4294967281) (.need (¬readsE (postM s)) (.ret (.tup [.agg [.i (1 : Int), .pd (.str (preM s)), .pd (.v (Value.slice none 0 0))], .p (.bool (hasEq s && nameM (preM s) && Prod.snd (Prod.snd (parseE (postM s))) == (0 : Int) && plainM []))]) [])))))) (by kernel_rfl) fun Γ => ?_
  refine ⟨fun h' => absurd (show hasP s raiseS = true from h') (by rw [h0]; simp), fun _ => ⟨fun h' => absurd (show hasP s sendS = true from h') (by rw [h1]; simp), fun _ => ⟨hs, h, ?_, rfl⟩⟩⟩
  have h9 : ¬ (parseE (postM s)).2.2 = 0 := h
  have : ((parseE (postM s)).2.2 == 0) = false := by simpa using h9
  rw [this, Bool.and_false, Bool.false_and]
noncomputable def nAp2 : Nat × (List SX → List Chunk → Option (Option Prop × SV × List Chunk)) := (25, fun
  | [.c (.pd (.str s))], [] => some (some (hasP s raiseS = true), .tup [.agg [.pd (.int .i64 2), .pd (.str (cutP s raiseS)), .pd (.v (.slice none 0 0))], .c (.pd (.bool (deedOk ⟨2, cutP s raiseS, []⟩)))], [])
  | _, _ => none)
theorem nAp2_ok (vs : List SX) (ck : List Chunk) (p : Option Prop) (ret : SV) (ck' : List Chunk) (h : nAp2.2 vs ck = some (p, ret, ck')) (hp : Holds p) : Does Tryz.prog nAp2.1 vs ck ret ck' := by
  unfold nAp2 at h
  simp only at h
  split at h
  · rename_i s
    simp only [Option.some.injEq, Prod.mk.injEq] at h
    obtain ⟨rfl, rfl, rfl⟩ := h
    exact ap_raise s hp
  · simp at h
noncomputable def nAp3 : Nat × (List SX → List Chunk → Option (Option Prop × SV × List Chunk)) := (25, fun
  | [.c (.pd (.str s))], [] => some (some (hasP s raiseS = false ∧ hasP s sendS = true), .tup [.agg [.pd (.int .i64 3), .pd (.str (cutP s sendS)), .pd (.v (.slice none 0 0))], .c (.pd (.bool (deedOk ⟨3, cutP s sendS, []⟩)))], [])
  | _, _ => none)
theorem nAp3_ok (vs : List SX) (ck : List Chunk) (p : Option Prop) (ret : SV) (ck' : List Chunk) (h : nAp3.2 vs ck = some (p, ret, ck')) (hp : Holds p) : Does Tryz.prog nAp3.1 vs ck ret ck' := by
  unfold nAp3 at h
  simp only at h
  split at h
  · rename_i s
    simp only [Option.some.injEq, Prod.mk.injEq] at h
    obtain ⟨rfl, rfl, rfl⟩ := h
    exact ap_send s hp.1 hp.2
  · simp at h
noncomputable def nAp1 : Nat × (List SX → List Chunk → Option (Option Prop × SV × List Chunk)) := (25, fun
  | [.c (.pd (.str s))], [] => some (some (s.length < 4294967281 ∧ hasP s raiseS = false ∧ hasP s sendS = false ∧ readsE (postM s)), .tup [.agg [.pd (.int .i64 1), .pd (.str (preM s)), .own 0], .c (.pd (.bool (hasEq s && deedOk ⟨1, preM s, (parseE (postM s)).1⟩)))], [.own 88 .cell (parseE (postM s)).1])
  | _, _ => none)
theorem nAp1_ok (vs : List SX) (ck : List Chunk) (p : Option Prop) (ret : SV) (ck' : List Chunk) (h : nAp1.2 vs ck = some (p, ret, ck')) (hp : Holds p) : Does Tryz.prog nAp1.1 vs ck ret ck' := by
  unfold nAp1 at h
  simp only at h
  split at h
  · rename_i s
    simp only [Option.some.injEq, Prod.mk.injEq] at h
    obtain ⟨rfl, rfl, rfl⟩ := h
    exact ap_set s hp.1 hp.2.1 hp.2.2.1 hp.2.2.2
  · simp at h
noncomputable def nAp0 : Nat × (List SX → List Chunk → Option (Option Prop × SV × List Chunk)) := (25, fun
  | [.c (.pd (.str s))], [] => some (some (s.length < 4294967281 ∧ hasP s raiseS = false ∧ hasP s sendS = false ∧ ¬ readsE (postM s)), .tup [.agg [.pd (.int .i64 1), .pd (.str (preM s)), .pd (.v (.slice none 0 0))], .c (.pd (.bool false))], [])
  | _, _ => none)
theorem nAp0_ok (vs : List SX) (ck : List Chunk) (p : Option Prop) (ret : SV) (ck' : List Chunk) (h : nAp0.2 vs ck = some (p, ret, ck')) (hp : Holds p) : Does Tryz.prog nAp0.1 vs ck ret ck' := by
  unfold nAp0 at h
  simp only at h
  split at h
  · rename_i s
    simp only [Option.some.injEq, Prod.mk.injEq] at h
    obtain ⟨rfl, rfl, rfl⟩ := h
    exact ap_none s hp.1 hp.2.1 hp.2.2.1 hp.2.2.2
  · simp at h
/-! ### the document's -/
end Go.Proofs.YtjndellhebidoaaGreatDoor
namespace Go.Proofs.YtjndellhebidoaaGreatDoor
open Go Go.Ev
set_option maxRecDepth 100000
open Classical in
noncomputable def readD (s : Str) : Option Deed :=
  if hasP s raiseS = true then (if deedOk ⟨2, cutP s raiseS, []⟩ = true then some ⟨2, cutP s raiseS, []⟩ else none)
  else if hasP s sendS = true then (if deedOk ⟨3, cutP s sendS, []⟩ = true then some ⟨3, cutP s sendS, []⟩ else none)
  else if hasEq s = true ∧ readsE (postM s) ∧ deedOk ⟨1, preM s, (parseE (postM s)).1⟩ = true then some ⟨1, preM s, (parseE (postM s)).1⟩ else none
noncomputable def readAll : List Str → Option (List Deed)
  | [] => some []
  | p :: r => match readD p, readAll r with
    | some d, some l => some (d :: l)
    | _, _ => none
noncomputable def blockP (s : Str) : List Deed × Int :=
  if strLen s > 6000 then ([], 4) else if (partsGo [] s).length > 8 then ([], 4) else match readAll (partsGo [] s) with
    | some l => (l, 0)
    | none => ([], 1)
def readsB (s : Str) : Prop := (blockP s).2 = 0
theorem readD_bad {s : Str} (c2 : hasP s raiseS = false) (c3 : hasP s sendS = false) (h : ¬ (hasEq s = true ∧ readsE (postM s) ∧ deedOk ⟨1, preM s, (parseE (postM s)).1⟩ = true)) : readD s = none := by
  rw [readD, if_neg (by rw [c2]; simp), if_neg (by rw [c3]; simp), if_neg h]
theorem readD_set {s : Str} (c2 : hasP s raiseS = false) (c3 : hasP s sendS = false) (h1 : hasEq s = true) (h2 : readsE (postM s)) (h3 : deedOk ⟨1, preM s, (parseE (postM s)).1⟩ = true) : readD s = some ⟨1, preM s, (parseE (postM s)).1⟩ := by
  rw [readD, if_neg (by rw [c2]; simp), if_neg (by rw [c3]; simp), if_pos ⟨h1, h2, h3⟩]
def BQ (s : Str) : Out := fun v ck => (readsB s → v = .tup [.c (.own 0), .i 0] ∧ ck = [.own 60 .deed (blockP s).1]) ∧ (¬ readsB s → v = .tup [.c nilV, .i (blockP s).2] ∧ ck = [])
theorem blockP_val {s : Str} (h1 : ¬ strLen s > 6000) (h2 : ¬ (partsGo [] s).length > 8) : blockP s = match readAll (partsGo [] s) with | some l => (l, 0) | none => ([], 1) := by
  rw [blockP, if_neg h1, if_neg h2]
theorem reads_iff {s : Str} (h1 : ¬ strLen s > 6000) (h2 : ¬ (partsGo [] s).length > 8) : readsB s ↔ (readAll (partsGo [] s)).isSome = true := by
  unfold readsB
  rw [blockP_val h1 h2]
  cases readAll (partsGo [] s) <;> simp
theorem bq_some {s : Str} {ps : List Str} {l : List Deed} (hv : blockP s = match readAll ps with | some l => (l, 0) | none => ([], 1)) (h : readAll ps = some l) : BQ s (.tup [.c (.own 0), .i 0]) [.own 60 .deed l] := by
  rw [h] at hv
  refine ⟨fun _ => ⟨rfl, by rw [hv]⟩, fun hn => absurd ?_ hn⟩
  show (blockP s).2 = 0; rw [hv]
theorem bq_none {s : Str} {ps : List Str} (hv : blockP s = match readAll ps with | some l => (l, 0) | none => ([], 1)) (h : readAll ps = none) : BQ s (.tup [.c nilV, .i 1]) [] := by
  rw [h] at hv
  refine ⟨fun hn => ?_, fun _ => ⟨by rw [hv], rfl⟩⟩
  have : (blockP s).2 = 0 := hn
  rw [hv] at this; exact absurd this (by decide)
theorem bq_long {s : Str} (h : strLen s > 6000 ∨ (partsGo [] s).length > 8) : BQ s (.tup [.c nilV, .i 4]) [] := by
  have hv : blockP s = ([], 4) := by
    unfold blockP
    by_cases h1 : strLen s > 6000
    · rw [if_pos h1]
    · rw [if_neg h1, if_pos (h.resolve_left h1)]
  refine ⟨fun hn => ?_, fun _ => ⟨by rw [hv], rfl⟩⟩
  have : (blockP s).2 = 0 := hn
  rw [hv] at this; exact absurd this (by decide)
theorem parts_mem : ∀ (s cur : Str), ∀ p ∈ partsGo cur s, p.length ≤ cur.length + s.length
  | [], cur, p, h => by simp [partsGo] at h; subst h; simp
  | c :: r, cur, p, h => by
    rw [partsGo] at h
    cases hc : c == 59
    · rw [hc, cond_false] at h
      have := parts_mem r (cur ++ [c]) p h
      simp only [List.length_append, List.length_cons, List.length_nil] at this ⊢; omega
    · rw [hc, cond_true] at h
      rcases List.mem_cons.1 h with rfl | h
      · simp
      · have := parts_mem r [] p h
        simp only [List.length_nil, List.length_cons] at this ⊢; omega
/-! ### the program's -/
def cfgPs : Cfg := ⟨tys0, [eSplit]⟩
theorem cfgPs_ok : TabOk Tryz.prog cfgPs.tab := (TabOk.cons eSplit_ok TabOk.nil)
noncomputable def cfgP2 : Cfg := ⟨tys0, [nAp2]⟩
theorem cfgP2_ok : TabOk Tryz.prog cfgP2.tab := (TabOk.cons nAp2_ok TabOk.nil)
noncomputable def cfgP3 : Cfg := ⟨tys0, [nAp3]⟩
theorem cfgP3_ok : TabOk Tryz.prog cfgP3.tab := (TabOk.cons nAp3_ok TabOk.nil)
noncomputable def cfgP1 : Cfg := ⟨tys0, [nAp1]⟩
theorem cfgP1_ok : TabOk Tryz.prog cfgP1.tab := (TabOk.cons nAp1_ok TabOk.nil)
noncomputable def cfgP0 : Cfg := ⟨tys0, [nAp0]⟩
theorem cfgP0_ok : TabOk Tryz.prog cfgP0.tab := (TabOk.cons nAp0_ok TabOk.nil)

theorem pp_loop (s : Str) (Γ : Ctx) (hs : ¬ strLen s > 6000) (h8 : (partsGo [] s).length ≤ 8) : ∀ (n k : Nat) (out : List Deed), (partsGo [] s).length - k ≤ n → k ≤ (partsGo [] s).length → out.length = k → readAll (partsGo [] s) = (readAll ((partsGo [] s).drop k)).map (out ++ ·) →
    J Tryz.prog 9 (bodyOf Tryz.f9) Γ (BQ s) [.code [1, 1, 1, 1, 1, 0, 1, 0, 0], .inLoop [1, 1, 1, 1, 1, 0, 1, 0, 0], .inBlock 0, .code [1, 1, 1, 1, 1, 1]] ({ n := 37, fr := [(2, .p (.v (Value.slice none 0 0))), (3, .i (0 : Int)), (5, .x (.c (.own 1))), (18, .x (.c (.own 0))), (19, .i (((partsGo [] s).length : Int))), (20, .i (k))], ck := [.own 9 .str (partsGo [] s), .own 60 .deed out] }) := by
  have hpl : ∀ p ∈ partsGo [] s, p.length ≤ 6000 := fun p hp => by
    have := parts_mem s [] p hp
    have hL : strLen s = (s.length : Int) := rfl
    simp only [List.length_nil] at this; omega
  have hq : readsB s ↔ (readAll (partsGo [] s)).isSome = true := reads_iff hs (by omega)
  have hv := blockP_val hs (show ¬ (partsGo [] s).length > 8 by omega)
  generalize partsGo [] s = ps at *
  intro n
  induction n with
  | zero => ?_
  | succ n ih => ?_
  all_goals
    intro k out hn hk ho hall
    by_cases hk' : k < ps.length
    · have hget := ETy.getElem?_get (t := .str) hk'
      have hp1 := hpl _ (List.mem_of_getElem? hget)
      have hdk : readAll (ps.drop k) = (match readD (ETy.get .str ps k), readAll (ps.drop (k + 1)) with | some d, some l => some (d :: l) | _, _ => none) := by rw [drop_get (t := .str) hk']; rfl
      have hno : readD (ETy.get .str ps k) = none → BQ s (.tup [.c nilV, .i 1]) [] := fun hx => by
        have h1 : readAll ps = none := by rw [hall, hdk, hx]; rfl
        exact bq_none hv h1
      have hroom : ∀ d : Deed, room (out ++ [d]).length 48 := fun d => by rw [List.length_append]; unfold room maxLen; simp only [List.length_cons, List.length_nil]; omega
      have next : ∀ d, readD (ETy.get .str ps k) = some d → J Tryz.prog 9 (bodyOf Tryz.f9) Γ (BQ s) [.code [1, 1, 1, 1, 1, 0, 1, 0, 0], .inLoop [1, 1, 1, 1, 1, 0, 1, 0, 0], .inBlock 0, .code [1, 1, 1, 1, 1, 1]] ({ n := 37, fr := [(2, .p (.v (Value.slice none 0 0))), (3, .i (0 : Int)), (5, .x (.c (.own 1))), (18, .x (.c (.own 0))), (19, .i ((ps.length : Int))), (20, .i (((k + 1 : Nat) : Int)))], ck := [.own 9 .str ps, .own 60 .deed (out ++ [d])] }) := fun d hd => by
        first
        | (exfalso; omega)
        | exact ih (k + 1) (out ++ [d]) (by omega) (by omega) (by simp; omega) (by
            rw [hall, hdk, hd]
            cases readAll (ps.drop (k + 1)) <;> simp)
      have hw : IntKind.wrap .i64 ((k : Int) + 1) = ((k + 1 : Nat) : Int) := wrapK (by omega)
      have hlt : decide ((k : Int) < (ps.length : Int)) = true := decide_eq_true (by omega)
      cases c2 : hasP (ETy.get .str ps k) raiseS
      · cases c3 : hasP (ETy.get .str ps k) sendS
        · by_cases c1 : readsE (postM (ETy.get .str ps k))
          · refine J.go (cfg := cfgP1) cfgP1_ok Tryz.func9 1000 (t := (.ite (decide ((↑k : Int) < (↑(List.length ps) : Int))) (.need ((0 : Int) ≤ (↑k : Int) ∧ (↑k : Int) < (↑(List.length ps) : Int)) (.need (k < List.length ps) (.need (List.length (ETy.get .str ps k) < 4294967281 ∧ hasP (ETy.get .str ps k) raiseS = false ∧ hasP (ETy.get .str ps k) sendS = false ∧ readsE (postM (ETy.get .str ps k))) (.ite (!(hasEq (ETy.get .str ps k) && deedOk { kind := (1 : Int), name := preM (ETy.get .str ps k), expr := Prod.fst (parseE (postM (ETy.get .str ps k))) })) (.ret (.tup [.p (.v (Value.slice none 0 0)), .i (1 : Int)]) []) (.need (room (List.length (out ++ [{ kind := (1 : Int), name := preM (ETy.get .str ps k), expr := Prod.fst (parseE (postM (ETy.get .str ps k))) }])) 48) (.stop [.code [1, 1, 1, 1, 1, 0, 1, 0, 0], .inLoop [1, 1, 1, 1, 1, 0, 1, 0, 0], .inBlock 0, .code [1, 1, 1, 1, 1, 1]] { n := 37, fr := [(2, .p (.v (Value.slice none 0 0))), (3, .i (0 : Int)), (5, .x (.c (.own 1))), (18, .x (.c (.own 0))), (19, .i (↑(List.length ps) : Int)), (20, .i (IntKind.wrap .i64 ((↑k : Int) + (1 : Int))))], ck := [.own 9 .str ps, .own 60 .deed (out ++ [{ kind := (1 : Int), name := preM (ETy.get .str ps k), expr := Prod.fst (parseE (postM (ETy.get .str ps k))) }])] })))))) (.ret (.tup [.c (.own 0), .i (0 : Int)]) [.own 60 .deed out]))) (by kernel_rfl) ?_
            rw [hlt, hw]
            generalize ETy.get .str ps k = p at *
            refine ⟨fun _ => ⟨by omega, hk', ⟨by omega, c2, c3, c1⟩, fun hb => hno ?_, fun hb => ⟨hroom _, next _ ?_⟩⟩, fun x => Bool.noConfusion x⟩
            · exact readD_bad c2 c3 (fun ⟨g1, g2, g3⟩ => by
                have hb' := nt hb
                rw [g1, g3] at hb'; cases hb')
            · have hb' := nf hb
              rw [Bool.and_eq_true] at hb'
              exact readD_set c2 c3 hb'.1 c1 hb'.2
          · refine J.go (cfg := cfgP0) cfgP0_ok Tryz.func9 1000 (t := (.ite (decide ((↑k : Int) < (↑(List.length ps) : Int))) (.need ((0 : Int) ≤ (↑k : Int) ∧ (↑k : Int) < (↑(List.length ps) : Int)) (.need (k < List.length ps) (.need (List.length (ETy.get .str ps k) < 4294967281 ∧ hasP (ETy.get .str ps k) raiseS = false ∧ hasP (ETy.get .str ps k) sendS = false ∧ ¬readsE (postM (ETy.get .str ps k))) (.ite true (.ret (.tup [.p (.v (Value.slice none 0 0)), .i (1 : Int)]) []) (.need (room (List.length (out ++ [{ kind := (1 : Int), name := preM (ETy.get .str ps k), expr := [] }])) 48) (.stop [.code [1, 1, 1, 1, 1, 0, 1, 0, 0], .inLoop [1, 1, 1, 1, 1, 0, 1, 0, 0], .inBlock 0, .code [1, 1, 1, 1, 1, 1]] { n := 37, fr := [(2, .p (.v (Value.slice none 0 0))), (3, .i (0 : Int)), (5, .x (.c (.own 1))), (18, .x (.c (.own 0))), (19, .i (↑(List.length ps) : Int)), (20, .i (IntKind.wrap .i64 ((↑k : Int) + (1 : Int))))], ck := [.own 9 .str ps, .own 60 .deed (out ++ [{ kind := (1 : Int), name := preM (ETy.get .str ps k), expr := [] }])] })))))) (.ret (.tup [.c (.own 0), .i (0 : Int)]) [.own 60 .deed out]))) (by kernel_rfl) ?_
            rw [hlt]
            generalize ETy.get .str ps k = p at *
            refine ⟨fun _ => ⟨by omega, hk', ⟨by omega, c2, c3, c1⟩, fun _ => hno ?_, fun x => Bool.noConfusion x⟩, fun x => Bool.noConfusion x⟩
            exact readD_bad c2 c3 (fun ⟨g1, g2, g3⟩ => c1 (g2))
        · refine J.go (cfg := cfgP3) cfgP3_ok Tryz.func9 1000 (t := (.ite (decide ((↑k : Int) < (↑(List.length ps) : Int))) (.need ((0 : Int) ≤ (↑k : Int) ∧ (↑k : Int) < (↑(List.length ps) : Int)) (.need (k < List.length ps) (.need (hasP (ETy.get .str ps k) raiseS = false ∧ hasP (ETy.get .str ps k) sendS = true) (.ite (!deedOk { kind := (3 : Int), name := cutP (ETy.get .str ps k) sendS, expr := [] }) (.ret (.tup [.p (.v (Value.slice none 0 0)), .i (1 : Int)]) []) (.need (room (List.length (out ++ [{ kind := (3 : Int), name := cutP (ETy.get .str ps k) sendS, expr := [] }])) 48) (.stop [.code [1, 1, 1, 1, 1, 0, 1, 0, 0], .inLoop [1, 1, 1, 1, 1, 0, 1, 0, 0], .inBlock 0, .code [1, 1, 1, 1, 1, 1]] { n := 37, fr := [(2, .p (.v (Value.slice none 0 0))), (3, .i (0 : Int)), (5, .x (.c (.own 1))), (18, .x (.c (.own 0))), (19, .i (↑(List.length ps) : Int)), (20, .i (IntKind.wrap .i64 ((↑k : Int) + (1 : Int))))], ck := [.own 9 .str ps, .own 60 .deed (out ++ [{ kind := (3 : Int), name := cutP (ETy.get .str ps k) sendS, expr := [] }])] })))))) (.ret (.tup [.c (.own 0), .i (0 : Int)]) [.own 60 .deed out]))) (by kernel_rfl) ?_
          rw [hlt, hw]
          generalize ETy.get .str ps k = p at *
          refine ⟨fun _ => ⟨by omega, hk', ⟨c2, c3⟩, fun hb => hno ?_, fun hb => ⟨hroom _, next _ ?_⟩⟩, fun x => Bool.noConfusion x⟩
          · have hb' := nt hb
            simp only [readD, c2, c3, hb', Bool.false_eq_true, if_false, if_true]
          · have hb' := nf hb
            simp only [readD, c2, c3, hb', Bool.false_eq_true, if_false, if_true]
      · refine J.go (cfg := cfgP2) cfgP2_ok Tryz.func9 1000 (t := (.ite (decide ((↑k : Int) < (↑(List.length ps) : Int))) (.need ((0 : Int) ≤ (↑k : Int) ∧ (↑k : Int) < (↑(List.length ps) : Int)) (.need (k < List.length ps) (.need (hasP (ETy.get .str ps k) raiseS = true) (.ite (!deedOk { kind := (2 : Int), name := cutP (ETy.get .str ps k) raiseS, expr := [] }) (.ret (.tup [.p (.v (Value.slice none 0 0)), .i (1 : Int)]) []) (.need (room (List.length (out ++ [{ kind := (2 : Int), name := cutP (ETy.get .str ps k) raiseS, expr := [] }])) 48) (.stop [.code [1, 1, 1, 1, 1, 0, 1, 0, 0], .inLoop [1, 1, 1, 1, 1, 0, 1, 0, 0], .inBlock 0, .code [1, 1, 1, 1, 1, 1]] { n := 37, fr := [(2, .p (.v (Value.slice none 0 0))), (3, .i (0 : Int)), (5, .x (.c (.own 1))), (18, .x (.c (.own 0))), (19, .i (↑(List.length ps) : Int)), (20, .i (IntKind.wrap .i64 ((↑k : Int) + (1 : Int))))], ck := [.own 9 .str ps, .own 60 .deed (out ++ [{ kind := (2 : Int), name := cutP (ETy.get .str ps k) raiseS, expr := [] }])] })))))) (.ret (.tup [.c (.own 0), .i (0 : Int)]) [.own 60 .deed out]))) (by kernel_rfl) ?_
        rw [hlt, hw]
        generalize ETy.get .str ps k = p at *
        refine ⟨fun _ => ⟨by omega, hk', c2, fun hb => hno ?_, fun hb => ⟨hroom _, next _ ?_⟩⟩, fun x => Bool.noConfusion x⟩
        · have hb' := nt hb
          simp only [readD, c2, hb', Bool.false_eq_true, if_false, if_true]
        · have hb' := nf hb
          simp only [readD, c2, hb', Bool.false_eq_true, if_false, if_true]
    · refine J.go (cfg := cfgP2) cfgP2_ok Tryz.func9 1000 (t := (.ite (decide ((↑k : Int) < (↑(List.length ps) : Int))) (.need ((0 : Int) ≤ (↑k : Int) ∧ (↑k : Int) < (↑(List.length ps) : Int)) (.need (k < List.length ps) (.need (hasP (ETy.get .str ps k) raiseS = true) (.ite (!deedOk { kind := (2 : Int), name := cutP (ETy.get .str ps k) raiseS, expr := [] }) (.ret (.tup [.p (.v (Value.slice none 0 0)), .i (1 : Int)]) []) (.need (room (List.length (out ++ [{ kind := (2 : Int), name := cutP (ETy.get .str ps k) raiseS, expr := [] }])) 48) (.stop [.code [1, 1, 1, 1, 1, 0, 1, 0, 0], .inLoop [1, 1, 1, 1, 1, 0, 1, 0, 0], .inBlock 0, .code [1, 1, 1, 1, 1, 1]] { n := 37, fr := [(2, .p (.v (Value.slice none 0 0))), (3, .i (0 : Int)), (5, .x (.c (.own 1))), (18, .x (.c (.own 0))), (19, .i (↑(List.length ps) : Int)), (20, .i (IntKind.wrap .i64 ((↑k : Int) + (1 : Int))))], ck := [.own 9 .str ps, .own 60 .deed (out ++ [{ kind := (2 : Int), name := cutP (ETy.get .str ps k) raiseS, expr := [] }])] })))))) (.ret (.tup [.c (.own 0), .i (0 : Int)]) [.own 60 .deed out]))) (by kernel_rfl) ?_
      rw [show decide ((k : Int) < (ps.length : Int)) = false from decide_eq_false (by omega)]
      refine ⟨fun x => Bool.noConfusion x, fun _ => ?_⟩
      rw [drop_end (l := ps) (by omega)] at hall
      exact bq_some hv (by rw [hall]; simp [readAll])
theorem bparse_q (s : Str) (Γ : Ctx) : J Tryz.prog 9 (bodyOf Tryz.f9) Γ (BQ s) [.code []] (initST Tryz.f9.ntmps [.s s] []) := by
  refine J.go (cfg := cfgPs) cfgPs_ok Tryz.func9 1000 (t := (.ite (decide (strLen s > (6000 : Int))) (.ret (.tup [.p (.v (Value.slice none 0 0)), .i (4 : Int)]) []) (.need (List.length s < 4294967281) (.ite (decide ((↑(List.length (partsGo [] s)) : Int) > (8 : Int))) (.ret (.tup [.p (.v (Value.slice none 0 0)), .i (4 : Int)]) []) (.stop [.code [1, 1, 1, 1, 1, 0, 1, 0, 0], .inLoop [1, 1, 1, 1, 1, 0, 1, 0, 0], .inBlock 0, .code [1, 1, 1, 1, 1, 1]] { n := 37, fr := [(2, .p (.v (Value.slice none 0 0))), (3, .i (0 : Int)), (5, .p (.v (Value.slice none 0 0))), (18, .x (.c (.own 0))), (19, .i (↑(List.length (partsGo [] s)) : Int)), (20, .i (0 : Int))], ck := [.own 9 .str (partsGo [] s)] }))))) (by kernel_rfl) ?_
  have hL : strLen s = (s.length : Int) := rfl
  refine ⟨fun h => bq_long (.inl (of_decide_eq_true h)), fun h => ?_⟩
  have hs : ¬ strLen s > 6000 := of_decide_eq_false h
  refine ⟨by omega, fun h8 => bq_long (.inr (by have := of_decide_eq_true h8; omega)), fun h8 => ?_⟩
  have h8' : (partsGo [] s).length ≤ 8 := by have := of_decide_eq_false h8; omega
  refine J.nilOwn 5 60 .deed rfl (by kernel_rfl) ?_
  exact pp_loop s Γ hs h8' (partsGo [] s).length 0 [] (by omega) (by omega) rfl (by simp)
theorem bparse_ok (s : Str) (h : readsB s) : Does Tryz.prog 9 [.s s] [] (.tup [.c (.own 0), .i 0]) [.own 60 .deed (blockP s).1] :=
  Does.of Tryz.func9 (by kernel_rfl) (by kernel_rfl) fun Γ => J.mono (fun v ck hq => hq.1 h) (bparse_q s Γ)
end Go.Proofs.YtjndellhebidoaaGreatDoor

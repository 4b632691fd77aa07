/- Contracts: an action read. Conditions: texts that are not too long. -/
import Derived.Test.YtjndellhebidoaaGreatDoorMp
import Derived.Test.YtjndellhebidoaaGreatDoorMs
namespace Go.Proofs.YtjndellhebidoaaGreatDoor
open Go Go.Ev
set_option maxRecDepth 100000
/-! ### the program's -/
noncomputable def cfgAp1 : Cfg := ⟨tys0, [eCut, eEvent, eCutB, nPar1, eName, ePlainA]⟩
theorem cfgAp1_ok : TabOk Tryz.prog cfgAp1.tab := (TabOk.cons eCut_ok (TabOk.cons eEvent_ok (TabOk.cons eCutB_ok (TabOk.cons nPar1_ok (TabOk.cons eName_ok (TabOk.cons ePlainA_ok TabOk.nil))))))
noncomputable def cfgAp0 : Cfg := ⟨tys0, [eCut, eEvent, eCutB, nPar0, eName, ePlainA]⟩
theorem cfgAp0_ok : TabOk Tryz.prog cfgAp0.tab := (TabOk.cons eCut_ok (TabOk.cons eEvent_ok (TabOk.cons eCutB_ok (TabOk.cons nPar0_ok (TabOk.cons eName_ok (TabOk.cons ePlainA_ok TabOk.nil))))))
abbrev nilV : SC := .pd (.v (.slice none 0 0))
theorem ap_raise (s : Str) (h : hasP s raiseS = true) : Does Tryz.prog 25 [.s s] [] (.tup [.agg [.i 2, .pd (.str (cutP s raiseS)), nilV], .b (deedOk ⟨2, cutP s raiseS, []⟩)]) [] := by
  refine Does.go (cfg := cfgAp0) cfgAp0_ok Tryz.func25 (by kernel_rfl) (by kernel_rfl) (t := (.ite (hasP s [(114 : UInt8), 97, 105, 115, 101, 58]) (.ret (.tup [.agg [.i (2 : Int), .pd (.str (cutP s [(114 : UInt8), 97, 105, 115, 101, 58])), .pd (.v (Value.slice none 0 0))], .p (.bool (eventM (cutP s [(114 : UInt8), 97, 105, 115, 101, 58])))]) []) (.ite (hasP s [(115 : UInt8), 101, 110, 100, 58]) (.ret (.tup [.agg [.i (3 : Int), .pd (.str (cutP s [(115 : UInt8), 101, 110, 100, 58])), .pd (.v (Value.slice none 0 0))], .p (.bool (eventM (cutP s [(115 : UInt8), 101, 110, 100, 58])))]) []) (.need (List.length s < 4294967281) (.need (¬readsE (postM s)) (.ret (.tup [.agg [.i (1 : Int), .pd (.str (preM s)), .pd (.v (Value.slice none 0 0))], .p (.bool (hasEq s && nameM (preM s) && Prod.snd (Prod.snd (parseE (postM s))) == (0 : Int) && plainM []))]) [])))))) (by kernel_rfl) fun Γ => ?_
  have hb : deedOk ⟨2, cutP s raiseS, []⟩ = eventM (cutP s raiseS) := by show (eventM _ && true) = _; rw [Bool.and_true]
  rw [hb]
  exact ⟨fun _ => ⟨rfl, rfl⟩, fun h' => absurd h (by rw [show hasP s raiseS = false from h']; simp)⟩
theorem ap_send (s : Str) (h0 : hasP s raiseS = false) (h : hasP s sendS = true) : Does Tryz.prog 25 [.s s] [] (.tup [.agg [.i 3, .pd (.str (cutP s sendS)), nilV], .b (deedOk ⟨3, cutP s sendS, []⟩)]) [] := by
  refine Does.go (cfg := cfgAp0) cfgAp0_ok Tryz.func25 (by kernel_rfl) (by kernel_rfl) (t := (.ite (hasP s [(114 : UInt8), 97, 105, 115, 101, 58]) (.ret (.tup [.agg [.i (2 : Int), .pd (.str (cutP s [(114 : UInt8), 97, 105, 115, 101, 58])), .pd (.v (Value.slice none 0 0))], .p (.bool (eventM (cutP s [(114 : UInt8), 97, 105, 115, 101, 58])))]) []) (.ite (hasP s [(115 : UInt8), 101, 110, 100, 58]) (.ret (.tup [.agg [.i (3 : Int), .pd (.str (cutP s [(115 : UInt8), 101, 110, 100, 58])), .pd (.v (Value.slice none 0 0))], .p (.bool (eventM (cutP s [(115 : UInt8), 101, 110, 100, 58])))]) []) (.need (List.length s < 4294967281) (.need (¬readsE (postM s)) (.ret (.tup [.agg [.i (1 : Int), .pd (.str (preM s)), .pd (.v (Value.slice none 0 0))], .p (.bool (hasEq s && nameM (preM s) && Prod.snd (Prod.snd (parseE (postM s))) == (0 : Int) && plainM []))]) [])))))) (by kernel_rfl) fun Γ => ?_
  have hb : deedOk ⟨3, cutP s sendS, []⟩ = eventM (cutP s sendS) := by show (eventM _ && true) = _; rw [Bool.and_true]
  rw [hb]
  exact ⟨fun h' => absurd (show hasP s raiseS = true from h') (by rw [h0]; simp), fun _ => ⟨fun _ => ⟨rfl, rfl⟩, fun h' => absurd h (by rw [show hasP s sendS = false from h']; simp)⟩⟩
theorem ap_set (s : Str) (hs : s.length < 4294967281) (h0 : hasP s raiseS = false) (h1 : hasP s sendS = false) (h : readsE (postM s)) :
    Does Tryz.prog 25 [.s s] [] (.tup [.agg [.i 1, .pd (.str (preM s)), .own 0], .b (hasEq s && deedOk ⟨1, preM s, (parseE (postM s)).1⟩)]) [.own 88 .cell (parseE (postM s)).1] := by
  refine Does.go (cfg := cfgAp1) cfgAp1_ok Tryz.func25 (by kernel_rfl) (by kernel_rfl) (t := (.ite (hasP s [(114 : UInt8), 97, 105, 115, 101, 58]) (.ret (.tup [.agg [.i (2 : Int), .pd (.str (cutP s [(114 : UInt8), 97, 105, 115, 101, 58])), .pd (.v (Value.slice none 0 0))], .p (.bool (eventM (cutP s [(114 : UInt8), 97, 105, 115, 101, 58])))]) []) (.ite (hasP s [(115 : UInt8), 101, 110, 100, 58]) (.ret (.tup [.agg [.i (3 : Int), .pd (.str (cutP s [(115 : UInt8), 101, 110, 100, 58])), .pd (.v (Value.slice none 0 0))], .p (.bool (eventM (cutP s [(115 : UInt8), 101, 110, 100, 58])))]) []) (.need (List.length s < 4294967281) (.need (readsE (postM s)) (.ret (.tup [.agg [.i (1 : Int), .pd (.str (preM s)), .own 0], .p (.bool (hasEq s && nameM (preM s) && (0 : Int) == (0 : Int) && plainM (Prod.fst (parseE (postM s)))))]) [.own 88 .cell (Prod.fst (parseE (postM s)))])))))) (by kernel_rfl) fun Γ => ?_
  refine ⟨fun h' => absurd (show hasP s raiseS = true from h') (by rw [h0]; simp), fun _ => ⟨fun h' => absurd (show hasP s sendS = true from h') (by rw [h1]; simp), fun _ => ⟨hs, h, ?_, rfl⟩⟩⟩
  have hb : (hasEq s && deedOk ⟨1, preM s, (parseE (postM s)).1⟩) = (hasEq s && nameM (preM s) && (0 : Int) == 0 && plainM (parseE (postM s)).1) := by
    show (hasEq s && (nameM (preM s) && plainM (parseE (postM s)).1)) = _
    rw [show ((0 : Int) == 0) = true from rfl, Bool.and_true, Bool.and_assoc]
  rw [hb]
theorem ap_none (s : Str) (hs : s.length < 4294967281) (h0 : hasP s raiseS = false) (h1 : hasP s sendS = false) (h : ¬ readsE (postM s)) :
    Does Tryz.prog 25 [.s s] [] (.tup [.agg [.i 1, .pd (.str (preM s)), nilV], .b false]) [] := by
  refine Does.go (cfg := cfgAp0) cfgAp0_ok Tryz.func25 (by kernel_rfl) (by kernel_rfl) (t := (.ite (hasP s [(114 : UInt8), 97, 105, 115, 101, 58]) (.ret (.tup [.agg [.i (2 : Int), .pd (.str (cutP s [(114 : UInt8), 97, 105, 115, 101, 58])), .pd (.v (Value.slice none 0 0))], .p (.bool (eventM (cutP s [(114 : UInt8), 97, 105, 115, 101, 58])))]) []) (.ite (hasP s [(115 : UInt8), 101, 110, 100, 58]) (.ret (.tup [.agg [.i (3 : Int), .pd (.str (cutP s [(115 : UInt8), 101, 110, 100, 58])), .pd (.v (Value.slice none 0 0))], .p (.bool (eventM (cutP s [(115 : UInt8), 101, 110, 100, 58])))]) []) (.need (List.length s < 4294967281) (.need (¬readsE (postM s)) (.ret (.tup [.agg [.i (1 : Int), .pd (.str (preM s)), .pd (.v (Value.slice none 0 0))], .p (.bool (hasEq s && nameM (preM s) && Prod.snd (Prod.snd (parseE (postM s))) == (0 : Int) && plainM []))]) [])))))) (by kernel_rfl) fun Γ => ?_
  refine ⟨fun h' => absurd (show hasP s raiseS = true from h') (by rw [h0]; simp), fun _ => ⟨fun h' => absurd (show hasP s sendS = true from h') (by rw [h1]; simp), fun _ => ⟨hs, h, ?_, rfl⟩⟩⟩
  have h9 : ¬ (parseE (postM s)).2.2 = 0 := h
  have : ((parseE (postM s)).2.2 == 0) = false := by simpa using h9
  rw [this, Bool.and_false, Bool.false_and]
noncomputable def nAp2 : Nat × (List SX → List Chunk → Option (Option Prop × SV × List Chunk)) := (25, fun
  | [.c (.pd (.str s))], [] => some (some (hasP s raiseS = true), .tup [.agg [.pd (.int .i64 2), .pd (.str (cutP s raiseS)), .pd (.v (.slice none 0 0))], .c (.pd (.bool (deedOk ⟨2, cutP s raiseS, []⟩)))], [])
  | _, _ => none)
theorem nAp2_ok (vs : List SX) (ck : List Chunk) (p : Option Prop) (ret : SV) (ck' : List Chunk) (h : nAp2.2 vs ck = some (p, ret, ck')) (hp : Holds p) : Does Tryz.prog nAp2.1 vs ck ret ck' := by
  unfold nAp2 at h
  simp only at h
  split at h
  · rename_i s
    simp only [Option.some.injEq, Prod.mk.injEq] at h
    obtain ⟨rfl, rfl, rfl⟩ := h
    exact ap_raise s hp
  · simp at h
noncomputable def nAp3 : Nat × (List SX → List Chunk → Option (Option Prop × SV × List Chunk)) := (25, fun
  | [.c (.pd (.str s))], [] => some (some (hasP s raiseS = false ∧ hasP s sendS = true), .tup [.agg [.pd (.int .i64 3), .pd (.str (cutP s sendS)), .pd (.v (.slice none 0 0))], .c (.pd (.bool (deedOk ⟨3, cutP s sendS, []⟩)))], [])
  | _, _ => none)
theorem nAp3_ok (vs : List SX) (ck : List Chunk) (p : Option Prop) (ret : SV) (ck' : List Chunk) (h : nAp3.2 vs ck = some (p, ret, ck')) (hp : Holds p) : Does Tryz.prog nAp3.1 vs ck ret ck' := by
  unfold nAp3 at h
  simp only at h
  split at h
  · rename_i s
    simp only [Option.some.injEq, Prod.mk.injEq] at h
    obtain ⟨rfl, rfl, rfl⟩ := h
    exact ap_send s hp.1 hp.2
  · simp at h
noncomputable def nAp1 : Nat × (List SX → List Chunk → Option (Option Prop × SV × List Chunk)) := (25, fun
  | [.c (.pd (.str s))], [] => some (some (s.length < 4294967281 ∧ hasP s raiseS = false ∧ hasP s sendS = false ∧ readsE (postM s)), .tup [.agg [.pd (.int .i64 1), .pd (.str (preM s)), .own 0], .c (.pd (.bool (hasEq s && deedOk ⟨1, preM s, (parseE (postM s)).1⟩)))], [.own 88 .cell (parseE (postM s)).1])
  | _, _ => none)
theorem nAp1_ok (vs : List SX) (ck : List Chunk) (p : Option Prop) (ret : SV) (ck' : List Chunk) (h : nAp1.2 vs ck = some (p, ret, ck')) (hp : Holds p) : Does Tryz.prog nAp1.1 vs ck ret ck' := by
  unfold nAp1 at h
  simp only at h
  split at h
  · rename_i s
    simp only [Option.some.injEq, Prod.mk.injEq] at h
    obtain ⟨rfl, rfl, rfl⟩ := h
    exact ap_set s hp.1 hp.2.1 hp.2.2.1 hp.2.2.2
  · simp at h
noncomputable def nAp0 : Nat × (List SX → List Chunk → Option (Option Prop × SV × List Chunk)) := (25, fun
  | [.c (.pd (.str s))], [] => some (some (s.length < 4294967281 ∧ hasP s raiseS = false ∧ hasP s sendS = false ∧ ¬ readsE (postM s)), .tup [.agg [.pd (.int .i64 1), .pd (.str (preM s)), .pd (.v (.slice none 0 0))], .c (.pd (.bool false))], [])
  | _, _ => none)
theorem nAp0_ok (vs : List SX) (ck : List Chunk) (p : Option Prop) (ret : SV) (ck' : List Chunk) (h : nAp0.2 vs ck = some (p, ret, ck')) (hp : Holds p) : Does Tryz.prog nAp0.1 vs ck ret ck' := by
  unfold nAp0 at h
  simp only at h
  split at h
  · rename_i s
    simp only [Option.some.injEq, Prod.mk.injEq] at h
    obtain ⟨rfl, rfl, rfl⟩ := h
    exact ap_none s hp.1 hp.2.1 hp.2.2.1 hp.2.2.2
  · simp at h
/-! ### the document's -/
theorem cut_take (a : Str) (n : Int) : (cutL a none (some n)).2 = a.take n.toNat := by simp [cutL]
theorem cut_drop (a : Str) (n : Int) : (cutL a (some n) none).2 = a.drop n.toNat := by simp [cutL]
theorem starts_spec (a b : Str) : Does Tryz.prog 47 [.s a, .s b] [] (.x (.b (hasP a b))) [] := by
  refine Does.go (cfg := cfg0) cfg0_ok Tryz.func47 (by kernel_rfl) (by kernel_rfl) (t := (.need (decide (strLen a ≥ strLen b) = true → (0 : Int) ≤ strLen b ∧ strLen b ≤ (↑(List.length a) : Int)) (.ret (.p (.bool (decide (strLen a ≥ strLen b) && Prod.snd (cutL a none (some (strLen b))) == b))) []))) (by kernel_rfl) fun Γ => ?_
  have hL : strLen a = (a.length : Int) := rfl
  have hB : strLen b = (b.length : Int) := rfl
  refine ⟨fun h => by have := of_decide_eq_true h; omega, ?_⟩
  rw [cut_take]; exact ⟨rfl, rfl⟩
def eStarts : Nat × (List SX → List Chunk → Option (Option Prop × SV × List Chunk)) := (47, fun
  | [.c (.pd (.str a)), .c (.pd (.str b))], [] => some (none, .x (.c (.pd (.bool (hasP a b)))), [])
  | _, _ => none)
theorem eStarts_ok (vs : List SX) (ck : List Chunk) (p : Option Prop) (ret : SV) (ck' : List Chunk) (h : eStarts.2 vs ck = some (p, ret, ck')) (hp : Holds p) : Does Tryz.prog eStarts.1 vs ck ret ck' := by
  unfold eStarts at h
  simp only at h
  split at h
  · rename_i a b
    simp only [Option.some.injEq, Prod.mk.injEq] at h
    obtain ⟨rfl, rfl, rfl⟩ := h
    exact starts_spec a b
  · simp at h
theorem nil_lst {H : Mem} {t : ETy} {u : Value} (h : PR H (.v (.slice none 0 0)) u) : PR H (.lst t []) u := by
  cases h; exact .emp t none 0 fun _ => rfl
theorem rone_nil (a : Int) (b : Str) : Does Tryz.prog 39 [.agg [.i a, .pd (.str b), nilV]] [] (.x (.b (deedOk ⟨a, b, []⟩))) [] := fun w V vs hw hT hv => by
  refine rone_spec ⟨a, b, []⟩ w V vs hw hT ?_
  cases hv with
  | cons h hv =>
    cases hv
    obtain ⟨us, rfl, h⟩ := h
    cases h with
    | cons h0 h => cases h with
      | cons h1 h => cases h with
        | cons h2 h =>
          cases h
          exact .cons ⟨_, rfl, .cons h0 (.cons h1 (.cons (nil_lst h2) .nil))⟩ .nil
def eRone0 : Nat × (List SX → List Chunk → Option (Option Prop × SV × List Chunk)) := (39, fun
  | [.agg [.pd (.int .i64 a), .pd (.str b), .pd (.v (.slice none 0 0))]], [] => some (none, .x (.c (.pd (.bool (deedOk ⟨a, b, []⟩)))), [])
  | _, _ => none)
theorem eRone0_ok (vs : List SX) (ck : List Chunk) (p : Option Prop) (ret : SV) (ck' : List Chunk) (h : eRone0.2 vs ck = some (p, ret, ck')) (hp : Holds p) : Does Tryz.prog eRone0.1 vs ck ret ck' := by
  unfold eRone0 at h
  simp only at h
  split at h
  · rename_i a b
    simp only [Option.some.injEq, Prod.mk.injEq] at h
    obtain ⟨rfl, rfl, rfl⟩ := h
    exact rone_nil a b
  · simp at h
noncomputable def cfgRd1 : Cfg := ⟨tys0, [eStarts, eRone0, eRone, nRpa1]⟩
theorem cfgRd1_ok : TabOk Tryz.prog cfgRd1.tab := (TabOk.cons eStarts_ok (TabOk.cons eRone0_ok (TabOk.cons eRone_ok (TabOk.cons nRpa1_ok TabOk.nil))))
noncomputable def cfgRd0 : Cfg := ⟨tys0, [eStarts, eRone0, eRone, nRpa0]⟩
theorem cfgRd0_ok : TabOk Tryz.prog cfgRd0.tab := (TabOk.cons eStarts_ok (TabOk.cons eRone0_ok (TabOk.cons eRone_ok (TabOk.cons nRpa0_ok TabOk.nil))))
theorem cutP_raise {s : Str} (h : hasP s raiseS = true) : 6 ≤ s.length ∧ cutP s raiseS = s.drop 6 := by
  have hL : strLen s = (s.length : Int) := rfl
  have h6 : strLen raiseS = 6 := rfl
  refine ⟨?_, by rw [cutP, h]; rfl⟩
  simp only [hasP, Bool.and_eq_true, decide_eq_true_eq] at h
  omega
theorem cutP_send {s : Str} (h : hasP s sendS = true) : 5 ≤ s.length ∧ cutP s sendS = s.drop 5 := by
  have hL : strLen s = (s.length : Int) := rfl
  have h6 : strLen sendS = 5 := rfl
  refine ⟨?_, by rw [cutP, h]; rfl⟩
  simp only [hasP, Bool.and_eq_true, decide_eq_true_eq] at h
  omega
theorem rd_raise (s : Str) (h : hasP s raiseS = true) : Does Tryz.prog 26 [.s s] [] (.tup [.agg [.i 2, .pd (.str (cutP s raiseS)), nilV], .b (deedOk ⟨2, cutP s raiseS, []⟩)]) [] := by
  refine Does.go (cfg := cfgRd0) cfgRd0_ok Tryz.func26 (by kernel_rfl) (by kernel_rfl) (t := (.ite (hasP s [(114 : UInt8), 97, 105, 115, 101, 58]) (.need ((0 : Int) ≤ (6 : Int) ∧ (6 : Int) ≤ (↑(List.length s) : Int)) (.ret (.tup [.agg [.i (2 : Int), .pd (.str (Prod.snd (cutL s (some (6 : Int)) none))), .pd (.v (Value.slice none 0 0))], .p (.bool (deedOk { kind := (2 : Int), name := Prod.snd (cutL s (some (6 : Int)) none), expr := [] }))]) [])) (.ite (hasP s [(115 : UInt8), 101, 110, 100, 58]) (.need ((0 : Int) ≤ (5 : Int) ∧ (5 : Int) ≤ (↑(List.length s) : Int)) (.ret (.tup [.agg [.i (3 : Int), .pd (.str (Prod.snd (cutL s (some (5 : Int)) none))), .pd (.v (Value.slice none 0 0))], .p (.bool (deedOk { kind := (3 : Int), name := Prod.snd (cutL s (some (5 : Int)) none), expr := [] }))]) [])) (.stop [.code [1, 1, 0, 0, 1, 1, 1, 1, 1, 0, 0, 0], .inLoop [1, 1, 0, 0, 1, 1, 1, 1, 1, 0, 0, 0], .inBlock 1, .code [1, 1, 0, 0, 1, 1, 1, 1, 1, 1], .inBlock 0, .code [1, 1, 1]] { n := 63, fr := [(0, .p (.str s)), (2, .x (.c (.loc 0 0))), (3, .p (.bool false)), (4, .x (.c (.loc 1 0))), (5, .i (0 : Int))], ck := [.cells [.i (0 : Int), .pd (.str []), .pd (.v (Value.slice none 0 0))] 60, .cells [.i (0 : Int), .pd (.str []), .pd (.v (Value.slice none 0 0))] 60], kn := [3] })))) (by kernel_rfl) fun Γ => ?_
  obtain ⟨g1, g2⟩ := cutP_raise h
  refine ⟨fun _ => ⟨by omega, ?_⟩, fun h' => absurd h (by rw [show hasP s raiseS = false from h']; simp)⟩
  rw [cut_drop, g2]; exact ⟨rfl, rfl⟩
theorem rd_send (s : Str) (h0 : hasP s raiseS = false) (h : hasP s sendS = true) : Does Tryz.prog 26 [.s s] [] (.tup [.agg [.i 3, .pd (.str (cutP s sendS)), nilV], .b (deedOk ⟨3, cutP s sendS, []⟩)]) [] := by
  refine Does.go (cfg := cfgRd0) cfgRd0_ok Tryz.func26 (by kernel_rfl) (by kernel_rfl) (t := (.ite (hasP s [(114 : UInt8), 97, 105, 115, 101, 58]) (.need ((0 : Int) ≤ (6 : Int) ∧ (6 : Int) ≤ (↑(List.length s) : Int)) (.ret (.tup [.agg [.i (2 : Int), .pd (.str (Prod.snd (cutL s (some (6 : Int)) none))), .pd (.v (Value.slice none 0 0))], .p (.bool (deedOk { kind := (2 : Int), name := Prod.snd (cutL s (some (6 : Int)) none), expr := [] }))]) [])) (.ite (hasP s [(115 : UInt8), 101, 110, 100, 58]) (.need ((0 : Int) ≤ (5 : Int) ∧ (5 : Int) ≤ (↑(List.length s) : Int)) (.ret (.tup [.agg [.i (3 : Int), .pd (.str (Prod.snd (cutL s (some (5 : Int)) none))), .pd (.v (Value.slice none 0 0))], .p (.bool (deedOk { kind := (3 : Int), name := Prod.snd (cutL s (some (5 : Int)) none), expr := [] }))]) [])) (.stop [.code [1, 1, 0, 0, 1, 1, 1, 1, 1, 0, 0, 0], .inLoop [1, 1, 0, 0, 1, 1, 1, 1, 1, 0, 0, 0], .inBlock 1, .code [1, 1, 0, 0, 1, 1, 1, 1, 1, 1], .inBlock 0, .code [1, 1, 1]] { n := 63, fr := [(0, .p (.str s)), (2, .x (.c (.loc 0 0))), (3, .p (.bool false)), (4, .x (.c (.loc 1 0))), (5, .i (0 : Int))], ck := [.cells [.i (0 : Int), .pd (.str []), .pd (.v (Value.slice none 0 0))] 60, .cells [.i (0 : Int), .pd (.str []), .pd (.v (Value.slice none 0 0))] 60], kn := [3] })))) (by kernel_rfl) fun Γ => ?_
  obtain ⟨g1, g2⟩ := cutP_send h
  refine ⟨fun h' => absurd (show hasP s raiseS = true from h') (by rw [h0]; simp), fun _ => ⟨fun _ => ⟨by omega, ?_⟩, fun h' => absurd h (by rw [show hasP s sendS = false from h']; simp)⟩⟩
  rw [cut_drop, g2]; exact ⟨rfl, rfl⟩
theorem at_eq {s : Str} {k : Nat} (hk : k < s.length) (hb : ∀ c ∈ s.take k, (c == 61) = false) (h : (s.getD k 0 == 61) = true) : hasEq s = true ∧ preM s = s.take k ∧ postM s = s.drop (k + 1) := by
  have h1 : s.getD k 0 = s[k] := by simp [List.getD_eq_getElem?_getD, hk]
  rw [h1] at h
  have hd : s.drop k = 61 :: s.drop (k + 1) := by rw [List.drop_eq_getElem_cons hk, eq_of_beq h]
  have hs : s = s.take k ++ 61 :: s.drop (k + 1) := by rw [← hd, List.take_append_drop]
  have ha : ∀ x ∈ s.take k, (!(x == (61 : UInt8))) = true := fun x hx => by rw [hb x hx]; rfl
  refine ⟨?_, ?_, ?_⟩
  · unfold hasEq; rw [List.any_eq_true]; exact ⟨s[k], List.getElem_mem hk, h⟩
  · unfold preM
    conv => lhs; rw [hs]
    rw [List.takeWhile_append_of_pos ha]; simp
  · unfold postM
    conv => lhs; rw [hs]
    rw [List.dropWhile_append_of_pos ha]; simp
theorem at_end {s : Str} (hb : ∀ c ∈ s, (c == 61) = false) : hasEq s = false := by
  unfold hasEq; rw [List.any_eq_false]; intro x hx; rw [hb x hx]; simp
theorem take_next {s : Str} {k : Nat} (hk : k < s.length) (hb : ∀ c ∈ s.take k, (c == 61) = false) (h : (s.getD k 0 == 61) = false) : ∀ c ∈ s.take (k + 1), (c == 61) = false := by
  intro c hc
  rw [List.take_add_one, List.mem_append] at hc
  rcases hc with hc | hc
  · exact hb c hc
  · rw [List.getElem?_eq_getElem hk] at hc
    simp only [Option.toList_some, List.mem_singleton] at hc
    subst hc
    rw [← h]; simp [List.getD_eq_getElem?_getD, hk]
theorem u8_eq (c : UInt8) : (((c.toNat : Nat) : Int) != 61) = !(c == 61) := by
  rw [bne, Bool.eq_iff_iff]
  simp only [Bool.not_eq_true', beq_eq_false_iff_ne, ne_eq]
  constructor
  · rintro h rfl; exact h rfl
  · intro h e; apply h; apply UInt8.toNat_inj.1; have : ((c.toNat : Nat) : Int) = 61 := e
    show c.toNat = 61; omega


theorem rd1_loop (s : Str) (Γ : Ctx) (hs : s.length ≤ 1048576) (hp : hasEq s = true) (hr : readsE (postM s)) : ∀ (n k : Nat), s.length - k ≤ n → k ≤ s.length → (∀ c ∈ s.take k, (c == 61) = false) →
    J Tryz.prog 26 (bodyOf Tryz.f26) Γ (Eq2 (.tup [.agg [.i 1, .pd (.str (preM s)), .own 0], .b (deedOk ⟨1, preM s, (parseE (postM s)).1⟩)]) [.own 88 .cell (parseE (postM s)).1]) [.code [1, 1, 0, 0, 1, 1, 1, 1, 1, 0, 0, 0], .inLoop [1, 1, 0, 0, 1, 1, 1, 1, 1, 0, 0, 0], .inBlock 1, .code [1, 1, 0, 0, 1, 1, 1, 1, 1, 1], .inBlock 0, .code [1, 1, 1]] ({ n := 63, fr := [(0, .p (.str s)), (2, .x (.c (.loc 0 0))), (3, .p (.bool false)), (4, .x (.c (.loc 1 0))), (5, .i (k))], ck := [.cells [.i (0 : Int), .pd (.str []), .pd (.v (Value.slice none 0 0))] 60, .cells [.i (0 : Int), .pd (.str []), .pd (.v (Value.slice none 0 0))] 60], kn := [3] }) := by
  have hL : strLen s = (s.length : Int) := rfl
  intro n
  induction n with
  | zero => ?_
  | succ n ih => ?_
  all_goals
    intro k hn hk hb
    refine J.go (cfg := cfgRd1) cfgRd1_ok Tryz.func26 1000 (t := (.need (decide ((↑k : Int) < strLen s) = true → (0 : Int) ≤ (↑k : Int) ∧ (↑k : Int) < strLen s) (.ite (decide ((↑k : Int) < strLen s) && (↑(UInt8.toNat (List.getD s k (0 : UInt8))) : Int) != (61 : Int)) (.stop [.code [1, 1, 0, 0, 1, 1, 1, 1, 1, 0, 0, 0], .inLoop [1, 1, 0, 0, 1, 1, 1, 1, 1, 0, 0, 0], .inBlock 1, .code [1, 1, 0, 0, 1, 1, 1, 1, 1, 1], .inBlock 0, .code [1, 1, 1]] { n := 63, fr := [(0, .p (.str s)), (2, .x (.c (.loc 0 0))), (3, .p (.bool false)), (4, .x (.c (.loc 1 0))), (5, .i (IntKind.wrap .i64 ((↑k : Int) + (1 : Int))))], ck := [.cells [.i (0 : Int), .pd (.str []), .pd (.v (Value.slice none 0 0))] 60, .cells [.i (0 : Int), .pd (.str []), .pd (.v (Value.slice none 0 0))] 60], kn := [3] }) (.ite ((↑k : Int) == strLen s) (.ret (.tup [.agg [.i (0 : Int), .pd (.str []), .pd (.v (Value.slice none 0 0))], .p (.bool false)]) []) (.need ((0 : Int) ≤ IntKind.wrap .i64 ((↑k : Int) + (1 : Int)) ∧ IntKind.wrap .i64 ((↑k : Int) + (1 : Int)) ≤ (↑(List.length s) : Int)) (.need (readsE (Prod.snd (cutL s (some (IntKind.wrap .i64 ((↑k : Int) + (1 : Int)))) none))) (.ite false (.ret (.tup [.agg [.i (0 : Int), .pd (.str []), .pd (.v (Value.slice none 0 0))], .p (.bool false)]) []) (.need ((0 : Int) ≤ (↑k : Int) ∧ (↑k : Int) ≤ (↑(List.length s) : Int)) (.ret (.tup [.agg [.i (1 : Int), .pd (.str (Prod.snd (cutL s none (some (↑k : Int))))), .own 0], .p (.bool (deedOk { kind := (1 : Int), name := Prod.snd (cutL s none (some (↑k : Int))), expr := Prod.fst (parseE (Prod.snd (cutL s (some (IntKind.wrap .i64 ((↑k : Int) + (1 : Int)))) none))) }))]) [.own 88 .cell (Prod.fst (parseE (Prod.snd (cutL s (some (IntKind.wrap .i64 ((↑k : Int) + (1 : Int)))) none))))]))))))))) (by kernel_rfl) ?_
    have hend : k ≠ s.length := fun e => by
      subst e
      rw [List.take_length] at hb
      rw [at_end hb] at hp; cases hp
    have hk' : k < s.length := by omega
    have hg : ((k : Int).toNat) = k := Int.toNat_natCast k
    refine ⟨fun _ => by omega, fun hc => ?_, fun hc => ?_⟩
    · rw [Bool.and_eq_true] at hc
      have h2 : (s.getD k 0 == 61) = false := nt (by rw [← u8_eq]; exact hc.2)
      rw [wrapK (by omega)]
      first
      | (exfalso; omega)
      | exact ih (k + 1) (by omega) (by omega) (take_next hk' hb h2)
    · have h2 : (s.getD k 0 == 61) = true := by
        rw [decide_eq_true (show (k : Int) < strLen s by omega), Bool.true_and] at hc
        exact nf (by rw [← u8_eq]; exact hc)
      obtain ⟨_, g1, g2⟩ := at_eq hk' hb h2
      refine ⟨fun hc2 => absurd (eq_of_beq hc2) (by omega), fun _ => ?_⟩
      rw [wrapK (by omega), cut_drop, Int.toNat_natCast, ← g2]
      refine ⟨by omega, hr, fun x => Bool.noConfusion x, fun _ => ⟨by omega, ?_⟩⟩
      rw [cut_take, Int.toNat_natCast, ← g1]; exact ⟨rfl, rfl⟩
theorem rd0_loop (s : Str) (Γ : Ctx) (hs : s.length ≤ 1048576) (hr : ¬ (hasEq s = true ∧ readsE (postM s))) : ∀ (n k : Nat), s.length - k ≤ n → k ≤ s.length → (∀ c ∈ s.take k, (c == 61) = false) →
    J Tryz.prog 26 (bodyOf Tryz.f26) Γ (Eq2 (.tup [.agg [.i 0, .pd (.str []), nilV], .b false]) []) [.code [1, 1, 0, 0, 1, 1, 1, 1, 1, 0, 0, 0], .inLoop [1, 1, 0, 0, 1, 1, 1, 1, 1, 0, 0, 0], .inBlock 1, .code [1, 1, 0, 0, 1, 1, 1, 1, 1, 1], .inBlock 0, .code [1, 1, 1]] ({ n := 63, fr := [(0, .p (.str s)), (2, .x (.c (.loc 0 0))), (3, .p (.bool false)), (4, .x (.c (.loc 1 0))), (5, .i (k))], ck := [.cells [.i (0 : Int), .pd (.str []), .pd (.v (Value.slice none 0 0))] 60, .cells [.i (0 : Int), .pd (.str []), .pd (.v (Value.slice none 0 0))] 60], kn := [3] }) := by
  have hL : strLen s = (s.length : Int) := rfl
  intro n
  induction n with
  | zero => ?_
  | succ n ih => ?_
  all_goals
    intro k hn hk hb
    refine J.go (cfg := cfgRd0) cfgRd0_ok Tryz.func26 1000 (t := (.need (decide ((↑k : Int) < strLen s) = true → (0 : Int) ≤ (↑k : Int) ∧ (↑k : Int) < strLen s) (.ite (decide ((↑k : Int) < strLen s) && (↑(UInt8.toNat (List.getD s k (0 : UInt8))) : Int) != (61 : Int)) (.stop [.code [1, 1, 0, 0, 1, 1, 1, 1, 1, 0, 0, 0], .inLoop [1, 1, 0, 0, 1, 1, 1, 1, 1, 0, 0, 0], .inBlock 1, .code [1, 1, 0, 0, 1, 1, 1, 1, 1, 1], .inBlock 0, .code [1, 1, 1]] { n := 63, fr := [(0, .p (.str s)), (2, .x (.c (.loc 0 0))), (3, .p (.bool false)), (4, .x (.c (.loc 1 0))), (5, .i (IntKind.wrap .i64 ((↑k : Int) + (1 : Int))))], ck := [.cells [.i (0 : Int), .pd (.str []), .pd (.v (Value.slice none 0 0))] 60, .cells [.i (0 : Int), .pd (.str []), .pd (.v (Value.slice none 0 0))] 60], kn := [3] }) (.ite ((↑k : Int) == strLen s) (.ret (.tup [.agg [.i (0 : Int), .pd (.str []), .pd (.v (Value.slice none 0 0))], .p (.bool false)]) []) (.need ((0 : Int) ≤ IntKind.wrap .i64 ((↑k : Int) + (1 : Int)) ∧ IntKind.wrap .i64 ((↑k : Int) + (1 : Int)) ≤ (↑(List.length s) : Int)) (.need (¬readsE (Prod.snd (cutL s (some (IntKind.wrap .i64 ((↑k : Int) + (1 : Int)))) none))) (.ite (Prod.snd (Prod.snd (parseE (Prod.snd (cutL s (some (IntKind.wrap .i64 ((↑k : Int) + (1 : Int)))) none)))) != (0 : Int)) (.ret (.tup [.agg [.i (0 : Int), .pd (.str []), .pd (.v (Value.slice none 0 0))], .p (.bool false)]) []) (.need ((0 : Int) ≤ (↑k : Int) ∧ (↑k : Int) ≤ (↑(List.length s) : Int)) (.ret (.tup [.agg [.i (1 : Int), .pd (.str (Prod.snd (cutL s none (some (↑k : Int))))), .pd (.v (Value.slice none 0 0))], .p (.bool (deedOk { kind := (1 : Int), name := Prod.snd (cutL s none (some (↑k : Int))), expr := [] }))]) []))))))))) (by kernel_rfl) ?_
    refine ⟨fun hc => ?_, fun hc => ?_, fun hc => ?_⟩
    · have := of_decide_eq_true hc; omega
    · rw [Bool.and_eq_true] at hc
      have hk' : k < s.length := by have := of_decide_eq_true hc.1; omega
      have h2 : (s.getD k 0 == 61) = false := nt (by rw [← u8_eq]; exact hc.2)
      rw [wrapK (by omega)]
      first
      | (exfalso; omega)
      | exact ih (k + 1) (by omega) (by omega) (take_next hk' hb h2)
    · refine ⟨fun _ => ⟨rfl, rfl⟩, fun hne => ?_⟩
      have hk' : k < s.length := by
        have : (k : Int) ≠ strLen s := by simpa using hne
        omega
      have h2 : (s.getD k 0 == 61) = true := by
        rw [decide_eq_true (show (k : Int) < strLen s by omega), Bool.true_and] at hc
        exact nf (by rw [← u8_eq]; exact hc)
      obtain ⟨g0, g1, g2⟩ := at_eq hk' hb h2
      rw [wrapK (by omega), cut_drop, Int.toNat_natCast, ← g2]
      have hr' : ¬ readsE (postM s) := fun h => hr ⟨g0, h⟩
      refine ⟨by omega, hr', fun _ => ⟨rfl, rfl⟩, fun h => ?_⟩
      exact absurd (show (parseE (postM s)).2.2 = 0 by simpa using h) hr'
theorem rd_set (s : Str) (hs : s.length ≤ 1048576) (h0 : hasP s raiseS = false) (h1 : hasP s sendS = false) (h : hasEq s = true ∧ readsE (postM s)) :
    Does Tryz.prog 26 [.s s] [] (.tup [.agg [.i 1, .pd (.str (preM s)), .own 0], .b (deedOk ⟨1, preM s, (parseE (postM s)).1⟩)]) [.own 88 .cell (parseE (postM s)).1] := by
  refine Does.go (cfg := cfgRd1) cfgRd1_ok Tryz.func26 (by kernel_rfl) (by kernel_rfl) (t := (.ite (hasP s [(114 : UInt8), 97, 105, 115, 101, 58]) (.need ((0 : Int) ≤ (6 : Int) ∧ (6 : Int) ≤ (↑(List.length s) : Int)) (.ret (.tup [.agg [.i (2 : Int), .pd (.str (Prod.snd (cutL s (some (6 : Int)) none))), .pd (.v (Value.slice none 0 0))], .p (.bool (deedOk { kind := (2 : Int), name := Prod.snd (cutL s (some (6 : Int)) none), expr := [] }))]) [])) (.ite (hasP s [(115 : UInt8), 101, 110, 100, 58]) (.need ((0 : Int) ≤ (5 : Int) ∧ (5 : Int) ≤ (↑(List.length s) : Int)) (.ret (.tup [.agg [.i (3 : Int), .pd (.str (Prod.snd (cutL s (some (5 : Int)) none))), .pd (.v (Value.slice none 0 0))], .p (.bool (deedOk { kind := (3 : Int), name := Prod.snd (cutL s (some (5 : Int)) none), expr := [] }))]) [])) (.stop [.code [1, 1, 0, 0, 1, 1, 1, 1, 1, 0, 0, 0], .inLoop [1, 1, 0, 0, 1, 1, 1, 1, 1, 0, 0, 0], .inBlock 1, .code [1, 1, 0, 0, 1, 1, 1, 1, 1, 1], .inBlock 0, .code [1, 1, 1]] { n := 63, fr := [(0, .p (.str s)), (2, .x (.c (.loc 0 0))), (3, .p (.bool false)), (4, .x (.c (.loc 1 0))), (5, .i (0 : Int))], ck := [.cells [.i (0 : Int), .pd (.str []), .pd (.v (Value.slice none 0 0))] 60, .cells [.i (0 : Int), .pd (.str []), .pd (.v (Value.slice none 0 0))] 60], kn := [3] })))) (by kernel_rfl) fun Γ => ?_
  refine ⟨fun h' => absurd (show hasP s raiseS = true from h') (by rw [h0]; simp), fun _ => ⟨fun h' => absurd (show hasP s sendS = true from h') (by rw [h1]; simp), fun _ => ?_⟩⟩
  exact rd1_loop s Γ hs h.1 h.2 s.length 0 (by omega) (by omega) (by simp)
theorem rd_none (s : Str) (hs : s.length ≤ 1048576) (h0 : hasP s raiseS = false) (h1 : hasP s sendS = false) (h : ¬ (hasEq s = true ∧ readsE (postM s))) :
    Does Tryz.prog 26 [.s s] [] (.tup [.agg [.i 0, .pd (.str []), nilV], .b false]) [] := by
  refine Does.go (cfg := cfgRd0) cfgRd0_ok Tryz.func26 (by kernel_rfl) (by kernel_rfl) (t := (.ite (hasP s [(114 : UInt8), 97, 105, 115, 101, 58]) (.need ((0 : Int) ≤ (6 : Int) ∧ (6 : Int) ≤ (↑(List.length s) : Int)) (.ret (.tup [.agg [.i (2 : Int), .pd (.str (Prod.snd (cutL s (some (6 : Int)) none))), .pd (.v (Value.slice none 0 0))], .p (.bool (deedOk { kind := (2 : Int), name := Prod.snd (cutL s (some (6 : Int)) none), expr := [] }))]) [])) (.ite (hasP s [(115 : UInt8), 101, 110, 100, 58]) (.need ((0 : Int) ≤ (5 : Int) ∧ (5 : Int) ≤ (↑(List.length s) : Int)) (.ret (.tup [.agg [.i (3 : Int), .pd (.str (Prod.snd (cutL s (some (5 : Int)) none))), .pd (.v (Value.slice none 0 0))], .p (.bool (deedOk { kind := (3 : Int), name := Prod.snd (cutL s (some (5 : Int)) none), expr := [] }))]) [])) (.stop [.code [1, 1, 0, 0, 1, 1, 1, 1, 1, 0, 0, 0], .inLoop [1, 1, 0, 0, 1, 1, 1, 1, 1, 0, 0, 0], .inBlock 1, .code [1, 1, 0, 0, 1, 1, 1, 1, 1, 1], .inBlock 0, .code [1, 1, 1]] { n := 63, fr := [(0, .p (.str s)), (2, .x (.c (.loc 0 0))), (3, .p (.bool false)), (4, .x (.c (.loc 1 0))), (5, .i (0 : Int))], ck := [.cells [.i (0 : Int), .pd (.str []), .pd (.v (Value.slice none 0 0))] 60, .cells [.i (0 : Int), .pd (.str []), .pd (.v (Value.slice none 0 0))] 60], kn := [3] })))) (by kernel_rfl) fun Γ => ?_
  refine ⟨fun h' => absurd (show hasP s raiseS = true from h') (by rw [h0]; simp), fun _ => ⟨fun h' => absurd (show hasP s sendS = true from h') (by rw [h1]; simp), fun _ => ?_⟩⟩
  exact rd0_loop s Γ hs h s.length 0 (by omega) (by omega) (by simp)
noncomputable def nRd2 : Nat × (List SX → List Chunk → Option (Option Prop × SV × List Chunk)) := (26, fun
  | [.c (.pd (.str s))], [] => some (some (hasP s raiseS = true), .tup [.agg [.pd (.int .i64 2), .pd (.str (cutP s raiseS)), .pd (.v (.slice none 0 0))], .c (.pd (.bool (deedOk ⟨2, cutP s raiseS, []⟩)))], [])
  | _, _ => none)
theorem nRd2_ok (vs : List SX) (ck : List Chunk) (p : Option Prop) (ret : SV) (ck' : List Chunk) (h : nRd2.2 vs ck = some (p, ret, ck')) (hp : Holds p) : Does Tryz.prog nRd2.1 vs ck ret ck' := by
  unfold nRd2 at h
  simp only at h
  split at h
  · rename_i s
    simp only [Option.some.injEq, Prod.mk.injEq] at h
    obtain ⟨rfl, rfl, rfl⟩ := h
    exact rd_raise s hp
  · simp at h
noncomputable def nRd3 : Nat × (List SX → List Chunk → Option (Option Prop × SV × List Chunk)) := (26, fun
  | [.c (.pd (.str s))], [] => some (some (hasP s raiseS = false ∧ hasP s sendS = true), .tup [.agg [.pd (.int .i64 3), .pd (.str (cutP s sendS)), .pd (.v (.slice none 0 0))], .c (.pd (.bool (deedOk ⟨3, cutP s sendS, []⟩)))], [])
  | _, _ => none)
theorem nRd3_ok (vs : List SX) (ck : List Chunk) (p : Option Prop) (ret : SV) (ck' : List Chunk) (h : nRd3.2 vs ck = some (p, ret, ck')) (hp : Holds p) : Does Tryz.prog nRd3.1 vs ck ret ck' := by
  unfold nRd3 at h
  simp only at h
  split at h
  · rename_i s
    simp only [Option.some.injEq, Prod.mk.injEq] at h
    obtain ⟨rfl, rfl, rfl⟩ := h
    exact rd_send s hp.1 hp.2
  · simp at h
noncomputable def nRd1 : Nat × (List SX → List Chunk → Option (Option Prop × SV × List Chunk)) := (26, fun
  | [.c (.pd (.str s))], [] => some (some (s.length ≤ 1048576 ∧ hasP s raiseS = false ∧ hasP s sendS = false ∧ (hasEq s = true ∧ readsE (postM s))), .tup [.agg [.pd (.int .i64 1), .pd (.str (preM s)), .own 0], .c (.pd (.bool (deedOk ⟨1, preM s, (parseE (postM s)).1⟩)))], [.own 88 .cell (parseE (postM s)).1])
  | _, _ => none)
theorem nRd1_ok (vs : List SX) (ck : List Chunk) (p : Option Prop) (ret : SV) (ck' : List Chunk) (h : nRd1.2 vs ck = some (p, ret, ck')) (hp : Holds p) : Does Tryz.prog nRd1.1 vs ck ret ck' := by
  unfold nRd1 at h
  simp only at h
  split at h
  · rename_i s
    simp only [Option.some.injEq, Prod.mk.injEq] at h
    obtain ⟨rfl, rfl, rfl⟩ := h
    exact rd_set s hp.1 hp.2.1 hp.2.2.1 hp.2.2.2
  · simp at h
noncomputable def nRd0 : Nat × (List SX → List Chunk → Option (Option Prop × SV × List Chunk)) := (26, fun
  | [.c (.pd (.str s))], [] => some (some (s.length ≤ 1048576 ∧ hasP s raiseS = false ∧ hasP s sendS = false ∧ ¬ (hasEq s = true ∧ readsE (postM s))), .tup [.agg [.pd (.int .i64 0), .pd (.str []), .pd (.v (.slice none 0 0))], .c (.pd (.bool false))], [])
  | _, _ => none)
theorem nRd0_ok (vs : List SX) (ck : List Chunk) (p : Option Prop) (ret : SV) (ck' : List Chunk) (h : nRd0.2 vs ck = some (p, ret, ck')) (hp : Holds p) : Does Tryz.prog nRd0.1 vs ck ret ck' := by
  unfold nRd0 at h
  simp only at h
  split at h
  · rename_i s
    simp only [Option.some.injEq, Prod.mk.injEq] at h
    obtain ⟨rfl, rfl, rfl⟩ := h
    exact rd_none s hp.1 hp.2.1 hp.2.2.1 hp.2.2.2
  · simp at h
end Go.Proofs.YtjndellhebidoaaGreatDoor

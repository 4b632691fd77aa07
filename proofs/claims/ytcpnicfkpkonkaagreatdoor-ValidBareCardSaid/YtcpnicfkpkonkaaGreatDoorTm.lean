/- Contracts: valid: no text twice, names. Conditions: sizes. An executor for function bodies of the model over data, part Vh: what a call has left, given up. Conditions: those that a contract tells. Contracts: valid.Check: each. Conditions: none. The library's contracts of the shelf, laid at this dump by the kit's tools. Conditions: each one's own. Contracts: slices.Grow, Concat, ContainsFunc on texts. Conditions: sizes. -/
import Derived.Test.YtcpnicfkpkonkaaGreatDoorTj
import Derived.Test.YtcpnicfkpkonkaaGreatDoorTa
import Derived.Shelf.Spec.SlicesGrow
import Derived.Test.YtcpnicfkpkonkaaGreatDoorProg
namespace Go.Proofs.YtcpnicfkpkonkaaGreatDoor
open Go Go.Ev
set_option maxRecDepth 100000
def onceM (l : List Str) : Bool := ((compS (sortS l)).length : Int) == ((sortS l).length : Int)
theorem once_spec (l : List Str) (h : l.length ≤ 1000000) : Does Tryz.prog 31 [.l .str l] [] (.x (.b (onceM l))) [] := by
  refine Does.go (cfg := cfgOn) cfgOn_ok Tryz.func31 (by kernel_rfl) (by kernel_rfl) (t := (.need (room (List.length l) 16) (.need (List.length l ≤ 1000000) (.need (room (List.length (sortS l)) 16) (.need (List.length (sortS l) ≤ 1000000) (.ret (.p (.bool ((↑(List.length (compS (sortS l))) : Int) == (↑(List.length (sortS l)) : Int)))) [])))))) (by kernel_rfl) fun Γ => ?_
  have hr : ∀ n, n ≤ 1000000 → room n 16 := fun n hn => ⟨by omega, Nat.le_trans hn (by decide)⟩
  have hl : (sortS l).length = l.length := List.length_mergeSort l
  refine ⟨hr _ h, h, hr _ (by rw [hl]; exact h), by rw [hl]; exact h, ?_⟩
  exact ⟨rfl, rfl⟩
def eOnce : Nat × (List SX → List Chunk → Option (Option Prop × SV × List Chunk)) := (31, fun
  | [.c (.pd (.lst .str l))], [] => some (some (l.length ≤ 1000000), .x (.c (.pd (.bool (onceM l)))), [])
  | _, _ => none)
theorem eOnce_ok (vs : List SX) (ck : List Chunk) (p : Option Prop) (ret : SV) (ck' : List Chunk) (h : eOnce.2 vs ck = some (p, ret, ck')) (hp : Holds p) : Does Tryz.prog eOnce.1 vs ck ret ck' := by
  unfold eOnce at h
  simp only at h
  split at h
  · rename_i l
    simp only [Option.some.injEq, Prod.mk.injEq] at h
    obtain ⟨rfl, rfl, rfl⟩ := h
    exact once_spec l hp
  · simp at h


theorem room16 (n : Nat) (h : n ≤ 2199023255552) : room n 16 := ⟨by omega, Nat.le_trans h (by decide)⟩
theorem take_name {t : ETy} (f : t.den → Str) {l : List t.den} {k : Nat} (hk : k < l.length) : (l.take k).map f ++ [f (ETy.get t l k)] = (l.take (k + 1)).map f := by
  rw [ETy.get_eq (List.getElem?_eq_getElem hk), List.take_succ_eq_append_getElem hk, List.map_append]; rfl
theorem nmb_loop (c : Chart) (Γ : Ctx) (hv : c.vars.length ≤ 2199023255552) (hs : c.states.length ≤ 2199023255552) : ∀ (n k : Nat), c.states.length - k ≤ n → k ≤ c.states.length →
    J Tryz.prog 18 (bodyOf Tryz.f18) Γ (Eq2 (.tup [.c (.own 0), .c (.own 1)]) [.own 9 .str (c.vars.map fun v : Var => v.name), .own 9 .str (c.states.map fun s : Ev.Stat => s.name)]) [.code [1, 1, 1, 0, 1, 0, 0], .inLoop [1, 1, 1, 0, 1, 0, 0], .inBlock 2, .code [1, 1, 1, 1]] ({ n := 38, fr := [(2, .p (.v (Value.slice none 0 0))), (3, .p (.v (Value.slice none 0 0))), (4, .x (.c (.own 0))), (5, .x (.c (.own 1))), (24, .p (.lst .stat (Chart.states c))), (25, .i (↑(List.length (Chart.states c)) : Int)), (26, .i ((k : Int)))], ck := [.own 9 .str (c.vars.map fun v : Var => v.name), .own 9 .str ((c.states.take k).map fun s : Ev.Stat => s.name)] }) := by
  intro n
  induction n with
  | zero => ?_
  | succ n ih => ?_
  all_goals
    intro k hn hk
    refine J.go (cfg := cfg0) cfg0_ok Tryz.func18 1000 (t := (.ite (decide ((↑k : Int) < (↑(List.length (Chart.states c)) : Int))) (.need ((0 : Int) ≤ (↑k : Int) ∧ (↑k : Int) < (↑(List.length (Chart.states c)) : Int)) (.need (room (List.length (List.map (fun s => Stat.name s) (List.take k (Chart.states c)) ++ [Stat.name (ETy.get .stat (Chart.states c) k)])) 16) (.stop [.code [1, 1, 1, 0, 1, 0, 0], .inLoop [1, 1, 1, 0, 1, 0, 0], .inBlock 2, .code [1, 1, 1, 1]] { n := 38, fr := [(2, .p (.v (Value.slice none 0 0))), (3, .p (.v (Value.slice none 0 0))), (4, .x (.c (.own 0))), (5, .x (.c (.own 1))), (24, .p (.lst .stat (Chart.states c))), (25, .i (↑(List.length (Chart.states c)) : Int)), (26, .i (IntKind.wrap .i64 ((↑k : Int) + (1 : Int))))], ck := [.own 9 .str (List.map (fun v => Var.name v) (Chart.vars c)), .own 9 .str (List.map (fun s => Stat.name s) (List.take k (Chart.states c)) ++ [Stat.name (ETy.get .stat (Chart.states c) k)])] }))) (.ret (.tup [.c (.own 0), .c (.own 1)]) [.own 9 .str (List.map (fun v => Var.name v) (Chart.vars c)), .own 9 .str (List.map (fun s => Stat.name s) (List.take k (Chart.states c)))]))) (by kernel_rfl) ?_
    refine ⟨fun hlt => ?_, fun hge => ?_⟩
    · have hk' : k < c.states.length := by have := of_decide_eq_true hlt; omega
      refine ⟨by omega, ?_⟩
      rw [take_name (t := .stat) (fun s : Ev.Stat => s.name) hk']
      refine ⟨room16 _ (by rw [List.length_map, List.length_take]; omega), ?_⟩
      rw [wrapK (maxLen_lt hk' (Nat.le_trans hs (by decide)))]
      first | (exfalso; omega) | exact ih (k + 1) (by omega) (by omega)
    · have hke : k = c.states.length := by have := of_decide_eq_false hge; omega
      subst hke
      rw [List.take_of_length_le (Nat.le_refl _)]
      exact ⟨rfl, rfl⟩
theorem nma_loop (c : Chart) (Γ : Ctx) (hv : c.vars.length ≤ 2199023255552) (hs : c.states.length ≤ 2199023255552) : ∀ (n k : Nat), c.vars.length - k ≤ n → k ≤ c.vars.length →
    J Tryz.prog 18 (bodyOf Tryz.f18) Γ (Eq2 (.tup [.c (.own 0), .c (.own 1)]) [.own 9 .str (c.vars.map fun v : Var => v.name), .own 9 .str (c.states.map fun s : Ev.Stat => s.name)]) [.code [1, 1, 0, 1, 0, 0], .inLoop [1, 1, 0, 1, 0, 0], .inBlock 0, .code [1, 1, 1]] ({ n := 38, fr := [(1, .x (.c (.loc 0 0))), (2, .p (.v (Value.slice none 0 0))), (3, .p (.v (Value.slice none 0 0))), (4, .x (.c (.own 1))), (5, .p (.v (Value.slice none 0 0))), (11, .p (.lst .var (Chart.vars c))), (12, .i (↑(List.length (Chart.vars c)) : Int)), (13, .i ((k : Int)))], ck := [.cells [.pd (.str c.name), .pd (.lst .str c.events), .pd (.lst .var c.vars), .pd (.lst .stat c.states), .pd (.lst .tran c.trans)] 27, .own 9 .str ((c.vars.take k).map fun v : Var => v.name)] }) := by
  intro n
  induction n with
  | zero => ?_
  | succ n ih => ?_
  all_goals
    intro k hn hk
    refine J.go (cfg := cfg0) cfg0_ok Tryz.func18 1000 (t := (.ite (decide ((↑k : Int) < (↑(List.length (Chart.vars c)) : Int))) (.need ((0 : Int) ≤ (↑k : Int) ∧ (↑k : Int) < (↑(List.length (Chart.vars c)) : Int)) (.need (room (List.length (List.map (fun v => Var.name v) (List.take k (Chart.vars c)) ++ [Var.name (ETy.get .var (Chart.vars c) k)])) 16) (.stop [.code [1, 1, 0, 1, 0, 0], .inLoop [1, 1, 0, 1, 0, 0], .inBlock 0, .code [1, 1, 1]] { n := 38, fr := [(1, .x (.c (.loc 0 0))), (2, .p (.v (Value.slice none 0 0))), (3, .p (.v (Value.slice none 0 0))), (4, .x (.c (.own 1))), (5, .p (.v (Value.slice none 0 0))), (11, .p (.lst .var (Chart.vars c))), (12, .i (↑(List.length (Chart.vars c)) : Int)), (13, .i (IntKind.wrap .i64 ((↑k : Int) + (1 : Int))))], ck := [.cells [.pd (.str (Chart.name c)), .pd (.lst .str (Chart.events c)), .pd (.lst .var (Chart.vars c)), .pd (.lst .stat (Chart.states c)), .pd (.lst .tran (Chart.trans c))] 27, .own 9 .str (List.map (fun v => Var.name v) (List.take k (Chart.vars c)) ++ [Var.name (ETy.get .var (Chart.vars c) k)])] }))) (.stop [.code [1, 1, 1, 0, 1, 0, 0], .inLoop [1, 1, 1, 0, 1, 0, 0], .inBlock 2, .code [1, 1, 1, 1]] { n := 38, fr := [(2, .p (.v (Value.slice none 0 0))), (3, .p (.v (Value.slice none 0 0))), (4, .x (.c (.own 0))), (5, .p (.v (Value.slice none 0 0))), (24, .p (.lst .stat (Chart.states c))), (25, .i (↑(List.length (Chart.states c)) : Int)), (26, .i (0 : Int))], ck := [.own 9 .str (List.map (fun v => Var.name v) (List.take k (Chart.vars c)))] }))) (by kernel_rfl) ?_
    refine ⟨fun hlt => ?_, fun hge => ?_⟩
    · have hk' : k < c.vars.length := by have := of_decide_eq_true hlt; omega
      refine ⟨by omega, ?_⟩
      rw [take_name (t := .var) (fun s : Var => s.name) hk']
      refine ⟨room16 _ (by rw [List.length_map, List.length_take]; omega), ?_⟩
      rw [wrapK (maxLen_lt hk' (Nat.le_trans hv (by decide)))]
      first | (exfalso; omega) | exact ih (k + 1) (by omega) (by omega)
    · have hke : k = c.vars.length := by have := of_decide_eq_false hge; omega
      subst hke
      rw [List.take_of_length_le (Nat.le_refl _)]
      refine J.nilOwn 5 9 .str rfl (by kernel_rfl) ?_
      exact nmb_loop c Γ hv hs c.states.length 0 (by omega) (by omega)
theorem names_spec (c : Chart) (h : c.vars.length ≤ 2199023255552 ∧ c.states.length ≤ 2199023255552) : Does Tryz.prog 18 [.e .chart c] [] (.tup [.c (.own 0), .c (.own 1)]) [.own 9 .str (c.vars.map fun v : Var => v.name), .own 9 .str (c.states.map fun s : Ev.Stat => s.name)] := by
  refine Does.go (cfg := cfg0) cfg0_ok Tryz.func18 (by kernel_rfl) (by kernel_rfl) (t := (.stop [.code [1, 1, 0, 1, 0, 0], .inLoop [1, 1, 0, 1, 0, 0], .inBlock 0, .code [1, 1, 1]] { n := 38, fr := [(1, .x (.c (.loc 0 0))), (2, .p (.v (Value.slice none 0 0))), (3, .p (.v (Value.slice none 0 0))), (4, .p (.v (Value.slice none 0 0))), (5, .p (.v (Value.slice none 0 0))), (11, .p (.lst .var (Chart.vars c))), (12, .i (↑(List.length (Chart.vars c)) : Int)), (13, .i (0 : Int))], ck := [.cells [.pd (.str (Chart.name c)), .pd (.lst .str (Chart.events c)), .pd (.lst .var (Chart.vars c)), .pd (.lst .stat (Chart.states c)), .pd (.lst .tran (Chart.trans c))] 27] })) (by kernel_rfl) fun Γ => ?_
  refine J.nilOwn 4 9 .str rfl (by kernel_rfl) ?_
  exact nma_loop c Γ h.1 h.2 c.vars.length 0 (by omega) (by omega)
def eNames : Nat × (List SX → List Chunk → Option (Option Prop × SV × List Chunk)) := (18, fun
  | [.agg [.pd (.str a), .pd (.lst .str b), .pd (.lst .var c), .pd (.lst .stat d), .pd (.lst .tran e)]], [] => some (some (c.length ≤ 2199023255552 ∧ d.length ≤ 2199023255552), .tup [.c (.own 0), .c (.own 1)], [.own 9 .str (c.map fun v : Var => v.name), .own 9 .str (d.map fun s : Ev.Stat => s.name)])
  | _, _ => none)
theorem eNames_ok (vs : List SX) (ck : List Chunk) (p : Option Prop) (ret : SV) (ck' : List Chunk) (h : eNames.2 vs ck = some (p, ret, ck')) (hp : Holds p) : Does Tryz.prog eNames.1 vs ck ret ck' := by
  unfold eNames at h
  simp only at h
  split at h
  · rename_i a b c d e
    simp only [Option.some.injEq, Prod.mk.injEq] at h
    obtain ⟨rfl, rfl, rfl⟩ := h
    exact names_spec ⟨a, b, c, d, e⟩ hp
  · simp at h
end Go.Proofs.YtcpnicfkpkonkaaGreatDoor
namespace Go.Ev
open Go.RowKit
theorem Does.frz {P : Program} {f : FuncId} {args : List SX} {ck ck' ck2 : List Chunk} {s s' : SX} (tys : Tys) (l : List Nat) (h : Does P f args ck (.x s) ck') (hm : Nat.ble ck.length ck'.length = true)
    (hz : frzs tys { n := 1, fr := [(0, .x s)], ck := ck', m := ck.length } l = some { n := 1, fr := [(0, .x s')], ck := ck2, m := ck.length }) : Does P f args ck (.x s') ck2 := by
  intro w V vs hw hT hv
  refine (h w V vs hw hT hv).mono fun e w' hq => ?_
  obtain ⟨v, V', rfl, hr, hk⟩ := hq
  have r : Rel (entry ck V w) { n := 1, fr := [(0, .x s)], ck := ck', m := ck.length } V' { tmps := #[v], defers := [] } w' := by
    refine { size := rfl, defers := DefOk.nil rfl, slots := fun t sv hm => ?_, wok := hk, few := ⟨Nat.le_refl _, Nat.le_of_ble_eq_true hm⟩ }
    simp only [List.mem_singleton, Prod.mk.injEq] at hm
    obtain ⟨rfl, rfl⟩ := hm
    exact hr
  obtain ⟨V2, r2⟩ := frzs_rel r hz
  exact ⟨v, V2, rfl, r2.slots 0 (.x s') (List.mem_singleton.2 rfl), r2.wok⟩
theorem Does.chop {P : Program} {f : FuncId} {args : List SX} {ck ck' : List Chunk} {ret : SV} (h : Does P f args ck ret (ck' ++ [.dead])) : Does P f args ck ret ck' := fun w V vs hw hT hv =>
  (h w V vs hw hT hv).mono fun _ _ ⟨v, V', e, hr, hk⟩ => ⟨v, V', e, hr, hk.chop⟩
end Go.Ev
namespace Go.Proofs.YtcpnicfkpkonkaaGreatDoor
open Go Go.Ev
set_option maxRecDepth 100000
theorem ea_own (n : Int) (f : Nat) (c : Chart) : Does Tryz.prog 19 [.i n, .c (.fn (.func f) [] [.pd (.ref .chart c 0)])] [] (.x (.c (.fn (.func 20) [] [.loc 0 0, .loc 1 0]))) [.cells [.pd (.i n)] 3, .cells [.fn (.func f) [] [.pd (.ref .chart c 0)]] 50] := by
  refine Does.go (cfg := cfg0) cfg0_ok Tryz.func19 (by kernel_rfl) (by kernel_rfl) (t := (.ret (.x (.c (.fn (.func 20) [] [.loc 0 0, .loc 1 0]))) [.cells [.i n] 3, .cells [.fn (.func f) [] [.pd (.ref .chart c 0)]] 50])) (by kernel_rfl) fun Γ => ?_
  exact ⟨rfl, rfl⟩
theorem ea_spec (n : Int) (f : Nat) (c : Chart) : Does Tryz.prog 19 [.i n, .c (.fn (.func f) [] [.pd (.ref .chart c 0)])] [] (.x (.c (.fn (.func 20) [] [.pd (.ref .int n 0), .pd (.fnAt [(f, [.ref .chart c 0])] 0)]))) [] :=
  Does.chop (ck' := []) (Does.chop (ck' := [.dead]) (Does.frz tys0 [0, 1] (ea_own n f c) rfl rfl))
theorem eb_own (n : Int) (f : Nat) (c : Chart) (l : List Str) : Does Tryz.prog 19 [.i n, .c (.fn (.func f) [] [.pd (.ref .chart c 0), .pd (.ref .strs l 0)])] [] (.x (.c (.fn (.func 20) [] [.loc 0 0, .loc 1 0]))) [.cells [.pd (.i n)] 3, .cells [.fn (.func f) [] [.pd (.ref .chart c 0), .pd (.ref .strs l 0)]] 50] := by
  refine Does.go (cfg := cfg0) cfg0_ok Tryz.func19 (by kernel_rfl) (by kernel_rfl) (t := (.ret (.x (.c (.fn (.func 20) [] [.loc 0 0, .loc 1 0]))) [.cells [.i n] 3, .cells [.fn (.func f) [] [.pd (.ref .chart c 0), .pd (.ref .strs l 0)]] 50])) (by kernel_rfl) fun Γ => ?_
  exact ⟨rfl, rfl⟩
theorem eb_spec (n : Int) (f : Nat) (c : Chart) (l : List Str) : Does Tryz.prog 19 [.i n, .c (.fn (.func f) [] [.pd (.ref .chart c 0), .pd (.ref .strs l 0)])] [] (.x (.c (.fn (.func 20) [] [.pd (.ref .int n 0), .pd (.fnAt [(f, [.ref .chart c 0, .ref .strs l 0])] 0)]))) [] :=
  Does.chop (ck' := []) (Does.chop (ck' := [.dead]) (Does.frz tys0 [0, 1] (eb_own n f c l) rfl rfl))
def eEa : Nat × (List SX → List Chunk → Option (Option Prop × SV × List Chunk)) := (19, fun
  | [.c (.pd (.int .i64 n)), .c (.fn (.func f) [] [.pd (.ref .chart c 0)])], [] => some (none, .x (.c (.fn (.func 20) [] [.pd (.ref .int n 0), .pd (.fnAt [(f, [.ref .chart c 0])] 0)])), [])
  | _, _ => none)
theorem eEa_ok (vs : List SX) (ck : List Chunk) (p : Option Prop) (ret : SV) (ck' : List Chunk) (h : eEa.2 vs ck = some (p, ret, ck')) (hp : Holds p) : Does Tryz.prog eEa.1 vs ck ret ck' := by
  unfold eEa at h
  simp only at h
  split at h
  · rename_i n f c
    simp only [Option.some.injEq, Prod.mk.injEq] at h
    obtain ⟨rfl, rfl, rfl⟩ := h
    exact ea_spec n f c
  · simp at h
def eEb : Nat × (List SX → List Chunk → Option (Option Prop × SV × List Chunk)) := (19, fun
  | [.c (.pd (.int .i64 n)), .c (.fn (.func f) [] [.pd (.ref .chart c 0), .pd (.ref .strs l 0)])], [] => some (none, .x (.c (.fn (.func 20) [] [.pd (.ref .int n 0), .pd (.fnAt [(f, [.ref .chart c 0, .ref .strs l 0])] 0)])), [])
  | _, _ => none)
theorem eEb_ok (vs : List SX) (ck : List Chunk) (p : Option Prop) (ret : SV) (ck' : List Chunk) (h : eEb.2 vs ck = some (p, ret, ck')) (hp : Holds p) : Does Tryz.prog eEb.1 vs ck ret ck' := by
  unfold eEb at h
  simp only at h
  split at h
  · rename_i n f c l
    simp only [Option.some.injEq, Prod.mk.injEq] at h
    obtain ⟨rfl, rfl, rfl⟩ := h
    exact eb_spec n f c l
  · simp at h
end Go.Proofs.YtcpnicfkpkonkaaGreatDoor
namespace Go.Proofs
open Go.Shelf
def Tryz.growS_ren : Go.Shelf.Ren := ⟨fun | 4 => 67 | n => n, fun | 22 => 22 | 25 => 9 | 3 => 3 | 4 => 4 | 9 => 9 | 20 => 20 | 0 => 0 | n => n, fun | n => n⟩
theorem Tryz.growS : Go.Proofs.Lays8.n4 Tryz.prog Tryz.growS_ren := {
  mixed := by kernel_rfl
  f4 := ⟨Tryz.f67.name, by decide, Tryz.func67.trans (congrArg some (by kernel_rfl))⟩
  t0 := Tryz.underlying0
  a0 := Tryz.isAgg0
  z0 := Tryz.sizeOf0
  v0 := Tryz.zeroValue0
  t3 := Tryz.underlying3
  a3 := Tryz.isAgg3
  z3 := Tryz.sizeOf3
  v3 := Tryz.zeroValue3
  t4 := Tryz.underlying4
  a4 := Tryz.isAgg4
  z4 := Tryz.sizeOf4
  v4 := Tryz.zeroValue4
  t9 := Tryz.underlying9
  a9 := Tryz.isAgg9
  z9 := Tryz.sizeOf9
  v9 := Tryz.zeroValue9
  t20 := Tryz.underlying20
  a20 := Tryz.isAgg20
  z20 := Tryz.sizeOf20
  v20 := Tryz.zeroValue20
  t22 := Tryz.underlying22
  a22 := Tryz.isAgg22
  z22 := Tryz.sizeOf22
  v22 := Tryz.zeroValue22 }
end Go.Proofs
namespace Go.Proofs.YtcpnicfkpkonkaaGreatDoor
open Go Go.Ev
set_option maxRecDepth 100000
theorem nil_int {V : Vn} {vs : List Value} {n : Int} (hv : All2 (SX.R V) [.c (.pd (.v (.slice none 0 0))), .i n] vs) : vs = [.slice none 0 0, .int .i64 n] := by
  cases hv with
  | cons a1 hv => cases hv with
    | cons a2 hv =>
      cases hv
      have h1 : PR V.H (.v (.slice none 0 0)) _ := a1
      have h2 : PR V.H (.int .i64 n) _ := a2
      cases h1; cases h2
      rfl
theorem grow_spec (n : Int) (h : 0 ≤ n ∧ n ≤ 1000000) : Does Tryz.prog 67 [.c (.pd (.v (.slice none 0 0))), .i n] [] (.x (.c (.own 0))) [.own 9 .str []] := by
  intro w V vs hw hT hv
  rw [nil_int hv]
  obtain ⟨k, rfl⟩ := Int.eq_ofNat_of_zero_le h.1
  have hk : k ≤ 1000000 := by omega
  cases k with
  | zero =>
    refine (Any8.slices_Grow_room Tryz.growS none 0 0 0 w (by omega) (by omega) (by omega) (by omega)).mono fun e w' ⟨he, hw'⟩ => ?_
    subst he; subst hw'
    obtain ⟨V', _, _, _, e2, hw2⟩ := hw.regrow (ck := []) rfl (Nat.zero_le _) none (c := .own 9 .str []) (v' := .slice none 0 0) (s' := 0) (w' := w') (row := none) (by simp) (World.grownBy.refl _ _) (fun V' hag hH f1 f2 => by
      refine ⟨⟨[], ⟨rfl, .inl ⟨f2, rfl⟩⟩, .nil, fun b hb => ?_⟩, fun b hb => ?_⟩
      · rw [f2] at hb; cases hb
      · have hb' : (V'.ov 0).ownBlock = some b := hb
        rw [show V'.ov 0 = _ from f2] at hb'; cases hb')
    exact ⟨_, V', rfl, e2.symm, by simpa [killCk] using hw2⟩
  | succ k =>
    have hcap := grownCap_ge w (0 + (k + 1)) 0 9
    have hmax := grownCap_le_maxLen w (0 + (k + 1)) 0 9 (Nat.le_trans (by omega : 0 + (k + 1) ≤ 1000000) (by decide))
    obtain ⟨i0, hi0, hz0, hs0, hb0⟩ : ∃ i0, (Tryz.prog).info? 9 = some i0 ∧ i0.zero = some (.string ⟨#[]⟩) ∧ i0.size = 1 ∧ i0.bytes = 16 := ⟨_, rfl, rfl, rfl, rfl⟩
    refine (Any8.slices_Grow_grow Tryz.growS i0 _ hi0 hz0 (by omega) none 0 0 (k + 1) [] w (by omega) (by omega) (by rw [hb0]; omega) (by omega) (by simp) (fun _ => rfl) (fun a ha => by cases ha)).mono fun e w' ⟨he, hw'⟩ => ?_
    rw [show Tryz.growS_ren.t 25 = 9 from rfl] at he hw'
    have hsz : ∀ m, (Builtin.zeroCells (Value.string ⟨#[]⟩).cells m).size = m := fun m => by rw [size_zeroCells]; exact Nat.mul_one m
    obtain ⟨cur, hcur, hw2⟩ : ∃ cur : Array Value, cur.size = grownCap w (0 + (k + 1)) 0 9 * 1 ∧ w' = w.drew.alloc (.cells cur 9) := ⟨_, by
      rw [Array.size_append, Array.size_append, hsz, hsz, show (([] : List Value).toArray).size = 0 from rfl]
      omega, hw'⟩
    clear hw'
    subst he
    have g := grown_alloc w.drew (.cells cur 9)
    rw [← hw2] at g
    have hnew : w'.heap[w.heap.size]? = some (.cells cur 9 (0, 0)) := by rw [hw2]; exact heap_alloc_new w.drew _
    obtain ⟨V', _, _, _, e2, hw3⟩ := hw.regrow (ck := []) rfl (Nat.zero_le _) none (c := .own 9 .str []) (v' := .slice (some ⟨w.heap.size, 0, none⟩) 0 (grownCap w (0 + (k + 1)) 0 9)) (s' := w.heap.size) (w' := w') (row := none) (by simp)
      ⟨g.os, g.tape, g.output, g.size, g.block⟩ (fun V' hag hH f1 f2 => by
      refine ⟨⟨[], ⟨rfl, .inr ⟨w.heap.size, _, _, f2, Nat.zero_le _, hnew, Nat.zero_le _, hmax, hcur, rfl⟩⟩, .nil, fun b hb => ?_⟩, fun b hb => .inr ?_⟩
      · rw [f2] at hb; rw [f1]; simpa [Value.ownBlock] using hb
      · have hb' : (V'.ov 0).ownBlock = some b := hb
        rw [show V'.ov 0 = _ from f2] at hb'
        simp [Value.ownBlock] at hb'; omega)
    exact ⟨_, V', rfl, e2.symm, by simpa [killCk] using hw3⟩
def eGrow : Nat × (List SX → List Chunk → Option (Option Prop × SV × List Chunk)) := (67, fun
  | [.c (.pd (.v (.slice none 0 0))), .c (.pd (.int .i64 n))], [] => some (some (0 ≤ n ∧ n ≤ 1000000), .x (.c (.own 0)), [.own 9 .str []])
  | _, _ => none)
theorem eGrow_ok (vs : List SX) (ck : List Chunk) (p : Option Prop) (ret : SV) (ck' : List Chunk) (h : eGrow.2 vs ck = some (p, ret, ck')) (hp : Holds p) : Does Tryz.prog eGrow.1 vs ck ret ck' := by
  unfold eGrow at h
  simp only at h
  split at h
  · rename_i n
    simp only [Option.some.injEq, Prod.mk.injEq] at h
    obtain ⟨rfl, rfl, rfl⟩ := h
    exact grow_spec n hp
  · simp at h
def cfgCc : Cfg := ⟨[], [eGrow]⟩
theorem cfgCc_ok : TabOk Tryz.prog cfgCc.tab := (TabOk.cons eGrow_ok TabOk.nil)



theorem flat_take {α : Type} {l : List (List α)} {k : Nat} (hk : k < l.length) : (l.take (k + 1)).flatten = (l.take k).flatten ++ l[k] := by
  rw [List.take_succ_eq_append_getElem hk, List.flatten_append]; simp
theorem flat_le {α : Type} (l : List (List α)) (k : Nat) : (l.take k).flatten.length ≤ l.flatten.length := by
  have : l.flatten = (l.take k).flatten ++ (l.drop k).flatten := by rw [← List.flatten_append, List.take_append_drop]
  rw [this, List.length_append]; omega
theorem ccb_loop (l : List (List Str)) (Γ : Ctx) (hl : l.length ≤ maxLen) (hs : l.flatten.length ≤ 1000000) : ∀ (n k : Nat), l.length - k ≤ n → k ≤ l.length →
    J Tryz.prog 23 (bodyOf Tryz.f23) Γ (Eq2 (.x (.c (.own 0))) [.own 9 .str l.flatten]) [.code [1, 1, 1, 1, 0, 1, 0, 0], .inLoop [1, 1, 1, 1, 0, 1, 0, 0], .inBlock 2, .code [1, 1, 1, 1, 1]] ({ n := 36, fr := [(2, .p (.v (Value.slice none 0 0))), (6, .x (.c (.own 0))), (25, .p (.lst .strs l)), (26, .i (↑(List.length l) : Int)), (27, .i ((k : Int)))], ck := [.own 9 .str (l.take k).flatten] }) := by
  intro n
  induction n with
  | zero => ?_
  | succ n ih => ?_
  all_goals
    intro k hn hk
    refine J.go (cfg := cfgCc) cfgCc_ok Tryz.func23 1000 (t := (.ite (decide ((↑k : Int) < (↑(List.length l) : Int))) (.need ((0 : Int) ≤ (↑k : Int) ∧ (↑k : Int) < (↑(List.length l) : Int)) (.need (room (List.length (List.flatten (List.take k l) ++ ETy.get .strs l k)) 16) (.stop [.code [1, 1, 1, 1, 0, 1, 0, 0], .inLoop [1, 1, 1, 1, 0, 1, 0, 0], .inBlock 2, .code [1, 1, 1, 1, 1]] { n := 36, fr := [(2, .p (.v (Value.slice none 0 0))), (6, .x (.c (.own 0))), (25, .p (.lst .strs l)), (26, .i (↑(List.length l) : Int)), (27, .i (IntKind.wrap .i64 ((↑k : Int) + (1 : Int))))], ck := [.own 9 .str (List.flatten (List.take k l) ++ ETy.get .strs l k)] }))) (.ret (.x (.c (.own 0))) [.own 9 .str (List.flatten (List.take k l))]))) (by kernel_rfl) ?_
    refine ⟨fun hlt => ?_, fun hge => ?_⟩
    · have hk' : k < l.length := by have := of_decide_eq_true hlt; omega
      have h1 := flat_le l (k + 1)
      refine ⟨by omega, ?_⟩
      rw [show ETy.get .strs l k = l[k] from ETy.get_eq (t := .strs) (List.getElem?_eq_getElem hk'), ← flat_take hk']
      refine ⟨room16 _ (by omega), ?_⟩
      rw [wrapK (maxLen_lt hk' hl)]
      first | (exfalso; omega) | exact ih (k + 1) (by omega) (by omega)
    · have hke : k = l.length := by have := of_decide_eq_false hge; omega
      subst hke
      rw [List.take_of_length_le (Nat.le_refl _)]
      exact ⟨rfl, rfl⟩
theorem cca_loop (l : List (List Str)) (Γ : Ctx) (hl : l.length ≤ maxLen) (hs : l.flatten.length ≤ 1000000) : ∀ (n k : Nat), l.length - k ≤ n → k ≤ l.length →
    J Tryz.prog 23 (bodyOf Tryz.f23) Γ (Eq2 (.x (.c (.own 0))) [.own 9 .str l.flatten]) [.code [1, 1, 0, 1, 0, 0], .inLoop [1, 1, 0, 1, 0, 0], .inBlock 0, .code [1, 1, 1]] ({ n := 36, fr := [(0, .p (.lst .strs l)), (2, .p (.v (Value.slice none 0 0))), (3, .i (((l.take k).flatten.length : Int))), (9, .p (.lst .strs l)), (10, .i (↑(List.length l) : Int)), (11, .i ((k : Int)))], ck := [] }) := by
  intro n
  induction n with
  | zero => ?_
  | succ n ih => ?_
  all_goals
    intro k hn hk
    refine J.go (cfg := cfgCc) cfgCc_ok Tryz.func23 1000 (t := (.ite (decide ((↑k : Int) < (↑(List.length l) : Int))) (.need ((0 : Int) ≤ (↑k : Int) ∧ (↑k : Int) < (↑(List.length l) : Int)) (.ite (decide (IntKind.wrap .i64 ((↑(List.length (List.flatten (List.take k l))) : Int) + (↑(List.length (ETy.get .strs l k)) : Int)) < (0 : Int))) (.stop [.ops [1, 1, 0, 1, 0, 0, 1, 1, 0, 0, 1, 1, 1, 0] 1, .inBlock 1, .code [1, 1, 0, 1, 0, 0, 1, 1, 1], .inLoop [1, 1, 0, 1, 0, 0], .inBlock 0, .code [1, 1, 1]] { n := 36, fr := [(0, .p (.lst .strs l)), (2, .p (.v (Value.slice none 0 0))), (3, .i (IntKind.wrap .i64 ((↑(List.length (List.flatten (List.take k l))) : Int) + (↑(List.length (ETy.get .strs l k)) : Int)))), (9, .p (.lst .strs l)), (10, .i (↑(List.length l) : Int)), (11, .i (↑k : Int)), (21, .p (.v (Value.iface 9 (Value.string (bs [(108 : UInt8), 101, 110, 32, 111, 117, 116, 32, 111, 102, 32, 114, 97, 110, 103, 101])))))], ck := [] }) (.stop [.code [1, 1, 0, 1, 0, 0], .inLoop [1, 1, 0, 1, 0, 0], .inBlock 0, .code [1, 1, 1]] { n := 36, fr := [(0, .p (.lst .strs l)), (2, .p (.v (Value.slice none 0 0))), (3, .i (IntKind.wrap .i64 ((↑(List.length (List.flatten (List.take k l))) : Int) + (↑(List.length (ETy.get .strs l k)) : Int)))), (9, .p (.lst .strs l)), (10, .i (↑(List.length l) : Int)), (11, .i (IntKind.wrap .i64 ((↑k : Int) + (1 : Int))))], ck := [] }))) (.need ((0 : Int) ≤ (↑(List.length (List.flatten (List.take k l))) : Int) ∧ (↑(List.length (List.flatten (List.take k l))) : Int) ≤ (1000000 : Int)) (.stop [.code [1, 1, 1, 1, 0, 1, 0, 0], .inLoop [1, 1, 1, 1, 0, 1, 0, 0], .inBlock 2, .code [1, 1, 1, 1, 1]] { n := 36, fr := [(2, .p (.v (Value.slice none 0 0))), (6, .x (.c (.own 0))), (25, .p (.lst .strs l)), (26, .i (↑(List.length l) : Int)), (27, .i (0 : Int))], ck := [.own 9 .str []] })))) (by kernel_rfl) ?_
    refine ⟨fun hlt => ?_, fun hge => ?_⟩
    · have hk' : k < l.length := by have := of_decide_eq_true hlt; omega
      have h1 := flat_le l (k + 1)
      refine ⟨by omega, ?_⟩
      have h2 : IntKind.wrap .i64 (((l.take k).flatten.length : Int) + ((ETy.get .strs l k).length : Int)) = ((l.take (k + 1)).flatten.length : Int) := by
        have h3 : (l.take (k + 1)).flatten.length = (l.take k).flatten.length + (ETy.get .strs l k).length := by
          rw [flat_take hk', List.length_append]
          rw [show ETy.get .strs l k = l[k] from ETy.get_eq (t := .strs) (List.getElem?_eq_getElem hk')]
        rw [wrapI (by omega) (by omega)]; omega
      rw [h2]
      refine ⟨fun hb => ?_, fun _ => ?_⟩
      · have := of_decide_eq_true hb; omega
      rw [wrapK (maxLen_lt hk' hl)]
      first | (exfalso; omega) | exact ih (k + 1) (by omega) (by omega)
    · have hke : k = l.length := by have := of_decide_eq_false hge; omega
      subst hke
      refine ⟨by have := flat_le l l.length; omega, ?_⟩
      exact ccb_loop l Γ hl hs l.length 0 (by omega) (by omega)
theorem concat_spec (l : List (List Str)) (h : l.flatten.length ≤ 1000000) : Does Tryz.prog 23 [.l .strs l] [] (.x (.c (.own 0))) [.own 9 .str l.flatten] := by
  refine Does.go (cfg := cfgCc) cfgCc_ok Tryz.func23 (by kernel_rfl) (by kernel_rfl) (t := (.stop [.code [1, 1, 0, 1, 0, 0], .inLoop [1, 1, 0, 1, 0, 0], .inBlock 0, .code [1, 1, 1]] { n := 36, fr := [(0, .p (.lst .strs l)), (2, .p (.v (Value.slice none 0 0))), (3, .i (0 : Int)), (9, .p (.lst .strs l)), (10, .i (↑(List.length l) : Int)), (11, .i (0 : Int))], ck := [] })) (by kernel_rfl) fun Γ => ?_
  exact J.len 0 rfl fun hl => cca_loop l Γ hl h l.length 0 (by omega) (by omega)
def flatS (l : List (List Str)) : List Str := l.flatten.reverse.reverse
theorem flatS_eq (l : List (List Str)) : flatS l = l.flatten := List.reverse_reverse _
theorem flat_concat (l : List (List Str)) (h : (flatS l).length ≤ 1000000) : Does Tryz.prog 23 [.l .strs l] [] (.x (.c (.own 0))) [.own 9 .str (flatS l)] := by
  rw [flatS_eq] at h ⊢; exact concat_spec l h
def eConcat : Nat × (List SX → List Chunk → Option (Option Prop × SV × List Chunk)) := (23, fun
  | [.c (.pd (.lst .strs l))], [] => some (some ((flatS l).length ≤ 1000000), .x (.c (.own 0)), [.own 9 .str (flatS l)])
  | _, _ => none)
theorem eConcat_ok (vs : List SX) (ck : List Chunk) (p : Option Prop) (ret : SV) (ck' : List Chunk) (h : eConcat.2 vs ck = some (p, ret, ck')) (hp : Holds p) : Does Tryz.prog eConcat.1 vs ck ret ck' := by
  unfold eConcat at h
  simp only at h
  split at h
  · rename_i l
    simp only [Option.some.injEq, Prod.mk.injEq] at h
    obtain ⟨rfl, rfl, rfl⟩ := h
    exact flat_concat l hp
  · simp at h
end Go.Proofs.YtcpnicfkpkonkaaGreatDoor

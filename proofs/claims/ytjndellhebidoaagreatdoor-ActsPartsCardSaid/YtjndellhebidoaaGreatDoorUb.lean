/- Contracts: blocks done. Conditions: numbers are such. -/
import Derived.Test.YtjndellhebidoaaGreatDoorUa
namespace Go.Proofs.YtjndellhebidoaaGreatDoor
open Go Go.Ev
set_option maxRecDepth 100000
def ixV (vs : List Var) (s : Str) : Int := firstAt (fun v : Var => v.name == s) vs 0
def setOk (vs : List Var) (cur : List Val) (d : Deed) : Bool :=
  decide (ixV vs d.name ≥ 0) && (evalM d.expr vs cur []).2 == 0 && fitsM (ETy.get .var vs (ixV vs d.name).toNat) (evalM d.expr vs cur []).1
def errS : Str := [101, 114, 114, 111, 114]
def doGo (vs : List Var) : List Deed → List Val → List Str → List Str → List Val × List Str × List Str × Bool
  | [], cur, rs, ss => (cur, rs, ss, true)
  | d :: r, cur, rs, ss => bif d.kind == 2 then doGo vs r cur (rs ++ [d.name]) ss else bif d.kind == 3 then doGo vs r cur rs (ss ++ [d.name])
    else bif d.kind == 1 then (bif setOk vs cur d then doGo vs r (cur.set (ixV vs d.name).toNat (evalM d.expr vs cur []).1) rs ss else (cur, rs ++ [errS], ss, false)) else (cur, rs ++ [errS], ss, false)
def doM (l : List Deed) (vs : List Var) (vals : List Val) : List Val × List Str × List Str × Bool := doGo vs l vals [] []
theorem evalM_zero {l : List Cell} {vs : List Var} {vals : List Val} {act : List Str} (hv : ∀ v ∈ vals, i64 v.a = true) (h : (evalM l vs vals act).2 = 0) : vs.length = vals.length ∧ i64 (evalM l vs vals act).1.a = true := by
  cases hr : rightM l
  · exfalso; simp [evalM, hr] at h
  · cases hw : worldBad vs vals
    · obtain ⟨hlen, hall⟩ := world_vals hw
      have hv2 : ∀ v ∈ vals, vOk v = true := fun v hx => by simp [vOk, hall v hx, hv v hx]
      obtain ⟨h32, t, ht, hq⟩ := right_tm hr
      have hk : evalM l vs vals act = t.val vs vals act := by rw [← hq]; exact eval_flat vs vals act ht (by rw [hq]; exact h32) hw
      rw [hk] at h ⊢
      exact ⟨hlen, (vOk_iff.1 (Tm.val_ok act hlen hv2 t ht h)).2⟩
    · exfalso; simp [evalM, hr, hw] at h
theorem ixV_lt (vs : List Var) (s : Str) (h : ixV vs s ≥ 0) : ixV vs s < vs.length := by
  rcases firstAt_find (fun v : Var => v.name == s) vs 0 with ⟨h1, _⟩ | ⟨k, x, h1, h2, _⟩
  · have : ixV vs s = -1 := h1
    omega
  · have : ixV vs s = ((0 + k : Nat) : Int) := h1
    have := (List.getElem?_eq_some_iff.1 h2).1
    omega
theorem setOk_parts {vs : List Var} {cur : List Val} {d : Deed} (hv : ∀ v ∈ cur, i64 v.a = true) (h : setOk vs cur d = true) :
    0 ≤ ixV vs d.name ∧ ixV vs d.name < (vs.length : Int) ∧ vs.length = cur.length ∧ i64 (evalM d.expr vs cur []).1.a = true := by
  simp only [setOk, Bool.and_eq_true, decide_eq_true_eq, beq_iff_eq] at h
  have h1 := evalM_zero hv h.1.2
  exact ⟨h.1.1, ixV_lt vs d.name h.1.1, h1.1, h1.2⟩
theorem set_i64 {cur : List Val} (hv : ∀ v ∈ cur, i64 v.a = true) {i : Nat} {x : Val} (hx : i64 x.a = true) : ∀ v ∈ cur.set i x, i64 v.a = true := by
  intro v hm
  rcases List.mem_or_eq_of_mem_set hm with h | rfl
  · exact hv v h
  · exact hx
def cfgDo0 : Cfg := ⟨tys0, [eClone]⟩
theorem cfgDo0_ok : TabOk Tryz.prog cfgDo0.tab := (TabOk.cons eClone_ok TabOk.nil)
def cfgDo : Cfg := ⟨tys0, [eIxd, eEval, eFits]⟩
theorem cfgDo_ok : TabOk Tryz.prog cfgDo.tab := (TabOk.cons eIxd_ok (TabOk.cons eEval_ok (TabOk.cons eFits_ok TabOk.nil)))

def didOut (r : List Val × List Str × List Str × Bool) : Out := fun v c => ∃ m, permV 0 m v c = some (SV.tup [.c (.own 0), .c (.own 1), .c (.own 2), .b r.2.2.2], [.own 49 .val r.1, .own 9 .str r.2.1, .own 9 .str r.2.2.1])
theorem room_few {n : Nat} (h : n ≤ 1000001) : room n 16 := by unfold room maxLen; omega
theorem do_loop (l : List Deed) (vs : List Var) (vals : List Val) (Γ : Ctx) (hl : l.length ≤ 1000000) : ∀ (n k : Nat) (cur : List Val) (rs ss : List Str), l.length - k ≤ n → k ≤ l.length → (∀ v ∈ cur, i64 v.a = true) → rs.length + ss.length ≤ k →
    J Tryz.prog 14 (bodyOf Tryz.f14) Γ (didOut (doGo vs (l.drop k) cur rs ss)) [.code [1, 0, 1, 1, 1, 1, 0, 1, 0, 0], .inLoop [1, 0, 1, 1, 1, 1, 0, 1, 0, 0], .inBlock 0, .code [1, 0, 1, 1, 1, 1, 1], .inScope [1, 0]] ({ n := 82, fr := [(0, .p (.lst .deed l)), (1, .p (.lst .var vs)), (2, .p (.lst .val vals)), (6, .p (.v (Value.slice none 0 0))), (7, .p (.v (Value.slice none 0 0))), (8, .p (.v (Value.slice none 0 0))), (9, .p (.bool false)), (10, .x (.c (.own 0))), (11, .x (.c (.own 1))), (12, .x (.c (.own 2))), (13, .p (.bool true)), (21, .p (.lst .deed l)), (22, .i (↑(List.length l) : Int)), (23, .i (k))], ck := [.own 49 .val cur, .own 9 .str rs, .own 9 .str ss], kn := [13, 9] }) := by
  intro n
  induction n with
  | zero => ?_
  | succ n ih => ?_
  all_goals
    intro k cur rs ss hn hk hv hrs
    refine J.go (cfg := cfgDo) cfgDo_ok Tryz.func14 1000 (t := (.ite (decide ((↑k : Int) < (↑(List.length l) : Int))) (.need ((0 : Int) ≤ (↑k : Int) ∧ (↑k : Int) < (↑(List.length l) : Int)) (.ite (Deed.kind (ETy.get .deed l k) == (2 : Int)) (.need (room (List.length (rs ++ [Deed.name (ETy.get .deed l k)])) 16) (.stop [.code [1, 0, 1, 1, 1, 1, 0, 1, 0, 0], .inLoop [1, 0, 1, 1, 1, 1, 0, 1, 0, 0], .inBlock 0, .code [1, 0, 1, 1, 1, 1, 1], .inScope [1, 0]] { n := 82, fr := [(0, .p (.lst .deed l)), (1, .p (.lst .var vs)), (2, .p (.lst .val vals)), (6, .p (.v (Value.slice none 0 0))), (7, .p (.v (Value.slice none 0 0))), (8, .p (.v (Value.slice none 0 0))), (9, .p (.bool false)), (10, .x (.c (.own 0))), (11, .x (.c (.own 2))), (12, .x (.c (.own 1))), (13, .p (.bool true)), (21, .p (.lst .deed l)), (22, .i (↑(List.length l) : Int)), (23, .i (IntKind.wrap .i64 ((↑k : Int) + (1 : Int))))], ck := [.own 49 .val cur, .own 9 .str ss, .own 9 .str (rs ++ [Deed.name (ETy.get .deed l k)])], kn := [13, 9] })) (.ite (Deed.kind (ETy.get .deed l k) == (3 : Int)) (.need (room (List.length (ss ++ [Deed.name (ETy.get .deed l k)])) 16) (.stop [.code [1, 0, 1, 1, 1, 1, 0, 1, 0, 0], .inLoop [1, 0, 1, 1, 1, 1, 0, 1, 0, 0], .inBlock 0, .code [1, 0, 1, 1, 1, 1, 1], .inScope [1, 0]] { n := 82, fr := [(0, .p (.lst .deed l)), (1, .p (.lst .var vs)), (2, .p (.lst .val vals)), (6, .p (.v (Value.slice none 0 0))), (7, .p (.v (Value.slice none 0 0))), (8, .p (.v (Value.slice none 0 0))), (9, .p (.bool false)), (10, .x (.c (.own 0))), (11, .x (.c (.own 1))), (12, .x (.c (.own 2))), (13, .p (.bool true)), (21, .p (.lst .deed l)), (22, .i (↑(List.length l) : Int)), (23, .i (IntKind.wrap .i64 ((↑k : Int) + (1 : Int))))], ck := [.own 49 .val cur, .own 9 .str rs, .own 9 .str (ss ++ [Deed.name (ETy.get .deed l k)])], kn := [13, 9] })) (.ite (Deed.kind (ETy.get .deed l k) == (1 : Int)) (.need (∀ (v : ETy.den .val), v ∈ cur → i64 (Val.a v) = true) (.need (Prod.snd (Prod.snd (Prod.snd (6, 62, true, onBy true (decide (firstAt (fun v => Var.name v == Deed.name { kind := Deed.kind (ETy.get .deed l k), name := Deed.name (ETy.get .deed l k), expr := Deed.expr (ETy.get .deed l k) }) vs (0 : Int) ≥ (0 : Int)) && Prod.snd (evalM (Deed.expr (ETy.get .deed l k)) vs cur []) == (0 : Int)) none))) → (0 : Int) ≤ firstAt (fun v => Var.name v == Deed.name { kind := Deed.kind (ETy.get .deed l k), name := Deed.name (ETy.get .deed l k), expr := Deed.expr (ETy.get .deed l k) }) vs (0 : Int) ∧ firstAt (fun v => Var.name v == Deed.name { kind := Deed.kind (ETy.get .deed l k), name := Deed.name (ETy.get .deed l k), expr := Deed.expr (ETy.get .deed l k) }) vs (0 : Int) < (↑(List.length vs) : Int)) (.ite (decide (firstAt (fun v => Var.name v == Deed.name { kind := Deed.kind (ETy.get .deed l k), name := Deed.name (ETy.get .deed l k), expr := Deed.expr (ETy.get .deed l k) }) vs (0 : Int) ≥ (0 : Int)) && Prod.snd (evalM (Deed.expr (ETy.get .deed l k)) vs cur []) == (0 : Int) && fitsM { name := Var.name (ETy.get .var vs (Int.toNat (firstAt (fun v => Var.name v == Deed.name { kind := Deed.kind (ETy.get .deed l k), name := Deed.name (ETy.get .deed l k), expr := Deed.expr (ETy.get .deed l k) }) vs (0 : Int)))), kind := Var.kind (ETy.get .var vs (Int.toNat (firstAt (fun v => Var.name v == Deed.name { kind := Deed.kind (ETy.get .deed l k), name := Deed.name (ETy.get .deed l k), expr := Deed.expr (ETy.get .deed l k) }) vs (0 : Int)))), lo := Var.lo (ETy.get .var vs (Int.toNat (firstAt (fun v => Var.name v == Deed.name { kind := Deed.kind (ETy.get .deed l k), name := Deed.name (ETy.get .deed l k), expr := Deed.expr (ETy.get .deed l k) }) vs (0 : Int)))), hi := Var.hi (ETy.get .var vs (Int.toNat (firstAt (fun v => Var.name v == Deed.name { kind := Deed.kind (ETy.get .deed l k), name := Deed.name (ETy.get .deed l k), expr := Deed.expr (ETy.get .deed l k) }) vs (0 : Int)))), init := { kind := Val.kind (Var.init (ETy.get .var vs (Int.toNat (firstAt (fun v => Var.name v == Deed.name { kind := Deed.kind (ETy.get .deed l k), name := Deed.name (ETy.get .deed l k), expr := Deed.expr (ETy.get .deed l k) }) vs (0 : Int))))), a := Val.a (Var.init (ETy.get .var vs (Int.toNat (firstAt (fun v => Var.name v == Deed.name { kind := Deed.kind (ETy.get .deed l k), name := Deed.name (ETy.get .deed l k), expr := Deed.expr (ETy.get .deed l k) }) vs (0 : Int))))), b := Val.b (Var.init (ETy.get .var vs (Int.toNat (firstAt (fun v => Var.name v == Deed.name { kind := Deed.kind (ETy.get .deed l k), name := Deed.name (ETy.get .deed l k), expr := Deed.expr (ETy.get .deed l k) }) vs (0 : Int))))) } } { kind := Val.kind (Prod.fst (evalM (Deed.expr (ETy.get .deed l k)) vs cur [])), a := Val.a (Prod.fst (evalM (Deed.expr (ETy.get .deed l k)) vs cur [])), b := Val.b (Prod.fst (evalM (Deed.expr (ETy.get .deed l k)) vs cur [])) }) (.need ((0 : Int) ≤ firstAt (fun v => Var.name v == Deed.name { kind := Deed.kind (ETy.get .deed l k), name := Deed.name (ETy.get .deed l k), expr := Deed.expr (ETy.get .deed l k) }) vs (0 : Int) ∧ firstAt (fun v => Var.name v == Deed.name { kind := Deed.kind (ETy.get .deed l k), name := Deed.name (ETy.get .deed l k), expr := Deed.expr (ETy.get .deed l k) }) vs (0 : Int) < (↑(List.length cur) : Int)) (.need (Int.toNat (firstAt (fun v => Var.name v == Deed.name { kind := Deed.kind (ETy.get .deed l k), name := Deed.name (ETy.get .deed l k), expr := Deed.expr (ETy.get .deed l k) }) vs (0 : Int)) < List.length cur) (.stop [.code [1, 0, 1, 1, 1, 1, 0, 1, 0, 0], .inLoop [1, 0, 1, 1, 1, 1, 0, 1, 0, 0], .inBlock 0, .code [1, 0, 1, 1, 1, 1, 1], .inScope [1, 0]] { n := 82, fr := [(0, .p (.lst .deed l)), (1, .p (.lst .var vs)), (2, .p (.lst .val vals)), (6, .p (.v (Value.slice none 0 0))), (7, .p (.v (Value.slice none 0 0))), (8, .p (.v (Value.slice none 0 0))), (9, .p (.bool false)), (10, .x (.c (.own 0))), (11, .x (.c (.own 1))), (12, .x (.c (.own 2))), (13, .p (.bool true)), (21, .p (.lst .deed l)), (22, .i (↑(List.length l) : Int)), (23, .i (IntKind.wrap .i64 ((↑k : Int) + (1 : Int))))], ck := [.own 49 .val (List.set cur (Int.toNat (firstAt (fun v => Var.name v == Deed.name { kind := Deed.kind (ETy.get .deed l k), name := Deed.name (ETy.get .deed l k), expr := Deed.expr (ETy.get .deed l k) }) vs (0 : Int))) { kind := Val.kind (Prod.fst (evalM (Deed.expr (ETy.get .deed l k)) vs cur [])), a := Val.a (Prod.fst (evalM (Deed.expr (ETy.get .deed l k)) vs cur [])), b := Val.b (Prod.fst (evalM (Deed.expr (ETy.get .deed l k)) vs cur [])) }), .own 9 .str rs, .own 9 .str ss] }))) (.need (room (List.length (rs ++ [[(101 : UInt8), 114, 114, 111, 114]])) 16) (.ret (.tup [.c (.own 0), .c (.own 2), .c (.own 1), .p (.bool false)]) [.own 49 .val cur, .own 9 .str ss, .own 9 .str (rs ++ [[(101 : UInt8), 114, 114, 111, 114]])]))))) (.need (room (List.length (rs ++ [[(101 : UInt8), 114, 114, 111, 114]])) 16) (.ret (.tup [.c (.own 0), .c (.own 2), .c (.own 1), .p (.bool false)]) [.own 49 .val cur, .own 9 .str ss, .own 9 .str (rs ++ [[(101 : UInt8), 114, 114, 111, 114]])])))))) (.ret (.tup [.c (.own 0), .c (.own 1), .c (.own 2), .p (.bool true)]) [.own 49 .val cur, .own 9 .str rs, .own 9 .str ss]))) (by kernel_rfl) ?_
    refine ⟨fun hlt => ?_, fun hge => ?_⟩
    · have hk' : k < l.length := by have := of_decide_eq_true hlt; omega
      rw [drop_get (t := .deed) hk']
      refine ⟨by omega, ?_⟩
      generalize ETy.get .deed l k = d
      have hw : IntKind.wrap .i64 ((k : Int) + 1) = ((k + 1 : Nat) : Int) := wrapK (by omega)
      rw [hw]
      refine ⟨fun h2 => ⟨room_few (by simp; omega), ?_⟩, fun h2 => ⟨fun h3 => ⟨room_few (by simp; omega), ?_⟩, fun h3 => ⟨fun h1 => ⟨hv, fun hx => ?_, fun h => ?_, fun h => ?_⟩, fun h1 => ⟨room_few (by simp; omega), ?_⟩⟩⟩⟩
      · rw [doGo, h2, cond_true]
        first
        | (exfalso; omega)
        | exact J.perm [0, 2, 1] rfl (ih (k + 1) cur (rs ++ [d.name]) ss (by omega) (by omega) hv (by simp; omega))
      · rw [doGo, h2, h3, cond_false, cond_true]
        first
        | (exfalso; omega)
        | exact ih (k + 1) cur rs (ss ++ [d.name]) (by omega) (by omega) hv (by simp; omega)
      · have hx' : (decide (ixV vs d.name ≥ 0) && (evalM d.expr vs cur []).2 == 0) = true := hx
        simp only [Bool.and_eq_true, decide_eq_true_eq] at hx'
        exact ⟨hx'.1, ixV_lt vs d.name hx'.1⟩
      · have hs : setOk vs cur d = true := h
        obtain ⟨g1, g2, g3, g4⟩ := setOk_parts hv hs
        refine ⟨⟨g1, by rw [← g3]; exact g2⟩, by rw [← g3]; exact (by omega : (ixV vs d.name).toNat < vs.length), ?_⟩
        rw [doGo, h2, h3, h1, hs, cond_false, cond_false, cond_true, cond_true]
        first
        | (exfalso; omega)
        | exact J.kn [13, 9] (ih (k + 1) (cur.set (ixV vs d.name).toNat (evalM d.expr vs cur []).1) rs ss (by omega) (by omega) (set_i64 hv g4) (by omega))
      · have hs : setOk vs cur d = false := h
        refine ⟨room_few (by simp; omega), ?_⟩
        rw [doGo, h2, h3, h1, hs]
        exact ⟨[0, 2, 1], rfl⟩
      · rw [doGo, h2, h3, h1]
        exact ⟨[0, 2, 1], rfl⟩
    · rw [drop_end (l := l) (by have := of_decide_eq_false hge; omega)]
      exact ⟨[0, 1, 2], rfl⟩
theorem do_spec (l : List Deed) (vs : List Var) (vals : List Val) (hl : l.length ≤ 1000000) (hr : room vals.length 24) (hv : ∀ v ∈ vals, i64 v.a = true) :
    Does Tryz.prog 14 [.l .deed l, .l .var vs, .l .val vals] [] (.tup [.c (.own 0), .c (.own 1), .c (.own 2), .b (doM l vs vals).2.2.2]) [.own 49 .val (doM l vs vals).1, .own 9 .str (doM l vs vals).2.1, .own 9 .str (doM l vs vals).2.2.1] := by
  refine Does.perm Tryz.func14 (by kernel_rfl) (by kernel_rfl) fun Γ => ?_
  refine J.go (cfg := cfgDo0) cfgDo0_ok Tryz.func14 1000 (t := (.need (room (List.length vals) 24) (.stop [.code [1, 0, 1, 1, 1, 1, 0, 1, 0, 0], .inLoop [1, 0, 1, 1, 1, 1, 0, 1, 0, 0], .inBlock 0, .code [1, 0, 1, 1, 1, 1, 1], .inScope [1, 0]] { n := 82, fr := [(0, .p (.lst .deed l)), (1, .p (.lst .var vs)), (2, .p (.lst .val vals)), (6, .p (.v (Value.slice none 0 0))), (7, .p (.v (Value.slice none 0 0))), (8, .p (.v (Value.slice none 0 0))), (9, .p (.bool false)), (10, .x (.c (.own 0))), (11, .p (.v (Value.slice none 0 0))), (12, .p (.v (Value.slice none 0 0))), (13, .p (.bool true)), (21, .p (.lst .deed l)), (22, .i (↑(List.length l) : Int)), (23, .i (0 : Int))], ck := [.own 49 .val vals], kn := [13, 9] }))) (by kernel_rfl) ?_
  refine ⟨hr, ?_⟩
  refine J.nilOwn 11 9 .str rfl (by kernel_rfl) ?_
  refine J.nilOwn 12 9 .str rfl (by kernel_rfl) ?_
  exact do_loop l vs vals Γ hl l.length 0 vals [] [] (by omega) (by omega) hv (by simp)
def eDo : Nat × (List SX → List Chunk → Option (Option Prop × SV × List Chunk)) := (14, fun
  | [.c (.pd (.lst .deed l)), .c (.pd (.lst .var vs)), .c (.pd (.lst .val vals))], [] => some (some (l.length ≤ 1000000 ∧ room vals.length 24 ∧ ∀ v ∈ vals, i64 v.a = true), .tup [.c (.own 0), .c (.own 1), .c (.own 2), .c (.pd (.bool (doM l vs vals).2.2.2))], [.own 49 .val (doM l vs vals).1, .own 9 .str (doM l vs vals).2.1, .own 9 .str (doM l vs vals).2.2.1])
  | _, _ => none)
theorem eDo_ok (vs : List SX) (ck : List Chunk) (p : Option Prop) (ret : SV) (ck' : List Chunk) (h : eDo.2 vs ck = some (p, ret, ck')) (hp : Holds p) : Does Tryz.prog eDo.1 vs ck ret ck' := by
  unfold eDo at h
  simp only at h
  split at h
  · rename_i l vs vals
    simp only [Option.some.injEq, Prod.mk.injEq] at h
    obtain ⟨rfl, rfl, rfl⟩ := h
    exact do_spec l vs vals hp.1 hp.2.1 hp.2.2
  · simp at h
end Go.Proofs.YtjndellhebidoaaGreatDoor

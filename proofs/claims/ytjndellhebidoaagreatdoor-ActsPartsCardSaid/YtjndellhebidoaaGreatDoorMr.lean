/- Contracts: blocks told. Conditions: none. Contracts of the document's reader of expressions: numbers, operands. Conditions: places within the text. Contracts of the document's reader of expressions: what stands behind an operand. Conditions: places within the text. -/
import Derived.Test.YtjndellhebidoaaGreatDoorShelfb
import Derived.Test.YtjndellhebidoaaGreatDoorOg
import Derived.Test.YtjndellhebidoaaGreatDoorNd
import Derived.Test.YtjndellhebidoaaGreatDoorOa
namespace Go.Proofs.YtjndellhebidoaaGreatDoor
open Go Go.Ev
set_option maxRecDepth 100000
def deedS (d : Deed) : Str := bif d.kind == 1 then d.name ++ [61] ++ showM d.expr else bif d.kind == 2 then raiseS ++ d.name else sendS ++ d.name
def showB (l : List Deed) : Str := Lib.join (l.map deedS) [59]
theorem deedOk_one {d : Deed} (h : deedOk d = true) (h1 : (d.kind == 1) = true) : nameM d.name = true ∧ rightM d.expr = true ∧ asksM d.expr = false := by
  rw [deedOk, h1, cond_true, Bool.and_eq_true] at h
  have h2 := h.2
  rw [plainM, Bool.and_eq_true] at h2
  exact ⟨h.1, h2.1, nt h2.2⟩
theorem deedOk_not {d : Deed} (h : deedOk d = true) (h1 : (d.kind == 1) = false) : (d.kind = 2 ∨ d.kind = 3) ∧ eventM d.name = true ∧ d.expr = [] := by
  rw [deedOk, h1, cond_false] at h
  cases h2 : (d.kind == 2 || d.kind == 3)
  · rw [h2] at h; cases h
  · rw [h2, cond_true, Bool.and_eq_true] at h
    refine ⟨by simpa using h2, h.1, ?_⟩
    have h3 := h.2
    have : (d.expr.length : Int) = 0 := by simpa using h3
    exact List.length_eq_zero_iff.1 (by omega)
theorem nameM_len {w : Str} (h : nameM w = true) : w.length ≤ 12 := by
  have h1 := (nameM_word h).2.2.2.2.2.2.2
  have h2 : strLen w = (w.length : Int) := rfl
  omega
theorem eventM_len {w : Str} (h : eventM w = true) : w.length ≤ 17 := by
  have h1 := nameM_len h
  unfold cutP at h1
  cases hp : hasP w [100, 111, 110, 101, 46]
  · rw [hp, cond_false] at h1; omega
  · rw [hp, cond_true, List.length_drop] at h1
    have : (strLen [100, 111, 110, 101, 46]).toNat = 5 := rfl
    omega
theorem showM_len {l : List Cell} (h : rightM l = true) : (showM l).length ≤ 512 := by
  obtain ⟨hl, t, ht, hf⟩ := right_tm h
  rw [← hf, show_tree ht]
  have := (body_len t ht).1
  rw [hf] at this; omega
theorem deedS_len {d : Deed} (h : deedOk d = true) : d.name.length ≤ 17 ∧ (deedS d).length ≤ 600 ∧ (rightM d.expr = true → (showM d.expr).length ≤ 512) := by
  refine ⟨?_, ?_, showM_len⟩
  · cases h1 : d.kind == 1
    · exact eventM_len (deedOk_not h h1).2.1
    · have := nameM_len (deedOk_one h h1).1; omega
  · unfold deedS
    cases h1 : d.kind == 1
    · have := eventM_len (deedOk_not h h1).2.1
      cases d.kind == 2
      · simp only [cond_false, List.length_append, sendS, List.length_cons, List.length_nil]; omega
      · simp only [cond_true, cond_false, List.length_append, raiseS, List.length_cons, List.length_nil]; omega
    · have g := deedOk_one h h1
      have := nameM_len g.1
      have := showM_len g.2.1
      simp only [cond_true, List.length_append, List.length_cons, List.length_nil]; omega
theorem tail_len : ∀ r : List Str, (∀ x ∈ r, x.length ≤ 600) → (Lib.joinTail [59] r).length ≤ 601 * r.length
  | [], _ => by simp [Lib.joinTail]
  | x :: r, h => by
    have h1 := tail_len r fun y hy => h y (List.mem_cons_of_mem _ hy)
    have h2 := h x List.mem_cons_self
    have e : Lib.joinTail [59] (x :: r) = [59] ++ x ++ Lib.joinTail [59] r := by simp [Lib.joinTail]
    rw [e]; simp only [List.length_append, List.length_cons, List.length_nil]; omega
theorem join_len (r : List Str) (h : ∀ x ∈ r, x.length ≤ 600) : (Lib.join r [59]).length ≤ 601 * r.length := by
  cases r with
  | nil => simp [Lib.join_nil]
  | cons x r =>
    rw [Lib.join_cons, List.length_append]
    have h1 := tail_len r fun y hy => h y (List.mem_cons_of_mem _ hy)
    have h2 := h x List.mem_cons_self
    simp only [List.length_cons]; omega
theorem block_parts {l : List Deed} (h : blockOk l = true) : (∀ d ∈ l, deedOk d = true) ∧ 0 < l.length ∧ l.length ≤ 8 := by
  simp only [blockOk, Bool.and_eq_true, List.all_eq_true, decide_eq_true_eq] at h
  exact ⟨h.1, by omega, by omega⟩
def eShow1 : Nat × (List SX → List Chunk → Option (Option Prop × SV × List Chunk)) := (35, fun
  | [.c (.pd (.lst .cell l))], [] => some (some (rightM l = true), .tup [.c (.pd (.str (showM l))), .c (.pd (.int .i64 0))], [])
  | _, _ => none)
theorem eShow1_ok (vs : List SX) (ck : List Chunk) (p : Option Prop) (ret : SV) (ck' : List Chunk) (h : eShow1.2 vs ck = some (p, ret, ck')) (hp : Holds p) : Does Tryz.prog eShow1.1 vs ck ret ck' := by
  unfold eShow1 at h
  simp only at h
  split at h
  · rename_i l
    simp only [Option.some.injEq, Prod.mk.injEq] at h
    obtain ⟨rfl, rfl, rfl⟩ := h
    exact show_ok l hp
  · simp at h
def eRsh1 : Nat × (List SX → List Chunk → Option (Option Prop × SV × List Chunk)) := (37, fun
  | [.c (.pd (.lst .cell l))], [] => some (some (rightM l = true), .tup [.c (.pd (.str (showM l))), .c (.pd (.int .i64 0))], [])
  | _, _ => none)
theorem eRsh1_ok (vs : List SX) (ck : List Chunk) (p : Option Prop) (ret : SV) (ck' : List Chunk) (h : eRsh1.2 vs ck = some (p, ret, ck')) (hp : Holds p) : Does Tryz.prog eRsh1.1 vs ck ret ck' := by
  unfold eRsh1 at h
  simp only at h
  split at h
  · rename_i l
    simp only [Option.some.injEq, Prod.mk.injEq] at h
    obtain ⟨rfl, rfl, rfl⟩ := h
    exact ref_show_ok l hp
  · simp at h
def cfgSb : Cfg := ⟨tys0, [eBlock, eShow1, eJoin]⟩
theorem cfgSb_ok : TabOk Tryz.prog cfgSb.tab := (TabOk.cons eBlock_ok (TabOk.cons eShow1_ok (TabOk.cons eJoin_ok TabOk.nil)))

theorem sb_loop (l : List Deed) (Γ : Ctx) (h : blockOk l = true) : ∀ (n k : Nat) (out : List Str), l.length - k ≤ n → k ≤ l.length → out.length = k → out ++ (l.drop k).map deedS = l.map deedS →
    J Tryz.prog 20 (bodyOf Tryz.f20) Γ (Eq2 (.tup [.s (showB l), .i 0]) []) [.code [1, 1, 1, 0, 1, 0, 0], .inLoop [1, 1, 1, 0, 1, 0, 0], .inBlock 0, .code [1, 1, 1, 1]] ({ n := 53, fr := [(2, .p (.str [])), (3, .i (0 : Int)), (4, .x (.c (.own 0))), (12, .p (.lst .deed l)), (13, .i (↑(List.length l) : Int)), (14, .i (k))], ck := [.own 9 .str out] }) := by
  obtain ⟨hd, hp, hl⟩ := block_parts h
  intro n
  induction n with
  | zero => ?_
  | succ n ih => ?_
  all_goals
    intro k out hn hk ho hall
    refine J.go (cfg := cfgSb) cfgSb_ok Tryz.func20 1000 (t := (.ite (decide ((↑k : Int) < (↑(List.length l) : Int))) (.need ((0 : Int) ≤ (↑k : Int) ∧ (↑k : Int) < (↑(List.length l) : Int)) (.ite (Deed.kind (ETy.get .deed l k) == (1 : Int)) (.need (rightM (Deed.expr (ETy.get .deed l k)) = true) (.need (List.length (Deed.name (ETy.get .deed l k)) + 1 ≤ 9223372036854775807) (.need (List.length (Deed.name (ETy.get .deed l k) ++ [(61 : UInt8)]) + List.length (showM (Deed.expr (ETy.get .deed l k))) ≤ 9223372036854775807) (.need (room (List.length (out ++ [Deed.name (ETy.get .deed l k) ++ [(61 : UInt8)] ++ showM (Deed.expr (ETy.get .deed l k))])) 16) (.stop [.code [1, 1, 1, 0, 1, 0, 0], .inLoop [1, 1, 1, 0, 1, 0, 0], .inBlock 0, .code [1, 1, 1, 1]] { n := 53, fr := [(2, .p (.str [])), (3, .i (0 : Int)), (4, .x (.c (.own 0))), (12, .p (.lst .deed l)), (13, .i (↑(List.length l) : Int)), (14, .i (IntKind.wrap .i64 ((↑k : Int) + (1 : Int))))], ck := [.own 9 .str (out ++ [Deed.name (ETy.get .deed l k) ++ [(61 : UInt8)] ++ showM (Deed.expr (ETy.get .deed l k))])] }))))) (.ite (Deed.kind (ETy.get .deed l k) == (2 : Int)) (.need (6 + List.length (Deed.name (ETy.get .deed l k)) ≤ 9223372036854775807) (.need (room (List.length (out ++ [[(114 : UInt8), 97, 105, 115, 101, 58] ++ Deed.name (ETy.get .deed l k)])) 16) (.stop [.code [1, 1, 1, 0, 1, 0, 0], .inLoop [1, 1, 1, 0, 1, 0, 0], .inBlock 0, .code [1, 1, 1, 1]] { n := 53, fr := [(2, .p (.str [])), (3, .i (0 : Int)), (4, .x (.c (.own 0))), (12, .p (.lst .deed l)), (13, .i (↑(List.length l) : Int)), (14, .i (IntKind.wrap .i64 ((↑k : Int) + (1 : Int))))], ck := [.own 9 .str (out ++ [[(114 : UInt8), 97, 105, 115, 101, 58] ++ Deed.name (ETy.get .deed l k)])] }))) (.need (5 + List.length (Deed.name (ETy.get .deed l k)) ≤ 9223372036854775807) (.need (room (List.length (out ++ [[(115 : UInt8), 101, 110, 100, 58] ++ Deed.name (ETy.get .deed l k)])) 16) (.stop [.code [1, 1, 1, 0, 1, 0, 0], .inLoop [1, 1, 1, 0, 1, 0, 0], .inBlock 0, .code [1, 1, 1, 1]] { n := 53, fr := [(2, .p (.str [])), (3, .i (0 : Int)), (4, .x (.c (.own 0))), (12, .p (.lst .deed l)), (13, .i (↑(List.length l) : Int)), (14, .i (IntKind.wrap .i64 ((↑k : Int) + (1 : Int))))], ck := [.own 9 .str (out ++ [[(115 : UInt8), 101, 110, 100, 58] ++ Deed.name (ETy.get .deed l k)])] })))))) (.need (List.length out ≤ 140737488355328 ∧ List.length (Lib.join out [(59 : UInt8)]) ≤ 140737488355328) (.ret (.tup [.p (.str (Lib.join out [(59 : UInt8)])), .i (0 : Int)]) [])))) (by kernel_rfl) ?_
    refine ⟨fun hlt => ?_, fun hge => ?_⟩
    · have hk' : k < l.length := by have := of_decide_eq_true hlt; omega
      have hdk := hd _ (List.mem_of_getElem? (ETy.getElem?_get (t := .deed) hk'))
      rw [drop_get (t := .deed) hk', List.map_cons] at hall
      refine ⟨by omega, ?_⟩
      generalize ETy.get .deed l k = d at hall hdk
      obtain ⟨g1, g2, g3⟩ := deedS_len hdk
      have hw : IntKind.wrap .i64 ((k : Int) + 1) = ((k + 1 : Nat) : Int) := wrapK (by omega)
      rw [hw]
      have next : ∀ x : Str, deedS d = x → J Tryz.prog 20 (bodyOf Tryz.f20) Γ (Eq2 (.tup [.s (showB l), .i 0]) []) [.code [1, 1, 1, 0, 1, 0, 0], .inLoop [1, 1, 1, 0, 1, 0, 0], .inBlock 0, .code [1, 1, 1, 1]] ({ n := 53, fr := [(2, .p (.str [])), (3, .i (0 : Int)), (4, .x (.c (.own 0))), (12, .p (.lst .deed l)), (13, .i (↑(List.length l) : Int)), (14, .i (((k + 1 : Nat) : Int)))], ck := [.own 9 .str (out ++ [x])] }) := fun x hx => by
        first
        | (exfalso; omega)
        | exact ih (k + 1) (out ++ [x]) (by omega) (by omega) (by simp; omega) (by rw [← hall, ← hx]; simp)
      refine ⟨fun h1 => ?_, fun h1 => ⟨fun h2 => ?_, fun h2 => ?_⟩⟩
      · have g := deedOk_one hdk h1
        have g4 := g3 g.2.1
        refine ⟨g.2.1, by omega, by simp only [List.length_append, List.length_cons, List.length_nil]; omega, room_few (by simp; omega), next _ ?_⟩
        rw [deedS, h1]; rfl
      · refine ⟨by omega, room_few (by simp; omega), next _ ?_⟩
        rw [deedS, h1, h2]; rfl
      · refine ⟨by omega, room_few (by simp; omega), next _ ?_⟩
        rw [deedS, h1, h2]; rfl
    · rw [drop_end (l := l) (by have := of_decide_eq_false hge; omega), List.map_nil, List.append_nil] at hall
      rw [hall]
      have hj := join_len (l.map deedS) (fun x hx => by
        obtain ⟨d, hd', rfl⟩ := List.mem_map.1 hx
        exact (deedS_len (hd d hd')).2.1)
      rw [List.length_map] at hj
      exact ⟨⟨by rw [List.length_map]; omega, by omega⟩, rfl, rfl⟩
theorem sb_ok (l : List Deed) (h : blockOk l = true) : Does Tryz.prog 20 [.l .deed l] [] (.tup [.s (showB l), .i 0]) [] := by
  refine Does.go (cfg := cfgSb) cfgSb_ok Tryz.func20 (by kernel_rfl) (by kernel_rfl) (t := (.ite (!blockOk l) (.ret (.tup [.p (.str []), .i (1 : Int)]) []) (.stop [.code [1, 1, 1, 0, 1, 0, 0], .inLoop [1, 1, 1, 0, 1, 0, 0], .inBlock 0, .code [1, 1, 1, 1]] { n := 53, fr := [(2, .p (.str [])), (3, .i (0 : Int)), (4, .p (.v (Value.slice none 0 0))), (12, .p (.lst .deed l)), (13, .i (↑(List.length l) : Int)), (14, .i (0 : Int))], ck := [] }))) (by kernel_rfl) fun Γ => ?_
  refine ⟨fun h' => (by rw [h] at h'; cases h'), fun _ => ?_⟩
  refine J.nilOwn 4 9 .str rfl (by kernel_rfl) ?_
  exact sb_loop l Γ h l.length 0 [] (by omega) (by omega) rfl rfl
theorem sb_bad (l : List Deed) (h : blockOk l = false) : Does Tryz.prog 20 [.l .deed l] [] (.tup [.s [], .i 1]) [] := by
  refine Does.go (cfg := cfgSb) cfgSb_ok Tryz.func20 (by kernel_rfl) (by kernel_rfl) (t := (.ite (!blockOk l) (.ret (.tup [.p (.str []), .i (1 : Int)]) []) (.stop [.code [1, 1, 1, 0, 1, 0, 0], .inLoop [1, 1, 1, 0, 1, 0, 0], .inBlock 0, .code [1, 1, 1, 1]] { n := 53, fr := [(2, .p (.str [])), (3, .i (0 : Int)), (4, .p (.v (Value.slice none 0 0))), (12, .p (.lst .deed l)), (13, .i (↑(List.length l) : Int)), (14, .i (0 : Int))], ck := [] }))) (by kernel_rfl) fun Γ => ?_
  exact ⟨fun _ => ⟨rfl, rfl⟩, fun h' => (by rw [h] at h'; cases h')⟩
def eSb1 : Nat × (List SX → List Chunk → Option (Option Prop × SV × List Chunk)) := (20, fun
  | [.c (.pd (.lst .deed l))], [] => some (some (blockOk l = true), .tup [.c (.pd (.str (showB l))), .c (.pd (.int .i64 0))], [])
  | _, _ => none)
theorem eSb1_ok (vs : List SX) (ck : List Chunk) (p : Option Prop) (ret : SV) (ck' : List Chunk) (h : eSb1.2 vs ck = some (p, ret, ck')) (hp : Holds p) : Does Tryz.prog eSb1.1 vs ck ret ck' := by
  unfold eSb1 at h
  simp only at h
  split at h
  · rename_i l
    simp only [Option.some.injEq, Prod.mk.injEq] at h
    obtain ⟨rfl, rfl, rfl⟩ := h
    exact sb_ok l hp
  · simp at h
def eSb0 : Nat × (List SX → List Chunk → Option (Option Prop × SV × List Chunk)) := (20, fun
  | [.c (.pd (.lst .deed l))], [] => some (some (blockOk l = false), .tup [.c (.pd (.str [])), .c (.pd (.int .i64 1))], [])
  | _, _ => none)
theorem eSb0_ok (vs : List SX) (ck : List Chunk) (p : Option Prop) (ret : SV) (ck' : List Chunk) (h : eSb0.2 vs ck = some (p, ret, ck')) (hp : Holds p) : Does Tryz.prog eSb0.1 vs ck ret ck' := by
  unfold eSb0 at h
  simp only at h
  split at h
  · rename_i l
    simp only [Option.some.injEq, Prod.mk.injEq] at h
    obtain ⟨rfl, rfl, rfl⟩ := h
    exact sb_bad l hp
  · simp at h
/-! ### the document's -/
def cfgRs : Cfg := ⟨tys0, [eRblock, eRsh1]⟩
theorem cfgRs_ok : TabOk Tryz.prog cfgRs.tab := (TabOk.cons eRblock_ok (TabOk.cons eRsh1_ok TabOk.nil))

theorem rs_loop (l : List Deed) (Γ : Ctx) (h : blockOk l = true) : ∀ (n k : Nat) (s : Str), l.length - k ≤ n → k ≤ l.length → s.length ≤ 700 * k → (bif decide ((k : Int) > 0) then s ++ Lib.joinTail [59] ((l.drop k).map deedS) else s ++ Lib.join ((l.drop k).map deedS) [59]) = showB l →
    J Tryz.prog 21 (bodyOf Tryz.f21) Γ (Eq2 (.tup [.s (showB l), .i 0]) []) [.code [1, 1, 1, 0, 1, 0, 0], .inLoop [1, 1, 1, 0, 1, 0, 0], .inBlock 0, .code [1, 1, 1, 1]] ({ n := 66, fr := [(0, .p (.lst .deed l)), (2, .p (.str [])), (3, .i (0 : Int)), (4, .p (.str (s))), (5, .i (k))], ck := [] }) := by
  obtain ⟨hd, hp, hl⟩ := block_parts h
  intro n
  induction n with
  | zero => ?_
  | succ n ih => ?_
  all_goals
    intro k s hn hk hs hall
    refine J.go (cfg := cfgRs) cfgRs_ok Tryz.func21 1000 (t := (.ite (decide ((↑k : Int) < (↑(List.length l) : Int))) (.ite (decide ((↑k : Int) > (0 : Int))) (.need (List.length s + 1 ≤ 9223372036854775807) (.need ((0 : Int) ≤ (↑k : Int) ∧ (↑k : Int) < (↑(List.length l) : Int)) (.ite (Deed.kind (ETy.get .deed l k) == (2 : Int)) (.need ((0 : Int) ≤ (↑k : Int) ∧ (↑k : Int) < (↑(List.length l) : Int)) (.need (6 + List.length (Deed.name (ETy.get .deed l k)) ≤ 9223372036854775807) (.need (List.length (s ++ [(59 : UInt8)]) + List.length ([(114 : UInt8), 97, 105, 115, 101, 58] ++ Deed.name (ETy.get .deed l k)) ≤ 9223372036854775807) (.stop [.code [1, 1, 1, 0, 1, 0, 0], .inLoop [1, 1, 1, 0, 1, 0, 0], .inBlock 0, .code [1, 1, 1, 1]] { n := 66, fr := [(0, .p (.lst .deed l)), (2, .p (.str [])), (3, .i (0 : Int)), (4, .p (.str (s ++ [(59 : UInt8)] ++ ([(114 : UInt8), 97, 105, 115, 101, 58] ++ Deed.name (ETy.get .deed l k))))), (5, .i (IntKind.wrap .i64 ((↑k : Int) + (1 : Int))))], ck := [] })))) (.ite (Deed.kind (ETy.get .deed l k) == (3 : Int)) (.need ((0 : Int) ≤ (↑k : Int) ∧ (↑k : Int) < (↑(List.length l) : Int)) (.need (5 + List.length (Deed.name (ETy.get .deed l k)) ≤ 9223372036854775807) (.need (List.length (s ++ [(59 : UInt8)]) + List.length ([(115 : UInt8), 101, 110, 100, 58] ++ Deed.name (ETy.get .deed l k)) ≤ 9223372036854775807) (.stop [.code [1, 1, 1, 0, 1, 0, 0], .inLoop [1, 1, 1, 0, 1, 0, 0], .inBlock 0, .code [1, 1, 1, 1]] { n := 66, fr := [(0, .p (.lst .deed l)), (2, .p (.str [])), (3, .i (0 : Int)), (4, .p (.str (s ++ [(59 : UInt8)] ++ ([(115 : UInt8), 101, 110, 100, 58] ++ Deed.name (ETy.get .deed l k))))), (5, .i (IntKind.wrap .i64 ((↑k : Int) + (1 : Int))))], ck := [] })))) (.need ((0 : Int) ≤ (↑k : Int) ∧ (↑k : Int) < (↑(List.length l) : Int)) (.need (rightM (Deed.expr (ETy.get .deed l k)) = true) (.need ((0 : Int) ≤ (↑k : Int) ∧ (↑k : Int) < (↑(List.length l) : Int)) (.need (List.length (Deed.name (ETy.get .deed l k)) + 1 ≤ 9223372036854775807) (.need (List.length (Deed.name (ETy.get .deed l k) ++ [(61 : UInt8)]) + List.length (showM (Deed.expr (ETy.get .deed l k))) ≤ 9223372036854775807) (.need (List.length (s ++ [(59 : UInt8)]) + List.length (Deed.name (ETy.get .deed l k) ++ [(61 : UInt8)] ++ showM (Deed.expr (ETy.get .deed l k))) ≤ 9223372036854775807) (.stop [.code [1, 1, 1, 0, 1, 0, 0], .inLoop [1, 1, 1, 0, 1, 0, 0], .inBlock 0, .code [1, 1, 1, 1]] { n := 66, fr := [(0, .p (.lst .deed l)), (2, .p (.str [])), (3, .i (0 : Int)), (4, .p (.str (s ++ [(59 : UInt8)] ++ (Deed.name (ETy.get .deed l k) ++ [(61 : UInt8)] ++ showM (Deed.expr (ETy.get .deed l k)))))), (5, .i (IntKind.wrap .i64 ((↑k : Int) + (1 : Int))))], ck := [] }))))))))))) (.need ((0 : Int) ≤ (↑k : Int) ∧ (↑k : Int) < (↑(List.length l) : Int)) (.ite (Deed.kind (ETy.get .deed l k) == (2 : Int)) (.need ((0 : Int) ≤ (↑k : Int) ∧ (↑k : Int) < (↑(List.length l) : Int)) (.need (6 + List.length (Deed.name (ETy.get .deed l k)) ≤ 9223372036854775807) (.need (List.length s + List.length ([(114 : UInt8), 97, 105, 115, 101, 58] ++ Deed.name (ETy.get .deed l k)) ≤ 9223372036854775807) (.stop [.code [1, 1, 1, 0, 1, 0, 0], .inLoop [1, 1, 1, 0, 1, 0, 0], .inBlock 0, .code [1, 1, 1, 1]] { n := 66, fr := [(0, .p (.lst .deed l)), (2, .p (.str [])), (3, .i (0 : Int)), (4, .p (.str (s ++ ([(114 : UInt8), 97, 105, 115, 101, 58] ++ Deed.name (ETy.get .deed l k))))), (5, .i (IntKind.wrap .i64 ((↑k : Int) + (1 : Int))))], ck := [] })))) (.ite (Deed.kind (ETy.get .deed l k) == (3 : Int)) (.need ((0 : Int) ≤ (↑k : Int) ∧ (↑k : Int) < (↑(List.length l) : Int)) (.need (5 + List.length (Deed.name (ETy.get .deed l k)) ≤ 9223372036854775807) (.need (List.length s + List.length ([(115 : UInt8), 101, 110, 100, 58] ++ Deed.name (ETy.get .deed l k)) ≤ 9223372036854775807) (.stop [.code [1, 1, 1, 0, 1, 0, 0], .inLoop [1, 1, 1, 0, 1, 0, 0], .inBlock 0, .code [1, 1, 1, 1]] { n := 66, fr := [(0, .p (.lst .deed l)), (2, .p (.str [])), (3, .i (0 : Int)), (4, .p (.str (s ++ ([(115 : UInt8), 101, 110, 100, 58] ++ Deed.name (ETy.get .deed l k))))), (5, .i (IntKind.wrap .i64 ((↑k : Int) + (1 : Int))))], ck := [] })))) (.need ((0 : Int) ≤ (↑k : Int) ∧ (↑k : Int) < (↑(List.length l) : Int)) (.need (rightM (Deed.expr (ETy.get .deed l k)) = true) (.need ((0 : Int) ≤ (↑k : Int) ∧ (↑k : Int) < (↑(List.length l) : Int)) (.need (List.length (Deed.name (ETy.get .deed l k)) + 1 ≤ 9223372036854775807) (.need (List.length (Deed.name (ETy.get .deed l k) ++ [(61 : UInt8)]) + List.length (showM (Deed.expr (ETy.get .deed l k))) ≤ 9223372036854775807) (.need (List.length s + List.length (Deed.name (ETy.get .deed l k) ++ [(61 : UInt8)] ++ showM (Deed.expr (ETy.get .deed l k))) ≤ 9223372036854775807) (.stop [.code [1, 1, 1, 0, 1, 0, 0], .inLoop [1, 1, 1, 0, 1, 0, 0], .inBlock 0, .code [1, 1, 1, 1]] { n := 66, fr := [(0, .p (.lst .deed l)), (2, .p (.str [])), (3, .i (0 : Int)), (4, .p (.str (s ++ (Deed.name (ETy.get .deed l k) ++ [(61 : UInt8)] ++ showM (Deed.expr (ETy.get .deed l k)))))), (5, .i (IntKind.wrap .i64 ((↑k : Int) + (1 : Int))))], ck := [] }))))))))))) (.ret (.tup [.p (.str s), .i (0 : Int)]) []))) (by kernel_rfl) ?_
    refine ⟨fun hlt => ?_, fun hge => ?_⟩
    · have hk' : k < l.length := by have := of_decide_eq_true hlt; omega
      have hdk := hd _ (List.mem_of_getElem? (ETy.getElem?_get (t := .deed) hk'))
      rw [drop_get (t := .deed) hk', List.map_cons] at hall
      generalize ETy.get .deed l k = d at hall hdk
      obtain ⟨g1, g2, g3⟩ := deedS_len hdk
      have hw : IntKind.wrap .i64 ((k : Int) + 1) = ((k + 1 : Nat) : Int) := wrapK (by omega)
      rw [hw]
      have next : ∀ x : Str, x.length ≤ 700 * (k + 1) → x ++ Lib.joinTail [59] ((l.drop (k + 1)).map deedS) = showB l → J Tryz.prog 21 (bodyOf Tryz.f21) Γ (Eq2 (.tup [.s (showB l), .i 0]) []) [.code [1, 1, 1, 0, 1, 0, 0], .inLoop [1, 1, 1, 0, 1, 0, 0], .inBlock 0, .code [1, 1, 1, 1]] ({ n := 66, fr := [(0, .p (.lst .deed l)), (2, .p (.str [])), (3, .i (0 : Int)), (4, .p (.str (x))), (5, .i (((k + 1 : Nat) : Int)))], ck := [] }) := fun x hx hy => by
        first
        | (exfalso; omega)
        | exact ih (k + 1) x (by omega) (by omega) hx (by rw [decide_eq_true (show (((k + 1 : Nat) : Int) > 0) by omega), cond_true]; exact hy)
      have tl : ∀ (x : Str) (r : List Str), Lib.joinTail [59] (x :: r) = [59] ++ x ++ Lib.joinTail [59] r := fun x r => by simp [Lib.joinTail]
      have s2 : (d.kind == 2) = true → deedS d = raiseS ++ d.name := fun h2 => by
        have : (d.kind == 1) = false := by have : d.kind = 2 := by simpa using h2
                                           rw [this]; rfl
        rw [deedS, this, h2]; rfl
      have s3 : (d.kind == 3) = true → deedS d = sendS ++ d.name := fun h2 => by
        have : d.kind = 3 := by simpa using h2
        rw [deedS, this]; rfl
      have s1 : (d.kind == 2) = false → (d.kind == 3) = false → deedS d = d.name ++ [61] ++ showM d.expr ∧ rightM d.expr = true := fun h2 h3 => by
        have h1 : (d.kind == 1) = true := by
          cases h1 : d.kind == 1
          · have := (deedOk_not hdk h1).1
            rcases this with e | e <;> rw [e] at h2 h3 <;> first | (cases h2; done) | (cases h3; done)
          · rfl
        exact ⟨by rw [deedS, h1]; rfl, (deedOk_one hdk h1).2.1⟩
      have la : ∀ {a b : Str}, (a ++ b).length = a.length + b.length := List.length_append
      have l1 : ([59] : Str).length = 1 := rfl
      have l2 : ([61] : Str).length = 1 := rfl
      have lr : raiseS.length = 6 := rfl
      have ls : sendS.length = 5 := rfl
      have lR : ([114, 97, 105, 115, 101, 58] : Str).length = 6 := rfl
      have lS : ([115, 101, 110, 100, 58] : Str).length = 5 := rfl
      refine ⟨fun hpos => ?_, fun hpos => ?_⟩
      · rw [hpos, cond_true, tl] at hall
        have hall' : ∀ x, deedS d = x → s ++ [59] ++ x ++ Lib.joinTail [59] ((l.drop (k + 1)).map deedS) = showB l := fun x hx => by rw [← hall, ← hx]; simp
        refine ⟨by omega, by omega, fun h2 => ?_, fun h2 => ⟨fun h3 => ?_, fun h3 => ?_⟩⟩
        · have e := s2 h2
          rw [e, la, lr] at g2
          exact ⟨by omega, by omega, by simp only [la, l1, lR]; omega, next _ (by simp only [la, l1, lR]; omega) (hall' _ e)⟩
        · have e := s3 h3
          rw [e, la, ls] at g2
          exact ⟨by omega, by omega, by simp only [la, l1, lS]; omega, next _ (by simp only [la, l1, lS]; omega) (hall' _ e)⟩
        · obtain ⟨e, hr⟩ := s1 h2 h3
          have g4 := g3 hr
          exact ⟨by omega, hr, by omega, by omega, by simp only [la, l2]; omega, by simp only [la, l1, l2]; omega, next _ (by simp only [la, l1, l2]; omega) (hall' _ e)⟩
      · rw [hpos, cond_false, Lib.join_cons] at hall
        have hall' : ∀ x, deedS d = x → s ++ x ++ Lib.joinTail [59] ((l.drop (k + 1)).map deedS) = showB l := fun x hx => by rw [← hall, ← hx]; simp
        refine ⟨by omega, fun h2 => ?_, fun h2 => ⟨fun h3 => ?_, fun h3 => ?_⟩⟩
        · have e := s2 h2
          rw [e, la, lr] at g2
          exact ⟨by omega, by omega, by simp only [la, lR]; omega, next _ (by simp only [la, lR]; omega) (hall' _ e)⟩
        · have e := s3 h3
          rw [e, la, ls] at g2
          exact ⟨by omega, by omega, by simp only [la, lS]; omega, next _ (by simp only [la, lS]; omega) (hall' _ e)⟩
        · obtain ⟨e, hr⟩ := s1 h2 h3
          have g4 := g3 hr
          exact ⟨by omega, hr, by omega, by omega, by simp only [la, l2]; omega, by simp only [la, l2]; omega, next _ (by simp only [la, l2]; omega) (hall' _ e)⟩
    · have hkl : k = l.length := by have := of_decide_eq_false hge; omega
      rw [drop_end (l := l) (by omega), List.map_nil, decide_eq_true (show ((k : Int) > 0) by omega), cond_true] at hall
      have : Lib.joinTail [59] [] = [] := rfl
      rw [this, List.append_nil] at hall
      rw [hall]; exact ⟨rfl, rfl⟩
theorem rs_ok (l : List Deed) (h : blockOk l = true) : Does Tryz.prog 21 [.l .deed l] [] (.tup [.s (showB l), .i 0]) [] := by
  refine Does.go (cfg := cfgRs) cfgRs_ok Tryz.func21 (by kernel_rfl) (by kernel_rfl) (t := (.ite (!blockOk l) (.ret (.tup [.p (.str []), .i (1 : Int)]) []) (.stop [.code [1, 1, 1, 0, 1, 0, 0], .inLoop [1, 1, 1, 0, 1, 0, 0], .inBlock 0, .code [1, 1, 1, 1]] { n := 66, fr := [(0, .p (.lst .deed l)), (2, .p (.str [])), (3, .i (0 : Int)), (4, .p (.str [])), (5, .i (0 : Int))], ck := [] }))) (by kernel_rfl) fun Γ => ?_
  refine ⟨fun h' => (by rw [h] at h'; cases h'), fun _ => ?_⟩
  exact rs_loop l Γ h l.length 0 [] (by omega) (by omega) (by simp) rfl
theorem rs_bad (l : List Deed) (h : blockOk l = false) : Does Tryz.prog 21 [.l .deed l] [] (.tup [.s [], .i 1]) [] := by
  refine Does.go (cfg := cfgRs) cfgRs_ok Tryz.func21 (by kernel_rfl) (by kernel_rfl) (t := (.ite (!blockOk l) (.ret (.tup [.p (.str []), .i (1 : Int)]) []) (.stop [.code [1, 1, 1, 0, 1, 0, 0], .inLoop [1, 1, 1, 0, 1, 0, 0], .inBlock 0, .code [1, 1, 1, 1]] { n := 66, fr := [(0, .p (.lst .deed l)), (2, .p (.str [])), (3, .i (0 : Int)), (4, .p (.str [])), (5, .i (0 : Int))], ck := [] }))) (by kernel_rfl) fun Γ => ?_
  exact ⟨fun _ => ⟨rfl, rfl⟩, fun h' => (by rw [h] at h'; cases h')⟩
def eRs1 : Nat × (List SX → List Chunk → Option (Option Prop × SV × List Chunk)) := (21, fun
  | [.c (.pd (.lst .deed l))], [] => some (some (blockOk l = true), .tup [.c (.pd (.str (showB l))), .c (.pd (.int .i64 0))], [])
  | _, _ => none)
theorem eRs1_ok (vs : List SX) (ck : List Chunk) (p : Option Prop) (ret : SV) (ck' : List Chunk) (h : eRs1.2 vs ck = some (p, ret, ck')) (hp : Holds p) : Does Tryz.prog eRs1.1 vs ck ret ck' := by
  unfold eRs1 at h
  simp only at h
  split at h
  · rename_i l
    simp only [Option.some.injEq, Prod.mk.injEq] at h
    obtain ⟨rfl, rfl, rfl⟩ := h
    exact rs_ok l hp
  · simp at h
def eRs0 : Nat × (List SX → List Chunk → Option (Option Prop × SV × List Chunk)) := (21, fun
  | [.c (.pd (.lst .deed l))], [] => some (some (blockOk l = false), .tup [.c (.pd (.str [])), .c (.pd (.int .i64 1))], [])
  | _, _ => none)
theorem eRs0_ok (vs : List SX) (ck : List Chunk) (p : Option Prop) (ret : SV) (ck' : List Chunk) (h : eRs0.2 vs ck = some (p, ret, ck')) (hp : Holds p) : Does Tryz.prog eRs0.1 vs ck ret ck' := by
  unfold eRs0 at h
  simp only at h
  split at h
  · rename_i l
    simp only [Option.some.injEq, Prod.mk.injEq] at h
    obtain ⟨rfl, rfl, rfl⟩ := h
    exact rs_bad l hp
  · simp at h
end Go.Proofs.YtjndellhebidoaaGreatDoor
namespace Go.Proofs.YtjndellhebidoaaGreatDoor
open Go Go.Ev
set_option maxRecDepth 100000
abbrev mkC (s : Str) (pos : Int) (out : List Cell) (wt : List Wait) : List Chunk := [Chunk.cells [SC.pd (PD.str s), SC.i pos, SC.own 3, SC.own 2] 125, Chunk.dead, Chunk.own 155 ETy.wait wt, Chunk.own 88 ETy.cell out]
abbrev mkD (s : Str) (pos : Int) (out : List Cell) (wt : List Wait) : List Chunk := [Chunk.cells [SC.pd (PD.str s), SC.i pos, SC.own 1, SC.own 3] 125, Chunk.own 88 ETy.cell out, Chunk.dead, Chunk.own 155 ETy.wait wt]
def upC : Nat → Nat
  | 2 => 4
  | n => n
def dnC : Nat → Nat
  | 4 => 2
  | n => n
def upD : Nat → Nat
  | 1 => 3
  | 3 => 4
  | n => n
def dnD : Nat → Nat
  | 3 => 1
  | 4 => 3
  | n => n
theorem rnC (s : Str) (pos : Int) (out : List Cell) (wt : List Wait) : RnW upC dnC 3 (mkC s pos out wt) (mkB s pos out wt) := by
  refine ⟨fun j x' h => ?_, fun j hj => ?_⟩
  · match j, h with
    | 0, h => right; exact ⟨_, rfl, (Option.some.inj h).symm, rfl, by simp [Chunk.refs, SC.refs, upC, dnC]⟩
    | 1, h => left; simpa using h.symm
    | 2, h => left; simpa using h.symm
    | 3, h => right; exact ⟨_, rfl, (Option.some.inj h).symm, rfl, by simp [Chunk.refs]⟩
    | 4, h => right; exact ⟨_, rfl, (Option.some.inj h).symm, rfl, by simp [Chunk.refs]⟩
    | j + 5, h => simp at h
  · match j, hj with
    | 0, _ => rfl
    | 1, _ => rfl
    | 2, _ => rfl
theorem rnD (s : Str) (pos : Int) (out : List Cell) (wt : List Wait) : RnW upD dnD 3 (mkD s pos out wt) (mkB s pos out wt) := by
  refine ⟨fun j x' h => ?_, fun j hj => ?_⟩
  · match j, h with
    | 0, h => right; exact ⟨_, rfl, (Option.some.inj h).symm, rfl, by simp [Chunk.refs, SC.refs, upD, dnD]⟩
    | 1, h => left; simpa using h.symm
    | 2, h => left; simpa using h.symm
    | 3, h => right; exact ⟨_, rfl, (Option.some.inj h).symm, rfl, by simp [Chunk.refs]⟩
    | 4, h => right; exact ⟨_, rfl, (Option.some.inj h).symm, rfl, by simp [Chunk.refs]⟩
    | j + 5, h => simp at h
  · match j, hj with
    | 0, _ => rfl
    | 1, _ => rfl
    | 2, _ => rfl
theorem McQ.c {s : Str} {ret : SV} {pos : Int} {out : List Cell} {wt : List Wait} {c : List Chunk} (h : c = mkC s pos out wt) : McQ s ret pos out wt ret c := ⟨rfl, by rw [h]; exact ⟨_, _, rnC s pos out wt⟩⟩
theorem McQ.d {s : Str} {ret : SV} {pos : Int} {out : List Cell} {wt : List Wait} {c : List Chunk} (h : c = mkD s pos out wt) : McQ s ret pos out wt ret c := ⟨rfl, by rw [h]; exact ⟨_, _, rnD s pos out wt⟩⟩
/-! ### numbers -/
end Go.Proofs.YtjndellhebidoaaGreatDoor
namespace Go.Proofs.YtjndellhebidoaaGreatDoor
open Go Go.Ev
set_option maxRecDepth 100000
def skipRun (root : Code) (p : List Nat) (i : Nat) (st : ST) (v : SX) : Option ST :=
  match (opsOf (sub root p))[i]? with
  | some o => match o.guard, o.dst with
    | some (j, true), some d => match ((opsOf (sub root p))[j]?).bind (·.dst) with
      | some s => match lookup st.fr s with
        | some (.x (.c (.pd (.bool false)))) => bif Nat.blt d st.n && !Nat.beq s d then some { st with fr := setSlot d (.grd s true v) st.fr } else none
        | _ => none
      | none => none
    | _, _ => none
  | none => none
theorem J.skip {P : Program} {f : FuncId} {root : Code} {Γ : Ctx} {Q : Out} {st st' : ST} {p : List Nat} {i : Nat} {k : List PI} {v : SX} (h : skipRun root p i st v = some st') (hk : J P f root Γ Q (.ops p (i + 1) :: k) st') : J P f root Γ Q (.ops p i :: k) st := by
  unfold skipRun at h
  split at h
  · rename_i o ho
    split at h
    · rename_i j d hg hd
      split at h
      · rename_i s hs
        split at h
        · rename_i hb
          cases hbb : (Nat.blt d st.n && !Nat.beq s d)
          · rw [hbb] at h; cases h
          · rw [hbb] at h
            simp only [cond_true, Option.some.injEq] at h
            subst h
            simp only [Bool.and_eq_true, Bool.not_eq_true'] at hbb
            have hdn : d < st.n := Nat.le_of_ble_eq_true hbb.1
            have hsd : s ≠ d := fun e => by rw [e] at hbb; simp at hbb
            intro hT V a w r
            have hoff : ¬ a.tmps.getD s undef = .bool true := by
              have := r.slots s _ (lookup_mem hb)
              have h2 : SX.R V (.c (.pd (.bool false))) (a.tmps.getD s undef) := this
              generalize a.tmps.getD s undef = u at h2 ⊢
              cases h2; simp
            have hi : i < (opsOf (sub root p)).size := (Array.getElem?_eq_some_iff.1 ho).1
            have hsz : (opsOf (sub root p)).size - i = ((opsOf (sub root p)).size - (i + 1)) + 1 := by omega
            simp only [List.map_cons, PI.den]
            rw [hsz, List.range'_succ]
            refine Go.Sy.Fin.op_unwanted ho (wanted_off hg hs hoff) ?_
            rw [hd]
            exact hk hT V _ _ (r.put d (.grd s true v) _ hdn fun a' ha h2 => ⟨fun h3 => absurd (by rw [← ha s hsd]; exact h3) hoff, fun _ => h2⟩)
        · cases h
      · cases h
    · cases h
  · cases h
/-! ### signs of one byte, of two -/
def two (x : Str) : Int := match x with | a :: b :: _ => twoOp a b | _ => 0
def one (x : Str) : Int := match x with | a :: _ => oneOp a | [] => 0
/-! ### the walk -/
end Go.Proofs.YtjndellhebidoaaGreatDoor

/- Contracts: lists of texts alike. Conditions: none. Contracts: the laws' example. Conditions: none. The laws ActsShows, ActsParses, ActsBack, ActsDo. Conditions: sizes; numbers are such. An executor for function bodies of the model over data, part VA: a slice of the caller's own, lent to one that only reads. Conditions: each rule's own. -/
import Derived.Test.YtjndellhebidoaaGreatDoorNa
import Derived.Test.YtjndellhebidoaaGreatDoorUh
import Derived.Test.YtjndellhebidoaaGreatDoorUa
namespace Go.Proofs.YtjndellhebidoaaGreatDoor
open Go Go.Ev
set_option maxRecDepth 100000

theorem sames_loop (a b : List Str) (Γ : Ctx) (hl : a.length ≤ maxLen) (he : a.length = b.length) : ∀ (n k : Nat), a.length - k ≤ n → k ≤ a.length → a.take k = b.take k →
    J Tryz.prog 18 (bodyOf Tryz.f18) Γ (Eq2 (.x (.b (a == b))) []) [.code [1, 1, 0, 1, 0, 0], .inLoop [1, 1, 0, 1, 0, 0], .inBlock 0, .code [1, 1, 1]] ({ n := 26, fr := [(0, .p (.lst .str a)), (1, .p (.lst .str b)), (4, .p (.bool false)), (5, .i ((k : Int)))], ck := [], kn := [4] }) := by
  intro n
  induction n with
  | zero => ?_
  | succ n ih => ?_
  all_goals
    intro k hn hk htk
    refine J.go (cfg := cfg0) cfg0_ok Tryz.func18 1000 (t := (.ite (decide ((↑k : Int) < (↑(List.length a) : Int))) (.need ((0 : Int) ≤ (↑k : Int) ∧ (↑k : Int) < (↑(List.length a) : Int)) (.need ((0 : Int) ≤ (↑k : Int) ∧ (↑k : Int) < (↑(List.length b) : Int)) (.ite (!ETy.get .str a k == ETy.get .str b k) (.ret (.p (.bool false)) []) (.stop [.code [1, 1, 0, 1, 0, 0], .inLoop [1, 1, 0, 1, 0, 0], .inBlock 0, .code [1, 1, 1]] { n := 26, fr := [(0, .p (.lst .str a)), (1, .p (.lst .str b)), (4, .p (.bool false)), (5, .i (IntKind.wrap .i64 ((↑k : Int) + (1 : Int))))], ck := [] })))) (.ret (.p (.bool true)) []))) (by kernel_rfl) ?_
    refine ⟨fun hlt => ?_, fun hge => ?_⟩
    · have hk' : k < a.length := by have := of_decide_eq_true hlt; omega
      have hk2 : k < b.length := by omega
      have hg : ETy.get .str a k = a[k] := ETy.get_eq (t := .str) (List.getElem?_eq_getElem hk')
      have hg2 : ETy.get .str b k = b[k] := ETy.get_eq (t := .str) (List.getElem?_eq_getElem hk2)
      rw [hg, hg2]
      refine ⟨by omega, by omega, fun h => ⟨?_, rfl⟩, fun h => ?_⟩
      · have h' : a[k] ≠ b[k] := by simpa using h
        have : (a == b) = false := by
          rw [beq_eq_false_iff_ne]
          intro e; subst e; exact h' rfl
        rw [this]
      · have h' : a[k] = b[k] := by simpa using h
        rw [wrapK (maxLen_lt hk' hl)]
        first
        | (exfalso; omega)
        | exact J.kn [4] (ih (k + 1) (by omega) (by omega) (by rw [List.take_succ_eq_append_getElem hk', List.take_succ_eq_append_getElem hk2, htk, h']))
    · have hk' : k = a.length := by have := of_decide_eq_false hge; omega
      rw [hk', List.take_length, he, List.take_length] at htk
      subst htk
      exact ⟨by simp, rfl⟩
theorem sames_spec (a b : List Str) : Does Tryz.prog 18 [.l .str a, .l .str b] [] (.x (.b (a == b))) [] := by
  refine Does.go (cfg := cfg0) cfg0_ok Tryz.func18 (by kernel_rfl) (by kernel_rfl) (t := (.ite ((↑(List.length a) : Int) != (↑(List.length b) : Int)) (.ret (.p (.bool false)) []) (.stop [.code [1, 1, 0, 1, 0, 0], .inLoop [1, 1, 0, 1, 0, 0], .inBlock 0, .code [1, 1, 1]] { n := 26, fr := [(0, .p (.lst .str a)), (1, .p (.lst .str b)), (4, .p (.bool false)), (5, .i (0 : Int))], ck := [], kn := [4] }))) (by kernel_rfl) fun Γ => ?_
  refine ⟨fun h => ⟨?_, rfl⟩, fun h => ?_⟩
  · have h' : (a.length : Int) ≠ b.length := by simpa using h
    have : (a == b) = false := by
      rw [beq_eq_false_iff_ne]
      intro e; subst e; exact h' rfl
    rw [this]
  · have h' : a.length = b.length := by
      have : (a.length : Int) = b.length := by simpa using h
      omega
    exact J.len 0 rfl fun hl => sames_loop a b Γ hl h' a.length 0 (by omega) (by omega) (by simp)
def eSameS : Nat × (List SX → List Chunk → Option (Option Prop × SV × List Chunk)) := (18, fun
  | [.c (.pd (.lst .str a)), .c (.pd (.lst .str b))], [] => some (none, .x (.c (.pd (.bool (a == b)))), [])
  | _, _ => none)
theorem eSameS_ok (vs : List SX) (ck : List Chunk) (p : Option Prop) (ret : SV) (ck' : List Chunk) (h : eSameS.2 vs ck = some (p, ret, ck')) (hp : Holds p) : Does Tryz.prog eSameS.1 vs ck ret ck' := by
  unfold eSameS at h
  simp only at h
  split at h
  · rename_i a b
    simp only [Option.some.injEq, Prod.mk.injEq] at h
    obtain ⟨rfl, rfl, rfl⟩ := h
    exact sames_spec a b
  · simp at h
end Go.Proofs.YtjndellhebidoaaGreatDoor
namespace Go.Proofs.YtjndellhebidoaaGreatDoor
open Go Go.Ev
set_option maxRecDepth 100000
def wkC : List Cell := [⟨5, 0, [120]⟩, ⟨1, 1, []⟩, ⟨11, 0, []⟩]
def wkB : List Deed := [⟨1, [120], wkC⟩, ⟨3, [100, 111, 110, 101], []⟩]
def wkV : List Var := [⟨[120], 1, 0, 9, ⟨0, 0, 0⟩⟩]
def wkX : List Val := [⟨1, 3, 0⟩]
def wkS : Str := [120, 61, 120, 43, 49, 59, 115, 101, 110, 100, 58, 100, 111, 110, 101]
def wkTm : Tm := .bin ⟨11, 0, []⟩ (.leaf ⟨5, 0, [120]⟩) (.leaf ⟨1, 1, []⟩)
theorem wkTm_ok : wkTm.ok := by
  simp only [wkTm, Tm.ok]
  decide
theorem wkTm_body : wkTm.body = [120, 43, 49] := by
  have l1 : leafS ⟨1, 1, []⟩ = [49] := by
    show Lib.itoa 1 = [49]
    rw [itoa_nat (by omega), Lib.decDigits_one (by omega)]; rfl
  show binS 11 (leafS ⟨5, 0, [120]⟩) _ (leafS ⟨1, 1, []⟩) _ = _
  rw [l1]; rfl
theorem wk_expr : parseE [120, 43, 49] = (wkC, 0, 0) := by
  have h := parse_body wkTm_ok (by decide)
  rw [wkTm_body] at h
  exact h
theorem wk_read1 : readD [120, 61, 120, 43, 49] = some ⟨1, [120], wkC⟩ := by
  have e : postM [120, 61, 120, 43, 49] = [120, 43, 49] := by decide
  have e1 : preM [120, 61, 120, 43, 49] = [120] := by decide
  have := readD_set (s := [120, 61, 120, 43, 49]) (by decide) (by decide) (by decide) (by unfold readsE; rw [e, wk_expr]) (by rw [e, wk_expr, e1]; decide)
  rw [this, e, wk_expr, e1]
theorem wk_read2 : readD [115, 101, 110, 100, 58, 100, 111, 110, 101] = some ⟨3, [100, 111, 110, 101], []⟩ := by
  rw [readD, if_neg (by decide), if_pos (by decide)]
  have e : cutP [115, 101, 110, 100, 58, 100, 111, 110, 101] sendS = [100, 111, 110, 101] := by decide
  rw [e, if_pos (by decide)]
theorem wk_block : blockP wkS = (wkB, 0) := by
  have hp : partsGo [] wkS = [[120, 61, 120, 43, 49], [115, 101, 110, 100, 58, 100, 111, 110, 101]] := by decide
  rw [blockP_val (by decide) (by rw [hp]; decide), hp]
  simp only [readAll, wk_read1, wk_read2]; rfl
theorem wkp_spec : Does Tryz.prog 9 [.s wkS] [] (.tup [.c (.own 0), .i 0]) [.own 60 .deed wkB] := by
  have h := bparse_ok wkS (by show (blockP wkS).2 = 0; rw [wk_block])
  rw [wk_block] at h; exact h
def eWp : Nat × (List SX → List Chunk → Option (Option Prop × SV × List Chunk)) := (9, fun
  | [.c (.pd (.str [120, 61, 120, 43, 49, 59, 115, 101, 110, 100, 58, 100, 111, 110, 101]))], [] => some (none, .tup [.c (.own 0), .c (.pd (.int .i64 0))], [.own 60 .deed wkB])
  | _, _ => none)
theorem eWp_ok (vs : List SX) (ck : List Chunk) (p : Option Prop) (ret : SV) (ck' : List Chunk) (h : eWp.2 vs ck = some (p, ret, ck')) (hp : Holds p) : Does Tryz.prog eWp.1 vs ck ret ck' := by
  unfold eWp at h
  simp only at h
  split at h
  · simp only [Option.some.injEq, Prod.mk.injEq] at h
    obtain ⟨rfl, rfl, rfl⟩ := h
    exact wkp_spec
  · simp at h
theorem wkd_val : doM wkB [⟨[120], 1, 0, 9, ⟨0, 0, 0⟩⟩] [⟨1, 3, 0⟩] = ([⟨1, 4, 0⟩], [], [[100, 111, 110, 101]], true) := by rfl
theorem wkd_spec (l : List Deed) (vs : List Var) (vals : List Val) (h1 : l = wkB) (h2 : vs = [⟨[120], 1, 0, 9, ⟨0, 0, 0⟩⟩]) (h3 : vals = [⟨1, 3, 0⟩]) :
    Does Tryz.prog 14 [.l .deed l, .l .var vs, .l .val vals] [] (.tup [.c (.own 0), .c (.own 1), .c (.own 2), .b true]) [.own 49 .val [⟨1, 4, 0⟩], .own 9 .str [], .own 9 .str [[100, 111, 110, 101]]] := by
  have h := do_spec l vs vals (by rw [h1]; decide) (by rw [h3]; exact ⟨by decide, by decide⟩) (by rw [h3]; decide)
  rw [h1, h2, h3] at h ⊢
  rw [wkd_val] at h; exact h
def eWd : Nat × (List SX → List Chunk → Option (Option Prop × SV × List Chunk)) := (14, fun
  | [.c (.pd (.lst .deed l)), .c (.pd (.lst .var vs)), .c (.pd (.lst .val vals))], [] => some (some (wkB = l ∧ wkV = vs ∧ wkX = vals), .tup [.c (.own 0), .c (.own 1), .c (.own 2), .c (.pd (.bool true))], [.own 49 .val [⟨1, 4, 0⟩], .own 9 .str [], .own 9 .str [[100, 111, 110, 101]]])
  | _, _ => none)
theorem eWd_ok (vs : List SX) (ck : List Chunk) (p : Option Prop) (ret : SV) (ck' : List Chunk) (h : eWd.2 vs ck = some (p, ret, ck')) (hp : Holds p) : Does Tryz.prog eWd.1 vs ck ret ck' := by
  unfold eWd at h
  simp only at h
  split at h
  · rename_i l vs vals
    simp only [Option.some.injEq, Prod.mk.injEq] at h
    obtain ⟨rfl, rfl, rfl⟩ := h
    exact wkd_spec l vs vals hp.1.symm hp.2.1.symm hp.2.2.symm
  · simp at h
def cfgWk : Cfg := ⟨tys0, [eWp, eWd, eSameS]⟩
theorem cfgWk_ok : TabOk Tryz.prog cfgWk.tab := (TabOk.cons eWp_ok (TabOk.cons eWd_ok (TabOk.cons eSameS_ok TabOk.nil)))

theorem wakes6_spec : Does Tryz.prog 11 [] [] (.x (.b true)) [] := by
  refine Does.go (cfg := cfgWk) cfgWk_ok Tryz.func11 (by kernel_rfl) (by kernel_rfl) (t := (.need (wkB = [{ kind := (1 : Int), name := [(120 : UInt8)], expr := [{ op := (5 : Int), a := (0 : Int), name := [(120 : UInt8)] }, { op := (1 : Int), a := (1 : Int), name := [] }, { op := (11 : Int), a := (0 : Int), name := [] }] }, { kind := (3 : Int), name := [(100 : UInt8), 111, 110, 101], expr := [] }] ∧ wkV = [{ name := [(120 : UInt8)], kind := (1 : Int), lo := (0 : Int), hi := (9 : Int), init := { kind := (0 : Int), a := (0 : Int), b := (0 : Int) } }] ∧ wkX = [{ kind := (1 : Int), a := (3 : Int), b := (0 : Int) }]) (.stop [.ops [1, 1, 1, 0] 17, .code [1, 1, 1, 1]] { n := 54, fr := [(0, .p (.bool false)), (3, .x (.c (.own 0))), (37, .p (.bool true)), (38, .grd 37 true (.c (.own 1)))], ck := [.own 49 .val [{ kind := (1 : Int), a := (4 : Int), b := (0 : Int) }], .own 9 .str [[(100 : UInt8), 111, 110, 101]]], kn := [0] }))) (by kernel_rfl) fun Γ => ?_
  refine ⟨⟨rfl, rfl, rfl⟩, ?_⟩
  have hk : J Tryz.prog 11 (bodyOf Tryz.f11) Γ (Eq2 (.x (.b true)) []) [.ops [1, 1, 1, 0] 18, .code [1, 1, 1, 1]] ({ n := 54, fr := [(0, .p (.bool false)), (3, .x (.c (.own 0))), (37, .p (.bool true)), (38, .grd 37 true (.c (.own 1))), (39, .x (.c (.own 2)))], ck := [.own 49 .val [⟨1, 4, 0⟩], .own 9 .str [[100, 111, 110, 101]], .own 9 .str [[100, 111, 110, 101]]], kn := [0] }) := by
    refine J.go (cfg := cfgWk) cfgWk_ok Tryz.func11 1000 (t := (.need (true = true → (0 : Int) ≤ (0 : Int) ∧ (0 : Int) < (↑(1 : Nat) : Int)) (.need (true = true → 0 < 1) (.ret (.p (.bool true)) [])))) (by kernel_rfl) ?_
    exact ⟨fun _ => by decide, fun _ => by decide, rfl, rfl⟩
  exact J.run (cfg := cfgWk) cfgWk_ok (q := none) (by kernel_rfl) trivial hk
def eWk6 : Nat × (List SX → List Chunk → Option (Option Prop × SV × List Chunk)) := (11, fun
  | [], [] => some (none, .x (.c (.pd (.bool true))), [])
  | _, _ => none)
theorem eWk6_ok (vs : List SX) (ck : List Chunk) (p : Option Prop) (ret : SV) (ck' : List Chunk) (h : eWk6.2 vs ck = some (p, ret, ck')) (hp : Holds p) : Does Tryz.prog eWk6.1 vs ck ret ck' := by
  unfold eWk6 at h
  simp only at h
  split at h
  · simp only [Option.some.injEq, Prod.mk.injEq] at h
    obtain ⟨rfl, rfl, rfl⟩ := h
    exact wakes6_spec
  · simp at h
end Go.Proofs.YtjndellhebidoaaGreatDoor
namespace Go.Proofs.YtjndellhebidoaaGreatDoor
open Go Go.Ev
set_option maxRecDepth 100000
/-! ### ActsShows -/
def cfgS1 : Cfg := ⟨tys0, [eWk6, eCpd, eSb1, eRs1, eBlock, eRblock]⟩
theorem cfgS1_ok : TabOk Tryz.prog cfgS1.tab := (TabOk.cons eWk6_ok (TabOk.cons eCpd_ok (TabOk.cons eSb1_ok (TabOk.cons eRs1_ok (TabOk.cons eBlock_ok (TabOk.cons eRblock_ok TabOk.nil))))))
def cfgS0 : Cfg := ⟨tys0, [eWk6, eCpd, eSb0, eRs0, eBlock, eRblock]⟩
theorem cfgS0_ok : TabOk Tryz.prog cfgS0.tab := (TabOk.cons eWk6_ok (TabOk.cons eCpd_ok (TabOk.cons eSb0_ok (TabOk.cons eRs0_ok (TabOk.cons eBlock_ok (TabOk.cons eRblock_ok TabOk.nil))))))


theorem acts_shows_spec (l : List Deed) (hr : room l.length 48) (hx : ∀ a ∈ l, room a.expr.length 32) : Does Tryz.prog 7 [.l .deed l] [] (.x (.b true)) [] := by
  cases h : blockOk l
  · refine Does.go (cfg := cfgS0) cfgS0_ok Tryz.func7 (by kernel_rfl) (by kernel_rfl) (t := (.need (room (List.length l) 48 ∧ ∀ (a : ETy.den .deed), a ∈ l → room (List.length (Deed.expr a)) 32) (.need (blockOk l = false) (.need (blockOk l = false) (.stop [.ops [1, 1, 1, 0] 3, .code [1, 1, 1, 1]] { n := 37, fr := [(0, .p (.lst .deed l)), (2, .p (.bool false)), (3, .p (.str [])), (4, .i (1 : Int)), (5, .p (.str [])), (6, .i (1 : Int)), (19, .p (.bool true)), (20, .grd 19 true (.p (.lst .deed l)))], ck := [], kn := [2] }))))) (by kernel_rfl) fun Γ => ?_
    refine ⟨⟨hr, hx⟩, h, h, ?_⟩
    have hk : J Tryz.prog 7 (bodyOf Tryz.f7) Γ (Eq2 (.x (.b true)) []) [.ops [1, 1, 1, 0] 4, .code [1, 1, 1, 1]] ({ n := 37, fr := [(0, .p (.lst .deed l)), (2, .p (.bool false)), (3, .p (.str [])), (4, .i (1 : Int)), (5, .p (.str [])), (6, .i (1 : Int)), (19, .p (.bool true)), (20, .p (.lst .deed (l))), (21, .x (.c (.own 0)))], ck := [.own 60 .deed l], kn := [2] }) := by
      refine J.go (cfg := cfgS0) cfgS0_ok Tryz.func7 1000 (t := (.ret (.p (.bool (true && blockOk l == blockOk l && ([] : Str) == [] && (1 : Int) == (1 : Int)))) [])) (by kernel_rfl) ?_
      exact ⟨by simp, rfl⟩
    have hk2 : J Tryz.prog 7 (bodyOf Tryz.f7) Γ (Eq2 (.x (.b true)) []) [.ops [1, 1, 1, 0] 3, .code [1, 1, 1, 1]] ({ n := 37, fr := [(0, .p (.lst .deed l)), (2, .p (.bool false)), (3, .p (.str [])), (4, .i (1 : Int)), (5, .p (.str [])), (6, .i (1 : Int)), (19, .p (.bool true)), (20, .p (.lst .deed (l)))], ck := [], kn := [2] }) := J.run (cfg := cfgS0) cfgS0_ok (q := some (room l.length 48 ∧ ∀ a ∈ l, room a.expr.length 32)) (by kernel_rfl) ⟨hr, hx⟩ hk
    refine J.settle (t := 20) (s := 19) (want := true) (v := .l .deed l) (by simp) rfl ?_ hk2
    intro p hp
    simp only [List.mem_cons, List.not_mem_nil, or_false] at hp ⊢
    rcases hp with rfl | rfl | rfl | rfl | rfl | rfl | rfl | rfl <;> simp
  · refine Does.go (cfg := cfgS1) cfgS1_ok Tryz.func7 (by kernel_rfl) (by kernel_rfl) (t := (.need (room (List.length l) 48 ∧ ∀ (a : ETy.den .deed), a ∈ l → room (List.length (Deed.expr a)) 32) (.need (blockOk l = true) (.need (blockOk l = true) (.stop [.ops [1, 1, 1, 0] 3, .code [1, 1, 1, 1]] { n := 37, fr := [(0, .p (.lst .deed l)), (2, .p (.bool false)), (3, .p (.str (showB l))), (4, .i (0 : Int)), (5, .p (.str (showB l))), (6, .i (0 : Int)), (19, .p (.bool true)), (20, .grd 19 true (.p (.lst .deed l)))], ck := [], kn := [2] }))))) (by kernel_rfl) fun Γ => ?_
    refine ⟨⟨hr, hx⟩, h, h, ?_⟩
    have hk : J Tryz.prog 7 (bodyOf Tryz.f7) Γ (Eq2 (.x (.b true)) []) [.ops [1, 1, 1, 0] 4, .code [1, 1, 1, 1]] ({ n := 37, fr := [(0, .p (.lst .deed l)), (2, .p (.bool false)), (3, .p (.str (showB l))), (4, .i (0 : Int)), (5, .p (.str (showB l))), (6, .i (0 : Int)), (19, .p (.bool true)), (20, .p (.lst .deed (l))), (21, .x (.c (.own 0)))], ck := [.own 60 .deed l], kn := [2] }) := by
      refine J.go (cfg := cfgS1) cfgS1_ok Tryz.func7 1000 (t := (.ret (.p (.bool (true && blockOk l == blockOk l && showB l == showB l && (0 : Int) == (0 : Int)))) [])) (by kernel_rfl) ?_
      exact ⟨by simp, rfl⟩
    have hk2 : J Tryz.prog 7 (bodyOf Tryz.f7) Γ (Eq2 (.x (.b true)) []) [.ops [1, 1, 1, 0] 3, .code [1, 1, 1, 1]] ({ n := 37, fr := [(0, .p (.lst .deed l)), (2, .p (.bool false)), (3, .p (.str (showB l))), (4, .i (0 : Int)), (5, .p (.str (showB l))), (6, .i (0 : Int)), (19, .p (.bool true)), (20, .p (.lst .deed (l)))], ck := [], kn := [2] }) := J.run (cfg := cfgS1) cfgS1_ok (q := some (room l.length 48 ∧ ∀ a ∈ l, room a.expr.length 32)) (by kernel_rfl) ⟨hr, hx⟩ hk
    refine J.settle (t := 20) (s := 19) (want := true) (v := .l .deed l) (by simp) rfl ?_ hk2
    intro p hp
    simp only [List.mem_cons, List.not_mem_nil, or_false] at hp ⊢
    rcases hp with rfl | rfl | rfl | rfl | rfl | rfl | rfl | rfl <;> simp
/-! ### ActsParses -/
/-! ### ActsBack -/
/-! ### ActsDo -/
end Go.Proofs.YtjndellhebidoaaGreatDoor
namespace Go.Ev
open Go.RowKit

def flatT : ETy → Bool
  | .int | .bool | .str | .byte | .cell | .val | .var | .krow | .piece | .wait => true
  | _ => false
theorem flatT_enc {t : ETy} (h : flatT t = true) (x : t.den) : ∀ p ∈ t.enc x, flatP p = true := by
  cases t <;> first
    | (exact absurd h (by decide))
    | (intro p hp; simp only [ETy.enc, List.mem_cons, List.not_mem_nil, or_false] at hp; rcases hp with rfl | rfl | rfl | rfl | rfl | rfl | rfl <;> rfl)
    | (intro p hp; simp only [ETy.enc, List.mem_cons, List.not_mem_nil, or_false] at hp; rcases hp with rfl | rfl | rfl | rfl | rfl <;> rfl)
    | (intro p hp; simp only [ETy.enc, List.mem_cons, List.not_mem_nil, or_false] at hp; rcases hp with rfl | rfl | rfl <;> rfl)
    | (intro p hp; simp only [ETy.enc, List.mem_cons, List.not_mem_nil, or_false] at hp; rcases hp with rfl | rfl <;> rfl)
    | (intro p hp; simp only [ETy.enc, List.mem_cons, List.not_mem_nil, or_false] at hp; subst hp; rfl)
def flatC : Chunk → Bool
  | .own _ t _ => flatT t
  | _ => false
def ownX : SX → Bool
  | .c (.own _) => true
  | x => flatX x
def ownV : SV → Bool
  | .x s => ownX s
  | .tup l => l.all ownX
  | _ => false
def shiftVn (V V2 : Vn) : Vn := ⟨V.H, fun i => match i with | 0 => V.σ 0 | i + 1 => V2.σ i, fun i => match i with | 0 => V.ov 0 | i + 1 => V2.ov i⟩
theorem ownX_shift {V V2 : Vn} {s : SX} (h : ownX s = true) {u : Value} (hr : s.R V2 u) : (s.map fun i => i + 1).R (shiftVn V V2) u := by
  have fl : ∀ {x : SC}, flatS x = true → ∀ {u}, x.R V2 u → (x.map fun i => i + 1).R (shiftVn V V2) u := by
    intro x hx u hu
    cases x with
    | pd p => exact flatP_any hx hu
    | _ => cases hx
  cases s with
  | c x =>
    cases x with
    | own i => exact hr
    | pd p => exact fl (x := .pd p) h hr
    | _ => cases h
  | agg cs =>
    have h' : cs.all flatS = true := h
    obtain ⟨us, rfl, h2⟩ := hr
    refine ⟨us, rfl, ?_⟩
    show All2 _ (cs.map _) us
    rw [All2.map_left]
    exact h2.mono fun x u hm hx => fl (List.all_eq_true.1 h' x hm) hx
theorem ownV_shift {V V2 : Vn} {s : SV} (h : ownV s = true) {u : Value} (hr : s.R V2 u) : (s.map fun i => i + 1).R (shiftVn V V2) u := by
  cases s with
  | x s => exact ownX_shift h hr
  | tup l =>
    have h' : l.all ownX = true := h
    obtain ⟨us, rfl, h2⟩ := hr
    refine ⟨us, rfl, ?_⟩
    show All2 _ (l.map _) us
    rw [All2.map_left]
    exact h2.mono fun x u hm hx => ownX_shift (List.all_eq_true.1 h' x hm) hx
  | grd _ _ _ => exact hr.elim
def isNilN : List Nat → Bool
  | [] => true
  | _ => false
theorem flat_args {V V' : Vn} (hs : HLe V.H V'.H) {l : List SX} {us : List Value} (hl : l.all (fun x => isNilN x.refs) = true) (h : All2 (SX.R V) l us) : All2 (SX.R V') l us := by
  refine h.mono fun x u hm hx => ?_
  have hn : x.refs = [] := by
    have := List.all_eq_true.1 hl x hm
    cases hr : x.refs with
    | nil => rfl
    | cons a b => rw [hr] at this; cases this
  have ht : Turned (fun i => i) V V' x.refs := ⟨hs, fun i hi => by rw [hn] at hi; cases hi⟩
  have := SX.R_map ht hx
  rwa [SX.map_eq fun _ _ => rfl] at this
section
variable {P : Program} {f : FuncId}
theorem Does.borrow {pre post : List SX} {e : TypeId} {t : ETy} {l : List t.den} {ret : SV} {ck' : List Chunk} (h : Does P f (pre ++ [.c (.pd (.lst t l))] ++ post) [] ret ck')
    (hpre : pre.all (fun x => isNilN x.refs) = true) (hpost : post.all (fun x => isNilN x.refs) = true) (hck : ck'.all flatC = true) (hret : ownV ret = true) :
    Does P f (pre ++ [.c (.own 0)] ++ post) [.own e t l] (ret.map fun i => i + 1) (.own e t l :: ck') := by
  intro w V vs hw hT hv
  obtain ⟨H', hle, hw1, hpr⟩ := hw.freezeOwn (i := 0) (e := e) (t := t) (l := l) rfl
  have hw2 : WOk (entry [] ⟨H', V.σ, V.ov⟩ w) [] ⟨H', V.σ, V.ov⟩ w :=
    { ext := Fr.refl _ _, imm := hw1.imm, hle := HLe.refl _, frz := fun k hk => .inl hk, agr := fun i _ => ⟨rfl, rfl⟩, own := fun i c hc => (by simp at hc), base := fun i c b hc => (by simp at hc), inj := fun i j c d b hc => (by simp at hc) }
  have hargs : All2 (SX.R ⟨H', V.σ, V.ov⟩) (pre ++ [.c (.pd (.lst t l))] ++ post) vs := by
    have key : ∀ (pre : List SX) (vs : List Value), pre.all (fun x => isNilN x.refs) = true → All2 (SX.R V) (pre ++ (.c (.own 0) :: post)) vs → All2 (SX.R ⟨H', V.σ, V.ov⟩) (pre ++ (.c (.pd (.lst t l)) :: post)) vs := by
      intro pre
      induction pre with
      | nil =>
        intro vs _ hv
        cases hv with
        | cons h1 h2 =>
          have h1' : _ = V.ov 0 := h1
          exact .cons (by rw [h1']; exact hpr) (flat_args (V' := ⟨H', V.σ, V.ov⟩) hle hpost h2)
      | cons x pre ih =>
        intro vs hp hv
        rw [List.all_cons, Bool.and_eq_true] at hp
        cases hv with
        | cons h1 h2 =>
          have h3 := flat_args (V' := ⟨H', V.σ, V.ov⟩) (l := [x]) hle (by simpa using hp.1) (.cons h1 .nil)
          cases h3 with
          | cons h3 _ => exact .cons h3 (ih _ hp.2 h2)
    have := key pre vs hpre (by simpa using hv)
    simpa using this
  refine (h w _ vs hw2 (hT.mono hle) hargs).mono fun en w2 hq => ?_
  obtain ⟨v, V2, rfl, hr, r2⟩ := hq
  have hM : ∀ b, ¬ (entry [] ⟨H', V.σ, V.ov⟩ w).M b := fun b ⟨i, c, hc, _⟩ => by simp at hc
  have hblk : ∀ k, k < w.heap.size → w2.heap[k]? = w.heap[k]? := fun k hk => r2.ext.block k hk (hM k)
  have hH : ∀ k o, V.H k = some o → V2.H k = some o := fun k o hk => r2.hle k o (hle k o hk)
  refine ⟨v, shiftVn V V2, rfl, ownV_shift hret hr, { ext := ?_, imm := ?_, hle := HLe.refl _, frz := fun k hk => .inl hk, agr := ?_, own := ?_, base := ?_, inj := ?_ }⟩
  · exact ⟨r2.ext.os, r2.ext.tape, r2.ext.output, r2.ext.size, fun k hk _ => hblk k hk⟩
  · exact fun k o hk => r2.imm k o (hH k o hk)
  · intro i hi
    have : i = 0 := by have hi' : i < 1 := hi
                       omega
    subst this; exact ⟨rfl, rfl⟩
  · intro i c hc
    cases i with
    | zero =>
      simp only [List.getElem?_cons_zero, Option.some.injEq] at hc
      subst hc
      have h0 := hw.own 0 _ rfl
      exact Chunk.holds_kept (V := shiftVn V V2) (w := w) h0 fun b hb => hblk b (Chunk.blk_lt h0 hb)
    | succ i =>
      rw [List.getElem?_cons_succ] at hc
      have hf := List.all_eq_true.1 hck c (List.mem_of_getElem? hc)
      have h1 := r2.own i c hc
      cases c with
      | own e' t' l' =>
        obtain ⟨xs, h2, h3, h4⟩ := h1
        refine ⟨xs, h2, h3.mono fun p u hp hu => ?_, h4⟩
        obtain ⟨x, _, hx⟩ := List.mem_flatMap.1 hp
        exact flatP_any (flatT_enc hf x p hx) hu
      | _ => cases hf
  · intro i c b hc hb
    cases i with
    | zero =>
      simp only [List.getElem?_cons_zero, Option.some.injEq] at hc
      subst hc
      exact hw.base 0 _ b rfl hb
    | succ i =>
      rw [List.getElem?_cons_succ] at hc
      have hf := List.all_eq_true.1 hck c (List.mem_of_getElem? hc)
      have hb' : c.blk V2 i = some b := by
        cases c with
        | own e' t' l' => exact hb
        | _ => cases hf
      obtain ⟨h1, h2⟩ := r2.base i c b hc hb'
      refine ⟨.inl (h1.resolve_right (hM b)), ?_⟩
      cases hV : (shiftVn V V2).H b with
      | none => rfl
      | some o => rw [hH b o hV] at h2; cases h2
  · have hlow : ∀ {c : Chunk} {b : Nat}, [Chunk.own e t l][0]? = some c → c.blk (shiftVn V V2) 0 = some b → b < w.heap.size := by
      intro c b hc hb
      simp only [List.getElem?_cons_zero, Option.some.injEq] at hc
      subst hc
      exact Chunk.blk_lt (hw.own 0 _ rfl) hb
    have hhigh : ∀ {i : Nat} {c : Chunk} {b : Nat}, ck'[i]? = some c → c.blk (shiftVn V V2) (i + 1) = some b → c.blk V2 i = some b ∧ w.heap.size ≤ b := by
      intro i c b hc hb
      have hf := List.all_eq_true.1 hck c (List.mem_of_getElem? hc)
      have hb' : c.blk V2 i = some b := by
        cases c with
        | own e' t' l' => exact hb
        | _ => cases hf
      exact ⟨hb', (r2.base i c b hc hb').1.resolve_right (hM b)⟩
    intro i j c d b hc hd hb hb2
    cases i with
    | zero =>
      cases j with
      | zero => rfl
      | succ j =>
        rw [List.getElem?_cons_succ] at hd
        have h1 := hlow (by simpa using hc) hb
        have h2 := (hhigh hd hb2).2
        omega
    | succ i =>
      rw [List.getElem?_cons_succ] at hc
      cases j with
      | zero =>
        have h1 := hlow (by simpa using hd) hb2
        have h2 := (hhigh hc hb).2
        omega
      | succ j =>
        rw [List.getElem?_cons_succ] at hd
        rw [r2.inj i j c d b hc hd (hhigh hc hb).1 (hhigh hd hb2).1]
theorem Does.mark {args : List SX} {ck ck' : List Chunk} {ret : SV} (h : Does P f args ck ret ck') : Does P f args ck ret (ck' ++ [.dead]) := by
  intro w V vs hw hT hv
  refine (h w V vs hw hT hv).mono fun en w' hq => ?_
  obtain ⟨v, V', rfl, h1, h2⟩ := hq
  refine ⟨v, V', rfl, h1, h2.sub fun x c hc => ?_⟩
  by_cases hx : x < ck'.length
  · right; rwa [List.getElem?_append_left hx] at hc
  · left
    rw [List.getElem?_append_right (by omega)] at hc
    exact (List.mem_singleton.1 (List.mem_of_getElem? hc))
end
end Go.Ev

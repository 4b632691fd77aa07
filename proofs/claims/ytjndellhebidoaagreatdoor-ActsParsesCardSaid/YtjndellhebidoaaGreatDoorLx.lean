/- Contracts: lists of texts alike. Conditions: none. Contracts: the laws' example. Conditions: none. Plain laws: what blocks' texts are made of; what is told is read. Conditions: each theorem's own. The laws ActsShows, ActsParses, ActsBack, ActsDo. Conditions: sizes; numbers are such. From a call's contract to a law's row: arguments opened, the row shut. Conditions: each theorem's own. From a row that lists the library's tables to what the walks ask; a world for the witness. Conditions: none. -/
import Derived.Test.YtjndellhebidoaaGreatDoorNa
import Derived.Test.YtjndellhebidoaaGreatDoorUi
import Derived.Test.YtjndellhebidoaaGreatDoorDa
import Derived.ProofKit
import Derived.Deep.Slices
import Derived.SizedLaws
import Derived.Test.YtjndellhebidoaaGreatDoorCards
import Derived.Test.YtjndellhebidoaaGreatDoorTie
import Derived.Deep.DeepHandedRow
import Derived.Lib.LaidTab
import Derived.LaidSub
import Derived.Stop.LaidErr
import Derived.MakeChecks
import Derived.Shelf.Vars
namespace Go.Proofs.YtjndellhebidoaaGreatDoor
open Go Go.Ev
set_option maxRecDepth 100000

theorem sames_loop (a b : List Str) (Γ : Ctx) (hl : a.length ≤ maxLen) (he : a.length = b.length) : ∀ (n k : Nat), a.length - k ≤ n → k ≤ a.length → a.take k = b.take k →
    J Tryz.prog 18 (bodyOf Tryz.f18) Γ (Eq2 (.x (.b (a == b))) []) [.code [1, 1, 0, 1, 0, 0], .inLoop [1, 1, 0, 1, 0, 0], .inBlock 0, .code [1, 1, 1]] ({ n := 26, fr := [(0, .p (.lst .str a)), (1, .p (.lst .str b)), (4, .p (.bool false)), (5, .i ((k : Int)))], ck := [], kn := [4] }) := by
  intro n
  induction n with
  | zero => ?_
  | succ n ih => ?_
  all_goals
    intro k hn hk htk
    refine J.go (cfg := cfg0) cfg0_ok Tryz.func18 1000 (t := (.ite (decide ((↑k : Int) < (↑(List.length a) : Int))) (.need ((0 : Int) ≤ (↑k : Int) ∧ (↑k : Int) < (↑(List.length a) : Int)) (.need ((0 : Int) ≤ (↑k : Int) ∧ (↑k : Int) < (↑(List.length b) : Int)) (.ite (!ETy.get .str a k == ETy.get .str b k) (.ret (.p (.bool false)) []) (.stop [.code [1, 1, 0, 1, 0, 0], .inLoop [1, 1, 0, 1, 0, 0], .inBlock 0, .code [1, 1, 1]] { n := 26, fr := [(0, .p (.lst .str a)), (1, .p (.lst .str b)), (4, .p (.bool false)), (5, .i (IntKind.wrap .i64 ((↑k : Int) + (1 : Int))))], ck := [] })))) (.ret (.p (.bool true)) []))) (by kernel_rfl) ?_
    refine ⟨fun hlt => ?_, fun hge => ?_⟩
    · have hk' : k < a.length := by have := of_decide_eq_true hlt; omega
      have hk2 : k < b.length := by omega
      have hg : ETy.get .str a k = a[k] := ETy.get_eq (t := .str) (List.getElem?_eq_getElem hk')
      have hg2 : ETy.get .str b k = b[k] := ETy.get_eq (t := .str) (List.getElem?_eq_getElem hk2)
      rw [hg, hg2]
      refine ⟨by omega, by omega, fun h => ⟨?_, rfl⟩, fun h => ?_⟩
      · have h' : a[k] ≠ b[k] := by simpa using h
        have : (a == b) = false := by
          rw [beq_eq_false_iff_ne]
          intro e; subst e; exact h' rfl
        rw [this]
      · have h' : a[k] = b[k] := by simpa using h
        rw [wrapK (maxLen_lt hk' hl)]
        first
        | (exfalso; omega)
        | exact J.kn [4] (ih (k + 1) (by omega) (by omega) (by rw [List.take_succ_eq_append_getElem hk', List.take_succ_eq_append_getElem hk2, htk, h']))
    · have hk' : k = a.length := by have := of_decide_eq_false hge; omega
      rw [hk', List.take_length, he, List.take_length] at htk
      subst htk
      exact ⟨by simp, rfl⟩
theorem sames_spec (a b : List Str) : Does Tryz.prog 18 [.l .str a, .l .str b] [] (.x (.b (a == b))) [] := by
  refine Does.go (cfg := cfg0) cfg0_ok Tryz.func18 (by kernel_rfl) (by kernel_rfl) (t := (.ite ((↑(List.length a) : Int) != (↑(List.length b) : Int)) (.ret (.p (.bool false)) []) (.stop [.code [1, 1, 0, 1, 0, 0], .inLoop [1, 1, 0, 1, 0, 0], .inBlock 0, .code [1, 1, 1]] { n := 26, fr := [(0, .p (.lst .str a)), (1, .p (.lst .str b)), (4, .p (.bool false)), (5, .i (0 : Int))], ck := [], kn := [4] }))) (by kernel_rfl) fun Γ => ?_
  refine ⟨fun h => ⟨?_, rfl⟩, fun h => ?_⟩
  · have h' : (a.length : Int) ≠ b.length := by simpa using h
    have : (a == b) = false := by
      rw [beq_eq_false_iff_ne]
      intro e; subst e; exact h' rfl
    rw [this]
  · have h' : a.length = b.length := by
      have : (a.length : Int) = b.length := by simpa using h
      omega
    exact J.len 0 rfl fun hl => sames_loop a b Γ hl h' a.length 0 (by omega) (by omega) (by simp)
def eSameS : Nat × (List SX → List Chunk → Option (Option Prop × SV × List Chunk)) := (18, fun
  | [.c (.pd (.lst .str a)), .c (.pd (.lst .str b))], [] => some (none, .x (.c (.pd (.bool (a == b)))), [])
  | _, _ => none)
theorem eSameS_ok (vs : List SX) (ck : List Chunk) (p : Option Prop) (ret : SV) (ck' : List Chunk) (h : eSameS.2 vs ck = some (p, ret, ck')) (hp : Holds p) : Does Tryz.prog eSameS.1 vs ck ret ck' := by
  unfold eSameS at h
  simp only at h
  split at h
  · rename_i a b
    simp only [Option.some.injEq, Prod.mk.injEq] at h
    obtain ⟨rfl, rfl, rfl⟩ := h
    exact sames_spec a b
  · simp at h
end Go.Proofs.YtjndellhebidoaaGreatDoor
namespace Go.Proofs.YtjndellhebidoaaGreatDoor
open Go Go.Ev
set_option maxRecDepth 100000
def wkC : List Cell := [⟨5, 0, [120]⟩, ⟨1, 1, []⟩, ⟨11, 0, []⟩]
def wkB : List Deed := [⟨1, [120], wkC⟩, ⟨3, [100, 111, 110, 101], []⟩]
def wkV : List Var := [⟨[120], 1, 0, 9, ⟨0, 0, 0⟩⟩]
def wkX : List Val := [⟨1, 3, 0⟩]
def wkS : Str := [120, 61, 120, 43, 49, 59, 115, 101, 110, 100, 58, 100, 111, 110, 101]
def wkTm : Tm := .bin ⟨11, 0, []⟩ (.leaf ⟨5, 0, [120]⟩) (.leaf ⟨1, 1, []⟩)
theorem wkTm_ok : wkTm.ok := by
  simp only [wkTm, Tm.ok]
  decide
theorem wkTm_body : wkTm.body = [120, 43, 49] := by
  have l1 : leafS ⟨1, 1, []⟩ = [49] := by
    show Lib.itoa 1 = [49]
    rw [itoa_nat (by omega), Lib.decDigits_one (by omega)]; rfl
  show binS 11 (leafS ⟨5, 0, [120]⟩) _ (leafS ⟨1, 1, []⟩) _ = _
  rw [l1]; rfl
theorem wk_expr : parseE [120, 43, 49] = (wkC, 0, 0) := by
  have h := parse_body wkTm_ok (by decide)
  rw [wkTm_body] at h
  exact h
theorem wk_read1 : readD [120, 61, 120, 43, 49] = some ⟨1, [120], wkC⟩ := by
  have e : postM [120, 61, 120, 43, 49] = [120, 43, 49] := by decide
  have e1 : preM [120, 61, 120, 43, 49] = [120] := by decide
  have := readD_set (s := [120, 61, 120, 43, 49]) (by decide) (by decide) (by decide) (by unfold readsE; rw [e, wk_expr]) (by rw [e, wk_expr, e1]; decide)
  rw [this, e, wk_expr, e1]
theorem wk_read2 : readD [115, 101, 110, 100, 58, 100, 111, 110, 101] = some ⟨3, [100, 111, 110, 101], []⟩ := by
  rw [readD, if_neg (by decide), if_pos (by decide)]
  have e : cutP [115, 101, 110, 100, 58, 100, 111, 110, 101] sendS = [100, 111, 110, 101] := by decide
  rw [e, if_pos (by decide)]
theorem wk_block : blockP wkS = (wkB, 0) := by
  have hp : partsGo [] wkS = [[120, 61, 120, 43, 49], [115, 101, 110, 100, 58, 100, 111, 110, 101]] := by decide
  rw [blockP_val (by decide) (by rw [hp]; decide), hp]
  simp only [readAll, wk_read1, wk_read2]; rfl
theorem wkp_spec : Does Tryz.prog 9 [.s wkS] [] (.tup [.c (.own 0), .i 0]) [.own 60 .deed wkB] := by
  have h := bparse_ok wkS (by show (blockP wkS).2 = 0; rw [wk_block])
  rw [wk_block] at h; exact h
def eWp : Nat × (List SX → List Chunk → Option (Option Prop × SV × List Chunk)) := (9, fun
  | [.c (.pd (.str [120, 61, 120, 43, 49, 59, 115, 101, 110, 100, 58, 100, 111, 110, 101]))], [] => some (none, .tup [.c (.own 0), .c (.pd (.int .i64 0))], [.own 60 .deed wkB])
  | _, _ => none)
theorem eWp_ok (vs : List SX) (ck : List Chunk) (p : Option Prop) (ret : SV) (ck' : List Chunk) (h : eWp.2 vs ck = some (p, ret, ck')) (hp : Holds p) : Does Tryz.prog eWp.1 vs ck ret ck' := by
  unfold eWp at h
  simp only at h
  split at h
  · simp only [Option.some.injEq, Prod.mk.injEq] at h
    obtain ⟨rfl, rfl, rfl⟩ := h
    exact wkp_spec
  · simp at h
theorem wkd_val : doM wkB [⟨[120], 1, 0, 9, ⟨0, 0, 0⟩⟩] [⟨1, 3, 0⟩] = ([⟨1, 4, 0⟩], [], [[100, 111, 110, 101]], true) := by rfl
theorem wkd_spec (l : List Deed) (vs : List Var) (vals : List Val) (h1 : l = wkB) (h2 : vs = [⟨[120], 1, 0, 9, ⟨0, 0, 0⟩⟩]) (h3 : vals = [⟨1, 3, 0⟩]) :
    Does Tryz.prog 14 [.l .deed l, .l .var vs, .l .val vals] [] (.tup [.c (.own 0), .c (.own 1), .c (.own 2), .b true]) [.own 49 .val [⟨1, 4, 0⟩], .own 9 .str [], .own 9 .str [[100, 111, 110, 101]]] := by
  have h := do_spec l vs vals (by rw [h1]; decide) (by rw [h3]; exact ⟨by decide, by decide⟩) (by rw [h3]; decide)
  rw [h1, h2, h3] at h ⊢
  rw [wkd_val] at h; exact h
def eWd : Nat × (List SX → List Chunk → Option (Option Prop × SV × List Chunk)) := (14, fun
  | [.c (.pd (.lst .deed l)), .c (.pd (.lst .var vs)), .c (.pd (.lst .val vals))], [] => some (some (wkB = l ∧ wkV = vs ∧ wkX = vals), .tup [.c (.own 0), .c (.own 1), .c (.own 2), .c (.pd (.bool true))], [.own 49 .val [⟨1, 4, 0⟩], .own 9 .str [], .own 9 .str [[100, 111, 110, 101]]])
  | _, _ => none)
theorem eWd_ok (vs : List SX) (ck : List Chunk) (p : Option Prop) (ret : SV) (ck' : List Chunk) (h : eWd.2 vs ck = some (p, ret, ck')) (hp : Holds p) : Does Tryz.prog eWd.1 vs ck ret ck' := by
  unfold eWd at h
  simp only at h
  split at h
  · rename_i l vs vals
    simp only [Option.some.injEq, Prod.mk.injEq] at h
    obtain ⟨rfl, rfl, rfl⟩ := h
    exact wkd_spec l vs vals hp.1.symm hp.2.1.symm hp.2.2.symm
  · simp at h
def cfgWk : Cfg := ⟨tys0, [eWp, eWd, eSameS]⟩
theorem cfgWk_ok : TabOk Tryz.prog cfgWk.tab := (TabOk.cons eWp_ok (TabOk.cons eWd_ok (TabOk.cons eSameS_ok TabOk.nil)))

theorem wakes6_spec : Does Tryz.prog 11 [] [] (.x (.b true)) [] := by
  refine Does.go (cfg := cfgWk) cfgWk_ok Tryz.func11 (by kernel_rfl) (by kernel_rfl) (t := (.need (wkB = [{ kind := (1 : Int), name := [(120 : UInt8)], expr := [{ op := (5 : Int), a := (0 : Int), name := [(120 : UInt8)] }, { op := (1 : Int), a := (1 : Int), name := [] }, { op := (11 : Int), a := (0 : Int), name := [] }] }, { kind := (3 : Int), name := [(100 : UInt8), 111, 110, 101], expr := [] }] ∧ wkV = [{ name := [(120 : UInt8)], kind := (1 : Int), lo := (0 : Int), hi := (9 : Int), init := { kind := (0 : Int), a := (0 : Int), b := (0 : Int) } }] ∧ wkX = [{ kind := (1 : Int), a := (3 : Int), b := (0 : Int) }]) (.stop [.ops [1, 1, 1, 0] 17, .code [1, 1, 1, 1]] { n := 54, fr := [(0, .p (.bool false)), (3, .x (.c (.own 0))), (37, .p (.bool true)), (38, .grd 37 true (.c (.own 1)))], ck := [.own 49 .val [{ kind := (1 : Int), a := (4 : Int), b := (0 : Int) }], .own 9 .str [[(100 : UInt8), 111, 110, 101]]], kn := [0] }))) (by kernel_rfl) fun Γ => ?_
  refine ⟨⟨rfl, rfl, rfl⟩, ?_⟩
  have hk : J Tryz.prog 11 (bodyOf Tryz.f11) Γ (Eq2 (.x (.b true)) []) [.ops [1, 1, 1, 0] 18, .code [1, 1, 1, 1]] ({ n := 54, fr := [(0, .p (.bool false)), (3, .x (.c (.own 0))), (37, .p (.bool true)), (38, .grd 37 true (.c (.own 1))), (39, .x (.c (.own 2)))], ck := [.own 49 .val [⟨1, 4, 0⟩], .own 9 .str [[100, 111, 110, 101]], .own 9 .str [[100, 111, 110, 101]]], kn := [0] }) := by
    refine J.go (cfg := cfgWk) cfgWk_ok Tryz.func11 1000 (t := (.need (true = true → (0 : Int) ≤ (0 : Int) ∧ (0 : Int) < (↑(1 : Nat) : Int)) (.need (true = true → 0 < 1) (.ret (.p (.bool true)) [])))) (by kernel_rfl) ?_
    exact ⟨fun _ => by decide, fun _ => by decide, rfl, rfl⟩
  exact J.run (cfg := cfgWk) cfgWk_ok (q := none) (by kernel_rfl) trivial hk
def eWk6 : Nat × (List SX → List Chunk → Option (Option Prop × SV × List Chunk)) := (11, fun
  | [], [] => some (none, .x (.c (.pd (.bool true))), [])
  | _, _ => none)
theorem eWk6_ok (vs : List SX) (ck : List Chunk) (p : Option Prop) (ret : SV) (ck' : List Chunk) (h : eWk6.2 vs ck = some (p, ret, ck')) (hp : Holds p) : Does Tryz.prog eWk6.1 vs ck ret ck' := by
  unfold eWk6 at h
  simp only at h
  split at h
  · simp only [Option.some.injEq, Prod.mk.injEq] at h
    obtain ⟨rfl, rfl, rfl⟩ := h
    exact wakes6_spec
  · simp at h
end Go.Proofs.YtjndellhebidoaaGreatDoor
namespace Go.Proofs.YtjndellhebidoaaGreatDoor
open Go Go.Ev
set_option maxRecDepth 100000
/-! ### signs -/
/-! ### told, and read -/
theorem readD_ok {s : Str} {d : Deed} (h : readD s = some d) : deedOk d = true := by
  unfold readD at h
  split at h
  · split at h
    · rename_i h2; simp only [Option.some.injEq] at h; rw [← h]; exact h2
    · cases h
  · split at h
    · split at h
      · rename_i h2; simp only [Option.some.injEq] at h; rw [← h]; exact h2
      · cases h
    · split at h
      · rename_i h2; simp only [Option.some.injEq] at h; rw [← h]; exact h2.2.2
      · cases h
theorem readAll_ok : ∀ (ps : List Str) (l : List Deed), readAll ps = some l → l.length = ps.length ∧ ∀ d ∈ l, deedOk d = true
  | [], l, h => by simp only [readAll, Option.some.injEq] at h; subst h; simp
  | p :: r, l, h => by
    simp only [readAll] at h
    split at h
    · rename_i d m h1 h2
      simp only [Option.some.injEq] at h; subst h
      obtain ⟨g1, g2⟩ := readAll_ok r m h2
      exact ⟨by simp [g1], fun x hx => by rcases List.mem_cons.1 hx with rfl | hx; exact readD_ok h1; exact g2 x hx⟩
    · cases h
theorem block_read {s : Str} (h : readsB s) : blockOk (blockP s).1 = true := by
  have h0 : (blockP s).2 = 0 := h
  unfold blockP at h0 ⊢
  split at h0
  · exact absurd h0 (by decide)
  · rename_i h1
    rw [if_neg h1]
    split at h0
    · exact absurd h0 (by decide)
    · rename_i h2
      rw [if_neg h2]
      split at h0
      · rename_i l hl
        obtain ⟨g1, g2⟩ := readAll_ok _ _ hl
        have g3 : 1 ≤ (partsGo [] s).length := by rw [partsGo_len]; omega
        simp only [hl]
        simp only [blockOk, Bool.and_eq_true, List.all_eq_true, decide_eq_true_eq]
        exact ⟨g2, by omega, by omega⟩
      · exact absurd h0 (by decide)
theorem block_cells {l : List Deed} (h : blockOk l = true) : ∀ d ∈ l, d.expr.length ≤ 32 := by
  intro d hd
  have h1 := (block_parts h).1 d hd
  cases hk : d.kind == 1
  · rw [(deedOk_not h1 hk).2.2]; simp
  · exact (right_tm (deedOk_one h1 hk).2.1).1
end Go.Proofs.YtjndellhebidoaaGreatDoor
namespace Go.Proofs.YtjndellhebidoaaGreatDoor
open Go Go.Ev
set_option maxRecDepth 100000
/-! ### ActsShows -/
/-! ### ActsParses -/
noncomputable def cfgQ1 : Cfg := ⟨tys0, [eWk6, nPb1, nRpb1, eSameD]⟩
theorem cfgQ1_ok : TabOk Tryz.prog cfgQ1.tab := (TabOk.cons eWk6_ok (TabOk.cons nPb1_ok (TabOk.cons nRpb1_ok (TabOk.cons eSameD_ok TabOk.nil))))
noncomputable def cfgQ0 : Cfg := ⟨tys0, [eWk6, nPb0, nRpb0, eSameD]⟩
theorem cfgQ0_ok : TabOk Tryz.prog cfgQ0.tab := (TabOk.cons eWk6_ok (TabOk.cons nPb0_ok (TabOk.cons nRpb0_ok (TabOk.cons eSameD_ok TabOk.nil))))
theorem cells_few {l : List Deed} (h : blockOk l = true) : ∀ d ∈ l, d.expr.length ≤ 1000000 := fun d hd => by
  have := block_cells h d hd; omega
theorem acts_parses_spec (s : Str) : Does Tryz.prog 3 [.s s] [] (.x (.b true)) [] := by
  by_cases h : readsB s
  · refine Does.go (cfg := cfgQ1) cfgQ1_ok Tryz.func3 (by kernel_rfl) (by kernel_rfl) (t := (.need (readsB s) (.need (readsB s) (.need (true = true → ∀ (d : ETy.den .deed), d ∈ Prod.fst (blockP s) → List.length (Deed.expr d) ≤ 1000000) (.ret (.p (.bool (true && sameDeeds (Prod.fst (blockP s)) (Prod.fst (blockP s)) && (0 : Int) == (0 : Int)))) []))))) (by kernel_rfl) fun Γ => ?_
    refine ⟨h, h, fun _ => cells_few (block_read h), ?_, rfl⟩
    rw [sameDeeds_self]; rfl
  · refine Does.go (cfg := cfgQ0) cfgQ0_ok Tryz.func3 (by kernel_rfl) (by kernel_rfl) (t := (.need (¬readsB s) (.need (¬readsB s) (.need (true = true → ∀ (d : ETy.den .deed), d ∈ [] → List.length (Deed.expr d) ≤ 1000000) (.ret (.p (.bool (true && true && Prod.snd (blockP s) == Prod.snd (blockP s)))) []))))) (by kernel_rfl) fun Γ => ?_
    refine ⟨h, h, fun _ d hd => (by cases hd), ?_, rfl⟩
    simp
/-! ### ActsBack -/
/-! ### ActsDo -/
end Go.Proofs.YtjndellhebidoaaGreatDoor
namespace Go.Ev
open Go.RowKit Go.ChangeShapes Go.WideShapes

def HW (W : World) : Mem := fun k => W.heap[k]?
def VW (W : World) : Vn := ⟨HW W, fun _ => 0, fun _ => undef⟩
theorem wok_entry (W : World) : WOk (entry [] (VW W) W) [] (VW W) W where
  ext := Fr.refl _ _
  imm := fun _ _ h => h
  hle := HLe.refl _
  frz := fun _ h => .inl h
  agr := fun i hi => absurd hi (Nat.not_lt_zero _)
  own := fun i c h => by simp at h
  base := fun i c b h => by simp at h
  inj := fun i j c d b h => by simp at h
/-- A contract with nothing lent, at a law's world. -/
theorem Does.law {P : Program} {f : FuncId} {args : List SX} {b : Bool} (h : Does P f args [] (.x (.c (.pd (.bool b)))) []) {W : World} (hT : Tabs P (HW W)) {vs : List Value} (hvs : All2 (SX.R (VW W)) args vs) :
    Calls P f vs.toArray W (fun e W' => e = .returned (.bool b) ∧ Below W.heap.size W W') := by
  refine (h W (VW W) vs (wok_entry W) hT hvs).mono fun e W' hp => ?_
  obtain ⟨v, V', rfl, hr, hw⟩ := hp
  have hr' : PR V'.H (.bool b) v := hr
  cases hr'
  refine ⟨rfl, hw.ext.os, hw.ext.tape, hw.ext.output, hw.ext.size, fun k hk => hw.ext.block k hk ?_⟩
  rintro ⟨i, c, hc, _⟩
  simp [entry] at hc
section
variable {Hh : Type} {enc : TypeId × Value → Hh} {P : Program} {W : World} {base : Nat} {spare : Nat → Bool} {held : Bool}
end
section
variable {Hh : Type} {enc : TypeId × Value → Hh} {P : Program} {W W' : World}
theorem trodAll_below (hl : laidOutB P = true) (hb : Below W.heap.size W W') : ∀ {ts : List TypeId} {vs : List Value} {ds : List (DataW Hh)} {p : List MemPlace}, (∀ t ∈ ts, P.readableRec t = true ∧ t < P.types.size) → (∀ x ∈ p, x.block < W.heap.size) →
    DataW.TrodAll enc P W 0 (fun _ => true) true ts vs ds p → DataW.TrodAll enc P W' 0 (fun b => decide (b < W.heap.size)) true ts vs ds p
  | [], _, _, _, _, _, h => by
    obtain ⟨rfl, rfl, rfl⟩ := trodAll_nil h
    rfl
  | t :: ts, _, _, _, hr, hp, h => by
    obtain ⟨v, vs, d, ds, a, b, rfl, rfl, rfl, h1, h2⟩ := trodAll_cons h
    exact ⟨a, b, Below.trod hl (hr t List.mem_cons_self).1 (hr t List.mem_cons_self).2 h1 hb (fun x hx => hp x (List.mem_append_left _ hx)),
      trodAll_below hl hb (fun u hu => hr u (List.mem_cons_of_mem _ hu)) (fun x hx => hp x (List.mem_append_right _ hx)) h2, rfl⟩
theorem law_post {f : Func} {s : ChangeSpec} {tb : TypeId} {args : Array Value} {ds gs : List (DataW Hh)} {before : List MemPlace} (hl : laidOutB P = true) (hrt : f.resultTypes.toList = [tb]) (hsz : f.resultTypes.size = 1) (htb : P.underlying tb = some .bool) (hvars : s.vars = [])
    (hfn : (s.fn Hh ds).results = [.lit (.bool true)] ∧ (s.fn Hh ds).args = ds ∧ (s.fn Hh ds).vars = []) (hpar : ∀ t ∈ f.params.toList, P.readableRec t = true ∧ t < P.types.size)
    (hW : DataW.Whole enc P f.params.toList s.vars false W args.toList ds gs before) (hb : Below W.heap.size W W') : s.post enc P f false true false false W args (.bool true) W' := by
  have hW' := hW
  obtain ⟨p, q, hA, hV, rfl, hfz, hnd⟩ := hW
  rw [hvars] at hV
  obtain ⟨rfl, rfl⟩ := trodVars_none hV
  rw [List.append_nil] at hW' hfz
  have hlt : ∀ x ∈ p, x.block < W.heap.size := fun x hx => by simpa using hW'.lt x hx
  refine ⟨ds, [], p, [], p, [], hW', ?_, ?_, ?_, ?_, fun h => Bool.noConfusion h⟩
  · rw [List.append_nil, hfn.1, hrt, hsz]
    exact trodAll_mk1 (shut_bool htb _)
  · rw [List.append_nil, hfn.2.1]
    exact trodAll_below hl hb hpar hlt hA
  · rw [List.append_nil, hfn.2.2, hvars]
    rfl
  · exact World.keptBut_mono (fun x hx => ⟨hx, .inr (.inl hx)⟩) (hb.frame _)
end
end Go.Ev
namespace Go.Proofs.YtjndellhebidoaaGreatDoor
open Go Go.Ev Go.RowKit Go.ChangeShapes Go.WideShapes Go.ChangeAt
set_option maxRecDepth 100000
theorem own : ownKnob Tryz.prog.godebug = none := by kernel_rfl
theorem laidOut : laidOutB Tryz.prog = true := by kernel_rfl
theorem mvar_of {P : Program} {W : World} {name : String} {cs : Array Value} (h : W.var? P name = some cs) : MVar P (HW W) name cs := by
  unfold World.var? at h
  cases hg : P.globalNamed name with
  | none => rw [hg] at h; simp at h
  | some g =>
    rw [hg] at h
    simp only [Option.bind_some] at h
    split at h
    · rename_i c e fr hb
      simp only [Option.some.injEq] at h
      subst h
      exact ⟨g, e, fr, hg, hb⟩
    · cases h
abbrev textRange : ByteArray := ⟨#[118, 97, 108, 117, 101, 32, 111, 117, 116, 32, 111, 102, 32, 114, 97, 110, 103, 101]⟩
abbrev textSyntax : ByteArray := ⟨#[105, 110, 118, 97, 108, 105, 100, 32, 115, 121, 110, 116, 97, 120]⟩
theorem errRow (u : TypeId) (h : Tryz.prog.typeName? 3 u = some "*errors.errorString") : u = 235 :=
  typeName_ptr_named (nm := "errors.errorString") (by rw [show ("*" ++ "errors.errorString" : String) = "*errors.errorString" by kernel_rfl]; kernel_rfl) (by kernel_rfl) (by decide) u (by rw [show ("*" ++ "errors.errorString" : String) = "*errors.errorString" by kernel_rfl]; exact h)
/-- An error's variable that a list has at its head. -/
theorem merr_of {W : World} {n : String} {text : List UInt8} {l : List (String × DataW Unit)} (h : laidMetH Tryz.prog l W) (e : (l.filter fun x => x.1 == n) = [(n, .iface "*errors.errorString" (.ptr (.agg [.lit (.string text)])))]) (ht : (Tryz.prog.globals[(Tryz.prog.globalNamed n).getD 0]?).map (·.type) = some 110) (hg : (Tryz.prog.globalNamed n).isSome = true) : MErr Tryz.prog (HW W) n := fun _ => by
  have h1 := laidMetH.filter (fun x => x.1 == n) h
  rw [e, MakeChecks.laidMetH_plain _ _ _ (by rfl)] at h1
  obtain ⟨g, hg⟩ := Option.isSome_iff_exists.1 hg
  rw [hg] at ht
  obtain ⟨a0, s0, hv0, -, -, -⟩ := laid_sentinel h1 hg ht Tryz.underlying110 errRow Tryz.underlying235 Tryz.underlying237 rfl rfl Tryz.underlying9 (by kernel_rfl) (by kernel_rfl)
  exact ⟨_, _, mvar_of hv0⟩
/-- A number's variable, by the world's shape. -/
theorem maxlen_of {W : World} (h : W.ShapedOpen Tryz.prog) : MInt Tryz.prog (HW W) "internal/bytealg.MaxLen" := fun _ => by
  obtain ⟨m, hm⟩ : ∃ m, W.cell? ⟨0, 0, none⟩ = some (.int .i64 m) := Go.Proofs.cell_of_shapedOpen_int (zero := #[.int .i64 0]) (t := 3) h (of_decide_eq_true (by kernel_rfl)) (by kernel_rfl) rfl (by kernel_rfl) (by kernel_rfl) Tryz.underlying3
  unfold World.cell? at hm
  split at hm
  · split at hm
    · cases hm
    · rename_i cs e fr hb _
      exact ⟨0, cs, e, fr, m, by kernel_rfl, hb, hm⟩
  · cases hm
/-- WHAT THE ROW's LIST GIVES: the table of powers of ten; the two errors. -/
theorem tabs7 {W : World} (h : laidMetH Tryz.prog Rows.actsParsesRow.laid W) (hs : W.ShapedOpen Tryz.prog) : Tabs Tryz.prog (HW W) := by
  refine ⟨fun _ => ?_, merr_of (text := textSyntax.data.toList) h (by kernel_rfl) (by kernel_rfl) (by kernel_rfl), merr_of (text := textRange.data.toList) h (by kernel_rfl) (by kernel_rfl) (by kernel_rfl), maxlen_of hs⟩
  have h1 := laidMetH.filter (fun x => x.1 == "internal/strconv.uint64pow10") h
  have e : (Rows.actsParsesRow.laid.filter fun x => x.1 == "internal/strconv.uint64pow10") = [("internal/strconv.uint64pow10", Lib.tabData .u64 Lib.pow10Tab)] := by kernel_rfl
  rw [e] at h1
  have ht : (Tryz.prog.globals[(Tryz.prog.globalNamed "internal/strconv.uint64pow10").getD 0]?).map (·.type) = some 203 := by kernel_rfl
  exact mvar_of (Lib.tabIs_of_head (rest := []) (g := (Tryz.prog.globalNamed "internal/strconv.uint64pow10").getD 0) (by kernel_rfl) ht Tryz.underlying203 Tryz.underlying178 (by kernel_rfl) (by kernel_rfl) h1)
noncomputable def litCell : DataW Unit → List Value
  | .lit (.int k z) => [Value.int k z]
  | .agg [.lit (.int k z), .lit (.int k' z')] => [Value.int k z, Value.int k' z']
  | _ => []
noncomputable def tabCells : DataW Unit → Array Value
  | .agg ds => (ds.flatMap litCell).toArray
  | _ => #[]
noncomputable def layCells (name : String) (cs : Array Value) (heap : Array Obj) : Array Obj := heap.modify ((Tryz.prog.globalNamed name).getD 0) fun
  | .cells _ t frozen => .cells cs t frozen
  | o => o
noncomputable def layTab (name : String) (d : DataW Unit) (heap : Array Obj) : Array Obj := layCells name (tabCells d) heap
noncomputable def low : Nat := (World.holding Tryz.prog default ⟨#[], #[], []⟩).heap.size
noncomputable def world2 (os : Os) : World := World.holding Tryz.prog os ⟨#[.cells #[.string textRange] 237, .cells #[.string textSyntax] 237], #[], []⟩
/-- A WORLD FOR THE WITNESS: the settled one, the tables and the errors as their initialisers lay them. -/
noncomputable def laidWorld (os : Os) : World :=
  { world2 os with heap := layCells "strconv.ErrRange" #[.iface 235 (.pointer (some ⟨low, 0, none⟩))] (layCells "strconv.ErrSyntax" #[.iface 235 (.pointer (some ⟨low + 1, 0, none⟩))] (layTab "unicode/utf8.first" Rows.laid_unicode_utf8_first (layTab "unicode/utf8.acceptRanges" Rows.laid_unicode_utf8_acceptRanges (layTab "internal/strconv.uint64pow10" Rows.laid_internal_strconv_uint64pow10 (layTab "math/bits.deBruijn64tab" Rows.laid_math_bits_deBruijn64tab (layTab "math/bits.deBruijn32tab" Rows.laid_math_bits_deBruijn32tab (world2 os).heap)))))) }
/-- A text argument; its reading. -/
theorem string9 {Hh : Type} {enc : TypeId × Value → Hh} {W : World} {base : Nat} {spare : Nat → Bool} {held : Bool} {v : Value} {d : DataW Hh} {ps : List MemPlace} {b0 : Nat} (h : DataW.Trod enc Tryz.prog W base spare held 9 v d ps) (hv : Value.okWide Tryz.prog W .any b0 9 v) :
    ∃ s : Str, SX.R (VW W) (.c (.pd (.str s))) v ∧ d = .lit (.string s) := by
  have hv' : Cell.okWide Tryz.prog W .any b0 9 v := by simpa only [Value.okWide, Tryz.underlying9] using hv
  obtain ⟨fuel, hf⟩ := h
  have hc : v.cells.toList = [v] := by
    have hv2 := hv'
    simp only [Cell.okWide, Tryz.underlying9, Cell.ok] at hv2
    cases v <;> first | rfl | exact hv2.elim
  rw [hc] at hf
  obtain ⟨s, h1, h2⟩ := DataW.trod_string Tryz.underlying9 hf
  simp only [List.cons.injEq, and_true] at h1
  subst h1
  refine ⟨s.data.toList, ?_, ?_⟩
  · have : PR (HW W) (.str s.data.toList) (.string (bs s.data.toList)) := .str _
    rw [bs_eta] at this
    exact this
  · exact congrArg Prod.fst h2.1
end Go.Proofs.YtjndellhebidoaaGreatDoor

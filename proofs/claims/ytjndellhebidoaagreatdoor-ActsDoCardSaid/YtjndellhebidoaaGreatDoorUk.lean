/- Contracts: lists of texts alike. Conditions: none. Contracts: the laws' example. Conditions: none. Plain laws: what blocks' texts are made of; what is told is read. Conditions: each theorem's own. -/
import Derived.Test.YtjndellhebidoaaGreatDoorNa
import Derived.Test.YtjndellhebidoaaGreatDoorUh
namespace Go.Proofs.YtjndellhebidoaaGreatDoor
open Go Go.Ev
set_option maxRecDepth 100000

theorem sames_loop (a b : List Str) (Γ : Ctx) (hl : a.length ≤ maxLen) (he : a.length = b.length) : ∀ (n k : Nat), a.length - k ≤ n → k ≤ a.length → a.take k = b.take k →
    J Tryz.prog 18 (bodyOf Tryz.f18) Γ (Eq2 (.x (.b (a == b))) []) [.code [1, 1, 0, 1, 0, 0], .inLoop [1, 1, 0, 1, 0, 0], .inBlock 0, .code [1, 1, 1]] ({ n := 26, fr := [(0, .p (.lst .str a)), (1, .p (.lst .str b)), (4, .p (.bool false)), (5, .i ((k : Int)))], ck := [], kn := [4] }) := by
  intro n
  induction n with
  | zero => ?_
  | succ n ih => ?_
  all_goals
    intro k hn hk htk
    refine J.go (cfg := cfg0) cfg0_ok Tryz.func18 1000 (t := (.ite (decide ((↑k : Int) < (↑(List.length a) : Int))) (.need ((0 : Int) ≤ (↑k : Int) ∧ (↑k : Int) < (↑(List.length a) : Int)) (.need ((0 : Int) ≤ (↑k : Int) ∧ (↑k : Int) < (↑(List.length b) : Int)) (.ite (!ETy.get .str a k == ETy.get .str b k) (.ret (.p (.bool false)) []) (.stop [.code [1, 1, 0, 1, 0, 0], .inLoop [1, 1, 0, 1, 0, 0], .inBlock 0, .code [1, 1, 1]] { n := 26, fr := [(0, .p (.lst .str a)), (1, .p (.lst .str b)), (4, .p (.bool false)), (5, .i (IntKind.wrap .i64 ((↑k : Int) + (1 : Int))))], ck := [] })))) (.ret (.p (.bool true)) []))) (by kernel_rfl) ?_
    refine ⟨fun hlt => ?_, fun hge => ?_⟩
    · have hk' : k < a.length := by have := of_decide_eq_true hlt; omega
      have hk2 : k < b.length := by omega
      have hg : ETy.get .str a k = a[k] := ETy.get_eq (t := .str) (List.getElem?_eq_getElem hk')
      have hg2 : ETy.get .str b k = b[k] := ETy.get_eq (t := .str) (List.getElem?_eq_getElem hk2)
      rw [hg, hg2]
      refine ⟨by omega, by omega, fun h => ⟨?_, rfl⟩, fun h => ?_⟩
      · have h' : a[k] ≠ b[k] := by simpa using h
        have : (a == b) = false := by
          rw [beq_eq_false_iff_ne]
          intro e; subst e; exact h' rfl
        rw [this]
      · have h' : a[k] = b[k] := by simpa using h
        rw [wrapK (maxLen_lt hk' hl)]
        first
        | (exfalso; omega)
        | exact J.kn [4] (ih (k + 1) (by omega) (by omega) (by rw [List.take_succ_eq_append_getElem hk', List.take_succ_eq_append_getElem hk2, htk, h']))
    · have hk' : k = a.length := by have := of_decide_eq_false hge; omega
      rw [hk', List.take_length, he, List.take_length] at htk
      subst htk
      exact ⟨by simp, rfl⟩
theorem sames_spec (a b : List Str) : Does Tryz.prog 18 [.l .str a, .l .str b] [] (.x (.b (a == b))) [] := by
  refine Does.go (cfg := cfg0) cfg0_ok Tryz.func18 (by kernel_rfl) (by kernel_rfl) (t := (.ite ((↑(List.length a) : Int) != (↑(List.length b) : Int)) (.ret (.p (.bool false)) []) (.stop [.code [1, 1, 0, 1, 0, 0], .inLoop [1, 1, 0, 1, 0, 0], .inBlock 0, .code [1, 1, 1]] { n := 26, fr := [(0, .p (.lst .str a)), (1, .p (.lst .str b)), (4, .p (.bool false)), (5, .i (0 : Int))], ck := [], kn := [4] }))) (by kernel_rfl) fun Γ => ?_
  refine ⟨fun h => ⟨?_, rfl⟩, fun h => ?_⟩
  · have h' : (a.length : Int) ≠ b.length := by simpa using h
    have : (a == b) = false := by
      rw [beq_eq_false_iff_ne]
      intro e; subst e; exact h' rfl
    rw [this]
  · have h' : a.length = b.length := by
      have : (a.length : Int) = b.length := by simpa using h
      omega
    exact J.len 0 rfl fun hl => sames_loop a b Γ hl h' a.length 0 (by omega) (by omega) (by simp)
def eSameS : Nat × (List SX → List Chunk → Option (Option Prop × SV × List Chunk)) := (18, fun
  | [.c (.pd (.lst .str a)), .c (.pd (.lst .str b))], [] => some (none, .x (.c (.pd (.bool (a == b)))), [])
  | _, _ => none)
theorem eSameS_ok (vs : List SX) (ck : List Chunk) (p : Option Prop) (ret : SV) (ck' : List Chunk) (h : eSameS.2 vs ck = some (p, ret, ck')) (hp : Holds p) : Does Tryz.prog eSameS.1 vs ck ret ck' := by
  unfold eSameS at h
  simp only at h
  split at h
  · rename_i a b
    simp only [Option.some.injEq, Prod.mk.injEq] at h
    obtain ⟨rfl, rfl, rfl⟩ := h
    exact sames_spec a b
  · simp at h
end Go.Proofs.YtjndellhebidoaaGreatDoor
namespace Go.Proofs.YtjndellhebidoaaGreatDoor
open Go Go.Ev
set_option maxRecDepth 100000
def wkC : List Cell := [⟨5, 0, [120]⟩, ⟨1, 1, []⟩, ⟨11, 0, []⟩]
def wkB : List Deed := [⟨1, [120], wkC⟩, ⟨3, [100, 111, 110, 101], []⟩]
def wkV : List Var := [⟨[120], 1, 0, 9, ⟨0, 0, 0⟩⟩]
def wkX : List Val := [⟨1, 3, 0⟩]
def wkS : Str := [120, 61, 120, 43, 49, 59, 115, 101, 110, 100, 58, 100, 111, 110, 101]
def wkTm : Tm := .bin ⟨11, 0, []⟩ (.leaf ⟨5, 0, [120]⟩) (.leaf ⟨1, 1, []⟩)
theorem wkTm_ok : wkTm.ok := by
  simp only [wkTm, Tm.ok]
  decide
theorem wkTm_body : wkTm.body = [120, 43, 49] := by
  have l1 : leafS ⟨1, 1, []⟩ = [49] := by
    show Lib.itoa 1 = [49]
    rw [itoa_nat (by omega), Lib.decDigits_one (by omega)]; rfl
  show binS 11 (leafS ⟨5, 0, [120]⟩) _ (leafS ⟨1, 1, []⟩) _ = _
  rw [l1]; rfl
theorem wk_expr : parseE [120, 43, 49] = (wkC, 0, 0) := by
  have h := parse_body wkTm_ok (by decide)
  rw [wkTm_body] at h
  exact h
theorem wk_read1 : readD [120, 61, 120, 43, 49] = some ⟨1, [120], wkC⟩ := by
  have e : postM [120, 61, 120, 43, 49] = [120, 43, 49] := by decide
  have e1 : preM [120, 61, 120, 43, 49] = [120] := by decide
  have := readD_set (s := [120, 61, 120, 43, 49]) (by decide) (by decide) (by decide) (by unfold readsE; rw [e, wk_expr]) (by rw [e, wk_expr, e1]; decide)
  rw [this, e, wk_expr, e1]
theorem wk_read2 : readD [115, 101, 110, 100, 58, 100, 111, 110, 101] = some ⟨3, [100, 111, 110, 101], []⟩ := by
  rw [readD, if_neg (by decide), if_pos (by decide)]
  have e : cutP [115, 101, 110, 100, 58, 100, 111, 110, 101] sendS = [100, 111, 110, 101] := by decide
  rw [e, if_pos (by decide)]
theorem wk_block : blockP wkS = (wkB, 0) := by
  have hp : partsGo [] wkS = [[120, 61, 120, 43, 49], [115, 101, 110, 100, 58, 100, 111, 110, 101]] := by decide
  rw [blockP_val (by decide) (by rw [hp]; decide), hp]
  simp only [readAll, wk_read1, wk_read2]; rfl
theorem wkp_spec : Does Tryz.prog 9 [.s wkS] [] (.tup [.c (.own 0), .i 0]) [.own 60 .deed wkB] := by
  have h := bparse_ok wkS (by show (blockP wkS).2 = 0; rw [wk_block])
  rw [wk_block] at h; exact h
def eWp : Nat × (List SX → List Chunk → Option (Option Prop × SV × List Chunk)) := (9, fun
  | [.c (.pd (.str [120, 61, 120, 43, 49, 59, 115, 101, 110, 100, 58, 100, 111, 110, 101]))], [] => some (none, .tup [.c (.own 0), .c (.pd (.int .i64 0))], [.own 60 .deed wkB])
  | _, _ => none)
theorem eWp_ok (vs : List SX) (ck : List Chunk) (p : Option Prop) (ret : SV) (ck' : List Chunk) (h : eWp.2 vs ck = some (p, ret, ck')) (hp : Holds p) : Does Tryz.prog eWp.1 vs ck ret ck' := by
  unfold eWp at h
  simp only at h
  split at h
  · simp only [Option.some.injEq, Prod.mk.injEq] at h
    obtain ⟨rfl, rfl, rfl⟩ := h
    exact wkp_spec
  · simp at h
theorem wkd_val : doM wkB [⟨[120], 1, 0, 9, ⟨0, 0, 0⟩⟩] [⟨1, 3, 0⟩] = ([⟨1, 4, 0⟩], [], [[100, 111, 110, 101]], true) := by rfl
theorem wkd_spec (l : List Deed) (vs : List Var) (vals : List Val) (h1 : l = wkB) (h2 : vs = [⟨[120], 1, 0, 9, ⟨0, 0, 0⟩⟩]) (h3 : vals = [⟨1, 3, 0⟩]) :
    Does Tryz.prog 14 [.l .deed l, .l .var vs, .l .val vals] [] (.tup [.c (.own 0), .c (.own 1), .c (.own 2), .b true]) [.own 49 .val [⟨1, 4, 0⟩], .own 9 .str [], .own 9 .str [[100, 111, 110, 101]]] := by
  have h := do_spec l vs vals (by rw [h1]; decide) (by rw [h3]; exact ⟨by decide, by decide⟩) (by rw [h3]; decide)
  rw [h1, h2, h3] at h ⊢
  rw [wkd_val] at h; exact h
def eWd : Nat × (List SX → List Chunk → Option (Option Prop × SV × List Chunk)) := (14, fun
  | [.c (.pd (.lst .deed l)), .c (.pd (.lst .var vs)), .c (.pd (.lst .val vals))], [] => some (some (wkB = l ∧ wkV = vs ∧ wkX = vals), .tup [.c (.own 0), .c (.own 1), .c (.own 2), .c (.pd (.bool true))], [.own 49 .val [⟨1, 4, 0⟩], .own 9 .str [], .own 9 .str [[100, 111, 110, 101]]])
  | _, _ => none)
theorem eWd_ok (vs : List SX) (ck : List Chunk) (p : Option Prop) (ret : SV) (ck' : List Chunk) (h : eWd.2 vs ck = some (p, ret, ck')) (hp : Holds p) : Does Tryz.prog eWd.1 vs ck ret ck' := by
  unfold eWd at h
  simp only at h
  split at h
  · rename_i l vs vals
    simp only [Option.some.injEq, Prod.mk.injEq] at h
    obtain ⟨rfl, rfl, rfl⟩ := h
    exact wkd_spec l vs vals hp.1.symm hp.2.1.symm hp.2.2.symm
  · simp at h
def cfgWk : Cfg := ⟨tys0, [eWp, eWd, eSameS]⟩
theorem cfgWk_ok : TabOk Tryz.prog cfgWk.tab := (TabOk.cons eWp_ok (TabOk.cons eWd_ok (TabOk.cons eSameS_ok TabOk.nil)))

theorem wakes6_spec : Does Tryz.prog 11 [] [] (.x (.b true)) [] := by
  refine Does.go (cfg := cfgWk) cfgWk_ok Tryz.func11 (by kernel_rfl) (by kernel_rfl) (t := (.need (wkB = [{ kind := (1 : Int), name := [(120 : UInt8)], expr := [{ op := (5 : Int), a := (0 : Int), name := [(120 : UInt8)] }, { op := (1 : Int), a := (1 : Int), name := [] }, { op := (11 : Int), a := (0 : Int), name := [] }] }, { kind := (3 : Int), name := [(100 : UInt8), 111, 110, 101], expr := [] }] ∧ wkV = [{ name := [(120 : UInt8)], kind := (1 : Int), lo := (0 : Int), hi := (9 : Int), init := { kind := (0 : Int), a := (0 : Int), b := (0 : Int) } }] ∧ wkX = [{ kind := (1 : Int), a := (3 : Int), b := (0 : Int) }]) (.stop [.ops [1, 1, 1, 0] 17, .code [1, 1, 1, 1]] { n := 54, fr := [(0, .p (.bool false)), (3, .x (.c (.own 0))), (37, .p (.bool true)), (38, .grd 37 true (.c (.own 1)))], ck := [.own 49 .val [{ kind := (1 : Int), a := (4 : Int), b := (0 : Int) }], .own 9 .str [[(100 : UInt8), 111, 110, 101]]], kn := [0] }))) (by kernel_rfl) fun Γ => ?_
  refine ⟨⟨rfl, rfl, rfl⟩, ?_⟩
  have hk : J Tryz.prog 11 (bodyOf Tryz.f11) Γ (Eq2 (.x (.b true)) []) [.ops [1, 1, 1, 0] 18, .code [1, 1, 1, 1]] ({ n := 54, fr := [(0, .p (.bool false)), (3, .x (.c (.own 0))), (37, .p (.bool true)), (38, .grd 37 true (.c (.own 1))), (39, .x (.c (.own 2)))], ck := [.own 49 .val [⟨1, 4, 0⟩], .own 9 .str [[100, 111, 110, 101]], .own 9 .str [[100, 111, 110, 101]]], kn := [0] }) := by
    refine J.go (cfg := cfgWk) cfgWk_ok Tryz.func11 1000 (t := (.need (true = true → (0 : Int) ≤ (0 : Int) ∧ (0 : Int) < (↑(1 : Nat) : Int)) (.need (true = true → 0 < 1) (.ret (.p (.bool true)) [])))) (by kernel_rfl) ?_
    exact ⟨fun _ => by decide, fun _ => by decide, rfl, rfl⟩
  exact J.run (cfg := cfgWk) cfgWk_ok (q := none) (by kernel_rfl) trivial hk
def eWk6 : Nat × (List SX → List Chunk → Option (Option Prop × SV × List Chunk)) := (11, fun
  | [], [] => some (none, .x (.c (.pd (.bool true))), [])
  | _, _ => none)
theorem eWk6_ok (vs : List SX) (ck : List Chunk) (p : Option Prop) (ret : SV) (ck' : List Chunk) (h : eWk6.2 vs ck = some (p, ret, ck')) (hp : Holds p) : Does Tryz.prog eWk6.1 vs ck ret ck' := by
  unfold eWk6 at h
  simp only at h
  split at h
  · simp only [Option.some.injEq, Prod.mk.injEq] at h
    obtain ⟨rfl, rfl, rfl⟩ := h
    exact wakes6_spec
  · simp at h
end Go.Proofs.YtjndellhebidoaaGreatDoor
namespace Go.Proofs.YtjndellhebidoaaGreatDoor
open Go Go.Ev
set_option maxRecDepth 100000
/-! ### signs -/
def inkB (c : UInt8) : Bool := decide (33 ≤ c.toNat) && decide (c.toNat ≤ 126) && !(c == 59)
theorem word_ink {c : UInt8} (h : wordB c = true) : inkB c = true ∧ c ≠ 61 ∧ c ≠ 58 := by
  have h59 : c ≠ 59 := fun e => by subst e; exact absurd h (by decide)
  refine ⟨?_, fun e => by subst e; exact absurd h (by decide), fun e => by subst e; exact absurd h (by decide)⟩
  simp only [wordB, Bool.or_eq_true, Bool.and_eq_true, decide_eq_true_eq, beq_iff_eq] at h
  simp only [inkB, Bool.and_eq_true, decide_eq_true_eq, Bool.not_eq_true', beq_eq_false_iff_ne]
  exact ⟨by omega, h59⟩
theorem isD_ink {c : UInt8} (h : isD c = true) : inkB c = true := by
  have h59 : c ≠ 59 := fun e => by subst e; exact absurd h (by decide)
  simp only [isD, Bool.and_eq_true, decide_eq_true_eq] at h
  simp only [inkB, Bool.and_eq_true, decide_eq_true_eq, Bool.not_eq_true', beq_eq_false_iff_ne]
  exact ⟨by omega, h59⟩
theorem all_mono {α : Type} {p q : α → Bool} {l : List α} (h : l.all p = true) (hpq : ∀ x, p x = true → q x = true) : l.all q = true :=
  List.all_eq_true.2 fun x hx => hpq x (List.all_eq_true.1 h x hx)
theorem name_ink {w : Str} (h : nameM w = true) : w.all inkB = true := all_mono (nameM_word h).1 fun _ hx => (word_ink hx).1
theorem event_ink {w : Str} (h : eventM w = true) : w.all inkB = true := by
  unfold eventM at h
  cases hp : hasP w [100, 111, 110, 101, 46]
  · rw [cutP, hp, cond_false] at h; exact name_ink h
  · obtain ⟨r, rfl⟩ := hasP_split hp
    rw [cutP_yes] at h
    rw [List.all_append, name_ink h]; decide
theorem bif_ink {c : Bool} {a b : Str × Int} (ha : a.1.all inkB = true) (hb : b.1.all inkB = true) : (bif c then a else b).1.all inkB = true := by
  cases c
  · exact hb
  · exact ha
theorem sign_ink (op : Int) : (signM op).1.all inkB = true := by
  unfold signM
  repeat' (with_reducible refine bif_ink ?_ ?_)
  all_goals decide
theorem paren_ink {b : Str} (p q : Int) (h : b.all inkB = true) : (parenS p b q).all inkB = true := by
  unfold parenS
  cases decide (p < q)
  · exact h
  · simp only [cond_true, List.all_append, h]; decide
theorem itoa_ink {a : Int} (h : 0 ≤ a) : (Lib.itoa a).all inkB = true := by
  rw [itoa_nat h]; exact all_mono (dec_all a.toNat).1 fun _ => isD_ink
theorem leaf_ink {c : Cell} (h : wantsC c = 0) : (leafS c).all inkB = true := by
  rcases leaf_cell h with ⟨a, rfl, h0, h1⟩ | ⟨a, rfl, h0, h1⟩ | rfl | rfl | ⟨n, rfl, hn⟩ | ⟨n, rfl, hn⟩
  · exact itoa_ink h0
  · show (Lib.itoa a ++ [105]).all inkB = true
    rw [List.all_append, itoa_ink h0]; decide
  · decide
  · decide
  · exact name_ink hn
  · show ([105, 110, 40] ++ n ++ [41] : Str).all inkB = true
    rw [List.all_append, List.all_append, name_ink hn]; decide
theorem body_ink : ∀ t : Tm, t.ok → t.body.all inkB = true
  | .leaf c, h => leaf_ink h
  | .un c t, ⟨_, ht⟩ => by
    have ih := body_ink t ht
    show (unS c.op t.body t.pow).all inkB = true
    unfold unS
    cases c.op == 9
    · cases c.op == 10
      · simp only [cond_false, List.all_append, sign_ink, paren_ink _ _ ih, Bool.and_self]
      · simp only [cond_false, cond_true, List.all_append, ih]; decide
    · simp only [cond_true, List.all_append, ih]; decide
  | .bin c t u, ⟨_, ht, hu⟩ => by
    have ih := body_ink t ht
    have ihu := body_ink u hu
    show (binS c.op t.body t.pow u.body u.pow).all inkB = true
    unfold binS
    simp only [List.all_append, sign_ink, paren_ink _ _ ih, paren_ink _ _ ihu, Bool.and_self]
theorem show_ink {l : List Cell} (h : rightM l = true) : (showM l).all inkB = true := by
  obtain ⟨_, t, ht, hf⟩ := right_tm h
  rw [← hf, show_tree ht]; exact body_ink t ht
theorem show_parse {l : List Cell} (h : rightM l = true) : parseE (showM l) = (l, 0, 0) := by
  obtain ⟨hl, t, ht, hf⟩ := right_tm h
  rw [← hf, show_tree ht]; exact parse_body ht (by rw [hf]; exact hl)
theorem deedS_ink {d : Deed} (h : deedOk d = true) : (deedS d).all inkB = true := by
  unfold deedS
  cases h1 : d.kind == 1
  · have g := event_ink (deedOk_not h h1).2.1
    cases d.kind == 2
    · simp only [cond_false, List.all_append, g]; decide
    · simp only [cond_false, cond_true, List.all_append, g]; decide
  · obtain ⟨g1, g2, _⟩ := deedOk_one h h1
    simp only [cond_true, List.all_append, name_ink g1, show_ink g2]; decide
theorem ink_no {s : Str} (h : s.all inkB = true) : (59 : UInt8) ∉ s := fun hm => absurd (List.all_eq_true.1 h _ hm) (by decide)
/-! ### told, and read -/
theorem parts_tail : ∀ (r : List Str) (x cur : Str), (59 : UInt8) ∉ x → (∀ y ∈ r, (59 : UInt8) ∉ y) → partsGo cur (x ++ Lib.joinTail [59] r) = (cur ++ x) :: r
  | [], x, cur, hx, _ => by
    have : Lib.joinTail [59] [] = [] := rfl
    rw [this, List.append_nil, partsGo_none x cur hx]
  | y :: r, x, cur, hx, hr => by
    have e : Lib.joinTail [59] (y :: r) = 59 :: (y ++ Lib.joinTail [59] r) := by simp [Lib.joinTail]
    rw [e, partsGo_app x cur _ hx, parts_tail r y [] (hr y List.mem_cons_self) fun z hz => hr z (List.mem_cons_of_mem _ hz)]; rfl
theorem parts_join {xs : List Str} (h0 : xs ≠ []) (h : ∀ y ∈ xs, (59 : UInt8) ∉ y) : partsGo [] (Lib.join xs [59]) = xs := by
  cases xs with
  | nil => exact absurd rfl h0
  | cons x r => rw [Lib.join_cons, parts_tail r x [] (h x List.mem_cons_self) fun z hz => h z (List.mem_cons_of_mem _ hz)]; rfl
theorem set_heads {n x : Str} (hn : nameM n = true) : hasP (n ++ 61 :: x) raiseS = false ∧ hasP (n ++ 61 :: x) sendS = false ∧ hasEq (n ++ 61 :: x) = true ∧ preM (n ++ 61 :: x) = n ∧ postM (n ++ 61 :: x) = x := by
  have hw := (nameM_word hn).1
  have ha : ∀ c ∈ n, (c == 61) = false ∧ (c == 58) = false := fun c hc => by
    have := word_ink (List.all_eq_true.1 hw c hc)
    exact ⟨by simpa using this.2.1, by simpa using this.2.2⟩
  have hk : n.length < (n ++ 61 :: x).length := by simp
  have ht : (n ++ 61 :: x).take n.length = n := List.take_left
  obtain ⟨g1, g2, g3⟩ := at_eq (s := n ++ 61 :: x) hk (by rw [ht]; exact fun c hc => (ha c hc).1) (by simp)
  rw [ht] at g2
  have hd : (n ++ 61 :: x).drop (n.length + 1) = x := by rw [← List.drop_drop, List.drop_left]; rfl
  rw [hd] at g3
  have no : ∀ (p : Str) (k : Nat), p[k]? = some 58 → (61 : UInt8) ∉ p → hasP (n ++ 61 :: x) p = false := by
    intro p k hp hq
    cases h : hasP (n ++ 61 :: x) p
    · rfl
    · exfalso
      obtain ⟨r, hr⟩ := hasP_split h
      have hkl : k < p.length := (List.getElem?_eq_some_iff.1 hp).1
      by_cases hnk : k < n.length
      · have e1 : (n ++ 61 :: x)[k]? = n[k]? := List.getElem?_append_left hnk
        rw [hr, List.getElem?_append_left hkl, hp] at e1
        have hm : (58 : UInt8) ∈ n := List.mem_of_getElem? e1.symm
        have := (ha _ hm).2
        simp at this
      · have e1 : (n ++ 61 :: x)[n.length]? = some 61 := by rw [List.getElem?_append_right (Nat.le_refl _), Nat.sub_self]; rfl
        rw [hr, List.getElem?_append_left (by omega)] at e1
        exact hq (List.mem_of_getElem? e1)
  exact ⟨no raiseS 5 rfl (by decide), no sendS 4 rfl (by decide), g1, g2, g3⟩
theorem cutP_app (p x : Str) : hasP (p ++ x) p = true ∧ cutP (p ++ x) p = x := by
  have h : hasP (p ++ x) p = true := by
    have h1 : strLen (p ++ x) = ((p ++ x).length : Int) := rfl
    have h2 : strLen p = (p.length : Int) := rfl
    simp only [hasP, h1, h2, Bool.and_eq_true, decide_eq_true_eq, beq_iff_eq, Int.toNat_natCast, List.take_left, and_true, List.length_append]; omega
  refine ⟨h, ?_⟩
  have h2 : strLen p = (p.length : Int) := rfl
  rw [cutP, h, cond_true, h2, Int.toNat_natCast, List.drop_left]
theorem read_deed {d : Deed} (h : deedOk d = true) : readD (deedS d) = some d := by
  obtain ⟨k, n, l⟩ := d
  cases h1 : k == 1
  · obtain ⟨h2, h3, h4⟩ := deedOk_not h h1
    have h4' : l = [] := h4
    subst h4'
    rcases h2 with h2 | h2
    · have h2' : k = 2 := h2
      subst h2'
      obtain ⟨g1, g2⟩ := cutP_app raiseS n
      show readD (raiseS ++ n) = _
      rw [readD, if_pos g1, g2, if_pos h]
    · have h2' : k = 3 := h2
      subst h2'
      obtain ⟨g1, g2⟩ := cutP_app sendS n
      have g0 : hasP (sendS ++ n) raiseS = false := by
        cases hh : hasP (sendS ++ n) raiseS
        · rfl
        · obtain ⟨r, hr⟩ := hasP_split hh
          have := congrArg List.head? hr
          simp [sendS, raiseS] at this
      show readD (sendS ++ n) = _
      rw [readD, if_neg (by rw [g0]; simp), if_pos g1, g2, if_pos h]
  · obtain ⟨g1, g2, g3⟩ := deedOk_one h h1
    have h1' : k = 1 := by simpa using h1
    subst h1'
    obtain ⟨e1, e2, e3, e4, e5⟩ := set_heads (x := showM l) g1
    have hp := show_parse g2
    have e : deedS ⟨1, n, l⟩ = n ++ 61 :: showM l := by show n ++ [61] ++ showM l = _; simp
    rw [e]
    have := readD_set e1 e2 e3 (by show (parseE _).2.2 = 0; rw [e5, hp]) (by rw [e4, e5, hp]; exact h)
    rw [this, e4, e5, hp]
theorem readAll_deeds : ∀ l : List Deed, (∀ d ∈ l, deedOk d = true) → readAll (l.map deedS) = some l
  | [], _ => rfl
  | d :: l, h => by
    simp only [List.map_cons, readAll, read_deed (h d List.mem_cons_self), readAll_deeds l fun x hx => h x (List.mem_cons_of_mem _ hx)]
theorem showB_len {l : List Deed} (h : blockOk l = true) : (showB l).length ≤ 4808 := by
  obtain ⟨h1, _, h3⟩ := block_parts h
  have := join_len (l.map deedS) (fun x hx => by
    obtain ⟨d, hd', rfl⟩ := List.mem_map.1 hx
    exact (deedS_len (h1 d hd')).2.1)
  rw [List.length_map] at this
  show (Lib.join (l.map deedS) [59]).length ≤ _
  omega
theorem block_back {l : List Deed} (h : blockOk l = true) : blockP (showB l) = (l, 0) := by
  obtain ⟨h1, h2, h3⟩ := block_parts h
  have hp : partsGo [] (showB l) = l.map deedS := parts_join (by intro e; rw [List.map_eq_nil_iff] at e; subst e; simp at h2) (fun y hy => by
    obtain ⟨d, hd, rfl⟩ := List.mem_map.1 hy
    exact ink_no (deedS_ink (h1 d hd)))
  have hl := showB_len h
  have hL : strLen (showB l) = ((showB l).length : Int) := rfl
  rw [blockP_val (by omega) (by rw [hp, List.length_map]; omega), hp, readAll_deeds l h1]
theorem readD_ok {s : Str} {d : Deed} (h : readD s = some d) : deedOk d = true := by
  unfold readD at h
  split at h
  · split at h
    · rename_i h2; simp only [Option.some.injEq] at h; rw [← h]; exact h2
    · cases h
  · split at h
    · split at h
      · rename_i h2; simp only [Option.some.injEq] at h; rw [← h]; exact h2
      · cases h
    · split at h
      · rename_i h2; simp only [Option.some.injEq] at h; rw [← h]; exact h2.2.2
      · cases h
theorem readAll_ok : ∀ (ps : List Str) (l : List Deed), readAll ps = some l → l.length = ps.length ∧ ∀ d ∈ l, deedOk d = true
  | [], l, h => by simp only [readAll, Option.some.injEq] at h; subst h; simp
  | p :: r, l, h => by
    simp only [readAll] at h
    split at h
    · rename_i d m h1 h2
      simp only [Option.some.injEq] at h; subst h
      obtain ⟨g1, g2⟩ := readAll_ok r m h2
      exact ⟨by simp [g1], fun x hx => by rcases List.mem_cons.1 hx with rfl | hx; exact readD_ok h1; exact g2 x hx⟩
    · cases h
theorem block_read {s : Str} (h : readsB s) : blockOk (blockP s).1 = true := by
  have h0 : (blockP s).2 = 0 := h
  unfold blockP at h0 ⊢
  split at h0
  · exact absurd h0 (by decide)
  · rename_i h1
    rw [if_neg h1]
    split at h0
    · exact absurd h0 (by decide)
    · rename_i h2
      rw [if_neg h2]
      split at h0
      · rename_i l hl
        obtain ⟨g1, g2⟩ := readAll_ok _ _ hl
        have g3 : 1 ≤ (partsGo [] s).length := by rw [partsGo_len]; omega
        simp only [hl]
        simp only [blockOk, Bool.and_eq_true, List.all_eq_true, decide_eq_true_eq]
        exact ⟨g2, by omega, by omega⟩
      · exact absurd h0 (by decide)
theorem block_cells {l : List Deed} (h : blockOk l = true) : ∀ d ∈ l, d.expr.length ≤ 32 := by
  intro d hd
  have h1 := (block_parts h).1 d hd
  cases hk : d.kind == 1
  · rw [(deedOk_not h1 hk).2.2]; simp
  · exact (right_tm (deedOk_one h1 hk).2.1).1
end Go.Proofs.YtjndellhebidoaaGreatDoor

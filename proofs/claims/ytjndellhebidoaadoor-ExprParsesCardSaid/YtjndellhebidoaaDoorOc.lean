/- Contracts: the laws' example, copies. Conditions: none. -/
import Derived.Test.YtjndellhebidoaaDoorOb
import Derived.Test.YtjndellhebidoaaDoorOd
import Derived.Test.YtjndellhebidoaaDoorMf
namespace Go.Proofs.YtjndellhebidoaaDoor
open Go Go.Ev
set_option maxRecDepth 100000
def wkL : List Cell := [⟨5, 0, [97]⟩, ⟨5, 0, [98]⟩, ⟨5, 0, [99]⟩, ⟨11, 0, []⟩, ⟨12, 0, []⟩]
def wkT : Tm := .bin ⟨12, 0, []⟩ (.leaf ⟨5, 0, [97]⟩) (.bin ⟨11, 0, []⟩ (.leaf ⟨5, 0, [98]⟩) (.leaf ⟨5, 0, [99]⟩))
theorem wk_ok : wkT.ok := by
  simp only [wkT, Tm.ok]
  decide
theorem wk_parse : parseE [97, 45, 40, 98, 43, 99, 41] = (wkL, 0, 0) := by
  have h := parse_body wk_ok (by decide)
  have e : wkT.body = [97, 45, 40, 98, 43, 99, 41] := by decide
  rw [e] at h
  exact h
theorem wk_show : showE wkL = ([97, 45, 40, 98, 43, 99, 41], 0) := by
  have h := show_tree wk_ok
  have e : wkT.body = [97, 45, 40, 98, 43, 99, 41] := by decide
  have e2 : wkT.flat = wkL := by rfl
  have e3 : rightM wkL = true := by decide
  rw [e, e2] at h
  unfold showE
  rw [if_pos e3, h]
theorem itoa_one {a : Int} (h0 : 0 ≤ a) (h1 : a < 10) : Lib.itoa a = [UInt8.ofNat (48 + a.toNat)] := by
  rw [itoa_nat h0, Lib.decDigits_one (by omega)]
theorem wk_fault : parseE [49, 60, 50, 60, 51] = ([], 3, 1) := by
  let s : Str := [49, 60, 50, 60, 51]
  have l1 : (Tm.leaf ⟨1, 1, []⟩).tin 4 = [49] := by
    rw [leaf_tin (by decide) (by omega)]
    show Lib.itoa 1 = [49]
    rw [itoa_one (by omega) (by omega)]; rfl
  have l2 : (Tm.leaf ⟨1, 2, []⟩).tin 4 = [50] := by
    rw [leaf_tin (by decide) (by omega)]
    show Lib.itoa 2 = [50]
    rw [itoa_one (by omega) (by omega)]; rfl
  have w3 : ∀ x : UInt8, x ≠ 61 → ∀ y, Weak 3 (60 :: x :: y) := by
    intro x hx y
    right
    have e : opAhead (60 :: x :: y) = (18, 1) := by simp [opAhead, twoOp, opAt1, oneOp, hx]
    rw [e]; decide
  have h1 := ((tree_reads (s := s) (.leaf ⟨1, 1, []⟩) (by show wantsC _ = 0; decide)).2 4 (by omega) (by omega)).full (by omega) (by omega) (k := 0) (out := []) (y := [60, 50, 60, 51]) (q := 3) (by rw [l1]; exact ⟨by omega, by decide, rfl⟩) ⟨by decide, by decide⟩ (w3 50 (by decide) _) (by omega)
  have h2 := ((tree_reads (s := s) (.leaf ⟨1, 2, []⟩) (by show wantsC _ = 0; decide)).2 4 (by omega) (by omega)).full (by omega) (by omega) (k := 2) (out := [⟨1, 1, []⟩]) (y := [60, 51]) (q := 3) (by rw [l2]; exact ⟨by omega, by decide, rfl⟩) ⟨by decide, by decide⟩ (w3 51 (by decide) _) (by omega)
  rw [l1] at h1
  rw [l2] at h2
  have e1 : operM (s.drop 1) 3 = (18, 1) := by decide
  have h3 : Run s (.loop 3) ⟨1, [⟨1, 1, []⟩], -1⟩ ⟨3, [⟨1, 1, []⟩, ⟨1, 2, []⟩, ⟨18, 0, []⟩], -1⟩ := by
    have := Run.once (s := s) (r := ⟨1, [⟨1, 1, []⟩], -1⟩) (q := ⟨3, [⟨1, 1, []⟩, ⟨1, 2, []⟩], -1⟩) (by
      intro hx; apply hx; refine ⟨by decide, ?_⟩
      show (operM (s.drop 1) 3).1 ≠ 0
      rw [e1]; decide) (by
      show Run s (.bin 4) ((⟨1, [⟨1, 1, []⟩], -1⟩ : Rd).to (1 + (operM (s.drop 1) 3).2)) _
      rw [e1]; exact h2)
    have e2 : (operM (s.drop (⟨1, [⟨1, 1, []⟩], -1⟩ : Rd).pos.toNat) 3).1 = 18 := by show (operM (s.drop 1) 3).1 = 18; rw [e1]
    rw [e2] at this; exact this
  have h4 : Run s (.bin 3) ⟨0, [], -1⟩ ⟨3, [⟨1, 1, []⟩, ⟨1, 2, []⟩, ⟨18, 0, []⟩], -1⟩ := .bin (by omega) (by omega) h1 h3
  have h5 := down 2 1 3 _ _ (by omega) (by omega) (by omega) h4 (fun j hj hj2 => by
    rintro ⟨_, hx⟩
    have : j = 1 ∨ j = 2 := by omega
    rcases this with rfl | rfl
    · exact hx (by decide)
    · exact hx (by decide))
  unfold parseE
  rw [run_is h5, if_neg (by decide), if_neg (show ¬ (-1 : Int) ≥ 0 by decide)]
  exact if_pos (show (3 : Int) < 5 by decide)
theorem wk1_spec : Does Tryd.prog 15 [.s [97, 45, 40, 98, 43, 99, 41]] [] (.tup [.c (.own 0), .i 0, .i 0]) [.own 38 .cell wkL] := by
  have h := eparse_ok [97, 45, 40, 98, 43, 99, 41] (by show (parseE _).2.2 = 0; rw [wk_parse])
  rw [wk_parse] at h; exact h
theorem wk2_spec : Does Tryd.prog 15 [.s [49, 60, 50, 60, 51]] [] (.tup [.c (.pd (.v (.slice none 0 0))), .i 3, .i 1]) [] := by
  have h := eparse_bad [49, 60, 50, 60, 51] (by show ¬ (parseE _).2.2 = 0; rw [wk_fault]; decide)
  rw [wk_fault] at h; exact h
theorem wk3_spec : Does Tryd.prog 13 [.l .cell wkL] [] (.tup [.s [97, 45, 40, 98, 43, 99, 41], .i 0]) [] := by
  have h := show_spec wkL
  rw [wk_show] at h; exact h
def eWk1 : Nat × (List SX → List Chunk → Option (Option Prop × SV × List Chunk)) := (15, fun
  | [.c (.pd (.str [97, 45, 40, 98, 43, 99, 41]))], [] => some (none, .tup [.c (.own 0), .c (.pd (.int .i64 0)), .c (.pd (.int .i64 0))], [.own 38 .cell wkL])
  | _, _ => none)
theorem eWk1_ok (vs : List SX) (ck : List Chunk) (p : Option Prop) (ret : SV) (ck' : List Chunk) (h : eWk1.2 vs ck = some (p, ret, ck')) (hp : Holds p) : Does Tryd.prog eWk1.1 vs ck ret ck' := by
  unfold eWk1 at h
  simp only at h
  split at h
  · simp only [Option.some.injEq, Prod.mk.injEq] at h
    obtain ⟨rfl, rfl, rfl⟩ := h
    exact wk1_spec
  · simp at h
def eWk2 : Nat × (List SX → List Chunk → Option (Option Prop × SV × List Chunk)) := (15, fun
  | [.c (.pd (.str [49, 60, 50, 60, 51]))], [] => some (none, .tup [.c (.pd (.v (.slice none 0 0))), .c (.pd (.int .i64 3)), .c (.pd (.int .i64 1))], [])
  | _, _ => none)
theorem eWk2_ok (vs : List SX) (ck : List Chunk) (p : Option Prop) (ret : SV) (ck' : List Chunk) (h : eWk2.2 vs ck = some (p, ret, ck')) (hp : Holds p) : Does Tryd.prog eWk2.1 vs ck ret ck' := by
  unfold eWk2 at h
  simp only at h
  split at h
  · simp only [Option.some.injEq, Prod.mk.injEq] at h
    obtain ⟨rfl, rfl, rfl⟩ := h
    exact wk2_spec
  · simp at h
def eShow : Nat × (List SX → List Chunk → Option (Option Prop × SV × List Chunk)) := (13, fun
  | [.c (.pd (.lst .cell l))], [] => some (none, .tup [.c (.pd (.str (showE l).1)), .c (.pd (.int .i64 (showE l).2))], [])
  | _, _ => none)
theorem eShow_ok (vs : List SX) (ck : List Chunk) (p : Option Prop) (ret : SV) (ck' : List Chunk) (h : eShow.2 vs ck = some (p, ret, ck')) (hp : Holds p) : Does Tryd.prog eShow.1 vs ck ret ck' := by
  unfold eShow at h
  simp only at h
  split at h
  · rename_i l
    simp only [Option.some.injEq, Prod.mk.injEq] at h
    obtain ⟨rfl, rfl, rfl⟩ := h
    exact show_spec l
  · simp at h
def cfgWk1 : Cfg := ⟨tys0, [eWk1, eWk2, eShow]⟩
theorem cfgWk1_ok : TabOk Tryd.prog cfgWk1.tab := (TabOk.cons eWk1_ok (TabOk.cons eWk2_ok (TabOk.cons eShow_ok TabOk.nil)))
theorem wakes_spec : Does Tryd.prog 9 [] [] (.x (.b true)) [] := by
  refine Does.go (cfg := cfgWk1) cfgWk1_ok Tryd.func9 (by kernel_rfl) (by kernel_rfl) (t := (Tree.ret (SV.x (SX.c (SC.pd (PD.bool true)))) [])) (by kernel_rfl) fun Γ => ?_
  exact ⟨rfl, rfl⟩
def eWks : Nat × (List SX → List Chunk → Option (Option Prop × SV × List Chunk)) := (9, fun
  | [], [] => some (none, .x (.c (.pd (.bool true))), [])
  | _, _ => none)
theorem eWks_ok (vs : List SX) (ck : List Chunk) (p : Option Prop) (ret : SV) (ck' : List Chunk) (h : eWks.2 vs ck = some (p, ret, ck')) (hp : Holds p) : Does Tryd.prog eWks.1 vs ck ret ck' := by
  unfold eWks at h
  simp only at h
  split at h
  · simp only [Option.some.injEq, Prod.mk.injEq] at h
    obtain ⟨rfl, rfl, rfl⟩ := h
    exact wakes_spec
  · simp at h
theorem copied_spec (l : List Cell) (h : room l.length 32) : Does Tryd.prog 11 [.l .cell l] [] (.x (.c (.own 0))) [.own 38 .cell l] := by
  refine Does.go (cfg := cfg0) cfg0_ok Tryd.func11 (by kernel_rfl) (by kernel_rfl) (t := (Tree.need (room (List.length ([] ++ l)) (32 : Nat)) (Tree.ret (SV.x (SX.c (SC.own (0 : Nat)))) [Chunk.own (38 : Nat) ETy.cell ([] ++ l)]))) (by kernel_rfl) fun Γ => ?_
  exact ⟨h, rfl, rfl⟩
def eCpd : Nat × (List SX → List Chunk → Option (Option Prop × SV × List Chunk)) := (11, fun
  | [.c (.pd (.lst .cell l))], [] => some (some (room l.length 32), .x (.c (.own 0)), [.own 38 .cell l])
  | _, _ => none)
theorem eCpd_ok (vs : List SX) (ck : List Chunk) (p : Option Prop) (ret : SV) (ck' : List Chunk) (h : eCpd.2 vs ck = some (p, ret, ck')) (hp : Holds p) : Does Tryd.prog eCpd.1 vs ck ret ck' := by
  unfold eCpd at h
  simp only at h
  split at h
  · rename_i l
    simp only [Option.some.injEq, Prod.mk.injEq] at h
    obtain ⟨rfl, rfl, rfl⟩ := h
    exact copied_spec l hp
  · simp at h
/-! ### lists, alike -/
def sameGo : List Cell → List Cell → Bool
  | [], [] => true
  | x :: r, y :: q => (x.op == y.op && (x.a == y.a && x.name == y.name)) && sameGo r q
  | _, _ => false
theorem sameGo_self : ∀ l : List Cell, sameGo l l = true
  | [] => rfl
  | x :: r => by simp [sameGo, sameGo_self r]
theorem sameGo_len : ∀ a b : List Cell, a.length ≠ b.length → sameGo a b = false
  | [], [], h => absurd rfl h
  | [], _ :: _, _ => rfl
  | _ :: _, [], _ => rfl
  | x :: r, y :: q, h => by
    rw [sameGo, sameGo_len r q (fun e => h (by simp [e])), Bool.and_false]

theorem same_loop (a b : List Cell) (Γ : Ctx) (hab : a.length = b.length) (ha : a.length ≤ 1000000) : ∀ (n k : Nat), a.length - k ≤ n → k ≤ a.length →
    J Tryd.prog 17 (bodyOf Tryd.f17) Γ (Eq2 (.x (.b (sameGo (a.drop k) (b.drop k)))) []) [PI.code [(1 : Nat), (1 : Nat), (0 : Nat), (1 : Nat), (0 : Nat), (0 : Nat)], PI.inLoop [(1 : Nat), (1 : Nat), (0 : Nat), (1 : Nat), (0 : Nat), (0 : Nat)], PI.inBlock (0 : Nat), PI.code [(1 : Nat), (1 : Nat), (1 : Nat)]] ({ n := (26 : Nat), fr := [(0, SV.x (SX.c (SC.pd (PD.lst ETy.cell a)))), (1, SV.x (SX.c (SC.pd (PD.lst ETy.cell b)))), (4, SV.x (SX.c (SC.pd (PD.bool false)))), (5, SV.x (SX.c (SC.pd (PD.int IntKind.i64 ((k : Int))))))], ck := [], kn := [(4 : Nat)] }) := by
  intro n
  induction n with
  | zero => ?_
  | succ n ih => ?_
  all_goals
    intro k hn hk
    refine J.go (cfg := cfg0) cfg0_ok Tryd.func17 1000 (t := (Tree.ite (decide ((↑k : Int) < (↑(List.length a) : Int))) (Tree.need ((0 : Int) ≤ (↑k : Int) ∧ (↑k : Int) < (↑(List.length a) : Int)) (Tree.need ((0 : Int) ≤ (↑k : Int) ∧ (↑k : Int) < (↑(List.length b) : Int)) (Tree.ite (!(Cell.op (ETy.get ETy.cell a k) == Cell.op (ETy.get ETy.cell b k) && (Cell.a (ETy.get ETy.cell a k) == Cell.a (ETy.get ETy.cell b k) && Cell.name (ETy.get ETy.cell a k) == Cell.name (ETy.get ETy.cell b k)))) (Tree.ret (SV.x (SX.c (SC.pd (PD.bool false)))) []) (Tree.stop [PI.code [(1 : Nat), (1 : Nat), (0 : Nat), (1 : Nat), (0 : Nat), (0 : Nat)], PI.inLoop [(1 : Nat), (1 : Nat), (0 : Nat), (1 : Nat), (0 : Nat), (0 : Nat)], PI.inBlock (0 : Nat), PI.code [(1 : Nat), (1 : Nat), (1 : Nat)]] { n := (26 : Nat), fr := [((0 : Nat), SV.x (SX.c (SC.pd (PD.lst ETy.cell a)))), ((1 : Nat), SV.x (SX.c (SC.pd (PD.lst ETy.cell b)))), ((4 : Nat), SV.x (SX.c (SC.pd (PD.bool false)))), ((5 : Nat), SV.x (SX.c (SC.pd (PD.int IntKind.i64 (IntKind.wrap IntKind.i64 ((↑k : Int) + (1 : Int)))))))], ck := [] })))) (Tree.ret (SV.x (SX.c (SC.pd (PD.bool true)))) []))) (by kernel_rfl) ?_
    refine ⟨fun hlt => ?_, fun hge => ?_⟩
    · have hk' : k < a.length := by have := of_decide_eq_true hlt; omega
      have hkb : k < b.length := by omega
      rw [drop_get (t := .cell) (l := a) hk', drop_get (t := .cell) (l := b) hkb]
      refine ⟨by omega, by omega, ?_⟩
      generalize ETy.get .cell a k = x
      generalize ETy.get .cell b k = y
      refine ⟨fun h => ?_, fun h => ?_⟩
      · have h' : (x.op == y.op && (x.a == y.a && x.name == y.name)) = false := by rw [Bool.not_eq_true'] at h; exact h
        rw [sameGo, h', Bool.false_and]; exact ⟨rfl, rfl⟩
      · have h' : (x.op == y.op && (x.a == y.a && x.name == y.name)) = true := by rw [Bool.not_eq_false'] at h; exact h
        rw [sameGo, h', Bool.true_and, wrapK (by omega)]
        first
        | (exfalso; omega)
        | exact J.kn [4] (ih (k + 1) (by omega) (by omega))
    · have hk2 : k = a.length := by have := of_decide_eq_false hge; omega
      have e : a.drop k = [] := drop_end (by omega)
      have e2 : b.drop k = [] := drop_end (by omega)
      rw [e, e2]; exact ⟨rfl, rfl⟩
theorem same_spec (a b : List Cell) (ha : a.length ≤ 1000000) : Does Tryd.prog 17 [.l .cell a, .l .cell b] [] (.x (.b (sameGo a b))) [] := by
  refine Does.go (cfg := cfg0) cfg0_ok Tryd.func17 (by kernel_rfl) (by kernel_rfl) (t := (Tree.ite ((↑(List.length a) : Int) != (↑(List.length b) : Int)) (Tree.ret (SV.x (SX.c (SC.pd (PD.bool false)))) []) (Tree.stop [PI.code [(1 : Nat), (1 : Nat), (0 : Nat), (1 : Nat), (0 : Nat), (0 : Nat)], PI.inLoop [(1 : Nat), (1 : Nat), (0 : Nat), (1 : Nat), (0 : Nat), (0 : Nat)], PI.inBlock (0 : Nat), PI.code [(1 : Nat), (1 : Nat), (1 : Nat)]] { n := (26 : Nat), fr := [((0 : Nat), SV.x (SX.c (SC.pd (PD.lst ETy.cell a)))), ((1 : Nat), SV.x (SX.c (SC.pd (PD.lst ETy.cell b)))), ((4 : Nat), SV.x (SX.c (SC.pd (PD.bool false)))), ((5 : Nat), SV.x (SX.c (SC.pd (PD.int IntKind.i64 (0 : Int)))))], ck := [], kn := [(4 : Nat)] }))) (by kernel_rfl) fun Γ => ?_
  refine ⟨fun h => ?_, fun h => ?_⟩
  · rw [sameGo_len a b (by have : (a.length : Int) ≠ b.length := by simpa using h
                           omega)]; exact ⟨rfl, rfl⟩
  · have hab : a.length = b.length := by
      have : (a.length : Int) = b.length := by simpa using h
      omega
    exact same_loop a b Γ hab ha a.length 0 (by omega) (Nat.zero_le _)
def eSame : Nat × (List SX → List Chunk → Option (Option Prop × SV × List Chunk)) := (17, fun
  | [.c (.pd (.lst .cell a)), .c (.pd (.lst .cell b))], [] => some (some (a.length ≤ 1000000), .x (.c (.pd (.bool (sameGo a b)))), [])
  | _, _ => none)
theorem eSame_ok (vs : List SX) (ck : List Chunk) (p : Option Prop) (ret : SV) (ck' : List Chunk) (h : eSame.2 vs ck = some (p, ret, ck')) (hp : Holds p) : Does Tryd.prog eSame.1 vs ck ret ck' := by
  unfold eSame at h
  simp only at h
  split at h
  · rename_i a b
    simp only [Option.some.injEq, Prod.mk.injEq] at h
    obtain ⟨rfl, rfl, rfl⟩ := h
    exact same_spec a b hp
  · simp at h
/-! ### ExprRight -/
def cfgLr : Cfg := ⟨tys0, [eWks, eCpd, eRight, eRright]⟩
theorem cfgLr_ok : TabOk Tryd.prog cfgLr.tab := (TabOk.cons eWks_ok (TabOk.cons eCpd_ok (TabOk.cons eRight_ok (TabOk.cons eRright_ok TabOk.nil))))

/-- A guarded value whose guard is known to hold. -/
theorem J.settle {P : Program} {f : FuncId} {root : Code} {Γ : Ctx} {Q : Out} {todo : List PI} {st : ST} {t s : Nat} {want : Bool} {v : SX} (hm : (t, SV.grd s want v) ∈ st.fr) (hb : lookup st.fr s = some (.x (.c (.pd (.bool want))))) {fr' : List (Nat × SV)} (hf : ∀ p ∈ fr', p ∈ st.fr ∨ p = (t, .x v))
    (hk : J P f root Γ Q todo { st with fr := fr' }) : J P f root Γ Q todo st := by
  intro hT V a w r
  have hon : a.tmps.getD s undef = .bool want := by
    have := r.slots s _ (lookup_mem hb)
    have h2 : SX.R V (.c (.pd (.bool want))) (a.tmps.getD s undef) := this
    generalize a.tmps.getD s undef = u at h2 ⊢
    cases h2; rfl
  have hv : SlotOk V a t (.x v) := (r.slots t _ hm).1 hon
  refine hk hT V a w ⟨r.1, r.2, fun t' sv h' => ?_, r.4, r.5⟩
  rcases hf _ h' with h | h
  · exact r.slots _ _ h
  · simp only [Prod.mk.injEq] at h
    obtain ⟨rfl, rfl⟩ := h; exact hv

theorem expr_right_spec (l : List Cell) (h : room l.length 32) : Does Tryd.prog 3 [.l .cell l] [] (.x (.b true)) [] := by
  refine Does.go (cfg := cfgLr) cfgLr_ok Tryd.func3 (by kernel_rfl) (by kernel_rfl) (t := (Tree.stop [PI.ops [(1 : Nat), (0 : Nat)] (3 : Nat), PI.code [(1 : Nat), (1 : Nat)]] { n := (12 : Nat), fr := [((0 : Nat), SV.x (SX.c (SC.pd (PD.lst ETy.cell l)))), ((2 : Nat), SV.x (SX.c (SC.pd (PD.bool false)))), ((4 : Nat), SV.x (SX.c (SC.pd (PD.bool true)))), ((5 : Nat), SV.grd (4 : Nat) true (SX.c (SC.pd (PD.lst ETy.cell l))))], ck := [], kn := [(2 : Nat)] })) (by kernel_rfl) fun Γ => ?_
  have hk : J Tryd.prog 3 (bodyOf Tryd.f3) Γ (Eq2 (.x (.b true)) []) [PI.ops [(1 : Nat), (0 : Nat)] 4, PI.code [(1 : Nat), (1 : Nat)]] ({ n := (12 : Nat), fr := [(0, SV.x (SX.c (SC.pd (PD.lst ETy.cell l)))), (2, SV.x (SX.c (SC.pd (PD.bool false)))), (4, SV.x (SX.c (SC.pd (PD.bool true)))), (5, SV.x (SX.c (SC.pd (PD.lst ETy.cell (l))))), (6, SV.x (SX.c (SC.own 0)))], ck := [Chunk.own 38 ETy.cell l], kn := [(2 : Nat)] }) := by
    refine J.go (cfg := cfgLr) cfgLr_ok Tryd.func3 1000 (t := (Tree.ret (SV.x (SX.c (SC.pd (PD.bool (true && rightM l == rightM l))))) [])) (by kernel_rfl) ?_
    exact ⟨by simp, rfl⟩
  have hk2 : J Tryd.prog 3 (bodyOf Tryd.f3) Γ (Eq2 (.x (.b true)) []) [PI.ops [(1 : Nat), (0 : Nat)] (3 : Nat), PI.code [(1 : Nat), (1 : Nat)]] ({ n := (12 : Nat), fr := [(0, SV.x (SX.c (SC.pd (PD.lst ETy.cell l)))), (2, SV.x (SX.c (SC.pd (PD.bool false)))), (4, SV.x (SX.c (SC.pd (PD.bool true)))), (5, SV.x (SX.c (SC.pd (PD.lst ETy.cell (l)))))], ck := [], kn := [(2 : Nat)] }) := J.run (cfg := cfgLr) cfgLr_ok (q := some (room l.length 32)) (by kernel_rfl) h hk
  refine J.settle (t := 5) (s := 4) (want := true) (v := .l .cell l) (by simp) rfl ?_ hk2
  intro p hp
  simp only [List.mem_cons, List.not_mem_nil, or_false] at hp ⊢
  rcases hp with rfl | rfl | rfl | rfl <;> simp
end Go.Proofs.YtjndellhebidoaaDoor

/- Contracts: the examples of the laws on words; the laws WordsLines, WordsNames. Conditions: sizes. -/
import Derived.Test.YtmbllhdejeeibaaDoorKc
import Derived.Test.YtmbllhdejeeibaaDoorKd
namespace Go.Proofs.YtmbllhdejeeibaaDoor
open Go Go.Ev
set_option maxRecDepth 100000
def eFi : Nat × (List SX → List Chunk → Option (Option Prop × SV × List Chunk)) := (29, fun
  | [.c (.pd (.int .i64 n)), .c (.pd (.int .i64 10))], [] => some (some (-9223372036854775808 ≤ n ∧ n ≤ 9223372036854775807), .x (.c (.pd (.str (Lib.itoa n)))), [])
  | _, _ => none)
theorem eFi_ok (vs : List SX) (ck : List Chunk) (p : Option Prop) (ret : SV) (ck' : List Chunk) (h : eFi.2 vs ck = some (p, ret, ck')) (hp : Holds p) : Does Tryd.prog eFi.1 vs ck ret ck' := by
  unfold eFi at h
  simp only at h
  split at h
  · rename_i n
    simp only [Option.some.injEq, Prod.mk.injEq] at h
    obtain ⟨rfl, rfl, rfl⟩ := h
    exact formatInt_spec n hp.1 hp.2
  · simp at h
def cfgDg : Cfg := ⟨tys0, [eFi]⟩
theorem cfgDg_ok : TabOk Tryd.prog cfgDg.tab := (TabOk.cons eFi_ok TabOk.nil)
theorem digits_spec (n : Int) (h0 : -9223372036854775808 ≤ n) (h1 : n ≤ 9223372036854775807) : Does Tryd.prog 20 [.i n] [] (.x (.s (Lib.itoa n))) [] := by
  refine Does.go (cfg := cfgDg) cfgDg_ok Tryd.func20 (by kernel_rfl) (by kernel_rfl) (t := (Tree.need ((-9223372036854775808 : Int) ≤ n ∧ n ≤ (9223372036854775807 : Int)) (Tree.ret (SV.x (SX.c (SC.pd (PD.str (Lib.itoa n))))) []))) (by kernel_rfl) fun Γ => ?_
  exact ⟨⟨h0, h1⟩, rfl, rfl⟩
def eDg : Nat × (List SX → List Chunk → Option (Option Prop × SV × List Chunk)) := (20, fun
  | [.c (.pd (.int .i64 n))], [] => some (some (-9223372036854775808 ≤ n ∧ n ≤ 9223372036854775807), .x (.c (.pd (.str (Lib.itoa n)))), [])
  | _, _ => none)
theorem eDg_ok (vs : List SX) (ck : List Chunk) (p : Option Prop) (ret : SV) (ck' : List Chunk) (h : eDg.2 vs ck = some (p, ret, ck')) (hp : Holds p) : Does Tryd.prog eDg.1 vs ck ret ck' := by
  unfold eDg at h
  simp only at h
  split at h
  · rename_i n
    simp only [Option.some.injEq, Prod.mk.injEq] at h
    obtain ⟨rfl, rfl, rfl⟩ := h
    exact digits_spec n hp.1 hp.2
  · simp at h
def eLn1 : Nat × (List SX → List Chunk → Option (Option Prop × SV × List Chunk)) := (10, fun
  | [.c (.pd (.str s))], [] => some (some (s.length ≤ 2097152 ∧ lineOk s = true), .tup [.c (.pd (.int .i64 ((leadB s : Nat) : Int))), .c (.own 0), .c (.pd (.int .i64 0))], [.own 9 .str (lineW s)])
  | _, _ => none)
theorem eLn1_ok (vs : List SX) (ck : List Chunk) (p : Option Prop) (ret : SV) (ck' : List Chunk) (h : eLn1.2 vs ck = some (p, ret, ck')) (hp : Holds p) : Does Tryd.prog eLn1.1 vs ck ret ck' := by
  unfold eLn1 at h
  simp only at h
  split at h
  · rename_i s
    simp only [Option.some.injEq, Prod.mk.injEq] at h
    obtain ⟨rfl, rfl, rfl⟩ := h
    exact line_ok s hp.1 hp.2
  · simp at h
def eLn0 : Nat × (List SX → List Chunk → Option (Option Prop × SV × List Chunk)) := (10, fun
  | [.c (.pd (.str s))], [] => some (some (s.length ≤ 2097152 ∧ lineOk s = false), .tup [.c (.pd (.int .i64 0)), .c (.pd (.v (.slice none 0 0))), .c (.pd (.int .i64 1))], [])
  | _, _ => none)
theorem eLn0_ok (vs : List SX) (ck : List Chunk) (p : Option Prop) (ret : SV) (ck' : List Chunk) (h : eLn0.2 vs ck = some (p, ret, ck')) (hp : Holds p) : Does Tryd.prog eLn0.1 vs ck ret ck' := by
  unfold eLn0 at h
  simp only at h
  split at h
  · rename_i s
    simp only [Option.some.injEq, Prod.mk.injEq] at h
    obtain ⟨rfl, rfl, rfl⟩ := h
    exact line_bad s hp.1 hp.2
  · simp at h
def eRln1 : Nat × (List SX → List Chunk → Option (Option Prop × SV × List Chunk)) := (11, fun
  | [.c (.pd (.str s))], [] => some (some (s.length ≤ 2097152 ∧ lineOk s = true), .tup [.c (.pd (.int .i64 ((leadB s : Nat) : Int))), .c (.own 0), .c (.pd (.int .i64 0))], [.own 9 .str (lineW s)])
  | _, _ => none)
theorem eRln1_ok (vs : List SX) (ck : List Chunk) (p : Option Prop) (ret : SV) (ck' : List Chunk) (h : eRln1.2 vs ck = some (p, ret, ck')) (hp : Holds p) : Does Tryd.prog eRln1.1 vs ck ret ck' := by
  unfold eRln1 at h
  simp only at h
  split at h
  · rename_i s
    simp only [Option.some.injEq, Prod.mk.injEq] at h
    obtain ⟨rfl, rfl, rfl⟩ := h
    exact ref_line_ok s hp.1 hp.2
  · simp at h
def eRln0 : Nat × (List SX → List Chunk → Option (Option Prop × SV × List Chunk)) := (11, fun
  | [.c (.pd (.str s))], [] => some (some (s.length ≤ 2097152 ∧ lineOk s = false), .tup [.c (.pd (.int .i64 0)), .c (.pd (.v (.slice none 0 0))), .c (.pd (.int .i64 1))], [])
  | _, _ => none)
theorem eRln0_ok (vs : List SX) (ck : List Chunk) (p : Option Prop) (ret : SV) (ck' : List Chunk) (h : eRln0.2 vs ck = some (p, ret, ck')) (hp : Holds p) : Does Tryd.prog eRln0.1 vs ck ret ck' := by
  unfold eRln0 at h
  simp only at h
  split at h
  · rename_i s
    simp only [Option.some.injEq, Prod.mk.injEq] at h
    obtain ⟨rfl, rfl, rfl⟩ := h
    exact ref_line_bad s hp.1 hp.2
  · simp at h
def cfgWk2 : Cfg := ⟨tys0, [eLn1, eSame, eName, eDg]⟩
theorem cfgWk2_ok : TabOk Tryd.prog cfgWk2.tab := (TabOk.cons eLn1_ok (TabOk.cons eSame_ok (TabOk.cons eName_ok (TabOk.cons eDg_ok TabOk.nil))))

theorem wakes2_spec : Does Tryd.prog 12 [] [] (.x (.b true)) [] := by
  refine Does.go (cfg := cfgWk2) cfgWk2_ok Tryd.func12 (by kernel_rfl) (by kernel_rfl) (t := (Tree.need ((7 : Nat) ≤ (2097152 : Nat) ∧ lineOk [(32 : UInt8), (32 : UInt8), (111 : UInt8), (110 : UInt8), (32 : UInt8), (103 : UInt8), (111 : UInt8)] = true) (Tree.stop [PI.ops [(1 : Nat), (1 : Nat), (0 : Nat)] (8 : Nat), PI.code [(1 : Nat), (1 : Nat), (1 : Nat)]] { n := (31 : Nat), fr := [((0 : Nat), SV.x (SX.c (SC.pd (PD.bool false)))), ((15 : Nat), SV.x (SX.c (SC.pd (PD.bool true)))), ((16 : Nat), SV.grd (15 : Nat) true (SX.c (SC.own (0 : Nat))))], ck := [Chunk.own (9 : Nat) ETy.str [[] ++ [(111 : UInt8)] ++ [(110 : UInt8)], [] ++ [(103 : UInt8)] ++ [(111 : UInt8)]]], kn := [(0 : Nat)] }))) (by kernel_rfl) fun Γ => ?_
  refine ⟨by decide, ?_⟩
  have hk : J Tryd.prog 12 (bodyOf Tryd.f12) Γ (Eq2 (.x (.b true)) []) [PI.ops [(1 : Nat), (1 : Nat), (0 : Nat)] 9, PI.code [(1 : Nat), (1 : Nat), (1 : Nat)]] ({ n := (31 : Nat), fr := [(0, SV.x (SX.c (SC.pd (PD.bool false)))), (15, SV.x (SX.c (SC.pd (PD.bool true)))), (16, SV.grd (15 : Nat) true (SX.c (SC.own (0 : Nat)))), (17, SV.x (SX.c (SC.own 1)))], ck := [Chunk.own 9 ETy.str [[111, 110], [103, 111]], Chunk.own 9 ETy.str [[111, 110], [103, 111]]], kn := [(0 : Nat)] }) := by
    refine J.go (cfg := cfgWk2) cfgWk2_ok Tryd.func12 1000 (t := (Tree.need ((true && true) = true → (-9223372036854775808 : Int) ≤ (-7 : Int) ∧ (-7 : Int) ≤ (9223372036854775807 : Int)) (Tree.ret (SV.x (SX.c (SC.pd (PD.bool true)))) []))) (by kernel_rfl) ?_
    exact ⟨fun _ => by decide, rfl, rfl⟩
  exact J.run (cfg := cfgWk2) cfgWk2_ok (q := none) (by kernel_rfl) trivial hk
def eWk2 : Nat × (List SX → List Chunk → Option (Option Prop × SV × List Chunk)) := (12, fun
  | [], [] => some (none, .x (.c (.pd (.bool true))), [])
  | _, _ => none)
theorem eWk2_ok (vs : List SX) (ck : List Chunk) (p : Option Prop) (ret : SV) (ck' : List Chunk) (h : eWk2.2 vs ck = some (p, ret, ck')) (hp : Holds p) : Does Tryd.prog eWk2.1 vs ck ret ck' := by
  unfold eWk2 at h
  simp only at h
  split at h
  · simp only [Option.some.injEq, Prod.mk.injEq] at h
    obtain ⟨rfl, rfl, rfl⟩ := h
    exact wakes2_spec
  · simp at h
def cfgWn : Cfg := ⟨tys0, [eWk2, eName, eRnm, eEvent, eRefEvent]⟩
theorem cfgWn_ok : TabOk Tryd.prog cfgWn.tab := (TabOk.cons eWk2_ok (TabOk.cons eName_ok (TabOk.cons eRnm_ok (TabOk.cons eEvent_ok (TabOk.cons eRefEvent_ok TabOk.nil)))))
theorem words_names_spec (s : Str) (h : 5 + s.length ≤ 9223372036854775807) : Does Tryd.prog 6 [.s s] [] (.x (.b true)) [] := by
  refine Does.go (cfg := cfgWn) cfgWn_ok Tryd.func6 (by kernel_rfl) (by kernel_rfl) (t := (Tree.need ((true && nameM s == nameM s && eventM s == eventM s) = true → (5 : Nat) + List.length s ≤ (9223372036854775807 : Nat)) (Tree.need ((true && nameM s == nameM s && eventM s == eventM s) = true ∧ nameM s = false → (5 : Nat) + List.length s ≤ (9223372036854775807 : Nat)) (Tree.ret (SV.x (SX.c (SC.pd (PD.bool (true && nameM s == nameM s && eventM s == eventM s && eventM ([(100 : UInt8), (111 : UInt8), (110 : UInt8), (101 : UInt8), (46 : UInt8)] ++ s) == (nameM s || eventM ([(100 : UInt8), (111 : UInt8), (110 : UInt8), (101 : UInt8), (46 : UInt8)] ++ s))))))) [])))) (by kernel_rfl) fun Γ => ?_
  refine ⟨fun _ => h, fun _ => h, ?_, rfl⟩
  rw [event_yes]; simp
def cfgWl1 : Cfg := ⟨tys0, [eWk2, eLn1, eRln1, eSame]⟩
theorem cfgWl1_ok : TabOk Tryd.prog cfgWl1.tab := (TabOk.cons eWk2_ok (TabOk.cons eLn1_ok (TabOk.cons eRln1_ok (TabOk.cons eSame_ok TabOk.nil))))
def cfgWl0 : Cfg := ⟨tys0, [eWk2, eLn0, eRln0, eSame]⟩
theorem cfgWl0_ok : TabOk Tryd.prog cfgWl0.tab := (TabOk.cons eWk2_ok (TabOk.cons eLn0_ok (TabOk.cons eRln0_ok (TabOk.cons eSame_ok TabOk.nil))))
theorem words_lines_spec (s : Str) (h : s.length ≤ 2097152) : Does Tryd.prog 3 [.s s] [] (.x (.b true)) [] := by
  cases ho : lineOk s
  · refine Does.go (cfg := cfgWl0) cfgWl0_ok Tryd.func3 (by kernel_rfl) (by kernel_rfl) (t := (Tree.need (List.length s ≤ (2097152 : Nat) ∧ lineOk s = false) (Tree.need (List.length s ≤ (2097152 : Nat) ∧ lineOk s = false) (Tree.ret (SV.x (SX.c (SC.pd (PD.bool true)))) [])))) (by kernel_rfl) fun Γ => ?_
    exact ⟨⟨h, ho⟩, ⟨h, ho⟩, rfl, rfl⟩
  · refine Does.go (cfg := cfgWl1) cfgWl1_ok Tryd.func3 (by kernel_rfl) (by kernel_rfl) (t := (Tree.need (List.length s ≤ (2097152 : Nat) ∧ lineOk s = true) (Tree.need (List.length s ≤ (2097152 : Nat) ∧ lineOk s = true) (Tree.ret (SV.x (SX.c (SC.pd (PD.bool (true && (↑(leadB s) : Int) == (↑(leadB s) : Int) && lineW s == lineW s && (0 : Int) == (0 : Int)))))) [])))) (by kernel_rfl) fun Γ => ?_
    refine ⟨⟨h, ho⟩, ⟨h, ho⟩, ?_, rfl⟩
    simp
end Go.Proofs.YtmbllhdejeeibaaDoor

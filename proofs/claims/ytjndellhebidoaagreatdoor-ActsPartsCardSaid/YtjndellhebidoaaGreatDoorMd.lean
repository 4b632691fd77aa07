/- Contracts of the program's reader of expressions: its small steps. Conditions: places within the text. -/
import Derived.Test.YtjndellhebidoaaGreatDoorNc
import Derived.Test.YtjndellhebidoaaGreatDoorNr
import Derived.Test.YtjndellhebidoaaGreatDoorPX
namespace Go.Proofs.YtjndellhebidoaaGreatDoor
open Go Go.Ev
set_option maxRecDepth 100000
def rdB (s : Str) (r : Rd) (i : Nat) : List SC := [SC.pd (PD.str s), SC.i r.pos, SC.own i, SC.i r.bad]
abbrev rd1 (s : Str) (r : Rd) : List Chunk := [Chunk.cells (rdB s r 1) 119, Chunk.own 88 ETy.cell r.out]
abbrev rd2 (s : Str) (r : Rd) : List Chunk := [Chunk.cells (rdB s r 2) 119, Chunk.dead, Chunk.own 88 ETy.cell r.out]
abbrev RdQ (s : Str) (o : Rd) : Out := Kept (.tup []) (rdB s o 1) 119 88 .cell o.out
theorem Does.rd {f : FuncId} {fn : Func} {args : List SX} {ck : List Chunk} {s : Str} {o : Rd} (hf : Tryz.prog.funcs[f]? = some fn) (hb : fn.body.isSome = true) (hn : Nat.ble args.length fn.ntmps = true) (hl : ck.length = 2)
    (h : ∀ Γ, J Tryz.prog f (bodyOf fn) Γ (RdQ s o) [.code []] (initST fn.ntmps args ck)) : Does Tryz.prog f args ck (.tup []) (rd2 s o) :=
  Does.kept (cs := rdB s o 1) hf hb hn hl (.inl rfl) rfl h
theorem RdQ.one {s : Str} {o : Rd} {ck : List Chunk} (h : ck = rd1 s o) : RdQ s o (.tup []) ck := ⟨rfl, .inl h⟩
theorem RdQ.two {s : Str} {o : Rd} {ck : List Chunk} (h : ck = rd2 s o) : RdQ s o (.tup []) ck := ⟨rfl, .inr h⟩
theorem wrong_spec (s : Str) (pos bad k : Int) (out : List Cell) : Does Tryz.prog 79 [.c (.loc 0 0), .i k] [.cells [.pd (.str s), .i pos, .own 1, .i bad] 119, .own 88 .cell out] (.tup []) [.cells [.pd (.str s), .i pos, .own 1, .i (if bad < 0 then k else bad)] 119, .own 88 .cell out] := by
  refine Does.go (cfg := cfg0) cfg0_ok Tryz.func79 (by kernel_rfl) (by kernel_rfl) (t := (.ite (decide (bad < (0 : Int))) (.ret (.tup []) [.cells [.pd (.str s), .i pos, .own 1, .i k] 119, .own 88 .cell out]) (.ret (.tup []) [.cells [.pd (.str s), .i pos, .own 1, .i bad] 119, .own 88 .cell out]))) (by kernel_rfl) fun Γ => ?_
  refine ⟨fun h => ?_, fun h => ?_⟩
  · rw [if_pos (of_decide_eq_true h)]; exact ⟨rfl, rfl⟩
  · rw [if_neg (of_decide_eq_false h)]; exact ⟨rfl, rfl⟩
def eWrong : Nat × (List SX → List Chunk → Option (Option Prop × SV × List Chunk)) := (79, fun
  | [.c (.loc 0 0), .c (.pd (.int .i64 k))], [.cells [.pd (.str s), .pd (.int .i64 pos), .own 1, .pd (.int .i64 bad)] 119, .own 88 .cell out] => some (none, .tup [], [.cells [.pd (.str s), .pd (.int .i64 pos), .own 1, .pd (.int .i64 (if bad < 0 then k else bad))] 119, .own 88 .cell out])
  | _, _ => none)
theorem eWrong_ok (vs : List SX) (ck : List Chunk) (p : Option Prop) (ret : SV) (ck' : List Chunk) (h : eWrong.2 vs ck = some (p, ret, ck')) (hp : Holds p) : Does Tryz.prog eWrong.1 vs ck ret ck' := by
  unfold eWrong at h
  simp only at h
  split at h
  · rename_i k s pos bad out
    simp only [Option.some.injEq, Prod.mk.injEq] at h
    obtain ⟨rfl, rfl, rfl⟩ := h
    exact wrong_spec s pos bad k out
  · simp at h
theorem emit_spec (s : Str) (pos bad : Int) (out : List Cell) (c : Cell) (h : room (out.length + 1) 32) : Does Tryz.prog 113 [.c (.loc 0 0), .e .cell c] [.cells [.pd (.str s), .i pos, .own 1, .i bad] 119, .own 88 .cell out] (.tup []) [.cells [.pd (.str s), .i pos, .own 2, .i bad] 119, .dead, .own 88 .cell (out ++ [c])] := by
  refine Does.go (cfg := cfg0) cfg0_ok Tryz.func113 (by kernel_rfl) (by kernel_rfl) (t := (.need (room (List.length (out ++ [{ op := Cell.op c, a := Cell.a c, name := Cell.name c }])) 32) (.ret (.tup []) [.cells [.pd (.str s), .i pos, .own 2, .i bad] 119, .dead, .own 88 .cell (out ++ [{ op := Cell.op c, a := Cell.a c, name := Cell.name c }])]))) (by kernel_rfl) fun Γ => ?_
  exact ⟨by rw [List.length_append]; exact h, rfl, rfl⟩
def eEmit : Nat × (List SX → List Chunk → Option (Option Prop × SV × List Chunk)) := (113, fun
  | [.c (.loc 0 0), .agg [.pd (.int .i64 op), .pd (.int .i64 a), .pd (.str nm)]], [.cells [.pd (.str s), .pd (.int .i64 pos), .own 1, .pd (.int .i64 bad)] 119, .own 88 .cell out] => some (some (room (out.length + 1) 32), .tup [], [.cells [.pd (.str s), .pd (.int .i64 pos), .own 2, .pd (.int .i64 bad)] 119, .dead, .own 88 .cell (out ++ [(⟨op, a, nm⟩ : Cell)])])
  | _, _ => none)
theorem eEmit_ok (vs : List SX) (ck : List Chunk) (p : Option Prop) (ret : SV) (ck' : List Chunk) (h : eEmit.2 vs ck = some (p, ret, ck')) (hp : Holds p) : Does Tryz.prog eEmit.1 vs ck ret ck' := by
  unfold eEmit at h
  simp only at h
  split at h
  · rename_i op a nm s pos bad out
    simp only [Option.some.injEq, Prod.mk.injEq] at h
    obtain ⟨rfl, rfl, rfl⟩ := h
    exact emit_spec s pos bad out ⟨op, a, nm⟩ hp
  · simp at h
theorem sign_spec (op : Int) : Does Tryz.prog 62 [.i op] [] (.tup [.s (signM op).1, .i (signM op).2]) [] := by
  refine Does.go (cfg := cfg0) cfg0_ok Tryz.func62 (by kernel_rfl) (by kernel_rfl) (t := (.ite (op == (23 : Int)) (.ret (.tup [.p (.str [(124 : UInt8)]), .i (1 : Int)]) []) (.ite (op == (22 : Int)) (.ret (.tup [.p (.str [(38 : UInt8)]), .i (2 : Int)]) []) (.ite (op == (16 : Int)) (.ret (.tup [.p (.str [(61 : UInt8)]), .i (3 : Int)]) []) (.ite (op == (17 : Int)) (.ret (.tup [.p (.str [(33 : UInt8), 61]), .i (3 : Int)]) []) (.ite (op == (18 : Int)) (.ret (.tup [.p (.str [(60 : UInt8)]), .i (3 : Int)]) []) (.ite (op == (19 : Int)) (.ret (.tup [.p (.str [(60 : UInt8), 61]), .i (3 : Int)]) []) (.ite (op == (20 : Int)) (.ret (.tup [.p (.str [(62 : UInt8)]), .i (3 : Int)]) []) (.ite (op == (21 : Int)) (.ret (.tup [.p (.str [(62 : UInt8), 61]), .i (3 : Int)]) []) (.ite (op == (11 : Int)) (.ret (.tup [.p (.str [(43 : UInt8)]), .i (4 : Int)]) []) (.ite (op == (12 : Int)) (.ret (.tup [.p (.str [(45 : UInt8)]), .i (4 : Int)]) []) (.ite (op == (13 : Int)) (.ret (.tup [.p (.str [(42 : UInt8)]), .i (5 : Int)]) []) (.ite (op == (14 : Int)) (.ret (.tup [.p (.str [(47 : UInt8)]), .i (5 : Int)]) []) (.ite (op == (15 : Int)) (.ret (.tup [.p (.str [(37 : UInt8)]), .i (5 : Int)]) []) (.ite (op == (7 : Int)) (.ret (.tup [.p (.str [(45 : UInt8)]), .i (6 : Int)]) []) (.ite (op == (8 : Int)) (.ret (.tup [.p (.str [(33 : UInt8)]), .i (6 : Int)]) []) (.ret (.tup [.p (.str []), .i (7 : Int)]) []))))))))))))))))) (by kernel_rfl) fun Γ => ?_
  (repeat' (first | intro h | constructor)) <;> simp only [signM, *, cond_true, cond_false]
def eSign : Nat × (List SX → List Chunk → Option (Option Prop × SV × List Chunk)) := (62, fun
  | [.c (.pd (.int .i64 op))], [] => some (none, .tup [.c (.pd (.str (signM op).1)), .c (.pd (.int .i64 (signM op).2))], [])
  | _, _ => none)
theorem eSign_ok (vs : List SX) (ck : List Chunk) (p : Option Prop) (ret : SV) (ck' : List Chunk) (h : eSign.2 vs ck = some (p, ret, ck')) (hp : Holds p) : Does Tryz.prog eSign.1 vs ck ret ck' := by
  unfold eSign at h
  simp only at h
  split at h
  · rename_i op
    simp only [Option.some.injEq, Prod.mk.injEq] at h
    obtain ⟨rfl, rfl, rfl⟩ := h
    exact sign_spec op
  · simp at h
def cfgHp1 : Cfg := ⟨tys0, [eHp]⟩
theorem cfgHp1_ok : TabOk Tryz.prog cfgHp1.tab := (TabOk.cons eHp_ok TabOk.nil)
theorem hasPrefix1_spec (a b : Str) : Does Tryz.prog 136 [.s a, .s b] [] (.x (.b (hasP a b))) [] := by
  refine Does.go (cfg := cfgHp1) cfgHp1_ok Tryz.func136 (by kernel_rfl) (by kernel_rfl) (t := (.ret (.p (.bool (decide (strLen a ≥ strLen b) && List.take (Int.toNat (strLen b)) a == b))) [])) (by kernel_rfl) fun Γ => ?_
  exact ⟨rfl, rfl⟩
def eHp2 : Nat × (List SX → List Chunk → Option (Option Prop × SV × List Chunk)) := (136, fun
  | [.c (.pd (.str a)), .c (.pd (.str b))], [] => some (none, .x (.c (.pd (.bool (hasP a b)))), [])
  | _, _ => none)
theorem eHp2_ok (vs : List SX) (ck : List Chunk) (p : Option Prop) (ret : SV) (ck' : List Chunk) (h : eHp2.2 vs ck = some (p, ret, ck')) (hp : Holds p) : Does Tryz.prog eHp2.1 vs ck ret ck' := by
  unfold eHp2 at h
  simp only at h
  split at h
  · rename_i a b
    simp only [Option.some.injEq, Prod.mk.injEq] at h
    obtain ⟨rfl, rfl, rfl⟩ := h
    exact hasPrefix1_spec a b
  · simp at h
/-! ### words -/
theorem take_end {p : UInt8 → Bool} {s : Str} {m : Nat} (h : m < s.length → p (s.getD m 0) = false) : (s.drop m).takeWhile p = [] := by
  by_cases hm : m < s.length
  · rw [drop_byte hm, List.takeWhile_cons, if_neg (by rw [h hm]; simp)]
  · rw [drop_end hm]; rfl
theorem take_on {p : UInt8 → Bool} {s : Str} {k m : Nat} (hk : k ≤ m) (hm : m < s.length) (h : p (s.getD m 0) = true) : seg s k m ++ (s.drop m).takeWhile p = seg s k (m + 1) ++ (s.drop (m + 1)).takeWhile p := by
  rw [drop_byte hm, List.takeWhile_cons, if_pos h, seg_succ hm hk, List.append_assoc]; rfl

theorem rword_loop (s : Str) (pos bad : Int) (k : Nat) (out : List Cell) (Γ : Ctx) (hs : s.length ≤ 1048576) : ∀ (n m : Nat), s.length - m ≤ n → m ≤ s.length → k ≤ m →
    J Tryz.prog 154 (bodyOf Tryz.f154) Γ (Eq2 (.x (.s (seg s k m ++ (s.drop m).takeWhile wordB))) [Chunk.cells [SC.pd (PD.str s), SC.i pos, SC.own 1, SC.i bad] 119, Chunk.own 88 ETy.cell out]) [.code [1, 1, 0, 0, 0], .inLoop [1, 1, 0, 0, 0], .inBlock 0, .code [1, 1, 1]] ({ n := 68, fr := [(0, .x (.c (.loc 0 0))), (1, .i ((k : Int))), (4, .p (.str [])), (5, .i ((m : Int)))], ck := [.cells [.pd (.str s), .i pos, .own 1, .i bad] 119, .own 88 .cell out], m := 2 }) := by
  intro n
  induction n with
  | zero => ?_
  | succ n ih => ?_
  all_goals
    intro m hn hm hk
    refine J.go (cfg := cfg0) cfg0_ok Tryz.func154 1000 (t := (.need (decide ((↑m : Int) < strLen s) = true → (0 : Int) ≤ (↑m : Int) ∧ (↑m : Int) < strLen s) (.need (decide ((↑m : Int) < strLen s) = true ∧ decide ((↑(UInt8.toNat (List.getD s m (0 : UInt8))) : Int) ≥ (97 : Int)) = true → (0 : Int) ≤ (↑m : Int) ∧ (↑m : Int) < strLen s) (.need (decide ((↑m : Int) < strLen s) = true ∧ (decide ((↑(UInt8.toNat (List.getD s m (0 : UInt8))) : Int) ≥ (97 : Int)) && decide ((↑(UInt8.toNat (List.getD s m (0 : UInt8))) : Int) ≤ (122 : Int))) = false → (0 : Int) ≤ (↑m : Int) ∧ (↑m : Int) < strLen s) (.need ((decide ((↑m : Int) < strLen s) = true ∧ (decide ((↑(UInt8.toNat (List.getD s m (0 : UInt8))) : Int) ≥ (97 : Int)) && decide ((↑(UInt8.toNat (List.getD s m (0 : UInt8))) : Int) ≤ (122 : Int))) = false) ∧ decide ((↑(UInt8.toNat (List.getD s m (0 : UInt8))) : Int) ≥ (48 : Int)) = true → (0 : Int) ≤ (↑m : Int) ∧ (↑m : Int) < strLen s) (.need (decide ((↑m : Int) < strLen s) = true ∧ (decide ((↑(UInt8.toNat (List.getD s m (0 : UInt8))) : Int) ≥ (97 : Int)) && decide ((↑(UInt8.toNat (List.getD s m (0 : UInt8))) : Int) ≤ (122 : Int)) || decide ((↑(UInt8.toNat (List.getD s m (0 : UInt8))) : Int) ≥ (48 : Int)) && decide ((↑(UInt8.toNat (List.getD s m (0 : UInt8))) : Int) ≤ (57 : Int))) = false → (0 : Int) ≤ (↑m : Int) ∧ (↑m : Int) < strLen s) (.ite (decide ((↑m : Int) < strLen s) && (decide ((↑(UInt8.toNat (List.getD s m (0 : UInt8))) : Int) ≥ (97 : Int)) && decide ((↑(UInt8.toNat (List.getD s m (0 : UInt8))) : Int) ≤ (122 : Int)) || decide ((↑(UInt8.toNat (List.getD s m (0 : UInt8))) : Int) ≥ (48 : Int)) && decide ((↑(UInt8.toNat (List.getD s m (0 : UInt8))) : Int) ≤ (57 : Int)) || (↑(UInt8.toNat (List.getD s m (0 : UInt8))) : Int) == (95 : Int))) (.stop [.code [1, 1, 0, 0, 0], .inLoop [1, 1, 0, 0, 0], .inBlock 0, .code [1, 1, 1]] { n := 68, fr := [(0, .x (.c (.loc 0 0))), (1, .i (↑k : Int)), (4, .p (.str [])), (5, .i (IntKind.wrap .i64 ((↑m : Int) + (1 : Int))))], ck := [.cells [.pd (.str s), .i pos, .own 1, .i bad] 119, .own 88 .cell out], m := 2 }) (.need ((0 : Int) ≤ (↑k : Int) ∧ (↑k : Int) ≤ (↑m : Int) ∧ (↑m : Int) ≤ (↑(List.length s) : Int)) (.ret (.p (.str (Prod.snd (cutL s (some (↑k : Int)) (some (↑m : Int)))))) [.cells [.pd (.str s), .i pos, .own 1, .i bad] 119, .own 88 .cell out]))))))))) (by kernel_rfl) ?_
    have hL : strLen s = (s.length : Int) := rfl
    have inb : decide ((m : Int) < strLen s) = true → 0 ≤ (m : Int) ∧ (m : Int) < strLen s := fun h => ⟨by omega, of_decide_eq_true h⟩
    refine ⟨inb, fun h => inb h.1, fun h => inb h.1, fun h => inb h.1.1, fun h => inb h.1, fun h => ?_, fun h => ⟨⟨by omega, by omega, by omega⟩, ?_, rfl⟩⟩
    · have h' : (decide ((m : Int) < strLen s) && wordB (s.getD m 0)) = true := h
      simp only [Bool.and_eq_true, decide_eq_true_eq] at h'
      have hlt : m < s.length := by omega
      first
      | (exfalso; omega)
      | (rw [wrapK (by omega), take_on hk hlt h'.2]
         exact ih (m + 1) (by omega) (by omega) (by omega))
    · have h' : (decide ((m : Int) < strLen s) && wordB (s.getD m 0)) = false := h
      have e : (s.drop m).takeWhile wordB = [] := take_end fun hlt => by
        rw [decide_eq_true (by omega), Bool.true_and] at h'; exact h'
      rw [e, List.append_nil]; rfl
theorem rword_spec (s : Str) (pos bad k : Int) (out : List Cell) (hs : s.length ≤ 1048576) (h0 : 0 ≤ k) (h1 : k ≤ strLen s) : Does Tryz.prog 154 [.c (.loc 0 0), .i k] [.cells [.pd (.str s), .pd (.int .i64 pos), .own 1, .pd (.int .i64 bad)] 119, .own 88 .cell out] (.x (.s (wordM s k))) [.cells [.pd (.str s), .pd (.int .i64 pos), .own 1, .pd (.int .i64 bad)] 119, .own 88 .cell out] := by
  obtain ⟨k, rfl⟩ := Int.eq_ofNat_of_zero_le h0
  refine Does.go (cfg := cfg0) cfg0_ok Tryz.func154 (by kernel_rfl) (by kernel_rfl) (t := (.stop [.code [1, 1, 0, 0, 0], .inLoop [1, 1, 0, 0, 0], .inBlock 0, .code [1, 1, 1]] { n := 68, fr := [(0, .x (.c (.loc 0 0))), (1, .i (↑k : Int)), (4, .p (.str [])), (5, .i (↑k : Int))], ck := [.cells [.pd (.str s), .i pos, .own 1, .i bad] 119, .own 88 .cell out], m := 2 })) (by kernel_rfl) fun Γ => ?_
  have hL : strLen s = (s.length : Int) := rfl
  have h := rword_loop s pos bad k out Γ hs s.length k (by omega) (by omega) (Nat.le_refl _)
  rw [seg_self] at h
  exact h
def eRword : Nat × (List SX → List Chunk → Option (Option Prop × SV × List Chunk)) := (154, fun
  | [.c (.loc 0 0), .c (.pd (.int .i64 k))], [.cells [.pd (.str s), .pd (.int .i64 pos), .own 1, .pd (.int .i64 bad)] 119, .own 88 .cell out] => some (some (s.length ≤ 1048576 ∧ 0 ≤ k ∧ k ≤ strLen s), .x (.c (.pd (.str (wordM s k)))), [.cells [.pd (.str s), .pd (.int .i64 pos), .own 1, .pd (.int .i64 bad)] 119, .own 88 .cell out])
  | _, _ => none)
theorem eRword_ok (vs : List SX) (ck : List Chunk) (p : Option Prop) (ret : SV) (ck' : List Chunk) (h : eRword.2 vs ck = some (p, ret, ck')) (hp : Holds p) : Does Tryz.prog eRword.1 vs ck ret ck' := by
  unfold eRword at h
  simp only at h
  split at h
  · rename_i k s pos bad out
    simp only [Option.some.injEq, Prod.mk.injEq] at h
    obtain ⟨rfl, rfl, rfl⟩ := h
    exact rword_spec s pos bad k out hp.1 hp.2.1 hp.2.2
  · simp at h
/-! ### operators -/
theorem oper_hit {rest : Str} {p op : Int} {l : List Int} (h : ((signM op).2 == p && hasP rest (signM op).1) = true) : operGo rest p (op :: l) = (op, strLen (signM op).1) := by
  rw [operGo, h]; rfl
theorem oper_miss {rest : Str} {p op : Int} {l : List Int} (h : ((signM op).2 == p && hasP rest (signM op).1) = false) : operGo rest p (op :: l) = operGo rest p l := by
  rw [operGo, h]; rfl
def cfgOper : Cfg := ⟨tys0, [eSign, eHp2]⟩
theorem cfgOper_ok : TabOk Tryz.prog cfgOper.tab := (TabOk.cons eSign_ok (TabOk.cons eHp2_ok TabOk.nil))

theorem roper_spec (s : Str) (pos bad p : Int) (out : List Cell) (h0 : 0 ≤ pos) (h1 : pos ≤ strLen s) : Does Tryz.prog 112 [.c (.loc 0 0), .i p] [.cells [.pd (.str s), .pd (.int .i64 pos), .own 1, .pd (.int .i64 bad)] 119, .own 88 .cell out] (.tup [.i (operM (s.drop pos.toNat) p).1, .i (operM (s.drop pos.toNat) p).2]) [.cells [.pd (.str s), .pd (.int .i64 pos), .own 1, .pd (.int .i64 bad)] 119, .own 88 .cell out] := by
  refine Does.go (cfg := cfgOper) cfgOper_ok Tryz.func112 (by kernel_rfl) (by kernel_rfl) (t := (.need ((0 : Int) ≤ pos ∧ pos ≤ (↑(List.length s) : Int)) (.stop [.code [1, 1, 0, 1, 0, 0], .inLoop [1, 1, 0, 1, 0, 0], .inBlock 0, .code [1, 1, 1]] { n := 41, fr := [(6, .p (.str (Prod.snd (cutL s (some pos) none)))), (1, .i p), (4, .i (0 : Int)), (5, .i (0 : Int)), (20, .x (.agg [.i (17 : Int), .i (19 : Int), .i (21 : Int), .i (18 : Int), .i (20 : Int), .i (16 : Int), .i (23 : Int), .i (22 : Int), .i (11 : Int), .i (12 : Int), .i (13 : Int), .i (14 : Int), .i (15 : Int)])), (21, .i (0 : Int))], ck := [.cells [.pd (.str s), .i pos, .own 1, .i bad] 119, .own 88 .cell out], m := 2 }))) (by kernel_rfl) fun Γ => ?_
  refine ⟨⟨h0, h1⟩, ?_⟩
  have fin : J Tryz.prog 112 (bodyOf Tryz.f112) Γ (Eq2 (.tup [.i (operGo (s.drop pos.toNat) p (opsL.drop 13)).1, .i (operGo (s.drop pos.toNat) p (opsL.drop 13)).2]) [Chunk.cells [SC.pd (PD.str s), SC.i pos, SC.own 1, SC.i bad] 119, Chunk.own 88 ETy.cell out]) [.code [1, 1, 0, 1, 0, 0], .inLoop [1, 1, 0, 1, 0, 0], .inBlock 0, .code [1, 1, 1]] ({ n := 41, fr := [(6, .p (.str (Prod.snd (cutL s (some pos) none)))), (1, .i p), (4, .i (0 : Int)), (5, .i (0 : Int)), (20, .x (.agg [.i (17 : Int), .i (19 : Int), .i (21 : Int), .i (18 : Int), .i (20 : Int), .i (16 : Int), .i (23 : Int), .i (22 : Int), .i (11 : Int), .i (12 : Int), .i (13 : Int), .i (14 : Int), .i (15 : Int)])), (21, .i ((13 : Int)))], ck := [.cells [.pd (.str s), .i pos, .own 1, .i bad] 119, .own 88 .cell out], m := 2 }) := by
    refine J.go (cfg := cfgOper) cfgOper_ok Tryz.func112 1000 (t := (.ite false (.stop [.ops [1, 1, 0, 1, 0, 0, 1, 1, 0, 0, 0] 0, .code [1, 1, 0, 1, 0, 0, 1, 1, 0, 0, 1], .inBlock 1, .code [1, 1, 0, 1, 0, 0, 1, 1, 1], .inLoop [1, 1, 0, 1, 0, 0], .inBlock 0, .code [1, 1, 1]] { n := 41, fr := [(6, .p (.str (Prod.snd (cutL s (some pos) none)))), (1, .i p), (4, .i (0 : Int)), (5, .i (0 : Int)), (20, .x (.agg [.i (17 : Int), .i (19 : Int), .i (21 : Int), .i (18 : Int), .i (20 : Int), .i (16 : Int), .i (23 : Int), .i (22 : Int), .i (11 : Int), .i (12 : Int), .i (13 : Int), .i (14 : Int), .i (15 : Int)])), (21, .i (13 : Int))], ck := [.cells [.pd (.str s), .i pos, .own 1, .i bad] 119, .own 88 .cell out], m := 2 }) (.ret (.tup [.i (0 : Int), .i (0 : Int)]) [.cells [.pd (.str s), .i pos, .own 1, .i bad] 119, .own 88 .cell out]))) (by kernel_rfl) ?_
    exact ⟨fun h => Bool.noConfusion h, fun _ => ⟨rfl, rfl⟩⟩
  have s12 : J Tryz.prog 112 (bodyOf Tryz.f112) Γ (Eq2 (.tup [.i (operGo (s.drop pos.toNat) p (opsL.drop 12)).1, .i (operGo (s.drop pos.toNat) p (opsL.drop 12)).2]) [Chunk.cells [SC.pd (PD.str s), SC.i pos, SC.own 1, SC.i bad] 119, Chunk.own 88 ETy.cell out]) [.code [1, 1, 0, 1, 0, 0], .inLoop [1, 1, 0, 1, 0, 0], .inBlock 0, .code [1, 1, 1]] ({ n := 41, fr := [(6, .p (.str (Prod.snd (cutL s (some pos) none)))), (1, .i p), (4, .i (0 : Int)), (5, .i (0 : Int)), (20, .x (.agg [.i (17 : Int), .i (19 : Int), .i (21 : Int), .i (18 : Int), .i (20 : Int), .i (16 : Int), .i (23 : Int), .i (22 : Int), .i (11 : Int), .i (12 : Int), .i (13 : Int), .i (14 : Int), .i (15 : Int)])), (21, .i ((12 : Int)))], ck := [.cells [.pd (.str s), .i pos, .own 1, .i bad] 119, .own 88 .cell out], m := 2 }) := by
    refine J.go (cfg := cfgOper) cfgOper_ok Tryz.func112 1000 (t := (.ite true (.need ((0 : Int) ≤ (12 : Int) ∧ (12 : Int) < (↑(13 : Nat) : Int)) (.ite (Prod.snd (signM (15 : Int)) == p && hasP (Prod.snd (cutL s (some pos) none)) (Prod.fst (signM (15 : Int)))) (.ret (.tup [.i (15 : Int), .i (strLen (Prod.fst (signM (15 : Int))))]) [.cells [.pd (.str s), .i pos, .own 1, .i bad] 119, .own 88 .cell out]) (.stop [.code [1, 1, 0, 1, 0, 0], .inLoop [1, 1, 0, 1, 0, 0], .inBlock 0, .code [1, 1, 1]] { n := 41, fr := [(6, .p (.str (Prod.snd (cutL s (some pos) none)))), (1, .i p), (4, .i (0 : Int)), (5, .i (0 : Int)), (20, .x (.agg [.i (17 : Int), .i (19 : Int), .i (21 : Int), .i (18 : Int), .i (20 : Int), .i (16 : Int), .i (23 : Int), .i (22 : Int), .i (11 : Int), .i (12 : Int), .i (13 : Int), .i (14 : Int), .i (15 : Int)])), (21, .i (IntKind.wrap .i64 ((12 : Int) + (1 : Int))))], ck := [.cells [.pd (.str s), .i pos, .own 1, .i bad] 119, .own 88 .cell out], m := 2 }))) (.ret (.tup [.i (0 : Int), .i (0 : Int)]) [.cells [.pd (.str s), .i pos, .own 1, .i bad] 119, .own 88 .cell out]))) (by kernel_rfl) ?_
    refine ⟨fun _ => ⟨by decide, fun h => ?_, fun h => ?_⟩, fun h => Bool.noConfusion h⟩
    · have e : operGo (s.drop pos.toNat) p (opsL.drop 12) = (15, strLen (signM 15).1) := oper_hit h
      rw [e]; exact ⟨rfl, rfl⟩
    · have e : operGo (s.drop pos.toNat) p (opsL.drop 12) = operGo (s.drop pos.toNat) p (opsL.drop 13) := oper_miss (op := 15) h
      rw [e]; exact fin
  have s11 : J Tryz.prog 112 (bodyOf Tryz.f112) Γ (Eq2 (.tup [.i (operGo (s.drop pos.toNat) p (opsL.drop 11)).1, .i (operGo (s.drop pos.toNat) p (opsL.drop 11)).2]) [Chunk.cells [SC.pd (PD.str s), SC.i pos, SC.own 1, SC.i bad] 119, Chunk.own 88 ETy.cell out]) [.code [1, 1, 0, 1, 0, 0], .inLoop [1, 1, 0, 1, 0, 0], .inBlock 0, .code [1, 1, 1]] ({ n := 41, fr := [(6, .p (.str (Prod.snd (cutL s (some pos) none)))), (1, .i p), (4, .i (0 : Int)), (5, .i (0 : Int)), (20, .x (.agg [.i (17 : Int), .i (19 : Int), .i (21 : Int), .i (18 : Int), .i (20 : Int), .i (16 : Int), .i (23 : Int), .i (22 : Int), .i (11 : Int), .i (12 : Int), .i (13 : Int), .i (14 : Int), .i (15 : Int)])), (21, .i ((11 : Int)))], ck := [.cells [.pd (.str s), .i pos, .own 1, .i bad] 119, .own 88 .cell out], m := 2 }) := by
    refine J.go (cfg := cfgOper) cfgOper_ok Tryz.func112 1000 (t := (.ite true (.need ((0 : Int) ≤ (11 : Int) ∧ (11 : Int) < (↑(13 : Nat) : Int)) (.ite (Prod.snd (signM (14 : Int)) == p && hasP (Prod.snd (cutL s (some pos) none)) (Prod.fst (signM (14 : Int)))) (.ret (.tup [.i (14 : Int), .i (strLen (Prod.fst (signM (14 : Int))))]) [.cells [.pd (.str s), .i pos, .own 1, .i bad] 119, .own 88 .cell out]) (.stop [.code [1, 1, 0, 1, 0, 0], .inLoop [1, 1, 0, 1, 0, 0], .inBlock 0, .code [1, 1, 1]] { n := 41, fr := [(6, .p (.str (Prod.snd (cutL s (some pos) none)))), (1, .i p), (4, .i (0 : Int)), (5, .i (0 : Int)), (20, .x (.agg [.i (17 : Int), .i (19 : Int), .i (21 : Int), .i (18 : Int), .i (20 : Int), .i (16 : Int), .i (23 : Int), .i (22 : Int), .i (11 : Int), .i (12 : Int), .i (13 : Int), .i (14 : Int), .i (15 : Int)])), (21, .i (IntKind.wrap .i64 ((11 : Int) + (1 : Int))))], ck := [.cells [.pd (.str s), .i pos, .own 1, .i bad] 119, .own 88 .cell out], m := 2 }))) (.ret (.tup [.i (0 : Int), .i (0 : Int)]) [.cells [.pd (.str s), .i pos, .own 1, .i bad] 119, .own 88 .cell out]))) (by kernel_rfl) ?_
    refine ⟨fun _ => ⟨by decide, fun h => ?_, fun h => ?_⟩, fun h => Bool.noConfusion h⟩
    · have e : operGo (s.drop pos.toNat) p (opsL.drop 11) = (14, strLen (signM 14).1) := oper_hit h
      rw [e]; exact ⟨rfl, rfl⟩
    · have e : operGo (s.drop pos.toNat) p (opsL.drop 11) = operGo (s.drop pos.toNat) p (opsL.drop 12) := oper_miss (op := 14) h
      rw [e]; exact s12
  have s10 : J Tryz.prog 112 (bodyOf Tryz.f112) Γ (Eq2 (.tup [.i (operGo (s.drop pos.toNat) p (opsL.drop 10)).1, .i (operGo (s.drop pos.toNat) p (opsL.drop 10)).2]) [Chunk.cells [SC.pd (PD.str s), SC.i pos, SC.own 1, SC.i bad] 119, Chunk.own 88 ETy.cell out]) [.code [1, 1, 0, 1, 0, 0], .inLoop [1, 1, 0, 1, 0, 0], .inBlock 0, .code [1, 1, 1]] ({ n := 41, fr := [(6, .p (.str (Prod.snd (cutL s (some pos) none)))), (1, .i p), (4, .i (0 : Int)), (5, .i (0 : Int)), (20, .x (.agg [.i (17 : Int), .i (19 : Int), .i (21 : Int), .i (18 : Int), .i (20 : Int), .i (16 : Int), .i (23 : Int), .i (22 : Int), .i (11 : Int), .i (12 : Int), .i (13 : Int), .i (14 : Int), .i (15 : Int)])), (21, .i ((10 : Int)))], ck := [.cells [.pd (.str s), .i pos, .own 1, .i bad] 119, .own 88 .cell out], m := 2 }) := by
    refine J.go (cfg := cfgOper) cfgOper_ok Tryz.func112 1000 (t := (.ite true (.need ((0 : Int) ≤ (10 : Int) ∧ (10 : Int) < (↑(13 : Nat) : Int)) (.ite (Prod.snd (signM (13 : Int)) == p && hasP (Prod.snd (cutL s (some pos) none)) (Prod.fst (signM (13 : Int)))) (.ret (.tup [.i (13 : Int), .i (strLen (Prod.fst (signM (13 : Int))))]) [.cells [.pd (.str s), .i pos, .own 1, .i bad] 119, .own 88 .cell out]) (.stop [.code [1, 1, 0, 1, 0, 0], .inLoop [1, 1, 0, 1, 0, 0], .inBlock 0, .code [1, 1, 1]] { n := 41, fr := [(6, .p (.str (Prod.snd (cutL s (some pos) none)))), (1, .i p), (4, .i (0 : Int)), (5, .i (0 : Int)), (20, .x (.agg [.i (17 : Int), .i (19 : Int), .i (21 : Int), .i (18 : Int), .i (20 : Int), .i (16 : Int), .i (23 : Int), .i (22 : Int), .i (11 : Int), .i (12 : Int), .i (13 : Int), .i (14 : Int), .i (15 : Int)])), (21, .i (IntKind.wrap .i64 ((10 : Int) + (1 : Int))))], ck := [.cells [.pd (.str s), .i pos, .own 1, .i bad] 119, .own 88 .cell out], m := 2 }))) (.ret (.tup [.i (0 : Int), .i (0 : Int)]) [.cells [.pd (.str s), .i pos, .own 1, .i bad] 119, .own 88 .cell out]))) (by kernel_rfl) ?_
    refine ⟨fun _ => ⟨by decide, fun h => ?_, fun h => ?_⟩, fun h => Bool.noConfusion h⟩
    · have e : operGo (s.drop pos.toNat) p (opsL.drop 10) = (13, strLen (signM 13).1) := oper_hit h
      rw [e]; exact ⟨rfl, rfl⟩
    · have e : operGo (s.drop pos.toNat) p (opsL.drop 10) = operGo (s.drop pos.toNat) p (opsL.drop 11) := oper_miss (op := 13) h
      rw [e]; exact s11
  have s9 : J Tryz.prog 112 (bodyOf Tryz.f112) Γ (Eq2 (.tup [.i (operGo (s.drop pos.toNat) p (opsL.drop 9)).1, .i (operGo (s.drop pos.toNat) p (opsL.drop 9)).2]) [Chunk.cells [SC.pd (PD.str s), SC.i pos, SC.own 1, SC.i bad] 119, Chunk.own 88 ETy.cell out]) [.code [1, 1, 0, 1, 0, 0], .inLoop [1, 1, 0, 1, 0, 0], .inBlock 0, .code [1, 1, 1]] ({ n := 41, fr := [(6, .p (.str (Prod.snd (cutL s (some pos) none)))), (1, .i p), (4, .i (0 : Int)), (5, .i (0 : Int)), (20, .x (.agg [.i (17 : Int), .i (19 : Int), .i (21 : Int), .i (18 : Int), .i (20 : Int), .i (16 : Int), .i (23 : Int), .i (22 : Int), .i (11 : Int), .i (12 : Int), .i (13 : Int), .i (14 : Int), .i (15 : Int)])), (21, .i ((9 : Int)))], ck := [.cells [.pd (.str s), .i pos, .own 1, .i bad] 119, .own 88 .cell out], m := 2 }) := by
    refine J.go (cfg := cfgOper) cfgOper_ok Tryz.func112 1000 (t := (.ite true (.need ((0 : Int) ≤ (9 : Int) ∧ (9 : Int) < (↑(13 : Nat) : Int)) (.ite (Prod.snd (signM (12 : Int)) == p && hasP (Prod.snd (cutL s (some pos) none)) (Prod.fst (signM (12 : Int)))) (.ret (.tup [.i (12 : Int), .i (strLen (Prod.fst (signM (12 : Int))))]) [.cells [.pd (.str s), .i pos, .own 1, .i bad] 119, .own 88 .cell out]) (.stop [.code [1, 1, 0, 1, 0, 0], .inLoop [1, 1, 0, 1, 0, 0], .inBlock 0, .code [1, 1, 1]] { n := 41, fr := [(6, .p (.str (Prod.snd (cutL s (some pos) none)))), (1, .i p), (4, .i (0 : Int)), (5, .i (0 : Int)), (20, .x (.agg [.i (17 : Int), .i (19 : Int), .i (21 : Int), .i (18 : Int), .i (20 : Int), .i (16 : Int), .i (23 : Int), .i (22 : Int), .i (11 : Int), .i (12 : Int), .i (13 : Int), .i (14 : Int), .i (15 : Int)])), (21, .i (IntKind.wrap .i64 ((9 : Int) + (1 : Int))))], ck := [.cells [.pd (.str s), .i pos, .own 1, .i bad] 119, .own 88 .cell out], m := 2 }))) (.ret (.tup [.i (0 : Int), .i (0 : Int)]) [.cells [.pd (.str s), .i pos, .own 1, .i bad] 119, .own 88 .cell out]))) (by kernel_rfl) ?_
    refine ⟨fun _ => ⟨by decide, fun h => ?_, fun h => ?_⟩, fun h => Bool.noConfusion h⟩
    · have e : operGo (s.drop pos.toNat) p (opsL.drop 9) = (12, strLen (signM 12).1) := oper_hit h
      rw [e]; exact ⟨rfl, rfl⟩
    · have e : operGo (s.drop pos.toNat) p (opsL.drop 9) = operGo (s.drop pos.toNat) p (opsL.drop 10) := oper_miss (op := 12) h
      rw [e]; exact s10
  have s8 : J Tryz.prog 112 (bodyOf Tryz.f112) Γ (Eq2 (.tup [.i (operGo (s.drop pos.toNat) p (opsL.drop 8)).1, .i (operGo (s.drop pos.toNat) p (opsL.drop 8)).2]) [Chunk.cells [SC.pd (PD.str s), SC.i pos, SC.own 1, SC.i bad] 119, Chunk.own 88 ETy.cell out]) [.code [1, 1, 0, 1, 0, 0], .inLoop [1, 1, 0, 1, 0, 0], .inBlock 0, .code [1, 1, 1]] ({ n := 41, fr := [(6, .p (.str (Prod.snd (cutL s (some pos) none)))), (1, .i p), (4, .i (0 : Int)), (5, .i (0 : Int)), (20, .x (.agg [.i (17 : Int), .i (19 : Int), .i (21 : Int), .i (18 : Int), .i (20 : Int), .i (16 : Int), .i (23 : Int), .i (22 : Int), .i (11 : Int), .i (12 : Int), .i (13 : Int), .i (14 : Int), .i (15 : Int)])), (21, .i ((8 : Int)))], ck := [.cells [.pd (.str s), .i pos, .own 1, .i bad] 119, .own 88 .cell out], m := 2 }) := by
    refine J.go (cfg := cfgOper) cfgOper_ok Tryz.func112 1000 (t := (.ite true (.need ((0 : Int) ≤ (8 : Int) ∧ (8 : Int) < (↑(13 : Nat) : Int)) (.ite (Prod.snd (signM (11 : Int)) == p && hasP (Prod.snd (cutL s (some pos) none)) (Prod.fst (signM (11 : Int)))) (.ret (.tup [.i (11 : Int), .i (strLen (Prod.fst (signM (11 : Int))))]) [.cells [.pd (.str s), .i pos, .own 1, .i bad] 119, .own 88 .cell out]) (.stop [.code [1, 1, 0, 1, 0, 0], .inLoop [1, 1, 0, 1, 0, 0], .inBlock 0, .code [1, 1, 1]] { n := 41, fr := [(6, .p (.str (Prod.snd (cutL s (some pos) none)))), (1, .i p), (4, .i (0 : Int)), (5, .i (0 : Int)), (20, .x (.agg [.i (17 : Int), .i (19 : Int), .i (21 : Int), .i (18 : Int), .i (20 : Int), .i (16 : Int), .i (23 : Int), .i (22 : Int), .i (11 : Int), .i (12 : Int), .i (13 : Int), .i (14 : Int), .i (15 : Int)])), (21, .i (IntKind.wrap .i64 ((8 : Int) + (1 : Int))))], ck := [.cells [.pd (.str s), .i pos, .own 1, .i bad] 119, .own 88 .cell out], m := 2 }))) (.ret (.tup [.i (0 : Int), .i (0 : Int)]) [.cells [.pd (.str s), .i pos, .own 1, .i bad] 119, .own 88 .cell out]))) (by kernel_rfl) ?_
    refine ⟨fun _ => ⟨by decide, fun h => ?_, fun h => ?_⟩, fun h => Bool.noConfusion h⟩
    · have e : operGo (s.drop pos.toNat) p (opsL.drop 8) = (11, strLen (signM 11).1) := oper_hit h
      rw [e]; exact ⟨rfl, rfl⟩
    · have e : operGo (s.drop pos.toNat) p (opsL.drop 8) = operGo (s.drop pos.toNat) p (opsL.drop 9) := oper_miss (op := 11) h
      rw [e]; exact s9
  have s7 : J Tryz.prog 112 (bodyOf Tryz.f112) Γ (Eq2 (.tup [.i (operGo (s.drop pos.toNat) p (opsL.drop 7)).1, .i (operGo (s.drop pos.toNat) p (opsL.drop 7)).2]) [Chunk.cells [SC.pd (PD.str s), SC.i pos, SC.own 1, SC.i bad] 119, Chunk.own 88 ETy.cell out]) [.code [1, 1, 0, 1, 0, 0], .inLoop [1, 1, 0, 1, 0, 0], .inBlock 0, .code [1, 1, 1]] ({ n := 41, fr := [(6, .p (.str (Prod.snd (cutL s (some pos) none)))), (1, .i p), (4, .i (0 : Int)), (5, .i (0 : Int)), (20, .x (.agg [.i (17 : Int), .i (19 : Int), .i (21 : Int), .i (18 : Int), .i (20 : Int), .i (16 : Int), .i (23 : Int), .i (22 : Int), .i (11 : Int), .i (12 : Int), .i (13 : Int), .i (14 : Int), .i (15 : Int)])), (21, .i ((7 : Int)))], ck := [.cells [.pd (.str s), .i pos, .own 1, .i bad] 119, .own 88 .cell out], m := 2 }) := by
    refine J.go (cfg := cfgOper) cfgOper_ok Tryz.func112 1000 (t := (.ite true (.need ((0 : Int) ≤ (7 : Int) ∧ (7 : Int) < (↑(13 : Nat) : Int)) (.ite (Prod.snd (signM (22 : Int)) == p && hasP (Prod.snd (cutL s (some pos) none)) (Prod.fst (signM (22 : Int)))) (.ret (.tup [.i (22 : Int), .i (strLen (Prod.fst (signM (22 : Int))))]) [.cells [.pd (.str s), .i pos, .own 1, .i bad] 119, .own 88 .cell out]) (.stop [.code [1, 1, 0, 1, 0, 0], .inLoop [1, 1, 0, 1, 0, 0], .inBlock 0, .code [1, 1, 1]] { n := 41, fr := [(6, .p (.str (Prod.snd (cutL s (some pos) none)))), (1, .i p), (4, .i (0 : Int)), (5, .i (0 : Int)), (20, .x (.agg [.i (17 : Int), .i (19 : Int), .i (21 : Int), .i (18 : Int), .i (20 : Int), .i (16 : Int), .i (23 : Int), .i (22 : Int), .i (11 : Int), .i (12 : Int), .i (13 : Int), .i (14 : Int), .i (15 : Int)])), (21, .i (IntKind.wrap .i64 ((7 : Int) + (1 : Int))))], ck := [.cells [.pd (.str s), .i pos, .own 1, .i bad] 119, .own 88 .cell out], m := 2 }))) (.ret (.tup [.i (0 : Int), .i (0 : Int)]) [.cells [.pd (.str s), .i pos, .own 1, .i bad] 119, .own 88 .cell out]))) (by kernel_rfl) ?_
    refine ⟨fun _ => ⟨by decide, fun h => ?_, fun h => ?_⟩, fun h => Bool.noConfusion h⟩
    · have e : operGo (s.drop pos.toNat) p (opsL.drop 7) = (22, strLen (signM 22).1) := oper_hit h
      rw [e]; exact ⟨rfl, rfl⟩
    · have e : operGo (s.drop pos.toNat) p (opsL.drop 7) = operGo (s.drop pos.toNat) p (opsL.drop 8) := oper_miss (op := 22) h
      rw [e]; exact s8
  have s6 : J Tryz.prog 112 (bodyOf Tryz.f112) Γ (Eq2 (.tup [.i (operGo (s.drop pos.toNat) p (opsL.drop 6)).1, .i (operGo (s.drop pos.toNat) p (opsL.drop 6)).2]) [Chunk.cells [SC.pd (PD.str s), SC.i pos, SC.own 1, SC.i bad] 119, Chunk.own 88 ETy.cell out]) [.code [1, 1, 0, 1, 0, 0], .inLoop [1, 1, 0, 1, 0, 0], .inBlock 0, .code [1, 1, 1]] ({ n := 41, fr := [(6, .p (.str (Prod.snd (cutL s (some pos) none)))), (1, .i p), (4, .i (0 : Int)), (5, .i (0 : Int)), (20, .x (.agg [.i (17 : Int), .i (19 : Int), .i (21 : Int), .i (18 : Int), .i (20 : Int), .i (16 : Int), .i (23 : Int), .i (22 : Int), .i (11 : Int), .i (12 : Int), .i (13 : Int), .i (14 : Int), .i (15 : Int)])), (21, .i ((6 : Int)))], ck := [.cells [.pd (.str s), .i pos, .own 1, .i bad] 119, .own 88 .cell out], m := 2 }) := by
    refine J.go (cfg := cfgOper) cfgOper_ok Tryz.func112 1000 (t := (.ite true (.need ((0 : Int) ≤ (6 : Int) ∧ (6 : Int) < (↑(13 : Nat) : Int)) (.ite (Prod.snd (signM (23 : Int)) == p && hasP (Prod.snd (cutL s (some pos) none)) (Prod.fst (signM (23 : Int)))) (.ret (.tup [.i (23 : Int), .i (strLen (Prod.fst (signM (23 : Int))))]) [.cells [.pd (.str s), .i pos, .own 1, .i bad] 119, .own 88 .cell out]) (.stop [.code [1, 1, 0, 1, 0, 0], .inLoop [1, 1, 0, 1, 0, 0], .inBlock 0, .code [1, 1, 1]] { n := 41, fr := [(6, .p (.str (Prod.snd (cutL s (some pos) none)))), (1, .i p), (4, .i (0 : Int)), (5, .i (0 : Int)), (20, .x (.agg [.i (17 : Int), .i (19 : Int), .i (21 : Int), .i (18 : Int), .i (20 : Int), .i (16 : Int), .i (23 : Int), .i (22 : Int), .i (11 : Int), .i (12 : Int), .i (13 : Int), .i (14 : Int), .i (15 : Int)])), (21, .i (IntKind.wrap .i64 ((6 : Int) + (1 : Int))))], ck := [.cells [.pd (.str s), .i pos, .own 1, .i bad] 119, .own 88 .cell out], m := 2 }))) (.ret (.tup [.i (0 : Int), .i (0 : Int)]) [.cells [.pd (.str s), .i pos, .own 1, .i bad] 119, .own 88 .cell out]))) (by kernel_rfl) ?_
    refine ⟨fun _ => ⟨by decide, fun h => ?_, fun h => ?_⟩, fun h => Bool.noConfusion h⟩
    · have e : operGo (s.drop pos.toNat) p (opsL.drop 6) = (23, strLen (signM 23).1) := oper_hit h
      rw [e]; exact ⟨rfl, rfl⟩
    · have e : operGo (s.drop pos.toNat) p (opsL.drop 6) = operGo (s.drop pos.toNat) p (opsL.drop 7) := oper_miss (op := 23) h
      rw [e]; exact s7
  have s5 : J Tryz.prog 112 (bodyOf Tryz.f112) Γ (Eq2 (.tup [.i (operGo (s.drop pos.toNat) p (opsL.drop 5)).1, .i (operGo (s.drop pos.toNat) p (opsL.drop 5)).2]) [Chunk.cells [SC.pd (PD.str s), SC.i pos, SC.own 1, SC.i bad] 119, Chunk.own 88 ETy.cell out]) [.code [1, 1, 0, 1, 0, 0], .inLoop [1, 1, 0, 1, 0, 0], .inBlock 0, .code [1, 1, 1]] ({ n := 41, fr := [(6, .p (.str (Prod.snd (cutL s (some pos) none)))), (1, .i p), (4, .i (0 : Int)), (5, .i (0 : Int)), (20, .x (.agg [.i (17 : Int), .i (19 : Int), .i (21 : Int), .i (18 : Int), .i (20 : Int), .i (16 : Int), .i (23 : Int), .i (22 : Int), .i (11 : Int), .i (12 : Int), .i (13 : Int), .i (14 : Int), .i (15 : Int)])), (21, .i ((5 : Int)))], ck := [.cells [.pd (.str s), .i pos, .own 1, .i bad] 119, .own 88 .cell out], m := 2 }) := by
    refine J.go (cfg := cfgOper) cfgOper_ok Tryz.func112 1000 (t := (.ite true (.need ((0 : Int) ≤ (5 : Int) ∧ (5 : Int) < (↑(13 : Nat) : Int)) (.ite (Prod.snd (signM (16 : Int)) == p && hasP (Prod.snd (cutL s (some pos) none)) (Prod.fst (signM (16 : Int)))) (.ret (.tup [.i (16 : Int), .i (strLen (Prod.fst (signM (16 : Int))))]) [.cells [.pd (.str s), .i pos, .own 1, .i bad] 119, .own 88 .cell out]) (.stop [.code [1, 1, 0, 1, 0, 0], .inLoop [1, 1, 0, 1, 0, 0], .inBlock 0, .code [1, 1, 1]] { n := 41, fr := [(6, .p (.str (Prod.snd (cutL s (some pos) none)))), (1, .i p), (4, .i (0 : Int)), (5, .i (0 : Int)), (20, .x (.agg [.i (17 : Int), .i (19 : Int), .i (21 : Int), .i (18 : Int), .i (20 : Int), .i (16 : Int), .i (23 : Int), .i (22 : Int), .i (11 : Int), .i (12 : Int), .i (13 : Int), .i (14 : Int), .i (15 : Int)])), (21, .i (IntKind.wrap .i64 ((5 : Int) + (1 : Int))))], ck := [.cells [.pd (.str s), .i pos, .own 1, .i bad] 119, .own 88 .cell out], m := 2 }))) (.ret (.tup [.i (0 : Int), .i (0 : Int)]) [.cells [.pd (.str s), .i pos, .own 1, .i bad] 119, .own 88 .cell out]))) (by kernel_rfl) ?_
    refine ⟨fun _ => ⟨by decide, fun h => ?_, fun h => ?_⟩, fun h => Bool.noConfusion h⟩
    · have e : operGo (s.drop pos.toNat) p (opsL.drop 5) = (16, strLen (signM 16).1) := oper_hit h
      rw [e]; exact ⟨rfl, rfl⟩
    · have e : operGo (s.drop pos.toNat) p (opsL.drop 5) = operGo (s.drop pos.toNat) p (opsL.drop 6) := oper_miss (op := 16) h
      rw [e]; exact s6
  have s4 : J Tryz.prog 112 (bodyOf Tryz.f112) Γ (Eq2 (.tup [.i (operGo (s.drop pos.toNat) p (opsL.drop 4)).1, .i (operGo (s.drop pos.toNat) p (opsL.drop 4)).2]) [Chunk.cells [SC.pd (PD.str s), SC.i pos, SC.own 1, SC.i bad] 119, Chunk.own 88 ETy.cell out]) [.code [1, 1, 0, 1, 0, 0], .inLoop [1, 1, 0, 1, 0, 0], .inBlock 0, .code [1, 1, 1]] ({ n := 41, fr := [(6, .p (.str (Prod.snd (cutL s (some pos) none)))), (1, .i p), (4, .i (0 : Int)), (5, .i (0 : Int)), (20, .x (.agg [.i (17 : Int), .i (19 : Int), .i (21 : Int), .i (18 : Int), .i (20 : Int), .i (16 : Int), .i (23 : Int), .i (22 : Int), .i (11 : Int), .i (12 : Int), .i (13 : Int), .i (14 : Int), .i (15 : Int)])), (21, .i ((4 : Int)))], ck := [.cells [.pd (.str s), .i pos, .own 1, .i bad] 119, .own 88 .cell out], m := 2 }) := by
    refine J.go (cfg := cfgOper) cfgOper_ok Tryz.func112 1000 (t := (.ite true (.need ((0 : Int) ≤ (4 : Int) ∧ (4 : Int) < (↑(13 : Nat) : Int)) (.ite (Prod.snd (signM (20 : Int)) == p && hasP (Prod.snd (cutL s (some pos) none)) (Prod.fst (signM (20 : Int)))) (.ret (.tup [.i (20 : Int), .i (strLen (Prod.fst (signM (20 : Int))))]) [.cells [.pd (.str s), .i pos, .own 1, .i bad] 119, .own 88 .cell out]) (.stop [.code [1, 1, 0, 1, 0, 0], .inLoop [1, 1, 0, 1, 0, 0], .inBlock 0, .code [1, 1, 1]] { n := 41, fr := [(6, .p (.str (Prod.snd (cutL s (some pos) none)))), (1, .i p), (4, .i (0 : Int)), (5, .i (0 : Int)), (20, .x (.agg [.i (17 : Int), .i (19 : Int), .i (21 : Int), .i (18 : Int), .i (20 : Int), .i (16 : Int), .i (23 : Int), .i (22 : Int), .i (11 : Int), .i (12 : Int), .i (13 : Int), .i (14 : Int), .i (15 : Int)])), (21, .i (IntKind.wrap .i64 ((4 : Int) + (1 : Int))))], ck := [.cells [.pd (.str s), .i pos, .own 1, .i bad] 119, .own 88 .cell out], m := 2 }))) (.ret (.tup [.i (0 : Int), .i (0 : Int)]) [.cells [.pd (.str s), .i pos, .own 1, .i bad] 119, .own 88 .cell out]))) (by kernel_rfl) ?_
    refine ⟨fun _ => ⟨by decide, fun h => ?_, fun h => ?_⟩, fun h => Bool.noConfusion h⟩
    · have e : operGo (s.drop pos.toNat) p (opsL.drop 4) = (20, strLen (signM 20).1) := oper_hit h
      rw [e]; exact ⟨rfl, rfl⟩
    · have e : operGo (s.drop pos.toNat) p (opsL.drop 4) = operGo (s.drop pos.toNat) p (opsL.drop 5) := oper_miss (op := 20) h
      rw [e]; exact s5
  have s3 : J Tryz.prog 112 (bodyOf Tryz.f112) Γ (Eq2 (.tup [.i (operGo (s.drop pos.toNat) p (opsL.drop 3)).1, .i (operGo (s.drop pos.toNat) p (opsL.drop 3)).2]) [Chunk.cells [SC.pd (PD.str s), SC.i pos, SC.own 1, SC.i bad] 119, Chunk.own 88 ETy.cell out]) [.code [1, 1, 0, 1, 0, 0], .inLoop [1, 1, 0, 1, 0, 0], .inBlock 0, .code [1, 1, 1]] ({ n := 41, fr := [(6, .p (.str (Prod.snd (cutL s (some pos) none)))), (1, .i p), (4, .i (0 : Int)), (5, .i (0 : Int)), (20, .x (.agg [.i (17 : Int), .i (19 : Int), .i (21 : Int), .i (18 : Int), .i (20 : Int), .i (16 : Int), .i (23 : Int), .i (22 : Int), .i (11 : Int), .i (12 : Int), .i (13 : Int), .i (14 : Int), .i (15 : Int)])), (21, .i ((3 : Int)))], ck := [.cells [.pd (.str s), .i pos, .own 1, .i bad] 119, .own 88 .cell out], m := 2 }) := by
    refine J.go (cfg := cfgOper) cfgOper_ok Tryz.func112 1000 (t := (.ite true (.need ((0 : Int) ≤ (3 : Int) ∧ (3 : Int) < (↑(13 : Nat) : Int)) (.ite (Prod.snd (signM (18 : Int)) == p && hasP (Prod.snd (cutL s (some pos) none)) (Prod.fst (signM (18 : Int)))) (.ret (.tup [.i (18 : Int), .i (strLen (Prod.fst (signM (18 : Int))))]) [.cells [.pd (.str s), .i pos, .own 1, .i bad] 119, .own 88 .cell out]) (.stop [.code [1, 1, 0, 1, 0, 0], .inLoop [1, 1, 0, 1, 0, 0], .inBlock 0, .code [1, 1, 1]] { n := 41, fr := [(6, .p (.str (Prod.snd (cutL s (some pos) none)))), (1, .i p), (4, .i (0 : Int)), (5, .i (0 : Int)), (20, .x (.agg [.i (17 : Int), .i (19 : Int), .i (21 : Int), .i (18 : Int), .i (20 : Int), .i (16 : Int), .i (23 : Int), .i (22 : Int), .i (11 : Int), .i (12 : Int), .i (13 : Int), .i (14 : Int), .i (15 : Int)])), (21, .i (IntKind.wrap .i64 ((3 : Int) + (1 : Int))))], ck := [.cells [.pd (.str s), .i pos, .own 1, .i bad] 119, .own 88 .cell out], m := 2 }))) (.ret (.tup [.i (0 : Int), .i (0 : Int)]) [.cells [.pd (.str s), .i pos, .own 1, .i bad] 119, .own 88 .cell out]))) (by kernel_rfl) ?_
    refine ⟨fun _ => ⟨by decide, fun h => ?_, fun h => ?_⟩, fun h => Bool.noConfusion h⟩
    · have e : operGo (s.drop pos.toNat) p (opsL.drop 3) = (18, strLen (signM 18).1) := oper_hit h
      rw [e]; exact ⟨rfl, rfl⟩
    · have e : operGo (s.drop pos.toNat) p (opsL.drop 3) = operGo (s.drop pos.toNat) p (opsL.drop 4) := oper_miss (op := 18) h
      rw [e]; exact s4
  have s2 : J Tryz.prog 112 (bodyOf Tryz.f112) Γ (Eq2 (.tup [.i (operGo (s.drop pos.toNat) p (opsL.drop 2)).1, .i (operGo (s.drop pos.toNat) p (opsL.drop 2)).2]) [Chunk.cells [SC.pd (PD.str s), SC.i pos, SC.own 1, SC.i bad] 119, Chunk.own 88 ETy.cell out]) [.code [1, 1, 0, 1, 0, 0], .inLoop [1, 1, 0, 1, 0, 0], .inBlock 0, .code [1, 1, 1]] ({ n := 41, fr := [(6, .p (.str (Prod.snd (cutL s (some pos) none)))), (1, .i p), (4, .i (0 : Int)), (5, .i (0 : Int)), (20, .x (.agg [.i (17 : Int), .i (19 : Int), .i (21 : Int), .i (18 : Int), .i (20 : Int), .i (16 : Int), .i (23 : Int), .i (22 : Int), .i (11 : Int), .i (12 : Int), .i (13 : Int), .i (14 : Int), .i (15 : Int)])), (21, .i ((2 : Int)))], ck := [.cells [.pd (.str s), .i pos, .own 1, .i bad] 119, .own 88 .cell out], m := 2 }) := by
    refine J.go (cfg := cfgOper) cfgOper_ok Tryz.func112 1000 (t := (.ite true (.need ((0 : Int) ≤ (2 : Int) ∧ (2 : Int) < (↑(13 : Nat) : Int)) (.ite (Prod.snd (signM (21 : Int)) == p && hasP (Prod.snd (cutL s (some pos) none)) (Prod.fst (signM (21 : Int)))) (.ret (.tup [.i (21 : Int), .i (strLen (Prod.fst (signM (21 : Int))))]) [.cells [.pd (.str s), .i pos, .own 1, .i bad] 119, .own 88 .cell out]) (.stop [.code [1, 1, 0, 1, 0, 0], .inLoop [1, 1, 0, 1, 0, 0], .inBlock 0, .code [1, 1, 1]] { n := 41, fr := [(6, .p (.str (Prod.snd (cutL s (some pos) none)))), (1, .i p), (4, .i (0 : Int)), (5, .i (0 : Int)), (20, .x (.agg [.i (17 : Int), .i (19 : Int), .i (21 : Int), .i (18 : Int), .i (20 : Int), .i (16 : Int), .i (23 : Int), .i (22 : Int), .i (11 : Int), .i (12 : Int), .i (13 : Int), .i (14 : Int), .i (15 : Int)])), (21, .i (IntKind.wrap .i64 ((2 : Int) + (1 : Int))))], ck := [.cells [.pd (.str s), .i pos, .own 1, .i bad] 119, .own 88 .cell out], m := 2 }))) (.ret (.tup [.i (0 : Int), .i (0 : Int)]) [.cells [.pd (.str s), .i pos, .own 1, .i bad] 119, .own 88 .cell out]))) (by kernel_rfl) ?_
    refine ⟨fun _ => ⟨by decide, fun h => ?_, fun h => ?_⟩, fun h => Bool.noConfusion h⟩
    · have e : operGo (s.drop pos.toNat) p (opsL.drop 2) = (21, strLen (signM 21).1) := oper_hit h
      rw [e]; exact ⟨rfl, rfl⟩
    · have e : operGo (s.drop pos.toNat) p (opsL.drop 2) = operGo (s.drop pos.toNat) p (opsL.drop 3) := oper_miss (op := 21) h
      rw [e]; exact s3
  have s1 : J Tryz.prog 112 (bodyOf Tryz.f112) Γ (Eq2 (.tup [.i (operGo (s.drop pos.toNat) p (opsL.drop 1)).1, .i (operGo (s.drop pos.toNat) p (opsL.drop 1)).2]) [Chunk.cells [SC.pd (PD.str s), SC.i pos, SC.own 1, SC.i bad] 119, Chunk.own 88 ETy.cell out]) [.code [1, 1, 0, 1, 0, 0], .inLoop [1, 1, 0, 1, 0, 0], .inBlock 0, .code [1, 1, 1]] ({ n := 41, fr := [(6, .p (.str (Prod.snd (cutL s (some pos) none)))), (1, .i p), (4, .i (0 : Int)), (5, .i (0 : Int)), (20, .x (.agg [.i (17 : Int), .i (19 : Int), .i (21 : Int), .i (18 : Int), .i (20 : Int), .i (16 : Int), .i (23 : Int), .i (22 : Int), .i (11 : Int), .i (12 : Int), .i (13 : Int), .i (14 : Int), .i (15 : Int)])), (21, .i ((1 : Int)))], ck := [.cells [.pd (.str s), .i pos, .own 1, .i bad] 119, .own 88 .cell out], m := 2 }) := by
    refine J.go (cfg := cfgOper) cfgOper_ok Tryz.func112 1000 (t := (.ite true (.need ((0 : Int) ≤ (1 : Int) ∧ (1 : Int) < (↑(13 : Nat) : Int)) (.ite (Prod.snd (signM (19 : Int)) == p && hasP (Prod.snd (cutL s (some pos) none)) (Prod.fst (signM (19 : Int)))) (.ret (.tup [.i (19 : Int), .i (strLen (Prod.fst (signM (19 : Int))))]) [.cells [.pd (.str s), .i pos, .own 1, .i bad] 119, .own 88 .cell out]) (.stop [.code [1, 1, 0, 1, 0, 0], .inLoop [1, 1, 0, 1, 0, 0], .inBlock 0, .code [1, 1, 1]] { n := 41, fr := [(6, .p (.str (Prod.snd (cutL s (some pos) none)))), (1, .i p), (4, .i (0 : Int)), (5, .i (0 : Int)), (20, .x (.agg [.i (17 : Int), .i (19 : Int), .i (21 : Int), .i (18 : Int), .i (20 : Int), .i (16 : Int), .i (23 : Int), .i (22 : Int), .i (11 : Int), .i (12 : Int), .i (13 : Int), .i (14 : Int), .i (15 : Int)])), (21, .i (IntKind.wrap .i64 ((1 : Int) + (1 : Int))))], ck := [.cells [.pd (.str s), .i pos, .own 1, .i bad] 119, .own 88 .cell out], m := 2 }))) (.ret (.tup [.i (0 : Int), .i (0 : Int)]) [.cells [.pd (.str s), .i pos, .own 1, .i bad] 119, .own 88 .cell out]))) (by kernel_rfl) ?_
    refine ⟨fun _ => ⟨by decide, fun h => ?_, fun h => ?_⟩, fun h => Bool.noConfusion h⟩
    · have e : operGo (s.drop pos.toNat) p (opsL.drop 1) = (19, strLen (signM 19).1) := oper_hit h
      rw [e]; exact ⟨rfl, rfl⟩
    · have e : operGo (s.drop pos.toNat) p (opsL.drop 1) = operGo (s.drop pos.toNat) p (opsL.drop 2) := oper_miss (op := 19) h
      rw [e]; exact s2
  have s0 : J Tryz.prog 112 (bodyOf Tryz.f112) Γ (Eq2 (.tup [.i (operGo (s.drop pos.toNat) p (opsL.drop 0)).1, .i (operGo (s.drop pos.toNat) p (opsL.drop 0)).2]) [Chunk.cells [SC.pd (PD.str s), SC.i pos, SC.own 1, SC.i bad] 119, Chunk.own 88 ETy.cell out]) [.code [1, 1, 0, 1, 0, 0], .inLoop [1, 1, 0, 1, 0, 0], .inBlock 0, .code [1, 1, 1]] ({ n := 41, fr := [(6, .p (.str (Prod.snd (cutL s (some pos) none)))), (1, .i p), (4, .i (0 : Int)), (5, .i (0 : Int)), (20, .x (.agg [.i (17 : Int), .i (19 : Int), .i (21 : Int), .i (18 : Int), .i (20 : Int), .i (16 : Int), .i (23 : Int), .i (22 : Int), .i (11 : Int), .i (12 : Int), .i (13 : Int), .i (14 : Int), .i (15 : Int)])), (21, .i ((0 : Int)))], ck := [.cells [.pd (.str s), .i pos, .own 1, .i bad] 119, .own 88 .cell out], m := 2 }) := by
    refine J.go (cfg := cfgOper) cfgOper_ok Tryz.func112 1000 (t := (.ite true (.need ((0 : Int) ≤ (0 : Int) ∧ (0 : Int) < (↑(13 : Nat) : Int)) (.ite (Prod.snd (signM (17 : Int)) == p && hasP (Prod.snd (cutL s (some pos) none)) (Prod.fst (signM (17 : Int)))) (.ret (.tup [.i (17 : Int), .i (strLen (Prod.fst (signM (17 : Int))))]) [.cells [.pd (.str s), .i pos, .own 1, .i bad] 119, .own 88 .cell out]) (.stop [.code [1, 1, 0, 1, 0, 0], .inLoop [1, 1, 0, 1, 0, 0], .inBlock 0, .code [1, 1, 1]] { n := 41, fr := [(6, .p (.str (Prod.snd (cutL s (some pos) none)))), (1, .i p), (4, .i (0 : Int)), (5, .i (0 : Int)), (20, .x (.agg [.i (17 : Int), .i (19 : Int), .i (21 : Int), .i (18 : Int), .i (20 : Int), .i (16 : Int), .i (23 : Int), .i (22 : Int), .i (11 : Int), .i (12 : Int), .i (13 : Int), .i (14 : Int), .i (15 : Int)])), (21, .i (IntKind.wrap .i64 ((0 : Int) + (1 : Int))))], ck := [.cells [.pd (.str s), .i pos, .own 1, .i bad] 119, .own 88 .cell out], m := 2 }))) (.ret (.tup [.i (0 : Int), .i (0 : Int)]) [.cells [.pd (.str s), .i pos, .own 1, .i bad] 119, .own 88 .cell out]))) (by kernel_rfl) ?_
    refine ⟨fun _ => ⟨by decide, fun h => ?_, fun h => ?_⟩, fun h => Bool.noConfusion h⟩
    · have e : operGo (s.drop pos.toNat) p (opsL.drop 0) = (17, strLen (signM 17).1) := oper_hit h
      rw [e]; exact ⟨rfl, rfl⟩
    · have e : operGo (s.drop pos.toNat) p (opsL.drop 0) = operGo (s.drop pos.toNat) p (opsL.drop 1) := oper_miss (op := 17) h
      rw [e]; exact s1
  exact s0
def eRoper : Nat × (List SX → List Chunk → Option (Option Prop × SV × List Chunk)) := (112, fun
  | [.c (.loc 0 0), .c (.pd (.int .i64 p))], [.cells [.pd (.str s), .pd (.int .i64 pos), .own 1, .pd (.int .i64 bad)] 119, .own 88 .cell out] => some (some (0 ≤ pos ∧ pos ≤ strLen s), .tup [.c (.pd (.int .i64 (operM (s.drop pos.toNat) p).1)), .c (.pd (.int .i64 (operM (s.drop pos.toNat) p).2))], [.cells [.pd (.str s), .pd (.int .i64 pos), .own 1, .pd (.int .i64 bad)] 119, .own 88 .cell out])
  | _, _ => none)
theorem eRoper_ok (vs : List SX) (ck : List Chunk) (p : Option Prop) (ret : SV) (ck' : List Chunk) (h : eRoper.2 vs ck = some (p, ret, ck')) (hp : Holds p) : Does Tryz.prog eRoper.1 vs ck ret ck' := by
  unfold eRoper at h
  simp only at h
  split at h
  · rename_i p s pos bad out
    simp only [Option.some.injEq, Prod.mk.injEq] at h
    obtain ⟨rfl, rfl, rfl⟩ := h
    exact roper_spec s pos bad p out hp.1 hp.2
  · simp at h
/-! ### a closing parenthesis -/
def cfgClose : Cfg := ⟨tys0, [eWrong]⟩
theorem cfgClose_ok : TabOk Tryz.prog cfgClose.tab := (TabOk.cons eWrong_ok TabOk.nil)
theorem rclose_spec (s : Str) (pos bad : Int) (out : List Cell) (hb : bad < 0 → 0 ≤ pos ∧ pos ≤ strLen s) (h0 : -1 ≤ pos) (h1 : pos ≤ 1099511627776) : Does Tryz.prog 153 [.c (.loc 0 0)] [.cells [.pd (.str s), .pd (.int .i64 pos), .own 1, .pd (.int .i64 bad)] 119, .own 88 .cell out] (.tup []) [.cells [.pd (.str s), .i (pos + 1), .own 1, .i (closeR s ⟨pos, out, bad⟩).bad] 119, .own 88 .cell out] := by
  refine Does.go (cfg := cfgClose) cfgClose_ok Tryz.func153 (by kernel_rfl) (by kernel_rfl) (t := (.need (Prod.snd (Prod.snd (Prod.snd (16, 18, false, onBy false (pos == strLen s) (some (5, 7, true, onBy true (decide (bad < (0 : Int))) none))))) → (0 : Int) ≤ pos ∧ pos < strLen s) (.ite (decide (bad < (0 : Int)) && (pos == strLen s || (↑(UInt8.toNat (List.getD s (Int.toNat pos) (0 : UInt8))) : Int) != (41 : Int))) (.ret (.tup []) [.cells [.pd (.str s), .i (IntKind.wrap .i64 (pos + (1 : Int))), .own 1, .i (if bad < (0 : Int) then pos else bad)] 119, .own 88 .cell out]) (.ret (.tup []) [.cells [.pd (.str s), .i (IntKind.wrap .i64 (pos + (1 : Int))), .own 1, .i bad] 119, .own 88 .cell out])))) (by kernel_rfl) fun Γ => ?_
  have e : IntKind.wrap .i64 (pos + 1) = pos + 1 := wrapI (by omega) (by omega)
  rw [e]
  refine ⟨fun h => ?_, fun h => ⟨rfl, ?_⟩, fun h => ⟨rfl, ?_⟩⟩
  · simp [onBy] at h
    have := hb h.1
    omega
  · have h' : bad < 0 ∧ (pos = strLen s ∨ byteAt s pos ≠ 41) := by
      simp only [Bool.and_eq_true, Bool.or_eq_true, decide_eq_true_eq, beq_iff_eq, bne_iff_ne] at h
      exact h
    have e2 : (closeR s ⟨pos, out, bad⟩).bad = (if bad < 0 then pos else bad) := by unfold closeR; rw [if_pos h']; rfl
    rw [e2]
  · have h' : ¬ (bad < 0 ∧ (pos = strLen s ∨ byteAt s pos ≠ 41)) := by
      intro hh
      have : (decide (bad < 0) && (pos == strLen s || ((s.getD pos.toNat 0).toNat : Int) != 41)) = true := by
        simp only [Bool.and_eq_true, Bool.or_eq_true, decide_eq_true_eq, beq_iff_eq, bne_iff_ne]
        exact hh
      rw [this] at h; cases h
    have e2 : (closeR s ⟨pos, out, bad⟩).bad = bad := by unfold closeR; rw [if_neg h']; rfl
    rw [e2]
def eRclose : Nat × (List SX → List Chunk → Option (Option Prop × SV × List Chunk)) := (153, fun
  | [.c (.loc 0 0)], [.cells [.pd (.str s), .pd (.int .i64 pos), .own 1, .pd (.int .i64 bad)] 119, .own 88 .cell out] => some (some ((bad < 0 → 0 ≤ pos ∧ pos ≤ strLen s) ∧ -1 ≤ pos ∧ pos ≤ 1099511627776), .tup [], [.cells [.pd (.str s), .pd (.int .i64 (pos + 1)), .own 1, .pd (.int .i64 (closeR s ⟨pos, out, bad⟩).bad)] 119, .own 88 .cell out])
  | _, _ => none)
theorem eRclose_ok (vs : List SX) (ck : List Chunk) (p : Option Prop) (ret : SV) (ck' : List Chunk) (h : eRclose.2 vs ck = some (p, ret, ck')) (hp : Holds p) : Does Tryz.prog eRclose.1 vs ck ret ck' := by
  unfold eRclose at h
  simp only at h
  split at h
  · rename_i s pos bad out
    simp only [Option.some.injEq, Prod.mk.injEq] at h
    obtain ⟨rfl, rfl, rfl⟩ := h
    exact rclose_spec s pos bad out hp.1 hp.2.1 hp.2.2
  · simp at h
/-! ### numbers -/
def cfgNum : Cfg := ⟨tys0, [eWrong, eNb, eWants, eEmit]⟩
theorem cfgNum_ok : TabOk Tryz.prog cfgNum.tab := (TabOk.cons eWrong_ok (TabOk.cons eNb_ok (TabOk.cons eWants_ok (TabOk.cons eEmit_ok TabOk.nil))))

theorem seg_len {s : Str} {k m : Nat} (hk : k ≤ m) (hm : m ≤ s.length) : (seg s k m).length = m - k := by
  unfold seg; rw [List.length_drop, List.length_take]; omega
theorem num_wrong {s : Str} {r : Rd} (h : ((numM (numText s r.pos)).2 != 0 || decide (wantsC (numC s r.pos) < 0)) = true) : numberR s r = r.wrong r.pos := by
  unfold numberR
  rw [if_pos (by simpa only [Bool.or_eq_true, bne_iff_ne, decide_eq_true_eq] using h)]
theorem num_right {s : Str} {r : Rd} (h : ((numM (numText s r.pos)).2 != 0 || decide (wantsC (numC s r.pos) < 0)) = false) : numberR s r = (r.to (if numImag s r.pos = true then numEnd s r.pos + 1 else numEnd s r.pos)).emit (numC s r.pos) := by
  unfold numberR
  rw [if_neg]
  intro hh
  have : ((numM (numText s r.pos)).2 != 0 || decide (wantsC (numC s r.pos) < 0)) = true := by simpa only [Bool.or_eq_true, bne_iff_ne, decide_eq_true_eq] using hh
  rw [this] at h; cases h
theorem rnum_loop (s : Str) (bad : Int) (k : Nat) (out : List Cell) (Γ : Ctx) (hs : s.length ≤ 1048576) (ho : room (out.length + 1) 32) (hk : k < s.length) (hd : isD (s.getD k 0) = true) : ∀ (n m : Nat), s.length - m ≤ n → m ≤ s.length → k ≤ m → (s.drop k).takeWhile isD = seg s k m ++ (s.drop m).takeWhile isD →
    J Tryz.prog 152 (bodyOf Tryz.f152) Γ (RdQ s (numberR s ⟨(k : Int), out, bad⟩)) [.code [1, 0, 0, 0], .inLoop [1, 0, 0, 0], .inBlock 0, .code [1, 1]] ({ n := 115, fr := [(0, .x (.c (.loc 0 0))), (2, .i ((m : Int)))], ck := [.cells [.pd (.str s), .i (↑k : Int), .own 1, .i bad] 119, .own 88 .cell out], m := 2 }) := by
  intro n
  induction n with
  | zero => ?_
  | succ n ih => ?_
  all_goals
    intro m hn hm hkm hseg
    refine J.go (cfg := cfgNum) cfgNum_ok Tryz.func152 1000 (t := (.need (decide ((↑m : Int) < strLen s) = true → (0 : Int) ≤ (↑m : Int) ∧ (↑m : Int) < strLen s) (.need ((decide ((↑m : Int) < strLen s) && decide ((↑(UInt8.toNat (List.getD s m (0 : UInt8))) : Int) ≥ (48 : Int))) = true → (0 : Int) ≤ (↑m : Int) ∧ (↑m : Int) < strLen s) (.ite (decide ((↑m : Int) < strLen s) && decide ((↑(UInt8.toNat (List.getD s m (0 : UInt8))) : Int) ≥ (48 : Int)) && decide ((↑(UInt8.toNat (List.getD s m (0 : UInt8))) : Int) ≤ (57 : Int))) (.stop [.code [1, 0, 0, 0], .inLoop [1, 0, 0, 0], .inBlock 0, .code [1, 1]] { n := 115, fr := [(0, .x (.c (.loc 0 0))), (2, .i (IntKind.wrap .i64 ((↑m : Int) + (1 : Int))))], ck := [.cells [.pd (.str s), .i (↑k : Int), .own 1, .i bad] 119, .own 88 .cell out], m := 2 }) (.need ((0 : Int) ≤ (↑k : Int) ∧ (↑k : Int) < strLen s) (.ite ((↑(UInt8.toNat (List.getD s k (0 : UInt8))) : Int) == (48 : Int)) (.need ((0 : Int) ≤ (↑k : Int) ∧ (↑k : Int) ≤ IntKind.wrap .i64 ((↑k : Int) + (1 : Int)) ∧ IntKind.wrap .i64 ((↑k : Int) + (1 : Int)) ≤ (↑(List.length s) : Int)) (.need (List.length (Prod.snd (cutL s (some (↑k : Int)) (some (IntKind.wrap .i64 ((↑k : Int) + (1 : Int)))))) ≤ 281474976710656) (.need (decide (IntKind.wrap .i64 ((↑k : Int) + (1 : Int)) < strLen s) = true → (0 : Int) ≤ IntKind.wrap .i64 ((↑k : Int) + (1 : Int)) ∧ IntKind.wrap .i64 ((↑k : Int) + (1 : Int)) < strLen s) (.ite (decide (IntKind.wrap .i64 ((↑k : Int) + (1 : Int)) < strLen s) && (↑(UInt8.toNat (List.getD s (Int.toNat (IntKind.wrap .i64 ((↑k : Int) + (1 : Int)))) (0 : UInt8))) : Int) == (105 : Int)) (.ite (Prod.snd (numM (Prod.snd (cutL s (some (↑k : Int)) (some (IntKind.wrap .i64 ((↑k : Int) + (1 : Int))))))) != (0 : Int) || decide (wantsM (2 : Int) (Prod.fst (numM (Prod.snd (cutL s (some (↑k : Int)) (some (IntKind.wrap .i64 ((↑k : Int) + (1 : Int)))))))) [] < (0 : Int))) (.ret (.tup []) [.cells [.pd (.str s), .i (↑k : Int), .own 1, .i (if bad < (0 : Int) then (↑k : Int) else bad)] 119, .own 88 .cell out]) (.ite true (.need (room (List.length out + 1) 32) (.ret (.tup []) [.cells [.pd (.str s), .i (IntKind.wrap .i64 (IntKind.wrap .i64 ((↑k : Int) + (1 : Int)) + (1 : Int))), .own 2, .i bad] 119, .dead, .own 88 .cell (out ++ [{ op := (2 : Int), a := Prod.fst (numM (Prod.snd (cutL s (some (↑k : Int)) (some (IntKind.wrap .i64 ((↑k : Int) + (1 : Int))))))), name := [] }])])) (.need (room (List.length out + 1) 32) (.ret (.tup []) [.cells [.pd (.str s), .i (IntKind.wrap .i64 ((↑k : Int) + (1 : Int))), .own 2, .i bad] 119, .dead, .own 88 .cell (out ++ [{ op := (2 : Int), a := Prod.fst (numM (Prod.snd (cutL s (some (↑k : Int)) (some (IntKind.wrap .i64 ((↑k : Int) + (1 : Int))))))), name := [] }])])))) (.ite (Prod.snd (numM (Prod.snd (cutL s (some (↑k : Int)) (some (IntKind.wrap .i64 ((↑k : Int) + (1 : Int))))))) != (0 : Int) || decide (wantsM (1 : Int) (Prod.fst (numM (Prod.snd (cutL s (some (↑k : Int)) (some (IntKind.wrap .i64 ((↑k : Int) + (1 : Int)))))))) [] < (0 : Int))) (.ret (.tup []) [.cells [.pd (.str s), .i (↑k : Int), .own 1, .i (if bad < (0 : Int) then (↑k : Int) else bad)] 119, .own 88 .cell out]) (.ite false (.need (room (List.length out + 1) 32) (.ret (.tup []) [.cells [.pd (.str s), .i (IntKind.wrap .i64 (IntKind.wrap .i64 ((↑k : Int) + (1 : Int)) + (1 : Int))), .own 2, .i bad] 119, .dead, .own 88 .cell (out ++ [{ op := (1 : Int), a := Prod.fst (numM (Prod.snd (cutL s (some (↑k : Int)) (some (IntKind.wrap .i64 ((↑k : Int) + (1 : Int))))))), name := [] }])])) (.need (room (List.length out + 1) 32) (.ret (.tup []) [.cells [.pd (.str s), .i (IntKind.wrap .i64 ((↑k : Int) + (1 : Int))), .own 2, .i bad] 119, .dead, .own 88 .cell (out ++ [{ op := (1 : Int), a := Prod.fst (numM (Prod.snd (cutL s (some (↑k : Int)) (some (IntKind.wrap .i64 ((↑k : Int) + (1 : Int))))))), name := [] }])])))))))) (.need ((0 : Int) ≤ (↑k : Int) ∧ (↑k : Int) ≤ (↑m : Int) ∧ (↑m : Int) ≤ (↑(List.length s) : Int)) (.need (List.length (Prod.snd (cutL s (some (↑k : Int)) (some (↑m : Int)))) ≤ 281474976710656) (.need (decide ((↑m : Int) < strLen s) = true → (0 : Int) ≤ (↑m : Int) ∧ (↑m : Int) < strLen s) (.ite (decide ((↑m : Int) < strLen s) && (↑(UInt8.toNat (List.getD s m (0 : UInt8))) : Int) == (105 : Int)) (.ite (Prod.snd (numM (Prod.snd (cutL s (some (↑k : Int)) (some (↑m : Int))))) != (0 : Int) || decide (wantsM (2 : Int) (Prod.fst (numM (Prod.snd (cutL s (some (↑k : Int)) (some (↑m : Int)))))) [] < (0 : Int))) (.ret (.tup []) [.cells [.pd (.str s), .i (↑k : Int), .own 1, .i (if bad < (0 : Int) then (↑k : Int) else bad)] 119, .own 88 .cell out]) (.ite true (.need (room (List.length out + 1) 32) (.ret (.tup []) [.cells [.pd (.str s), .i (IntKind.wrap .i64 ((↑m : Int) + (1 : Int))), .own 2, .i bad] 119, .dead, .own 88 .cell (out ++ [{ op := (2 : Int), a := Prod.fst (numM (Prod.snd (cutL s (some (↑k : Int)) (some (↑m : Int))))), name := [] }])])) (.need (room (List.length out + 1) 32) (.ret (.tup []) [.cells [.pd (.str s), .i (↑m : Int), .own 2, .i bad] 119, .dead, .own 88 .cell (out ++ [{ op := (2 : Int), a := Prod.fst (numM (Prod.snd (cutL s (some (↑k : Int)) (some (↑m : Int))))), name := [] }])])))) (.ite (Prod.snd (numM (Prod.snd (cutL s (some (↑k : Int)) (some (↑m : Int))))) != (0 : Int) || decide (wantsM (1 : Int) (Prod.fst (numM (Prod.snd (cutL s (some (↑k : Int)) (some (↑m : Int)))))) [] < (0 : Int))) (.ret (.tup []) [.cells [.pd (.str s), .i (↑k : Int), .own 1, .i (if bad < (0 : Int) then (↑k : Int) else bad)] 119, .own 88 .cell out]) (.ite false (.need (room (List.length out + 1) 32) (.ret (.tup []) [.cells [.pd (.str s), .i (IntKind.wrap .i64 ((↑m : Int) + (1 : Int))), .own 2, .i bad] 119, .dead, .own 88 .cell (out ++ [{ op := (1 : Int), a := Prod.fst (numM (Prod.snd (cutL s (some (↑k : Int)) (some (↑m : Int))))), name := [] }])])) (.need (room (List.length out + 1) 32) (.ret (.tup []) [.cells [.pd (.str s), .i (↑m : Int), .own 2, .i bad] 119, .dead, .own 88 .cell (out ++ [{ op := (1 : Int), a := Prod.fst (numM (Prod.snd (cutL s (some (↑k : Int)) (some (↑m : Int))))), name := [] }])])))))))))))))) (by kernel_rfl) ?_
    have hL : strLen s = (s.length : Int) := rfl
    have inb : decide ((m : Int) < strLen s) = true → 0 ≤ (m : Int) ∧ (m : Int) < strLen s := fun h => ⟨by omega, of_decide_eq_true h⟩
    have hcm := seg_len (s := s) hkm hm
    have hnb := numEnd_bounds (s := s) (k := (k : Int)) (by omega) (by omega) hd
    refine ⟨inb, fun h => inb (by simp only [Bool.and_eq_true] at h; exact h.1), fun h => ?_, fun h => ⟨⟨by omega, by omega⟩, fun h48 => ?_, fun h48 => ?_⟩⟩
    · have h' : (decide ((m : Int) < strLen s) && isD (s.getD m 0)) = true := by simpa only [isD, Bool.and_assoc] using h
      simp only [Bool.and_eq_true, decide_eq_true_eq] at h'
      have hlt : m < s.length := by omega
      first
      | (exfalso; omega)
      | (rw [wrapK (by omega)]
         exact ih (m + 1) (by omega) (by omega) (by omega) (by rw [hseg, take_on hkm hlt h'.2]))
    · have e1 : IntKind.wrap .i64 ((k : Int) + 1) = numEnd s (k : Int) := by
        have h48' : byteAt s (k : Int) = 48 := eq_of_beq h48
        rw [wrapI (by omega) (by omega), numEnd, if_pos h48']
      have hnb0 : (k : Int) ≤ numEnd s (k : Int) := by omega
      rw [e1]
      have hcl : (numText s (k : Int)).length ≤ 281474976710656 := by
        unfold numText; rw [List.length_drop, List.length_take]; omega
      refine ⟨⟨by omega, hnb0, hnb.2⟩, hcl, fun h => ⟨by omega, of_decide_eq_true h⟩, fun hi => ?_, fun hi => ?_⟩
      · have hi' : numImag s (k : Int) = true := by first | exact hi | (rw [numImag, byteAt, show (numEnd s (k : Int)).toNat = m by omega]; exact hi)
        have hc : numC s (k : Int) = ⟨2, (numM (numText s (k : Int))).1, []⟩ := by rw [numC, if_pos hi']
        refine ⟨fun hb => ?_, fun hb => ⟨fun _ => ⟨ho, ?_⟩, fun h => Bool.noConfusion h⟩⟩
        · exact RdQ.one (by rw [num_wrong (by rw [hc]; exact hb)]; rfl)
        · exact RdQ.two (by rw [num_right (by rw [hc]; exact hb), if_pos hi', hc, wrapI (by omega) (by omega)]; rfl)
      · have hi' : ¬ numImag s (k : Int) = true := by
          have : numImag s (k : Int) = false := by first | exact hi | (rw [numImag, byteAt, show (numEnd s (k : Int)).toNat = m by omega]; exact hi)
          rw [this]; simp
        have hc : numC s (k : Int) = ⟨1, (numM (numText s (k : Int))).1, []⟩ := by rw [numC, if_neg hi']
        refine ⟨fun hb => ?_, fun hb => ⟨fun h => Bool.noConfusion h, fun _ => ⟨ho, ?_⟩⟩⟩
        · exact RdQ.one (by rw [num_wrong (by rw [hc]; exact hb)]; rfl)
        · exact RdQ.two (by rw [num_right (by rw [hc]; exact hb), if_neg hi', hc]; rfl)
    · have e1 : (m : Int) = numEnd s (k : Int) := by
        have e : (s.drop m).takeWhile isD = [] := take_end fun hlt => by
          have h' : (decide ((m : Int) < strLen s) && isD (s.getD m 0)) = false := by rw [← h]; simp only [isD, Bool.and_assoc]
          rw [decide_eq_true (by omega), Bool.true_and] at h'; exact h'
        have h48' : ¬ byteAt s (k : Int) = 48 := ne_of_beq_false h48
        rw [numEnd, if_neg h48']
        show (m : Int) = (k : Int) + strLen ((s.drop k).takeWhile isD)
        rw [hseg, e, List.append_nil]
        show (m : Int) = (k : Int) + ((seg s k m).length : Int)
        omega
      have hnb0 : (k : Int) ≤ numEnd s (k : Int) := by omega
      rw [e1]
      have hcl : (numText s (k : Int)).length ≤ 281474976710656 := by
        unfold numText; rw [List.length_drop, List.length_take]; omega
      refine ⟨⟨by omega, hnb0, hnb.2⟩, hcl, fun h => ⟨by omega, of_decide_eq_true h⟩, fun hi => ?_, fun hi => ?_⟩
      · have hi' : numImag s (k : Int) = true := by first | exact hi | (rw [numImag, byteAt, show (numEnd s (k : Int)).toNat = m by omega]; exact hi)
        have hc : numC s (k : Int) = ⟨2, (numM (numText s (k : Int))).1, []⟩ := by rw [numC, if_pos hi']
        refine ⟨fun hb => ?_, fun hb => ⟨fun _ => ⟨ho, ?_⟩, fun h => Bool.noConfusion h⟩⟩
        · exact RdQ.one (by rw [num_wrong (by rw [hc]; exact hb)]; rfl)
        · exact RdQ.two (by rw [num_right (by rw [hc]; exact hb), if_pos hi', hc, wrapI (by omega) (by omega)]; rfl)
      · have hi' : ¬ numImag s (k : Int) = true := by
          have : numImag s (k : Int) = false := by first | exact hi | (rw [numImag, byteAt, show (numEnd s (k : Int)).toNat = m by omega]; exact hi)
          rw [this]; simp
        have hc : numC s (k : Int) = ⟨1, (numM (numText s (k : Int))).1, []⟩ := by rw [numC, if_neg hi']
        refine ⟨fun hb => ?_, fun hb => ⟨fun h => Bool.noConfusion h, fun _ => ⟨ho, ?_⟩⟩⟩
        · exact RdQ.one (by rw [num_wrong (by rw [hc]; exact hb)]; rfl)
        · exact RdQ.two (by rw [num_right (by rw [hc]; exact hb), if_neg hi', hc]; rfl)
theorem rnum_spec (s : Str) (pos bad : Int) (out : List Cell) (hs : s.length ≤ 1048576) (ho : room (out.length + 1) 32) (h0 : 0 ≤ pos) (h1 : pos < strLen s) (hd : isD (s.getD pos.toNat 0) = true) : Does Tryz.prog 152 [.c (.loc 0 0)] [.cells [.pd (.str s), .pd (.int .i64 pos), .own 1, .pd (.int .i64 bad)] 119, .own 88 .cell out] (.tup []) (rd2 s (numberR s ⟨pos, out, bad⟩)) := by
  obtain ⟨k, rfl⟩ := Int.eq_ofNat_of_zero_le h0
  have hL : strLen s = (s.length : Int) := rfl
  refine Does.rd Tryz.func152 (by kernel_rfl) (by kernel_rfl) rfl fun Γ => ?_
  refine J.go (cfg := cfgNum) cfgNum_ok Tryz.func152 1000 (t := (.stop [.code [1, 0, 0, 0], .inLoop [1, 0, 0, 0], .inBlock 0, .code [1, 1]] { n := 115, fr := [(0, .x (.c (.loc 0 0))), (2, .i (↑k : Int))], ck := [.cells [.pd (.str s), .i (↑k : Int), .own 1, .i bad] 119, .own 88 .cell out], m := 2 })) (by kernel_rfl) ?_
  exact rnum_loop s bad k out Γ hs ho (by omega) hd s.length k (by omega) (by omega) (Nat.le_refl _) (by rw [seg_self]; rfl)
def eRnum : Nat × (List SX → List Chunk → Option (Option Prop × SV × List Chunk)) := (152, fun
  | [.c (.loc 0 0)], [.cells [.pd (.str s), .pd (.int .i64 pos), .own 1, .pd (.int .i64 bad)] 119, .own 88 .cell out] => some (some (s.length ≤ 1048576 ∧ room (out.length + 1) 32 ∧ 0 ≤ pos ∧ pos < strLen s ∧ isD (s.getD pos.toNat 0) = true), .tup [], [.cells [.pd (.str s), .pd (.int .i64 (numberR s ⟨pos, out, bad⟩).pos), .own 2, .pd (.int .i64 (numberR s ⟨pos, out, bad⟩).bad)] 119, .dead, .own 88 .cell (numberR s ⟨pos, out, bad⟩).out])
  | _, _ => none)
theorem eRnum_ok (vs : List SX) (ck : List Chunk) (p : Option Prop) (ret : SV) (ck' : List Chunk) (h : eRnum.2 vs ck = some (p, ret, ck')) (hp : Holds p) : Does Tryz.prog eRnum.1 vs ck ret ck' := by
  unfold eRnum at h
  simp only at h
  split at h
  · rename_i s pos bad out
    simp only [Option.some.injEq, Prod.mk.injEq] at h
    obtain ⟨rfl, rfl, rfl⟩ := h
    exact rnum_spec s pos bad out hp.1 hp.2.1 hp.2.2.1 hp.2.2.2.1 hp.2.2.2.2
  · simp at h
end Go.Proofs.YtjndellhebidoaaGreatDoor

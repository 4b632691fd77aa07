/- Contracts of the document's reader of expressions: its small steps. Conditions: places within the text. -/
import Derived.Test.YtjndellhebidoaaGreatDoorMc
import Derived.Test.YtjndellhebidoaaGreatDoorMe
import Derived.Test.YtjndellhebidoaaGreatDoorPZ
namespace Go.Proofs.YtjndellhebidoaaGreatDoor
open Go Go.Ev
set_option maxRecDepth 100000
abbrev mkA (s : Str) (pos : Int) (out : List Cell) (wt : List Wait) : List Chunk := [Chunk.cells [SC.pd (PD.str s), SC.i pos, SC.own 1, SC.own 2] 125, Chunk.own 88 ETy.cell out, Chunk.own 155 ETy.wait wt]
abbrev mkB (s : Str) (pos : Int) (out : List Cell) (wt : List Wait) : List Chunk := [Chunk.cells [SC.pd (PD.str s), SC.i (pos), SC.own 3, SC.own 4] 125, Chunk.dead, Chunk.dead, Chunk.own 88 ETy.cell (out), Chunk.own 155 ETy.wait (wt)]
def plainI (c : Int) : Bool := (decide (c ≥ 97) && decide (c ≤ 122)) || (decide (c ≥ 48) && decide (c ≤ 57)) || c == 95
def up34 : Nat → Nat
  | 1 => 3
  | 2 => 4
  | n => n
def dn34 : Nat → Nat
  | 3 => 1
  | 4 => 2
  | n => n
theorem rnA (s : Str) (pos : Int) (out : List Cell) (wt : List Wait) : RnW up34 dn34 3 (mkA s pos out wt) (mkB s pos out wt) := by
  refine ⟨fun j x' h => ?_, fun j hj => ?_⟩
  · match j, h with
    | 0, h => right; exact ⟨_, rfl, (Option.some.inj h).symm, rfl, by simp [Chunk.refs, SC.refs, up34, dn34]⟩
    | 1, h => left; simpa using h.symm
    | 2, h => left; simpa using h.symm
    | 3, h => right; exact ⟨_, rfl, (Option.some.inj h).symm, rfl, by simp [Chunk.refs]⟩
    | 4, h => right; exact ⟨_, rfl, (Option.some.inj h).symm, rfl, by simp [Chunk.refs]⟩
    | j + 5, h => simp at h
  · match j, hj with
    | 0, _ => rfl
    | 1, _ => rfl
    | 2, _ => rfl
/-- What a method of the document's reader leaves, under whatever numbers. -/
def McQ (s : Str) (ret : SV) (pos : Int) (out : List Cell) (wt : List Wait) : Out := fun v c => v = ret ∧ Rn 3 c (mkB s pos out wt)
theorem McQ.a {s : Str} {ret : SV} {pos : Int} {out : List Cell} {wt : List Wait} {c : List Chunk} (h : c = mkA s pos out wt) : McQ s ret pos out wt ret c := ⟨rfl, by rw [h]; exact ⟨_, _, rnA s pos out wt⟩⟩
theorem McQ.b {s : Str} {ret : SV} {pos : Int} {out : List Cell} {wt : List Wait} {c : List Chunk} (h : c = mkB s pos out wt) : McQ s ret pos out wt ret c := ⟨rfl, by rw [h]; exact Rn.refl 3 _⟩
theorem Does.mc {f : FuncId} {fn : Func} {args : List SX} {ck : List Chunk} {s : Str} {ret : SV} {pos : Int} {out : List Cell} {wt : List Wait} (hf : Tryz.prog.funcs[f]? = some fn) (hb : fn.body.isSome = true) (hn : Nat.ble args.length fn.ntmps = true) (hl : ck.length = 3) (hr : flatV ret = true)
    (h : ∀ Γ, J Tryz.prog f (bodyOf fn) Γ (McQ s ret pos out wt) [.code []] (initST fn.ntmps args ck)) : Does Tryz.prog f args ck ret (mkB s pos out wt) :=
  Does.renum hf hb hn hr fun Γ => J.mono (fun v c q => ⟨q.1, by rw [hl]; exact q.2⟩) (h Γ)
theorem plain_spec (c : Int) : Does Tryz.prog 137 [.c (.pd (.int .u8 c))] [] (.x (.b (plainI c))) [] := by
  refine Does.go (cfg := cfg0) cfg0_ok Tryz.func137 (by kernel_rfl) (by kernel_rfl) (t := (.ret (.p (.bool (decide (c ≥ (97 : Int)) && decide (c ≤ (122 : Int)) || decide (c ≥ (48 : Int)) && decide (c ≤ (57 : Int)) || c == (95 : Int)))) [])) (by kernel_rfl) fun Γ => ?_
  exact ⟨rfl, rfl⟩
def ePlain : Nat × (List SX → List Chunk → Option (Option Prop × SV × List Chunk)) := (137, fun
  | [.c (.pd (.int .u8 c))], [] => some (none, .x (.c (.pd (.bool (plainI c)))), [])
  | _, _ => none)
theorem ePlain_ok (vs : List SX) (ck : List Chunk) (p : Option Prop) (ret : SV) (ck' : List Chunk) (h : ePlain.2 vs ck = some (p, ret, ck')) (hp : Holds p) : Does Tryz.prog ePlain.1 vs ck ret ck' := by
  unfold ePlain at h
  simp only at h
  split at h
  · rename_i c
    simp only [Option.some.injEq, Prod.mk.injEq] at h
    obtain ⟨rfl, rfl, rfl⟩ := h
    exact plain_spec c
  · simp at h
def cfgRw : Cfg := ⟨tys0, [ePlain]⟩
theorem cfgRw_ok : TabOk Tryz.prog cfgRw.tab := (TabOk.cons ePlain_ok TabOk.nil)

theorem xword_loop (s : Str) (pos : Int) (k : Nat) (out : List Cell) (wt : List Wait) (Γ : Ctx) (hs : s.length ≤ 1048576) : ∀ (n m : Nat), s.length - m ≤ n → m ≤ s.length → k ≤ m →
    J Tryz.prog 115 (bodyOf Tryz.f115) Γ (Eq2 (.x (.s (seg s k m ++ (s.drop m).takeWhile wordB))) [Chunk.cells [SC.pd (PD.str s), SC.i pos, SC.own 1, SC.own 2] 125, Chunk.own 88 ETy.cell out, Chunk.own 155 ETy.wait wt]) [.code [1, 1, 0, 0, 0], .inLoop [1, 1, 0, 0, 0], .inBlock 0, .code [1, 1, 1]] ({ n := 32, fr := [(0, .x (.c (.loc 0 0))), (1, .i ((k : Int))), (4, .p (.str [])), (5, .i ((m : Int)))], ck := [.cells [.pd (.str s), .i pos, .own 1, .own 2] 125, .own 88 .cell out, .own 155 .wait wt], m := 3 }) := by
  intro n
  induction n with
  | zero => ?_
  | succ n ih => ?_
  all_goals
    intro m hn hm hk
    refine J.go (cfg := cfgRw) cfgRw_ok Tryz.func115 1000 (t := (.need (decide ((↑m : Int) < strLen s) = true → (0 : Int) ≤ (↑m : Int) ∧ (↑m : Int) < strLen s) (.ite (decide ((↑m : Int) < strLen s) && plainI (↑(UInt8.toNat (List.getD s m (0 : UInt8))) : Int)) (.stop [.code [1, 1, 0, 0, 0], .inLoop [1, 1, 0, 0, 0], .inBlock 0, .code [1, 1, 1]] { n := 32, fr := [(0, .x (.c (.loc 0 0))), (1, .i (↑k : Int)), (4, .p (.str [])), (5, .i (IntKind.wrap .i64 ((↑m : Int) + (1 : Int))))], ck := [.cells [.pd (.str s), .i pos, .own 1, .own 2] 125, .own 88 .cell out, .own 155 .wait wt], m := 3 }) (.need ((0 : Int) ≤ (↑k : Int) ∧ (↑k : Int) ≤ (↑m : Int) ∧ (↑m : Int) ≤ (↑(List.length s) : Int)) (.ret (.p (.str (Prod.snd (cutL s (some (↑k : Int)) (some (↑m : Int)))))) [.cells [.pd (.str s), .i pos, .own 1, .own 2] 125, .own 88 .cell out, .own 155 .wait wt]))))) (by kernel_rfl) ?_
    have hL : strLen s = (s.length : Int) := rfl
    refine ⟨fun h => ⟨by omega, of_decide_eq_true h⟩, fun h => ?_, fun h => ⟨⟨by omega, by omega, by omega⟩, ?_, rfl⟩⟩
    · have h' : (decide ((m : Int) < strLen s) && wordB (s.getD m 0)) = true := h
      simp only [Bool.and_eq_true, decide_eq_true_eq] at h'
      have hlt : m < s.length := by omega
      first
      | (exfalso; omega)
      | (rw [wrapK (by omega), take_on hk hlt h'.2]
         exact ih (m + 1) (by omega) (by omega) (by omega))
    · have h' : (decide ((m : Int) < strLen s) && wordB (s.getD m 0)) = false := h
      have e : (s.drop m).takeWhile wordB = [] := take_end fun hlt => by
        rw [decide_eq_true (by omega), Bool.true_and] at h'; exact h'
      rw [e, List.append_nil]; rfl
theorem xword_spec (s : Str) (pos k : Int) (out : List Cell) (wt : List Wait) (hs : s.length ≤ 1048576) (h0 : 0 ≤ k) (h1 : k ≤ strLen s) : Does Tryz.prog 115 [.c (.loc 0 0), .i k] [.cells [.pd (.str s), .pd (.int .i64 pos), .own 1, .own 2] 125, .own 88 .cell out, .own 155 .wait wt] (.x (.s (wordM s k))) [.cells [.pd (.str s), .pd (.int .i64 pos), .own 1, .own 2] 125, .own 88 .cell out, .own 155 .wait wt] := by
  obtain ⟨k, rfl⟩ := Int.eq_ofNat_of_zero_le h0
  refine Does.go (cfg := cfg0) cfg0_ok Tryz.func115 (by kernel_rfl) (by kernel_rfl) (t := (.stop [.code [1, 1, 0, 0, 0], .inLoop [1, 1, 0, 0, 0], .inBlock 0, .code [1, 1, 1]] { n := 32, fr := [(0, .x (.c (.loc 0 0))), (1, .i (↑k : Int)), (4, .p (.str [])), (5, .i (↑k : Int))], ck := [.cells [.pd (.str s), .i pos, .own 1, .own 2] 125, .own 88 .cell out, .own 155 .wait wt], m := 3 })) (by kernel_rfl) fun Γ => ?_
  have hL : strLen s = (s.length : Int) := rfl
  have h := xword_loop s pos k out wt Γ hs s.length k (by omega) (by omega) (Nat.le_refl _)
  rw [seg_self] at h
  exact h
def eXword : Nat × (List SX → List Chunk → Option (Option Prop × SV × List Chunk)) := (115, fun
  | [.c (.loc 0 0), .c (.pd (.int .i64 k))], [.cells [.pd (.str s), .pd (.int .i64 pos), .own 1, .own 2] 125, .own 88 .cell out, .own 155 .wait wt] => some (some (s.length ≤ 1048576 ∧ 0 ≤ k ∧ k ≤ strLen s), .x (.c (.pd (.str (wordM s k)))), [.cells [.pd (.str s), .pd (.int .i64 pos), .own 1, .own 2] 125, .own 88 .cell out, .own 155 .wait wt])
  | _, _ => none)
theorem eXword_ok (vs : List SX) (ck : List Chunk) (p : Option Prop) (ret : SV) (ck' : List Chunk) (h : eXword.2 vs ck = some (p, ret, ck')) (hp : Holds p) : Does Tryz.prog eXword.1 vs ck ret ck' := by
  unfold eXword at h
  simp only at h
  split at h
  · rename_i k s pos out wt
    simp only [Option.some.injEq, Prod.mk.injEq] at h
    obtain ⟨rfl, rfl, rfl⟩ := h
    exact xword_spec s pos k out wt hp.1 hp.2.1 hp.2.2
  · simp at h
/-! ### signs -/
theorem xsign_spec (op : Int) (h1 : 1 ≤ op) (h2 : op ≤ 23) : Does Tryz.prog 104 [.i op] [] (.tup [.s (signM op).1, .i (signM op).2]) [] := by
  have h : op = 1 ∨ op = 2 ∨ op = 3 ∨ op = 4 ∨ op = 5 ∨ op = 6 ∨ op = 7 ∨ op = 8 ∨ op = 9 ∨ op = 10 ∨ op = 11 ∨ op = 12 ∨ op = 13 ∨ op = 14 ∨ op = 15 ∨ op = 16 ∨ op = 17 ∨ op = 18 ∨ op = 19 ∨ op = 20 ∨ op = 21 ∨ op = 22 ∨ op = 23 := by omega
  rcases h with rfl | rfl | rfl | rfl | rfl | rfl | rfl | rfl | rfl | rfl | rfl | rfl | rfl | rfl | rfl | rfl | rfl | rfl | rfl | rfl | rfl | rfl | rfl
  · exact Does.go (cfg := cfg0) cfg0_ok Tryz.func104 (by kernel_rfl) (by kernel_rfl) (t := (.need ((0 : Int) ≤ (1 : Int) ∧ (1 : Int) < (↑(24 : Nat) : Int)) (.need ((0 : Int) ≤ (1 : Int) ∧ (1 : Int) < (↑(24 : Nat) : Int)) (.ret (.tup [.p (.str []), .i (7 : Int)]) [])))) (by kernel_rfl) fun Γ => ⟨by decide, by decide, rfl, rfl⟩
  · exact Does.go (cfg := cfg0) cfg0_ok Tryz.func104 (by kernel_rfl) (by kernel_rfl) (t := (.need ((0 : Int) ≤ (2 : Int) ∧ (2 : Int) < (↑(24 : Nat) : Int)) (.need ((0 : Int) ≤ (2 : Int) ∧ (2 : Int) < (↑(24 : Nat) : Int)) (.ret (.tup [.p (.str []), .i (7 : Int)]) [])))) (by kernel_rfl) fun Γ => ⟨by decide, by decide, rfl, rfl⟩
  · exact Does.go (cfg := cfg0) cfg0_ok Tryz.func104 (by kernel_rfl) (by kernel_rfl) (t := (.need ((0 : Int) ≤ (3 : Int) ∧ (3 : Int) < (↑(24 : Nat) : Int)) (.need ((0 : Int) ≤ (3 : Int) ∧ (3 : Int) < (↑(24 : Nat) : Int)) (.ret (.tup [.p (.str []), .i (7 : Int)]) [])))) (by kernel_rfl) fun Γ => ⟨by decide, by decide, rfl, rfl⟩
  · exact Does.go (cfg := cfg0) cfg0_ok Tryz.func104 (by kernel_rfl) (by kernel_rfl) (t := (.need ((0 : Int) ≤ (4 : Int) ∧ (4 : Int) < (↑(24 : Nat) : Int)) (.need ((0 : Int) ≤ (4 : Int) ∧ (4 : Int) < (↑(24 : Nat) : Int)) (.ret (.tup [.p (.str []), .i (7 : Int)]) [])))) (by kernel_rfl) fun Γ => ⟨by decide, by decide, rfl, rfl⟩
  · exact Does.go (cfg := cfg0) cfg0_ok Tryz.func104 (by kernel_rfl) (by kernel_rfl) (t := (.need ((0 : Int) ≤ (5 : Int) ∧ (5 : Int) < (↑(24 : Nat) : Int)) (.need ((0 : Int) ≤ (5 : Int) ∧ (5 : Int) < (↑(24 : Nat) : Int)) (.ret (.tup [.p (.str []), .i (7 : Int)]) [])))) (by kernel_rfl) fun Γ => ⟨by decide, by decide, rfl, rfl⟩
  · exact Does.go (cfg := cfg0) cfg0_ok Tryz.func104 (by kernel_rfl) (by kernel_rfl) (t := (.need ((0 : Int) ≤ (6 : Int) ∧ (6 : Int) < (↑(24 : Nat) : Int)) (.need ((0 : Int) ≤ (6 : Int) ∧ (6 : Int) < (↑(24 : Nat) : Int)) (.ret (.tup [.p (.str []), .i (7 : Int)]) [])))) (by kernel_rfl) fun Γ => ⟨by decide, by decide, rfl, rfl⟩
  · exact Does.go (cfg := cfg0) cfg0_ok Tryz.func104 (by kernel_rfl) (by kernel_rfl) (t := (.need ((0 : Int) ≤ (7 : Int) ∧ (7 : Int) < (↑(24 : Nat) : Int)) (.need ((0 : Int) ≤ (7 : Int) ∧ (7 : Int) < (↑(24 : Nat) : Int)) (.ret (.tup [.p (.str [(45 : UInt8)]), .i (6 : Int)]) [])))) (by kernel_rfl) fun Γ => ⟨by decide, by decide, rfl, rfl⟩
  · exact Does.go (cfg := cfg0) cfg0_ok Tryz.func104 (by kernel_rfl) (by kernel_rfl) (t := (.need ((0 : Int) ≤ (8 : Int) ∧ (8 : Int) < (↑(24 : Nat) : Int)) (.need ((0 : Int) ≤ (8 : Int) ∧ (8 : Int) < (↑(24 : Nat) : Int)) (.ret (.tup [.p (.str [(33 : UInt8)]), .i (6 : Int)]) [])))) (by kernel_rfl) fun Γ => ⟨by decide, by decide, rfl, rfl⟩
  · exact Does.go (cfg := cfg0) cfg0_ok Tryz.func104 (by kernel_rfl) (by kernel_rfl) (t := (.need ((0 : Int) ≤ (9 : Int) ∧ (9 : Int) < (↑(24 : Nat) : Int)) (.need ((0 : Int) ≤ (9 : Int) ∧ (9 : Int) < (↑(24 : Nat) : Int)) (.ret (.tup [.p (.str []), .i (7 : Int)]) [])))) (by kernel_rfl) fun Γ => ⟨by decide, by decide, rfl, rfl⟩
  · exact Does.go (cfg := cfg0) cfg0_ok Tryz.func104 (by kernel_rfl) (by kernel_rfl) (t := (.need ((0 : Int) ≤ (10 : Int) ∧ (10 : Int) < (↑(24 : Nat) : Int)) (.need ((0 : Int) ≤ (10 : Int) ∧ (10 : Int) < (↑(24 : Nat) : Int)) (.ret (.tup [.p (.str []), .i (7 : Int)]) [])))) (by kernel_rfl) fun Γ => ⟨by decide, by decide, rfl, rfl⟩
  · exact Does.go (cfg := cfg0) cfg0_ok Tryz.func104 (by kernel_rfl) (by kernel_rfl) (t := (.need ((0 : Int) ≤ (11 : Int) ∧ (11 : Int) < (↑(24 : Nat) : Int)) (.need ((0 : Int) ≤ (11 : Int) ∧ (11 : Int) < (↑(24 : Nat) : Int)) (.ret (.tup [.p (.str [(43 : UInt8)]), .i (4 : Int)]) [])))) (by kernel_rfl) fun Γ => ⟨by decide, by decide, rfl, rfl⟩
  · exact Does.go (cfg := cfg0) cfg0_ok Tryz.func104 (by kernel_rfl) (by kernel_rfl) (t := (.need ((0 : Int) ≤ (12 : Int) ∧ (12 : Int) < (↑(24 : Nat) : Int)) (.need ((0 : Int) ≤ (12 : Int) ∧ (12 : Int) < (↑(24 : Nat) : Int)) (.ret (.tup [.p (.str [(45 : UInt8)]), .i (4 : Int)]) [])))) (by kernel_rfl) fun Γ => ⟨by decide, by decide, rfl, rfl⟩
  · exact Does.go (cfg := cfg0) cfg0_ok Tryz.func104 (by kernel_rfl) (by kernel_rfl) (t := (.need ((0 : Int) ≤ (13 : Int) ∧ (13 : Int) < (↑(24 : Nat) : Int)) (.need ((0 : Int) ≤ (13 : Int) ∧ (13 : Int) < (↑(24 : Nat) : Int)) (.ret (.tup [.p (.str [(42 : UInt8)]), .i (5 : Int)]) [])))) (by kernel_rfl) fun Γ => ⟨by decide, by decide, rfl, rfl⟩
  · exact Does.go (cfg := cfg0) cfg0_ok Tryz.func104 (by kernel_rfl) (by kernel_rfl) (t := (.need ((0 : Int) ≤ (14 : Int) ∧ (14 : Int) < (↑(24 : Nat) : Int)) (.need ((0 : Int) ≤ (14 : Int) ∧ (14 : Int) < (↑(24 : Nat) : Int)) (.ret (.tup [.p (.str [(47 : UInt8)]), .i (5 : Int)]) [])))) (by kernel_rfl) fun Γ => ⟨by decide, by decide, rfl, rfl⟩
  · exact Does.go (cfg := cfg0) cfg0_ok Tryz.func104 (by kernel_rfl) (by kernel_rfl) (t := (.need ((0 : Int) ≤ (15 : Int) ∧ (15 : Int) < (↑(24 : Nat) : Int)) (.need ((0 : Int) ≤ (15 : Int) ∧ (15 : Int) < (↑(24 : Nat) : Int)) (.ret (.tup [.p (.str [(37 : UInt8)]), .i (5 : Int)]) [])))) (by kernel_rfl) fun Γ => ⟨by decide, by decide, rfl, rfl⟩
  · exact Does.go (cfg := cfg0) cfg0_ok Tryz.func104 (by kernel_rfl) (by kernel_rfl) (t := (.need ((0 : Int) ≤ (16 : Int) ∧ (16 : Int) < (↑(24 : Nat) : Int)) (.need ((0 : Int) ≤ (16 : Int) ∧ (16 : Int) < (↑(24 : Nat) : Int)) (.ret (.tup [.p (.str [(61 : UInt8)]), .i (3 : Int)]) [])))) (by kernel_rfl) fun Γ => ⟨by decide, by decide, rfl, rfl⟩
  · exact Does.go (cfg := cfg0) cfg0_ok Tryz.func104 (by kernel_rfl) (by kernel_rfl) (t := (.need ((0 : Int) ≤ (17 : Int) ∧ (17 : Int) < (↑(24 : Nat) : Int)) (.need ((0 : Int) ≤ (17 : Int) ∧ (17 : Int) < (↑(24 : Nat) : Int)) (.ret (.tup [.p (.str [(33 : UInt8), 61]), .i (3 : Int)]) [])))) (by kernel_rfl) fun Γ => ⟨by decide, by decide, rfl, rfl⟩
  · exact Does.go (cfg := cfg0) cfg0_ok Tryz.func104 (by kernel_rfl) (by kernel_rfl) (t := (.need ((0 : Int) ≤ (18 : Int) ∧ (18 : Int) < (↑(24 : Nat) : Int)) (.need ((0 : Int) ≤ (18 : Int) ∧ (18 : Int) < (↑(24 : Nat) : Int)) (.ret (.tup [.p (.str [(60 : UInt8)]), .i (3 : Int)]) [])))) (by kernel_rfl) fun Γ => ⟨by decide, by decide, rfl, rfl⟩
  · exact Does.go (cfg := cfg0) cfg0_ok Tryz.func104 (by kernel_rfl) (by kernel_rfl) (t := (.need ((0 : Int) ≤ (19 : Int) ∧ (19 : Int) < (↑(24 : Nat) : Int)) (.need ((0 : Int) ≤ (19 : Int) ∧ (19 : Int) < (↑(24 : Nat) : Int)) (.ret (.tup [.p (.str [(60 : UInt8), 61]), .i (3 : Int)]) [])))) (by kernel_rfl) fun Γ => ⟨by decide, by decide, rfl, rfl⟩
  · exact Does.go (cfg := cfg0) cfg0_ok Tryz.func104 (by kernel_rfl) (by kernel_rfl) (t := (.need ((0 : Int) ≤ (20 : Int) ∧ (20 : Int) < (↑(24 : Nat) : Int)) (.need ((0 : Int) ≤ (20 : Int) ∧ (20 : Int) < (↑(24 : Nat) : Int)) (.ret (.tup [.p (.str [(62 : UInt8)]), .i (3 : Int)]) [])))) (by kernel_rfl) fun Γ => ⟨by decide, by decide, rfl, rfl⟩
  · exact Does.go (cfg := cfg0) cfg0_ok Tryz.func104 (by kernel_rfl) (by kernel_rfl) (t := (.need ((0 : Int) ≤ (21 : Int) ∧ (21 : Int) < (↑(24 : Nat) : Int)) (.need ((0 : Int) ≤ (21 : Int) ∧ (21 : Int) < (↑(24 : Nat) : Int)) (.ret (.tup [.p (.str [(62 : UInt8), 61]), .i (3 : Int)]) [])))) (by kernel_rfl) fun Γ => ⟨by decide, by decide, rfl, rfl⟩
  · exact Does.go (cfg := cfg0) cfg0_ok Tryz.func104 (by kernel_rfl) (by kernel_rfl) (t := (.need ((0 : Int) ≤ (22 : Int) ∧ (22 : Int) < (↑(24 : Nat) : Int)) (.need ((0 : Int) ≤ (22 : Int) ∧ (22 : Int) < (↑(24 : Nat) : Int)) (.ret (.tup [.p (.str [(38 : UInt8)]), .i (2 : Int)]) [])))) (by kernel_rfl) fun Γ => ⟨by decide, by decide, rfl, rfl⟩
  · exact Does.go (cfg := cfg0) cfg0_ok Tryz.func104 (by kernel_rfl) (by kernel_rfl) (t := (.need ((0 : Int) ≤ (23 : Int) ∧ (23 : Int) < (↑(24 : Nat) : Int)) (.need ((0 : Int) ≤ (23 : Int) ∧ (23 : Int) < (↑(24 : Nat) : Int)) (.ret (.tup [.p (.str [(124 : UInt8)]), .i (1 : Int)]) [])))) (by kernel_rfl) fun Γ => ⟨by decide, by decide, rfl, rfl⟩
def eXsign : Nat × (List SX → List Chunk → Option (Option Prop × SV × List Chunk)) := (104, fun
  | [.c (.pd (.int .i64 op))], [] => some (some (1 ≤ op ∧ op ≤ 23), .tup [.c (.pd (.str (signM op).1)), .c (.pd (.int .i64 (signM op).2))], [])
  | _, _ => none)
theorem eXsign_ok (vs : List SX) (ck : List Chunk) (p : Option Prop) (ret : SV) (ck' : List Chunk) (h : eXsign.2 vs ck = some (p, ret, ck')) (hp : Holds p) : Does Tryz.prog eXsign.1 vs ck ret ck' := by
  unfold eXsign at h
  simp only at h
  split at h
  · rename_i op
    simp only [Option.some.injEq, Prod.mk.injEq] at h
    obtain ⟨rfl, rfl, rfl⟩ := h
    exact xsign_spec op hp.1 hp.2
  · simp at h
/-! ### what waits -/

theorem xcomp_loop (s : Str) (pos : Int) (out : List Cell) (wt : List Wait) (Γ : Ctx) (hl : wt.length ≤ 1048576) : ∀ j : Nat, j ≤ wt.length → ∀ k : Int, k = (j : Int) - 1 →
    J Tryz.prog 118 (bodyOf Tryz.f118) Γ (Eq2 (.x (.b (compared (wt.take j).reverse))) [Chunk.cells [SC.pd (PD.str s), SC.i pos, SC.own 1, SC.own 2] 125, Chunk.own 88 ETy.cell out, Chunk.own 155 ETy.wait wt]) [.code [1, 0, 1, 0, 0], .inLoop [1, 0, 1, 0, 0], .inBlock 0, .code [1, 1]] ({ n := 34, fr := [(0, .x (.c (.loc 0 0))), (2, .p (.bool false)), (3, .i (k))], ck := [.cells [.pd (.str s), .i pos, .own 1, .own 2] 125, .own 88 .cell out, .own 155 .wait wt], kn := [2], m := 3 }) := by
  intro j
  induction j with
  | zero => ?_
  | succ j ih => ?_
  all_goals
    intro hj k hk
    refine J.go (cfg := cfg0) cfg0_ok Tryz.func118 1000 (t := (.need (decide (k ≥ (0 : Int)) = true → (0 : Int) ≤ k ∧ k < (↑(List.length wt) : Int)) (.need (decide (k ≥ (0 : Int)) = true → Int.toNat k < List.length wt) (.ite (decide (k ≥ (0 : Int)) && decide (Wait.power (ETy.get .wait wt (Int.toNat k)) > (0 : Int))) (.need ((0 : Int) ≤ k ∧ k < (↑(List.length wt) : Int)) (.need (Int.toNat k < List.length wt) (.ite (Wait.power (ETy.get .wait wt (Int.toNat k)) == (3 : Int)) (.ret (.p (.bool true)) [.cells [.pd (.str s), .i pos, .own 1, .own 2] 125, .own 88 .cell out, .own 155 .wait wt]) (.stop [.code [1, 0, 1, 0, 0], .inLoop [1, 0, 1, 0, 0], .inBlock 0, .code [1, 1]] { n := 34, fr := [(0, .x (.c (.loc 0 0))), (2, .p (.bool false)), (3, .i (IntKind.wrap .i64 (k - (1 : Int))))], ck := [.cells [.pd (.str s), .i pos, .own 1, .own 2] 125, .own 88 .cell out, .own 155 .wait wt], kn := [2], m := 3 })))) (.ret (.p (.bool false)) [.cells [.pd (.str s), .i pos, .own 1, .own 2] 125, .own 88 .cell out, .own 155 .wait wt]))))) (by kernel_rfl) ?_
  · refine ⟨fun h => ?_, fun h => ?_, fun h => ?_, fun _ => ⟨rfl, rfl⟩⟩
    · have := of_decide_eq_true h; omega
    · have := of_decide_eq_true h; omega
    · simp only [Bool.and_eq_true, decide_eq_true_eq] at h; omega
  · have hlt : j < wt.length := by omega
    have e0 : k.toNat = j := by omega
    rw [e0]
    have et : (wt.take (j + 1)).reverse = ETy.get .wait wt j :: (wt.take j).reverse := by
      rw [List.take_succ_eq_append_getElem hlt, List.reverse_append, ETy.get_eq (t := .wait) (List.getElem?_eq_getElem hlt)]; rfl
    rw [et]
    generalize ETy.get .wait wt j = w
    refine ⟨fun _ => ⟨by omega, by omega⟩, fun _ => hlt, fun h => ⟨⟨by omega, by omega⟩, hlt, fun h2 => ?_, fun h2 => ?_⟩, fun h => ?_⟩
    · simp only [Bool.and_eq_true, decide_eq_true_eq] at h
      have e : compared (w :: (wt.take j).reverse) = true := by simp [compared, h.2, show (w.power == 3) = true from h2]
      rw [e]; exact ⟨rfl, rfl⟩
    · simp only [Bool.and_eq_true, decide_eq_true_eq] at h
      have e : compared (w :: (wt.take j).reverse) = compared (wt.take j).reverse := by simp [compared, h.2, show (w.power == 3) = false from h2]
      rw [e, wrapI (by omega) (by omega)]
      exact J.kn [2] (ih (by omega) (k - 1) (by omega))
    · have hw : ¬ w.power > 0 := by
        intro hw
        rw [decide_eq_true (show k ≥ 0 by omega), decide_eq_true hw] at h; cases h
      have e : compared (w :: (wt.take j).reverse) = false := by simp [compared, hw]
      rw [e]; exact ⟨rfl, rfl⟩
theorem xcomp_spec (s : Str) (pos : Int) (out : List Cell) (wt : List Wait) (hl : wt.length ≤ 1048576) : Does Tryz.prog 118 [.c (.loc 0 0)] [.cells [.pd (.str s), .pd (.int .i64 pos), .own 1, .own 2] 125, .own 88 .cell out, .own 155 .wait wt] (.x (.b (compared wt.reverse))) [.cells [.pd (.str s), .pd (.int .i64 pos), .own 1, .own 2] 125, .own 88 .cell out, .own 155 .wait wt] := by
  refine Does.go (cfg := cfg0) cfg0_ok Tryz.func118 (by kernel_rfl) (by kernel_rfl) (t := (.stop [.code [1, 0, 1, 0, 0], .inLoop [1, 0, 1, 0, 0], .inBlock 0, .code [1, 1]] { n := 34, fr := [(0, .x (.c (.loc 0 0))), (2, .p (.bool false)), (3, .i (IntKind.wrap .i64 ((↑(List.length wt) : Int) - (1 : Int))))], ck := [.cells [.pd (.str s), .i pos, .own 1, .own 2] 125, .own 88 .cell out, .own 155 .wait wt], kn := [2], m := 3 })) (by kernel_rfl) fun Γ => ?_
  have h := xcomp_loop s pos out wt Γ hl wt.length (Nat.le_refl _) _ (wrapI (n := (wt.length : Int) - 1) (by omega) (by omega))
  rw [List.take_length] at h
  exact h
def eXcomp : Nat × (List SX → List Chunk → Option (Option Prop × SV × List Chunk)) := (118, fun
  | [.c (.loc 0 0)], [.cells [.pd (.str s), .pd (.int .i64 pos), .own 1, .own 2] 125, .own 88 .cell out, .own 155 .wait wt] => some (some (wt.length ≤ 1048576), .x (.c (.pd (.bool (compared wt.reverse)))), [.cells [.pd (.str s), .pd (.int .i64 pos), .own 1, .own 2] 125, .own 88 .cell out, .own 155 .wait wt])
  | _, _ => none)
theorem eXcomp_ok (vs : List SX) (ck : List Chunk) (p : Option Prop) (ret : SV) (ck' : List Chunk) (h : eXcomp.2 vs ck = some (p, ret, ck')) (hp : Holds p) : Does Tryz.prog eXcomp.1 vs ck ret ck' := by
  unfold eXcomp at h
  simp only at h
  split at h
  · rename_i s pos out wt
    simp only [Option.some.injEq, Prod.mk.injEq] at h
    obtain ⟨rfl, rfl, rfl⟩ := h
    exact xcomp_spec s pos out wt hp
  · simp at h

theorem xflush_loop (s : Str) (pos least : Int) (Γ : Ctx) : ∀ (l : List Wait) (out : List Cell), out.length + l.length ≤ 3000000 →
    J Tryz.prog 117 (bodyOf Tryz.f117) Γ (McQ s (.tup []) pos (out ++ cellsOf (flushL least l)) (restL least l).reverse) [.code [0, 0], .inLoop [0, 0], .inBlock 0] ({ n := 64, fr := [(0, .x (.c (.loc 0 0))), (1, .i (least))], ck := [.cells [.pd (.str s), SC.i pos, .own 3, .own 4] 125, .dead, .dead, .own 88 .cell out, .own 155 .wait l.reverse], m := 3 }) := by
  intro l
  induction l with
  | nil =>
    intro out ho
    refine J.go (cfg := cfg0) cfg0_ok Tryz.func117 1000 (t := (.need (Prod.snd (Prod.snd (Prod.snd (6, 10, true, onBy true (decide ((↑(0 : Nat) : Int) > (0 : Int))) none))) → (0 : Int) ≤ IntKind.wrap .i64 ((↑(0 : Nat) : Int) - (1 : Int)) ∧ IntKind.wrap .i64 ((↑(0 : Nat) : Int) - (1 : Int)) < (↑(0 : Nat) : Int)) (.need (Prod.snd (Prod.snd (Prod.snd (6, 10, true, onBy true (decide ((↑(0 : Nat) : Int) > (0 : Int))) none))) → 0 < 0) (.ite false (.need ((0 : Int) ≤ IntKind.wrap .i64 ((↑(0 : Nat) : Int) - (1 : Int)) ∧ IntKind.wrap .i64 ((↑(0 : Nat) : Int) - (1 : Int)) < (↑(0 : Nat) : Int)) (.need (0 < 0) (.need (room (List.length (out ++ [{ op := Wait.op (ETy.get .wait [] 0), a := (0 : Int), name := [] }])) 32) (.need ((0 : Int) ≤ IntKind.wrap .i64 ((↑(0 : Nat) : Int) - (1 : Int)) ∧ IntKind.wrap .i64 ((↑(0 : Nat) : Int) - (1 : Int)) ≤ (↑(0 : Nat) : Int)) (.stop [.code [0, 0], .inLoop [0, 0], .inBlock 0] { n := 64, fr := [(0, .x (.c (.loc 0 0))), (1, .i least)], ck := [.cells [.pd (.str s), .i pos, .own 3, .own 4] 125, .dead, .dead, .own 88 .cell (out ++ [{ op := Wait.op (ETy.get .wait [] 0), a := (0 : Int), name := [] }]), .own 155 .wait []], m := 3 }))))) (.ret (.tup []) [.cells [.pd (.str s), .i pos, .own 3, .own 4] 125, .dead, .dead, .own 88 .cell out, .own 155 .wait []]))))) (by kernel_rfl) ?_
    refine ⟨fun h => ?_, fun h => ?_, fun h => ?_, fun _ => McQ.b ?_⟩
    · simp [onBy] at h
    · simp [onBy] at h
    · simp at h
    · simp [flushL, restL, cellsOf]
  | cons w r ih =>
    intro out ho
    have hrl : (r.reverse ++ [w]).length = r.length + 1 := by simp
    have hw : IntKind.wrap .i64 (((r.reverse ++ [w]).length : Int) - 1) = (r.length : Int) := by
      simp only [List.length_cons] at ho
      rw [hrl, wrapI (by omega) (by omega)]; omega
    have hg : ETy.get .wait (r.reverse ++ [w]) (Int.toNat (r.length : Int)) = w := by
      refine ETy.get_eq (t := .wait) ?_
      rw [Int.toNat_natCast, List.getElem?_append_right (by simp)]; simp
    have ht : (r.reverse ++ [w]).take (Int.toNat (r.length : Int)) = r.reverse := by
      rw [Int.toNat_natCast, List.take_append_of_le_length (by simp), List.take_of_length_le (by simp)]
    rw [List.reverse_cons]
    refine J.go (cfg := cfg0) cfg0_ok Tryz.func117 1000 (t := (.need (Prod.snd (Prod.snd (Prod.snd (6, 10, true, onBy true (decide ((↑(List.length (List.reverse r ++ [w])) : Int) > (0 : Int))) none))) → (0 : Int) ≤ IntKind.wrap .i64 ((↑(List.length (List.reverse r ++ [w])) : Int) - (1 : Int)) ∧ IntKind.wrap .i64 ((↑(List.length (List.reverse r ++ [w])) : Int) - (1 : Int)) < (↑(List.length (List.reverse r ++ [w])) : Int)) (.need (Prod.snd (Prod.snd (Prod.snd (6, 10, true, onBy true (decide ((↑(List.length (List.reverse r ++ [w])) : Int) > (0 : Int))) none))) → Int.toNat (IntKind.wrap .i64 ((↑(List.length (List.reverse r ++ [w])) : Int) - (1 : Int))) < List.length (List.reverse r ++ [w])) (.ite (decide ((↑(List.length (List.reverse r ++ [w])) : Int) > (0 : Int)) && decide (Wait.power (ETy.get .wait (List.reverse r ++ [w]) (Int.toNat (IntKind.wrap .i64 ((↑(List.length (List.reverse r ++ [w])) : Int) - (1 : Int))))) ≥ least)) (.need ((0 : Int) ≤ IntKind.wrap .i64 ((↑(List.length (List.reverse r ++ [w])) : Int) - (1 : Int)) ∧ IntKind.wrap .i64 ((↑(List.length (List.reverse r ++ [w])) : Int) - (1 : Int)) < (↑(List.length (List.reverse r ++ [w])) : Int)) (.need (Int.toNat (IntKind.wrap .i64 ((↑(List.length (List.reverse r ++ [w])) : Int) - (1 : Int))) < List.length (List.reverse r ++ [w])) (.need (room (List.length (out ++ [{ op := Wait.op (ETy.get .wait (List.reverse r ++ [w]) (Int.toNat (IntKind.wrap .i64 ((↑(List.length (List.reverse r ++ [w])) : Int) - (1 : Int))))), a := (0 : Int), name := [] }])) 32) (.need ((0 : Int) ≤ IntKind.wrap .i64 ((↑(List.length (List.reverse r ++ [w])) : Int) - (1 : Int)) ∧ IntKind.wrap .i64 ((↑(List.length (List.reverse r ++ [w])) : Int) - (1 : Int)) ≤ (↑(List.length (List.reverse r ++ [w])) : Int)) (.stop [.code [0, 0], .inLoop [0, 0], .inBlock 0] { n := 64, fr := [(0, .x (.c (.loc 0 0))), (1, .i least)], ck := [.cells [.pd (.str s), .i pos, .own 3, .own 4] 125, .dead, .dead, .own 88 .cell (out ++ [{ op := Wait.op (ETy.get .wait (List.reverse r ++ [w]) (Int.toNat (IntKind.wrap .i64 ((↑(List.length (List.reverse r ++ [w])) : Int) - (1 : Int))))), a := (0 : Int), name := [] }]), .own 155 .wait (List.take (Int.toNat (IntKind.wrap .i64 ((↑(List.length (List.reverse r ++ [w])) : Int) - (1 : Int)))) (List.reverse r ++ [w]))], m := 3 }))))) (.ret (.tup []) [.cells [.pd (.str s), .i pos, .own 3, .own 4] 125, .dead, .dead, .own 88 .cell out, .own 155 .wait (List.reverse r ++ [w])]))))) (by kernel_rfl) ?_
    rw [hw, hg, ht]
    have hb : (0 : Int) ≤ (r.length : Int) ∧ (r.length : Int) < ((r.reverse ++ [w]).length : Int) := by rw [hrl]; omega
    have hb2 : Int.toNat (r.length : Int) < (r.reverse ++ [w]).length := by rw [hrl]; omega
    simp only [List.length_cons] at ho
    refine ⟨fun _ => hb, fun _ => hb2, fun h => ⟨hb, hb2, room_cell (by rw [List.length_append]; simp only [List.length_cons, List.length_nil]; omega), ⟨hb.1, Int.le_of_lt hb.2⟩, ?_⟩, fun h => McQ.b ?_⟩
    · simp only [Bool.and_eq_true, decide_eq_true_eq] at h
      have e1 : flushL least (w :: r) = w :: flushL least r := by simp [flushL, h.2]
      have e2 : restL least (w :: r) = restL least r := by simp [restL, h.2]
      rw [e1, e2]
      have e3 : out ++ cellsOf (w :: flushL least r) = (out ++ [⟨w.op, 0, []⟩]) ++ cellsOf (flushL least r) := by simp [cellsOf]
      rw [e3]
      exact ih (out ++ [⟨w.op, 0, []⟩]) (by rw [List.length_append]; simp only [List.length_cons, List.length_nil]; omega)
    · have hw2 : ¬ w.power ≥ least := by
        intro hh
        rw [decide_eq_true (show ((r.reverse ++ [w]).length : Int) > 0 by rw [hrl]; omega), decide_eq_true hh] at h; cases h
      have e1 : flushL least (w :: r) = [] := by simp [flushL, hw2]
      have e2 : restL least (w :: r) = w :: r := by simp [restL, hw2]
      rw [e1, e2, List.reverse_cons]; simp [cellsOf]
theorem xflush_spec (s : Str) (pos least : Int) (out : List Cell) (wt : List Wait) (ho : out.length + wt.length ≤ 3000000) : Does Tryz.prog 117 [.c (.loc 0 0), .i least] [.cells [.pd (.str s), .pd (.int .i64 pos), .own 1, .own 2] 125, .own 88 .cell out, .own 155 .wait wt] (.tup []) (mkB s pos (out ++ cellsOf (flushL least wt.reverse)) (restL least wt.reverse).reverse) := by
  refine Does.mc Tryz.func117 (by kernel_rfl) (by kernel_rfl) rfl rfl fun Γ => ?_
  refine J.go (cfg := cfg0) cfg0_ok Tryz.func117 1000 (t := (.stop [.code [0, 0], .inLoop [0, 0], .inBlock 0] { n := 64, fr := [(0, .x (.c (.loc 0 0))), (1, .i least)], ck := [.cells [.pd (.str s), .i pos, .own 1, .own 2] 125, .own 88 .cell out, .own 155 .wait wt], m := 3 })) (by kernel_rfl) ?_
  refine J.renum up34 dn34 (rnA s pos out wt) (Nat.le_of_ble_eq_true rfl) ?_ ?_
  · intro p hp i hi
    simp only [List.mem_cons, List.not_mem_nil, or_false] at hp
    rcases hp with rfl | rfl
    · simp only [SV.refs, SX.refs, SC.refs, List.mem_singleton] at hi; subst hi; rfl
    · simp [SV.refs, SX.refs, SC.refs] at hi
  · have h := xflush_loop s pos least Γ wt.reverse out (by rw [List.length_reverse]; exact ho)
    rw [List.reverse_reverse] at h
    exact h
def eXflush : Nat × (List SX → List Chunk → Option (Option Prop × SV × List Chunk)) := (117, fun
  | [.c (.loc 0 0), .c (.pd (.int .i64 least))], [.cells [.pd (.str s), .pd (.int .i64 pos), .own 1, .own 2] 125, .own 88 .cell out, .own 155 .wait wt] => some (some (out.length + wt.length ≤ 3000000), .tup [], [.cells [.pd (.str s), .pd (.int .i64 (pos)), .own 3, .own 4] 125, .dead, .dead, .own 88 .cell (out ++ cellsOf (flushL least wt.reverse)), .own 155 .wait ((restL least wt.reverse).reverse)])
  | _, _ => none)
theorem eXflush_ok (vs : List SX) (ck : List Chunk) (p : Option Prop) (ret : SV) (ck' : List Chunk) (h : eXflush.2 vs ck = some (p, ret, ck')) (hp : Holds p) : Does Tryz.prog eXflush.1 vs ck ret ck' := by
  unfold eXflush at h
  simp only at h
  split at h
  · rename_i least s pos out wt
    simp only [Option.some.injEq, Prod.mk.injEq] at h
    obtain ⟨rfl, rfl, rfl⟩ := h
    exact xflush_spec s pos least out wt hp
  · simp at h
end Go.Proofs.YtjndellhebidoaaGreatDoor

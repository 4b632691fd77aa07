/- Contracts of the document's reader of expressions: its small steps. Conditions: places within the text. Numbers told by the document. Conditions: an int64. Trees' texts; what is told is read to the tree that it was. Conditions: none. The contract of the program's expr.Show. Conditions: none. -/
import Derived.Test.YtpfidgnkokidoaaGreatDoorNc
import Derived.Test.YtpfidgnkokidoaaGreatDoorMe
import Derived.Test.YtpfidgnkokidoaaGreatDoorVc
import Derived.Lib.ItoaMem
import Derived.Test.YtpfidgnkokidoaaGreatDoorMb
import Derived.Test.YtpfidgnkokidoaaGreatDoorNr
import Derived.Test.YtpfidgnkokidoaaGreatDoorShelff
import Derived.Test.YtpfidgnkokidoaaGreatDoorMd
namespace Go.Proofs.YtpfidgnkokidoaaGreatDoor
open Go Go.Ev
set_option maxRecDepth 100000
abbrev mkA (s : Str) (pos : Int) (out : List Cell) (wt : List Wait) : List Chunk := [Chunk.cells [SC.pd (PD.str s), SC.i pos, SC.own 1, SC.own 2] 209, Chunk.own 92 ETy.cell out, Chunk.own 238 ETy.wait wt]
abbrev mkB (s : Str) (pos : Int) (out : List Cell) (wt : List Wait) : List Chunk := [Chunk.cells [SC.pd (PD.str s), SC.i (pos), SC.own 3, SC.own 4] 209, Chunk.dead, Chunk.dead, Chunk.own 92 ETy.cell (out), Chunk.own 238 ETy.wait (wt)]
def xZ (c : Int) : Bool := (decide (c ≥ 97) && decide (c ≤ 122)) || (decide (c ≥ 48) && decide (c ≤ 57)) || c == 95
def Io : Nat → Nat
 | 1 => 3
 | 2 => 4
 | n => n
def Ja : Nat → Nat
 | 3 => 1
 | 4 => 2
 | n => n
theorem rnA (s : Str) (pos : Int) (out : List Cell) (wt : List Wait) : RnW Io Ja 3 (mkA s pos out wt) (mkB s pos out wt) := by
 refine ⟨fun j x' h => ?_, fun j hj => ?_⟩
 · match j, h with
   | 0, h => right; exact ⟨_, rfl, (Option.some.inj h).symm, rfl, by simp [Chunk.refs, SC.refs, Io, Ja]⟩
   | 1, h => left; simpa using h.symm
   | 2, h => left; simpa using h.symm
   | 3, h => right; exact ⟨_, rfl, (Option.some.inj h).symm, rfl, by simp [Chunk.refs]⟩
   | 4, h => right; exact ⟨_, rfl, (Option.some.inj h).symm, rfl, by simp [Chunk.refs]⟩
   | j + 5, h => simp at h
 · match j, hj with
   | 0, _ => rfl
   | 1, _ => rfl
   | 2, _ => rfl
def McQ (s : Str) (ret : SV) (pos : Int) (out : List Cell) (wt : List Wait) : Out := fun v c => v = ret ∧ Rn 3 c (mkB s pos out wt)
theorem McQ.a {s : Str} {ret : SV} {pos : Int} {out : List Cell} {wt : List Wait} {c : List Chunk} (h : c = mkA s pos out wt) : McQ s ret pos out wt ret c := ⟨rfl, by rw [h]; exact ⟨_, _, rnA s pos out wt⟩⟩
theorem McQ.b {s : Str} {ret : SV} {pos : Int} {out : List Cell} {wt : List Wait} {c : List Chunk} (h : c = mkB s pos out wt) : McQ s ret pos out wt ret c := ⟨rfl, by rw [h]; exact Rn.refl 3 _⟩
theorem ak.mc {f : FuncId} {fn : Func} {args : List SX} {ck : List Chunk} {s : Str} {ret : SV} {pos : Int} {out : List Cell} {wt : List Wait} (hf : Tryz.prog.funcs[f]? = some fn) (hb : fn.body.isSome = true) (hn : Nat.ble args.length fn.ntmps = true) (hl : ck.length = 3) (hr : qL ret = true)
 (h : ∀ Γ, J Tryz.prog f (az fn) Γ (McQ s ret pos out wt) [.code []] (bX fn.ntmps args ck)) : ak Tryz.prog f args ck ret (mkB s pos out wt) :=
 ak.renum hf hb hn hr fun Γ => J.mono (fun v c q => ⟨q.1, by rw [hl]; exact q.2⟩) (h Γ)
theorem DH (c : Int) : ak Tryz.prog 212 [.c (.pd (.int .u8 c))] [] (.x (.b (xZ c))) [] := by
 refine dg aV Tryz.func212 (.ret (.p (.bool (decide (c ≥ (97 : Int)) && decide (c ≤ (122 : Int)) || decide (c ≥ (48 : Int)) && decide (c ≤ (57 : Int)) || c == (95 : Int)))) []) fun Γ => ?_
 exact ⟨rfl, rfl⟩
def tV : Ent := (212, fun
 | [.c (.pd (.int .u8 c))], [] => some (none, .x (.c (.pd (.bool (xZ c)))), [])
 | _, _ => none)
theorem Gu : EntOk Tryz.prog tV := entOk fun vs ck => by
 unfold tV; dsimp only; split
 · rename_i c; exact entS fun hp => DH c
 · exact entN
def Kq : Cfg := ⟨a6, [tV]⟩
theorem Jl : ah Tryz.prog Kq.tab := (ah.cons Gu ah.nil)
abbrev zMg1 (a : Str) (b : Int) (c : List Cell) (d : List Wait) : List Chunk := [.cells [.pd (.str a), .i b, .own 1, .own 2] 209, .own 92 .cell c, .own 238 .wait d]
abbrev zMg3 : List PI := [.code [1, 1, 0, 0, 0], .inLoop [1, 1, 0, 0, 0], .inBlock 0, .code [1, 1, 1]]
theorem CB (s : Str) (pos : Int) (k : Nat) (out : List Cell) (wt : List Wait) (Γ : Ctx) (hs : s.length ≤ 1048576) : ∀ (n m : Nat), s.length - m ≤ n → m ≤ s.length → k ≤ m →
 J Tryz.prog 193 (az Tryz.f193) Γ (Eq2 (.x (.s (seg s k m ++ (s.drop m).takeWhile hJ))) [Chunk.cells [SC.pd (PD.str s), SC.i pos, SC.own 1, SC.own 2] 209, Chunk.own 92 ETy.cell out, Chunk.own 238 ETy.wait wt]) zMg3 ({ n := 32, fr := [(0, .x (.c (.loc 0 0))), (1, .i ((k : Int))), (4, .p (.str [])), (5, .i ((m : Int)))], ck := (zMg1 s pos out wt), m := 3 }) := by
 intro n
 induction n with
 | zero => ?_
 | succ n ih => ?_
 all_goals
  intro m hn hm hk
  refine jg Jl Tryz.func193 (.need (decide ((m : Int) < ab s) = true → (0 : Int) ≤ (m : Int) ∧ (m : Int) < ab s) (.ite (decide ((m : Int) < ab s) && xZ (↑(UInt8.toNat (List.getD s m (0 : UInt8))) : Int)) (.stop zMg3 { n := 32, fr := [(0, .x (.c (.loc 0 0))), (1, .i k), (4, .p (.str [])), (5, .i (IntKind.wrap .i64 ((m : Int) + 1)))], ck := (zMg1 s pos out wt), m := 3 }) (.need ((0 : Int) ≤ (k : Int) ∧ (k : Int) ≤ (m : Int) ∧ (m : Int) ≤ (s.length : Int)) (.ret (.p (.str (Prod.snd (aw s (some (k : Int)) (some (m : Int)))))) (zMg1 s pos out wt))))) ?_
  have hL : ab s = (s.length : Int) := rfl
  refine ⟨fun h => ⟨by omega, of_decide_eq_true h⟩, fun h => ?_, fun h => ⟨⟨by omega, by omega, by omega⟩, ?_, rfl⟩⟩
  · have h' : (decide ((m : Int) < ab s) && hJ (s.getD m 0)) = true := h
    simp only [Bool.and_eq_true, decide_eq_true_eq] at h'
    have hlt : m < s.length := by omega
    first
    | (exfalso; omega)
    | (rw [cU (by omega), qC hk hlt h'.2]
       exact ih (m + 1) (by omega) (by omega) (by omega))
  · have h' : (decide ((m : Int) < ab s) && hJ (s.getD m 0)) = false := h
    have e : (s.drop m).takeWhile hJ = [] := nZ fun hlt => by
     rw [decide_eq_true (by omega), Bool.true_and] at h'; exact h'
    rw [e, List.append_nil]; rfl
abbrev zMg2 (a : Str) (b : Int) (c : List Cell) (d : List Wait) : List Chunk := [.cells [.pd (.str a), .pd (.int .i64 b), .own 1, .own 2] 209, .own 92 .cell c, .own 238 .wait d]
theorem Cz (s : Str) (pos k : Int) (out : List Cell) (wt : List Wait) (hs : s.length ≤ 1048576) (h0 : 0 ≤ k) (h1 : k ≤ ab s) : ak Tryz.prog 193 [.c (.loc 0 0), .i k] (zMg2 s pos out wt) (.x (.s (ay s k))) (zMg2 s pos out wt) := by
 obtain ⟨k, rfl⟩ := Int.eq_ofNat_of_zero_le h0
 refine dg aV Tryz.func193 (.stop zMg3 { n := 32, fr := [(0, .x (.c (.loc 0 0))), (1, .i k), (4, .p (.str [])), (5, .i k)], ck := (zMg1 s pos out wt), m := 3 }) fun Γ => ?_
 have hL : ab s = (s.length : Int) := rfl
 have h := CB s pos k out wt Γ hs s.length k (by omega) (by omega) (Nat.le_refl _)
 rw [eV] at h
 exact h
def sJ : Ent := (193, fun
 | [.c (.loc 0 0), .c (.pd (.int .i64 k))], [.cells [.pd (.str s), .pd (.int .i64 pos), .own 1, .own 2] 209, .own 92 .cell out, .own 238 .wait wt] => some (some (s.length ≤ 1048576 ∧ 0 ≤ k ∧ k ≤ ab s), .x (.c (.pd (.str (ay s k)))), [.cells [.pd (.str s), .pd (.int .i64 pos), .own 1, .own 2] 209, .own 92 .cell out, .own 238 .wait wt])
 | _, _ => none)
theorem F7 : EntOk Tryz.prog sJ := entOk fun vs ck => by
 unfold sJ; dsimp only; split
 · rename_i k s pos out wt; exact entS fun hp => Cz s pos k out wt hp.1 hp.2.1 hp.2.2
 · exact entN
/-! ### signs -/
theorem CG (op : Int) (h1 : 1 ≤ op) (h2 : op ≤ 23) : ak Tryz.prog 141 [.i op] [] (.tup [.s (aG op).1, .i (aG op).2]) [] := by
 have h : op = 1 ∨ op = 2 ∨ op = 3 ∨ op = 4 ∨ op = 5 ∨ op = 6 ∨ op = 7 ∨ op = 8 ∨ op = 9 ∨ op = 10 ∨ op = 11 ∨ op = 12 ∨ op = 13 ∨ op = 14 ∨ op = 15 ∨ op = 16 ∨ op = 17 ∨ op = 18 ∨ op = 19 ∨ op = 20 ∨ op = 21 ∨ op = 22 ∨ op = 23 := by omega
 rcases h with rfl | rfl | rfl | rfl | rfl | rfl | rfl | rfl | rfl | rfl | rfl | rfl | rfl | rfl | rfl | rfl | rfl | rfl | rfl | rfl | rfl | rfl | rfl
 · exact dg aV Tryz.func141 (.need ((0 : Int) ≤ 1 ∧ (1 : Int) < (↑(24 : Nat) : Int)) (.need ((0 : Int) ≤ 1 ∧ (1 : Int) < (↑(24 : Nat) : Int)) (.ret (.tup [.p (.str []), .i 7]) []))) fun Γ => ⟨by decide, by decide, rfl, rfl⟩
 · exact dg aV Tryz.func141 (.need ((0 : Int) ≤ 2 ∧ (2 : Int) < (↑(24 : Nat) : Int)) (.need ((0 : Int) ≤ 2 ∧ (2 : Int) < (↑(24 : Nat) : Int)) (.ret (.tup [.p (.str []), .i 7]) []))) fun Γ => ⟨by decide, by decide, rfl, rfl⟩
 · exact dg aV Tryz.func141 (.need ((0 : Int) ≤ 3 ∧ (3 : Int) < (↑(24 : Nat) : Int)) (.need ((0 : Int) ≤ 3 ∧ (3 : Int) < (↑(24 : Nat) : Int)) (.ret (.tup [.p (.str []), .i 7]) []))) fun Γ => ⟨by decide, by decide, rfl, rfl⟩
 · exact dg aV Tryz.func141 (.need ((0 : Int) ≤ 4 ∧ (4 : Int) < (↑(24 : Nat) : Int)) (.need ((0 : Int) ≤ 4 ∧ (4 : Int) < (↑(24 : Nat) : Int)) (.ret (.tup [.p (.str []), .i 7]) []))) fun Γ => ⟨by decide, by decide, rfl, rfl⟩
 · exact dg aV Tryz.func141 (.need ((0 : Int) ≤ 5 ∧ (5 : Int) < (↑(24 : Nat) : Int)) (.need ((0 : Int) ≤ 5 ∧ (5 : Int) < (↑(24 : Nat) : Int)) (.ret (.tup [.p (.str []), .i 7]) []))) fun Γ => ⟨by decide, by decide, rfl, rfl⟩
 · exact dg aV Tryz.func141 (.need ((0 : Int) ≤ 6 ∧ (6 : Int) < (↑(24 : Nat) : Int)) (.need ((0 : Int) ≤ 6 ∧ (6 : Int) < (↑(24 : Nat) : Int)) (.ret (.tup [.p (.str []), .i 7]) []))) fun Γ => ⟨by decide, by decide, rfl, rfl⟩
 · exact dg aV Tryz.func141 (.need ((0 : Int) ≤ 7 ∧ (7 : Int) < (↑(24 : Nat) : Int)) (.need ((0 : Int) ≤ 7 ∧ (7 : Int) < (↑(24 : Nat) : Int)) (.ret (.tup [.p (.str [45]), .i 6]) []))) fun Γ => ⟨by decide, by decide, rfl, rfl⟩
 · exact dg aV Tryz.func141 (.need ((0 : Int) ≤ 8 ∧ (8 : Int) < (↑(24 : Nat) : Int)) (.need ((0 : Int) ≤ 8 ∧ (8 : Int) < (↑(24 : Nat) : Int)) (.ret (.tup [.p (.str [33]), .i 6]) []))) fun Γ => ⟨by decide, by decide, rfl, rfl⟩
 · exact dg aV Tryz.func141 (.need ((0 : Int) ≤ 9 ∧ (9 : Int) < (↑(24 : Nat) : Int)) (.need ((0 : Int) ≤ 9 ∧ (9 : Int) < (↑(24 : Nat) : Int)) (.ret (.tup [.p (.str []), .i 7]) []))) fun Γ => ⟨by decide, by decide, rfl, rfl⟩
 · exact dg aV Tryz.func141 (.need ((0 : Int) ≤ 10 ∧ (10 : Int) < (↑(24 : Nat) : Int)) (.need ((0 : Int) ≤ 10 ∧ (10 : Int) < (↑(24 : Nat) : Int)) (.ret (.tup [.p (.str []), .i 7]) []))) fun Γ => ⟨by decide, by decide, rfl, rfl⟩
 · exact dg aV Tryz.func141 (.need ((0 : Int) ≤ 11 ∧ (11 : Int) < (↑(24 : Nat) : Int)) (.need ((0 : Int) ≤ 11 ∧ (11 : Int) < (↑(24 : Nat) : Int)) (.ret (.tup [.p (.str [43]), .i 4]) []))) fun Γ => ⟨by decide, by decide, rfl, rfl⟩
 · exact dg aV Tryz.func141 (.need ((0 : Int) ≤ 12 ∧ (12 : Int) < (↑(24 : Nat) : Int)) (.need ((0 : Int) ≤ 12 ∧ (12 : Int) < (↑(24 : Nat) : Int)) (.ret (.tup [.p (.str [45]), .i 4]) []))) fun Γ => ⟨by decide, by decide, rfl, rfl⟩
 · exact dg aV Tryz.func141 (.need ((0 : Int) ≤ 13 ∧ (13 : Int) < (↑(24 : Nat) : Int)) (.need ((0 : Int) ≤ 13 ∧ (13 : Int) < (↑(24 : Nat) : Int)) (.ret (.tup [.p (.str [42]), .i 5]) []))) fun Γ => ⟨by decide, by decide, rfl, rfl⟩
 · exact dg aV Tryz.func141 (.need ((0 : Int) ≤ 14 ∧ (14 : Int) < (↑(24 : Nat) : Int)) (.need ((0 : Int) ≤ 14 ∧ (14 : Int) < (↑(24 : Nat) : Int)) (.ret (.tup [.p (.str [47]), .i 5]) []))) fun Γ => ⟨by decide, by decide, rfl, rfl⟩
 · exact dg aV Tryz.func141 (.need ((0 : Int) ≤ 15 ∧ (15 : Int) < (↑(24 : Nat) : Int)) (.need ((0 : Int) ≤ 15 ∧ (15 : Int) < (↑(24 : Nat) : Int)) (.ret (.tup [.p (.str [37]), .i 5]) []))) fun Γ => ⟨by decide, by decide, rfl, rfl⟩
 · exact dg aV Tryz.func141 (.need ((0 : Int) ≤ 16 ∧ (16 : Int) < (↑(24 : Nat) : Int)) (.need ((0 : Int) ≤ 16 ∧ (16 : Int) < (↑(24 : Nat) : Int)) (.ret (.tup [.p (.str [61]), .i 3]) []))) fun Γ => ⟨by decide, by decide, rfl, rfl⟩
 · exact dg aV Tryz.func141 (.need ((0 : Int) ≤ 17 ∧ (17 : Int) < (↑(24 : Nat) : Int)) (.need ((0 : Int) ≤ 17 ∧ (17 : Int) < (↑(24 : Nat) : Int)) (.ret (.tup [.p (.str [33, 61]), .i 3]) []))) fun Γ => ⟨by decide, by decide, rfl, rfl⟩
 · exact dg aV Tryz.func141 (.need ((0 : Int) ≤ 18 ∧ (18 : Int) < (↑(24 : Nat) : Int)) (.need ((0 : Int) ≤ 18 ∧ (18 : Int) < (↑(24 : Nat) : Int)) (.ret (.tup [.p (.str [60]), .i 3]) []))) fun Γ => ⟨by decide, by decide, rfl, rfl⟩
 · exact dg aV Tryz.func141 (.need ((0 : Int) ≤ 19 ∧ (19 : Int) < (↑(24 : Nat) : Int)) (.need ((0 : Int) ≤ 19 ∧ (19 : Int) < (↑(24 : Nat) : Int)) (.ret (.tup [.p (.str [60, 61]), .i 3]) []))) fun Γ => ⟨by decide, by decide, rfl, rfl⟩
 · exact dg aV Tryz.func141 (.need ((0 : Int) ≤ 20 ∧ (20 : Int) < (↑(24 : Nat) : Int)) (.need ((0 : Int) ≤ 20 ∧ (20 : Int) < (↑(24 : Nat) : Int)) (.ret (.tup [.p (.str [62]), .i 3]) []))) fun Γ => ⟨by decide, by decide, rfl, rfl⟩
 · exact dg aV Tryz.func141 (.need ((0 : Int) ≤ 21 ∧ (21 : Int) < (↑(24 : Nat) : Int)) (.need ((0 : Int) ≤ 21 ∧ (21 : Int) < (↑(24 : Nat) : Int)) (.ret (.tup [.p (.str [62, 61]), .i 3]) []))) fun Γ => ⟨by decide, by decide, rfl, rfl⟩
 · exact dg aV Tryz.func141 (.need ((0 : Int) ≤ 22 ∧ (22 : Int) < (↑(24 : Nat) : Int)) (.need ((0 : Int) ≤ 22 ∧ (22 : Int) < (↑(24 : Nat) : Int)) (.ret (.tup [.p (.str [38]), .i 2]) []))) fun Γ => ⟨by decide, by decide, rfl, rfl⟩
 · exact dg aV Tryz.func141 (.need ((0 : Int) ≤ 23 ∧ (23 : Int) < (↑(24 : Nat) : Int)) (.need ((0 : Int) ≤ 23 ∧ (23 : Int) < (↑(24 : Nat) : Int)) (.ret (.tup [.p (.str [124]), .i 1]) []))) fun Γ => ⟨by decide, by decide, rfl, rfl⟩
def tT : Ent := (141, fun
 | [.c (.pd (.int .i64 op))], [] => some (some (1 ≤ op ∧ op ≤ 23), .tup [.c (.pd (.str (aG op).1)), .c (.pd (.int .i64 (aG op).2))], [])
 | _, _ => none)
theorem Fo : EntOk Tryz.prog tT := entOk fun vs ck => by
 unfold tT; dsimp only; split
 · rename_i op; exact entS fun hp => CG op hp.1 hp.2
 · exact entN
/-! ### what waits -/
abbrev zMg4 : List PI := [.code [1, 0, 1, 0, 0], .inLoop [1, 0, 1, 0, 0], .inBlock 0, .code [1, 1]]
theorem Dq (s : Str) (pos : Int) (out : List Cell) (wt : List Wait) (Γ : Ctx) (hl : wt.length ≤ 1048576) : ∀ j : Nat, j ≤ wt.length → ∀ k : Int, k = (j : Int) - 1 →
 J Tryz.prog 196 (az Tryz.f196) Γ (Eq2 (.x (.b (cP (wt.take j).reverse))) [Chunk.cells [SC.pd (PD.str s), SC.i pos, SC.own 1, SC.own 2] 209, Chunk.own 92 ETy.cell out, Chunk.own 238 ETy.wait wt]) zMg4 ({ n := 34, fr := [(0, .x (.c (.loc 0 0))), (2, .p (.bool false)), (3, .i k)], ck := (zMg1 s pos out wt), kn := [2], m := 3 }) := by
 intro j
 induction j with
 | zero => ?_
 | succ j ih => ?_
 all_goals
  intro hj k hk
  refine jg aV Tryz.func196 (let x1 : List Chunk := (zMg1 s pos out wt); let x2 := (ETy.get .wait wt (Int.toNat k)); .need (decide (k ≥ (0 : Int)) = true → (0 : Int) ≤ k ∧ k < (wt.length : Int)) (.need (decide (k ≥ (0 : Int)) = true → Int.toNat k < wt.length) (.ite (decide (k ≥ (0 : Int)) && decide (Wait.power x2 > (0 : Int))) (.need ((0 : Int) ≤ k ∧ k < (wt.length : Int)) (.need (Int.toNat k < wt.length) (.ite (Wait.power x2 == (3 : Int)) (.ret (.p (.bool true)) x1) (.stop zMg4 { n := 34, fr := [(0, .x (.c (.loc 0 0))), (2, .p (.bool false)), (3, .i (IntKind.wrap .i64 (k - (1 : Int))))], ck := x1, kn := [2], m := 3 })))) (.ret (.p (.bool false)) x1)))) ?_
  conv => zeta
 · refine ⟨fun h => ?_, fun h => ?_, fun h => ?_, fun _ => ⟨rfl, rfl⟩⟩
   · have := of_decide_eq_true h; omega
   · have := of_decide_eq_true h; omega
   · simp only [Bool.and_eq_true, decide_eq_true_eq] at h; omega
 · have hlt : j < wt.length := by omega
   have e0 : k.toNat = j := by omega
   rw [e0]
   have et : (wt.take (j + 1)).reverse = ETy.get .wait wt j :: (wt.take j).reverse := by
    rw [List.take_succ_eq_append_getElem hlt, List.reverse_append, ETy.get_eq (t := .wait) (List.getElem?_eq_getElem hlt)]; rfl
   rw [et]
   generalize ETy.get .wait wt j = w
   refine ⟨fun _ => ⟨by omega, by omega⟩, fun _ => hlt, fun h => ⟨⟨by omega, by omega⟩, hlt, fun h2 => ?_, fun h2 => ?_⟩, fun h => ?_⟩
   · simp only [Bool.and_eq_true, decide_eq_true_eq] at h
     have e : cP (w :: (wt.take j).reverse) = true := by simp [cP, h.2, show (w.power == 3) = true from h2]
     rw [e]; exact ⟨rfl, rfl⟩
   · simp only [Bool.and_eq_true, decide_eq_true_eq] at h
     have e : cP (w :: (wt.take j).reverse) = cP (wt.take j).reverse := by simp [cP, h.2, show (w.power == 3) = false from h2]
     rw [e, bG (by omega) (by omega)]
     exact J.kn [2] (ih (by omega) (k - 1) (by omega))
   · have hw : ¬ w.power > 0 := by
      intro hw
      rw [decide_eq_true (show k ≥ 0 by omega), decide_eq_true hw] at h; cases h
     have e : cP (w :: (wt.take j).reverse) = false := by simp [cP, hw]
     rw [e]; exact ⟨rfl, rfl⟩
theorem Eu (s : Str) (pos : Int) (out : List Cell) (wt : List Wait) (hl : wt.length ≤ 1048576) : ak Tryz.prog 196 [.c (.loc 0 0)] (zMg2 s pos out wt) (.x (.b (cP wt.reverse))) (zMg2 s pos out wt) := by
 refine dg aV Tryz.func196 (.stop zMg4 { n := 34, fr := [(0, .x (.c (.loc 0 0))), (2, .p (.bool false)), (3, .i (IntKind.wrap .i64 ((wt.length : Int) - 1)))], ck := (zMg1 s pos out wt), kn := [2], m := 3 }) fun Γ => ?_
 have h := Dq s pos out wt Γ hl wt.length (Nat.le_refl _) _ (bG (n := (wt.length : Int) - 1) (by omega) (by omega))
 rw [List.take_length] at h
 exact h
def r9 : Ent := (196, fun
 | [.c (.loc 0 0)], [.cells [.pd (.str s), .pd (.int .i64 pos), .own 1, .own 2] 209, .own 92 .cell out, .own 238 .wait wt] => some (some (wt.length ≤ 1048576), .x (.c (.pd (.bool (cP wt.reverse)))), [.cells [.pd (.str s), .pd (.int .i64 pos), .own 1, .own 2] 209, .own 92 .cell out, .own 238 .wait wt])
 | _, _ => none)
theorem ER : EntOk Tryz.prog r9 := entOk fun vs ck => by
 unfold r9; dsimp only; split
 · rename_i s pos out wt; exact entS fun hp => Eu s pos out wt hp
 · exact entN
abbrev zMg5 : List PI := [.code [0, 0], .inLoop [0, 0], .inBlock 0]
theorem AZ (s : Str) (pos least : Int) (Γ : Ctx) : ∀ (l : List Wait) (out : List Cell), out.length + l.length ≤ 3000000 →
 J Tryz.prog 195 (az Tryz.f195) Γ (McQ s (.tup []) pos (out ++ cellsOf (cw least l)) (bP least l).reverse) zMg5 ({ n := 64, fr := [(0, .x (.c (.loc 0 0))), (1, .i least)], ck := [.cells [.pd (.str s), SC.i pos, .own 3, .own 4] 209, .dead, .dead, .own 92 .cell out, .own 238 .wait l.reverse], m := 3 }) := by
 intro l
 induction l with
 | nil =>
   intro out ho
   refine jg aV Tryz.func195 (let x1 := ((↑(0 : Nat) : Int) - 1); let x2 := (Prod.snd (Prod.snd (6, 10, true, eU true (decide ((↑(0 : Nat) : Int) > 0)) none))); let x3 := (out ++ [{ op := Wait.op (ETy.get .wait [] 0), a := (0 : Int), name := [] }]); .need (Prod.snd x2 → (0 : Int) ≤ IntKind.wrap .i64 x1 ∧ IntKind.wrap .i64 x1 < (↑(0 : Nat) : Int)) (.need (Prod.snd x2 → 0 < 0) (.ite false (.need ((0 : Int) ≤ IntKind.wrap .i64 x1 ∧ IntKind.wrap .i64 x1 < (↑(0 : Nat) : Int)) (.need (0 < 0) (.need (room (List.length x3) 32) (.need ((0 : Int) ≤ IntKind.wrap .i64 x1 ∧ IntKind.wrap .i64 x1 ≤ (↑(0 : Nat) : Int)) (.stop zMg5 { n := 64, fr := [(0, .x (.c (.loc 0 0))), (1, .i least)], ck := [.cells [.pd (.str s), .i pos, .own 3, .own 4] 209, .dead, .dead, .own 92 .cell x3, .own 238 .wait []], m := 3 }))))) (.ret (.tup []) [.cells [.pd (.str s), .i pos, .own 3, .own 4] 209, .dead, .dead, .own 92 .cell out, .own 238 .wait []])))) ?_
   conv => zeta
   refine ⟨fun h => ?_, fun h => ?_, fun h => ?_, fun _ => McQ.b ?_⟩
   · simp [eU] at h
   · simp [eU] at h
   · simp at h
   · simp [cw, bP, cellsOf]
 | cons w r ih =>
   intro out ho
   have hrl : (r.reverse ++ [w]).length = r.length + 1 := by simp
   have hw : IntKind.wrap .i64 (((r.reverse ++ [w]).length : Int) - 1) = (r.length : Int) := by
    simp only [List.length_cons] at ho
    rw [hrl, bG (by omega) (by omega)]; omega
   have hg : ETy.get .wait (r.reverse ++ [w]) (Int.toNat (r.length : Int)) = w := by
    refine ETy.get_eq (t := .wait) ?_
    rw [Int.toNat_natCast, List.getElem?_append_right (by simp)]; simp
   have ht : (r.reverse ++ [w]).take (Int.toNat (r.length : Int)) = r.reverse := by
    rw [Int.toNat_natCast, List.take_append_of_le_length (by simp), List.take_of_length_le (by simp)]
   rw [List.reverse_cons]
   refine jg aV Tryz.func195 (let x3 := (List.reverse r ++ [w]); let x1 := (↑(List.length x3) : Int); let x4 := (IntKind.wrap .i64 (x1 - 1)); let x2 := (ETy.get .wait x3 (Int.toNat x4)); let x5 := (Prod.snd (Prod.snd (6, 10, true, eU true (decide (x1 > 0)) none))); let x6 := (out ++ [{ op := Wait.op x2, a := (0 : Int), name := [] }]); .need (Prod.snd x5 → (0 : Int) ≤ IntKind.wrap .i64 (x1 - 1) ∧ IntKind.wrap .i64 (x1 - 1) < x1) (.need (Prod.snd x5 → Int.toNat x4 < List.length x3) (.ite (decide (x1 > 0) && decide (Wait.power x2 ≥ least)) (.need ((0 : Int) ≤ IntKind.wrap .i64 (x1 - 1) ∧ IntKind.wrap .i64 (x1 - 1) < x1) (.need (Int.toNat x4 < List.length x3) (.need (room (List.length x6) 32) (.need ((0 : Int) ≤ IntKind.wrap .i64 (x1 - 1) ∧ IntKind.wrap .i64 (x1 - 1) ≤ x1) (.stop zMg5 { n := 64, fr := [(0, .x (.c (.loc 0 0))), (1, .i least)], ck := [.cells [.pd (.str s), .i pos, .own 3, .own 4] 209, .dead, .dead, .own 92 .cell x6, .own 238 .wait (List.take (Int.toNat x4) x3)], m := 3 }))))) (.ret (.tup []) [.cells [.pd (.str s), .i pos, .own 3, .own 4] 209, .dead, .dead, .own 92 .cell out, .own 238 .wait x3])))) ?_
   conv => zeta
   rw [hw, hg, ht]
   have hb : (0 : Int) ≤ (r.length : Int) ∧ (r.length : Int) < ((r.reverse ++ [w]).length : Int) := by rw [hrl]; omega
   have hb2 : Int.toNat (r.length : Int) < (r.reverse ++ [w]).length := by rw [hrl]; omega
   simp only [List.length_cons] at ho
   refine ⟨fun _ => hb, fun _ => hb2, fun h => ⟨hb, hb2, fD (by rw [List.length_append]; simp only [List.length_cons, List.length_nil]; omega), ⟨hb.1, Int.le_of_lt hb.2⟩, ?_⟩, fun h => McQ.b ?_⟩
   · simp only [Bool.and_eq_true, decide_eq_true_eq] at h
     have e1 : cw least (w :: r) = w :: cw least r := by simp [cw, h.2]
     have e2 : bP least (w :: r) = bP least r := by simp [bP, h.2]
     rw [e1, e2]
     have e3 : out ++ cellsOf (w :: cw least r) = (out ++ [⟨w.op, 0, []⟩]) ++ cellsOf (cw least r) := by simp [cellsOf]
     rw [e3]
     exact ih (out ++ [⟨w.op, 0, []⟩]) (by rw [List.length_append]; simp only [List.length_cons, List.length_nil]; omega)
   · have hw2 : ¬ w.power ≥ least := by
      intro hh
      rw [decide_eq_true (show ((r.reverse ++ [w]).length : Int) > 0 by rw [hrl]; omega), decide_eq_true hh] at h; cases h
     have e1 : cw least (w :: r) = [] := by simp [cw, hw2]
     have e2 : bP least (w :: r) = w :: r := by simp [bP, hw2]
     rw [e1, e2, List.reverse_cons]; simp [cellsOf]
theorem AB (s : Str) (pos least : Int) (out : List Cell) (wt : List Wait) (ho : out.length + wt.length ≤ 3000000) : ak Tryz.prog 195 [.c (.loc 0 0), .i least] (zMg2 s pos out wt) (.tup []) (mkB s pos (out ++ cellsOf (cw least wt.reverse)) (bP least wt.reverse).reverse) := by
 refine ak.mc Tryz.func195 (by kernel_rfl) (by kernel_rfl) rfl rfl fun Γ => ?_
 refine jg aV Tryz.func195 (.stop zMg5 { n := 64, fr := [(0, .x (.c (.loc 0 0))), (1, .i least)], ck := (zMg1 s pos out wt), m := 3 }) ?_
 refine J.renum Io Ja (rnA s pos out wt) (Nat.le_of_ble_eq_true rfl) ?_ ?_
 · intro p hp i hi
   simp only [List.mem_cons, List.not_mem_nil, or_false] at hp
   rcases hp with rfl | rfl
   · simp only [SV.refs, SX.refs, SC.refs, List.mem_singleton] at hi; subst hi; rfl
   · simp [SV.refs, SX.refs, SC.refs] at hi
 · have h := AZ s pos least Γ wt.reverse out (by rw [List.length_reverse]; exact ho)
   rw [List.reverse_reverse] at h
   exact h
def qt : Ent := (195, fun
 | [.c (.loc 0 0), .c (.pd (.int .i64 least))], [.cells [.pd (.str s), .pd (.int .i64 pos), .own 1, .own 2] 209, .own 92 .cell out, .own 238 .wait wt] => some (some (out.length + wt.length ≤ 3000000), .tup [], [.cells [.pd (.str s), .pd (.int .i64 (pos)), .own 3, .own 4] 209, .dead, .dead, .own 92 .cell (out ++ cellsOf (cw least wt.reverse)), .own 238 .wait ((bP least wt.reverse).reverse)])
 | _, _ => none)
theorem CX : EntOk Tryz.prog qt := entOk fun vs ck => by
 unfold qt; dsimp only; split
 · rename_i least s pos out wt; exact entS fun hp => AB s pos least out wt hp
 · exact entN
/-! ### plain -/
theorem mG:∀ (l:List UInt8) (a:Nat) (c:UInt8),cI a (l++[c])=10 * cI a l+(c.toNat - 48)
 | [],a,c=>rfl
 | d::r,a,c=>mG r (10 * a+(d.toNat - 48)) c
theorem vf {r:Nat} (h:r<10):(UInt8.ofNat (48+r)).toNat=48+r:=by
 simp only [UInt8.toNat_ofNat']; omega
theorem js (u:Nat):(Lib.decDigits u).all isD=true∧Lib.decDigits u≠[]∧cI 0 (Lib.decDigits u)=u∧(1≤u→((Lib.decDigits u).getD 0 0).toNat≠48)∧(u<10→(Lib.decDigits u).length=1):=by
 induction u using Nat.strongRecOn with
 | _ u ih =>
   by_cases h:u<10
   · have e:Lib.decDigits u=[UInt8.ofNat (48+u)]:=Lib.decDigits_one h
     have ed:=vf h
     rw [e]
     refine ⟨?_,by simp,?_,fun h1=>?_,fun _=>rfl⟩
     · simp only [bA,List.all_nil,cT,isD,ed,af,decide_eq_true_eq]; omega
     · show 10 * 0+((UInt8.ofNat (48+u)).toNat - 48)=u
       rw [ed]; omega
     · show (UInt8.ofNat (48+u)).toNat≠48
       rw [ed]; omega
   · have e:Lib.decDigits u=Lib.decDigits (u / 10)++[UInt8.ofNat (48+u % 10)]:=by rw [Lib.decDigits,dif_neg h]
     have hm:u % 10<10:=Nat.mod_lt _ (by omega)
     have ed:=vf hm
     obtain ⟨i1,i2,i3,i4,_⟩:=ih (u / 10) (by omega)
     rw [e]
     refine ⟨?_,by simp,?_,fun _=>?_,fun h2=>absurd h2 h⟩
     · rw [cN,i1]
       simp only [bA,List.all_nil,cT,cf,isD,ed,af,decide_eq_true_eq]; omega
     · rw [mG,i3,ed]; omega
     · have:=i4 (by omega)
       cases hd:Lib.decDigits (u / 10) with
       | nil=>exact absurd hd i2
       | cons c r=>rw [hd] at this; exact this
theorem IV (n:Int):aQ (Lib.itoa n)=if n < -1099511627776∨1099511627776<n then (0,5) else (n,0):=by
 by_cases hn:n<0
 · have e:Lib.itoa n=45::Lib.decDigits n.natAbs:=by unfold Lib.itoa; rw [if_pos hn]
   obtain ⟨i1,i2,i3,i4,_⟩:=js n.natAbs
   rw [e,aQ,fh,(fE _).1,(fE _).2,i1,i3]
   have h4:=i4 (by omega)
   have hb:(Lib.decDigits n.natAbs==[] || !true||(((Lib.decDigits n.natAbs).getD 0 0).toNat:Int)==48&&(decide (ab (Lib.decDigits n.natAbs)>1)||true))=false:=by
    have h5:((((Lib.decDigits n.natAbs).getD 0 0).toNat:Int)==48)=false:=by rw [beq_eq_false_iff_ne]; omega
    rw [h5]; simp [i2]
   rw [hb,if_neg (by simp)]
   by_cases hr:n < -1099511627776
   · rw [if_pos (by omega),if_pos (.inl hr)]
   · rw [if_neg (by omega),if_pos rfl,if_neg (by omega)]
     congr 1; omega
 · have e:Lib.itoa n=Lib.decDigits n.toNat:=by unfold Lib.itoa; rw [if_neg hn]
   obtain ⟨i1,i2,i3,i4,i5⟩:=js n.toNat
   cases hd:Lib.decDigits n.toNat with
   | nil=>exact absurd hd i2
   | cons c r =>
     have hc:c≠45:=by
      rw [hd] at i1
      simp only [bA,af,isD,decide_eq_true_eq] at i1
      intro hc; subst hc; simp at i1
     rw [e,hd,aQ,fh,(fg r hc).1,(fg r hc).2,← hd,i1,i3]
     have hb:(Lib.decDigits n.toNat==[] || !true||(((Lib.decDigits n.toNat).getD 0 0).toNat:Int)==48&&(decide (ab (Lib.decDigits n.toNat)>1)||false))=false:=by
      by_cases h1:1≤n.toNat
      · have h5:((((Lib.decDigits n.toNat).getD 0 0).toNat:Int)==48)=false:=by have:=i4 h1; rw [beq_eq_false_iff_ne]; omega
        rw [h5]; simp [i2]
      · have h5:decide (ab (Lib.decDigits n.toNat)>1)=false:=by
         have:=i5 (by omega)
         refine decide_eq_false ?_
         show ¬((Lib.decDigits n.toNat).length:Int)>1
         omega
        rw [h5]; simp [i2]
     rw [hb,if_neg (by simp)]
     by_cases hr:1099511627776<n
     · rw [if_pos (by omega),if_pos (.inr hr)]
     · rw [if_neg (by omega),if_neg (by simp),if_neg (by omega)]
       congr 1; omega
/-! ### the walk -/
/-! ### cells -/
theorem Mi {c:Cell} (h:bQ c=1):c=⟨7,0,[]⟩∨c=⟨8,0,[]⟩∨c=⟨9,0,[]⟩∨c=⟨10,0,[]⟩:=by
 obtain ⟨op,a,nm⟩:=c
 simp only [bQ,dU,cond_eq_ite] at h
 repeat' (split at h)
 all_goals first | (exfalso; omega) | skip
 rename_i h1 h2 h3 h4 h5 h6 h7
 simp only [aA,decide_eq_true_eq,bne_iff_ne,aE,beq_eq_false_iff_ne,not_or,ne_eq,Classical.not_not,beq_iff_eq] at h1 h2 h3 h4 h5 h6 h7
 obtain ⟨⟨⟨h51,h52⟩,h53⟩,h54⟩:=h5
 subst h53 h54
 have:op=7∨op=8∨op=9∨op=10:=by omega
 rcases this with rfl | rfl | rfl | rfl <;> simp
theorem IF {c:Cell} (h:bQ c=2):c=⟨c.op,0,[]⟩∧11≤c.op∧c.op≤23:=by
 obtain ⟨op,a,nm⟩:=c
 simp only [bQ,dU,cond_eq_ite] at h
 repeat' (split at h)
 all_goals first | (exfalso; omega) | skip
 rename_i h1 h2 h3 h4 h5 h6 h7
 simp only [aA,decide_eq_true_eq,bne_iff_ne,aE,beq_eq_false_iff_ne,not_or,ne_eq,Classical.not_not,beq_iff_eq] at h1 h2 h3 h4 h5 h6 h7
 obtain ⟨⟨⟨h51,h52⟩,h53⟩,h54⟩:=h5
 subst h53 h54
 exact ⟨rfl,by show 11≤op; omega,by show op≤23; omega⟩
theorem vh {c:Cell} (h:bQ c=0):(∃ a,c=⟨1,a,[]⟩∧0≤a∧a≤1099511627776)∨(∃ a,c=⟨2,a,[]⟩∧0≤a∧a≤1048576)∨c=⟨3,0,[]⟩∨c=⟨4,0,[]⟩∨(∃ n,c=⟨5,0,n⟩∧aC n=true)∨(∃ n,c=⟨6,0,n⟩∧aC n=true):=by
 obtain ⟨op,a,nm⟩:=c
 simp only [bQ,dU,cond_eq_ite] at h
 repeat' (split at h)
 all_goals first | (exfalso; omega) | skip
 · rename_i h1 h2
   simp only [aA,decide_eq_true_eq,aE,beq_eq_false_iff_ne,not_or,ne_eq,Classical.not_not,beq_iff_eq] at h1 h2
   obtain ⟨⟨h3,h4⟩,h5⟩:=h2
   subst h1 h5
   exact .inl ⟨a,rfl,by omega,by omega⟩
 · rename_i h0 h1 h2
   simp only [aA,decide_eq_true_eq,aE,beq_eq_false_iff_ne,not_or,ne_eq,Classical.not_not,beq_iff_eq] at h1 h2
   obtain ⟨⟨h3,h4⟩,h5⟩:=h2
   subst h1 h5
   exact .inr (.inl ⟨a,rfl,by omega,by omega⟩)
 · rename_i h1 h2 h3 h4
   simp only [aA,bne_iff_ne,aE,not_or,ne_eq,Classical.not_not,beq_iff_eq,Bool.not_eq_false] at h3 h4
   obtain ⟨h5,h6⟩:=h4
   subst h3 h5
   exact .inr (.inr (.inr (.inr (.inl ⟨nm,rfl,h6⟩))))
 · rename_i h1 h2 h3 h4 h5
   simp only [aA,bne_iff_ne,aE,not_or,ne_eq,Classical.not_not,beq_iff_eq,Bool.not_eq_false] at h4 h5
   obtain ⟨h6,h7⟩:=h5
   subst h4 h6
   exact .inr (.inr (.inr (.inr (.inr ⟨nm,rfl,h7⟩))))
 · rename_i h1 h2 h3 h4 h5 h6
   simp only [aA,decide_eq_true_eq,bne_iff_ne,aE,beq_eq_false_iff_ne,not_or,ne_eq,Classical.not_not,beq_iff_eq] at h1 h2 h3 h4 h5 h6
   obtain ⟨⟨⟨h51,h52⟩,h53⟩,h54⟩:=h5
   subst h53 h54
   have:op=3∨op=4:=by omega
   rcases this with rfl | rfl
   · exact .inr (.inr (.inl rfl))
   · exact .inr (.inr (.inr (.inl rfl)))
/-! ### texts -/
def xa (c:Cell):Str:=bif c.op==1 then Lib.itoa c.a else bif c.op==2 then Lib.itoa c.a++[105] else bif c.op==3 then ei else bif c.op==4 then fF else bif c.op==6 then [105,110,40]++c.name++[41] else c.name
def kl (p:Int) (b:Str) (least:Int):Str:=bif decide (p<least) then [40]++b++[41] else b
def me (p:Int):Int:=bif p==3 then 4 else p
def Tm.top:Tm→Cell
 | .leaf c=>c
 | .un c _=>c
 | .bin c _ _=>c
def Tm.pow (t:Tm):Int:=(aG t.top.op).2
def unS (op:Int) (b:Str) (p:Int):Str:=bif op==9 then [114,101,40]++b++[41] else bif op==10 then [105,109,40]++b++[41] else (aG op).1++kl p b 6
def Nt (op:Int) (b:Str) (p:Int) (d:Str) (q:Int):Str:=kl p b (me (aG op).2)++(aG op).1++kl q d ((aG op).2+1)
def Tm.body:Tm→Str
 | .leaf c=>xa c
 | .un c t=>unS c.op t.body t.pow
 | .bin c t u=>Nt c.op t.body t.pow u.body u.pow
def Tm.tin (t:Tm) (p:Int):Str:=kl t.pow t.body p
theorem J1 {op:Int} (h1:11≤op) (h2:op≤23):1≤(aG op).2∧(aG op).2≤5:=by
 have h:op=11∨op=12∨op=13∨op=14∨op=15∨op=16∨op=17∨op=18∨op=19∨op=20∨op=21∨op=22∨op=23:=by omega
 rcases h with rfl | rfl | rfl | rfl | rfl | rfl | rfl | rfl | rfl | rfl | rfl | rfl | rfl <;> decide
theorem Tm.pow_bounds {t:Tm} (h:t.ok):1≤t.pow∧t.pow≤7:=by
 cases t with
 | leaf c =>
   rcases vh h with ⟨a,rfl,_⟩ | ⟨a,rfl,_⟩ | rfl | rfl | ⟨n,rfl,_⟩ | ⟨n,rfl,_⟩
   all_goals first | (show 1≤(7:Int)∧(7:Int)≤7; omega)
 | un c u =>
   rcases Mi h.1 with rfl | rfl | rfl | rfl
   all_goals first | (show 1≤(7:Int)∧(7:Int)≤7; omega) | (show 1≤(6:Int)∧(6:Int)≤7; omega)
 | bin c u v =>
   obtain ⟨_,h1,h2⟩:=IF h.1
   have:=J1 h1 h2
   show 1≤(aG c.op).2∧(aG c.op).2≤7
   omega
theorem Tm.tin_body {t:Tm} {p:Int} (h:p≤t.pow):t.tin p=t.body:=by
 unfold Tm.tin kl
 rw [decide_eq_false (by omega)]; rfl
theorem Tm.tin_paren {t:Tm} {p:Int} (h:t.pow<p):t.tin p=[40]++t.body++[41]:=by
 unfold Tm.tin kl
 rw [decide_eq_true h]; rfl
/-! ### where a text stands -/
structure At (s:Str) (k:Int) (x:Str):Prop where
 low:0≤k
 high:k≤ab s
 eq:s.drop k.toNat=x
variable {s:Str}
theorem At.len {k:Int} {x:Str} (h:At s k x):k+ab x=ab s:=by
 have h1:=h.low; have h2:=h.high
 have h3:(s.drop k.toNat).length=x.length:=by rw [h.eq]
 rw [aL] at h3
 simp only [ab] at *; omega
theorem eA (a b:Str):ab (a++b)=ab a+ab b:=by simp [ab]
theorem At.app {k:Int} {a b:Str} (h:At s k (a++b)):At s (k+ab a) b:=by
 have h1:=h.low
 have h2:=h.len
 rw [eA] at h2
 refine ⟨by simp only [ab] at *; omega,by simp only [ab] at *; omega,?_⟩
 have e:(k+ab a).toNat=k.toNat+a.length:=by simp only [ab]; omega
 rw [e,← fA,h.eq,dF]
theorem At.to {k m:Int} {a b:Str} (h:At s k (a++b)) (e:m=k+ab a):At s m b:=by rw [e]; exact h.app
theorem At.cons {k:Int} {c:UInt8} {x:Str} (h:At s k (c::x)):k<ab s∧s.getD k.toNat 0=c∧bD s k=(c.toNat:Int):=by
 have h1:=h.len
 have h2:ab (c::x)=(x.length:Int)+1:=by simp [ab]
 have h3:s.getD k.toNat 0=c:=by
  have:=congrArg (fun l:List UInt8=>l[0]?) h.eq
  simp only [List.getElem?_drop,cm,List.getElem?_cons_zero] at this
  rw [List.getD_eq_getElem?_getD,this]; rfl
 exact ⟨by omega,h3,by unfold bD; rw [h3]⟩
theorem At.nil {k:Int} (h:At s k []):k=ab s:=by
 have h1:=h.len
 have:ab ([]:Str)=0:=rfl
 omega
def KR:Str→Prop
 | []=>True
 | a::_=>hJ a=false∧a≠40
def I5 (p:Int) (x:Str):Prop:=(aT x).1=0∨(aG (aT x).1).2≤p
theorem I5.mono {p q:Int} {x:Str} (h:I5 p x) (hq:p≤q):I5 q x:=by
 rcases h with h | h
 · exact .inl h
 · exact .inr (by omega)
theorem xR {p:UInt8→Bool}:∀ {a b:List UInt8},a.all p=true→(∀ c r,b=c::r→p c=false)→(a++b).takeWhile p=a
 | [],[],_,_=>rfl
 | [],c::r,_,h=>by rw [cn,dv,if_neg (by rw [h c r rfl]; simp)]
 | c::a,b,h1,h2=>by
   simp only [bA,af] at h1
   rw [bt,dv,if_pos h1.1,xR h1.2 h2]
theorem KR.word {x:Str} (h:KR x):∀ c r,x=c::r→hJ c=false:=by
 intro c r e; subst e; exact h.1
theorem At.word {k:Int} {a b:Str} (h:At s k (a++b)) (ha:a.all hJ=true) (hb:∀ c r,b=c::r→hJ c=false):ay s k=a:=by
 unfold ay; rw [h.eq,xR ha hb]
theorem At.call {k:Int} {a b:Str} (h:At s k (a++b)) (ha:a.all hJ=true) (hb:∀ c r,b=c::r→hJ c=false):eh s k=match b with | []=>false | c::_=>c==40:=by
 unfold eh
 rw [h.word ha hb]
 have h2:=h.app
 cases b with
 | nil=>have:=h2.nil; rw [decide_eq_false (by omega)]; rfl
 | cons c r =>
   obtain ⟨g1,_,g3⟩:=h2.cons
   rw [decide_eq_true g1,g3,cf]
   show ((c.toNat:Int)==40)=(c==40)
   rw [bV,beq_iff_eq,beq_iff_eq]
   constructor
   · intro e; exact cy.1 (by show c.toNat=40; omega)
   · intro e; subst e; rfl
/-! ### operators -/
/-! ### what is told is read -/
/-! ### leaves -/
theorem Ji {a:Int} (h:0≤a):Lib.itoa a=Lib.decDigits a.toNat:=by
 unfold Lib.itoa; rw [if_neg (by omega)]
theorem Et {k:Int} (h:k<ab s) (hd:isD (s.getD k.toNat 0)=true):b8 s k = .leaf:=by
 simp only [isD,af,decide_eq_true_eq] at hd
 have hd':isD (s.getD k.toNat 0)=true:=by simp only [isD,af,decide_eq_true_eq]; exact hd
 unfold b8
 rw [if_neg (by omega),if_neg (by unfold bD; omega),if_neg (by unfold bD; omega),if_pos hd']
/-! ### trees -/
/-! ### lengths -/
theorem GX (p:Int) (b:Str) (q:Int):(kl p b q).length≤b.length+2:=by
 unfold kl
 cases decide (p<q)
 · show b.length≤_; omega
 · show ([40]++b++[41]).length≤_
   simp only [aj,ai,al]; omega
end Go.Proofs.YtpfidgnkokidoaaGreatDoor
namespace Go.Proofs.YtpfidgnkokidoaaGreatDoor
open Go Go.Ev
set_option maxRecDepth 100000
/-! ### plain -/
def Jh (c:Cell) (st:List Piece):List Piece :=
 if bQ c=0 then ⟨xa c,7⟩::st
 else if bQ c=1 then (match st with
  | p::r=>⟨unS c.op p.s p.power,(aG c.op).2⟩::r
  | []=>[])
 else (match st with
  | q::p::r=>⟨Nt c.op p.s p.power q.s q.power,(aG c.op).2⟩::r
  | _=>[])
def EW:List Cell→List Piece→Str
 | [],p::_=>p.s
 | [],[]=>[]
 | c::r,st=>EW r (Jh c st)
def KO (l:List Cell):Str:=EW l []
/-! ### the walk -/
end Go.Proofs.YtpfidgnkokidoaaGreatDoor

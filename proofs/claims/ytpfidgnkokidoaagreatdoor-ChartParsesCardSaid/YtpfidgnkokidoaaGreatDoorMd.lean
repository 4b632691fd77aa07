/- Contracts of the program's reader of expressions: its small steps. Conditions: places within the text. -/
import Derived.Test.YtpfidgnkokidoaaGreatDoorMb
import Derived.Test.YtpfidgnkokidoaaGreatDoorNc
import Derived.Test.YtpfidgnkokidoaaGreatDoorNr
import Derived.Test.YtpfidgnkokidoaaGreatDoorPX
namespace Go.Proofs.YtpfidgnkokidoaaGreatDoor
open Go Go.Ev
set_option maxRecDepth 100000
abbrev zJ160Md := J Tryz.prog 160 (az Tryz.f160)
variable (s : Str) (pos bad : Int) (a : Str) {rest : Str} (b : Int) {p : Int} (c k : Int) {op : Int} (out d : List Cell) {l : List Int} (r : Rd)
def rdB (i : Nat) : List SC := [SC.pd (PD.str s), SC.i r.pos, SC.own i, SC.i r.bad]
abbrev rd1 : List Chunk := [Chunk.cells (rdB s r 1) 169, Chunk.own 92 ETy.cell r.out]
abbrev rd2 : List Chunk := [Chunk.cells (rdB s r 2) 169, Chunk.dead, Chunk.own 92 ETy.cell r.out]
abbrev RdQ (o : Rd) : Out := Kept (.tup []) (rdB s o 1) 169 92 .cell o.out
theorem ak.rd {f : FuncId} {fn : Func} {args : List SX} {ck : List Chunk} {s : Str} {o : Rd} (hf : Tryz.prog.funcs[f]? = some fn) (hb : fn.body.isSome = true) (hn : Nat.ble args.length fn.ntmps = true) (hl : ck.length = 2)
 (h : ∀ Γ, J Tryz.prog f (az fn) Γ (RdQ s o) [.code []] (bX fn.ntmps args ck)) : ak Tryz.prog f args ck (.tup []) (rd2 s o) :=
 ak.kept (cs := rdB s o 1) hf hb hn hl (.inl rfl) rfl h
theorem RdQ.one {s : Str} {o : Rd} {ck : List Chunk} (h : ck = rd1 s o) : RdQ s o (.tup []) ck := ⟨rfl, .inl h⟩
theorem RdQ.two {s : Str} {o : Rd} {ck : List Chunk} (h : ck = rd2 s o) : RdQ s o (.tup []) ck := ⟨rfl, .inr h⟩
abbrev zMd2 : List Chunk := [.cells [.pd (.str a), .i b, .own 1, .i c] 169, .own 92 .cell d]
theorem DJ : ak Tryz.prog 121 [.c (.loc 0 0), .i k] (zMd2 s pos bad out) (.tup []) [.cells [.pd (.str s), .i pos, .own 1, .i (if bad < 0 then k else bad)] 169, .own 92 .cell out] := by
 refine dg aV Tryz.func121 (.ite (decide (bad < (0 : Int))) (.ret (.tup []) (zMd2 s pos k out)) (.ret (.tup []) (zMd2 s pos bad out))) fun Γ => ?_
 refine ⟨fun h => ?_, fun h => ?_⟩
 · rw [if_pos (of_decide_eq_true h)]; exact ⟨rfl, rfl⟩
 · rw [if_neg (of_decide_eq_false h)]; exact ⟨rfl, rfl⟩
def jI : Ent := (121, fun
 | [.c (.loc 0 0), .c (.pd (.int .i64 k))], [.cells [.pd (.str s), .pd (.int .i64 pos), .own 1, .pd (.int .i64 bad)] 169, .own 92 .cell out] => some (none, .tup [], [.cells [.pd (.str s), .pd (.int .i64 pos), .own 1, .pd (.int .i64 (if bad < 0 then k else bad))] 169, .own 92 .cell out])
 | _, _ => none)
theorem jr : EntOk Tryz.prog jI := entOk fun vs ck => by
 unfold jI; dsimp only; split
 · rename_i k s pos bad out; exact entS fun hp => DJ s pos bad k out
 · exact entN
theorem FZ (c : Cell) (h : room (out.length + 1) 32) : ak Tryz.prog 161 [.c (.loc 0 0), .e .cell c] (zMd2 s pos bad out) (.tup []) [.cells [.pd (.str s), .i pos, .own 2, .i bad] 169, .dead, .own 92 .cell (out ++ [c])] := by
 refine dg aV Tryz.func161 (.need (room ((out ++ [c]).length) 32) (.ret (.tup []) [.cells [.pd (.str s), .i pos, .own 2, .i bad] 169, .dead, .own 92 .cell (out ++ [c])])) fun Γ => ?_
 exact ⟨by rw [aj]; exact h, rfl, rfl⟩
def mi : Ent := (161, fun
 | [.c (.loc 0 0), .agg [.pd (.int .i64 op), .pd (.int .i64 a), .pd (.str nm)]], [.cells [.pd (.str s), .pd (.int .i64 pos), .own 1, .pd (.int .i64 bad)] 169, .own 92 .cell out] => some (some (room (out.length + 1) 32), .tup [], [.cells [.pd (.str s), .pd (.int .i64 pos), .own 2, .pd (.int .i64 bad)] 169, .dead, .own 92 .cell (out ++ [(⟨op, a, nm⟩ : Cell)])])
 | _, _ => none)
theorem lh : EntOk Tryz.prog mi := entOk fun vs ck => by
 unfold mi; dsimp only; split
 · rename_i op a nm s pos bad out; exact entS fun hp => FZ s pos bad out ⟨op, a, nm⟩ hp
 · exact entN
theorem EL (op : Int) : ak Tryz.prog 104 [.i op] [] (.tup [.s (aG op).1, .i (aG op).2]) [] := by
 refine dg aV Tryz.func104 (.ite (op == (23 : Int)) (.ret (.tup [.p (.str [124]), .i 1]) []) (.ite (op == (22 : Int)) (.ret (.tup [.p (.str [38]), .i 2]) []) (.ite (op == (16 : Int)) (.ret (.tup [.p (.str [61]), .i 3]) []) (.ite (op == (17 : Int)) (.ret (.tup [.p (.str [33, 61]), .i 3]) []) (.ite (op == (18 : Int)) (.ret (.tup [.p (.str [60]), .i 3]) []) (.ite (op == (19 : Int)) (.ret (.tup [.p (.str [60, 61]), .i 3]) []) (.ite (op == (20 : Int)) (.ret (.tup [.p (.str [62]), .i 3]) []) (.ite (op == (21 : Int)) (.ret (.tup [.p (.str [62, 61]), .i 3]) []) (.ite (op == (11 : Int)) (.ret (.tup [.p (.str [43]), .i 4]) []) (.ite (op == (12 : Int)) (.ret (.tup [.p (.str [45]), .i 4]) []) (.ite (op == (13 : Int)) (.ret (.tup [.p (.str [42]), .i 5]) []) (.ite (op == (14 : Int)) (.ret (.tup [.p (.str [47]), .i 5]) []) (.ite (op == (15 : Int)) (.ret (.tup [.p (.str [37]), .i 5]) []) (.ite (op == (7 : Int)) (.ret (.tup [.p (.str [45]), .i 6]) []) (.ite (op == (8 : Int)) (.ret (.tup [.p (.str [33]), .i 6]) []) (.ret (.tup [.p (.str []), .i 7]) [])))))))))))))))) fun Γ => ?_
 (repeat' (first | intro h | constructor)) <;> simp only [aG, *, cond_true, cond_false]
def xx : Ent := (104, fun
 | [.c (.pd (.int .i64 op))], [] => some (none, .tup [.c (.pd (.str (aG op).1)), .c (.pd (.int .i64 (aG op).2))], [])
 | _, _ => none)
theorem Jk : EntOk Tryz.prog xx := entOk fun vs ck => by
 unfold xx; dsimp only; split
 · rename_i op; exact entS fun hp => EL op
 · exact entN
def GA : Cfg := ⟨a6, [eHp]⟩
theorem F2 : ah Tryz.prog GA.tab := (ah.cons Gy ah.nil)
theorem sg (b : Str) : ak Tryz.prog 99 [.s a, .s b] [] (.x (.b (aS a b))) [] := by
 refine dg F2 Tryz.func99 (.ret (.p (.bool (decide (ab a ≥ ab b) && List.take ((ab b).toNat) a == b))) []) fun Γ => ?_
 exact ⟨rfl, rfl⟩
def Dz : Ent := (99, fun
 | [.c (.pd (.str a)), .c (.pd (.str b))], [] => some (none, .x (.c (.pd (.bool (aS a b)))), [])
 | _, _ => none)
theorem K2 : EntOk Tryz.prog Dz := entOk fun vs ck => by
 unfold Dz; dsimp only; split
 · rename_i a b; exact entS fun hp => sg a b
 · exact entN
/-! ### words -/
theorem nZ {p : UInt8 → Bool} {s : Str} {m : Nat} (h : m < s.length → p (s.getD m 0) = false) : (s.drop m).takeWhile p = [] := by
 by_cases hm : m < s.length
 · rw [cH hm, dv, if_neg (by rw [h hm]; simp)]
 · rw [dy hm]; rfl
theorem qC {p : UInt8 → Bool} {s : Str} {k m : Nat} (hk : k ≤ m) (hm : m < s.length) (h : p (s.getD m 0) = true) : seg s k m ++ (s.drop m).takeWhile p = seg s k (m + 1) ++ (s.drop (m + 1)).takeWhile p := by
 rw [cH hm, dv, if_pos h, gK hm hk, b7]; rfl
abbrev zMd4 : List PI := [.code [1, 1, 0, 0, 0], .inLoop [1, 1, 0, 0, 0], .inBlock 0, .code [1, 1, 1]]
theorem Dg (k : Nat) (out : List Cell) (Γ : Ctx) (hs : s.length ≤ 1048576) : ∀ (n m : Nat), s.length - m ≤ n → m ≤ s.length → k ≤ m →
 J Tryz.prog 209 (az Tryz.f209) Γ (Eq2 (.x (.s (seg s k m ++ (s.drop m).takeWhile hJ))) [Chunk.cells [SC.pd (PD.str s), SC.i pos, SC.own 1, SC.i bad] 169, Chunk.own 92 ETy.cell out]) zMd4 ({ n := 68, fr := [(0, .x (.c (.loc 0 0))), (1, .i ((k : Int))), (4, .p (.str [])), (5, .i ((m : Int)))], ck := (zMd2 s pos bad out), m := 2 }) := by
 intro n
 induction n with
 | zero => ?_
 | succ n ih => ?_
 all_goals
  intro m hn hm hk
  refine jg aV Tryz.func209 (let x1 := (↑((List.getD s m (0 : UInt8)).toNat) : Int); let x2 := ((m : Int) < ab s); let x3 : List Chunk := (zMd2 s pos bad out); let x4 := (decide (x1 ≥ 97) && decide (x1 ≤ 122)); .need (decide x2 = true → (0 : Int) ≤ (m : Int) ∧ (m : Int) < ab s) (.need (decide x2 = true ∧ decide (x1 ≥ 97) = true → (0 : Int) ≤ (m : Int) ∧ (m : Int) < ab s) (.need (decide x2 = true ∧ x4 = false → (0 : Int) ≤ (m : Int) ∧ (m : Int) < ab s) (.need ((decide x2 = true ∧ x4 = false) ∧ decide (x1 ≥ 48) = true → (0 : Int) ≤ (m : Int) ∧ (m : Int) < ab s) (.need (decide x2 = true ∧ (decide (x1 ≥ 97) && decide (x1 ≤ 122) || decide (x1 ≥ 48) && decide (x1 ≤ 57)) = false → (0 : Int) ≤ (m : Int) ∧ (m : Int) < ab s) (.ite (decide x2 && (decide (x1 ≥ 97) && decide (x1 ≤ 122) || decide (x1 ≥ 48) && decide (x1 ≤ 57) || x1 == 95)) (.stop zMd4 { n := 68, fr := [(0, .x (.c (.loc 0 0))), (1, .i k), (4, .p (.str [])), (5, .i (IntKind.wrap .i64 ((m : Int) + 1)))], ck := x3, m := 2 }) (.need ((0 : Int) ≤ (k : Int) ∧ (k : Int) ≤ (m : Int) ∧ (m : Int) ≤ (s.length : Int)) (.ret (.p (.str ((aw s (some (k : Int)) (some (m : Int))).2))) x3)))))))) ?_
  conv => zeta
  have hL : ab s = (s.length : Int) := rfl
  have inb : decide ((m : Int) < ab s) = true → 0 ≤ (m : Int) ∧ (m : Int) < ab s := fun h => ⟨by omega, of_decide_eq_true h⟩
  refine ⟨inb, fun h => inb h.1, fun h => inb h.1, fun h => inb h.1.1, fun h => inb h.1, fun h => ?_, fun h => ⟨⟨by omega, by omega, by omega⟩, ?_, rfl⟩⟩
  · have h' : (decide ((m : Int) < ab s) && hJ (s.getD m 0)) = true := h
    simp only [af, decide_eq_true_eq] at h'
    have hlt : m < s.length := by omega
    first
    | (exfalso; omega)
    | (rw [cU (by omega), qC hk hlt h'.2]
       exact ih (m + 1) (by omega) (by omega) (by omega))
  · have h' : (decide ((m : Int) < ab s) && hJ (s.getD m 0)) = false := h
    have e : (s.drop m).takeWhile hJ = [] := nZ fun hlt => by
     rw [decide_eq_true (by omega), cf] at h'; exact h'
    rw [e, bZ]; rfl
abbrev zMd3 : List Chunk := [.cells [.pd (.str a), .pd (.int .i64 b), .own 1, .pd (.int .i64 c)] 169, .own 92 .cell d]
theorem Eg (hs : s.length ≤ 1048576) (h0 : 0 ≤ k) (h1 : k ≤ ab s) : ak Tryz.prog 209 [.c (.loc 0 0), .i k] (zMd3 s pos bad out) (.x (.s (ay s k))) (zMd3 s pos bad out) := by
 obtain ⟨k, rfl⟩ := cS h0
 refine dg aV Tryz.func209 (.stop zMd4 { n := 68, fr := [(0, .x (.c (.loc 0 0))), (1, .i k), (4, .p (.str [])), (5, .i k)], ck := (zMd2 s pos bad out), m := 2 }) fun Γ => ?_
 have hL : ab s = (s.length : Int) := rfl
 have h := Dg s pos bad k out Γ hs s.length k (by omega) (by omega) (aD _)
 rw [eV] at h
 exact h
def pF : Ent := (209, fun
 | [.c (.loc 0 0), .c (.pd (.int .i64 k))], [.cells [.pd (.str s), .pd (.int .i64 pos), .own 1, .pd (.int .i64 bad)] 169, .own 92 .cell out] => some (some (s.length ≤ 1048576 ∧ 0 ≤ k ∧ k ≤ ab s), .x (.c (.pd (.str (ay s k)))), [.cells [.pd (.str s), .pd (.int .i64 pos), .own 1, .pd (.int .i64 bad)] 169, .own 92 .cell out])
 | _, _ => none)
theorem v8 : EntOk Tryz.prog pF := entOk fun vs ck => by
 unfold pF; dsimp only; split
 · rename_i k s pos bad out; exact entS fun hp => Eg s pos bad k out hp.1 hp.2.1 hp.2.2
 · exact entN
/-! ### operators -/
theorem fO (h : ((aG op).2 == p && aS rest (aG op).1) = true) : bp rest p (op :: l) = (op, ab (aG op).1) := by
 rw [bp, h]; rfl
theorem ff (h : ((aG op).2 == p && aS rest (aG op).1) = false) : bp rest p (op :: l) = bp rest p l := by
 rw [bp, h]; rfl
def fC : Cfg := ⟨a6, [xx, Dz]⟩
theorem dP : ah Tryz.prog fC.tab := (ah.cons Jk (ah.cons K2 ah.nil))
abbrev zMd1 : List PI := [.code [1, 1, 0, 1, 0, 0], .inLoop [1, 1, 0, 1, 0, 0], .inBlock 0, .code [1, 1, 1]]
theorem DN (p : Int) (out : List Cell) (h0 : 0 ≤ pos) (h1 : pos ≤ ab s) : ak Tryz.prog 160 [.c (.loc 0 0), .i p] (zMd3 s pos bad out) (.tup [.i (bw (s.drop pos.toNat) p).1, .i (bw (s.drop pos.toNat) p).2]) (zMd3 s pos bad out) := by
 refine dg dP Tryz.func160 (.need ((0 : Int) ≤ pos ∧ pos ≤ (s.length : Int)) (.stop zMd1 { n := 41, fr := [(6, .p (.str ((aw s (some pos) none).2))), (1, .i p), (4, .i 0), (5, .i 0), (20, .x (.agg [.i 17, .i 19, .i 21, .i 18, .i 20, .i 16, .i 23, .i 22, .i 11, .i 12, .i 13, .i 14, .i 15])), (21, .i 0)], ck := (zMd2 s pos bad out), m := 2 })) fun Γ => ?_
 refine ⟨⟨h0, h1⟩, ?_⟩
 have fin : zJ160Md Γ (Eq2 (.tup [.i (bp (s.drop pos.toNat) p (opsL.drop 13)).1, .i (bp (s.drop pos.toNat) p (opsL.drop 13)).2]) [Chunk.cells [SC.pd (PD.str s), SC.i pos, SC.own 1, SC.i bad] 169, Chunk.own 92 ETy.cell out]) zMd1 ({ n := 41, fr := [(6, .p (.str ((aw s (some pos) none).2))), (1, .i p), (4, .i 0), (5, .i 0), (20, .x (.agg [.i 17, .i 19, .i 21, .i 18, .i 20, .i 16, .i 23, .i 22, .i 11, .i 12, .i 13, .i 14, .i 15])), (21, .i ((13 : Int)))], ck := (zMd2 s pos bad out), m := 2 }) := by
  refine jg dP Tryz.func160 (.ite false (.stop [.ops [1, 1, 0, 1, 0, 0, 1, 1, 0, 0, 0] 0, .code [1, 1, 0, 1, 0, 0, 1, 1, 0, 0, 1], .inBlock 1, .code [1, 1, 0, 1, 0, 0, 1, 1, 1], .inLoop [1, 1, 0, 1, 0, 0], .inBlock 0, .code [1, 1, 1]] { n := 41, fr := [(6, .p (.str ((aw s (some pos) none).2))), (1, .i p), (4, .i 0), (5, .i 0), (20, .x (.agg [.i 17, .i 19, .i 21, .i 18, .i 20, .i 16, .i 23, .i 22, .i 11, .i 12, .i 13, .i 14, .i 15])), (21, .i 13)], ck := (zMd2 s pos bad out), m := 2 }) (.ret (.tup [.i 0, .i 0]) (zMd2 s pos bad out))) ?_
  exact ⟨fun h => Bool.noConfusion h, fun _ => ⟨rfl, rfl⟩⟩
 have s12 : zJ160Md Γ (Eq2 (.tup [.i (bp (s.drop pos.toNat) p (opsL.drop 12)).1, .i (bp (s.drop pos.toNat) p (opsL.drop 12)).2]) [Chunk.cells [SC.pd (PD.str s), SC.i pos, SC.own 1, SC.i bad] 169, Chunk.own 92 ETy.cell out]) zMd1 ({ n := 41, fr := [(6, .p (.str ((aw s (some pos) none).2))), (1, .i p), (4, .i 0), (5, .i 0), (20, .x (.agg [.i 17, .i 19, .i 21, .i 18, .i 20, .i 16, .i 23, .i 22, .i 11, .i 12, .i 13, .i 14, .i 15])), (21, .i ((12 : Int)))], ck := (zMd2 s pos bad out), m := 2 }) := by
  refine jg dP Tryz.func160 (let x1 : List Chunk := (zMd2 s pos bad out); .ite true (.need ((0 : Int) ≤ 12 ∧ (12 : Int) < (↑(13 : Nat) : Int)) (.ite ((aG (15 : Int)).2 == p && aS ((aw s (some pos) none).2) ((aG (15 : Int)).1)) (.ret (.tup [.i 15, .i (ab ((aG (15 : Int)).1))]) x1) (.stop zMd1 { n := 41, fr := [(6, .p (.str ((aw s (some pos) none).2))), (1, .i p), (4, .i 0), (5, .i 0), (20, .x (.agg [.i 17, .i 19, .i 21, .i 18, .i 20, .i 16, .i 23, .i 22, .i 11, .i 12, .i 13, .i 14, .i 15])), (21, .i (IntKind.wrap .i64 ((12 : Int) + 1)))], ck := x1, m := 2 }))) (.ret (.tup [.i 0, .i 0]) x1)) ?_
  conv => zeta
  refine ⟨fun _ => ⟨by decide, fun h => ?_, fun h => ?_⟩, fun h => Bool.noConfusion h⟩
  · have e : bp (s.drop pos.toNat) p (opsL.drop 12) = (15, ab (aG 15).1) := fO h
    rw [e]; exact ⟨rfl, rfl⟩
  · have e : bp (s.drop pos.toNat) p (opsL.drop 12) = bp (s.drop pos.toNat) p (opsL.drop 13) := ff (op := 15) h
    rw [e]; exact fin
 have s11 : zJ160Md Γ (Eq2 (.tup [.i (bp (s.drop pos.toNat) p (opsL.drop 11)).1, .i (bp (s.drop pos.toNat) p (opsL.drop 11)).2]) [Chunk.cells [SC.pd (PD.str s), SC.i pos, SC.own 1, SC.i bad] 169, Chunk.own 92 ETy.cell out]) zMd1 ({ n := 41, fr := [(6, .p (.str ((aw s (some pos) none).2))), (1, .i p), (4, .i 0), (5, .i 0), (20, .x (.agg [.i 17, .i 19, .i 21, .i 18, .i 20, .i 16, .i 23, .i 22, .i 11, .i 12, .i 13, .i 14, .i 15])), (21, .i ((11 : Int)))], ck := (zMd2 s pos bad out), m := 2 }) := by
  refine jg dP Tryz.func160 (let x1 : List Chunk := (zMd2 s pos bad out); .ite true (.need ((0 : Int) ≤ 11 ∧ (11 : Int) < (↑(13 : Nat) : Int)) (.ite ((aG (14 : Int)).2 == p && aS ((aw s (some pos) none).2) ((aG (14 : Int)).1)) (.ret (.tup [.i 14, .i (ab ((aG (14 : Int)).1))]) x1) (.stop zMd1 { n := 41, fr := [(6, .p (.str ((aw s (some pos) none).2))), (1, .i p), (4, .i 0), (5, .i 0), (20, .x (.agg [.i 17, .i 19, .i 21, .i 18, .i 20, .i 16, .i 23, .i 22, .i 11, .i 12, .i 13, .i 14, .i 15])), (21, .i (IntKind.wrap .i64 ((11 : Int) + 1)))], ck := x1, m := 2 }))) (.ret (.tup [.i 0, .i 0]) x1)) ?_
  conv => zeta
  refine ⟨fun _ => ⟨by decide, fun h => ?_, fun h => ?_⟩, fun h => Bool.noConfusion h⟩
  · have e : bp (s.drop pos.toNat) p (opsL.drop 11) = (14, ab (aG 14).1) := fO h
    rw [e]; exact ⟨rfl, rfl⟩
  · have e : bp (s.drop pos.toNat) p (opsL.drop 11) = bp (s.drop pos.toNat) p (opsL.drop 12) := ff (op := 14) h
    rw [e]; exact s12
 have s10 : zJ160Md Γ (Eq2 (.tup [.i (bp (s.drop pos.toNat) p (opsL.drop 10)).1, .i (bp (s.drop pos.toNat) p (opsL.drop 10)).2]) [Chunk.cells [SC.pd (PD.str s), SC.i pos, SC.own 1, SC.i bad] 169, Chunk.own 92 ETy.cell out]) zMd1 ({ n := 41, fr := [(6, .p (.str ((aw s (some pos) none).2))), (1, .i p), (4, .i 0), (5, .i 0), (20, .x (.agg [.i 17, .i 19, .i 21, .i 18, .i 20, .i 16, .i 23, .i 22, .i 11, .i 12, .i 13, .i 14, .i 15])), (21, .i ((10 : Int)))], ck := (zMd2 s pos bad out), m := 2 }) := by
  refine jg dP Tryz.func160 (let x1 : List Chunk := (zMd2 s pos bad out); .ite true (.need ((0 : Int) ≤ 10 ∧ (10 : Int) < (↑(13 : Nat) : Int)) (.ite ((aG (13 : Int)).2 == p && aS ((aw s (some pos) none).2) ((aG (13 : Int)).1)) (.ret (.tup [.i 13, .i (ab ((aG (13 : Int)).1))]) x1) (.stop zMd1 { n := 41, fr := [(6, .p (.str ((aw s (some pos) none).2))), (1, .i p), (4, .i 0), (5, .i 0), (20, .x (.agg [.i 17, .i 19, .i 21, .i 18, .i 20, .i 16, .i 23, .i 22, .i 11, .i 12, .i 13, .i 14, .i 15])), (21, .i (IntKind.wrap .i64 ((10 : Int) + 1)))], ck := x1, m := 2 }))) (.ret (.tup [.i 0, .i 0]) x1)) ?_
  conv => zeta
  refine ⟨fun _ => ⟨by decide, fun h => ?_, fun h => ?_⟩, fun h => Bool.noConfusion h⟩
  · have e : bp (s.drop pos.toNat) p (opsL.drop 10) = (13, ab (aG 13).1) := fO h
    rw [e]; exact ⟨rfl, rfl⟩
  · have e : bp (s.drop pos.toNat) p (opsL.drop 10) = bp (s.drop pos.toNat) p (opsL.drop 11) := ff (op := 13) h
    rw [e]; exact s11
 have s9 : zJ160Md Γ (Eq2 (.tup [.i (bp (s.drop pos.toNat) p (opsL.drop 9)).1, .i (bp (s.drop pos.toNat) p (opsL.drop 9)).2]) [Chunk.cells [SC.pd (PD.str s), SC.i pos, SC.own 1, SC.i bad] 169, Chunk.own 92 ETy.cell out]) zMd1 ({ n := 41, fr := [(6, .p (.str ((aw s (some pos) none).2))), (1, .i p), (4, .i 0), (5, .i 0), (20, .x (.agg [.i 17, .i 19, .i 21, .i 18, .i 20, .i 16, .i 23, .i 22, .i 11, .i 12, .i 13, .i 14, .i 15])), (21, .i ((9 : Int)))], ck := (zMd2 s pos bad out), m := 2 }) := by
  refine jg dP Tryz.func160 (let x1 : List Chunk := (zMd2 s pos bad out); .ite true (.need ((0 : Int) ≤ 9 ∧ (9 : Int) < (↑(13 : Nat) : Int)) (.ite ((aG (12 : Int)).2 == p && aS ((aw s (some pos) none).2) ((aG (12 : Int)).1)) (.ret (.tup [.i 12, .i (ab ((aG (12 : Int)).1))]) x1) (.stop zMd1 { n := 41, fr := [(6, .p (.str ((aw s (some pos) none).2))), (1, .i p), (4, .i 0), (5, .i 0), (20, .x (.agg [.i 17, .i 19, .i 21, .i 18, .i 20, .i 16, .i 23, .i 22, .i 11, .i 12, .i 13, .i 14, .i 15])), (21, .i (IntKind.wrap .i64 ((9 : Int) + 1)))], ck := x1, m := 2 }))) (.ret (.tup [.i 0, .i 0]) x1)) ?_
  conv => zeta
  refine ⟨fun _ => ⟨by decide, fun h => ?_, fun h => ?_⟩, fun h => Bool.noConfusion h⟩
  · have e : bp (s.drop pos.toNat) p (opsL.drop 9) = (12, ab (aG 12).1) := fO h
    rw [e]; exact ⟨rfl, rfl⟩
  · have e : bp (s.drop pos.toNat) p (opsL.drop 9) = bp (s.drop pos.toNat) p (opsL.drop 10) := ff (op := 12) h
    rw [e]; exact s10
 have s8 : zJ160Md Γ (Eq2 (.tup [.i (bp (s.drop pos.toNat) p (opsL.drop 8)).1, .i (bp (s.drop pos.toNat) p (opsL.drop 8)).2]) [Chunk.cells [SC.pd (PD.str s), SC.i pos, SC.own 1, SC.i bad] 169, Chunk.own 92 ETy.cell out]) zMd1 ({ n := 41, fr := [(6, .p (.str ((aw s (some pos) none).2))), (1, .i p), (4, .i 0), (5, .i 0), (20, .x (.agg [.i 17, .i 19, .i 21, .i 18, .i 20, .i 16, .i 23, .i 22, .i 11, .i 12, .i 13, .i 14, .i 15])), (21, .i ((8 : Int)))], ck := (zMd2 s pos bad out), m := 2 }) := by
  refine jg dP Tryz.func160 (let x1 : List Chunk := (zMd2 s pos bad out); .ite true (.need ((0 : Int) ≤ 8 ∧ (8 : Int) < (↑(13 : Nat) : Int)) (.ite ((aG (11 : Int)).2 == p && aS ((aw s (some pos) none).2) ((aG (11 : Int)).1)) (.ret (.tup [.i 11, .i (ab ((aG (11 : Int)).1))]) x1) (.stop zMd1 { n := 41, fr := [(6, .p (.str ((aw s (some pos) none).2))), (1, .i p), (4, .i 0), (5, .i 0), (20, .x (.agg [.i 17, .i 19, .i 21, .i 18, .i 20, .i 16, .i 23, .i 22, .i 11, .i 12, .i 13, .i 14, .i 15])), (21, .i (IntKind.wrap .i64 ((8 : Int) + 1)))], ck := x1, m := 2 }))) (.ret (.tup [.i 0, .i 0]) x1)) ?_
  conv => zeta
  refine ⟨fun _ => ⟨by decide, fun h => ?_, fun h => ?_⟩, fun h => Bool.noConfusion h⟩
  · have e : bp (s.drop pos.toNat) p (opsL.drop 8) = (11, ab (aG 11).1) := fO h
    rw [e]; exact ⟨rfl, rfl⟩
  · have e : bp (s.drop pos.toNat) p (opsL.drop 8) = bp (s.drop pos.toNat) p (opsL.drop 9) := ff (op := 11) h
    rw [e]; exact s9
 have s7 : zJ160Md Γ (Eq2 (.tup [.i (bp (s.drop pos.toNat) p (opsL.drop 7)).1, .i (bp (s.drop pos.toNat) p (opsL.drop 7)).2]) [Chunk.cells [SC.pd (PD.str s), SC.i pos, SC.own 1, SC.i bad] 169, Chunk.own 92 ETy.cell out]) zMd1 ({ n := 41, fr := [(6, .p (.str ((aw s (some pos) none).2))), (1, .i p), (4, .i 0), (5, .i 0), (20, .x (.agg [.i 17, .i 19, .i 21, .i 18, .i 20, .i 16, .i 23, .i 22, .i 11, .i 12, .i 13, .i 14, .i 15])), (21, .i ((7 : Int)))], ck := (zMd2 s pos bad out), m := 2 }) := by
  refine jg dP Tryz.func160 (let x1 : List Chunk := (zMd2 s pos bad out); .ite true (.need ((0 : Int) ≤ 7 ∧ (7 : Int) < (↑(13 : Nat) : Int)) (.ite ((aG (22 : Int)).2 == p && aS ((aw s (some pos) none).2) ((aG (22 : Int)).1)) (.ret (.tup [.i 22, .i (ab ((aG (22 : Int)).1))]) x1) (.stop zMd1 { n := 41, fr := [(6, .p (.str ((aw s (some pos) none).2))), (1, .i p), (4, .i 0), (5, .i 0), (20, .x (.agg [.i 17, .i 19, .i 21, .i 18, .i 20, .i 16, .i 23, .i 22, .i 11, .i 12, .i 13, .i 14, .i 15])), (21, .i (IntKind.wrap .i64 ((7 : Int) + 1)))], ck := x1, m := 2 }))) (.ret (.tup [.i 0, .i 0]) x1)) ?_
  conv => zeta
  refine ⟨fun _ => ⟨by decide, fun h => ?_, fun h => ?_⟩, fun h => Bool.noConfusion h⟩
  · have e : bp (s.drop pos.toNat) p (opsL.drop 7) = (22, ab (aG 22).1) := fO h
    rw [e]; exact ⟨rfl, rfl⟩
  · have e : bp (s.drop pos.toNat) p (opsL.drop 7) = bp (s.drop pos.toNat) p (opsL.drop 8) := ff (op := 22) h
    rw [e]; exact s8
 have s6 : zJ160Md Γ (Eq2 (.tup [.i (bp (s.drop pos.toNat) p (opsL.drop 6)).1, .i (bp (s.drop pos.toNat) p (opsL.drop 6)).2]) [Chunk.cells [SC.pd (PD.str s), SC.i pos, SC.own 1, SC.i bad] 169, Chunk.own 92 ETy.cell out]) zMd1 ({ n := 41, fr := [(6, .p (.str ((aw s (some pos) none).2))), (1, .i p), (4, .i 0), (5, .i 0), (20, .x (.agg [.i 17, .i 19, .i 21, .i 18, .i 20, .i 16, .i 23, .i 22, .i 11, .i 12, .i 13, .i 14, .i 15])), (21, .i ((6 : Int)))], ck := (zMd2 s pos bad out), m := 2 }) := by
  refine jg dP Tryz.func160 (let x1 : List Chunk := (zMd2 s pos bad out); .ite true (.need ((0 : Int) ≤ 6 ∧ (6 : Int) < (↑(13 : Nat) : Int)) (.ite ((aG (23 : Int)).2 == p && aS ((aw s (some pos) none).2) ((aG (23 : Int)).1)) (.ret (.tup [.i 23, .i (ab ((aG (23 : Int)).1))]) x1) (.stop zMd1 { n := 41, fr := [(6, .p (.str ((aw s (some pos) none).2))), (1, .i p), (4, .i 0), (5, .i 0), (20, .x (.agg [.i 17, .i 19, .i 21, .i 18, .i 20, .i 16, .i 23, .i 22, .i 11, .i 12, .i 13, .i 14, .i 15])), (21, .i (IntKind.wrap .i64 ((6 : Int) + 1)))], ck := x1, m := 2 }))) (.ret (.tup [.i 0, .i 0]) x1)) ?_
  conv => zeta
  refine ⟨fun _ => ⟨by decide, fun h => ?_, fun h => ?_⟩, fun h => Bool.noConfusion h⟩
  · have e : bp (s.drop pos.toNat) p (opsL.drop 6) = (23, ab (aG 23).1) := fO h
    rw [e]; exact ⟨rfl, rfl⟩
  · have e : bp (s.drop pos.toNat) p (opsL.drop 6) = bp (s.drop pos.toNat) p (opsL.drop 7) := ff (op := 23) h
    rw [e]; exact s7
 have s5 : zJ160Md Γ (Eq2 (.tup [.i (bp (s.drop pos.toNat) p (opsL.drop 5)).1, .i (bp (s.drop pos.toNat) p (opsL.drop 5)).2]) [Chunk.cells [SC.pd (PD.str s), SC.i pos, SC.own 1, SC.i bad] 169, Chunk.own 92 ETy.cell out]) zMd1 ({ n := 41, fr := [(6, .p (.str ((aw s (some pos) none).2))), (1, .i p), (4, .i 0), (5, .i 0), (20, .x (.agg [.i 17, .i 19, .i 21, .i 18, .i 20, .i 16, .i 23, .i 22, .i 11, .i 12, .i 13, .i 14, .i 15])), (21, .i ((5 : Int)))], ck := (zMd2 s pos bad out), m := 2 }) := by
  refine jg dP Tryz.func160 (let x1 : List Chunk := (zMd2 s pos bad out); .ite true (.need ((0 : Int) ≤ 5 ∧ (5 : Int) < (↑(13 : Nat) : Int)) (.ite ((aG (16 : Int)).2 == p && aS ((aw s (some pos) none).2) ((aG (16 : Int)).1)) (.ret (.tup [.i 16, .i (ab ((aG (16 : Int)).1))]) x1) (.stop zMd1 { n := 41, fr := [(6, .p (.str ((aw s (some pos) none).2))), (1, .i p), (4, .i 0), (5, .i 0), (20, .x (.agg [.i 17, .i 19, .i 21, .i 18, .i 20, .i 16, .i 23, .i 22, .i 11, .i 12, .i 13, .i 14, .i 15])), (21, .i (IntKind.wrap .i64 ((5 : Int) + 1)))], ck := x1, m := 2 }))) (.ret (.tup [.i 0, .i 0]) x1)) ?_
  conv => zeta
  refine ⟨fun _ => ⟨by decide, fun h => ?_, fun h => ?_⟩, fun h => Bool.noConfusion h⟩
  · have e : bp (s.drop pos.toNat) p (opsL.drop 5) = (16, ab (aG 16).1) := fO h
    rw [e]; exact ⟨rfl, rfl⟩
  · have e : bp (s.drop pos.toNat) p (opsL.drop 5) = bp (s.drop pos.toNat) p (opsL.drop 6) := ff (op := 16) h
    rw [e]; exact s6
 have s4 : zJ160Md Γ (Eq2 (.tup [.i (bp (s.drop pos.toNat) p (opsL.drop 4)).1, .i (bp (s.drop pos.toNat) p (opsL.drop 4)).2]) [Chunk.cells [SC.pd (PD.str s), SC.i pos, SC.own 1, SC.i bad] 169, Chunk.own 92 ETy.cell out]) zMd1 ({ n := 41, fr := [(6, .p (.str ((aw s (some pos) none).2))), (1, .i p), (4, .i 0), (5, .i 0), (20, .x (.agg [.i 17, .i 19, .i 21, .i 18, .i 20, .i 16, .i 23, .i 22, .i 11, .i 12, .i 13, .i 14, .i 15])), (21, .i ((4 : Int)))], ck := (zMd2 s pos bad out), m := 2 }) := by
  refine jg dP Tryz.func160 (let x1 : List Chunk := (zMd2 s pos bad out); .ite true (.need ((0 : Int) ≤ 4 ∧ (4 : Int) < (↑(13 : Nat) : Int)) (.ite ((aG (20 : Int)).2 == p && aS ((aw s (some pos) none).2) ((aG (20 : Int)).1)) (.ret (.tup [.i 20, .i (ab ((aG (20 : Int)).1))]) x1) (.stop zMd1 { n := 41, fr := [(6, .p (.str ((aw s (some pos) none).2))), (1, .i p), (4, .i 0), (5, .i 0), (20, .x (.agg [.i 17, .i 19, .i 21, .i 18, .i 20, .i 16, .i 23, .i 22, .i 11, .i 12, .i 13, .i 14, .i 15])), (21, .i (IntKind.wrap .i64 ((4 : Int) + 1)))], ck := x1, m := 2 }))) (.ret (.tup [.i 0, .i 0]) x1)) ?_
  conv => zeta
  refine ⟨fun _ => ⟨by decide, fun h => ?_, fun h => ?_⟩, fun h => Bool.noConfusion h⟩
  · have e : bp (s.drop pos.toNat) p (opsL.drop 4) = (20, ab (aG 20).1) := fO h
    rw [e]; exact ⟨rfl, rfl⟩
  · have e : bp (s.drop pos.toNat) p (opsL.drop 4) = bp (s.drop pos.toNat) p (opsL.drop 5) := ff (op := 20) h
    rw [e]; exact s5
 have s3 : zJ160Md Γ (Eq2 (.tup [.i (bp (s.drop pos.toNat) p (opsL.drop 3)).1, .i (bp (s.drop pos.toNat) p (opsL.drop 3)).2]) [Chunk.cells [SC.pd (PD.str s), SC.i pos, SC.own 1, SC.i bad] 169, Chunk.own 92 ETy.cell out]) zMd1 ({ n := 41, fr := [(6, .p (.str ((aw s (some pos) none).2))), (1, .i p), (4, .i 0), (5, .i 0), (20, .x (.agg [.i 17, .i 19, .i 21, .i 18, .i 20, .i 16, .i 23, .i 22, .i 11, .i 12, .i 13, .i 14, .i 15])), (21, .i ((3 : Int)))], ck := (zMd2 s pos bad out), m := 2 }) := by
  refine jg dP Tryz.func160 (let x1 : List Chunk := (zMd2 s pos bad out); .ite true (.need ((0 : Int) ≤ 3 ∧ (3 : Int) < (↑(13 : Nat) : Int)) (.ite ((aG (18 : Int)).2 == p && aS ((aw s (some pos) none).2) ((aG (18 : Int)).1)) (.ret (.tup [.i 18, .i (ab ((aG (18 : Int)).1))]) x1) (.stop zMd1 { n := 41, fr := [(6, .p (.str ((aw s (some pos) none).2))), (1, .i p), (4, .i 0), (5, .i 0), (20, .x (.agg [.i 17, .i 19, .i 21, .i 18, .i 20, .i 16, .i 23, .i 22, .i 11, .i 12, .i 13, .i 14, .i 15])), (21, .i (IntKind.wrap .i64 ((3 : Int) + 1)))], ck := x1, m := 2 }))) (.ret (.tup [.i 0, .i 0]) x1)) ?_
  conv => zeta
  refine ⟨fun _ => ⟨by decide, fun h => ?_, fun h => ?_⟩, fun h => Bool.noConfusion h⟩
  · have e : bp (s.drop pos.toNat) p (opsL.drop 3) = (18, ab (aG 18).1) := fO h
    rw [e]; exact ⟨rfl, rfl⟩
  · have e : bp (s.drop pos.toNat) p (opsL.drop 3) = bp (s.drop pos.toNat) p (opsL.drop 4) := ff (op := 18) h
    rw [e]; exact s4
 have s2 : zJ160Md Γ (Eq2 (.tup [.i (bp (s.drop pos.toNat) p (opsL.drop 2)).1, .i (bp (s.drop pos.toNat) p (opsL.drop 2)).2]) [Chunk.cells [SC.pd (PD.str s), SC.i pos, SC.own 1, SC.i bad] 169, Chunk.own 92 ETy.cell out]) zMd1 ({ n := 41, fr := [(6, .p (.str ((aw s (some pos) none).2))), (1, .i p), (4, .i 0), (5, .i 0), (20, .x (.agg [.i 17, .i 19, .i 21, .i 18, .i 20, .i 16, .i 23, .i 22, .i 11, .i 12, .i 13, .i 14, .i 15])), (21, .i ((2 : Int)))], ck := (zMd2 s pos bad out), m := 2 }) := by
  refine jg dP Tryz.func160 (let x1 : List Chunk := (zMd2 s pos bad out); .ite true (.need ((0 : Int) ≤ 2 ∧ (2 : Int) < (↑(13 : Nat) : Int)) (.ite ((aG (21 : Int)).2 == p && aS ((aw s (some pos) none).2) ((aG (21 : Int)).1)) (.ret (.tup [.i 21, .i (ab ((aG (21 : Int)).1))]) x1) (.stop zMd1 { n := 41, fr := [(6, .p (.str ((aw s (some pos) none).2))), (1, .i p), (4, .i 0), (5, .i 0), (20, .x (.agg [.i 17, .i 19, .i 21, .i 18, .i 20, .i 16, .i 23, .i 22, .i 11, .i 12, .i 13, .i 14, .i 15])), (21, .i (IntKind.wrap .i64 ((2 : Int) + 1)))], ck := x1, m := 2 }))) (.ret (.tup [.i 0, .i 0]) x1)) ?_
  conv => zeta
  refine ⟨fun _ => ⟨by decide, fun h => ?_, fun h => ?_⟩, fun h => Bool.noConfusion h⟩
  · have e : bp (s.drop pos.toNat) p (opsL.drop 2) = (21, ab (aG 21).1) := fO h
    rw [e]; exact ⟨rfl, rfl⟩
  · have e : bp (s.drop pos.toNat) p (opsL.drop 2) = bp (s.drop pos.toNat) p (opsL.drop 3) := ff (op := 21) h
    rw [e]; exact s3
 have s1 : zJ160Md Γ (Eq2 (.tup [.i (bp (s.drop pos.toNat) p (opsL.drop 1)).1, .i (bp (s.drop pos.toNat) p (opsL.drop 1)).2]) [Chunk.cells [SC.pd (PD.str s), SC.i pos, SC.own 1, SC.i bad] 169, Chunk.own 92 ETy.cell out]) zMd1 ({ n := 41, fr := [(6, .p (.str ((aw s (some pos) none).2))), (1, .i p), (4, .i 0), (5, .i 0), (20, .x (.agg [.i 17, .i 19, .i 21, .i 18, .i 20, .i 16, .i 23, .i 22, .i 11, .i 12, .i 13, .i 14, .i 15])), (21, .i ((1 : Int)))], ck := (zMd2 s pos bad out), m := 2 }) := by
  refine jg dP Tryz.func160 (let x1 : List Chunk := (zMd2 s pos bad out); .ite true (.need ((0 : Int) ≤ 1 ∧ (1 : Int) < (↑(13 : Nat) : Int)) (.ite ((aG (19 : Int)).2 == p && aS ((aw s (some pos) none).2) ((aG (19 : Int)).1)) (.ret (.tup [.i 19, .i (ab ((aG (19 : Int)).1))]) x1) (.stop zMd1 { n := 41, fr := [(6, .p (.str ((aw s (some pos) none).2))), (1, .i p), (4, .i 0), (5, .i 0), (20, .x (.agg [.i 17, .i 19, .i 21, .i 18, .i 20, .i 16, .i 23, .i 22, .i 11, .i 12, .i 13, .i 14, .i 15])), (21, .i (IntKind.wrap .i64 ((1 : Int) + 1)))], ck := x1, m := 2 }))) (.ret (.tup [.i 0, .i 0]) x1)) ?_
  conv => zeta
  refine ⟨fun _ => ⟨by decide, fun h => ?_, fun h => ?_⟩, fun h => Bool.noConfusion h⟩
  · have e : bp (s.drop pos.toNat) p (opsL.drop 1) = (19, ab (aG 19).1) := fO h
    rw [e]; exact ⟨rfl, rfl⟩
  · have e : bp (s.drop pos.toNat) p (opsL.drop 1) = bp (s.drop pos.toNat) p (opsL.drop 2) := ff (op := 19) h
    rw [e]; exact s2
 have s0 : zJ160Md Γ (Eq2 (.tup [.i (bp (s.drop pos.toNat) p (opsL.drop 0)).1, .i (bp (s.drop pos.toNat) p (opsL.drop 0)).2]) [Chunk.cells [SC.pd (PD.str s), SC.i pos, SC.own 1, SC.i bad] 169, Chunk.own 92 ETy.cell out]) zMd1 ({ n := 41, fr := [(6, .p (.str ((aw s (some pos) none).2))), (1, .i p), (4, .i 0), (5, .i 0), (20, .x (.agg [.i 17, .i 19, .i 21, .i 18, .i 20, .i 16, .i 23, .i 22, .i 11, .i 12, .i 13, .i 14, .i 15])), (21, .i ((0 : Int)))], ck := (zMd2 s pos bad out), m := 2 }) := by
  refine jg dP Tryz.func160 (let x1 : List Chunk := (zMd2 s pos bad out); .ite true (.need ((0 : Int) ≤ 0 ∧ (0 : Int) < (↑(13 : Nat) : Int)) (.ite ((aG (17 : Int)).2 == p && aS ((aw s (some pos) none).2) ((aG (17 : Int)).1)) (.ret (.tup [.i 17, .i (ab ((aG (17 : Int)).1))]) x1) (.stop zMd1 { n := 41, fr := [(6, .p (.str ((aw s (some pos) none).2))), (1, .i p), (4, .i 0), (5, .i 0), (20, .x (.agg [.i 17, .i 19, .i 21, .i 18, .i 20, .i 16, .i 23, .i 22, .i 11, .i 12, .i 13, .i 14, .i 15])), (21, .i (IntKind.wrap .i64 ((0 : Int) + 1)))], ck := x1, m := 2 }))) (.ret (.tup [.i 0, .i 0]) x1)) ?_
  conv => zeta
  refine ⟨fun _ => ⟨by decide, fun h => ?_, fun h => ?_⟩, fun h => Bool.noConfusion h⟩
  · have e : bp (s.drop pos.toNat) p (opsL.drop 0) = (17, ab (aG 17).1) := fO h
    rw [e]; exact ⟨rfl, rfl⟩
  · have e : bp (s.drop pos.toNat) p (opsL.drop 0) = bp (s.drop pos.toNat) p (opsL.drop 1) := ff (op := 17) h
    rw [e]; exact s1
 exact s0
def ti : Ent := (160, fun
 | [.c (.loc 0 0), .c (.pd (.int .i64 p))], [.cells [.pd (.str s), .pd (.int .i64 pos), .own 1, .pd (.int .i64 bad)] 169, .own 92 .cell out] => some (some (0 ≤ pos ∧ pos ≤ ab s), .tup [.c (.pd (.int .i64 (bw (s.drop pos.toNat) p).1)), .c (.pd (.int .i64 (bw (s.drop pos.toNat) p).2))], [.cells [.pd (.str s), .pd (.int .i64 pos), .own 1, .pd (.int .i64 bad)] 169, .own 92 .cell out])
 | _, _ => none)
theorem Fv : EntOk Tryz.prog ti := entOk fun vs ck => by
 unfold ti; dsimp only; split
 · rename_i p s pos bad out; exact entS fun hp => DN s pos bad p out hp.1 hp.2
 · exact entN
/-! ### a closing parenthesis -/
def yc : Cfg := ⟨a6, [jI]⟩
theorem A9 : ah Tryz.prog yc.tab := (ah.cons jr ah.nil)
theorem A3 (hb : bad < 0 → 0 ≤ pos ∧ pos ≤ ab s) (h0 : -1 ≤ pos) (h1 : pos ≤ 1099511627776) : ak Tryz.prog 208 [.c (.loc 0 0)] (zMd3 s pos bad out) (.tup []) [.cells [.pd (.str s), .i (pos + 1), .own 1, .i (bx s ⟨pos, out, bad⟩).bad] 169, .own 92 .cell out] := by
 refine dg A9 Tryz.func208 (.need ((((16, 18, false, eU false (pos == ab s) (some (5, 7, true, eU true (decide (bad < (0 : Int))) none))).2).2).2 → (0 : Int) ≤ pos ∧ pos < ab s) (.ite (decide (bad < (0 : Int)) && (pos == ab s || (↑((List.getD s (Int.toNat pos) (0 : UInt8)).toNat) : Int) != 41)) (.ret (.tup []) [.cells [.pd (.str s), .i (IntKind.wrap .i64 (pos + (1 : Int))), .own 1, .i (if bad < (0 : Int) then pos else bad)] 169, .own 92 .cell out]) (.ret (.tup []) [.cells [.pd (.str s), .i (IntKind.wrap .i64 (pos + (1 : Int))), .own 1, .i bad] 169, .own 92 .cell out]))) fun Γ => ?_
 have e : IntKind.wrap .i64 (pos + 1) = pos + 1 := bG (by omega) (by omega)
 rw [e]
 refine ⟨fun h => ?_, fun h => ⟨rfl, ?_⟩, fun h => ⟨rfl, ?_⟩⟩
 · simp [eU] at h
   have := hb h.1
   omega
 · have h' : bad < 0 ∧ (pos = ab s ∨ bD s pos ≠ 41) := by
    simp only [af, aA, decide_eq_true_eq, beq_iff_eq, bne_iff_ne] at h
    exact h
   have e2 : (bx s ⟨pos, out, bad⟩).bad = (if bad < 0 then pos else bad) := by unfold bx; rw [if_pos h']; rfl
   rw [e2]
 · have h' : ¬ (bad < 0 ∧ (pos = ab s ∨ bD s pos ≠ 41)) := by
    intro hh
    have : (decide (bad < 0) && (pos == ab s || ((s.getD pos.toNat 0).toNat : Int) != 41)) = true := by
     simp only [af, aA, decide_eq_true_eq, beq_iff_eq, bne_iff_ne]
     exact hh
    rw [this] at h; cases h
   have e2 : (bx s ⟨pos, out, bad⟩).bad = bad := by unfold bx; rw [if_neg h']; rfl
   rw [e2]
def nc : Ent := (208, fun
 | [.c (.loc 0 0)], [.cells [.pd (.str s), .pd (.int .i64 pos), .own 1, .pd (.int .i64 bad)] 169, .own 92 .cell out] => some (some ((bad < 0 → 0 ≤ pos ∧ pos ≤ ab s) ∧ -1 ≤ pos ∧ pos ≤ 1099511627776), .tup [], [.cells [.pd (.str s), .pd (.int .i64 (pos + 1)), .own 1, .pd (.int .i64 (bx s ⟨pos, out, bad⟩).bad)] 169, .own 92 .cell out])
 | _, _ => none)
theorem tC : EntOk Tryz.prog nc := entOk fun vs ck => by
 unfold nc; dsimp only; split
 · rename_i s pos bad out; exact entS fun hp => A3 s pos bad out hp.1 hp.2.1 hp.2.2
 · exact entN
/-! ### numbers -/
def Ay : Cfg := ⟨a6, [jI, eNb, pk, mi]⟩
theorem wk : ah Tryz.prog Ay.tab := (ah.cons jr (ah.cons Ae (ah.cons ve (ah.cons lh ah.nil))))
theorem Bq {s : Str} {k m : Nat} (hk : k ≤ m) (hm : m ≤ s.length) : (seg s k m).length = m - k := by
 unfold seg; rw [aL, bo]; omega
theorem jt {s : Str} {r : Rd} (h : ((aQ (cL s r.pos)).2 != 0 || decide (bQ (eZ s r.pos) < 0)) = true) : bU s r = r.wrong r.pos := by
 unfold bU
 rw [if_pos (by simpa only [aA, bne_iff_ne, decide_eq_true_eq] using h)]
theorem jv {s : Str} {r : Rd} (h : ((aQ (cL s r.pos)).2 != 0 || decide (bQ (eZ s r.pos) < 0)) = false) : bU s r = (r.to (if dm s r.pos = true then cb s r.pos + 1 else cb s r.pos)).emit (eZ s r.pos) := by
 unfold bU
 rw [if_neg]
 intro hh
 have : ((aQ (cL s r.pos)).2 != 0 || decide (bQ (eZ s r.pos) < 0)) = true := by simpa only [aA, bne_iff_ne, decide_eq_true_eq] using hh
 rw [this] at h; cases h
abbrev zMd5 : List PI := [.code [1, 0, 0, 0], .inLoop [1, 0, 0, 0], .inBlock 0, .code [1, 1]]
theorem FJ (k : Nat) (out : List Cell) (Γ : Ctx) (hs : s.length ≤ 1048576) (ho : room (out.length + 1) 32) (hk : k < s.length) (hd : isD (s.getD k 0) = true) : ∀ (n m : Nat), s.length - m ≤ n → m ≤ s.length → k ≤ m → (s.drop k).takeWhile isD = seg s k m ++ (s.drop m).takeWhile isD →
 J Tryz.prog 207 (az Tryz.f207) Γ (RdQ s (bU s ⟨(k : Int), out, bad⟩)) zMd5 ({ n := 115, fr := [(0, .x (.c (.loc 0 0))), (2, .i ((m : Int)))], ck := [.cells [.pd (.str s), .i k, .own 1, .i bad] 169, .own 92 .cell out], m := 2 }) := by
 intro n
 induction n with
 | zero => ?_
 | succ n ih => ?_
 all_goals
  intro m hn hm hkm hseg
  refine jg wk Tryz.func207 (let x6 := (IntKind.wrap .i64 ((k : Int) + 1)); let x1 := ((aw s (some (k : Int)) (some x6)).2); let x2 : Tree := (.ret (.tup []) [.cells [.pd (.str s), .i k, .own 1, .i (if bad < (0 : Int) then (k : Int) else bad)] 169, .own 92 .cell out]); let x16 := ((aw s (some (k : Int)) (some (m : Int))).2); let x3 := (aQ x16); let x4 := (room (out.length + 1) 32); let x5 := (↑((List.getD s m (0 : UInt8)).toNat) : Int); let x10 := ((m : Int) < ab s); let x7 := (decide x10 = true → (0 : Int) ≤ (m : Int) ∧ (m : Int) < ab s); let x8 := (IntKind.wrap .i64 ((m : Int) + 1)); let x9 := (IntKind.wrap .i64 (IntKind.wrap .i64 ((k : Int) + 1) + (1 : Int))); let x11 := (out ++ [{ op := (2 : Int), a := (aQ x1).1, name := [] }]); let x12 := (out ++ [{ op := (1 : Int), a := (aQ x1).1, name := [] }]); let x13 := (out ++ [{ op := (2 : Int), a := x3.1, name := [] }]); let x14 := (out ++ [{ op := (1 : Int), a := x3.1, name := [] }]); let x15 := (IntKind.wrap .i64 ((k : Int) + 1) < ab s); .need x7 (.need ((decide x10 && decide (x5 ≥ 48)) = true → (0 : Int) ≤ (m : Int) ∧ (m : Int) < ab s) (.ite (decide x10 && decide (x5 ≥ 48) && decide (x5 ≤ 57)) (.stop zMd5 { n := 115, fr := [(0, .x (.c (.loc 0 0))), (2, .i x8)], ck := [.cells [.pd (.str s), .i k, .own 1, .i bad] 169, .own 92 .cell out], m := 2 }) (.need ((0 : Int) ≤ (k : Int) ∧ (k : Int) < ab s) (.ite ((↑((List.getD s k (0 : UInt8)).toNat) : Int) == 48) (.need ((0 : Int) ≤ (k : Int) ∧ (k : Int) ≤ IntKind.wrap .i64 ((k : Int) + 1) ∧ IntKind.wrap .i64 ((k : Int) + 1) ≤ (s.length : Int)) (.need (x1.length ≤ 281474976710656) (.need (decide x15 = true → (0 : Int) ≤ IntKind.wrap .i64 ((k : Int) + 1) ∧ IntKind.wrap .i64 ((k : Int) + 1) < ab s) (.ite (decide x15 && (↑((List.getD s (x6.toNat) (0 : UInt8)).toNat) : Int) == 105) (.ite ((aQ x1).2 != (0 : Int) || decide (dU (2 : Int) ((aQ x1).1) [] < (0 : Int))) x2 (.ite true (.need x4 (.ret (.tup []) [.cells [.pd (.str s), .i x9, .own 2, .i bad] 169, .dead, .own 92 .cell x11])) (.need x4 (.ret (.tup []) [.cells [.pd (.str s), .i x6, .own 2, .i bad] 169, .dead, .own 92 .cell x11])))) (.ite ((aQ x1).2 != (0 : Int) || decide (dU (1 : Int) ((aQ x1).1) [] < (0 : Int))) x2 (.ite false (.need x4 (.ret (.tup []) [.cells [.pd (.str s), .i x9, .own 2, .i bad] 169, .dead, .own 92 .cell x12])) (.need x4 (.ret (.tup []) [.cells [.pd (.str s), .i x6, .own 2, .i bad] 169, .dead, .own 92 .cell x12])))))))) (.need ((0 : Int) ≤ (k : Int) ∧ (k : Int) ≤ (m : Int) ∧ (m : Int) ≤ (s.length : Int)) (.need (x16.length ≤ 281474976710656) (.need x7 (.ite (decide x10 && x5 == 105) (.ite (x3.2 != (0 : Int) || decide (dU (2 : Int) (x3.1) [] < (0 : Int))) x2 (.ite true (.need x4 (.ret (.tup []) [.cells [.pd (.str s), .i x8, .own 2, .i bad] 169, .dead, .own 92 .cell x13])) (.need x4 (.ret (.tup []) [.cells [.pd (.str s), .i m, .own 2, .i bad] 169, .dead, .own 92 .cell x13])))) (.ite (x3.2 != (0 : Int) || decide (dU (1 : Int) (x3.1) [] < (0 : Int))) x2 (.ite false (.need x4 (.ret (.tup []) [.cells [.pd (.str s), .i x8, .own 2, .i bad] 169, .dead, .own 92 .cell x14])) (.need x4 (.ret (.tup []) [.cells [.pd (.str s), .i m, .own 2, .i bad] 169, .dead, .own 92 .cell x14]))))))))))))) ?_
  conv => zeta
  have hL : ab s = (s.length : Int) := rfl
  have inb : decide ((m : Int) < ab s) = true → 0 ≤ (m : Int) ∧ (m : Int) < ab s := fun h => ⟨by omega, of_decide_eq_true h⟩
  have hcm := Bq (s := s) hkm hm
  have hnb := ib (s := s) (k := (k : Int)) (by omega) (by omega) hd
  refine ⟨inb, fun h => inb (by simp only [af] at h; exact h.1), fun h => ?_, fun h => ⟨⟨by omega, by omega⟩, fun h48 => ?_, fun h48 => ?_⟩⟩
  · have h' : (decide ((m : Int) < ab s) && isD (s.getD m 0)) = true := by simpa only [isD, eH] using h
    simp only [af, decide_eq_true_eq] at h'
    have hlt : m < s.length := by omega
    first
    | (exfalso; omega)
    | (rw [cU (by omega)]
       exact ih (m + 1) (by omega) (by omega) (by omega) (by rw [hseg, qC hkm hlt h'.2]))
  · have e1 : IntKind.wrap .i64 ((k : Int) + 1) = cb s (k : Int) := by
     have h48' : bD s (k : Int) = 48 := eq_of_beq h48
     rw [bG (by omega) (by omega), cb, if_pos h48']
    have hnb0 : (k : Int) ≤ cb s (k : Int) := by omega
    rw [e1]
    have hcl : (cL s (k : Int)).length ≤ 281474976710656 := by
     unfold cL; rw [aL, bo]; omega
    refine ⟨⟨by omega, hnb0, hnb.2⟩, hcl, fun h => ⟨by omega, of_decide_eq_true h⟩, fun hi => ?_, fun hi => ?_⟩
    · have hi' : dm s (k : Int) = true := by first | exact hi | (rw [dm, bD, show (cb s (k : Int)).toNat = m by omega]; exact hi)
      have hc : eZ s (k : Int) = ⟨2, (aQ (cL s (k : Int))).1, []⟩ := by rw [eZ, if_pos hi']
      refine ⟨fun hb => ?_, fun hb => ⟨fun _ => ⟨ho, ?_⟩, fun h => Bool.noConfusion h⟩⟩
      · exact RdQ.one (by rw [jt (by rw [hc]; exact hb)]; rfl)
      · exact RdQ.two (by rw [jv (by rw [hc]; exact hb), if_pos hi', hc, bG (by omega) (by omega)]; rfl)
    · have hi' : ¬ dm s (k : Int) = true := by
       have : dm s (k : Int) = false := by first | exact hi | (rw [dm, bD, show (cb s (k : Int)).toNat = m by omega]; exact hi)
       rw [this]; simp
      have hc : eZ s (k : Int) = ⟨1, (aQ (cL s (k : Int))).1, []⟩ := by rw [eZ, if_neg hi']
      refine ⟨fun hb => ?_, fun hb => ⟨fun h => Bool.noConfusion h, fun _ => ⟨ho, ?_⟩⟩⟩
      · exact RdQ.one (by rw [jt (by rw [hc]; exact hb)]; rfl)
      · exact RdQ.two (by rw [jv (by rw [hc]; exact hb), if_neg hi', hc]; rfl)
  · have e1 : (m : Int) = cb s (k : Int) := by
     have e : (s.drop m).takeWhile isD = [] := nZ fun hlt => by
      have h' : (decide ((m : Int) < ab s) && isD (s.getD m 0)) = false := by rw [← h]; simp only [isD, eH]
      rw [decide_eq_true (by omega), cf] at h'; exact h'
     have h48' : ¬ bD s (k : Int) = 48 := ne_of_beq_false h48
     rw [cb, if_neg h48']
     show (m : Int) = (k : Int) + ab ((s.drop k).takeWhile isD)
     rw [hseg, e, bZ]
     show (m : Int) = (k : Int) + ((seg s k m).length : Int)
     omega
    have hnb0 : (k : Int) ≤ cb s (k : Int) := by omega
    rw [e1]
    have hcl : (cL s (k : Int)).length ≤ 281474976710656 := by
     unfold cL; rw [aL, bo]; omega
    refine ⟨⟨by omega, hnb0, hnb.2⟩, hcl, fun h => ⟨by omega, of_decide_eq_true h⟩, fun hi => ?_, fun hi => ?_⟩
    · have hi' : dm s (k : Int) = true := by first | exact hi | (rw [dm, bD, show (cb s (k : Int)).toNat = m by omega]; exact hi)
      have hc : eZ s (k : Int) = ⟨2, (aQ (cL s (k : Int))).1, []⟩ := by rw [eZ, if_pos hi']
      refine ⟨fun hb => ?_, fun hb => ⟨fun _ => ⟨ho, ?_⟩, fun h => Bool.noConfusion h⟩⟩
      · exact RdQ.one (by rw [jt (by rw [hc]; exact hb)]; rfl)
      · exact RdQ.two (by rw [jv (by rw [hc]; exact hb), if_pos hi', hc, bG (by omega) (by omega)]; rfl)
    · have hi' : ¬ dm s (k : Int) = true := by
       have : dm s (k : Int) = false := by first | exact hi | (rw [dm, bD, show (cb s (k : Int)).toNat = m by omega]; exact hi)
       rw [this]; simp
      have hc : eZ s (k : Int) = ⟨1, (aQ (cL s (k : Int))).1, []⟩ := by rw [eZ, if_neg hi']
      refine ⟨fun hb => ?_, fun hb => ⟨fun h => Bool.noConfusion h, fun _ => ⟨ho, ?_⟩⟩⟩
      · exact RdQ.one (by rw [jt (by rw [hc]; exact hb)]; rfl)
      · exact RdQ.two (by rw [jv (by rw [hc]; exact hb), if_neg hi', hc]; rfl)
theorem ES (hs : s.length ≤ 1048576) (ho : room (out.length + 1) 32) (h0 : 0 ≤ pos) (h1 : pos < ab s) (hd : isD (s.getD pos.toNat 0) = true) : ak Tryz.prog 207 [.c (.loc 0 0)] (zMd3 s pos bad out) (.tup []) (rd2 s (bU s ⟨pos, out, bad⟩)) := by
 obtain ⟨k, rfl⟩ := cS h0
 have hL : ab s = (s.length : Int) := rfl
 refine ak.rd Tryz.func207 (by kernel_rfl) (by kernel_rfl) rfl fun Γ => ?_
 refine jg wk Tryz.func207 (.stop zMd5 { n := 115, fr := [(0, .x (.c (.loc 0 0))), (2, .i k)], ck := [.cells [.pd (.str s), .i k, .own 1, .i bad] 169, .own 92 .cell out], m := 2 }) ?_
 exact FJ s bad k out Γ hs ho (by omega) hd s.length k (by omega) (by omega) (aD _) (by rw [eV]; rfl)
def xh : Ent := (207, fun
 | [.c (.loc 0 0)], [.cells [.pd (.str s), .pd (.int .i64 pos), .own 1, .pd (.int .i64 bad)] 169, .own 92 .cell out] => some (some (s.length ≤ 1048576 ∧ room (out.length + 1) 32 ∧ 0 ≤ pos ∧ pos < ab s ∧ isD (s.getD pos.toNat 0) = true), .tup [], [.cells [.pd (.str s), .pd (.int .i64 (bU s ⟨pos, out, bad⟩).pos), .own 2, .pd (.int .i64 (bU s ⟨pos, out, bad⟩).bad)] 169, .dead, .own 92 .cell (bU s ⟨pos, out, bad⟩).out])
 | _, _ => none)
theorem IM : EntOk Tryz.prog xh := entOk fun vs ck => by
 unfold xh; dsimp only; split
 · rename_i s pos bad out; exact entS fun hp => ES s pos bad out hp.1 hp.2.1 hp.2.2.1 hp.2.2.2.1 hp.2.2.2.2
 · exact entN
end Go.Proofs.YtpfidgnkokidoaaGreatDoor

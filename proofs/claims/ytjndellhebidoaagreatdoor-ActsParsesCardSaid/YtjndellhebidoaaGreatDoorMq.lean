/- Contracts of the document's reader of expressions: operands. Conditions: places within the text. -/
import Derived.Test.YtjndellhebidoaaGreatDoorMp
import Derived.Test.YtjndellhebidoaaGreatDoorOa
namespace Go.Proofs.YtjndellhebidoaaGreatDoor
open Go Go.Ev
set_option maxRecDepth 100000
variable {s : Str}
theorem leaf_word {r : Rd} (hd : isD (s.getD r.pos.toNat 0) = false) : leafR s r = if wordM s r.pos = trueS then (r.emit ⟨3, 0, []⟩).to (r.pos + 4) else if wordM s r.pos = falseS then (r.emit ⟨4, 0, []⟩).to (r.pos + 5) else if wordM s r.pos = inS ∧ callB s r.pos = true then inR s r else if nameM (wordM s r.pos) = true then (r.emit ⟨5, 0, wordM s r.pos⟩).to (r.pos + strLen (wordM s r.pos)) else r.wrong r.pos := by
  unfold leafR; rw [if_neg (by rw [hd]; simp)]
theorem opd_leaf {m : Mc} (h : headM s m.pos = .leaf) : operandM s m = if (leafR s ⟨m.pos, m.out, -1⟩).bad < 0 then (⟨(leafR s ⟨m.pos, m.out, -1⟩).pos, (leafR s ⟨m.pos, m.out, -1⟩).out, m.wt⟩, -1, true) else (⟨faultPos s m.pos, m.out, m.wt⟩, (leafR s ⟨m.pos, m.out, -1⟩).bad, false) := by
  unfold operandM; rw [h]
theorem opd_ok {m : Mc} {o : Rd} (h : headM s m.pos = .leaf) (hl : leafR s ⟨m.pos, m.out, -1⟩ = o) (hb : o.bad < 0) : operandM s m = (⟨o.pos, o.out, m.wt⟩, -1, true) := by
  rw [opd_leaf h, hl, if_pos hb]
theorem opd_bad {m : Mc} {o : Rd} {k : Int} (h : headM s m.pos = .leaf) (hl : leafR s ⟨m.pos, m.out, -1⟩ = o) (hb : 0 ≤ o.bad) (hk : faultPos s m.pos = k) : operandM s m = (⟨k, m.out, m.wt⟩, o.bad, false) := by
  rw [opd_leaf h, hl, if_neg (by omega), hk]
theorem opd_pre {m : Mc} {op : Int} (h : headM s m.pos = .pre op) : operandM s m = (⟨m.pos + 1, m.out, ⟨op, 6⟩ :: m.wt⟩, -1, false) := by unfold operandM; rw [h]
theorem opd_par {m : Mc} (h : headM s m.pos = .par) : operandM s m = (⟨m.pos + 1, m.out, ⟨0, 0⟩ :: m.wt⟩, -1, false) := by unfold operandM; rw [h]
theorem opd_call {m : Mc} {op : Int} (h : headM s m.pos = .call op) : operandM s m = (⟨m.pos + 3, m.out, ⟨op, 0⟩ :: m.wt⟩, -1, false) := by unfold operandM; rw [h]
theorem opd_fin {m : Mc} (h : headM s m.pos = .fin) : operandM s m = (m, m.pos, false) := by unfold operandM; rw [h]
theorem room_wait {n : Nat} (h : n ≤ 4000000) : room n 16 := by unfold room maxLen; omega
def cfgXo : Cfg := ⟨tys0, [eXword, eRnm, eXnum]⟩
theorem cfgXo_ok : TabOk Tryz.prog cfgXo.tab := (TabOk.cons eXword_ok (TabOk.cons eRnm_ok (TabOk.cons eXnum_ok TabOk.nil)))
theorem xoperand_spec (s : Str) (pos : Int) (out : List Cell) (wt : List Wait) (hs : s.length ≤ 1048576) (h0 : 0 ≤ pos) (h1 : pos ≤ strLen s) (ho : out.length ≤ 3000000) (hwt : wt.length ≤ 3000000) :
    Does Tryz.prog 82 [.c (.loc 0 0)] (mkA s pos out wt) (.tup [.i (operandM s ⟨pos, out, wt.reverse⟩).2.1, .b (operandM s ⟨pos, out, wt.reverse⟩).2.2]) (mkB s (operandM s ⟨pos, out, wt.reverse⟩).1.pos (operandM s ⟨pos, out, wt.reverse⟩).1.out (operandM s ⟨pos, out, wt.reverse⟩).1.wt.reverse) := by
  have hL : strLen s = (s.length : Int) := rfl
  refine Does.mc Tryz.func82 (by kernel_rfl) (by kernel_rfl) rfl rfl fun Γ => ?_
  refine J.go (cfg := cfgXo) cfgXo_ok Tryz.func82 1000 (t := (.ite (pos == strLen s) (.ret (.tup [.i pos, .p (.bool false)]) [.cells [.pd (.str s), .i pos, .own 1, .own 2] 125, .own 88 .cell out, .own 155 .wait wt]) (.need ((0 : Int) ≤ pos ∧ pos < strLen s) (.need (List.length s ≤ 1048576 ∧ (0 : Int) ≤ pos ∧ pos ≤ strLen s) (.need (Prod.snd (Prod.snd (Prod.snd (13, 50, true, onBy true (decide (IntKind.wrap .i64 (pos + strLen (wordM s pos)) < strLen s)) none))) → (0 : Int) ≤ IntKind.wrap .i64 (pos + strLen (wordM s pos)) ∧ IntKind.wrap .i64 (pos + strLen (wordM s pos)) < strLen s) (.ite ((↑(UInt8.toNat (List.getD s (Int.toNat pos) (0 : UInt8))) : Int) == (45 : Int)) (.need (room (List.length (wt ++ [{ op := (7 : Int), power := (6 : Int) }])) 16) (.ret (.tup [.i (-1 : Int), .p (.bool false)]) [.cells [.pd (.str s), .i (IntKind.wrap .i64 (pos + (1 : Int))), .own 1, .own 3] 125, .own 88 .cell out, .dead, .own 155 .wait (wt ++ [{ op := (7 : Int), power := (6 : Int) }])])) (.ite ((↑(UInt8.toNat (List.getD s (Int.toNat pos) (0 : UInt8))) : Int) == (33 : Int)) (.need (room (List.length (wt ++ [{ op := (8 : Int), power := (6 : Int) }])) 16) (.ret (.tup [.i (-1 : Int), .p (.bool false)]) [.cells [.pd (.str s), .i (IntKind.wrap .i64 (pos + (1 : Int))), .own 1, .own 3] 125, .own 88 .cell out, .dead, .own 155 .wait (wt ++ [{ op := (8 : Int), power := (6 : Int) }])])) (.ite ((↑(UInt8.toNat (List.getD s (Int.toNat pos) (0 : UInt8))) : Int) == (40 : Int)) (.need (room (List.length (wt ++ [{ op := (0 : Int), power := (0 : Int) }])) 16) (.ret (.tup [.i (-1 : Int), .p (.bool false)]) [.cells [.pd (.str s), .i (IntKind.wrap .i64 (pos + (1 : Int))), .own 1, .own 3] 125, .own 88 .cell out, .dead, .own 155 .wait (wt ++ [{ op := (0 : Int), power := (0 : Int) }])])) (.ite (decide ((↑(UInt8.toNat (List.getD s (Int.toNat pos) (0 : UInt8))) : Int) ≥ (48 : Int)) && decide ((↑(UInt8.toNat (List.getD s (Int.toNat pos) (0 : UInt8))) : Int) ≤ (57 : Int))) (.need (List.length s ≤ 1048576 ∧ room (List.length out + 1) 32 ∧ (0 : Int) ≤ pos ∧ pos < strLen s ∧ isD (List.getD s (Int.toNat pos) (0 : UInt8)) = true) (.ite (!decide (Rd.bad (numberR s { pos := pos, out := out, bad := (-1 : Int) }) < (0 : Int))) (.ret (.tup [.i (Rd.pos (numberR s { pos := pos, out := out, bad := (-1 : Int) })), .p (.bool false)]) [.cells [.pd (.str s), .i (Rd.pos (numberR s { pos := pos, out := out, bad := (-1 : Int) })), .own 3, .own 4] 125, .dead, .dead, .own 88 .cell (Rd.out (numberR s { pos := pos, out := out, bad := (-1 : Int) })), .own 155 .wait wt]) (.ret (.tup [.i (-1 : Int), .p (.bool true)]) [.cells [.pd (.str s), .i (Rd.pos (numberR s { pos := pos, out := out, bad := (-1 : Int) })), .own 3, .own 4] 125, .dead, .dead, .own 88 .cell (Rd.out (numberR s { pos := pos, out := out, bad := (-1 : Int) })), .own 155 .wait wt]))) (.ite (wordM s pos == [(114 : UInt8), 101] && (decide (IntKind.wrap .i64 (pos + strLen (wordM s pos)) < strLen s) && (↑(UInt8.toNat (List.getD s (Int.toNat (IntKind.wrap .i64 (pos + strLen (wordM s pos)))) (0 : UInt8))) : Int) == (40 : Int))) (.need (room (List.length (wt ++ [{ op := (9 : Int), power := (0 : Int) }])) 16) (.ret (.tup [.i (-1 : Int), .p (.bool false)]) [.cells [.pd (.str s), .i (IntKind.wrap .i64 (pos + (3 : Int))), .own 1, .own 3] 125, .own 88 .cell out, .dead, .own 155 .wait (wt ++ [{ op := (9 : Int), power := (0 : Int) }])])) (.ite (wordM s pos == [(105 : UInt8), 109] && (decide (IntKind.wrap .i64 (pos + strLen (wordM s pos)) < strLen s) && (↑(UInt8.toNat (List.getD s (Int.toNat (IntKind.wrap .i64 (pos + strLen (wordM s pos)))) (0 : UInt8))) : Int) == (40 : Int))) (.need (room (List.length (wt ++ [{ op := (10 : Int), power := (0 : Int) }])) 16) (.ret (.tup [.i (-1 : Int), .p (.bool false)]) [.cells [.pd (.str s), .i (IntKind.wrap .i64 (pos + (3 : Int))), .own 1, .own 3] 125, .own 88 .cell out, .dead, .own 155 .wait (wt ++ [{ op := (10 : Int), power := (0 : Int) }])])) (.ite (wordM s pos == [(105 : UInt8), 110] && (decide (IntKind.wrap .i64 (pos + strLen (wordM s pos)) < strLen s) && (↑(UInt8.toNat (List.getD s (Int.toNat (IntKind.wrap .i64 (pos + strLen (wordM s pos)))) (0 : UInt8))) : Int) == (40 : Int))) (.need (List.length s ≤ 1048576 ∧ (0 : Int) ≤ IntKind.wrap .i64 (pos + (3 : Int)) ∧ IntKind.wrap .i64 (pos + (3 : Int)) ≤ strLen s) (.ite (!nameM (wordM s (IntKind.wrap .i64 (pos + (3 : Int))))) (.ret (.tup [.i (IntKind.wrap .i64 (pos + (3 : Int))), .p (.bool false)]) [.cells [.pd (.str s), .i pos, .own 1, .own 2] 125, .own 88 .cell out, .own 155 .wait wt]) (.need (Prod.snd (Prod.snd (Prod.snd (10, 230, false, onBy false (IntKind.wrap .i64 (pos + IntKind.wrap .i64 ((3 : Int) + strLen (wordM s (IntKind.wrap .i64 (pos + (3 : Int)))))) == strLen s) none))) → (0 : Int) ≤ IntKind.wrap .i64 (pos + IntKind.wrap .i64 ((3 : Int) + strLen (wordM s (IntKind.wrap .i64 (pos + (3 : Int)))))) ∧ IntKind.wrap .i64 (pos + IntKind.wrap .i64 ((3 : Int) + strLen (wordM s (IntKind.wrap .i64 (pos + (3 : Int)))))) < strLen s) (.ite (IntKind.wrap .i64 (pos + IntKind.wrap .i64 ((3 : Int) + strLen (wordM s (IntKind.wrap .i64 (pos + (3 : Int)))))) == strLen s || (↑(UInt8.toNat (List.getD s (Int.toNat (IntKind.wrap .i64 (pos + IntKind.wrap .i64 ((3 : Int) + strLen (wordM s (IntKind.wrap .i64 (pos + (3 : Int)))))))) (0 : UInt8))) : Int) != (41 : Int)) (.ret (.tup [.i (IntKind.wrap .i64 (pos + IntKind.wrap .i64 ((3 : Int) + strLen (wordM s (IntKind.wrap .i64 (pos + (3 : Int))))))), .p (.bool false)]) [.cells [.pd (.str s), .i (IntKind.wrap .i64 (pos + IntKind.wrap .i64 ((3 : Int) + strLen (wordM s (IntKind.wrap .i64 (pos + (3 : Int))))))), .own 1, .own 2] 125, .own 88 .cell out, .own 155 .wait wt]) (.need (room (List.length (out ++ [{ op := (6 : Int), a := (0 : Int), name := wordM s (IntKind.wrap .i64 (pos + (3 : Int))) }])) 32) (.ret (.tup [.i (-1 : Int), .p (.bool true)]) [.cells [.pd (.str s), .i (IntKind.wrap .i64 (IntKind.wrap .i64 (pos + IntKind.wrap .i64 ((3 : Int) + strLen (wordM s (IntKind.wrap .i64 (pos + (3 : Int)))))) + (1 : Int))), .own 3, .own 2] 125, .dead, .own 155 .wait wt, .own 88 .cell (out ++ [{ op := (6 : Int), a := (0 : Int), name := wordM s (IntKind.wrap .i64 (pos + (3 : Int))) }])])))))) (.ite (wordM s pos == [(116 : UInt8), 114, 117, 101]) (.need (room (List.length (out ++ [{ op := (3 : Int), a := (0 : Int), name := [] }])) 32) (.ret (.tup [.i (-1 : Int), .p (.bool true)]) [.cells [.pd (.str s), .i (IntKind.wrap .i64 (pos + (4 : Int))), .own 3, .own 2] 125, .dead, .own 155 .wait wt, .own 88 .cell (out ++ [{ op := (3 : Int), a := (0 : Int), name := [] }])])) (.ite (wordM s pos == [(102 : UInt8), 97, 108, 115, 101]) (.need (room (List.length (out ++ [{ op := (4 : Int), a := (0 : Int), name := [] }])) 32) (.ret (.tup [.i (-1 : Int), .p (.bool true)]) [.cells [.pd (.str s), .i (IntKind.wrap .i64 (pos + (5 : Int))), .own 3, .own 2] 125, .dead, .own 155 .wait wt, .own 88 .cell (out ++ [{ op := (4 : Int), a := (0 : Int), name := [] }])])) (.ite (nameM (wordM s pos)) (.need (room (List.length (out ++ [{ op := (5 : Int), a := (0 : Int), name := wordM s pos }])) 32) (.ret (.tup [.i (-1 : Int), .p (.bool true)]) [.cells [.pd (.str s), .i (IntKind.wrap .i64 (pos + strLen (wordM s pos))), .own 3, .own 2] 125, .dead, .own 155 .wait wt, .own 88 .cell (out ++ [{ op := (5 : Int), a := (0 : Int), name := wordM s pos }])])) (.ret (.tup [.i pos, .p (.bool false)]) [.cells [.pd (.str s), .i pos, .own 1, .own 2] 125, .own 88 .cell out, .own 155 .wait wt])))))))))))))))) (by kernel_rfl) ?_
  have hw := wordM_le s h0 h1
  rw [wrapI (n := pos + strLen (wordM s pos)) (by omega) (by omega), wrapI (n := pos + 1) (by omega) (by omega), wrapI (n := pos + 3) (by omega) (by omega), wrapI (n := pos + 4) (by omega) (by omega), wrapI (n := pos + 5) (by omega) (by omega)]
  have hrw : ∀ x : Wait, room (wt ++ [x]).length 16 := fun x => room_wait (by rw [List.length_append]; simp only [List.length_cons, List.length_nil]; omega)
  have hrc : ∀ x : Cell, room (out ++ [x]).length 32 := fun x => room_cell (by rw [List.length_append]; simp only [List.length_cons, List.length_nil]; omega)
  have hrev : ∀ x : Wait, (x :: wt.reverse).reverse = wt ++ [x] := fun x => by rw [List.reverse_cons, List.reverse_reverse]
  have hfinal : ∀ {o : Mc × Int × Bool}, operandM s ⟨pos, out, wt.reverse⟩ = o → ∀ {c : List Chunk}, (McQ s (.tup [.i o.2.1, .b o.2.2]) o.1.pos o.1.out o.1.wt.reverse) (.tup [.i o.2.1, .b o.2.2]) c → (McQ s (.tup [.i (operandM s ⟨pos, out, wt.reverse⟩).2.1, .b (operandM s ⟨pos, out, wt.reverse⟩).2.2]) (operandM s ⟨pos, out, wt.reverse⟩).1.pos (operandM s ⟨pos, out, wt.reverse⟩).1.out (operandM s ⟨pos, out, wt.reverse⟩).1.wt.reverse) (.tup [.i o.2.1, .b o.2.2]) c := by
    intro o e c h; rw [e]; exact h
  refine ⟨fun hf => ?_, fun hnf => ?_⟩
  · have e : pos = strLen s := eq_of_beq hf
    refine hfinal (opd_fin (m := ⟨pos, out, wt.reverse⟩) (show headM s pos = _ by unfold headM; rw [if_pos e])) (McQ.a ?_)
    show mkA s pos out wt = mkA s pos out wt.reverse.reverse
    rw [List.reverse_reverse]
  have hlt : pos < strLen s := by have := ne_of_beq_false hnf; omega
  refine ⟨⟨h0, hlt⟩, ⟨hs, h0, h1⟩, fun h => ⟨by omega, of_decide_eq_true h⟩, fun h45 => ⟨hrw _, ?_⟩, fun n45 => ⟨fun h33 => ⟨hrw _, ?_⟩, fun n33 => ⟨fun h40 => ⟨hrw _, ?_⟩, fun n40 => ⟨fun hd => ?_, fun nd => ?_⟩⟩⟩⟩
  · have e : byteAt s pos = 45 := eq_of_beq h45
    refine hfinal (opd_pre (m := ⟨pos, out, wt.reverse⟩) (op := 7) (show headM s pos = _ by unfold headM; rw [if_neg (show ¬ pos = strLen s by omega), if_pos e])) (McQ.d ?_)
    show mkD s (pos + 1) out _ = mkD s (pos + 1) out (⟨7, 6⟩ :: wt.reverse).reverse
    rw [hrev]
  all_goals have m45 : ¬ byteAt s pos = 45 := ne_of_beq_false n45
  · have e : byteAt s pos = 33 := eq_of_beq h33
    refine hfinal (opd_pre (m := ⟨pos, out, wt.reverse⟩) (op := 8) (show headM s pos = _ by unfold headM; rw [if_neg (show ¬ pos = strLen s by omega), if_neg m45, if_pos e])) (McQ.d ?_)
    show mkD s (pos + 1) out _ = mkD s (pos + 1) out (⟨8, 6⟩ :: wt.reverse).reverse
    rw [hrev]
  all_goals have m33 : ¬ byteAt s pos = 33 := ne_of_beq_false n33
  · have e : byteAt s pos = 40 := eq_of_beq h40
    have hnd : ¬ isD (s.getD pos.toNat 0) = true := by
      intro hx
      simp only [isD, Bool.and_eq_true, decide_eq_true_eq] at hx
      unfold byteAt at e; omega
    refine hfinal (opd_par (m := ⟨pos, out, wt.reverse⟩) (show headM s pos = _ by unfold headM; rw [if_neg (show ¬ pos = strLen s by omega), if_neg m45, if_neg m33, if_neg hnd, if_pos e])) (McQ.d ?_)
    show mkD s (pos + 1) out _ = mkD s (pos + 1) out (⟨0, 0⟩ :: wt.reverse).reverse
    rw [hrev]
  all_goals have m40 : ¬ byteAt s pos = 40 := ne_of_beq_false n40
  · have hd' : isD (s.getD pos.toNat 0) = true := by
      simp only [Bool.and_eq_true, decide_eq_true_eq] at hd
      simp only [isD, Bool.and_eq_true, decide_eq_true_eq]; omega
    have hl : leafR s ⟨pos, out, -1⟩ = numberR s ⟨pos, out, -1⟩ := by unfold leafR; rw [if_pos hd']
    have hh := head_digit hlt hd'
    have ho := opd_leaf (s := s) (m := ⟨pos, out, wt.reverse⟩) hh
    rw [hl] at ho
    have hfp : faultPos s pos = pos := by unfold faultPos; rw [if_pos hd']
    refine ⟨⟨hs, room_cell (by omega), h0, hlt, hd'⟩, fun hb => ?_, fun hb => ?_⟩
    · have hb' : ¬ (numberR s ⟨pos, out, -1⟩).bad < 0 := by simpa using hb
      rw [if_neg hb', hfp] at ho
      have hn : numberR s ⟨pos, out, -1⟩ = ⟨pos, out, pos⟩ := by
        cases hx : ((numM (numText s pos)).2 != 0 || decide (wantsC (numC s pos) < 0)) with
        | true => exact num_wrong (r := ⟨pos, out, -1⟩) hx
        | false => exact absurd (by rw [num_right (r := ⟨pos, out, -1⟩) hx]; show (-1 : Int) < 0; omega) hb'
      rw [hn] at ho ⊢
      refine hfinal ho (McQ.b ?_)
      show mkB s pos out wt = mkB s pos out wt.reverse.reverse
      rw [List.reverse_reverse]
    · have hb' : (numberR s ⟨pos, out, -1⟩).bad < 0 := by simpa using hb
      rw [if_pos hb'] at ho
      refine hfinal ho (McQ.b ?_)
      show mkB s _ _ wt = mkB s _ _ wt.reverse.reverse
      rw [List.reverse_reverse]
  · have hnd : isD (s.getD pos.toNat 0) = false := by
      cases hx : isD (s.getD pos.toNat 0) with
      | false => rfl
      | true =>
        exfalso
        simp only [isD, Bool.and_eq_true, decide_eq_true_eq] at hx
        rw [decide_eq_true (show ((s.getD pos.toNat 0).toNat : Int) ≥ 48 by omega), decide_eq_true hx.2] at nd
        cases nd
    have hcb : (decide (pos + strLen (wordM s pos) < strLen s) && (((s.getD (pos + strLen (wordM s pos)).toNat 0).toNat : Int) == 40)) = callB s pos := rfl
    rw [hcb]
    have hhead : headM s pos = if wordM s pos = reS ∧ callB s pos = true then .call 9 else if wordM s pos = imS ∧ callB s pos = true then .call 10 else .leaf := by
      unfold headM; rw [if_neg (by omega), if_neg m45, if_neg m33, if_neg (by rw [hnd]; simp), if_neg m40]
    have hands : ∀ w : Str, (wordM s pos == w && callB s pos) = true ↔ wordM s pos = w ∧ callB s pos = true := fun w => by rw [Bool.and_eq_true, beq_iff_eq]
    have handf : ∀ w : Str, (wordM s pos == w && callB s pos) = false → ¬ (wordM s pos = w ∧ callB s pos = true) := fun w h hx => by rw [(hands w).2 hx] at h; cases h
    refine ⟨fun hre => ⟨hrw _, ?_⟩, fun nre => ⟨fun him => ⟨hrw _, ?_⟩, fun nim => ?_⟩⟩
    · have hx : wordM s pos = reS ∧ callB s pos = true := (hands _).1 hre
      rw [if_pos hx] at hhead
      refine hfinal (opd_call (m := ⟨pos, out, wt.reverse⟩) hhead) (McQ.d ?_)
      show mkD s (pos + 3) out _ = mkD s (pos + 3) out (⟨9, 0⟩ :: wt.reverse).reverse
      rw [hrev]
    · have hx : wordM s pos = imS ∧ callB s pos = true := (hands _).1 him
      rw [if_neg (handf reS nre), if_pos hx] at hhead
      refine hfinal (opd_call (m := ⟨pos, out, wt.reverse⟩) hhead) (McQ.d ?_)
      show mkD s (pos + 3) out _ = mkD s (pos + 3) out (⟨10, 0⟩ :: wt.reverse).reverse
      rw [hrev]
    rw [if_neg (handf reS nre), if_neg (handf imS nim)] at hhead
    have hlw := leaf_word (s := s) (r := ⟨pos, out, -1⟩) hnd
    simp only at hlw
    refine ⟨fun hin => ?_, fun nin => ⟨fun htr => ⟨hrc _, ?_⟩, fun ntr => ⟨fun hfa => ⟨hrc _, ?_⟩, fun nfa => ⟨fun hnm => ⟨hrc _, ?_⟩, fun nnm => ?_⟩⟩⟩⟩
    · have hx : wordM s pos = inS ∧ callB s pos = true := (hands _).1 hin
      have hc := hx.2
      have e2 : strLen inS = 2 := by decide
      simp only [callB, hx.1, e2, Bool.and_eq_true, decide_eq_true_eq] at hc
      have hw3 := wordM_le s (k := pos + 3) (by omega) (by omega)
      have hw5 : wordM s pos ≠ trueS ∧ wordM s pos ≠ falseS := by rw [hx.1]; decide
      rw [if_neg hw5.1, if_neg hw5.2, if_pos hx] at hlw
      rw [wrapI (n := 3 + strLen (wordM s (pos + 3))) (by omega) (by omega), wrapI (n := pos + (3 + strLen (wordM s (pos + 3)))) (by omega) (by omega), wrapI (n := pos + (3 + strLen (wordM s (pos + 3))) + 1) (by omega) (by omega)]
      have hassoc : pos + (3 + strLen (wordM s (pos + 3))) = pos + 3 + strLen (wordM s (pos + 3)) := by omega
      rw [hassoc]
      refine ⟨⟨hs, by omega, by omega⟩, fun hbn => ?_, fun hgn => ?_⟩
      · have hbn' : nameM (wordM s (pos + 3)) = false := by simpa using hbn
        have hir : inR s ⟨pos, out, -1⟩ = ⟨pos + 3, out, pos + 3⟩ := by unfold inR; rw [if_pos hbn']; rfl
        have hfp : faultPos s pos = pos := by
          unfold faultPos
          rw [if_neg (by rw [hnd]; simp), if_neg (fun h => by rw [hbn'] at h; exact absurd h.2 (by simp))]
        have hol := opd_bad (s := s) (m := ⟨pos, out, wt.reverse⟩) hhead (hlw.trans hir) (show 0 ≤ pos + 3 by omega) hfp
        refine hfinal hol (McQ.a ?_)
        show mkA s pos out wt = mkA s pos out wt.reverse.reverse
        rw [List.reverse_reverse]
      · have hgn' : nameM (wordM s (pos + 3)) = true := by simpa using hgn
        have hfp : faultPos s pos = pos + 3 + strLen (wordM s (pos + 3)) := by
          unfold faultPos
          rw [if_neg (by rw [hnd]; simp), if_pos ⟨hx, hgn'⟩]
        have hir : inR s ⟨pos, out, -1⟩ = (closeR s ⟨pos + 3 + strLen (wordM s (pos + 3)), out, -1⟩).emit ⟨6, 0, wordM s (pos + 3)⟩ := by unfold inR; rw [if_neg (by rw [hgn']; simp)]; rfl
        refine ⟨fun h => ?_, fun hc => ?_, fun hc => ⟨hrc _, ?_⟩⟩
        · simp only [onBy] at h
          have := ne_of_beq_false h; omega
        · have hc' : pos + 3 + strLen (wordM s (pos + 3)) = strLen s ∨ byteAt s (pos + 3 + strLen (wordM s (pos + 3))) ≠ 41 := by
            simp only [Bool.or_eq_true, beq_iff_eq, bne_iff_ne] at hc; exact hc
          have hcl : closeR s ⟨pos + 3 + strLen (wordM s (pos + 3)), out, -1⟩ = ⟨pos + 3 + strLen (wordM s (pos + 3)) + 1, out, pos + 3 + strLen (wordM s (pos + 3))⟩ := by
            unfold closeR; rw [if_pos ⟨by show (-1 : Int) < 0; omega, hc'⟩]; rfl
          rw [hcl] at hir
          have hol := opd_bad (s := s) (m := ⟨pos, out, wt.reverse⟩) hhead (hlw.trans hir) (show 0 ≤ pos + 3 + strLen (wordM s (pos + 3)) by omega) hfp
          refine hfinal hol (McQ.a ?_)
          show mkA s _ out wt = mkA s _ out wt.reverse.reverse
          rw [List.reverse_reverse]
        · have hc' : ¬ (pos + 3 + strLen (wordM s (pos + 3)) = strLen s ∨ byteAt s (pos + 3 + strLen (wordM s (pos + 3))) ≠ 41) := by
            intro hh
            have : (pos + 3 + strLen (wordM s (pos + 3)) == strLen s || (((s.getD (pos + 3 + strLen (wordM s (pos + 3))).toNat 0).toNat : Int) != 41)) = true := by
              simp only [Bool.or_eq_true, beq_iff_eq, bne_iff_ne]; exact hh
            rw [this] at hc; cases hc
          have hcl : closeR s ⟨pos + 3 + strLen (wordM s (pos + 3)), out, -1⟩ = ⟨pos + 3 + strLen (wordM s (pos + 3)) + 1, out, -1⟩ := by
            unfold closeR; rw [if_neg (fun h => hc' h.2)]; rfl
          rw [hcl] at hir
          have hol := opd_ok (s := s) (m := ⟨pos, out, wt.reverse⟩) hhead (hlw.trans hir) (show (-1 : Int) < 0 by omega)
          refine hfinal hol (McQ.c ?_)
          show mkC s _ _ wt = mkC s _ _ wt.reverse.reverse
          rw [List.reverse_reverse] <;> rfl
    · have hx : wordM s pos = trueS := eq_of_beq htr
      rw [if_pos hx] at hlw
      have hol := opd_ok (s := s) (m := ⟨pos, out, wt.reverse⟩) hhead hlw (show (-1 : Int) < 0 by omega)
      refine hfinal hol (McQ.c ?_)
      show mkC s _ _ wt = mkC s _ _ wt.reverse.reverse
      rw [List.reverse_reverse] <;> rfl
    all_goals have mtr : wordM s pos ≠ trueS := ne_of_beq_false ntr
    · have hx : wordM s pos = falseS := eq_of_beq hfa
      rw [if_neg mtr, if_pos hx] at hlw
      have hol := opd_ok (s := s) (m := ⟨pos, out, wt.reverse⟩) hhead hlw (show (-1 : Int) < 0 by omega)
      refine hfinal hol (McQ.c ?_)
      show mkC s _ _ wt = mkC s _ _ wt.reverse.reverse
      rw [List.reverse_reverse] <;> rfl
    all_goals have mfa : wordM s pos ≠ falseS := ne_of_beq_false nfa
    · rw [if_neg mtr, if_neg mfa, if_neg (handf inS nin), if_pos hnm] at hlw
      have hol := opd_ok (s := s) (m := ⟨pos, out, wt.reverse⟩) hhead hlw (show (-1 : Int) < 0 by omega)
      refine hfinal hol (McQ.c ?_)
      show mkC s _ _ wt = mkC s _ _ wt.reverse.reverse
      rw [List.reverse_reverse] <;> rfl
    · have hnn : ¬ nameM (wordM s pos) = true := by rw [nnm]; simp
      rw [if_neg mtr, if_neg mfa, if_neg (handf inS nin), if_neg hnn] at hlw
      have hwr : ((⟨pos, out, -1⟩ : Rd).wrong pos) = ⟨pos, out, pos⟩ := rfl
      have hfp : faultPos s pos = pos := by
        unfold faultPos
        rw [if_neg (by rw [hnd]; simp), if_neg (fun h => handf inS nin h.1)]
      have hol := opd_bad (s := s) (m := ⟨pos, out, wt.reverse⟩) hhead (hlw.trans hwr) (show 0 ≤ pos by omega) hfp
      refine hfinal hol (McQ.a ?_)
      show mkA s pos out wt = mkA s pos out wt.reverse.reverse
      rw [List.reverse_reverse]
end Go.Proofs.YtjndellhebidoaaGreatDoor

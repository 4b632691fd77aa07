/- Contracts: blocks told. Conditions: none. Contracts of the document's reader of expressions: numbers, operands. Conditions: places within the text. -/
import Derived.Test.YtjndellhebidoaaGreatDoorUe
import Derived.Test.YtjndellhebidoaaGreatDoorMg
import Derived.Test.YtjndellhebidoaaGreatDoorOa
import Derived.Test.YtjndellhebidoaaGreatDoorPX
import Derived.Test.YtjndellhebidoaaGreatDoorMd
namespace Go.Proofs.YtjndellhebidoaaGreatDoor
open Go Go.Ev
set_option maxRecDepth 100000
theorem deedOk_one {d : Deed} (h : deedOk d = true) (h1 : (d.kind == 1) = true) : nameM d.name = true ∧ rightM d.expr = true ∧ asksM d.expr = false := by
  rw [deedOk, h1, cond_true, Bool.and_eq_true] at h
  have h2 := h.2
  rw [plainM, Bool.and_eq_true] at h2
  exact ⟨h.1, h2.1, nt h2.2⟩
theorem deedOk_not {d : Deed} (h : deedOk d = true) (h1 : (d.kind == 1) = false) : (d.kind = 2 ∨ d.kind = 3) ∧ eventM d.name = true ∧ d.expr = [] := by
  rw [deedOk, h1, cond_false] at h
  cases h2 : (d.kind == 2 || d.kind == 3)
  · rw [h2] at h; cases h
  · rw [h2, cond_true, Bool.and_eq_true] at h
    refine ⟨by simpa using h2, h.1, ?_⟩
    have h3 := h.2
    have : (d.expr.length : Int) = 0 := by simpa using h3
    exact List.length_eq_zero_iff.1 (by omega)
theorem block_parts {l : List Deed} (h : blockOk l = true) : (∀ d ∈ l, deedOk d = true) ∧ 0 < l.length ∧ l.length ≤ 8 := by
  simp only [blockOk, Bool.and_eq_true, List.all_eq_true, decide_eq_true_eq] at h
  exact ⟨h.1, by omega, by omega⟩
/-! ### the document's -/
end Go.Proofs.YtjndellhebidoaaGreatDoor
namespace Go.Proofs.YtjndellhebidoaaGreatDoor
open Go Go.Ev
set_option maxRecDepth 100000
abbrev mkC (s : Str) (pos : Int) (out : List Cell) (wt : List Wait) : List Chunk := [Chunk.cells [SC.pd (PD.str s), SC.i pos, SC.own 3, SC.own 2] 125, Chunk.dead, Chunk.own 155 ETy.wait wt, Chunk.own 88 ETy.cell out]
abbrev mkD (s : Str) (pos : Int) (out : List Cell) (wt : List Wait) : List Chunk := [Chunk.cells [SC.pd (PD.str s), SC.i pos, SC.own 1, SC.own 3] 125, Chunk.own 88 ETy.cell out, Chunk.dead, Chunk.own 155 ETy.wait wt]
def upC : Nat → Nat
  | 2 => 4
  | n => n
def dnC : Nat → Nat
  | 4 => 2
  | n => n
def upD : Nat → Nat
  | 1 => 3
  | 3 => 4
  | n => n
def dnD : Nat → Nat
  | 3 => 1
  | 4 => 3
  | n => n
theorem rnC (s : Str) (pos : Int) (out : List Cell) (wt : List Wait) : RnW upC dnC 3 (mkC s pos out wt) (mkB s pos out wt) := by
  refine ⟨fun j x' h => ?_, fun j hj => ?_⟩
  · match j, h with
    | 0, h => right; exact ⟨_, rfl, (Option.some.inj h).symm, rfl, by simp [Chunk.refs, SC.refs, upC, dnC]⟩
    | 1, h => left; simpa using h.symm
    | 2, h => left; simpa using h.symm
    | 3, h => right; exact ⟨_, rfl, (Option.some.inj h).symm, rfl, by simp [Chunk.refs]⟩
    | 4, h => right; exact ⟨_, rfl, (Option.some.inj h).symm, rfl, by simp [Chunk.refs]⟩
    | j + 5, h => simp at h
  · match j, hj with
    | 0, _ => rfl
    | 1, _ => rfl
    | 2, _ => rfl
theorem rnD (s : Str) (pos : Int) (out : List Cell) (wt : List Wait) : RnW upD dnD 3 (mkD s pos out wt) (mkB s pos out wt) := by
  refine ⟨fun j x' h => ?_, fun j hj => ?_⟩
  · match j, h with
    | 0, h => right; exact ⟨_, rfl, (Option.some.inj h).symm, rfl, by simp [Chunk.refs, SC.refs, upD, dnD]⟩
    | 1, h => left; simpa using h.symm
    | 2, h => left; simpa using h.symm
    | 3, h => right; exact ⟨_, rfl, (Option.some.inj h).symm, rfl, by simp [Chunk.refs]⟩
    | 4, h => right; exact ⟨_, rfl, (Option.some.inj h).symm, rfl, by simp [Chunk.refs]⟩
    | j + 5, h => simp at h
  · match j, hj with
    | 0, _ => rfl
    | 1, _ => rfl
    | 2, _ => rfl
theorem McQ.c {s : Str} {ret : SV} {pos : Int} {out : List Cell} {wt : List Wait} {c : List Chunk} (h : c = mkC s pos out wt) : McQ s ret pos out wt ret c := ⟨rfl, by rw [h]; exact ⟨_, _, rnC s pos out wt⟩⟩
theorem McQ.d {s : Str} {ret : SV} {pos : Int} {out : List Cell} {wt : List Wait} {c : List Chunk} (h : c = mkD s pos out wt) : McQ s ret pos out wt ret c := ⟨rfl, by rw [h]; exact ⟨_, _, rnD s pos out wt⟩⟩
/-! ### numbers -/
def cfgXn : Cfg := ⟨tys0, [eRnb, eRop]⟩
theorem cfgXn_ok : TabOk Tryz.prog cfgXn.tab := (TabOk.cons eRnb_ok (TabOk.cons eRop_ok TabOk.nil))

abbrev XnQ (s : Str) (k : Int) (out : List Cell) (wt : List Wait) : Out := McQ s (.x (.b (decide ((numberR s ⟨k, out, -1⟩).bad < 0)))) (numberR s ⟨k, out, -1⟩).pos (numberR s ⟨k, out, -1⟩).out wt
theorem XnQ.no {s : Str} {k : Int} {out : List Cell} {wt : List Wait} (hk : 0 ≤ k) (h : ((numM (numText s k)).2 != 0 || decide (wantsC (numC s k) < 0)) = true) : XnQ s k out wt (.x (.b false)) (mkA s k out wt) := by
  have e : numberR s ⟨k, out, -1⟩ = ⟨k, out, k⟩ := num_wrong (r := ⟨k, out, -1⟩) h
  unfold XnQ
  rw [e, decide_eq_false (show ¬ k < 0 by omega)]
  exact McQ.a rfl
theorem XnQ.yes {s : Str} {k p : Int} {out : List Cell} {wt : List Wait} (h : ((numM (numText s k)).2 != 0 || decide (wantsC (numC s k) < 0)) = false) (hp : p = if numImag s k = true then numEnd s k + 1 else numEnd s k) : XnQ s k out wt (.x (.b true)) (mkC s p (out ++ [numC s k]) wt) := by
  have e : numberR s ⟨k, out, -1⟩ = ⟨p, out ++ [numC s k], -1⟩ := by rw [hp]; exact num_right (r := ⟨k, out, -1⟩) h
  unfold XnQ
  rw [e, decide_eq_true (show (-1 : Int) < 0 by omega)]
  exact McQ.c rfl
theorem xnum_loop (s : Str) (k : Nat) (out : List Cell) (wt : List Wait) (Γ : Ctx) (hs : s.length ≤ 1048576) (ho : room (out.length + 1) 32) (hk : k < s.length) (hd : isD (s.getD k 0) = true) : ∀ (n m : Nat), s.length - m ≤ n → m ≤ s.length → k + 1 ≤ m → (s.drop k).takeWhile isD = seg s k m ++ (s.drop m).takeWhile isD → (byteAt s (k : Int) = 48 → m = k + 1) →
    J Tryz.prog 116 (bodyOf Tryz.f116) Γ (XnQ s k out wt) [.code [1, 1, 0, 0, 0], .inLoop [1, 1, 0, 0, 0], .inBlock 0, .code [1, 1, 1]] ({ n := 107, fr := [(0, .x (.c (.loc 0 0))), (2, .p (.bool false)), (3, .i ((m : Int)))], ck := [.cells [.pd (.str s), .i (↑k : Int), .own 1, .own 2] 125, .own 88 .cell out, .own 155 .wait wt], kn := [2], m := 3 }) := by
  intro n
  induction n with
  | zero => ?_
  | succ n ih => ?_
  all_goals
    intro m hn hm hkm hseg h48
    refine J.go (cfg := cfgXn) cfgXn_ok Tryz.func116 1000 (t := (.need ((0 : Int) ≤ (↑k : Int) ∧ (↑k : Int) < strLen s) (.need (Prod.snd (Prod.snd (Prod.snd (19, 31, true, onBy true ((↑(UInt8.toNat (List.getD s k (0 : UInt8))) : Int) != (48 : Int) && decide ((↑m : Int) < strLen s)) none))) → (0 : Int) ≤ (↑m : Int) ∧ (↑m : Int) < strLen s) (.need (Prod.snd (Prod.snd (Prod.snd (28, 40, true, onBy true ((↑(UInt8.toNat (List.getD s k (0 : UInt8))) : Int) != (48 : Int) && decide ((↑m : Int) < strLen s) && decide ((↑(UInt8.toNat (List.getD s m (0 : UInt8))) : Int) ≥ (48 : Int))) none))) → (0 : Int) ≤ (↑m : Int) ∧ (↑m : Int) < strLen s) (.ite ((↑(UInt8.toNat (List.getD s k (0 : UInt8))) : Int) != (48 : Int) && decide ((↑m : Int) < strLen s) && decide ((↑(UInt8.toNat (List.getD s m (0 : UInt8))) : Int) ≥ (48 : Int)) && decide ((↑(UInt8.toNat (List.getD s m (0 : UInt8))) : Int) ≤ (57 : Int))) (.stop [.code [1, 1, 0, 0, 0], .inLoop [1, 1, 0, 0, 0], .inBlock 0, .code [1, 1, 1]] { n := 107, fr := [(0, .x (.c (.loc 0 0))), (2, .p (.bool false)), (3, .i (IntKind.wrap .i64 ((↑m : Int) + (1 : Int))))], ck := [.cells [.pd (.str s), .i (↑k : Int), .own 1, .own 2] 125, .own 88 .cell out, .own 155 .wait wt], m := 3 }) (.need ((0 : Int) ≤ (↑k : Int) ∧ (↑k : Int) ≤ (↑m : Int) ∧ (↑m : Int) ≤ (↑(List.length s) : Int)) (.need (List.length (Prod.snd (cutL s (some (↑k : Int)) (some (↑m : Int)))) ≤ 281474976710656) (.need (decide ((↑m : Int) < strLen s) = true → (0 : Int) ≤ (↑m : Int) ∧ (↑m : Int) < strLen s) (.ite (decide ((↑m : Int) < strLen s) && (↑(UInt8.toNat (List.getD s m (0 : UInt8))) : Int) == (105 : Int)) (.ite (Prod.snd (numM (Prod.snd (cutL s (some (↑k : Int)) (some (↑m : Int))))) != (0 : Int) || decide (wantsM (2 : Int) (Prod.fst (numM (Prod.snd (cutL s (some (↑k : Int)) (some (↑m : Int)))))) [] < (0 : Int))) (.ret (.p (.bool false)) [.cells [.pd (.str s), .i (↑k : Int), .own 1, .own 2] 125, .own 88 .cell out, .own 155 .wait wt]) (.need (room (List.length (out ++ [{ op := (2 : Int), a := Prod.fst (numM (Prod.snd (cutL s (some (↑k : Int)) (some (↑m : Int))))), name := [] }])) 32) (.ret (.p (.bool true)) [.cells [.pd (.str s), .i (IntKind.wrap .i64 ((↑m : Int) + (1 : Int))), .own 3, .own 2] 125, .dead, .own 155 .wait wt, .own 88 .cell (out ++ [{ op := (2 : Int), a := Prod.fst (numM (Prod.snd (cutL s (some (↑k : Int)) (some (↑m : Int))))), name := [] }])]))) (.ite (Prod.snd (numM (Prod.snd (cutL s (some (↑k : Int)) (some (↑m : Int))))) != (0 : Int) || decide (wantsM (1 : Int) (Prod.fst (numM (Prod.snd (cutL s (some (↑k : Int)) (some (↑m : Int)))))) [] < (0 : Int))) (.ret (.p (.bool false)) [.cells [.pd (.str s), .i (↑k : Int), .own 1, .own 2] 125, .own 88 .cell out, .own 155 .wait wt]) (.need (room (List.length (out ++ [{ op := (1 : Int), a := Prod.fst (numM (Prod.snd (cutL s (some (↑k : Int)) (some (↑m : Int))))), name := [] }])) 32) (.ret (.p (.bool true)) [.cells [.pd (.str s), .i (↑m : Int), .own 3, .own 2] 125, .dead, .own 155 .wait wt, .own 88 .cell (out ++ [{ op := (1 : Int), a := Prod.fst (numM (Prod.snd (cutL s (some (↑k : Int)) (some (↑m : Int))))), name := [] }])])))))))))))) (by kernel_rfl) ?_
    have hL : strLen s = (s.length : Int) := rfl
    have hcm := seg_len (s := s) (k := k) (m := m) (by omega) hm
    have hnb := numEnd_bounds (s := s) (k := (k : Int)) (by omega) (by omega) hd
    have inb : decide ((m : Int) < strLen s) = true → 0 ≤ (m : Int) ∧ (m : Int) < strLen s := fun h => ⟨by omega, of_decide_eq_true h⟩
    refine ⟨⟨by omega, by omega⟩, fun h => ?_, fun h => ?_, fun h => ?_, fun h => ?_⟩
    · simp only [onBy, Bool.and_eq_true] at h; exact inb h.2
    · simp only [onBy, Bool.and_eq_true] at h; exact inb h.1.2
    · have h' : (((s.getD k 0).toNat : Int) != 48) = true ∧ decide ((m : Int) < strLen s) = true ∧ isD (s.getD m 0) = true := by
        simp only [Bool.and_eq_true, decide_eq_true_eq] at h
        simp only [isD, Bool.and_eq_true, decide_eq_true_eq]
        exact ⟨h.1.1.1, h.1.1.2, by omega, h.2⟩
      have hlt : m < s.length := by have := of_decide_eq_true h'.2.1; omega
      have hn48 : byteAt s (k : Int) ≠ 48 := by
        have := h'.1
        simpa [byteAt] using this
      first
      | (exfalso; omega)
      | (rw [wrapK (by omega)]
         exact J.kn [2] (ih (m + 1) (by omega) (by omega) (by omega) (by rw [hseg, take_on (by omega) hlt h'.2.2]) (fun e => absurd e hn48)))
    · have e1 : (m : Int) = numEnd s (k : Int) := by
        by_cases h8 : byteAt s (k : Int) = 48
        · rw [numEnd, if_pos h8, h48 h8]; omega
        · have e : (s.drop m).takeWhile isD = [] := take_end fun hlt => by
            cases hx : isD (s.getD m 0) with
            | false => rfl
            | true =>
              exfalso
              simp only [isD, Bool.and_eq_true, decide_eq_true_eq] at hx
              have c1 : (((s.getD k 0).toNat : Int) != 48) = true := by simpa [byteAt] using h8
              rw [c1, decide_eq_true (show (m : Int) < strLen s by omega), decide_eq_true (show ((s.getD m 0).toNat : Int) ≥ 48 by omega), decide_eq_true hx.2] at h
              cases h
          rw [numEnd, if_neg h8]
          show (m : Int) = (k : Int) + strLen ((s.drop k).takeWhile isD)
          rw [hseg, e, List.append_nil]
          show (m : Int) = (k : Int) + ((seg s k m).length : Int)
          omega
      have hnb0 : (k : Int) ≤ numEnd s (k : Int) := by omega
      rw [e1]
      have hcl : (numText s (k : Int)).length ≤ 281474976710656 := by
        unfold numText; rw [List.length_drop, List.length_take]; omega
      refine ⟨⟨by omega, hnb0, hnb.2⟩, hcl, fun h => ⟨by omega, of_decide_eq_true h⟩, fun hi => ?_, fun hi => ?_⟩
      · have hi' : numImag s (k : Int) = true := by first | exact hi | (rw [numImag, byteAt, show (numEnd s (k : Int)).toNat = m by omega]; exact hi)
        have hc : numC s (k : Int) = ⟨2, (numM (numText s (k : Int))).1, []⟩ := by rw [numC, if_pos hi']
        refine ⟨fun hb => ?_, fun hb => ⟨by rw [List.length_append]; exact ho, ?_⟩⟩
        · exact XnQ.no (by omega) (by rw [hc]; exact hb)
        · have := XnQ.yes (s := s) (k := (k : Int)) (p := numEnd s (k : Int) + 1) (out := out) (wt := wt) (by rw [hc]; exact hb) (by rw [if_pos hi'])
          rw [hc] at this
          rw [wrapI (by omega) (by omega)]; exact this
      · have hi' : ¬ numImag s (k : Int) = true := by
          have : numImag s (k : Int) = false := by first | exact hi | (rw [numImag, byteAt, show (numEnd s (k : Int)).toNat = m by omega]; exact hi)
          rw [this]; simp
        have hc : numC s (k : Int) = ⟨1, (numM (numText s (k : Int))).1, []⟩ := by rw [numC, if_neg hi']
        refine ⟨fun hb => ?_, fun hb => ⟨by rw [List.length_append]; exact ho, ?_⟩⟩
        · exact XnQ.no (by omega) (by rw [hc]; exact hb)
        · have := XnQ.yes (s := s) (k := (k : Int)) (p := numEnd s (k : Int)) (out := out) (wt := wt) (by rw [hc]; exact hb) (by rw [if_neg hi'])
          rw [hc] at this
          exact this
theorem xnum_spec (s : Str) (pos : Int) (out : List Cell) (wt : List Wait) (hs : s.length ≤ 1048576) (ho : room (out.length + 1) 32) (h0 : 0 ≤ pos) (h1 : pos < strLen s) (hd : isD (s.getD pos.toNat 0) = true) :
    Does Tryz.prog 116 [.c (.loc 0 0)] (mkA s pos out wt) (.x (.b (decide ((numberR s ⟨pos, out, -1⟩).bad < 0)))) (mkB s (numberR s ⟨pos, out, -1⟩).pos (numberR s ⟨pos, out, -1⟩).out wt) := by
  obtain ⟨k, rfl⟩ := Int.eq_ofNat_of_zero_le h0
  have hL : strLen s = (s.length : Int) := rfl
  refine Does.mc Tryz.func116 (by kernel_rfl) (by kernel_rfl) rfl rfl fun Γ => ?_
  refine J.go (cfg := cfg0) cfg0_ok Tryz.func116 1000 (t := (.stop [.code [1, 1, 0, 0, 0], .inLoop [1, 1, 0, 0, 0], .inBlock 0, .code [1, 1, 1]] { n := 107, fr := [(0, .x (.c (.loc 0 0))), (2, .p (.bool false)), (3, .i (IntKind.wrap .i64 ((↑k : Int) + (1 : Int))))], ck := [.cells [.pd (.str s), .i (↑k : Int), .own 1, .own 2] 125, .own 88 .cell out, .own 155 .wait wt], kn := [2], m := 3 })) (by kernel_rfl) ?_
  rw [wrapI (n := (k : Int) + 1) (by omega) (by omega)]
  have hlt : k < s.length := by omega
  have hd' : isD (s.getD k 0) = true := hd
  exact xnum_loop s k out wt Γ hs ho hlt hd' s.length (k + 1) (by omega) (by omega) (by omega) (by
    rw [seg_succ hlt (Nat.le_refl k), seg_self, drop_byte hlt, List.takeWhile_cons, if_pos hd']; rfl) (fun _ => rfl)
def eXnum : Nat × (List SX → List Chunk → Option (Option Prop × SV × List Chunk)) := (116, fun
  | [.c (.loc 0 0)], [.cells [.pd (.str s), .pd (.int .i64 pos), .own 1, .own 2] 125, .own 88 .cell out, .own 155 .wait wt] => some (some (s.length ≤ 1048576 ∧ room (out.length + 1) 32 ∧ 0 ≤ pos ∧ pos < strLen s ∧ isD (s.getD pos.toNat 0) = true), .x (.c (.pd (.bool (decide ((numberR s ⟨pos, out, -1⟩).bad < 0))))), [.cells [.pd (.str s), .pd (.int .i64 (numberR s ⟨pos, out, -1⟩).pos), .own 3, .own 4] 125, .dead, .dead, .own 88 .cell (numberR s ⟨pos, out, -1⟩).out, .own 155 .wait wt])
  | _, _ => none)
theorem eXnum_ok (vs : List SX) (ck : List Chunk) (p : Option Prop) (ret : SV) (ck' : List Chunk) (h : eXnum.2 vs ck = some (p, ret, ck')) (hp : Holds p) : Does Tryz.prog eXnum.1 vs ck ret ck' := by
  unfold eXnum at h
  simp only at h
  split at h
  · rename_i s pos out wt
    simp only [Option.some.injEq, Prod.mk.injEq] at h
    obtain ⟨rfl, rfl, rfl⟩ := h
    exact xnum_spec s pos out wt hp.1 hp.2.1 hp.2.2.1 hp.2.2.2.1 hp.2.2.2.2
  · simp at h
end Go.Proofs.YtjndellhebidoaaGreatDoor

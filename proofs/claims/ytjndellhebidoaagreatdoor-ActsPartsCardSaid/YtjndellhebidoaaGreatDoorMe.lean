/- Contracts of the program's reader of expressions, whole. Conditions: texts of at most 2^20 bytes. -/
import Derived.Test.YtjndellhebidoaaGreatDoorMd
namespace Go.Proofs.YtjndellhebidoaaGreatDoor
open Go Go.Ev
set_option maxRecDepth 100000
def eBin (B : Int → Rd → Rd) : Nat × (List SX → List Chunk → Option (Option Prop × SV × List Chunk)) := (78, fun
  | [.c (.loc 0 0), .c (.pd (.int .i64 p))], [.cells [.pd (.str s), .pd (.int .i64 pos), .own 1, .pd (.int .i64 bad)] 119, .own 88 .cell out] => some (some (Does Tryz.prog 78 [.c (.loc 0 0), .i p] [.cells [.pd (.str s), .pd (.int .i64 pos), .own 1, .pd (.int .i64 bad)] 119, .own 88 .cell out] (.tup []) (rd2 s (B p ⟨pos, out, bad⟩))), .tup [], [.cells [.pd (.str s), .pd (.int .i64 (B p ⟨pos, out, bad⟩).pos), .own 2, .pd (.int .i64 (B p ⟨pos, out, bad⟩).bad)] 119, .dead, .own 88 .cell (B p ⟨pos, out, bad⟩).out])
  | _, _ => none)
def eUna (B : Rd → Rd) : Nat × (List SX → List Chunk → Option (Option Prop × SV × List Chunk)) := (111, fun
  | [.c (.loc 0 0)], [.cells [.pd (.str s), .pd (.int .i64 pos), .own 1, .pd (.int .i64 bad)] 119, .own 88 .cell out] => some (some (Does Tryz.prog 111 [.c (.loc 0 0)] [.cells [.pd (.str s), .pd (.int .i64 pos), .own 1, .pd (.int .i64 bad)] 119, .own 88 .cell out] (.tup []) (rd2 s (B ⟨pos, out, bad⟩))), .tup [], [.cells [.pd (.str s), .pd (.int .i64 (B ⟨pos, out, bad⟩).pos), .own 2, .pd (.int .i64 (B ⟨pos, out, bad⟩).bad)] 119, .dead, .own 88 .cell (B ⟨pos, out, bad⟩).out])
  | _, _ => none)
def eAtom (B : Rd → Rd) : Nat × (List SX → List Chunk → Option (Option Prop × SV × List Chunk)) := (135, fun
  | [.c (.loc 0 0)], [.cells [.pd (.str s), .pd (.int .i64 pos), .own 1, .pd (.int .i64 bad)] 119, .own 88 .cell out] => some (some (Does Tryz.prog 135 [.c (.loc 0 0)] [.cells [.pd (.str s), .pd (.int .i64 pos), .own 1, .pd (.int .i64 bad)] 119, .own 88 .cell out] (.tup []) (rd2 s (B ⟨pos, out, bad⟩))), .tup [], [.cells [.pd (.str s), .pd (.int .i64 (B ⟨pos, out, bad⟩).pos), .own 2, .pd (.int .i64 (B ⟨pos, out, bad⟩).bad)] 119, .dead, .own 88 .cell (B ⟨pos, out, bad⟩).out])
  | _, _ => none)
def eCalled (B : Rd → Rd) : Nat × (List SX → List Chunk → Option (Option Prop × SV × List Chunk)) := (155, fun
  | [.c (.loc 0 0), .c (.pd (.str w))], [.cells [.pd (.str s), .pd (.int .i64 pos), .own 1, .pd (.int .i64 bad)] 119, .own 88 .cell out] => some (some (Does Tryz.prog 155 [.c (.loc 0 0), .s w] [.cells [.pd (.str s), .pd (.int .i64 pos), .own 1, .pd (.int .i64 bad)] 119, .own 88 .cell out] (.tup []) (rd2 s (B ⟨pos, out, bad⟩))), .tup [], [.cells [.pd (.str s), .pd (.int .i64 (B ⟨pos, out, bad⟩).pos), .own 2, .pd (.int .i64 (B ⟨pos, out, bad⟩).bad)] 119, .dead, .own 88 .cell (B ⟨pos, out, bad⟩).out])
  | _, _ => none)
def cfgBn (B : Int → Rd → Rd) (U : Rd → Rd) : Cfg := ⟨tys0, [eBin B, eUna U, eRoper, eEmit]⟩
def cfgUn (U A : Rd → Rd) : Cfg := ⟨tys0, [eUna U, eAtom A, eWrong, eEmit]⟩
def cfgAt (B : Int → Rd → Rd) (C : Rd → Rd) : Cfg := ⟨tys0, [eBin B, eCalled C, eRclose, eRnum, eRword, eEmit, eWrong, eName]⟩
def cfgCa (B : Int → Rd → Rd) : Cfg := ⟨tys0, [eBin B, eRclose, eRword, eEmit, eWrong, eName]⟩
theorem eBin_ok {B : Int → Rd → Rd} (vs : List SX) (ck : List Chunk) (p : Option Prop) (ret : SV) (ck' : List Chunk) (h : (eBin B).2 vs ck = some (p, ret, ck')) (hp : Holds p) : Does Tryz.prog (eBin B).1 vs ck ret ck' := by
  unfold eBin at h
  simp only at h
  split at h
  · simp only [Option.some.injEq, Prod.mk.injEq] at h
    obtain ⟨rfl, rfl, rfl⟩ := h
    exact hp
  · simp at h
theorem eUna_ok {B : Rd → Rd} (vs : List SX) (ck : List Chunk) (p : Option Prop) (ret : SV) (ck' : List Chunk) (h : (eUna B).2 vs ck = some (p, ret, ck')) (hp : Holds p) : Does Tryz.prog (eUna B).1 vs ck ret ck' := by
  unfold eUna at h
  simp only at h
  split at h
  · simp only [Option.some.injEq, Prod.mk.injEq] at h
    obtain ⟨rfl, rfl, rfl⟩ := h
    exact hp
  · simp at h
theorem eAtom_ok {B : Rd → Rd} (vs : List SX) (ck : List Chunk) (p : Option Prop) (ret : SV) (ck' : List Chunk) (h : (eAtom B).2 vs ck = some (p, ret, ck')) (hp : Holds p) : Does Tryz.prog (eAtom B).1 vs ck ret ck' := by
  unfold eAtom at h
  simp only at h
  split at h
  · simp only [Option.some.injEq, Prod.mk.injEq] at h
    obtain ⟨rfl, rfl, rfl⟩ := h
    exact hp
  · simp at h
theorem eCalled_ok {B : Rd → Rd} (vs : List SX) (ck : List Chunk) (p : Option Prop) (ret : SV) (ck' : List Chunk) (h : (eCalled B).2 vs ck = some (p, ret, ck')) (hp : Holds p) : Does Tryz.prog (eCalled B).1 vs ck ret ck' := by
  unfold eCalled at h
  simp only at h
  split at h
  · simp only [Option.some.injEq, Prod.mk.injEq] at h
    obtain ⟨rfl, rfl, rfl⟩ := h
    exact hp
  · simp at h
theorem cfgBn_ok {B : Int → Rd → Rd} {U : Rd → Rd} : TabOk Tryz.prog (cfgBn B U).tab := TabOk.cons eBin_ok (TabOk.cons eUna_ok (TabOk.cons eRoper_ok (TabOk.cons eEmit_ok TabOk.nil)))
theorem cfgUn_ok {U A : Rd → Rd} : TabOk Tryz.prog (cfgUn U A).tab := TabOk.cons eUna_ok (TabOk.cons eAtom_ok (TabOk.cons eWrong_ok (TabOk.cons eEmit_ok TabOk.nil)))
theorem cfgAt_ok {B : Int → Rd → Rd} {C : Rd → Rd} : TabOk Tryz.prog (cfgAt B C).tab := TabOk.cons eBin_ok (TabOk.cons eCalled_ok (TabOk.cons eRclose_ok (TabOk.cons eRnum_ok (TabOk.cons eRword_ok (TabOk.cons eEmit_ok (TabOk.cons eWrong_ok (TabOk.cons eName_ok TabOk.nil)))))))
theorem cfgCa_ok {B : Int → Rd → Rd} : TabOk Tryz.prog (cfgCa B).tab := TabOk.cons eBin_ok (TabOk.cons eRclose_ok (TabOk.cons eRword_ok (TabOk.cons eEmit_ok (TabOk.cons eWrong_ok (TabOk.cons eName_ok TabOk.nil)))))
variable {s : Str}
theorem room_cell {n : Nat} (h : n ≤ 4000000) : room n 32 := by unfold room maxLen; omega
def Slack (s : Str) (r : Rd) : Prop := (r.out.length : Int) + (strLen s - r.pos) ≤ 3000000 ∧ s.length ≤ 1048576
theorem Slack.to {r : Rd} {k : Int} (h : Slack s r) (hk : r.pos ≤ k) : Slack s (r.to k) := ⟨by have := h.1; simp only [Rd.to]; omega, h.2⟩
theorem Slack.out {r o : Rd} (h : Slack s r) (hl : Left s r o) : o.out.length ≤ 3000000 ∧ (Ok s o → Slack s o) ∧ (o.bad < 0 → 0 ≤ o.pos ∧ o.pos ≤ strLen s) ∧ -1 ≤ o.pos ∧ o.pos ≤ 1099511627775 := by
  have h1 := h.1
  have h2 := h.2
  have hL : strLen s = (s.length : Int) := rfl
  rcases hl with ⟨g1, g2, g3⟩ | ⟨g1, g2, g3, g4, g5, g6⟩
  · have := g1.low; have := g1.high
    exact ⟨by omega, fun _ => ⟨by omega, h2⟩, fun _ => ⟨g1.low, g1.high⟩, by omega, by omega⟩
  · refine ⟨by omega, fun hk => ?_, fun _ => by omega, by omega, by omega⟩
    have := hk.bad; omega
abbrev binD (s : Str) (p : Int) (r o : Rd) : Prop := Does Tryz.prog 78 [.c (.loc 0 0), .i p] (rd1 s r) (.tup []) (rd2 s o)
abbrev unaD (s : Str) (r o : Rd) : Prop := Does Tryz.prog 111 [.c (.loc 0 0)] (rd1 s r) (.tup []) (rd2 s o)
abbrev atomD (s : Str) (r o : Rd) : Prop := Does Tryz.prog 135 [.c (.loc 0 0)] (rd1 s r) (.tup []) (rd2 s o)
abbrev calledD (s w : Str) (r o : Rd) : Prop := Does Tryz.prog 155 [.c (.loc 0 0), .s w] (rd1 s r) (.tup []) (rd2 s o)
theorem close_eq (q : Rd) : closeR s q = ⟨q.pos + 1, q.out, (closeR s q).bad⟩ := by
  unfold closeR
  split <;> rfl
theorem head_par {k : Int} (h : headM s k = .par) : isD (s.getD k.toNat 0) = false ∧ byteAt s k = 40 := by
  unfold headM at h
  split at h; cases h
  split at h; cases h
  split at h; cases h
  split at h; cases h
  split at h
  · rename_i h4 h5; exact ⟨by simpa using h4, h5⟩
  · split at h
    · cases h
    · split at h <;> cases h
theorem head_leaf {k : Int} (h : headM s k = .leaf) : (isD (s.getD k.toNat 0) = false → byteAt s k ≠ 40) ∧ (isD (s.getD k.toNat 0) = false → ¬ (wordM s k = reS ∧ callB s k = true) ∧ ¬ (wordM s k = imS ∧ callB s k = true)) := by
  unfold headM at h
  split at h; cases h
  split at h; cases h
  split at h; cases h
  split at h
  · rename_i h4; exact ⟨fun h5 => (by rw [h4] at h5; cases h5), fun h5 => (by rw [h4] at h5; cases h5)⟩
  · split at h
    · cases h
    · rename_i h5
      split at h
      · cases h
      · rename_i h6
        split at h
        · cases h
        · rename_i h7; exact ⟨fun _ => h5, fun _ => ⟨h6, h7⟩⟩
/-! ### calls -/
theorem called_op {w : Str} {r q : Rd} {op : Int} (hw : w = reS ∧ op = 9 ∨ w = imS ∧ op = 10) (hok : Ok s r) (hsl : Slack s r) (h3 : r.pos + 3 ≤ strLen s) (hq : binD s 1 (r.to (r.pos + 3)) q) (hl : Left s (r.to (r.pos + 3)) q) : calledD s w r ((closeR s q).emit ⟨op, 0, []⟩) := by
  have hlow := hok.low
  have hL : strLen s = (s.length : Int) := rfl
  have hs := hsl.2
  obtain ⟨k1, k2, k3, k4, k5⟩ := (hsl.to (k := r.pos + 3) (by omega)).out hl
  have hw3 : IntKind.wrap .i64 (strLen w + 1) = 3 := by rcases hw with ⟨rfl, _⟩ | ⟨rfl, _⟩ <;> decide
  let B : Int → Rd → Rd := fun _ _ => q
  refine Does.rd Tryz.func155 (by kernel_rfl) (by kernel_rfl) rfl fun Γ => ?_
  refine J.go (cfg := (cfgCa B)) cfgCa_ok Tryz.func155 1000 (t := (.ite (!w == [(105 : UInt8), 110]) (.need (Does Tryz.prog (78 : FuncId) [.c (.loc 0 0), SX.i (1 : Int)] [.cells [.pd (.str s), .i (IntKind.wrap .i64 (Rd.pos r + IntKind.wrap .i64 (strLen w + (1 : Int)))), .own 1, .i (Rd.bad r)] (119 : TypeId), .own (88 : TypeId) .cell (Rd.out r)] (.tup []) (rd2 s (B (1 : Int) { pos := IntKind.wrap .i64 (Rd.pos r + IntKind.wrap .i64 (strLen w + (1 : Int))), out := Rd.out r, bad := Rd.bad r }))) (.need ((Rd.bad (B (1 : Int) { pos := IntKind.wrap .i64 (Rd.pos r + IntKind.wrap .i64 (strLen w + (1 : Int))), out := Rd.out r, bad := Rd.bad r }) < (0 : Int) → (0 : Int) ≤ Rd.pos (B (1 : Int) { pos := IntKind.wrap .i64 (Rd.pos r + IntKind.wrap .i64 (strLen w + (1 : Int))), out := Rd.out r, bad := Rd.bad r }) ∧ Rd.pos (B (1 : Int) { pos := IntKind.wrap .i64 (Rd.pos r + IntKind.wrap .i64 (strLen w + (1 : Int))), out := Rd.out r, bad := Rd.bad r }) ≤ strLen s) ∧ (-1 : Int) ≤ Rd.pos (B (1 : Int) { pos := IntKind.wrap .i64 (Rd.pos r + IntKind.wrap .i64 (strLen w + (1 : Int))), out := Rd.out r, bad := Rd.bad r }) ∧ Rd.pos (B (1 : Int) { pos := IntKind.wrap .i64 (Rd.pos r + IntKind.wrap .i64 (strLen w + (1 : Int))), out := Rd.out r, bad := Rd.bad r }) ≤ (1099511627776 : Int)) (.ite (w == [(105 : UInt8), 109]) (.need (room (List.length (Rd.out (B (1 : Int) { pos := IntKind.wrap .i64 (Rd.pos r + IntKind.wrap .i64 (strLen w + (1 : Int))), out := Rd.out r, bad := Rd.bad r })) + 1) 32) (.ret (.tup []) [.cells [.pd (.str s), .i (Rd.pos (B (1 : Int) { pos := IntKind.wrap .i64 (Rd.pos r + IntKind.wrap .i64 (strLen w + (1 : Int))), out := Rd.out r, bad := Rd.bad r }) + (1 : Int)), .own 2, .i (Rd.bad (closeR s { pos := Rd.pos (B (1 : Int) { pos := IntKind.wrap .i64 (Rd.pos r + IntKind.wrap .i64 (strLen w + (1 : Int))), out := Rd.out r, bad := Rd.bad r }), out := Rd.out (B (1 : Int) { pos := IntKind.wrap .i64 (Rd.pos r + IntKind.wrap .i64 (strLen w + (1 : Int))), out := Rd.out r, bad := Rd.bad r }), bad := Rd.bad (B (1 : Int) { pos := IntKind.wrap .i64 (Rd.pos r + IntKind.wrap .i64 (strLen w + (1 : Int))), out := Rd.out r, bad := Rd.bad r }) }))] 119, .dead, .own 88 .cell (Rd.out (B (1 : Int) { pos := IntKind.wrap .i64 (Rd.pos r + IntKind.wrap .i64 (strLen w + (1 : Int))), out := Rd.out r, bad := Rd.bad r }) ++ [{ op := (10 : Int), a := (0 : Int), name := [] }])])) (.need (room (List.length (Rd.out (B (1 : Int) { pos := IntKind.wrap .i64 (Rd.pos r + IntKind.wrap .i64 (strLen w + (1 : Int))), out := Rd.out r, bad := Rd.bad r })) + 1) 32) (.ret (.tup []) [.cells [.pd (.str s), .i (Rd.pos (B (1 : Int) { pos := IntKind.wrap .i64 (Rd.pos r + IntKind.wrap .i64 (strLen w + (1 : Int))), out := Rd.out r, bad := Rd.bad r }) + (1 : Int)), .own 2, .i (Rd.bad (closeR s { pos := Rd.pos (B (1 : Int) { pos := IntKind.wrap .i64 (Rd.pos r + IntKind.wrap .i64 (strLen w + (1 : Int))), out := Rd.out r, bad := Rd.bad r }), out := Rd.out (B (1 : Int) { pos := IntKind.wrap .i64 (Rd.pos r + IntKind.wrap .i64 (strLen w + (1 : Int))), out := Rd.out r, bad := Rd.bad r }), bad := Rd.bad (B (1 : Int) { pos := IntKind.wrap .i64 (Rd.pos r + IntKind.wrap .i64 (strLen w + (1 : Int))), out := Rd.out r, bad := Rd.bad r }) }))] 119, .dead, .own 88 .cell (Rd.out (B (1 : Int) { pos := IntKind.wrap .i64 (Rd.pos r + IntKind.wrap .i64 (strLen w + (1 : Int))), out := Rd.out r, bad := Rd.bad r }) ++ [{ op := (9 : Int), a := (0 : Int), name := [] }])]))))) (.need (List.length s ≤ 1048576 ∧ (0 : Int) ≤ IntKind.wrap .i64 (Rd.pos r + IntKind.wrap .i64 (strLen w + (1 : Int))) ∧ IntKind.wrap .i64 (Rd.pos r + IntKind.wrap .i64 (strLen w + (1 : Int))) ≤ strLen s) (.ite (!nameM (wordM s (IntKind.wrap .i64 (Rd.pos r + IntKind.wrap .i64 (strLen w + (1 : Int)))))) (.ret (.tup []) [.cells [.pd (.str s), .i (IntKind.wrap .i64 (Rd.pos r + IntKind.wrap .i64 (strLen w + (1 : Int)))), .own 1, .i (if Rd.bad r < (0 : Int) then IntKind.wrap .i64 (Rd.pos r + IntKind.wrap .i64 (strLen w + (1 : Int))) else Rd.bad r)] 119, .own 88 .cell (Rd.out r)]) (.need ((Rd.bad r < (0 : Int) → (0 : Int) ≤ IntKind.wrap .i64 (IntKind.wrap .i64 (Rd.pos r + IntKind.wrap .i64 (strLen w + (1 : Int))) + strLen (wordM s (IntKind.wrap .i64 (Rd.pos r + IntKind.wrap .i64 (strLen w + (1 : Int)))))) ∧ IntKind.wrap .i64 (IntKind.wrap .i64 (Rd.pos r + IntKind.wrap .i64 (strLen w + (1 : Int))) + strLen (wordM s (IntKind.wrap .i64 (Rd.pos r + IntKind.wrap .i64 (strLen w + (1 : Int)))))) ≤ strLen s) ∧ (-1 : Int) ≤ IntKind.wrap .i64 (IntKind.wrap .i64 (Rd.pos r + IntKind.wrap .i64 (strLen w + (1 : Int))) + strLen (wordM s (IntKind.wrap .i64 (Rd.pos r + IntKind.wrap .i64 (strLen w + (1 : Int)))))) ∧ IntKind.wrap .i64 (IntKind.wrap .i64 (Rd.pos r + IntKind.wrap .i64 (strLen w + (1 : Int))) + strLen (wordM s (IntKind.wrap .i64 (Rd.pos r + IntKind.wrap .i64 (strLen w + (1 : Int)))))) ≤ (1099511627776 : Int)) (.need (room (List.length (Rd.out r) + 1) 32) (.ret (.tup []) [.cells [.pd (.str s), .i (IntKind.wrap .i64 (IntKind.wrap .i64 (Rd.pos r + IntKind.wrap .i64 (strLen w + (1 : Int))) + strLen (wordM s (IntKind.wrap .i64 (Rd.pos r + IntKind.wrap .i64 (strLen w + (1 : Int)))))) + (1 : Int)), .own 2, .i (Rd.bad (closeR s { pos := IntKind.wrap .i64 (IntKind.wrap .i64 (Rd.pos r + IntKind.wrap .i64 (strLen w + (1 : Int))) + strLen (wordM s (IntKind.wrap .i64 (Rd.pos r + IntKind.wrap .i64 (strLen w + (1 : Int)))))), out := Rd.out r, bad := Rd.bad r }))] 119, .dead, .own 88 .cell (Rd.out r ++ [{ op := (6 : Int), a := (0 : Int), name := wordM s (IntKind.wrap .i64 (Rd.pos r + IntKind.wrap .i64 (strLen w + (1 : Int)))) }])]))))))) (by kernel_rfl) ?_
  rw [hw3, wrapI (n := r.pos + 3) (by omega) (by omega)]
  refine ⟨fun _ => ⟨hq, ⟨fun h => k3 h, k4, by show q.pos ≤ _; omega⟩, fun h => ⟨room_cell (by show q.out.length + 1 ≤ _; omega), RdQ.two ?_⟩, fun h => ⟨room_cell (by show q.out.length + 1 ≤ _; omega), RdQ.two ?_⟩⟩, fun h => ?_⟩
  · have e : op = 10 := by
      rcases hw with ⟨rfl, _⟩ | ⟨_, e⟩
      · exact absurd h (by decide)
      · exact e
    subst e; rw [close_eq q]; rfl
  · have e : op = 9 := by
      rcases hw with ⟨_, e⟩ | ⟨rfl, _⟩
      · exact e
      · exact absurd h (by decide)
    subst e; rw [close_eq q]; rfl
  · exfalso
    rcases hw with ⟨rfl, _⟩ | ⟨rfl, _⟩ <;> exact absurd h (by decide)
theorem called_in {w : Str} {r : Rd} (hw0 : w = inS) (hok : Ok s r) (hsl : Slack s r) (h3 : r.pos + 3 ≤ strLen s) : calledD s w r (inR s r) := by
  have hlow := hok.low
  have hL : strLen s = (s.length : Int) := rfl
  have hs := hsl.2
  have hs1 := hsl.1
  have hb := hok.bad
  have hw := wordM_le s (k := r.pos + 3) (by omega) h3
  have hw3 : IntKind.wrap .i64 (strLen w + 1) = 3 := by rw [hw0]; decide
  let B : Int → Rd → Rd := fun _ _ => r
  refine Does.rd Tryz.func155 (by kernel_rfl) (by kernel_rfl) rfl fun Γ => ?_
  refine J.go (cfg := (cfgCa B)) cfgCa_ok Tryz.func155 1000 (t := (.ite (!w == [(105 : UInt8), 110]) (.need (Does Tryz.prog (78 : FuncId) [.c (.loc 0 0), SX.i (1 : Int)] [.cells [.pd (.str s), .i (IntKind.wrap .i64 (Rd.pos r + IntKind.wrap .i64 (strLen w + (1 : Int)))), .own 1, .i (Rd.bad r)] (119 : TypeId), .own (88 : TypeId) .cell (Rd.out r)] (.tup []) (rd2 s (B (1 : Int) { pos := IntKind.wrap .i64 (Rd.pos r + IntKind.wrap .i64 (strLen w + (1 : Int))), out := Rd.out r, bad := Rd.bad r }))) (.need ((Rd.bad (B (1 : Int) { pos := IntKind.wrap .i64 (Rd.pos r + IntKind.wrap .i64 (strLen w + (1 : Int))), out := Rd.out r, bad := Rd.bad r }) < (0 : Int) → (0 : Int) ≤ Rd.pos (B (1 : Int) { pos := IntKind.wrap .i64 (Rd.pos r + IntKind.wrap .i64 (strLen w + (1 : Int))), out := Rd.out r, bad := Rd.bad r }) ∧ Rd.pos (B (1 : Int) { pos := IntKind.wrap .i64 (Rd.pos r + IntKind.wrap .i64 (strLen w + (1 : Int))), out := Rd.out r, bad := Rd.bad r }) ≤ strLen s) ∧ (-1 : Int) ≤ Rd.pos (B (1 : Int) { pos := IntKind.wrap .i64 (Rd.pos r + IntKind.wrap .i64 (strLen w + (1 : Int))), out := Rd.out r, bad := Rd.bad r }) ∧ Rd.pos (B (1 : Int) { pos := IntKind.wrap .i64 (Rd.pos r + IntKind.wrap .i64 (strLen w + (1 : Int))), out := Rd.out r, bad := Rd.bad r }) ≤ (1099511627776 : Int)) (.ite (w == [(105 : UInt8), 109]) (.need (room (List.length (Rd.out (B (1 : Int) { pos := IntKind.wrap .i64 (Rd.pos r + IntKind.wrap .i64 (strLen w + (1 : Int))), out := Rd.out r, bad := Rd.bad r })) + 1) 32) (.ret (.tup []) [.cells [.pd (.str s), .i (Rd.pos (B (1 : Int) { pos := IntKind.wrap .i64 (Rd.pos r + IntKind.wrap .i64 (strLen w + (1 : Int))), out := Rd.out r, bad := Rd.bad r }) + (1 : Int)), .own 2, .i (Rd.bad (closeR s { pos := Rd.pos (B (1 : Int) { pos := IntKind.wrap .i64 (Rd.pos r + IntKind.wrap .i64 (strLen w + (1 : Int))), out := Rd.out r, bad := Rd.bad r }), out := Rd.out (B (1 : Int) { pos := IntKind.wrap .i64 (Rd.pos r + IntKind.wrap .i64 (strLen w + (1 : Int))), out := Rd.out r, bad := Rd.bad r }), bad := Rd.bad (B (1 : Int) { pos := IntKind.wrap .i64 (Rd.pos r + IntKind.wrap .i64 (strLen w + (1 : Int))), out := Rd.out r, bad := Rd.bad r }) }))] 119, .dead, .own 88 .cell (Rd.out (B (1 : Int) { pos := IntKind.wrap .i64 (Rd.pos r + IntKind.wrap .i64 (strLen w + (1 : Int))), out := Rd.out r, bad := Rd.bad r }) ++ [{ op := (10 : Int), a := (0 : Int), name := [] }])])) (.need (room (List.length (Rd.out (B (1 : Int) { pos := IntKind.wrap .i64 (Rd.pos r + IntKind.wrap .i64 (strLen w + (1 : Int))), out := Rd.out r, bad := Rd.bad r })) + 1) 32) (.ret (.tup []) [.cells [.pd (.str s), .i (Rd.pos (B (1 : Int) { pos := IntKind.wrap .i64 (Rd.pos r + IntKind.wrap .i64 (strLen w + (1 : Int))), out := Rd.out r, bad := Rd.bad r }) + (1 : Int)), .own 2, .i (Rd.bad (closeR s { pos := Rd.pos (B (1 : Int) { pos := IntKind.wrap .i64 (Rd.pos r + IntKind.wrap .i64 (strLen w + (1 : Int))), out := Rd.out r, bad := Rd.bad r }), out := Rd.out (B (1 : Int) { pos := IntKind.wrap .i64 (Rd.pos r + IntKind.wrap .i64 (strLen w + (1 : Int))), out := Rd.out r, bad := Rd.bad r }), bad := Rd.bad (B (1 : Int) { pos := IntKind.wrap .i64 (Rd.pos r + IntKind.wrap .i64 (strLen w + (1 : Int))), out := Rd.out r, bad := Rd.bad r }) }))] 119, .dead, .own 88 .cell (Rd.out (B (1 : Int) { pos := IntKind.wrap .i64 (Rd.pos r + IntKind.wrap .i64 (strLen w + (1 : Int))), out := Rd.out r, bad := Rd.bad r }) ++ [{ op := (9 : Int), a := (0 : Int), name := [] }])]))))) (.need (List.length s ≤ 1048576 ∧ (0 : Int) ≤ IntKind.wrap .i64 (Rd.pos r + IntKind.wrap .i64 (strLen w + (1 : Int))) ∧ IntKind.wrap .i64 (Rd.pos r + IntKind.wrap .i64 (strLen w + (1 : Int))) ≤ strLen s) (.ite (!nameM (wordM s (IntKind.wrap .i64 (Rd.pos r + IntKind.wrap .i64 (strLen w + (1 : Int)))))) (.ret (.tup []) [.cells [.pd (.str s), .i (IntKind.wrap .i64 (Rd.pos r + IntKind.wrap .i64 (strLen w + (1 : Int)))), .own 1, .i (if Rd.bad r < (0 : Int) then IntKind.wrap .i64 (Rd.pos r + IntKind.wrap .i64 (strLen w + (1 : Int))) else Rd.bad r)] 119, .own 88 .cell (Rd.out r)]) (.need ((Rd.bad r < (0 : Int) → (0 : Int) ≤ IntKind.wrap .i64 (IntKind.wrap .i64 (Rd.pos r + IntKind.wrap .i64 (strLen w + (1 : Int))) + strLen (wordM s (IntKind.wrap .i64 (Rd.pos r + IntKind.wrap .i64 (strLen w + (1 : Int)))))) ∧ IntKind.wrap .i64 (IntKind.wrap .i64 (Rd.pos r + IntKind.wrap .i64 (strLen w + (1 : Int))) + strLen (wordM s (IntKind.wrap .i64 (Rd.pos r + IntKind.wrap .i64 (strLen w + (1 : Int)))))) ≤ strLen s) ∧ (-1 : Int) ≤ IntKind.wrap .i64 (IntKind.wrap .i64 (Rd.pos r + IntKind.wrap .i64 (strLen w + (1 : Int))) + strLen (wordM s (IntKind.wrap .i64 (Rd.pos r + IntKind.wrap .i64 (strLen w + (1 : Int)))))) ∧ IntKind.wrap .i64 (IntKind.wrap .i64 (Rd.pos r + IntKind.wrap .i64 (strLen w + (1 : Int))) + strLen (wordM s (IntKind.wrap .i64 (Rd.pos r + IntKind.wrap .i64 (strLen w + (1 : Int)))))) ≤ (1099511627776 : Int)) (.need (room (List.length (Rd.out r) + 1) 32) (.ret (.tup []) [.cells [.pd (.str s), .i (IntKind.wrap .i64 (IntKind.wrap .i64 (Rd.pos r + IntKind.wrap .i64 (strLen w + (1 : Int))) + strLen (wordM s (IntKind.wrap .i64 (Rd.pos r + IntKind.wrap .i64 (strLen w + (1 : Int)))))) + (1 : Int)), .own 2, .i (Rd.bad (closeR s { pos := IntKind.wrap .i64 (IntKind.wrap .i64 (Rd.pos r + IntKind.wrap .i64 (strLen w + (1 : Int))) + strLen (wordM s (IntKind.wrap .i64 (Rd.pos r + IntKind.wrap .i64 (strLen w + (1 : Int)))))), out := Rd.out r, bad := Rd.bad r }))] 119, .dead, .own 88 .cell (Rd.out r ++ [{ op := (6 : Int), a := (0 : Int), name := wordM s (IntKind.wrap .i64 (Rd.pos r + IntKind.wrap .i64 (strLen w + (1 : Int)))) }])]))))))) (by kernel_rfl) ?_
  rw [hw3, wrapI (n := r.pos + 3) (by omega) (by omega), wrapI (n := r.pos + 3 + _) (by omega) (by omega)]
  refine ⟨fun h => absurd h (by rw [hw0]; decide), fun _ => ⟨⟨hs, by omega, h3⟩, fun h => RdQ.one ?_, fun h => ⟨⟨fun _ => ⟨by omega, hw.2⟩, by omega, by omega⟩, room_cell (by omega), RdQ.two ?_⟩⟩⟩
  · have h' : nameM (wordM s (r.pos + 3)) = false := by simpa using h
    have e : inR s r = (r.to (r.pos + 3)).wrong (r.pos + 3) := by unfold inR; rw [if_pos h']
    rw [e]; rfl
  · have h' : ¬ nameM (wordM s (r.pos + 3)) = false := by simpa using h
    have e : inR s r = (closeR s (r.to (r.pos + 3 + strLen (wordM s (r.pos + 3))))).emit ⟨6, 0, wordM s (r.pos + 3)⟩ := by unfold inR; rw [if_neg h']
    rw [e, close_eq (r.to _)]; rfl
/-! ### what holds by itself -/
theorem atom_par {r q : Rd} (hok : Ok s r) (hsl : Slack s r) (hh : headM s r.pos = .par) (hq : binD s 1 (r.to (r.pos + 1)) q) (hl : Left s (r.to (r.pos + 1)) q) : atomD s r (closeR s q) := by
  have hlt := hok.lt (fun x e => by rw [hh] at e; subst e; simp)
  have hlow := hok.low
  have hL : strLen s = (s.length : Int) := rfl
  have hs := hsl.2
  obtain ⟨k1, k2, k3, k4, k5⟩ := (hsl.to (k := r.pos + 1) (by omega)).out hl
  obtain ⟨g1, g2⟩ := head_par hh
  let B : Int → Rd → Rd := fun _ _ => q
  let C : Rd → Rd := fun _ => q
  refine Does.rd Tryz.func135 (by kernel_rfl) (by kernel_rfl) rfl fun Γ => ?_
  refine J.go (cfg := (cfgAt B C)) cfgAt_ok Tryz.func135 1000 (t := (.need ((0 : Int) ≤ Rd.pos r ∧ Rd.pos r < strLen s) (.ite (decide ((↑(UInt8.toNat (List.getD s (Int.toNat (Rd.pos r)) (0 : UInt8))) : Int) ≥ (48 : Int)) && decide ((↑(UInt8.toNat (List.getD s (Int.toNat (Rd.pos r)) (0 : UInt8))) : Int) ≤ (57 : Int))) (.need (List.length s ≤ 1048576 ∧ room (List.length (Rd.out r) + 1) 32 ∧ (0 : Int) ≤ Rd.pos r ∧ Rd.pos r < strLen s ∧ isD (List.getD s (Int.toNat (Rd.pos r)) (0 : UInt8)) = true) (.ret (.tup []) [.cells [.pd (.str s), .i (Rd.pos (numberR s { pos := Rd.pos r, out := Rd.out r, bad := Rd.bad r })), .own 2, .i (Rd.bad (numberR s { pos := Rd.pos r, out := Rd.out r, bad := Rd.bad r }))] 119, .dead, .own 88 .cell (Rd.out (numberR s { pos := Rd.pos r, out := Rd.out r, bad := Rd.bad r }))])) (.ite ((↑(UInt8.toNat (List.getD s (Int.toNat (Rd.pos r)) (0 : UInt8))) : Int) == (40 : Int)) (.need (Does Tryz.prog (78 : FuncId) [.c (.loc 0 0), SX.i (1 : Int)] [.cells [.pd (.str s), .i (IntKind.wrap .i64 (Rd.pos r + (1 : Int))), .own 1, .i (Rd.bad r)] (119 : TypeId), .own (88 : TypeId) .cell (Rd.out r)] (.tup []) (rd2 s (B (1 : Int) { pos := IntKind.wrap .i64 (Rd.pos r + (1 : Int)), out := Rd.out r, bad := Rd.bad r }))) (.need ((Rd.bad (B (1 : Int) { pos := IntKind.wrap .i64 (Rd.pos r + (1 : Int)), out := Rd.out r, bad := Rd.bad r }) < (0 : Int) → (0 : Int) ≤ Rd.pos (B (1 : Int) { pos := IntKind.wrap .i64 (Rd.pos r + (1 : Int)), out := Rd.out r, bad := Rd.bad r }) ∧ Rd.pos (B (1 : Int) { pos := IntKind.wrap .i64 (Rd.pos r + (1 : Int)), out := Rd.out r, bad := Rd.bad r }) ≤ strLen s) ∧ (-1 : Int) ≤ Rd.pos (B (1 : Int) { pos := IntKind.wrap .i64 (Rd.pos r + (1 : Int)), out := Rd.out r, bad := Rd.bad r }) ∧ Rd.pos (B (1 : Int) { pos := IntKind.wrap .i64 (Rd.pos r + (1 : Int)), out := Rd.out r, bad := Rd.bad r }) ≤ (1099511627776 : Int)) (.ret (.tup []) [.cells [.pd (.str s), .i (Rd.pos (B (1 : Int) { pos := IntKind.wrap .i64 (Rd.pos r + (1 : Int)), out := Rd.out r, bad := Rd.bad r }) + (1 : Int)), .own 2, .i (Rd.bad (closeR s { pos := Rd.pos (B (1 : Int) { pos := IntKind.wrap .i64 (Rd.pos r + (1 : Int)), out := Rd.out r, bad := Rd.bad r }), out := Rd.out (B (1 : Int) { pos := IntKind.wrap .i64 (Rd.pos r + (1 : Int)), out := Rd.out r, bad := Rd.bad r }), bad := Rd.bad (B (1 : Int) { pos := IntKind.wrap .i64 (Rd.pos r + (1 : Int)), out := Rd.out r, bad := Rd.bad r }) }))] 119, .dead, .own 88 .cell (Rd.out (B (1 : Int) { pos := IntKind.wrap .i64 (Rd.pos r + (1 : Int)), out := Rd.out r, bad := Rd.bad r }))]))) (.need (List.length s ≤ 1048576 ∧ (0 : Int) ≤ Rd.pos r ∧ Rd.pos r ≤ strLen s) (.ite (wordM s (Rd.pos r) == [(116 : UInt8), 114, 117, 101]) (.need (room (List.length (Rd.out r) + 1) 32) (.ret (.tup []) [.cells [.pd (.str s), .i (IntKind.wrap .i64 (Rd.pos r + strLen (wordM s (Rd.pos r)))), .own 2, .i (Rd.bad r)] 119, .dead, .own 88 .cell (Rd.out r ++ [{ op := (3 : Int), a := (0 : Int), name := [] }])])) (.ite (wordM s (Rd.pos r) == [(102 : UInt8), 97, 108, 115, 101]) (.need (room (List.length (Rd.out r) + 1) 32) (.ret (.tup []) [.cells [.pd (.str s), .i (IntKind.wrap .i64 (Rd.pos r + strLen (wordM s (Rd.pos r)))), .own 2, .i (Rd.bad r)] 119, .dead, .own 88 .cell (Rd.out r ++ [{ op := (4 : Int), a := (0 : Int), name := [] }])])) (.need (((wordM s (Rd.pos r) == [(105 : UInt8), 110] || wordM s (Rd.pos r) == [(114 : UInt8), 101] || wordM s (Rd.pos r) == [(105 : UInt8), 109]) && decide (IntKind.wrap .i64 (Rd.pos r + strLen (wordM s (Rd.pos r))) < strLen s)) = true → (0 : Int) ≤ IntKind.wrap .i64 (Rd.pos r + strLen (wordM s (Rd.pos r))) ∧ IntKind.wrap .i64 (Rd.pos r + strLen (wordM s (Rd.pos r))) < strLen s) (.ite ((wordM s (Rd.pos r) == [(105 : UInt8), 110] || wordM s (Rd.pos r) == [(114 : UInt8), 101] || wordM s (Rd.pos r) == [(105 : UInt8), 109]) && decide (IntKind.wrap .i64 (Rd.pos r + strLen (wordM s (Rd.pos r))) < strLen s) && (↑(UInt8.toNat (List.getD s (Int.toNat (IntKind.wrap .i64 (Rd.pos r + strLen (wordM s (Rd.pos r))))) (0 : UInt8))) : Int) == (40 : Int)) (.need (Does Tryz.prog (155 : FuncId) [.c (.loc 0 0), SX.s (wordM s (Rd.pos r))] [.cells [.pd (.str s), .i (Rd.pos r), .own 1, .i (Rd.bad r)] (119 : TypeId), .own (88 : TypeId) .cell (Rd.out r)] (.tup []) (rd2 s (C { pos := Rd.pos r, out := Rd.out r, bad := Rd.bad r }))) (.ret (.tup []) [.cells [.pd (.str s), .i (Rd.pos (C { pos := Rd.pos r, out := Rd.out r, bad := Rd.bad r })), .own 2, .i (Rd.bad (C { pos := Rd.pos r, out := Rd.out r, bad := Rd.bad r }))] 119, .dead, .own 88 .cell (Rd.out (C { pos := Rd.pos r, out := Rd.out r, bad := Rd.bad r }))])) (.ite (nameM (wordM s (Rd.pos r))) (.need (room (List.length (Rd.out r) + 1) 32) (.ret (.tup []) [.cells [.pd (.str s), .i (IntKind.wrap .i64 (Rd.pos r + strLen (wordM s (Rd.pos r)))), .own 2, .i (Rd.bad r)] 119, .dead, .own 88 .cell (Rd.out r ++ [{ op := (5 : Int), a := (0 : Int), name := wordM s (Rd.pos r) }])])) (.ret (.tup []) [.cells [.pd (.str s), .i (Rd.pos r), .own 1, .i (if Rd.bad r < (0 : Int) then Rd.pos r else Rd.bad r)] 119, .own 88 .cell (Rd.out r)]))))))))))) (by kernel_rfl) ?_
  rw [wrapI (n := r.pos + 1) (by omega) (by omega)]
  refine ⟨⟨hlow, hlt⟩, fun h => ?_, fun _ => ⟨fun _ => ⟨hq, ⟨fun h => k3 h, k4, by show q.pos ≤ _; omega⟩, RdQ.two ?_⟩, fun h => ?_⟩⟩
  · have h' : isD (s.getD r.pos.toNat 0) = true := h
    rw [g1] at h'; cases h'
  · rw [close_eq q]; rfl
  · have h' : byteAt s r.pos ≠ 40 := ne_of_beq_false h
    exact absurd g2 h'
theorem atom_call {r o : Rd} {op : Int} (hok : Ok s r) (hsl : Slack s r) (hh : headM s r.pos = .call op) (hq : calledD s (wordM s r.pos) r o) : atomD s r o := by
  obtain ⟨g1, g2, g3, g4, g5, g6, hlt⟩ := callS hh
  have hlow := hok.low
  have hL : strLen s = (s.length : Int) := rfl
  have hs := hsl.2
  have hw := wordM_le s hok.low hok.high
  let B : Int → Rd → Rd := fun _ _ => o
  let C : Rd → Rd := fun _ => o
  refine Does.rd Tryz.func135 (by kernel_rfl) (by kernel_rfl) rfl fun Γ => ?_
  refine J.go (cfg := (cfgAt B C)) cfgAt_ok Tryz.func135 1000 (t := (.need ((0 : Int) ≤ Rd.pos r ∧ Rd.pos r < strLen s) (.ite (decide ((↑(UInt8.toNat (List.getD s (Int.toNat (Rd.pos r)) (0 : UInt8))) : Int) ≥ (48 : Int)) && decide ((↑(UInt8.toNat (List.getD s (Int.toNat (Rd.pos r)) (0 : UInt8))) : Int) ≤ (57 : Int))) (.need (List.length s ≤ 1048576 ∧ room (List.length (Rd.out r) + 1) 32 ∧ (0 : Int) ≤ Rd.pos r ∧ Rd.pos r < strLen s ∧ isD (List.getD s (Int.toNat (Rd.pos r)) (0 : UInt8)) = true) (.ret (.tup []) [.cells [.pd (.str s), .i (Rd.pos (numberR s { pos := Rd.pos r, out := Rd.out r, bad := Rd.bad r })), .own 2, .i (Rd.bad (numberR s { pos := Rd.pos r, out := Rd.out r, bad := Rd.bad r }))] 119, .dead, .own 88 .cell (Rd.out (numberR s { pos := Rd.pos r, out := Rd.out r, bad := Rd.bad r }))])) (.ite ((↑(UInt8.toNat (List.getD s (Int.toNat (Rd.pos r)) (0 : UInt8))) : Int) == (40 : Int)) (.need (Does Tryz.prog (78 : FuncId) [.c (.loc 0 0), SX.i (1 : Int)] [.cells [.pd (.str s), .i (IntKind.wrap .i64 (Rd.pos r + (1 : Int))), .own 1, .i (Rd.bad r)] (119 : TypeId), .own (88 : TypeId) .cell (Rd.out r)] (.tup []) (rd2 s (B (1 : Int) { pos := IntKind.wrap .i64 (Rd.pos r + (1 : Int)), out := Rd.out r, bad := Rd.bad r }))) (.need ((Rd.bad (B (1 : Int) { pos := IntKind.wrap .i64 (Rd.pos r + (1 : Int)), out := Rd.out r, bad := Rd.bad r }) < (0 : Int) → (0 : Int) ≤ Rd.pos (B (1 : Int) { pos := IntKind.wrap .i64 (Rd.pos r + (1 : Int)), out := Rd.out r, bad := Rd.bad r }) ∧ Rd.pos (B (1 : Int) { pos := IntKind.wrap .i64 (Rd.pos r + (1 : Int)), out := Rd.out r, bad := Rd.bad r }) ≤ strLen s) ∧ (-1 : Int) ≤ Rd.pos (B (1 : Int) { pos := IntKind.wrap .i64 (Rd.pos r + (1 : Int)), out := Rd.out r, bad := Rd.bad r }) ∧ Rd.pos (B (1 : Int) { pos := IntKind.wrap .i64 (Rd.pos r + (1 : Int)), out := Rd.out r, bad := Rd.bad r }) ≤ (1099511627776 : Int)) (.ret (.tup []) [.cells [.pd (.str s), .i (Rd.pos (B (1 : Int) { pos := IntKind.wrap .i64 (Rd.pos r + (1 : Int)), out := Rd.out r, bad := Rd.bad r }) + (1 : Int)), .own 2, .i (Rd.bad (closeR s { pos := Rd.pos (B (1 : Int) { pos := IntKind.wrap .i64 (Rd.pos r + (1 : Int)), out := Rd.out r, bad := Rd.bad r }), out := Rd.out (B (1 : Int) { pos := IntKind.wrap .i64 (Rd.pos r + (1 : Int)), out := Rd.out r, bad := Rd.bad r }), bad := Rd.bad (B (1 : Int) { pos := IntKind.wrap .i64 (Rd.pos r + (1 : Int)), out := Rd.out r, bad := Rd.bad r }) }))] 119, .dead, .own 88 .cell (Rd.out (B (1 : Int) { pos := IntKind.wrap .i64 (Rd.pos r + (1 : Int)), out := Rd.out r, bad := Rd.bad r }))]))) (.need (List.length s ≤ 1048576 ∧ (0 : Int) ≤ Rd.pos r ∧ Rd.pos r ≤ strLen s) (.ite (wordM s (Rd.pos r) == [(116 : UInt8), 114, 117, 101]) (.need (room (List.length (Rd.out r) + 1) 32) (.ret (.tup []) [.cells [.pd (.str s), .i (IntKind.wrap .i64 (Rd.pos r + strLen (wordM s (Rd.pos r)))), .own 2, .i (Rd.bad r)] 119, .dead, .own 88 .cell (Rd.out r ++ [{ op := (3 : Int), a := (0 : Int), name := [] }])])) (.ite (wordM s (Rd.pos r) == [(102 : UInt8), 97, 108, 115, 101]) (.need (room (List.length (Rd.out r) + 1) 32) (.ret (.tup []) [.cells [.pd (.str s), .i (IntKind.wrap .i64 (Rd.pos r + strLen (wordM s (Rd.pos r)))), .own 2, .i (Rd.bad r)] 119, .dead, .own 88 .cell (Rd.out r ++ [{ op := (4 : Int), a := (0 : Int), name := [] }])])) (.need (((wordM s (Rd.pos r) == [(105 : UInt8), 110] || wordM s (Rd.pos r) == [(114 : UInt8), 101] || wordM s (Rd.pos r) == [(105 : UInt8), 109]) && decide (IntKind.wrap .i64 (Rd.pos r + strLen (wordM s (Rd.pos r))) < strLen s)) = true → (0 : Int) ≤ IntKind.wrap .i64 (Rd.pos r + strLen (wordM s (Rd.pos r))) ∧ IntKind.wrap .i64 (Rd.pos r + strLen (wordM s (Rd.pos r))) < strLen s) (.ite ((wordM s (Rd.pos r) == [(105 : UInt8), 110] || wordM s (Rd.pos r) == [(114 : UInt8), 101] || wordM s (Rd.pos r) == [(105 : UInt8), 109]) && decide (IntKind.wrap .i64 (Rd.pos r + strLen (wordM s (Rd.pos r))) < strLen s) && (↑(UInt8.toNat (List.getD s (Int.toNat (IntKind.wrap .i64 (Rd.pos r + strLen (wordM s (Rd.pos r))))) (0 : UInt8))) : Int) == (40 : Int)) (.need (Does Tryz.prog (155 : FuncId) [.c (.loc 0 0), SX.s (wordM s (Rd.pos r))] [.cells [.pd (.str s), .i (Rd.pos r), .own 1, .i (Rd.bad r)] (119 : TypeId), .own (88 : TypeId) .cell (Rd.out r)] (.tup []) (rd2 s (C { pos := Rd.pos r, out := Rd.out r, bad := Rd.bad r }))) (.ret (.tup []) [.cells [.pd (.str s), .i (Rd.pos (C { pos := Rd.pos r, out := Rd.out r, bad := Rd.bad r })), .own 2, .i (Rd.bad (C { pos := Rd.pos r, out := Rd.out r, bad := Rd.bad r }))] 119, .dead, .own 88 .cell (Rd.out (C { pos := Rd.pos r, out := Rd.out r, bad := Rd.bad r }))])) (.ite (nameM (wordM s (Rd.pos r))) (.need (room (List.length (Rd.out r) + 1) 32) (.ret (.tup []) [.cells [.pd (.str s), .i (IntKind.wrap .i64 (Rd.pos r + strLen (wordM s (Rd.pos r)))), .own 2, .i (Rd.bad r)] 119, .dead, .own 88 .cell (Rd.out r ++ [{ op := (5 : Int), a := (0 : Int), name := wordM s (Rd.pos r) }])])) (.ret (.tup []) [.cells [.pd (.str s), .i (Rd.pos r), .own 1, .i (if Rd.bad r < (0 : Int) then Rd.pos r else Rd.bad r)] 119, .own 88 .cell (Rd.out r)]))))))))))) (by kernel_rfl) ?_
  rw [wrapI (n := r.pos + strLen (wordM s r.pos)) (by omega) (by omega)]
  have hc := g2
  simp only [callB, Bool.and_eq_true, decide_eq_true_eq] at hc
  refine ⟨⟨hlow, by omega⟩, fun h => ?_, fun _ => ⟨fun h => ?_, fun _ => ⟨⟨hs, hlow, by omega⟩, fun h => ?_, fun _ => ⟨fun h => ?_, fun _ => ⟨fun h => ⟨by omega, hc.1⟩, fun _ => ⟨hq, RdQ.two rfl⟩, fun h => ?_⟩⟩⟩⟩⟩
  · have h' : isD (s.getD r.pos.toNat 0) = true := h
    rw [g6] at h'; cases h'
  · exact absurd (show byteAt s r.pos = 40 from eq_of_beq h) g5
  · have h' := eq_of_beq h
    rcases g1 with ⟨e, _⟩ | ⟨e, _⟩ <;> (rw [e] at h'; exact absurd h' (by decide))
  · have h' := eq_of_beq h
    rcases g1 with ⟨e, _⟩ | ⟨e, _⟩ <;> (rw [e] at h'; exact absurd h' (by decide))
  · exfalso
    have e40 : (((s.getD (r.pos + strLen (wordM s r.pos)).toNat 0).toNat : Int) == 40) = true := hc.2
    rw [decide_eq_true hc.1, e40] at h
    rcases g1 with ⟨e, _⟩ | ⟨e, _⟩ <;> (rw [e] at h; exact absurd h (by decide))
theorem atom_leaf {r : Rd} (hok : Ok s r) (hsl : Slack s r) (hh : headM s r.pos = .leaf) : atomD s r (leafR s r) := by
  have hlt := hok.lt (fun x e => by rw [hh] at e; subst e; simp)
  have hlow := hok.low
  have hL : strLen s = (s.length : Int) := rfl
  have hs := hsl.2
  have hs1 := hsl.1
  have hw := wordM_le s hok.low hok.high
  have hr : room (r.out.length + 1) 32 := room_cell (by omega)
  obtain ⟨g1, g2⟩ := head_leaf hh
  by_cases hin : wordM s r.pos = inS ∧ callB s r.pos = true ∧ isD (s.getD r.pos.toNat 0) = false
  · have e : leafR s r = inR s r := by
      unfold leafR
      rw [if_neg (by rw [hin.2.2]; simp), if_neg (by rw [hin.1]; decide), if_neg (by rw [hin.1]; decide), if_pos ⟨hin.1, hin.2.1⟩]
    have hc := hin.2.1
    have e2 : strLen inS = 2 := by decide
    simp only [callB, hin.1, e2, Bool.and_eq_true, decide_eq_true_eq] at hc
    rw [e]
    have hq := called_in (w := inS) rfl hok hsl (by omega)
    let B : Int → Rd → Rd := fun _ _ => r
    let C : Rd → Rd := fun _ => inR s r
    refine Does.rd Tryz.func135 (by kernel_rfl) (by kernel_rfl) rfl fun Γ => ?_
    refine J.go (cfg := (cfgAt B C)) cfgAt_ok Tryz.func135 1000 (t := (.need ((0 : Int) ≤ Rd.pos r ∧ Rd.pos r < strLen s) (.ite (decide ((↑(UInt8.toNat (List.getD s (Int.toNat (Rd.pos r)) (0 : UInt8))) : Int) ≥ (48 : Int)) && decide ((↑(UInt8.toNat (List.getD s (Int.toNat (Rd.pos r)) (0 : UInt8))) : Int) ≤ (57 : Int))) (.need (List.length s ≤ 1048576 ∧ room (List.length (Rd.out r) + 1) 32 ∧ (0 : Int) ≤ Rd.pos r ∧ Rd.pos r < strLen s ∧ isD (List.getD s (Int.toNat (Rd.pos r)) (0 : UInt8)) = true) (.ret (.tup []) [.cells [.pd (.str s), .i (Rd.pos (numberR s { pos := Rd.pos r, out := Rd.out r, bad := Rd.bad r })), .own 2, .i (Rd.bad (numberR s { pos := Rd.pos r, out := Rd.out r, bad := Rd.bad r }))] 119, .dead, .own 88 .cell (Rd.out (numberR s { pos := Rd.pos r, out := Rd.out r, bad := Rd.bad r }))])) (.ite ((↑(UInt8.toNat (List.getD s (Int.toNat (Rd.pos r)) (0 : UInt8))) : Int) == (40 : Int)) (.need (Does Tryz.prog (78 : FuncId) [.c (.loc 0 0), SX.i (1 : Int)] [.cells [.pd (.str s), .i (IntKind.wrap .i64 (Rd.pos r + (1 : Int))), .own 1, .i (Rd.bad r)] (119 : TypeId), .own (88 : TypeId) .cell (Rd.out r)] (.tup []) (rd2 s (B (1 : Int) { pos := IntKind.wrap .i64 (Rd.pos r + (1 : Int)), out := Rd.out r, bad := Rd.bad r }))) (.need ((Rd.bad (B (1 : Int) { pos := IntKind.wrap .i64 (Rd.pos r + (1 : Int)), out := Rd.out r, bad := Rd.bad r }) < (0 : Int) → (0 : Int) ≤ Rd.pos (B (1 : Int) { pos := IntKind.wrap .i64 (Rd.pos r + (1 : Int)), out := Rd.out r, bad := Rd.bad r }) ∧ Rd.pos (B (1 : Int) { pos := IntKind.wrap .i64 (Rd.pos r + (1 : Int)), out := Rd.out r, bad := Rd.bad r }) ≤ strLen s) ∧ (-1 : Int) ≤ Rd.pos (B (1 : Int) { pos := IntKind.wrap .i64 (Rd.pos r + (1 : Int)), out := Rd.out r, bad := Rd.bad r }) ∧ Rd.pos (B (1 : Int) { pos := IntKind.wrap .i64 (Rd.pos r + (1 : Int)), out := Rd.out r, bad := Rd.bad r }) ≤ (1099511627776 : Int)) (.ret (.tup []) [.cells [.pd (.str s), .i (Rd.pos (B (1 : Int) { pos := IntKind.wrap .i64 (Rd.pos r + (1 : Int)), out := Rd.out r, bad := Rd.bad r }) + (1 : Int)), .own 2, .i (Rd.bad (closeR s { pos := Rd.pos (B (1 : Int) { pos := IntKind.wrap .i64 (Rd.pos r + (1 : Int)), out := Rd.out r, bad := Rd.bad r }), out := Rd.out (B (1 : Int) { pos := IntKind.wrap .i64 (Rd.pos r + (1 : Int)), out := Rd.out r, bad := Rd.bad r }), bad := Rd.bad (B (1 : Int) { pos := IntKind.wrap .i64 (Rd.pos r + (1 : Int)), out := Rd.out r, bad := Rd.bad r }) }))] 119, .dead, .own 88 .cell (Rd.out (B (1 : Int) { pos := IntKind.wrap .i64 (Rd.pos r + (1 : Int)), out := Rd.out r, bad := Rd.bad r }))]))) (.need (List.length s ≤ 1048576 ∧ (0 : Int) ≤ Rd.pos r ∧ Rd.pos r ≤ strLen s) (.ite (wordM s (Rd.pos r) == [(116 : UInt8), 114, 117, 101]) (.need (room (List.length (Rd.out r) + 1) 32) (.ret (.tup []) [.cells [.pd (.str s), .i (IntKind.wrap .i64 (Rd.pos r + strLen (wordM s (Rd.pos r)))), .own 2, .i (Rd.bad r)] 119, .dead, .own 88 .cell (Rd.out r ++ [{ op := (3 : Int), a := (0 : Int), name := [] }])])) (.ite (wordM s (Rd.pos r) == [(102 : UInt8), 97, 108, 115, 101]) (.need (room (List.length (Rd.out r) + 1) 32) (.ret (.tup []) [.cells [.pd (.str s), .i (IntKind.wrap .i64 (Rd.pos r + strLen (wordM s (Rd.pos r)))), .own 2, .i (Rd.bad r)] 119, .dead, .own 88 .cell (Rd.out r ++ [{ op := (4 : Int), a := (0 : Int), name := [] }])])) (.need (((wordM s (Rd.pos r) == [(105 : UInt8), 110] || wordM s (Rd.pos r) == [(114 : UInt8), 101] || wordM s (Rd.pos r) == [(105 : UInt8), 109]) && decide (IntKind.wrap .i64 (Rd.pos r + strLen (wordM s (Rd.pos r))) < strLen s)) = true → (0 : Int) ≤ IntKind.wrap .i64 (Rd.pos r + strLen (wordM s (Rd.pos r))) ∧ IntKind.wrap .i64 (Rd.pos r + strLen (wordM s (Rd.pos r))) < strLen s) (.ite ((wordM s (Rd.pos r) == [(105 : UInt8), 110] || wordM s (Rd.pos r) == [(114 : UInt8), 101] || wordM s (Rd.pos r) == [(105 : UInt8), 109]) && decide (IntKind.wrap .i64 (Rd.pos r + strLen (wordM s (Rd.pos r))) < strLen s) && (↑(UInt8.toNat (List.getD s (Int.toNat (IntKind.wrap .i64 (Rd.pos r + strLen (wordM s (Rd.pos r))))) (0 : UInt8))) : Int) == (40 : Int)) (.need (Does Tryz.prog (155 : FuncId) [.c (.loc 0 0), SX.s (wordM s (Rd.pos r))] [.cells [.pd (.str s), .i (Rd.pos r), .own 1, .i (Rd.bad r)] (119 : TypeId), .own (88 : TypeId) .cell (Rd.out r)] (.tup []) (rd2 s (C { pos := Rd.pos r, out := Rd.out r, bad := Rd.bad r }))) (.ret (.tup []) [.cells [.pd (.str s), .i (Rd.pos (C { pos := Rd.pos r, out := Rd.out r, bad := Rd.bad r })), .own 2, .i (Rd.bad (C { pos := Rd.pos r, out := Rd.out r, bad := Rd.bad r }))] 119, .dead, .own 88 .cell (Rd.out (C { pos := Rd.pos r, out := Rd.out r, bad := Rd.bad r }))])) (.ite (nameM (wordM s (Rd.pos r))) (.need (room (List.length (Rd.out r) + 1) 32) (.ret (.tup []) [.cells [.pd (.str s), .i (IntKind.wrap .i64 (Rd.pos r + strLen (wordM s (Rd.pos r)))), .own 2, .i (Rd.bad r)] 119, .dead, .own 88 .cell (Rd.out r ++ [{ op := (5 : Int), a := (0 : Int), name := wordM s (Rd.pos r) }])])) (.ret (.tup []) [.cells [.pd (.str s), .i (Rd.pos r), .own 1, .i (if Rd.bad r < (0 : Int) then Rd.pos r else Rd.bad r)] 119, .own 88 .cell (Rd.out r)]))))))))))) (by kernel_rfl) ?_
    rw [hin.1, e2, wrapI (n := r.pos + 2) (by omega) (by omega)]
    refine ⟨⟨hlow, by omega⟩, fun h => ?_, fun hd => ⟨fun h => ?_, fun _ => ⟨⟨hs, hlow, by omega⟩, fun h => absurd h (by decide), fun _ => ⟨fun h => absurd h (by decide), fun _ => ⟨fun h => ⟨by omega, hc.1⟩, fun _ => ⟨hq, RdQ.two rfl⟩, fun h => ?_⟩⟩⟩⟩⟩
    · have h' : isD (s.getD r.pos.toNat 0) = true := h
      rw [hin.2.2] at h'; cases h'
    · exact absurd (show byteAt s r.pos = 40 from eq_of_beq h) (g1 hin.2.2)
    · exfalso
      have e40 : (((s.getD (r.pos + 2).toNat 0).toNat : Int) == 40) = true := hc.2
      rw [decide_eq_true hc.1, e40] at h
      exact absurd h (by decide)
  · let B : Int → Rd → Rd := fun _ _ => r
    let C : Rd → Rd := fun _ => r
    refine Does.rd Tryz.func135 (by kernel_rfl) (by kernel_rfl) rfl fun Γ => ?_
    refine J.go (cfg := (cfgAt B C)) cfgAt_ok Tryz.func135 1000 (t := (.need ((0 : Int) ≤ Rd.pos r ∧ Rd.pos r < strLen s) (.ite (decide ((↑(UInt8.toNat (List.getD s (Int.toNat (Rd.pos r)) (0 : UInt8))) : Int) ≥ (48 : Int)) && decide ((↑(UInt8.toNat (List.getD s (Int.toNat (Rd.pos r)) (0 : UInt8))) : Int) ≤ (57 : Int))) (.need (List.length s ≤ 1048576 ∧ room (List.length (Rd.out r) + 1) 32 ∧ (0 : Int) ≤ Rd.pos r ∧ Rd.pos r < strLen s ∧ isD (List.getD s (Int.toNat (Rd.pos r)) (0 : UInt8)) = true) (.ret (.tup []) [.cells [.pd (.str s), .i (Rd.pos (numberR s { pos := Rd.pos r, out := Rd.out r, bad := Rd.bad r })), .own 2, .i (Rd.bad (numberR s { pos := Rd.pos r, out := Rd.out r, bad := Rd.bad r }))] 119, .dead, .own 88 .cell (Rd.out (numberR s { pos := Rd.pos r, out := Rd.out r, bad := Rd.bad r }))])) (.ite ((↑(UInt8.toNat (List.getD s (Int.toNat (Rd.pos r)) (0 : UInt8))) : Int) == (40 : Int)) (.need (Does Tryz.prog (78 : FuncId) [.c (.loc 0 0), SX.i (1 : Int)] [.cells [.pd (.str s), .i (IntKind.wrap .i64 (Rd.pos r + (1 : Int))), .own 1, .i (Rd.bad r)] (119 : TypeId), .own (88 : TypeId) .cell (Rd.out r)] (.tup []) (rd2 s (B (1 : Int) { pos := IntKind.wrap .i64 (Rd.pos r + (1 : Int)), out := Rd.out r, bad := Rd.bad r }))) (.need ((Rd.bad (B (1 : Int) { pos := IntKind.wrap .i64 (Rd.pos r + (1 : Int)), out := Rd.out r, bad := Rd.bad r }) < (0 : Int) → (0 : Int) ≤ Rd.pos (B (1 : Int) { pos := IntKind.wrap .i64 (Rd.pos r + (1 : Int)), out := Rd.out r, bad := Rd.bad r }) ∧ Rd.pos (B (1 : Int) { pos := IntKind.wrap .i64 (Rd.pos r + (1 : Int)), out := Rd.out r, bad := Rd.bad r }) ≤ strLen s) ∧ (-1 : Int) ≤ Rd.pos (B (1 : Int) { pos := IntKind.wrap .i64 (Rd.pos r + (1 : Int)), out := Rd.out r, bad := Rd.bad r }) ∧ Rd.pos (B (1 : Int) { pos := IntKind.wrap .i64 (Rd.pos r + (1 : Int)), out := Rd.out r, bad := Rd.bad r }) ≤ (1099511627776 : Int)) (.ret (.tup []) [.cells [.pd (.str s), .i (Rd.pos (B (1 : Int) { pos := IntKind.wrap .i64 (Rd.pos r + (1 : Int)), out := Rd.out r, bad := Rd.bad r }) + (1 : Int)), .own 2, .i (Rd.bad (closeR s { pos := Rd.pos (B (1 : Int) { pos := IntKind.wrap .i64 (Rd.pos r + (1 : Int)), out := Rd.out r, bad := Rd.bad r }), out := Rd.out (B (1 : Int) { pos := IntKind.wrap .i64 (Rd.pos r + (1 : Int)), out := Rd.out r, bad := Rd.bad r }), bad := Rd.bad (B (1 : Int) { pos := IntKind.wrap .i64 (Rd.pos r + (1 : Int)), out := Rd.out r, bad := Rd.bad r }) }))] 119, .dead, .own 88 .cell (Rd.out (B (1 : Int) { pos := IntKind.wrap .i64 (Rd.pos r + (1 : Int)), out := Rd.out r, bad := Rd.bad r }))]))) (.need (List.length s ≤ 1048576 ∧ (0 : Int) ≤ Rd.pos r ∧ Rd.pos r ≤ strLen s) (.ite (wordM s (Rd.pos r) == [(116 : UInt8), 114, 117, 101]) (.need (room (List.length (Rd.out r) + 1) 32) (.ret (.tup []) [.cells [.pd (.str s), .i (IntKind.wrap .i64 (Rd.pos r + strLen (wordM s (Rd.pos r)))), .own 2, .i (Rd.bad r)] 119, .dead, .own 88 .cell (Rd.out r ++ [{ op := (3 : Int), a := (0 : Int), name := [] }])])) (.ite (wordM s (Rd.pos r) == [(102 : UInt8), 97, 108, 115, 101]) (.need (room (List.length (Rd.out r) + 1) 32) (.ret (.tup []) [.cells [.pd (.str s), .i (IntKind.wrap .i64 (Rd.pos r + strLen (wordM s (Rd.pos r)))), .own 2, .i (Rd.bad r)] 119, .dead, .own 88 .cell (Rd.out r ++ [{ op := (4 : Int), a := (0 : Int), name := [] }])])) (.need (((wordM s (Rd.pos r) == [(105 : UInt8), 110] || wordM s (Rd.pos r) == [(114 : UInt8), 101] || wordM s (Rd.pos r) == [(105 : UInt8), 109]) && decide (IntKind.wrap .i64 (Rd.pos r + strLen (wordM s (Rd.pos r))) < strLen s)) = true → (0 : Int) ≤ IntKind.wrap .i64 (Rd.pos r + strLen (wordM s (Rd.pos r))) ∧ IntKind.wrap .i64 (Rd.pos r + strLen (wordM s (Rd.pos r))) < strLen s) (.ite ((wordM s (Rd.pos r) == [(105 : UInt8), 110] || wordM s (Rd.pos r) == [(114 : UInt8), 101] || wordM s (Rd.pos r) == [(105 : UInt8), 109]) && decide (IntKind.wrap .i64 (Rd.pos r + strLen (wordM s (Rd.pos r))) < strLen s) && (↑(UInt8.toNat (List.getD s (Int.toNat (IntKind.wrap .i64 (Rd.pos r + strLen (wordM s (Rd.pos r))))) (0 : UInt8))) : Int) == (40 : Int)) (.need (Does Tryz.prog (155 : FuncId) [.c (.loc 0 0), SX.s (wordM s (Rd.pos r))] [.cells [.pd (.str s), .i (Rd.pos r), .own 1, .i (Rd.bad r)] (119 : TypeId), .own (88 : TypeId) .cell (Rd.out r)] (.tup []) (rd2 s (C { pos := Rd.pos r, out := Rd.out r, bad := Rd.bad r }))) (.ret (.tup []) [.cells [.pd (.str s), .i (Rd.pos (C { pos := Rd.pos r, out := Rd.out r, bad := Rd.bad r })), .own 2, .i (Rd.bad (C { pos := Rd.pos r, out := Rd.out r, bad := Rd.bad r }))] 119, .dead, .own 88 .cell (Rd.out (C { pos := Rd.pos r, out := Rd.out r, bad := Rd.bad r }))])) (.ite (nameM (wordM s (Rd.pos r))) (.need (room (List.length (Rd.out r) + 1) 32) (.ret (.tup []) [.cells [.pd (.str s), .i (IntKind.wrap .i64 (Rd.pos r + strLen (wordM s (Rd.pos r)))), .own 2, .i (Rd.bad r)] 119, .dead, .own 88 .cell (Rd.out r ++ [{ op := (5 : Int), a := (0 : Int), name := wordM s (Rd.pos r) }])])) (.ret (.tup []) [.cells [.pd (.str s), .i (Rd.pos r), .own 1, .i (if Rd.bad r < (0 : Int) then Rd.pos r else Rd.bad r)] 119, .own 88 .cell (Rd.out r)]))))))))))) (by kernel_rfl) ?_
    rw [wrapI (n := r.pos + strLen (wordM s r.pos)) (by omega) (by omega)]
    refine ⟨⟨hlow, hlt⟩, fun h => ⟨⟨hs, hr, hlow, hlt, h⟩, RdQ.two ?_⟩, fun hd => ⟨fun h => ?_, fun _ => ⟨⟨hs, hlow, hok.high⟩, fun h => ⟨hr, RdQ.two ?_⟩, fun n1 => ⟨fun h => ⟨hr, RdQ.two ?_⟩, fun n2 => ⟨fun h => ?_, fun h => ?_, fun n3 => ⟨fun h => ⟨hr, RdQ.two ?_⟩, fun h => RdQ.one ?_⟩⟩⟩⟩⟩⟩
    · have h' : isD (s.getD r.pos.toNat 0) = true := h
      have e : leafR s r = numberR s r := by unfold leafR; rw [if_pos h']
      rw [e]; rfl
    · exact absurd (show byteAt s r.pos = 40 from eq_of_beq h) (g1 hd)
    · have h' : wordM s r.pos = trueS := eq_of_beq h
      have hd' : ¬ isD (s.getD r.pos.toNat 0) = true := by have : isD (s.getD r.pos.toNat 0) = false := hd; rw [this]; simp
      have e : leafR s r = (r.emit ⟨3, 0, []⟩).to (r.pos + strLen (wordM s r.pos)) := by unfold leafR; rw [if_neg hd', if_pos h', h']; rfl
      rw [e]; rfl
    · have h' : wordM s r.pos = falseS := eq_of_beq h
      have hd' : ¬ isD (s.getD r.pos.toNat 0) = true := by have : isD (s.getD r.pos.toNat 0) = false := hd; rw [this]; simp
      have e : leafR s r = (r.emit ⟨4, 0, []⟩).to (r.pos + strLen (wordM s r.pos)) := by
        unfold leafR
        have n1' : ¬ wordM s r.pos = trueS := ne_of_beq_false n1
        rw [if_neg hd', if_neg n1', if_pos h', h']; rfl
      rw [e]; rfl
    · simp only [Bool.and_eq_true, decide_eq_true_eq] at h
      exact ⟨by omega, h.2⟩
    · exfalso
      have h2 : (decide (r.pos + strLen (wordM s r.pos) < strLen s) && ((s.getD (r.pos + strLen (wordM s r.pos)).toNat 0).toNat : Int) == 40) = true := by
        simp only [Bool.and_eq_true] at h ⊢
        exact ⟨h.1.2, h.2⟩
      have hcb : callB s r.pos = true := h2
      simp only [Bool.and_eq_true, Bool.or_eq_true, beq_iff_eq] at h
      rcases h.1.1 with (h1 | h1) | h1
      · exact hin ⟨h1, hcb, hd⟩
      · exact (g2 hd).1 ⟨h1, hcb⟩
      · exact (g2 hd).2 ⟨h1, hcb⟩
    · have hd' : ¬ isD (s.getD r.pos.toNat 0) = true := by have : isD (s.getD r.pos.toNat 0) = false := hd; rw [this]; simp
      have e : leafR s r = (r.emit ⟨5, 0, wordM s r.pos⟩).to (r.pos + strLen (wordM s r.pos)) := by
        unfold leafR
        have n1' : ¬ wordM s r.pos = trueS := ne_of_beq_false n1
        have n2' : ¬ wordM s r.pos = falseS := ne_of_beq_false n2
        rw [if_neg hd', if_neg n1', if_neg n2', if_neg (fun g => hin ⟨g.1, g.2, hd⟩), if_pos h]
      rw [e]; rfl
    · have hd' : ¬ isD (s.getD r.pos.toNat 0) = true := by have : isD (s.getD r.pos.toNat 0) = false := hd; rw [this]; simp
      have e : leafR s r = r.wrong r.pos := by
        unfold leafR
        have n1' : ¬ wordM s r.pos = trueS := ne_of_beq_false n1
        have n2' : ¬ wordM s r.pos = falseS := ne_of_beq_false n2
        rw [if_neg hd', if_neg n1', if_neg n2', if_neg (fun g => hin ⟨g.1, g.2, hd⟩), if_neg (by rw [h]; simp)]
      rw [e]; rfl
end Go.Proofs.YtjndellhebidoaaGreatDoor

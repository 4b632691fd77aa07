/- The contract of the program's expr.Parse. Conditions: none. -/
import Derived.Test.YtjndellhebidoaaGreatDoorMe
namespace Go.Proofs.YtjndellhebidoaaGreatDoor
open Go Go.Ev
set_option maxRecDepth 100000
variable {s : Str}
theorem head_fin {k : Int} (h : headM s k = .fin) : k = strLen s := by
  unfold headM at h
  split at h
  · assumption
  · repeat' (split at h)
    all_goals cases h
theorem head_pre {k op : Int} (h : headM s k = .pre op) : byteAt s k = 45 ∧ op = 7 ∨ byteAt s k ≠ 45 ∧ byteAt s k = 33 ∧ op = 8 := by
  unfold headM at h
  split at h; cases h
  split at h
  · rename_i h1; cases h; exact .inl ⟨h1, rfl⟩
  · rename_i h1
    split at h
    · rename_i h2; cases h; exact .inr ⟨h1, h2, rfl⟩
    · repeat' (split at h)
      all_goals cases h
theorem head_atom {k : Int} (h : ∀ op, headM s k ≠ .pre op) (h2 : headM s k ≠ .fin) : byteAt s k ≠ 45 ∧ byteAt s k ≠ 33 := by
  refine ⟨fun e => ?_, fun e => ?_⟩
  · apply h 7
    unfold headM
    rw [if_neg (fun he => h2 (by unfold headM; rw [if_pos he])), if_pos e]
  · apply h 8
    unfold headM
    rw [if_neg (fun he => h2 (by unfold headM; rw [if_pos he])), if_neg (by rw [e]; decide), if_pos e]
theorem una_lost {r : Rd} (hok : Ok s r) (hh : headM s r.pos = .fin) : unaD s r (r.wrong r.pos) := by
  have e := head_fin hh
  let U : Rd → Rd := fun _ => r
  let A : Rd → Rd := fun _ => r
  refine Does.rd Tryz.func111 (by kernel_rfl) (by kernel_rfl) rfl fun Γ => ?_
  refine J.go (cfg := (cfgUn U A)) cfgUn_ok Tryz.func111 1000 (t := (.ite (decide (Rd.bad r ≥ (0 : Int)) || Rd.pos r == strLen s) (.ret (.tup []) [.cells [.pd (.str s), .i (Rd.pos r), .own 1, .i (if Rd.bad r < (0 : Int) then Rd.pos r else Rd.bad r)] 119, .own 88 .cell (Rd.out r)]) (.need ((0 : Int) ≤ Rd.pos r ∧ Rd.pos r < strLen s) (.ite ((↑(UInt8.toNat (List.getD s (Int.toNat (Rd.pos r)) (0 : UInt8))) : Int) == (45 : Int)) (.need (Does Tryz.prog (111 : FuncId) [.c (.loc 0 0)] [.cells [.pd (.str s), .i (IntKind.wrap .i64 (Rd.pos r + (1 : Int))), .own 1, .i (Rd.bad r)] (119 : TypeId), .own (88 : TypeId) .cell (Rd.out r)] (.tup []) (rd2 s (U { pos := IntKind.wrap .i64 (Rd.pos r + (1 : Int)), out := Rd.out r, bad := Rd.bad r }))) (.need (room (List.length (Rd.out (U { pos := IntKind.wrap .i64 (Rd.pos r + (1 : Int)), out := Rd.out r, bad := Rd.bad r })) + 1) 32) (.ret (.tup []) [.cells [.pd (.str s), .i (Rd.pos (U { pos := IntKind.wrap .i64 (Rd.pos r + (1 : Int)), out := Rd.out r, bad := Rd.bad r })), .own 2, .i (Rd.bad (U { pos := IntKind.wrap .i64 (Rd.pos r + (1 : Int)), out := Rd.out r, bad := Rd.bad r }))] 119, .dead, .own 88 .cell (Rd.out (U { pos := IntKind.wrap .i64 (Rd.pos r + (1 : Int)), out := Rd.out r, bad := Rd.bad r }) ++ [{ op := (7 : Int), a := (0 : Int), name := [] }])]))) (.ite ((↑(UInt8.toNat (List.getD s (Int.toNat (Rd.pos r)) (0 : UInt8))) : Int) == (33 : Int)) (.need (Does Tryz.prog (111 : FuncId) [.c (.loc 0 0)] [.cells [.pd (.str s), .i (IntKind.wrap .i64 (Rd.pos r + (1 : Int))), .own 1, .i (Rd.bad r)] (119 : TypeId), .own (88 : TypeId) .cell (Rd.out r)] (.tup []) (rd2 s (U { pos := IntKind.wrap .i64 (Rd.pos r + (1 : Int)), out := Rd.out r, bad := Rd.bad r }))) (.need (room (List.length (Rd.out (U { pos := IntKind.wrap .i64 (Rd.pos r + (1 : Int)), out := Rd.out r, bad := Rd.bad r })) + 1) 32) (.ret (.tup []) [.cells [.pd (.str s), .i (Rd.pos (U { pos := IntKind.wrap .i64 (Rd.pos r + (1 : Int)), out := Rd.out r, bad := Rd.bad r })), .own 2, .i (Rd.bad (U { pos := IntKind.wrap .i64 (Rd.pos r + (1 : Int)), out := Rd.out r, bad := Rd.bad r }))] 119, .dead, .own 88 .cell (Rd.out (U { pos := IntKind.wrap .i64 (Rd.pos r + (1 : Int)), out := Rd.out r, bad := Rd.bad r }) ++ [{ op := (8 : Int), a := (0 : Int), name := [] }])]))) (.need (Does Tryz.prog (135 : FuncId) [.c (.loc 0 0)] [.cells [.pd (.str s), .i (Rd.pos r), .own 1, .i (Rd.bad r)] (119 : TypeId), .own (88 : TypeId) .cell (Rd.out r)] (.tup []) (rd2 s (A { pos := Rd.pos r, out := Rd.out r, bad := Rd.bad r }))) (.ret (.tup []) [.cells [.pd (.str s), .i (Rd.pos (A { pos := Rd.pos r, out := Rd.out r, bad := Rd.bad r })), .own 2, .i (Rd.bad (A { pos := Rd.pos r, out := Rd.out r, bad := Rd.bad r }))] 119, .dead, .own 88 .cell (Rd.out (A { pos := Rd.pos r, out := Rd.out r, bad := Rd.bad r }))]))))))) (by kernel_rfl) ?_
  refine ⟨fun _ => RdQ.one rfl, fun h => ?_⟩
  simp only [Bool.or_eq_false_iff] at h
  exact absurd e (ne_of_beq_false h.2)
theorem una_sign {r q : Rd} {op : Int} (hok : Ok s r) (hsl : Slack s r) (hh : headM s r.pos = .pre op) (hq : unaD s (r.to (r.pos + 1)) q) (hl : Left s (r.to (r.pos + 1)) q) : unaD s r (q.emit ⟨op, 0, []⟩) := by
  have hlt := hok.lt (fun x e => by rw [hh] at e; subst e; simp)
  have hlow := hok.low
  have hb := hok.bad
  have hL : strLen s = (s.length : Int) := rfl
  have hs := hsl.2
  obtain ⟨k1, k2, k3, k4, k5⟩ := (hsl.to (k := r.pos + 1) (by omega)).out hl
  have hp := head_pre hh
  let U : Rd → Rd := fun _ => q
  let A : Rd → Rd := fun _ => q
  refine Does.rd Tryz.func111 (by kernel_rfl) (by kernel_rfl) rfl fun Γ => ?_
  refine J.go (cfg := (cfgUn U A)) cfgUn_ok Tryz.func111 1000 (t := (.ite (decide (Rd.bad r ≥ (0 : Int)) || Rd.pos r == strLen s) (.ret (.tup []) [.cells [.pd (.str s), .i (Rd.pos r), .own 1, .i (if Rd.bad r < (0 : Int) then Rd.pos r else Rd.bad r)] 119, .own 88 .cell (Rd.out r)]) (.need ((0 : Int) ≤ Rd.pos r ∧ Rd.pos r < strLen s) (.ite ((↑(UInt8.toNat (List.getD s (Int.toNat (Rd.pos r)) (0 : UInt8))) : Int) == (45 : Int)) (.need (Does Tryz.prog (111 : FuncId) [.c (.loc 0 0)] [.cells [.pd (.str s), .i (IntKind.wrap .i64 (Rd.pos r + (1 : Int))), .own 1, .i (Rd.bad r)] (119 : TypeId), .own (88 : TypeId) .cell (Rd.out r)] (.tup []) (rd2 s (U { pos := IntKind.wrap .i64 (Rd.pos r + (1 : Int)), out := Rd.out r, bad := Rd.bad r }))) (.need (room (List.length (Rd.out (U { pos := IntKind.wrap .i64 (Rd.pos r + (1 : Int)), out := Rd.out r, bad := Rd.bad r })) + 1) 32) (.ret (.tup []) [.cells [.pd (.str s), .i (Rd.pos (U { pos := IntKind.wrap .i64 (Rd.pos r + (1 : Int)), out := Rd.out r, bad := Rd.bad r })), .own 2, .i (Rd.bad (U { pos := IntKind.wrap .i64 (Rd.pos r + (1 : Int)), out := Rd.out r, bad := Rd.bad r }))] 119, .dead, .own 88 .cell (Rd.out (U { pos := IntKind.wrap .i64 (Rd.pos r + (1 : Int)), out := Rd.out r, bad := Rd.bad r }) ++ [{ op := (7 : Int), a := (0 : Int), name := [] }])]))) (.ite ((↑(UInt8.toNat (List.getD s (Int.toNat (Rd.pos r)) (0 : UInt8))) : Int) == (33 : Int)) (.need (Does Tryz.prog (111 : FuncId) [.c (.loc 0 0)] [.cells [.pd (.str s), .i (IntKind.wrap .i64 (Rd.pos r + (1 : Int))), .own 1, .i (Rd.bad r)] (119 : TypeId), .own (88 : TypeId) .cell (Rd.out r)] (.tup []) (rd2 s (U { pos := IntKind.wrap .i64 (Rd.pos r + (1 : Int)), out := Rd.out r, bad := Rd.bad r }))) (.need (room (List.length (Rd.out (U { pos := IntKind.wrap .i64 (Rd.pos r + (1 : Int)), out := Rd.out r, bad := Rd.bad r })) + 1) 32) (.ret (.tup []) [.cells [.pd (.str s), .i (Rd.pos (U { pos := IntKind.wrap .i64 (Rd.pos r + (1 : Int)), out := Rd.out r, bad := Rd.bad r })), .own 2, .i (Rd.bad (U { pos := IntKind.wrap .i64 (Rd.pos r + (1 : Int)), out := Rd.out r, bad := Rd.bad r }))] 119, .dead, .own 88 .cell (Rd.out (U { pos := IntKind.wrap .i64 (Rd.pos r + (1 : Int)), out := Rd.out r, bad := Rd.bad r }) ++ [{ op := (8 : Int), a := (0 : Int), name := [] }])]))) (.need (Does Tryz.prog (135 : FuncId) [.c (.loc 0 0)] [.cells [.pd (.str s), .i (Rd.pos r), .own 1, .i (Rd.bad r)] (119 : TypeId), .own (88 : TypeId) .cell (Rd.out r)] (.tup []) (rd2 s (A { pos := Rd.pos r, out := Rd.out r, bad := Rd.bad r }))) (.ret (.tup []) [.cells [.pd (.str s), .i (Rd.pos (A { pos := Rd.pos r, out := Rd.out r, bad := Rd.bad r })), .own 2, .i (Rd.bad (A { pos := Rd.pos r, out := Rd.out r, bad := Rd.bad r }))] 119, .dead, .own 88 .cell (Rd.out (A { pos := Rd.pos r, out := Rd.out r, bad := Rd.bad r }))]))))))) (by kernel_rfl) ?_
  rw [wrapI (n := r.pos + 1) (by omega) (by omega)]
  refine ⟨fun h => ?_, fun _ => ⟨⟨hlow, hlt⟩, fun h => ⟨hq, room_cell (by show q.out.length + 1 ≤ _; omega), RdQ.two ?_⟩, fun n => ⟨fun h => ⟨hq, room_cell (by show q.out.length + 1 ≤ _; omega), RdQ.two ?_⟩, fun h => ?_⟩⟩⟩
  · simp only [Bool.or_eq_true, decide_eq_true_eq, beq_iff_eq] at h
    omega
  · have h' : byteAt s r.pos = 45 := eq_of_beq h
    have e : op = 7 := by rcases hp with ⟨_, e⟩ | ⟨e, _⟩; exact e; exact absurd h' e
    subst e; rfl
  · have h' : byteAt s r.pos = 33 := eq_of_beq h
    have e : op = 8 := by rcases hp with ⟨e, _⟩ | ⟨_, _, e⟩; (rw [e] at h'; exact absurd h' (by decide)); exact e
    subst e; rfl
  · exfalso
    have n' : byteAt s r.pos ≠ 45 := ne_of_beq_false n
    have h' : byteAt s r.pos ≠ 33 := ne_of_beq_false h
    rcases hp with ⟨e, _⟩ | ⟨_, e, _⟩
    · exact n' e
    · exact h' e
theorem una_atom {r o : Rd} (hok : Ok s r) (hsl : Slack s r) (h1 : ∀ op, headM s r.pos ≠ .pre op) (h2 : headM s r.pos ≠ .fin) (hq : atomD s r o) : unaD s r o := by
  have hlt := hok.lt (fun x e => by subst e; exact h2)
  have hlow := hok.low
  have hb := hok.bad
  obtain ⟨p1, p2⟩ := head_atom h1 h2
  let U : Rd → Rd := fun _ => o
  let A : Rd → Rd := fun _ => o
  refine Does.rd Tryz.func111 (by kernel_rfl) (by kernel_rfl) rfl fun Γ => ?_
  refine J.go (cfg := (cfgUn U A)) cfgUn_ok Tryz.func111 1000 (t := (.ite (decide (Rd.bad r ≥ (0 : Int)) || Rd.pos r == strLen s) (.ret (.tup []) [.cells [.pd (.str s), .i (Rd.pos r), .own 1, .i (if Rd.bad r < (0 : Int) then Rd.pos r else Rd.bad r)] 119, .own 88 .cell (Rd.out r)]) (.need ((0 : Int) ≤ Rd.pos r ∧ Rd.pos r < strLen s) (.ite ((↑(UInt8.toNat (List.getD s (Int.toNat (Rd.pos r)) (0 : UInt8))) : Int) == (45 : Int)) (.need (Does Tryz.prog (111 : FuncId) [.c (.loc 0 0)] [.cells [.pd (.str s), .i (IntKind.wrap .i64 (Rd.pos r + (1 : Int))), .own 1, .i (Rd.bad r)] (119 : TypeId), .own (88 : TypeId) .cell (Rd.out r)] (.tup []) (rd2 s (U { pos := IntKind.wrap .i64 (Rd.pos r + (1 : Int)), out := Rd.out r, bad := Rd.bad r }))) (.need (room (List.length (Rd.out (U { pos := IntKind.wrap .i64 (Rd.pos r + (1 : Int)), out := Rd.out r, bad := Rd.bad r })) + 1) 32) (.ret (.tup []) [.cells [.pd (.str s), .i (Rd.pos (U { pos := IntKind.wrap .i64 (Rd.pos r + (1 : Int)), out := Rd.out r, bad := Rd.bad r })), .own 2, .i (Rd.bad (U { pos := IntKind.wrap .i64 (Rd.pos r + (1 : Int)), out := Rd.out r, bad := Rd.bad r }))] 119, .dead, .own 88 .cell (Rd.out (U { pos := IntKind.wrap .i64 (Rd.pos r + (1 : Int)), out := Rd.out r, bad := Rd.bad r }) ++ [{ op := (7 : Int), a := (0 : Int), name := [] }])]))) (.ite ((↑(UInt8.toNat (List.getD s (Int.toNat (Rd.pos r)) (0 : UInt8))) : Int) == (33 : Int)) (.need (Does Tryz.prog (111 : FuncId) [.c (.loc 0 0)] [.cells [.pd (.str s), .i (IntKind.wrap .i64 (Rd.pos r + (1 : Int))), .own 1, .i (Rd.bad r)] (119 : TypeId), .own (88 : TypeId) .cell (Rd.out r)] (.tup []) (rd2 s (U { pos := IntKind.wrap .i64 (Rd.pos r + (1 : Int)), out := Rd.out r, bad := Rd.bad r }))) (.need (room (List.length (Rd.out (U { pos := IntKind.wrap .i64 (Rd.pos r + (1 : Int)), out := Rd.out r, bad := Rd.bad r })) + 1) 32) (.ret (.tup []) [.cells [.pd (.str s), .i (Rd.pos (U { pos := IntKind.wrap .i64 (Rd.pos r + (1 : Int)), out := Rd.out r, bad := Rd.bad r })), .own 2, .i (Rd.bad (U { pos := IntKind.wrap .i64 (Rd.pos r + (1 : Int)), out := Rd.out r, bad := Rd.bad r }))] 119, .dead, .own 88 .cell (Rd.out (U { pos := IntKind.wrap .i64 (Rd.pos r + (1 : Int)), out := Rd.out r, bad := Rd.bad r }) ++ [{ op := (8 : Int), a := (0 : Int), name := [] }])]))) (.need (Does Tryz.prog (135 : FuncId) [.c (.loc 0 0)] [.cells [.pd (.str s), .i (Rd.pos r), .own 1, .i (Rd.bad r)] (119 : TypeId), .own (88 : TypeId) .cell (Rd.out r)] (.tup []) (rd2 s (A { pos := Rd.pos r, out := Rd.out r, bad := Rd.bad r }))) (.ret (.tup []) [.cells [.pd (.str s), .i (Rd.pos (A { pos := Rd.pos r, out := Rd.out r, bad := Rd.bad r })), .own 2, .i (Rd.bad (A { pos := Rd.pos r, out := Rd.out r, bad := Rd.bad r }))] 119, .dead, .own 88 .cell (Rd.out (A { pos := Rd.pos r, out := Rd.out r, bad := Rd.bad r }))]))))))) (by kernel_rfl) ?_
  refine ⟨fun h => ?_, fun _ => ⟨⟨hlow, hlt⟩, fun h => absurd (show byteAt s r.pos = 45 from eq_of_beq h) p1, fun _ => ⟨fun h => absurd (show byteAt s r.pos = 33 from eq_of_beq h) p2, fun _ => ⟨hq, RdQ.two rfl⟩⟩⟩⟩
  simp only [Bool.or_eq_true, decide_eq_true_eq, beq_iff_eq] at h
  omega
theorem oper_bad {p : Int} {r : Rd} (h : ¬ atEnd s p r) : r.bad < 0 ∧ (operM (s.drop r.pos.toNat) p).1 ≠ 0 := Classical.not_not.1 h
/-! ### the loop -/

def loopT (s : Str) (r : Rd) (p : Int) (B : Int → Rd → Rd) : Tree := (.ite (decide (Rd.bad r < (0 : Int))) (.need ((0 : Int) ≤ Rd.pos r ∧ Rd.pos r ≤ strLen s) (.ite (Prod.fst (operM (List.drop (Int.toNat (Rd.pos r)) s) p) == (0 : Int)) (.ret (.tup []) [.cells [.pd (.str s), .i (Rd.pos r), .own 2, .i (Rd.bad r)] 119, .dead, .own 88 .cell (Rd.out r)]) (.need (Does Tryz.prog (78 : FuncId) [.c (.loc 0 0), SX.i (IntKind.wrap .i64 (p + (1 : Int)))] [.cells [.pd (.str s), .i (IntKind.wrap .i64 (Rd.pos r + Prod.snd (operM (List.drop (Int.toNat (Rd.pos r)) s) p))), .own 1, .i (Rd.bad r)] (119 : TypeId), .own (88 : TypeId) .cell (Rd.out r)] (.tup []) (rd2 s (B (IntKind.wrap .i64 (p + (1 : Int))) { pos := IntKind.wrap .i64 (Rd.pos r + Prod.snd (operM (List.drop (Int.toNat (Rd.pos r)) s) p)), out := Rd.out r, bad := Rd.bad r }))) (.need (room (List.length (Rd.out (B (IntKind.wrap .i64 (p + (1 : Int))) { pos := IntKind.wrap .i64 (Rd.pos r + Prod.snd (operM (List.drop (Int.toNat (Rd.pos r)) s) p)), out := Rd.out r, bad := Rd.bad r })) + 1) 32) (.ite (p != (3 : Int)) (.stop [.code [0, 2], .inScope [0]] { n := 45, fr := [(0, .x (.c (.loc 0 0))), (1, .i p)], ck := [.cells [.pd (.str s), .i (Rd.pos (B (IntKind.wrap .i64 (p + (1 : Int))) { pos := IntKind.wrap .i64 (Rd.pos r + Prod.snd (operM (List.drop (Int.toNat (Rd.pos r)) s) p)), out := Rd.out r, bad := Rd.bad r })), .own 2, .i (Rd.bad (B (IntKind.wrap .i64 (p + (1 : Int))) { pos := IntKind.wrap .i64 (Rd.pos r + Prod.snd (operM (List.drop (Int.toNat (Rd.pos r)) s) p)), out := Rd.out r, bad := Rd.bad r }))] 119, .dead, .own 88 .cell (Rd.out (B (IntKind.wrap .i64 (p + (1 : Int))) { pos := IntKind.wrap .i64 (Rd.pos r + Prod.snd (operM (List.drop (Int.toNat (Rd.pos r)) s) p)), out := Rd.out r, bad := Rd.bad r }) ++ [{ op := Prod.fst (operM (List.drop (Int.toNat (Rd.pos r)) s) p), a := (0 : Int), name := [] }])], m := 2 }) (.ret (.tup []) [.cells [.pd (.str s), .i (Rd.pos (B (IntKind.wrap .i64 (p + (1 : Int))) { pos := IntKind.wrap .i64 (Rd.pos r + Prod.snd (operM (List.drop (Int.toNat (Rd.pos r)) s) p)), out := Rd.out r, bad := Rd.bad r })), .own 2, .i (Rd.bad (B (IntKind.wrap .i64 (p + (1 : Int))) { pos := IntKind.wrap .i64 (Rd.pos r + Prod.snd (operM (List.drop (Int.toNat (Rd.pos r)) s) p)), out := Rd.out r, bad := Rd.bad r }))] 119, .dead, .own 88 .cell (Rd.out (B (IntKind.wrap .i64 (p + (1 : Int))) { pos := IntKind.wrap .i64 (Rd.pos r + Prod.snd (operM (List.drop (Int.toNat (Rd.pos r)) s) p)), out := Rd.out r, bad := Rd.bad r }) ++ [{ op := Prod.fst (operM (List.drop (Int.toNat (Rd.pos r)) s) p), a := (0 : Int), name := [] }])])))))) (.ite true (.ret (.tup []) [.cells [.pd (.str s), .i (Rd.pos r), .own 2, .i (Rd.bad r)] 119, .dead, .own 88 .cell (Rd.out r)]) (.need (Does Tryz.prog (78 : FuncId) [.c (.loc 0 0), SX.i (IntKind.wrap .i64 (p + (1 : Int)))] [.cells [.pd (.str s), .i (IntKind.wrap .i64 (Rd.pos r + (0 : Int))), .own 1, .i (Rd.bad r)] (119 : TypeId), .own (88 : TypeId) .cell (Rd.out r)] (.tup []) (rd2 s (B (IntKind.wrap .i64 (p + (1 : Int))) { pos := IntKind.wrap .i64 (Rd.pos r + (0 : Int)), out := Rd.out r, bad := Rd.bad r }))) (.need (room (List.length (Rd.out (B (IntKind.wrap .i64 (p + (1 : Int))) { pos := IntKind.wrap .i64 (Rd.pos r + (0 : Int)), out := Rd.out r, bad := Rd.bad r })) + 1) 32) (.ite (p != (3 : Int)) (.stop [.code [0, 2], .inScope [0]] { n := 45, fr := [(0, .x (.c (.loc 0 0))), (1, .i p)], ck := [.cells [.pd (.str s), .i (Rd.pos (B (IntKind.wrap .i64 (p + (1 : Int))) { pos := IntKind.wrap .i64 (Rd.pos r + (0 : Int)), out := Rd.out r, bad := Rd.bad r })), .own 2, .i (Rd.bad (B (IntKind.wrap .i64 (p + (1 : Int))) { pos := IntKind.wrap .i64 (Rd.pos r + (0 : Int)), out := Rd.out r, bad := Rd.bad r }))] 119, .dead, .own 88 .cell (Rd.out (B (IntKind.wrap .i64 (p + (1 : Int))) { pos := IntKind.wrap .i64 (Rd.pos r + (0 : Int)), out := Rd.out r, bad := Rd.bad r }) ++ [{ op := (0 : Int), a := (0 : Int), name := [] }])], m := 2 }) (.ret (.tup []) [.cells [.pd (.str s), .i (Rd.pos (B (IntKind.wrap .i64 (p + (1 : Int))) { pos := IntKind.wrap .i64 (Rd.pos r + (0 : Int)), out := Rd.out r, bad := Rd.bad r })), .own 2, .i (Rd.bad (B (IntKind.wrap .i64 (p + (1 : Int))) { pos := IntKind.wrap .i64 (Rd.pos r + (0 : Int)), out := Rd.out r, bad := Rd.bad r }))] 119, .dead, .own 88 .cell (Rd.out (B (IntKind.wrap .i64 (p + (1 : Int))) { pos := IntKind.wrap .i64 (Rd.pos r + (0 : Int)), out := Rd.out r, bad := Rd.bad r }) ++ [{ op := (0 : Int), a := (0 : Int), name := [] }])]))))))
def LoopJ (s : Str) (p : Int) (r o : Rd) : Prop := ∀ Γ, J Tryz.prog 78 (bodyOf Tryz.f78) Γ (RdQ s o) [.code [0, 2], .inScope [0]] ({ n := 45, fr := [(0, .x (.c (.loc 0 0))), (1, .i (p))], ck := [.cells [.pd (.str s), SC.i r.pos, .own 2, SC.i r.bad] 119, .dead, .own 88 .cell r.out], m := 2 })
def LoopTJ (s : Str) (p : Int) (B : Int → Rd → Rd) (r o : Rd) : Prop := ∀ Γ, (loopT s r p B).J Tryz.prog 78 (bodyOf Tryz.f78) Γ (RdQ s o)
theorem LoopTJ.go {p : Int} {B : Int → Rd → Rd} {r o : Rd} (h : LoopTJ s p B r o) : LoopJ s p r o := fun Γ => J.go (cfg := cfgBn B (fun x => x)) cfgBn_ok Tryz.func78 1000 (t := loopT s r p B) (by kernel_rfl) (h Γ)
theorem loop_done {p : Int} {B : Int → Rd → Rd} {r : Rd} (hr : r.bad < 0 → 0 ≤ r.pos ∧ r.pos ≤ strLen s) (he : atEnd s p r) : LoopTJ s p B r r := by
  intro Γ
  refine ⟨fun hb => ⟨hr (of_decide_eq_true hb), fun _ => RdQ.two rfl, fun h => ?_⟩, fun _ => ⟨fun _ => RdQ.two rfl, fun h => Bool.noConfusion h⟩⟩
  exact absurd ⟨of_decide_eq_true hb, ne_of_beq_false h⟩ he
theorem loop_more {p : Int} {B : Int → Rd → Rd} {r q o : Rd} (h1 : 1 ≤ p) (h5 : p ≤ 5) (h3 : p ≠ 3) (hok : Ok s r) (hsl : Slack s r) (hn : ¬ atEnd s p r)
    (hB : B (p + 1) ⟨r.pos + (operM (s.drop r.pos.toNat) p).2, r.out, r.bad⟩ = q) (hq : binD s (p + 1) (r.to (r.pos + (operM (s.drop r.pos.toNat) p).2)) q) (hl : Left s (r.to (r.pos + (operM (s.drop r.pos.toNat) p).2)) q)
    (hj : LoopJ s p (q.emit ⟨(operM (s.drop r.pos.toNat) p).1, 0, []⟩) o) : LoopTJ s p B r o := by
  intro Γ
  have hlow := hok.low
  have hL : strLen s = (s.length : Int) := rfl
  have hs := hsl.2
  have hb := hok.bad
  obtain ⟨f1, f2, f3, f4, f5, f6, f7⟩ := oper_facts h1 h5 hok.low hok.high hn
  obtain ⟨k1, _⟩ := (hsl.to (k := r.pos + (operM (s.drop r.pos.toNat) p).2) (by omega)).out hl
  unfold loopT
  rw [wrapI (n := r.pos + (operM (s.drop r.pos.toNat) p).2) (by omega) (by omega), wrapI (n := p + 1) (by omega) (by omega), hB]
  refine ⟨fun _ => ⟨⟨hlow, hok.high⟩, fun h => ?_, fun _ => ⟨hq, room_cell (by omega), fun _ => hj Γ, fun h => ?_⟩⟩, fun h => ?_⟩
  · have := eq_of_beq h; omega
  · simp only [bne_eq_false_iff_eq] at h; exact absurd h h3
  · have := of_decide_eq_false h; omega
theorem loop_once {B : Int → Rd → Rd} {r q : Rd} (hok : Ok s r) (hsl : Slack s r) (hn : ¬ atEnd s 3 r)
    (hB : B 4 ⟨r.pos + (operM (s.drop r.pos.toNat) 3).2, r.out, r.bad⟩ = q) (hq : binD s 4 (r.to (r.pos + (operM (s.drop r.pos.toNat) 3).2)) q) (hl : Left s (r.to (r.pos + (operM (s.drop r.pos.toNat) 3).2)) q) : LoopTJ s 3 B r (q.emit ⟨(operM (s.drop r.pos.toNat) 3).1, 0, []⟩) := by
  intro Γ
  have hlow := hok.low
  have hL : strLen s = (s.length : Int) := rfl
  have hs := hsl.2
  have hb := hok.bad
  obtain ⟨f1, f2, f3, f4, f5, f6, f7⟩ := oper_facts (by omega) (by omega) hok.low hok.high hn
  obtain ⟨k1, _⟩ := (hsl.to (k := r.pos + (operM (s.drop r.pos.toNat) 3).2) (by omega)).out hl
  unfold loopT
  rw [wrapI (n := r.pos + (operM (s.drop r.pos.toNat) 3).2) (by omega) (by omega), wrapI (n := 3 + 1) (by omega) (by omega), show (3 : Int) + 1 = 4 from rfl, hB]
  refine ⟨fun _ => ⟨⟨hlow, hok.high⟩, fun h => ?_, fun _ => ⟨hq, room_cell (by omega), fun h => absurd h (by decide), fun h => RdQ.two rfl⟩⟩, fun h => ?_⟩
  · have := eq_of_beq h; omega
  · have := of_decide_eq_false h; omega
theorem bin_six {p : Int} {r o : Rd} (hp : p = 6) (hq : unaD s r o) : binD s p r o := by
  let B : Int → Rd → Rd := fun _ _ => o
  let U : Rd → Rd := fun _ => o
  refine Does.rd Tryz.func78 (by kernel_rfl) (by kernel_rfl) rfl fun Γ => ?_
  refine J.go (cfg := (cfgBn B U)) cfgBn_ok Tryz.func78 1000 (t := (.ite (p == (6 : Int)) (.need (Does Tryz.prog (111 : FuncId) [.c (.loc 0 0)] [.cells [.pd (.str s), .i (Rd.pos r), .own 1, .i (Rd.bad r)] (119 : TypeId), .own (88 : TypeId) .cell (Rd.out r)] (.tup []) (rd2 s (U { pos := Rd.pos r, out := Rd.out r, bad := Rd.bad r }))) (.ret (.tup []) [.cells [.pd (.str s), .i (Rd.pos (U { pos := Rd.pos r, out := Rd.out r, bad := Rd.bad r })), .own 2, .i (Rd.bad (U { pos := Rd.pos r, out := Rd.out r, bad := Rd.bad r }))] 119, .dead, .own 88 .cell (Rd.out (U { pos := Rd.pos r, out := Rd.out r, bad := Rd.bad r }))])) (.need (Does Tryz.prog (78 : FuncId) [.c (.loc 0 0), SX.i (IntKind.wrap .i64 (p + (1 : Int)))] [.cells [.pd (.str s), .i (Rd.pos r), .own 1, .i (Rd.bad r)] (119 : TypeId), .own (88 : TypeId) .cell (Rd.out r)] (.tup []) (rd2 s (B (IntKind.wrap .i64 (p + (1 : Int))) { pos := Rd.pos r, out := Rd.out r, bad := Rd.bad r }))) (.ite (decide (Rd.bad (B (IntKind.wrap .i64 (p + (1 : Int))) { pos := Rd.pos r, out := Rd.out r, bad := Rd.bad r }) < (0 : Int))) (.need ((0 : Int) ≤ Rd.pos (B (IntKind.wrap .i64 (p + (1 : Int))) { pos := Rd.pos r, out := Rd.out r, bad := Rd.bad r }) ∧ Rd.pos (B (IntKind.wrap .i64 (p + (1 : Int))) { pos := Rd.pos r, out := Rd.out r, bad := Rd.bad r }) ≤ strLen s) (.ite (Prod.fst (operM (List.drop (Int.toNat (Rd.pos (B (IntKind.wrap .i64 (p + (1 : Int))) { pos := Rd.pos r, out := Rd.out r, bad := Rd.bad r }))) s) p) == (0 : Int)) (.ret (.tup []) [.cells [.pd (.str s), .i (Rd.pos (B (IntKind.wrap .i64 (p + (1 : Int))) { pos := Rd.pos r, out := Rd.out r, bad := Rd.bad r })), .own 2, .i (Rd.bad (B (IntKind.wrap .i64 (p + (1 : Int))) { pos := Rd.pos r, out := Rd.out r, bad := Rd.bad r }))] 119, .dead, .own 88 .cell (Rd.out (B (IntKind.wrap .i64 (p + (1 : Int))) { pos := Rd.pos r, out := Rd.out r, bad := Rd.bad r }))]) (.need (Does Tryz.prog (78 : FuncId) [.c (.loc 0 0), SX.i (IntKind.wrap .i64 (p + (1 : Int)))] [.cells [.pd (.str s), .i (IntKind.wrap .i64 (Rd.pos (B (IntKind.wrap .i64 (p + (1 : Int))) { pos := Rd.pos r, out := Rd.out r, bad := Rd.bad r }) + Prod.snd (operM (List.drop (Int.toNat (Rd.pos (B (IntKind.wrap .i64 (p + (1 : Int))) { pos := Rd.pos r, out := Rd.out r, bad := Rd.bad r }))) s) p))), .own 1, .i (Rd.bad (B (IntKind.wrap .i64 (p + (1 : Int))) { pos := Rd.pos r, out := Rd.out r, bad := Rd.bad r }))] (119 : TypeId), .own (88 : TypeId) .cell (Rd.out (B (IntKind.wrap .i64 (p + (1 : Int))) { pos := Rd.pos r, out := Rd.out r, bad := Rd.bad r }))] (.tup []) (rd2 s (B (IntKind.wrap .i64 (p + (1 : Int))) { pos := IntKind.wrap .i64 (Rd.pos (B (IntKind.wrap .i64 (p + (1 : Int))) { pos := Rd.pos r, out := Rd.out r, bad := Rd.bad r }) + Prod.snd (operM (List.drop (Int.toNat (Rd.pos (B (IntKind.wrap .i64 (p + (1 : Int))) { pos := Rd.pos r, out := Rd.out r, bad := Rd.bad r }))) s) p)), out := Rd.out (B (IntKind.wrap .i64 (p + (1 : Int))) { pos := Rd.pos r, out := Rd.out r, bad := Rd.bad r }), bad := Rd.bad (B (IntKind.wrap .i64 (p + (1 : Int))) { pos := Rd.pos r, out := Rd.out r, bad := Rd.bad r }) }))) (.need (room (List.length (Rd.out (B (IntKind.wrap .i64 (p + (1 : Int))) { pos := IntKind.wrap .i64 (Rd.pos (B (IntKind.wrap .i64 (p + (1 : Int))) { pos := Rd.pos r, out := Rd.out r, bad := Rd.bad r }) + Prod.snd (operM (List.drop (Int.toNat (Rd.pos (B (IntKind.wrap .i64 (p + (1 : Int))) { pos := Rd.pos r, out := Rd.out r, bad := Rd.bad r }))) s) p)), out := Rd.out (B (IntKind.wrap .i64 (p + (1 : Int))) { pos := Rd.pos r, out := Rd.out r, bad := Rd.bad r }), bad := Rd.bad (B (IntKind.wrap .i64 (p + (1 : Int))) { pos := Rd.pos r, out := Rd.out r, bad := Rd.bad r }) })) + 1) 32) (.ite (p != (3 : Int)) (.stop [.code [0, 2], .inScope [0]] { n := 45, fr := [(0, .x (.c (.loc 0 0))), (1, .i p)], ck := [.cells [.pd (.str s), .i (Rd.pos (B (IntKind.wrap .i64 (p + (1 : Int))) { pos := IntKind.wrap .i64 (Rd.pos (B (IntKind.wrap .i64 (p + (1 : Int))) { pos := Rd.pos r, out := Rd.out r, bad := Rd.bad r }) + Prod.snd (operM (List.drop (Int.toNat (Rd.pos (B (IntKind.wrap .i64 (p + (1 : Int))) { pos := Rd.pos r, out := Rd.out r, bad := Rd.bad r }))) s) p)), out := Rd.out (B (IntKind.wrap .i64 (p + (1 : Int))) { pos := Rd.pos r, out := Rd.out r, bad := Rd.bad r }), bad := Rd.bad (B (IntKind.wrap .i64 (p + (1 : Int))) { pos := Rd.pos r, out := Rd.out r, bad := Rd.bad r }) })), .own 2, .i (Rd.bad (B (IntKind.wrap .i64 (p + (1 : Int))) { pos := IntKind.wrap .i64 (Rd.pos (B (IntKind.wrap .i64 (p + (1 : Int))) { pos := Rd.pos r, out := Rd.out r, bad := Rd.bad r }) + Prod.snd (operM (List.drop (Int.toNat (Rd.pos (B (IntKind.wrap .i64 (p + (1 : Int))) { pos := Rd.pos r, out := Rd.out r, bad := Rd.bad r }))) s) p)), out := Rd.out (B (IntKind.wrap .i64 (p + (1 : Int))) { pos := Rd.pos r, out := Rd.out r, bad := Rd.bad r }), bad := Rd.bad (B (IntKind.wrap .i64 (p + (1 : Int))) { pos := Rd.pos r, out := Rd.out r, bad := Rd.bad r }) }))] 119, .dead, .own 88 .cell (Rd.out (B (IntKind.wrap .i64 (p + (1 : Int))) { pos := IntKind.wrap .i64 (Rd.pos (B (IntKind.wrap .i64 (p + (1 : Int))) { pos := Rd.pos r, out := Rd.out r, bad := Rd.bad r }) + Prod.snd (operM (List.drop (Int.toNat (Rd.pos (B (IntKind.wrap .i64 (p + (1 : Int))) { pos := Rd.pos r, out := Rd.out r, bad := Rd.bad r }))) s) p)), out := Rd.out (B (IntKind.wrap .i64 (p + (1 : Int))) { pos := Rd.pos r, out := Rd.out r, bad := Rd.bad r }), bad := Rd.bad (B (IntKind.wrap .i64 (p + (1 : Int))) { pos := Rd.pos r, out := Rd.out r, bad := Rd.bad r }) }) ++ [{ op := Prod.fst (operM (List.drop (Int.toNat (Rd.pos (B (IntKind.wrap .i64 (p + (1 : Int))) { pos := Rd.pos r, out := Rd.out r, bad := Rd.bad r }))) s) p), a := (0 : Int), name := [] }])], m := 2 }) (.ret (.tup []) [.cells [.pd (.str s), .i (Rd.pos (B (IntKind.wrap .i64 (p + (1 : Int))) { pos := IntKind.wrap .i64 (Rd.pos (B (IntKind.wrap .i64 (p + (1 : Int))) { pos := Rd.pos r, out := Rd.out r, bad := Rd.bad r }) + Prod.snd (operM (List.drop (Int.toNat (Rd.pos (B (IntKind.wrap .i64 (p + (1 : Int))) { pos := Rd.pos r, out := Rd.out r, bad := Rd.bad r }))) s) p)), out := Rd.out (B (IntKind.wrap .i64 (p + (1 : Int))) { pos := Rd.pos r, out := Rd.out r, bad := Rd.bad r }), bad := Rd.bad (B (IntKind.wrap .i64 (p + (1 : Int))) { pos := Rd.pos r, out := Rd.out r, bad := Rd.bad r }) })), .own 2, .i (Rd.bad (B (IntKind.wrap .i64 (p + (1 : Int))) { pos := IntKind.wrap .i64 (Rd.pos (B (IntKind.wrap .i64 (p + (1 : Int))) { pos := Rd.pos r, out := Rd.out r, bad := Rd.bad r }) + Prod.snd (operM (List.drop (Int.toNat (Rd.pos (B (IntKind.wrap .i64 (p + (1 : Int))) { pos := Rd.pos r, out := Rd.out r, bad := Rd.bad r }))) s) p)), out := Rd.out (B (IntKind.wrap .i64 (p + (1 : Int))) { pos := Rd.pos r, out := Rd.out r, bad := Rd.bad r }), bad := Rd.bad (B (IntKind.wrap .i64 (p + (1 : Int))) { pos := Rd.pos r, out := Rd.out r, bad := Rd.bad r }) }))] 119, .dead, .own 88 .cell (Rd.out (B (IntKind.wrap .i64 (p + (1 : Int))) { pos := IntKind.wrap .i64 (Rd.pos (B (IntKind.wrap .i64 (p + (1 : Int))) { pos := Rd.pos r, out := Rd.out r, bad := Rd.bad r }) + Prod.snd (operM (List.drop (Int.toNat (Rd.pos (B (IntKind.wrap .i64 (p + (1 : Int))) { pos := Rd.pos r, out := Rd.out r, bad := Rd.bad r }))) s) p)), out := Rd.out (B (IntKind.wrap .i64 (p + (1 : Int))) { pos := Rd.pos r, out := Rd.out r, bad := Rd.bad r }), bad := Rd.bad (B (IntKind.wrap .i64 (p + (1 : Int))) { pos := Rd.pos r, out := Rd.out r, bad := Rd.bad r }) }) ++ [{ op := Prod.fst (operM (List.drop (Int.toNat (Rd.pos (B (IntKind.wrap .i64 (p + (1 : Int))) { pos := Rd.pos r, out := Rd.out r, bad := Rd.bad r }))) s) p), a := (0 : Int), name := [] }])])))))) (.ite true (.ret (.tup []) [.cells [.pd (.str s), .i (Rd.pos (B (IntKind.wrap .i64 (p + (1 : Int))) { pos := Rd.pos r, out := Rd.out r, bad := Rd.bad r })), .own 2, .i (Rd.bad (B (IntKind.wrap .i64 (p + (1 : Int))) { pos := Rd.pos r, out := Rd.out r, bad := Rd.bad r }))] 119, .dead, .own 88 .cell (Rd.out (B (IntKind.wrap .i64 (p + (1 : Int))) { pos := Rd.pos r, out := Rd.out r, bad := Rd.bad r }))]) (.need (Does Tryz.prog (78 : FuncId) [.c (.loc 0 0), SX.i (IntKind.wrap .i64 (p + (1 : Int)))] [.cells [.pd (.str s), .i (IntKind.wrap .i64 (Rd.pos (B (IntKind.wrap .i64 (p + (1 : Int))) { pos := Rd.pos r, out := Rd.out r, bad := Rd.bad r }) + (0 : Int))), .own 1, .i (Rd.bad (B (IntKind.wrap .i64 (p + (1 : Int))) { pos := Rd.pos r, out := Rd.out r, bad := Rd.bad r }))] (119 : TypeId), .own (88 : TypeId) .cell (Rd.out (B (IntKind.wrap .i64 (p + (1 : Int))) { pos := Rd.pos r, out := Rd.out r, bad := Rd.bad r }))] (.tup []) (rd2 s (B (IntKind.wrap .i64 (p + (1 : Int))) { pos := IntKind.wrap .i64 (Rd.pos (B (IntKind.wrap .i64 (p + (1 : Int))) { pos := Rd.pos r, out := Rd.out r, bad := Rd.bad r }) + (0 : Int)), out := Rd.out (B (IntKind.wrap .i64 (p + (1 : Int))) { pos := Rd.pos r, out := Rd.out r, bad := Rd.bad r }), bad := Rd.bad (B (IntKind.wrap .i64 (p + (1 : Int))) { pos := Rd.pos r, out := Rd.out r, bad := Rd.bad r }) }))) (.need (room (List.length (Rd.out (B (IntKind.wrap .i64 (p + (1 : Int))) { pos := IntKind.wrap .i64 (Rd.pos (B (IntKind.wrap .i64 (p + (1 : Int))) { pos := Rd.pos r, out := Rd.out r, bad := Rd.bad r }) + (0 : Int)), out := Rd.out (B (IntKind.wrap .i64 (p + (1 : Int))) { pos := Rd.pos r, out := Rd.out r, bad := Rd.bad r }), bad := Rd.bad (B (IntKind.wrap .i64 (p + (1 : Int))) { pos := Rd.pos r, out := Rd.out r, bad := Rd.bad r }) })) + 1) 32) (.ite (p != (3 : Int)) (.stop [.code [0, 2], .inScope [0]] { n := 45, fr := [(0, .x (.c (.loc 0 0))), (1, .i p)], ck := [.cells [.pd (.str s), .i (Rd.pos (B (IntKind.wrap .i64 (p + (1 : Int))) { pos := IntKind.wrap .i64 (Rd.pos (B (IntKind.wrap .i64 (p + (1 : Int))) { pos := Rd.pos r, out := Rd.out r, bad := Rd.bad r }) + (0 : Int)), out := Rd.out (B (IntKind.wrap .i64 (p + (1 : Int))) { pos := Rd.pos r, out := Rd.out r, bad := Rd.bad r }), bad := Rd.bad (B (IntKind.wrap .i64 (p + (1 : Int))) { pos := Rd.pos r, out := Rd.out r, bad := Rd.bad r }) })), .own 2, .i (Rd.bad (B (IntKind.wrap .i64 (p + (1 : Int))) { pos := IntKind.wrap .i64 (Rd.pos (B (IntKind.wrap .i64 (p + (1 : Int))) { pos := Rd.pos r, out := Rd.out r, bad := Rd.bad r }) + (0 : Int)), out := Rd.out (B (IntKind.wrap .i64 (p + (1 : Int))) { pos := Rd.pos r, out := Rd.out r, bad := Rd.bad r }), bad := Rd.bad (B (IntKind.wrap .i64 (p + (1 : Int))) { pos := Rd.pos r, out := Rd.out r, bad := Rd.bad r }) }))] 119, .dead, .own 88 .cell (Rd.out (B (IntKind.wrap .i64 (p + (1 : Int))) { pos := IntKind.wrap .i64 (Rd.pos (B (IntKind.wrap .i64 (p + (1 : Int))) { pos := Rd.pos r, out := Rd.out r, bad := Rd.bad r }) + (0 : Int)), out := Rd.out (B (IntKind.wrap .i64 (p + (1 : Int))) { pos := Rd.pos r, out := Rd.out r, bad := Rd.bad r }), bad := Rd.bad (B (IntKind.wrap .i64 (p + (1 : Int))) { pos := Rd.pos r, out := Rd.out r, bad := Rd.bad r }) }) ++ [{ op := (0 : Int), a := (0 : Int), name := [] }])], m := 2 }) (.ret (.tup []) [.cells [.pd (.str s), .i (Rd.pos (B (IntKind.wrap .i64 (p + (1 : Int))) { pos := IntKind.wrap .i64 (Rd.pos (B (IntKind.wrap .i64 (p + (1 : Int))) { pos := Rd.pos r, out := Rd.out r, bad := Rd.bad r }) + (0 : Int)), out := Rd.out (B (IntKind.wrap .i64 (p + (1 : Int))) { pos := Rd.pos r, out := Rd.out r, bad := Rd.bad r }), bad := Rd.bad (B (IntKind.wrap .i64 (p + (1 : Int))) { pos := Rd.pos r, out := Rd.out r, bad := Rd.bad r }) })), .own 2, .i (Rd.bad (B (IntKind.wrap .i64 (p + (1 : Int))) { pos := IntKind.wrap .i64 (Rd.pos (B (IntKind.wrap .i64 (p + (1 : Int))) { pos := Rd.pos r, out := Rd.out r, bad := Rd.bad r }) + (0 : Int)), out := Rd.out (B (IntKind.wrap .i64 (p + (1 : Int))) { pos := Rd.pos r, out := Rd.out r, bad := Rd.bad r }), bad := Rd.bad (B (IntKind.wrap .i64 (p + (1 : Int))) { pos := Rd.pos r, out := Rd.out r, bad := Rd.bad r }) }))] 119, .dead, .own 88 .cell (Rd.out (B (IntKind.wrap .i64 (p + (1 : Int))) { pos := IntKind.wrap .i64 (Rd.pos (B (IntKind.wrap .i64 (p + (1 : Int))) { pos := Rd.pos r, out := Rd.out r, bad := Rd.bad r }) + (0 : Int)), out := Rd.out (B (IntKind.wrap .i64 (p + (1 : Int))) { pos := Rd.pos r, out := Rd.out r, bad := Rd.bad r }), bad := Rd.bad (B (IntKind.wrap .i64 (p + (1 : Int))) { pos := Rd.pos r, out := Rd.out r, bad := Rd.bad r }) }) ++ [{ op := (0 : Int), a := (0 : Int), name := [] }])]))))))))) (by kernel_rfl) ?_
  exact ⟨fun _ => ⟨hq, RdQ.two rfl⟩, fun h => absurd hp (ne_of_beq_false h)⟩
theorem bin_go {p : Int} {r q o : Rd} {B : Int → Rd → Rd} (h1 : 1 ≤ p) (h5 : p ≤ 5) (hq : binD s (p + 1) r q) (hB : B (p + 1) r = q) (hl : LoopTJ s p B q o) : binD s p r o := by
  let U : Rd → Rd := fun x => x
  refine Does.rd Tryz.func78 (by kernel_rfl) (by kernel_rfl) rfl fun Γ => ?_
  refine J.go (cfg := (cfgBn B (fun x => x))) cfgBn_ok Tryz.func78 1000 (t := (.ite (p == (6 : Int)) (.need (Does Tryz.prog (111 : FuncId) [.c (.loc 0 0)] [.cells [.pd (.str s), .i (Rd.pos r), .own 1, .i (Rd.bad r)] (119 : TypeId), .own (88 : TypeId) .cell (Rd.out r)] (.tup []) (rd2 s { pos := Rd.pos r, out := Rd.out r, bad := Rd.bad r })) (.ret (.tup []) [.cells [.pd (.str s), .i (Rd.pos { pos := Rd.pos r, out := Rd.out r, bad := Rd.bad r }), .own 2, .i (Rd.bad { pos := Rd.pos r, out := Rd.out r, bad := Rd.bad r })] 119, .dead, .own 88 .cell (Rd.out { pos := Rd.pos r, out := Rd.out r, bad := Rd.bad r })])) (.need (Does Tryz.prog (78 : FuncId) [.c (.loc 0 0), SX.i (IntKind.wrap .i64 (p + (1 : Int)))] [.cells [.pd (.str s), .i (Rd.pos r), .own 1, .i (Rd.bad r)] (119 : TypeId), .own (88 : TypeId) .cell (Rd.out r)] (.tup []) (rd2 s (B (IntKind.wrap .i64 (p + (1 : Int))) { pos := Rd.pos r, out := Rd.out r, bad := Rd.bad r }))) (.ite (decide (Rd.bad (B (IntKind.wrap .i64 (p + (1 : Int))) { pos := Rd.pos r, out := Rd.out r, bad := Rd.bad r }) < (0 : Int))) (.need ((0 : Int) ≤ Rd.pos (B (IntKind.wrap .i64 (p + (1 : Int))) { pos := Rd.pos r, out := Rd.out r, bad := Rd.bad r }) ∧ Rd.pos (B (IntKind.wrap .i64 (p + (1 : Int))) { pos := Rd.pos r, out := Rd.out r, bad := Rd.bad r }) ≤ strLen s) (.ite (Prod.fst (operM (List.drop (Int.toNat (Rd.pos (B (IntKind.wrap .i64 (p + (1 : Int))) { pos := Rd.pos r, out := Rd.out r, bad := Rd.bad r }))) s) p) == (0 : Int)) (.ret (.tup []) [.cells [.pd (.str s), .i (Rd.pos (B (IntKind.wrap .i64 (p + (1 : Int))) { pos := Rd.pos r, out := Rd.out r, bad := Rd.bad r })), .own 2, .i (Rd.bad (B (IntKind.wrap .i64 (p + (1 : Int))) { pos := Rd.pos r, out := Rd.out r, bad := Rd.bad r }))] 119, .dead, .own 88 .cell (Rd.out (B (IntKind.wrap .i64 (p + (1 : Int))) { pos := Rd.pos r, out := Rd.out r, bad := Rd.bad r }))]) (.need (Does Tryz.prog (78 : FuncId) [.c (.loc 0 0), SX.i (IntKind.wrap .i64 (p + (1 : Int)))] [.cells [.pd (.str s), .i (IntKind.wrap .i64 (Rd.pos (B (IntKind.wrap .i64 (p + (1 : Int))) { pos := Rd.pos r, out := Rd.out r, bad := Rd.bad r }) + Prod.snd (operM (List.drop (Int.toNat (Rd.pos (B (IntKind.wrap .i64 (p + (1 : Int))) { pos := Rd.pos r, out := Rd.out r, bad := Rd.bad r }))) s) p))), .own 1, .i (Rd.bad (B (IntKind.wrap .i64 (p + (1 : Int))) { pos := Rd.pos r, out := Rd.out r, bad := Rd.bad r }))] (119 : TypeId), .own (88 : TypeId) .cell (Rd.out (B (IntKind.wrap .i64 (p + (1 : Int))) { pos := Rd.pos r, out := Rd.out r, bad := Rd.bad r }))] (.tup []) (rd2 s (B (IntKind.wrap .i64 (p + (1 : Int))) { pos := IntKind.wrap .i64 (Rd.pos (B (IntKind.wrap .i64 (p + (1 : Int))) { pos := Rd.pos r, out := Rd.out r, bad := Rd.bad r }) + Prod.snd (operM (List.drop (Int.toNat (Rd.pos (B (IntKind.wrap .i64 (p + (1 : Int))) { pos := Rd.pos r, out := Rd.out r, bad := Rd.bad r }))) s) p)), out := Rd.out (B (IntKind.wrap .i64 (p + (1 : Int))) { pos := Rd.pos r, out := Rd.out r, bad := Rd.bad r }), bad := Rd.bad (B (IntKind.wrap .i64 (p + (1 : Int))) { pos := Rd.pos r, out := Rd.out r, bad := Rd.bad r }) }))) (.need (room (List.length (Rd.out (B (IntKind.wrap .i64 (p + (1 : Int))) { pos := IntKind.wrap .i64 (Rd.pos (B (IntKind.wrap .i64 (p + (1 : Int))) { pos := Rd.pos r, out := Rd.out r, bad := Rd.bad r }) + Prod.snd (operM (List.drop (Int.toNat (Rd.pos (B (IntKind.wrap .i64 (p + (1 : Int))) { pos := Rd.pos r, out := Rd.out r, bad := Rd.bad r }))) s) p)), out := Rd.out (B (IntKind.wrap .i64 (p + (1 : Int))) { pos := Rd.pos r, out := Rd.out r, bad := Rd.bad r }), bad := Rd.bad (B (IntKind.wrap .i64 (p + (1 : Int))) { pos := Rd.pos r, out := Rd.out r, bad := Rd.bad r }) })) + 1) 32) (.ite (p != (3 : Int)) (.stop [.code [0, 2], .inScope [0]] { n := 45, fr := [(0, .x (.c (.loc 0 0))), (1, .i p)], ck := [.cells [.pd (.str s), .i (Rd.pos (B (IntKind.wrap .i64 (p + (1 : Int))) { pos := IntKind.wrap .i64 (Rd.pos (B (IntKind.wrap .i64 (p + (1 : Int))) { pos := Rd.pos r, out := Rd.out r, bad := Rd.bad r }) + Prod.snd (operM (List.drop (Int.toNat (Rd.pos (B (IntKind.wrap .i64 (p + (1 : Int))) { pos := Rd.pos r, out := Rd.out r, bad := Rd.bad r }))) s) p)), out := Rd.out (B (IntKind.wrap .i64 (p + (1 : Int))) { pos := Rd.pos r, out := Rd.out r, bad := Rd.bad r }), bad := Rd.bad (B (IntKind.wrap .i64 (p + (1 : Int))) { pos := Rd.pos r, out := Rd.out r, bad := Rd.bad r }) })), .own 2, .i (Rd.bad (B (IntKind.wrap .i64 (p + (1 : Int))) { pos := IntKind.wrap .i64 (Rd.pos (B (IntKind.wrap .i64 (p + (1 : Int))) { pos := Rd.pos r, out := Rd.out r, bad := Rd.bad r }) + Prod.snd (operM (List.drop (Int.toNat (Rd.pos (B (IntKind.wrap .i64 (p + (1 : Int))) { pos := Rd.pos r, out := Rd.out r, bad := Rd.bad r }))) s) p)), out := Rd.out (B (IntKind.wrap .i64 (p + (1 : Int))) { pos := Rd.pos r, out := Rd.out r, bad := Rd.bad r }), bad := Rd.bad (B (IntKind.wrap .i64 (p + (1 : Int))) { pos := Rd.pos r, out := Rd.out r, bad := Rd.bad r }) }))] 119, .dead, .own 88 .cell (Rd.out (B (IntKind.wrap .i64 (p + (1 : Int))) { pos := IntKind.wrap .i64 (Rd.pos (B (IntKind.wrap .i64 (p + (1 : Int))) { pos := Rd.pos r, out := Rd.out r, bad := Rd.bad r }) + Prod.snd (operM (List.drop (Int.toNat (Rd.pos (B (IntKind.wrap .i64 (p + (1 : Int))) { pos := Rd.pos r, out := Rd.out r, bad := Rd.bad r }))) s) p)), out := Rd.out (B (IntKind.wrap .i64 (p + (1 : Int))) { pos := Rd.pos r, out := Rd.out r, bad := Rd.bad r }), bad := Rd.bad (B (IntKind.wrap .i64 (p + (1 : Int))) { pos := Rd.pos r, out := Rd.out r, bad := Rd.bad r }) }) ++ [{ op := Prod.fst (operM (List.drop (Int.toNat (Rd.pos (B (IntKind.wrap .i64 (p + (1 : Int))) { pos := Rd.pos r, out := Rd.out r, bad := Rd.bad r }))) s) p), a := (0 : Int), name := [] }])], m := 2 }) (.ret (.tup []) [.cells [.pd (.str s), .i (Rd.pos (B (IntKind.wrap .i64 (p + (1 : Int))) { pos := IntKind.wrap .i64 (Rd.pos (B (IntKind.wrap .i64 (p + (1 : Int))) { pos := Rd.pos r, out := Rd.out r, bad := Rd.bad r }) + Prod.snd (operM (List.drop (Int.toNat (Rd.pos (B (IntKind.wrap .i64 (p + (1 : Int))) { pos := Rd.pos r, out := Rd.out r, bad := Rd.bad r }))) s) p)), out := Rd.out (B (IntKind.wrap .i64 (p + (1 : Int))) { pos := Rd.pos r, out := Rd.out r, bad := Rd.bad r }), bad := Rd.bad (B (IntKind.wrap .i64 (p + (1 : Int))) { pos := Rd.pos r, out := Rd.out r, bad := Rd.bad r }) })), .own 2, .i (Rd.bad (B (IntKind.wrap .i64 (p + (1 : Int))) { pos := IntKind.wrap .i64 (Rd.pos (B (IntKind.wrap .i64 (p + (1 : Int))) { pos := Rd.pos r, out := Rd.out r, bad := Rd.bad r }) + Prod.snd (operM (List.drop (Int.toNat (Rd.pos (B (IntKind.wrap .i64 (p + (1 : Int))) { pos := Rd.pos r, out := Rd.out r, bad := Rd.bad r }))) s) p)), out := Rd.out (B (IntKind.wrap .i64 (p + (1 : Int))) { pos := Rd.pos r, out := Rd.out r, bad := Rd.bad r }), bad := Rd.bad (B (IntKind.wrap .i64 (p + (1 : Int))) { pos := Rd.pos r, out := Rd.out r, bad := Rd.bad r }) }))] 119, .dead, .own 88 .cell (Rd.out (B (IntKind.wrap .i64 (p + (1 : Int))) { pos := IntKind.wrap .i64 (Rd.pos (B (IntKind.wrap .i64 (p + (1 : Int))) { pos := Rd.pos r, out := Rd.out r, bad := Rd.bad r }) + Prod.snd (operM (List.drop (Int.toNat (Rd.pos (B (IntKind.wrap .i64 (p + (1 : Int))) { pos := Rd.pos r, out := Rd.out r, bad := Rd.bad r }))) s) p)), out := Rd.out (B (IntKind.wrap .i64 (p + (1 : Int))) { pos := Rd.pos r, out := Rd.out r, bad := Rd.bad r }), bad := Rd.bad (B (IntKind.wrap .i64 (p + (1 : Int))) { pos := Rd.pos r, out := Rd.out r, bad := Rd.bad r }) }) ++ [{ op := Prod.fst (operM (List.drop (Int.toNat (Rd.pos (B (IntKind.wrap .i64 (p + (1 : Int))) { pos := Rd.pos r, out := Rd.out r, bad := Rd.bad r }))) s) p), a := (0 : Int), name := [] }])])))))) (.ite true (.ret (.tup []) [.cells [.pd (.str s), .i (Rd.pos (B (IntKind.wrap .i64 (p + (1 : Int))) { pos := Rd.pos r, out := Rd.out r, bad := Rd.bad r })), .own 2, .i (Rd.bad (B (IntKind.wrap .i64 (p + (1 : Int))) { pos := Rd.pos r, out := Rd.out r, bad := Rd.bad r }))] 119, .dead, .own 88 .cell (Rd.out (B (IntKind.wrap .i64 (p + (1 : Int))) { pos := Rd.pos r, out := Rd.out r, bad := Rd.bad r }))]) (.need (Does Tryz.prog (78 : FuncId) [.c (.loc 0 0), SX.i (IntKind.wrap .i64 (p + (1 : Int)))] [.cells [.pd (.str s), .i (IntKind.wrap .i64 (Rd.pos (B (IntKind.wrap .i64 (p + (1 : Int))) { pos := Rd.pos r, out := Rd.out r, bad := Rd.bad r }) + (0 : Int))), .own 1, .i (Rd.bad (B (IntKind.wrap .i64 (p + (1 : Int))) { pos := Rd.pos r, out := Rd.out r, bad := Rd.bad r }))] (119 : TypeId), .own (88 : TypeId) .cell (Rd.out (B (IntKind.wrap .i64 (p + (1 : Int))) { pos := Rd.pos r, out := Rd.out r, bad := Rd.bad r }))] (.tup []) (rd2 s (B (IntKind.wrap .i64 (p + (1 : Int))) { pos := IntKind.wrap .i64 (Rd.pos (B (IntKind.wrap .i64 (p + (1 : Int))) { pos := Rd.pos r, out := Rd.out r, bad := Rd.bad r }) + (0 : Int)), out := Rd.out (B (IntKind.wrap .i64 (p + (1 : Int))) { pos := Rd.pos r, out := Rd.out r, bad := Rd.bad r }), bad := Rd.bad (B (IntKind.wrap .i64 (p + (1 : Int))) { pos := Rd.pos r, out := Rd.out r, bad := Rd.bad r }) }))) (.need (room (List.length (Rd.out (B (IntKind.wrap .i64 (p + (1 : Int))) { pos := IntKind.wrap .i64 (Rd.pos (B (IntKind.wrap .i64 (p + (1 : Int))) { pos := Rd.pos r, out := Rd.out r, bad := Rd.bad r }) + (0 : Int)), out := Rd.out (B (IntKind.wrap .i64 (p + (1 : Int))) { pos := Rd.pos r, out := Rd.out r, bad := Rd.bad r }), bad := Rd.bad (B (IntKind.wrap .i64 (p + (1 : Int))) { pos := Rd.pos r, out := Rd.out r, bad := Rd.bad r }) })) + 1) 32) (.ite (p != (3 : Int)) (.stop [.code [0, 2], .inScope [0]] { n := 45, fr := [(0, .x (.c (.loc 0 0))), (1, .i p)], ck := [.cells [.pd (.str s), .i (Rd.pos (B (IntKind.wrap .i64 (p + (1 : Int))) { pos := IntKind.wrap .i64 (Rd.pos (B (IntKind.wrap .i64 (p + (1 : Int))) { pos := Rd.pos r, out := Rd.out r, bad := Rd.bad r }) + (0 : Int)), out := Rd.out (B (IntKind.wrap .i64 (p + (1 : Int))) { pos := Rd.pos r, out := Rd.out r, bad := Rd.bad r }), bad := Rd.bad (B (IntKind.wrap .i64 (p + (1 : Int))) { pos := Rd.pos r, out := Rd.out r, bad := Rd.bad r }) })), .own 2, .i (Rd.bad (B (IntKind.wrap .i64 (p + (1 : Int))) { pos := IntKind.wrap .i64 (Rd.pos (B (IntKind.wrap .i64 (p + (1 : Int))) { pos := Rd.pos r, out := Rd.out r, bad := Rd.bad r }) + (0 : Int)), out := Rd.out (B (IntKind.wrap .i64 (p + (1 : Int))) { pos := Rd.pos r, out := Rd.out r, bad := Rd.bad r }), bad := Rd.bad (B (IntKind.wrap .i64 (p + (1 : Int))) { pos := Rd.pos r, out := Rd.out r, bad := Rd.bad r }) }))] 119, .dead, .own 88 .cell (Rd.out (B (IntKind.wrap .i64 (p + (1 : Int))) { pos := IntKind.wrap .i64 (Rd.pos (B (IntKind.wrap .i64 (p + (1 : Int))) { pos := Rd.pos r, out := Rd.out r, bad := Rd.bad r }) + (0 : Int)), out := Rd.out (B (IntKind.wrap .i64 (p + (1 : Int))) { pos := Rd.pos r, out := Rd.out r, bad := Rd.bad r }), bad := Rd.bad (B (IntKind.wrap .i64 (p + (1 : Int))) { pos := Rd.pos r, out := Rd.out r, bad := Rd.bad r }) }) ++ [{ op := (0 : Int), a := (0 : Int), name := [] }])], m := 2 }) (.ret (.tup []) [.cells [.pd (.str s), .i (Rd.pos (B (IntKind.wrap .i64 (p + (1 : Int))) { pos := IntKind.wrap .i64 (Rd.pos (B (IntKind.wrap .i64 (p + (1 : Int))) { pos := Rd.pos r, out := Rd.out r, bad := Rd.bad r }) + (0 : Int)), out := Rd.out (B (IntKind.wrap .i64 (p + (1 : Int))) { pos := Rd.pos r, out := Rd.out r, bad := Rd.bad r }), bad := Rd.bad (B (IntKind.wrap .i64 (p + (1 : Int))) { pos := Rd.pos r, out := Rd.out r, bad := Rd.bad r }) })), .own 2, .i (Rd.bad (B (IntKind.wrap .i64 (p + (1 : Int))) { pos := IntKind.wrap .i64 (Rd.pos (B (IntKind.wrap .i64 (p + (1 : Int))) { pos := Rd.pos r, out := Rd.out r, bad := Rd.bad r }) + (0 : Int)), out := Rd.out (B (IntKind.wrap .i64 (p + (1 : Int))) { pos := Rd.pos r, out := Rd.out r, bad := Rd.bad r }), bad := Rd.bad (B (IntKind.wrap .i64 (p + (1 : Int))) { pos := Rd.pos r, out := Rd.out r, bad := Rd.bad r }) }))] 119, .dead, .own 88 .cell (Rd.out (B (IntKind.wrap .i64 (p + (1 : Int))) { pos := IntKind.wrap .i64 (Rd.pos (B (IntKind.wrap .i64 (p + (1 : Int))) { pos := Rd.pos r, out := Rd.out r, bad := Rd.bad r }) + (0 : Int)), out := Rd.out (B (IntKind.wrap .i64 (p + (1 : Int))) { pos := Rd.pos r, out := Rd.out r, bad := Rd.bad r }), bad := Rd.bad (B (IntKind.wrap .i64 (p + (1 : Int))) { pos := Rd.pos r, out := Rd.out r, bad := Rd.bad r }) }) ++ [{ op := (0 : Int), a := (0 : Int), name := [] }])]))))))))) (by kernel_rfl) ?_
  refine ⟨fun h => by have := eq_of_beq h; omega, fun _ => ⟨?_, ?_⟩⟩
  · rw [wrapI (n := p + 1) (by omega) (by omega), hB]; exact hq
  · have h := hl Γ
    rw [← hB, ← wrapI (n := p + 1) (by omega) (by omega)] at h
    exact h
def CT (s : Str) : Task → Rd → Rd → Prop
  | .bin p, r, o => Ok s r → Slack s r → binD s p r o
  | .loop p, r, o => (Ok s r ∧ Slack s r) ∨ 0 ≤ r.bad → ∀ x y : Rd, (Ok s r → x.pos ≤ r.pos) → ∃ B : Int → Rd → Rd, B (p + 1) x = y ∧ LoopTJ s p B r o
  | .una, r, o => Ok s r → Slack s r → unaD s r o
theorem Run.does {t : Task} {r o : Rd} (h : Run s t r o) : CT s t r o := by
  induction h with
  | six _ ih => intro hok hsl; exact bin_six rfl (ih hok hsl)
  | @bin p r q o h1 h5 hr hl ih1 ih2 =>
    intro hok hsl
    have hq := ih1 hok hsl
    have hleft := hr.inv hok
    have hout := hsl.out hleft
    obtain ⟨B, hB, hT⟩ := ih2 (by
      rcases hleft with ⟨g1, _⟩ | ⟨_, g2, _⟩
      · exact .inl ⟨g1, hout.2.1 g1⟩
      · exact .inr g2) r q (fun hk => by
      rcases hleft with ⟨_, g2, _⟩ | ⟨_, g2, _⟩
      · exact g2
      · have := hk.bad; omega)
    exact bin_go h1 h5 hq hB hT
  | @done p r he =>
    intro hok x y _
    refine ⟨fun _ _ => y, rfl, loop_done ?_ he⟩
    intro hb
    rcases hok with ⟨h1, _⟩ | h1
    · exact ⟨h1.low, h1.high⟩
    · omega
  | @more p r q o h1 h5 h3 hn hr hl ih1 ih2 =>
    intro hok x y hx
    have hb : r.bad < 0 := (oper_bad hn).1
    have hok' : Ok s r ∧ Slack s r := by rcases hok with h | h; exact h; omega
    obtain ⟨hk, hsl⟩ := hok'
    have hlow := hk.low
    obtain ⟨f1, f2, f3, f4, f5, f6, f7⟩ := oper_facts h1 h5 hk.low hk.high hn
    have hok1 : Ok s (r.to (r.pos + (operM (s.drop r.pos.toNat) p).2)) := ⟨hk.bad, by simp only [Rd.to]; omega, by simp only [Rd.to]; omega⟩
    have hsl1 := hsl.to (k := r.pos + (operM (s.drop r.pos.toNat) p).2) (by omega)
    have hleft := hr.inv hok1
    have hout := hsl1.out hleft
    have hxp := hx hk
    refine ⟨fun _ z => if z.pos = x.pos then y else q, if_pos rfl, loop_more h1 h5 h3 hk hsl hn (if_neg (by show ¬ r.pos + _ = x.pos; omega)) (ih1 hok1 hsl1) hleft ?_⟩
    obtain ⟨B, _, hT⟩ := ih2 (by
      rcases hleft with ⟨g1, g2, g3⟩ | ⟨_, g2, _⟩
      · refine .inl ⟨g1.emit, ?_, hsl.2⟩
        have := hsl.1
        simp only [Rd.to] at g2 g3
        simp only [Rd.emit, List.length_append, List.length_cons, List.length_nil]; omega
      · exact .inr g2) (q.emit ⟨(operM (s.drop r.pos.toNat) p).1, 0, []⟩) q (fun _ => Int.le_refl _)
    exact hT.go
  | @once r q hn hr ih1 =>
    intro hok x y hx
    have hb : r.bad < 0 := (oper_bad hn).1
    have hok' : Ok s r ∧ Slack s r := by rcases hok with h | h; exact h; omega
    obtain ⟨hk, hsl⟩ := hok'
    have hlow := hk.low
    obtain ⟨f1, f2, f3, f4, f5, f6, f7⟩ := oper_facts (by omega) (by omega) hk.low hk.high hn
    have hok1 : Ok s (r.to (r.pos + (operM (s.drop r.pos.toNat) 3).2)) := ⟨hk.bad, by simp only [Rd.to]; omega, by simp only [Rd.to]; omega⟩
    have hsl1 := hsl.to (k := r.pos + (operM (s.drop r.pos.toNat) 3).2) (by omega)
    have hxp := hx hk
    exact ⟨fun _ z => if z.pos = x.pos then y else q, if_pos rfl, loop_once hk hsl hn (if_neg (by show ¬ r.pos + _ = x.pos; omega)) (ih1 hok1 hsl1) (hr.inv hok1)⟩
  | @lost r hl =>
    intro hok hsl
    have hf : headM s r.pos = .fin := by rcases hl with h | h; (have := hok.bad; omega); exact h
    exact una_lost hok hf
  | @sign r q op hb hh hr ih =>
    intro hok hsl
    have hlt := hok.lt (fun x e => by rw [hh] at e; subst e; simp)
    have hlow := hok.low
    have hok1 : Ok s (r.to (r.pos + 1)) := ⟨hok.bad, by simp only [Rd.to]; omega, by simp only [Rd.to]; omega⟩
    exact una_sign hok hsl hh (ih hok1 (hsl.to (by omega))) (hr.inv hok1)
  | @leaf r hb hh => intro hok hsl; exact una_atom hok hsl (fun op e => by rw [hh] at e; cases e) (by rw [hh]; simp) (atom_leaf hok hsl hh)
  | @par r q hb hh hr ih =>
    intro hok hsl
    have hlt := hok.lt (fun x e => by rw [hh] at e; subst e; simp)
    have hlow := hok.low
    have hok1 : Ok s (r.to (r.pos + 1)) := ⟨hok.bad, by simp only [Rd.to]; omega, by simp only [Rd.to]; omega⟩
    exact una_atom hok hsl (fun op e => by rw [hh] at e; cases e) (by rw [hh]; simp) (atom_par hok hsl hh (ih hok1 (hsl.to (by omega))) (hr.inv hok1))
  | @call r q op hb hh hr ih =>
    intro hok hsl
    have hlow := hok.low
    obtain ⟨g1, g2, g3, g4, g5, g6, hlt⟩ := callS hh
    have hok1 : Ok s (r.to (r.pos + 3)) := ⟨hok.bad, by simp only [Rd.to]; omega, by simp only [Rd.to]; omega⟩
    exact una_atom hok hsl (fun op e => by rw [hh] at e; cases e) (by rw [hh]; simp) (atom_call hok hsl hh (called_op g1 hok hsl hlt (ih hok1 (hsl.to (by omega))) (hr.inv hok1)))
theorem bin_all (s : Str) (hs : s.length ≤ 1048576) : binD s 1 ⟨0, [], -1⟩ (runAll s) :=
  (runAll_run s).does ⟨rfl, Int.le_refl _, by simp [strLen]⟩ ⟨by simp [strLen]; omega, hs⟩
theorem bin_nil (s : Str) (hs : s.length ≤ 1048576) : Does Tryz.prog 78 [.c (.loc 0 0), .i 1] [.cells [.pd (.str s), .i 0, .pd (.v (.slice none 0 0)), .i (-1)] 119] (.tup []) (rd2 s (runAll s)) :=
  Does.nilCell (E := 88) (t := .cell) (k := 2) rfl rfl rfl (bin_all s hs)
noncomputable def nBin1 : Nat × (List SX → List Chunk → Option (Option Prop × SV × List Chunk)) := (78, fun
  | [.c (.loc 0 0), .c (.pd (.int .i64 1))], [.cells [.pd (.str s), .pd (.int .i64 0), .pd (.v (.slice none 0 0)), .pd (.int .i64 (-1))] 119] => some (some (s.length ≤ 1048576), .tup [], [.cells [.pd (.str s), .pd (.int .i64 (runAll s).pos), .own 2, .pd (.int .i64 (runAll s).bad)] 119, .dead, .own 88 .cell (runAll s).out])
  | _, _ => none)
theorem nBin1_ok (vs : List SX) (ck : List Chunk) (p : Option Prop) (ret : SV) (ck' : List Chunk) (h : nBin1.2 vs ck = some (p, ret, ck')) (hp : Holds p) : Does Tryz.prog nBin1.1 vs ck ret ck' := by
  unfold nBin1 at h
  simp only at h
  split at h
  · rename_i s
    simp only [Option.some.injEq, Prod.mk.injEq] at h
    obtain ⟨rfl, rfl, rfl⟩ := h
    exact bin_nil s hp
  · simp at h
noncomputable def cfgPa : Cfg := ⟨tys0, [nBin1, eWrong]⟩
theorem cfgPa_ok : TabOk Tryz.prog cfgPa.tab := (TabOk.cons nBin1_ok (TabOk.cons eWrong_ok TabOk.nil))
def readsE (s : Str) : Prop := (parseE s).2.2 = 0
theorem runAll_pos (s : Str) (h : (runAll s).bad < 0) : 0 ≤ (runAll s).pos ∧ (runAll s).pos ≤ strLen s := by
  rcases (runAll_run s).inv ⟨rfl, Int.le_refl _, by simp [strLen]⟩ with ⟨g1, _⟩ | ⟨_, g2, _⟩
  · exact ⟨g1.low, g1.high⟩
  · omega
def ParQ (s : Str) : Out := fun v ck => (readsE s → v = .tup [.c (.own 0), .i 0, .i 0] ∧ ck = [.own 88 .cell (parseE s).1]) ∧ (¬ readsE s → v = .tup [.c (.pd (.v (.slice none 0 0))), .i (parseE s).2.1, .i (parseE s).2.2] ∧ ck = [])
theorem ParQ.ok {l : List Cell} (h : parseE s = (l, 0, 0)) : ParQ s (.tup [.c (.own 0), .i 0, .i 0]) [.own 88 .cell l] := by
  refine ⟨fun _ => ⟨rfl, by rw [h]⟩, fun hn => absurd ?_ hn⟩
  show (parseE s).2.2 = 0
  rw [h]
theorem ParQ.bad {l : List Cell} {k e : Int} (h : parseE s = (l, k, e)) (he : e ≠ 0) : ParQ s (.tup [.c (.pd (.v (.slice none 0 0))), .i k, .i e]) [] := by
  refine ⟨fun hn => absurd hn ?_, fun _ => ⟨by rw [h], rfl⟩⟩
  show ¬ (parseE s).2.2 = 0
  rw [h]; exact he
theorem parse_walk (s : Str) (Γ : Ctx) : J Tryz.prog 44 (bodyOf Tryz.f44) Γ (ParQ s) [.code []] (initST Tryz.f44.ntmps [.s s] []) := by
  refine J.go (cfg := cfgPa) cfgPa_ok Tryz.func44 1000 (t := (.ite (decide (strLen s > (600 : Int))) (.ret (.tup [.p (.v (Value.slice none 0 0)), .i (0 : Int), .i (4 : Int)]) []) (.need (List.length s ≤ 1048576) (.ite (decide (Rd.bad (runAll s) < (0 : Int)) && decide (Rd.pos (runAll s) < strLen s)) (.ite (decide ((if Rd.bad (runAll s) < (0 : Int) then Rd.pos (runAll s) else Rd.bad (runAll s)) ≥ (0 : Int))) (.ret (.tup [.p (.v (Value.slice none 0 0)), .i (if Rd.bad (runAll s) < (0 : Int) then Rd.pos (runAll s) else Rd.bad (runAll s)), .i (1 : Int)]) []) (.ite (decide ((↑(List.length (Rd.out (runAll s))) : Int) > (32 : Int))) (.ret (.tup [.p (.v (Value.slice none 0 0)), .i (0 : Int), .i (4 : Int)]) []) (.ret (.tup [.c (.own 0), .i (0 : Int), .i (0 : Int)]) [.own 88 .cell (Rd.out (runAll s))]))) (.ite (decide (Rd.bad (runAll s) ≥ (0 : Int))) (.ret (.tup [.p (.v (Value.slice none 0 0)), .i (Rd.bad (runAll s)), .i (1 : Int)]) []) (.ite (decide ((↑(List.length (Rd.out (runAll s))) : Int) > (32 : Int))) (.ret (.tup [.p (.v (Value.slice none 0 0)), .i (0 : Int), .i (4 : Int)]) []) (.ret (.tup [.c (.own 0), .i (0 : Int), .i (0 : Int)]) [.own 88 .cell (Rd.out (runAll s))]))))))) (by kernel_rfl) ?_
  have hL : strLen s = (s.length : Int) := rfl
  refine ⟨fun h => ParQ.bad (l := []) ?_ (by decide), fun hlen => ⟨?_, fun h => ⟨fun h2 => ParQ.bad (l := []) ?_ (by decide), fun h2 => ?_⟩, fun h => ⟨fun h2 => ParQ.bad (l := []) ?_ (by decide), fun h2 => ⟨fun h3 => ParQ.bad (l := []) ?_ (by decide), fun h3 => ParQ.ok ?_⟩⟩⟩⟩
  · unfold parseE; rw [if_pos (of_decide_eq_true h)]
  · have := of_decide_eq_false hlen; omega
  all_goals have hl' : ¬ strLen s > 600 := of_decide_eq_false hlen
  · simp only [Bool.and_eq_true, decide_eq_true_eq] at h
    unfold parseE; rw [if_neg hl', if_neg (by omega), if_pos h.2, if_pos h.1]
  · exfalso
    simp only [Bool.and_eq_true, decide_eq_true_eq] at h
    have := of_decide_eq_false h2
    rw [if_pos h.1] at this
    have := runAll_pos s h.1; omega
  · unfold parseE; rw [if_neg hl', if_pos (of_decide_eq_true h2)]
  all_goals
    have hb : ¬ (runAll s).bad ≥ 0 := of_decide_eq_false h2
    have hp : ¬ (runAll s).pos < strLen s := fun hh => by
      rw [decide_eq_true (by omega), decide_eq_true hh] at h; cases h
  · unfold parseE; rw [if_neg hl', if_neg hb, if_neg hp, if_pos (of_decide_eq_true h3)]
  · unfold parseE; rw [if_neg hl', if_neg hb, if_neg hp, if_neg (of_decide_eq_false h3)]
theorem eparse_ok (s : Str) (h : readsE s) : Does Tryz.prog 44 [.s s] [] (.tup [.c (.own 0), .i 0, .i 0]) [.own 88 .cell (parseE s).1] :=
  Does.of Tryz.func44 (by kernel_rfl) (by kernel_rfl) fun Γ => J.mono (fun _ _ q => q.1 h) (parse_walk s Γ)
theorem eparse_bad (s : Str) (h : ¬ readsE s) : Does Tryz.prog 44 [.s s] [] (.tup [.c (.pd (.v (.slice none 0 0))), .i (parseE s).2.1, .i (parseE s).2.2]) [] :=
  Does.of Tryz.func44 (by kernel_rfl) (by kernel_rfl) fun Γ => J.mono (fun _ _ q => q.2 h) (parse_walk s Γ)
noncomputable def nPar1 : Nat × (List SX → List Chunk → Option (Option Prop × SV × List Chunk)) := (44, fun
  | [.c (.pd (.str s))], [] => some (some (readsE s), .tup [.c (.own 0), .c (.pd (.int .i64 0)), .c (.pd (.int .i64 0))], [.own 88 .cell (parseE s).1])
  | _, _ => none)
theorem nPar1_ok (vs : List SX) (ck : List Chunk) (p : Option Prop) (ret : SV) (ck' : List Chunk) (h : nPar1.2 vs ck = some (p, ret, ck')) (hp : Holds p) : Does Tryz.prog nPar1.1 vs ck ret ck' := by
  unfold nPar1 at h
  simp only at h
  split at h
  · rename_i s
    simp only [Option.some.injEq, Prod.mk.injEq] at h
    obtain ⟨rfl, rfl, rfl⟩ := h
    exact eparse_ok s hp
  · simp at h
noncomputable def nPar0 : Nat × (List SX → List Chunk → Option (Option Prop × SV × List Chunk)) := (44, fun
  | [.c (.pd (.str s))], [] => some (some (¬ readsE s), .tup [.c (.pd (.v (.slice none 0 0))), .c (.pd (.int .i64 (parseE s).2.1)), .c (.pd (.int .i64 (parseE s).2.2))], [])
  | _, _ => none)
theorem nPar0_ok (vs : List SX) (ck : List Chunk) (p : Option Prop) (ret : SV) (ck' : List Chunk) (h : nPar0.2 vs ck = some (p, ret, ck')) (hp : Holds p) : Does Tryz.prog nPar0.1 vs ck ret ck' := by
  unfold nPar0 at h
  simp only at h
  split at h
  · rename_i s
    simp only [Option.some.injEq, Prod.mk.injEq] at h
    obtain ⟨rfl, rfl, rfl⟩ := h
    exact eparse_bad s hp
  · simp at h
end Go.Proofs.YtjndellhebidoaaGreatDoor

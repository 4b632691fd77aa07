/- The contract of the program's expr.Show. Conditions: none. What is read is a tree, whose text is no longer. Conditions: none. -/
import Derived.Test.YtjndellhebidoaaGreatDoorOa
import Derived.Test.YtjndellhebidoaaGreatDoorPX
import Derived.Test.YtjndellhebidoaaGreatDoorMd
namespace Go.Proofs.YtjndellhebidoaaGreatDoor
open Go Go.Ev
set_option maxRecDepth 100000
def cfgLf : Cfg := ⟨tys0, [eDg]⟩
theorem cfgLf_ok : TabOk Tryz.prog cfgLf.tab := (TabOk.cons eDg_ok TabOk.nil)
theorem leaf_spec (op a : Int) (nm : Str) (h0 : -9223372036854775808 ≤ a) (h1 : a ≤ 9223372036854775807) (hn : nm.length ≤ 1000000) : Does Tryz.prog 64 [.agg [.pd (.int .i64 op), .pd (.int .i64 a), .pd (.str nm)]] [] (.x (.s (leafS ⟨op, a, nm⟩))) [] := by
  refine Does.go (cfg := cfgLf) cfgLf_ok Tryz.func64 (by kernel_rfl) (by kernel_rfl) (t := (.ite (op == (1 : Int)) (.need ((-9223372036854775808 : Int) ≤ a ∧ a ≤ (9223372036854775807 : Int)) (.ret (.p (.str (Lib.itoa a))) [])) (.ite (op == (2 : Int)) (.need ((-9223372036854775808 : Int) ≤ a ∧ a ≤ (9223372036854775807 : Int)) (.need (List.length (Lib.itoa a) + 1 ≤ 9223372036854775807) (.ret (.p (.str (Lib.itoa a ++ [(105 : UInt8)]))) []))) (.ite (op == (3 : Int)) (.ret (.p (.str [(116 : UInt8), 114, 117, 101])) []) (.ite (op == (4 : Int)) (.ret (.p (.str [(102 : UInt8), 97, 108, 115, 101])) []) (.ite (op == (6 : Int)) (.need (3 + List.length nm ≤ 9223372036854775807) (.need (List.length ([(105 : UInt8), 110, 40] ++ nm) + 1 ≤ 9223372036854775807) (.ret (.p (.str ([(105 : UInt8), 110, 40] ++ nm ++ [(41 : UInt8)]))) []))) (.ret (.p (.str nm)) []))))))) (by kernel_rfl) fun Γ => ?_
  have hl := itoa_len a h0 h1
  unfold leafS
  refine ⟨fun h => ⟨⟨h0, h1⟩, ?_⟩, fun e1 => ⟨fun h => ⟨⟨h0, h1⟩, by omega, ?_⟩, fun e2 => ⟨fun h => ?_, fun e3 => ⟨fun h => ?_, fun e4 => ⟨fun h => ⟨by omega, ?_, ?_⟩, fun e6 => ?_⟩⟩⟩⟩⟩
  all_goals first | (simp only [List.length_append, List.length_cons, List.length_nil]; omega) | (simp only [*, cond_true, cond_false]; exact ⟨rfl, rfl⟩)
def eLeaf : Nat × (List SX → List Chunk → Option (Option Prop × SV × List Chunk)) := (64, fun
  | [.agg [.pd (.int .i64 op), .pd (.int .i64 a), .pd (.str nm)]], [] => some (some (-9223372036854775808 ≤ a ∧ a ≤ 9223372036854775807 ∧ nm.length ≤ 1000000), .x (.c (.pd (.str (leafS ⟨op, a, nm⟩)))), [])
  | _, _ => none)
theorem eLeaf_ok (vs : List SX) (ck : List Chunk) (p : Option Prop) (ret : SV) (ck' : List Chunk) (h : eLeaf.2 vs ck = some (p, ret, ck')) (hp : Holds p) : Does Tryz.prog eLeaf.1 vs ck ret ck' := by
  unfold eLeaf at h
  simp only at h
  split at h
  · rename_i op a nm
    simp only [Option.some.injEq, Prod.mk.injEq] at h
    obtain ⟨rfl, rfl, rfl⟩ := h
    exact leaf_spec op a nm hp.1 hp.2.1 hp.2.2
  · simp at h
theorem tin_spec (b : Str) (p least : Int) (hb : b.length ≤ 1000000) : Does Tryz.prog 65 [.agg [.pd (.str b), .pd (.int .i64 p)], .i least] [] (.x (.s (parenS p b least))) [] := by
  refine Does.go (cfg := cfg0) cfg0_ok Tryz.func65 (by kernel_rfl) (by kernel_rfl) (t := (.ite (decide (p < least)) (.need (1 + List.length b ≤ 9223372036854775807) (.need (List.length ([(40 : UInt8)] ++ b) + 1 ≤ 9223372036854775807) (.ret (.p (.str ([(40 : UInt8)] ++ b ++ [(41 : UInt8)]))) []))) (.ret (.p (.str b)) []))) (by kernel_rfl) fun Γ => ?_
  unfold parenS
  refine ⟨fun h => ⟨by omega, ?_, ?_⟩, fun h => ?_⟩
  all_goals first | (simp only [List.length_append, List.length_cons, List.length_nil]; omega) | (simp only [h, cond_true, cond_false]; exact ⟨rfl, rfl⟩)
def eTin : Nat × (List SX → List Chunk → Option (Option Prop × SV × List Chunk)) := (65, fun
  | [.agg [.pd (.str b), .pd (.int .i64 p)], .c (.pd (.int .i64 least))], [] => some (some (b.length ≤ 1000000), .x (.c (.pd (.str (parenS p b least)))), [])
  | _, _ => none)
theorem eTin_ok (vs : List SX) (ck : List Chunk) (p : Option Prop) (ret : SV) (ck' : List Chunk) (h : eTin.2 vs ck = some (p, ret, ck')) (hp : Holds p) : Does Tryz.prog eTin.1 vs ck ret ck' := by
  unfold eTin at h
  simp only at h
  split at h
  · rename_i b p least
    simp only [Option.some.injEq, Prod.mk.injEq] at h
    obtain ⟨rfl, rfl, rfl⟩ := h
    exact tin_spec b p least hp
  · simp at h
def cfgShw : Cfg := ⟨tys0, [eRight, eSign, eWants, eLeaf, eTin]⟩
theorem cfgShw_ok : TabOk Tryz.prog cfgShw.tab := (TabOk.cons eRight_ok (TabOk.cons eSign_ok (TabOk.cons eWants_ok (TabOk.cons eLeaf_ok (TabOk.cons eTin_ok TabOk.nil)))))

/-! ### plain -/
def showStep (c : Cell) (st : List Piece) : List Piece :=
  if wantsC c = 0 then ⟨leafS c, 7⟩ :: st
  else if wantsC c = 1 then (match st with
    | p :: r => ⟨unS c.op p.s p.power, (signM c.op).2⟩ :: r
    | [] => [])
  else (match st with
    | q :: p :: r => ⟨binS c.op p.s p.power q.s q.power, (signM c.op).2⟩ :: r
    | _ => [])
def showGo : List Cell → List Piece → Str
  | [], p :: _ => p.s
  | [], [] => []
  | c :: r, st => showGo r (showStep c st)
def showM (l : List Cell) : Str := showGo l []
def sumL : List Piece → Nat
  | [] => 0
  | p :: r => p.s.length + sumL r
theorem show_flat (rest : List Cell) : ∀ (t : Tm), t.ok → ∀ st : List Piece, showGo (t.flat ++ rest) st = showGo rest (⟨t.body, t.pow⟩ :: st)
  | .leaf c, h, st => by
    have hw : wantsC c = 0 := h
    have hp : (Tm.leaf c).pow = 7 := by
      rcases leaf_cell hw with ⟨a, rfl, _⟩ | ⟨a, rfl, _⟩ | rfl | rfl | ⟨n, rfl, _⟩ | ⟨n, rfl, _⟩ <;> rfl
    rw [hp]
    show showGo rest (showStep c st) = _
    unfold showStep; rw [if_pos hw]; rfl
  | .un c t, ⟨hw, ht⟩, st => by
    rw [Tm.flat, List.append_assoc, show_flat _ t ht]
    show showGo rest (showStep c _) = _
    unfold showStep; rw [if_neg (by omega), if_pos hw]; rfl
  | .bin c t u, ⟨hw, ht, hu⟩, st => by
    rw [Tm.flat, List.append_assoc, List.append_assoc, show_flat _ t ht, show_flat _ u hu]
    show showGo rest (showStep c _) = _
    unfold showStep; rw [if_neg (by omega), if_neg (by omega)]; rfl
theorem show_tree {t : Tm} (h : t.ok) : showM t.flat = t.body := by
  have := show_flat [] t h []
  rw [List.append_nil] at this
  exact this
/-! ### the walk -/
def ShJ (Γ : Ctx) (Q : Out) (l : List Cell) (k : Int) (ps : List Piece) : Prop := J Tryz.prog 35 (bodyOf Tryz.f35) Γ Q [.code [1, 1, 1, 0, 1, 0, 0], .inLoop [1, 1, 1, 0, 1, 0, 0], .inBlock 0, .code [1, 1, 1, 1]] ({ n := 107, fr := [(2, .p (.str [])), (3, .i (0 : Int)), (4, .x (.c (.own 0))), (15, .p (.lst .cell l)), (16, .i (↑(List.length l) : Int)), (17, .i (k))], ck := [.own 102 .piece ps] })
theorem leaf_bounds {c : Cell} (h : wantsC c = 0) : -9223372036854775808 ≤ c.a ∧ c.a ≤ 9223372036854775807 ∧ c.name.length ≤ 1000000 := by
  rcases leaf_cell h with ⟨a, rfl, h0, h1⟩ | ⟨a, rfl, h0, h1⟩ | rfl | rfl | ⟨n, rfl, hn⟩ | ⟨n, rfl, hn⟩
  · exact ⟨by show _ ≤ a; omega, by show a ≤ _; omega, Nat.zero_le _⟩
  · exact ⟨by show _ ≤ a; omega, by show a ≤ _; omega, Nat.zero_le _⟩
  · decide
  · decide
  · have := (nameM_word hn).2.2.2.2.2.2.2
    simp only [strLen] at this
    exact ⟨by show _ ≤ (0 : Int); omega, by show (0 : Int) ≤ _; omega, by show n.length ≤ _; omega⟩
  · have := (nameM_word hn).2.2.2.2.2.2.2
    simp only [strLen] at this
    exact ⟨by show _ ≤ (0 : Int); omega, by show (0 : Int) ≤ _; omega, by show n.length ≤ _; omega⟩
theorem un_len (op : Int) (b : Str) (p : Int) : (unS op b p).length ≤ b.length + 4 := by
  have hs := sign_len op
  have hp := paren_len p b 6
  unfold unS
  simp only [cond_eq_ite]
  repeat' split
  all_goals (simp only [List.length_append, List.length_cons, List.length_nil]; omega)
theorem bin_len (op : Int) (b : Str) (p : Int) (d : Str) (q : Int) : (binS op b p d q).length ≤ b.length + d.length + 6 := by
  have hs := sign_len op
  have hp := paren_len p b (leftP (signM op).2)
  have hp2 := paren_len q d ((signM op).2 + 1)
  unfold binS
  simp only [List.length_append]; omega
theorem room_piece {n : Nat} (h : n ≤ 1000) : room n 24 := by unfold room maxLen; omega
theorem sign_all (op : Int) : 1 ≤ (signM op).2 ∧ (signM op).2 ≤ 7 := by
  have h2 : ∀ (b : Bool) (x y : Str × Int), (1 ≤ x.2 ∧ x.2 ≤ 7) → (1 ≤ y.2 ∧ y.2 ≤ 7) → (1 ≤ (bif b then x else y).2 ∧ (bif b then x else y).2 ≤ 7) := by intro b x y hx hy; cases b <;> assumption
  unfold signM
  repeat' (first | exact (by decide) | refine h2 _ _ _ ?_ ?_)
theorem show_loop (l : List Cell) (Γ : Ctx) (hl : l.length ≤ 32) : ∀ (n k : Nat) (st : List Piece), l.length - k ≤ n → k ≤ l.length → st.length ≤ k → sumL st ≤ 16 * k → rightGo (l.drop k) st.length = true →
    ShJ Γ (Eq2 (.tup [.s (showGo (l.drop k) st), .i 0]) []) l k st.reverse := by
  intro n
  induction n with
  | zero => ?_
  | succ n ih => ?_
  all_goals
    intro k st hn hk hst hsum hright
    generalize hps : st.reverse = ps
    refine J.go (cfg := cfgShw) cfgShw_ok Tryz.func35 1000 (t := (.ite (decide ((↑k : Int) < (↑(List.length l) : Int))) (.need ((0 : Int) ≤ (↑k : Int) ∧ (↑k : Int) < (↑(List.length l) : Int)) (.ite (wantsM (Cell.op (ETy.get .cell l k)) (Cell.a (ETy.get .cell l k)) (Cell.name (ETy.get .cell l k)) == (0 : Int)) (.need ((-9223372036854775808 : Int) ≤ Cell.a (ETy.get .cell l k) ∧ Cell.a (ETy.get .cell l k) ≤ (9223372036854775807 : Int) ∧ List.length (Cell.name (ETy.get .cell l k)) ≤ 1000000) (.need (room (List.length (ps ++ [{ s := leafS { op := Cell.op (ETy.get .cell l k), a := Cell.a (ETy.get .cell l k), name := Cell.name (ETy.get .cell l k) }, power := (7 : Int) }])) 24) (.stop [.code [1, 1, 1, 0, 1, 0, 0], .inLoop [1, 1, 1, 0, 1, 0, 0], .inBlock 0, .code [1, 1, 1, 1]] { n := 107, fr := [(2, .p (.str [])), (3, .i (0 : Int)), (4, .x (.c (.own 0))), (15, .p (.lst .cell l)), (16, .i (↑(List.length l) : Int)), (17, .i (IntKind.wrap .i64 ((↑k : Int) + (1 : Int))))], ck := [.own 102 .piece (ps ++ [{ s := leafS { op := Cell.op (ETy.get .cell l k), a := Cell.a (ETy.get .cell l k), name := Cell.name (ETy.get .cell l k) }, power := (7 : Int) }])] }))) (.ite (wantsM (Cell.op (ETy.get .cell l k)) (Cell.a (ETy.get .cell l k)) (Cell.name (ETy.get .cell l k)) == (1 : Int)) (.need ((0 : Int) ≤ IntKind.wrap .i64 ((↑(List.length ps) : Int) - (1 : Int)) ∧ IntKind.wrap .i64 ((↑(List.length ps) : Int) - (1 : Int)) < (↑(List.length ps) : Int)) (.need (Int.toNat (IntKind.wrap .i64 ((↑(List.length ps) : Int) - (1 : Int))) < List.length ps) (.ite (Cell.op (ETy.get .cell l k) == (9 : Int)) (.need (3 + List.length (Piece.s (ETy.get .piece ps (Int.toNat (IntKind.wrap .i64 ((↑(List.length ps) : Int) - (1 : Int)))))) ≤ 9223372036854775807) (.need (List.length ([(114 : UInt8), 101, 40] ++ Piece.s (ETy.get .piece ps (Int.toNat (IntKind.wrap .i64 ((↑(List.length ps) : Int) - (1 : Int)))))) + 1 ≤ 9223372036854775807) (.need ((0 : Int) ≤ IntKind.wrap .i64 ((↑(List.length ps) : Int) - (1 : Int)) ∧ IntKind.wrap .i64 ((↑(List.length ps) : Int) - (1 : Int)) < (↑(List.length ps) : Int)) (.need (Int.toNat (IntKind.wrap .i64 ((↑(List.length ps) : Int) - (1 : Int))) < List.length ps) (.stop [.code [1, 1, 1, 0, 1, 0, 0], .inLoop [1, 1, 1, 0, 1, 0, 0], .inBlock 0, .code [1, 1, 1, 1]] { n := 107, fr := [(2, .p (.str [])), (3, .i (0 : Int)), (4, .x (.c (.own 0))), (15, .p (.lst .cell l)), (16, .i (↑(List.length l) : Int)), (17, .i (IntKind.wrap .i64 ((↑k : Int) + (1 : Int))))], ck := [.own 102 .piece (List.set ps (Int.toNat (IntKind.wrap .i64 ((↑(List.length ps) : Int) - (1 : Int)))) { s := [(114 : UInt8), 101, 40] ++ Piece.s (ETy.get .piece ps (Int.toNat (IntKind.wrap .i64 ((↑(List.length ps) : Int) - (1 : Int))))) ++ [(41 : UInt8)], power := Prod.snd (signM (Cell.op (ETy.get .cell l k))) })] }))))) (.ite (Cell.op (ETy.get .cell l k) == (10 : Int)) (.need (3 + List.length (Piece.s (ETy.get .piece ps (Int.toNat (IntKind.wrap .i64 ((↑(List.length ps) : Int) - (1 : Int)))))) ≤ 9223372036854775807) (.need (List.length ([(105 : UInt8), 109, 40] ++ Piece.s (ETy.get .piece ps (Int.toNat (IntKind.wrap .i64 ((↑(List.length ps) : Int) - (1 : Int)))))) + 1 ≤ 9223372036854775807) (.need ((0 : Int) ≤ IntKind.wrap .i64 ((↑(List.length ps) : Int) - (1 : Int)) ∧ IntKind.wrap .i64 ((↑(List.length ps) : Int) - (1 : Int)) < (↑(List.length ps) : Int)) (.need (Int.toNat (IntKind.wrap .i64 ((↑(List.length ps) : Int) - (1 : Int))) < List.length ps) (.stop [.code [1, 1, 1, 0, 1, 0, 0], .inLoop [1, 1, 1, 0, 1, 0, 0], .inBlock 0, .code [1, 1, 1, 1]] { n := 107, fr := [(2, .p (.str [])), (3, .i (0 : Int)), (4, .x (.c (.own 0))), (15, .p (.lst .cell l)), (16, .i (↑(List.length l) : Int)), (17, .i (IntKind.wrap .i64 ((↑k : Int) + (1 : Int))))], ck := [.own 102 .piece (List.set ps (Int.toNat (IntKind.wrap .i64 ((↑(List.length ps) : Int) - (1 : Int)))) { s := [(105 : UInt8), 109, 40] ++ Piece.s (ETy.get .piece ps (Int.toNat (IntKind.wrap .i64 ((↑(List.length ps) : Int) - (1 : Int))))) ++ [(41 : UInt8)], power := Prod.snd (signM (Cell.op (ETy.get .cell l k))) })] }))))) (.need (List.length (Piece.s (ETy.get .piece ps (Int.toNat (IntKind.wrap .i64 ((↑(List.length ps) : Int) - (1 : Int)))))) ≤ 1000000) (.need (List.length (Prod.fst (signM (Cell.op (ETy.get .cell l k)))) + List.length (parenS (Piece.power (ETy.get .piece ps (Int.toNat (IntKind.wrap .i64 ((↑(List.length ps) : Int) - (1 : Int)))))) (Piece.s (ETy.get .piece ps (Int.toNat (IntKind.wrap .i64 ((↑(List.length ps) : Int) - (1 : Int)))))) (6 : Int)) ≤ 9223372036854775807) (.need ((0 : Int) ≤ IntKind.wrap .i64 ((↑(List.length ps) : Int) - (1 : Int)) ∧ IntKind.wrap .i64 ((↑(List.length ps) : Int) - (1 : Int)) < (↑(List.length ps) : Int)) (.need (Int.toNat (IntKind.wrap .i64 ((↑(List.length ps) : Int) - (1 : Int))) < List.length ps) (.stop [.code [1, 1, 1, 0, 1, 0, 0], .inLoop [1, 1, 1, 0, 1, 0, 0], .inBlock 0, .code [1, 1, 1, 1]] { n := 107, fr := [(2, .p (.str [])), (3, .i (0 : Int)), (4, .x (.c (.own 0))), (15, .p (.lst .cell l)), (16, .i (↑(List.length l) : Int)), (17, .i (IntKind.wrap .i64 ((↑k : Int) + (1 : Int))))], ck := [.own 102 .piece (List.set ps (Int.toNat (IntKind.wrap .i64 ((↑(List.length ps) : Int) - (1 : Int)))) { s := Prod.fst (signM (Cell.op (ETy.get .cell l k))) ++ parenS (Piece.power (ETy.get .piece ps (Int.toNat (IntKind.wrap .i64 ((↑(List.length ps) : Int) - (1 : Int)))))) (Piece.s (ETy.get .piece ps (Int.toNat (IntKind.wrap .i64 ((↑(List.length ps) : Int) - (1 : Int)))))) (6 : Int), power := Prod.snd (signM (Cell.op (ETy.get .cell l k))) })] }))))))))) (.ite (Prod.snd (signM (Cell.op (ETy.get .cell l k))) == (3 : Int)) (.need ((0 : Int) ≤ IntKind.wrap .i64 ((↑(List.length ps) : Int) - (2 : Int)) ∧ IntKind.wrap .i64 ((↑(List.length ps) : Int) - (2 : Int)) < (↑(List.length ps) : Int)) (.need (Int.toNat (IntKind.wrap .i64 ((↑(List.length ps) : Int) - (2 : Int))) < List.length ps) (.need (List.length (Piece.s (ETy.get .piece ps (Int.toNat (IntKind.wrap .i64 ((↑(List.length ps) : Int) - (2 : Int)))))) ≤ 1000000) (.need (List.length (parenS (Piece.power (ETy.get .piece ps (Int.toNat (IntKind.wrap .i64 ((↑(List.length ps) : Int) - (2 : Int)))))) (Piece.s (ETy.get .piece ps (Int.toNat (IntKind.wrap .i64 ((↑(List.length ps) : Int) - (2 : Int)))))) (4 : Int)) + List.length (Prod.fst (signM (Cell.op (ETy.get .cell l k)))) ≤ 9223372036854775807) (.need ((0 : Int) ≤ IntKind.wrap .i64 ((↑(List.length ps) : Int) - (1 : Int)) ∧ IntKind.wrap .i64 ((↑(List.length ps) : Int) - (1 : Int)) < (↑(List.length ps) : Int)) (.need (Int.toNat (IntKind.wrap .i64 ((↑(List.length ps) : Int) - (1 : Int))) < List.length ps) (.need (List.length (Piece.s (ETy.get .piece ps (Int.toNat (IntKind.wrap .i64 ((↑(List.length ps) : Int) - (1 : Int)))))) ≤ 1000000) (.need (List.length (parenS (Piece.power (ETy.get .piece ps (Int.toNat (IntKind.wrap .i64 ((↑(List.length ps) : Int) - (2 : Int)))))) (Piece.s (ETy.get .piece ps (Int.toNat (IntKind.wrap .i64 ((↑(List.length ps) : Int) - (2 : Int)))))) (4 : Int) ++ Prod.fst (signM (Cell.op (ETy.get .cell l k)))) + List.length (parenS (Piece.power (ETy.get .piece ps (Int.toNat (IntKind.wrap .i64 ((↑(List.length ps) : Int) - (1 : Int)))))) (Piece.s (ETy.get .piece ps (Int.toNat (IntKind.wrap .i64 ((↑(List.length ps) : Int) - (1 : Int)))))) (IntKind.wrap .i64 (Prod.snd (signM (Cell.op (ETy.get .cell l k))) + (1 : Int)))) ≤ 9223372036854775807) (.need ((0 : Int) ≤ IntKind.wrap .i64 ((↑(List.length ps) : Int) - (2 : Int)) ∧ IntKind.wrap .i64 ((↑(List.length ps) : Int) - (2 : Int)) < (↑(List.length ps) : Int)) (.need (Int.toNat (IntKind.wrap .i64 ((↑(List.length ps) : Int) - (2 : Int))) < List.length ps) (.need ((0 : Int) ≤ IntKind.wrap .i64 ((↑(List.length ps) : Int) - (1 : Int)) ∧ IntKind.wrap .i64 ((↑(List.length ps) : Int) - (1 : Int)) ≤ (↑(List.length (List.set ps (Int.toNat (IntKind.wrap .i64 ((↑(List.length ps) : Int) - (2 : Int)))) { s := parenS (Piece.power (ETy.get .piece ps (Int.toNat (IntKind.wrap .i64 ((↑(List.length ps) : Int) - (2 : Int)))))) (Piece.s (ETy.get .piece ps (Int.toNat (IntKind.wrap .i64 ((↑(List.length ps) : Int) - (2 : Int)))))) (4 : Int) ++ Prod.fst (signM (Cell.op (ETy.get .cell l k))) ++ parenS (Piece.power (ETy.get .piece ps (Int.toNat (IntKind.wrap .i64 ((↑(List.length ps) : Int) - (1 : Int)))))) (Piece.s (ETy.get .piece ps (Int.toNat (IntKind.wrap .i64 ((↑(List.length ps) : Int) - (1 : Int)))))) (IntKind.wrap .i64 (Prod.snd (signM (Cell.op (ETy.get .cell l k))) + (1 : Int))), power := Prod.snd (signM (Cell.op (ETy.get .cell l k))) })) : Int)) (.stop [.code [1, 1, 1, 0, 1, 0, 0], .inLoop [1, 1, 1, 0, 1, 0, 0], .inBlock 0, .code [1, 1, 1, 1]] { n := 107, fr := [(2, .p (.str [])), (3, .i (0 : Int)), (4, .x (.c (.own 0))), (15, .p (.lst .cell l)), (16, .i (↑(List.length l) : Int)), (17, .i (IntKind.wrap .i64 ((↑k : Int) + (1 : Int))))], ck := [.own 102 .piece (List.take (Int.toNat (IntKind.wrap .i64 ((↑(List.length ps) : Int) - (1 : Int)))) (List.set ps (Int.toNat (IntKind.wrap .i64 ((↑(List.length ps) : Int) - (2 : Int)))) { s := parenS (Piece.power (ETy.get .piece ps (Int.toNat (IntKind.wrap .i64 ((↑(List.length ps) : Int) - (2 : Int)))))) (Piece.s (ETy.get .piece ps (Int.toNat (IntKind.wrap .i64 ((↑(List.length ps) : Int) - (2 : Int)))))) (4 : Int) ++ Prod.fst (signM (Cell.op (ETy.get .cell l k))) ++ parenS (Piece.power (ETy.get .piece ps (Int.toNat (IntKind.wrap .i64 ((↑(List.length ps) : Int) - (1 : Int)))))) (Piece.s (ETy.get .piece ps (Int.toNat (IntKind.wrap .i64 ((↑(List.length ps) : Int) - (1 : Int)))))) (IntKind.wrap .i64 (Prod.snd (signM (Cell.op (ETy.get .cell l k))) + (1 : Int))), power := Prod.snd (signM (Cell.op (ETy.get .cell l k))) }))] })))))))))))) (.need ((0 : Int) ≤ IntKind.wrap .i64 ((↑(List.length ps) : Int) - (2 : Int)) ∧ IntKind.wrap .i64 ((↑(List.length ps) : Int) - (2 : Int)) < (↑(List.length ps) : Int)) (.need (Int.toNat (IntKind.wrap .i64 ((↑(List.length ps) : Int) - (2 : Int))) < List.length ps) (.need (List.length (Piece.s (ETy.get .piece ps (Int.toNat (IntKind.wrap .i64 ((↑(List.length ps) : Int) - (2 : Int)))))) ≤ 1000000) (.need (List.length (parenS (Piece.power (ETy.get .piece ps (Int.toNat (IntKind.wrap .i64 ((↑(List.length ps) : Int) - (2 : Int)))))) (Piece.s (ETy.get .piece ps (Int.toNat (IntKind.wrap .i64 ((↑(List.length ps) : Int) - (2 : Int)))))) (Prod.snd (signM (Cell.op (ETy.get .cell l k))))) + List.length (Prod.fst (signM (Cell.op (ETy.get .cell l k)))) ≤ 9223372036854775807) (.need ((0 : Int) ≤ IntKind.wrap .i64 ((↑(List.length ps) : Int) - (1 : Int)) ∧ IntKind.wrap .i64 ((↑(List.length ps) : Int) - (1 : Int)) < (↑(List.length ps) : Int)) (.need (Int.toNat (IntKind.wrap .i64 ((↑(List.length ps) : Int) - (1 : Int))) < List.length ps) (.need (List.length (Piece.s (ETy.get .piece ps (Int.toNat (IntKind.wrap .i64 ((↑(List.length ps) : Int) - (1 : Int)))))) ≤ 1000000) (.need (List.length (parenS (Piece.power (ETy.get .piece ps (Int.toNat (IntKind.wrap .i64 ((↑(List.length ps) : Int) - (2 : Int)))))) (Piece.s (ETy.get .piece ps (Int.toNat (IntKind.wrap .i64 ((↑(List.length ps) : Int) - (2 : Int)))))) (Prod.snd (signM (Cell.op (ETy.get .cell l k)))) ++ Prod.fst (signM (Cell.op (ETy.get .cell l k)))) + List.length (parenS (Piece.power (ETy.get .piece ps (Int.toNat (IntKind.wrap .i64 ((↑(List.length ps) : Int) - (1 : Int)))))) (Piece.s (ETy.get .piece ps (Int.toNat (IntKind.wrap .i64 ((↑(List.length ps) : Int) - (1 : Int)))))) (IntKind.wrap .i64 (Prod.snd (signM (Cell.op (ETy.get .cell l k))) + (1 : Int)))) ≤ 9223372036854775807) (.need ((0 : Int) ≤ IntKind.wrap .i64 ((↑(List.length ps) : Int) - (2 : Int)) ∧ IntKind.wrap .i64 ((↑(List.length ps) : Int) - (2 : Int)) < (↑(List.length ps) : Int)) (.need (Int.toNat (IntKind.wrap .i64 ((↑(List.length ps) : Int) - (2 : Int))) < List.length ps) (.need ((0 : Int) ≤ IntKind.wrap .i64 ((↑(List.length ps) : Int) - (1 : Int)) ∧ IntKind.wrap .i64 ((↑(List.length ps) : Int) - (1 : Int)) ≤ (↑(List.length (List.set ps (Int.toNat (IntKind.wrap .i64 ((↑(List.length ps) : Int) - (2 : Int)))) { s := parenS (Piece.power (ETy.get .piece ps (Int.toNat (IntKind.wrap .i64 ((↑(List.length ps) : Int) - (2 : Int)))))) (Piece.s (ETy.get .piece ps (Int.toNat (IntKind.wrap .i64 ((↑(List.length ps) : Int) - (2 : Int)))))) (Prod.snd (signM (Cell.op (ETy.get .cell l k)))) ++ Prod.fst (signM (Cell.op (ETy.get .cell l k))) ++ parenS (Piece.power (ETy.get .piece ps (Int.toNat (IntKind.wrap .i64 ((↑(List.length ps) : Int) - (1 : Int)))))) (Piece.s (ETy.get .piece ps (Int.toNat (IntKind.wrap .i64 ((↑(List.length ps) : Int) - (1 : Int)))))) (IntKind.wrap .i64 (Prod.snd (signM (Cell.op (ETy.get .cell l k))) + (1 : Int))), power := Prod.snd (signM (Cell.op (ETy.get .cell l k))) })) : Int)) (.stop [.code [1, 1, 1, 0, 1, 0, 0], .inLoop [1, 1, 1, 0, 1, 0, 0], .inBlock 0, .code [1, 1, 1, 1]] { n := 107, fr := [(2, .p (.str [])), (3, .i (0 : Int)), (4, .x (.c (.own 0))), (15, .p (.lst .cell l)), (16, .i (↑(List.length l) : Int)), (17, .i (IntKind.wrap .i64 ((↑k : Int) + (1 : Int))))], ck := [.own 102 .piece (List.take (Int.toNat (IntKind.wrap .i64 ((↑(List.length ps) : Int) - (1 : Int)))) (List.set ps (Int.toNat (IntKind.wrap .i64 ((↑(List.length ps) : Int) - (2 : Int)))) { s := parenS (Piece.power (ETy.get .piece ps (Int.toNat (IntKind.wrap .i64 ((↑(List.length ps) : Int) - (2 : Int)))))) (Piece.s (ETy.get .piece ps (Int.toNat (IntKind.wrap .i64 ((↑(List.length ps) : Int) - (2 : Int)))))) (Prod.snd (signM (Cell.op (ETy.get .cell l k)))) ++ Prod.fst (signM (Cell.op (ETy.get .cell l k))) ++ parenS (Piece.power (ETy.get .piece ps (Int.toNat (IntKind.wrap .i64 ((↑(List.length ps) : Int) - (1 : Int)))))) (Piece.s (ETy.get .piece ps (Int.toNat (IntKind.wrap .i64 ((↑(List.length ps) : Int) - (1 : Int)))))) (IntKind.wrap .i64 (Prod.snd (signM (Cell.op (ETy.get .cell l k))) + (1 : Int))), power := Prod.snd (signM (Cell.op (ETy.get .cell l k))) }))] })))))))))))))))) (.need ((0 : Int) ≤ (0 : Int) ∧ (0 : Int) < (↑(List.length ps) : Int)) (.need (0 < List.length ps) (.ret (.tup [.p (.str (Piece.s (ETy.get .piece ps 0))), .i (0 : Int)]) []))))) (by kernel_rfl) ?_
    subst hps
    have next : ∀ (st' : List Piece) (c : Cell), ((st'.length : Int) = st.length + (1 - wantsC c)) → 0 ≤ wantsC c → k < l.length → sumL st' ≤ 16 * k + 16 → rightGo (l.drop (k + 1)) (st.length + (1 - wantsC c)) = true →
        ShJ Γ (Eq2 (.tup [.s (showGo (l.drop (k + 1)) st'), .i 0]) []) l (IntKind.wrap .i64 ((k : Int) + 1)) st'.reverse := by
      intro st' c h1 h2 h3 h4 h5
      rw [wrapK (by omega)]
      first
      | (exfalso; omega)
      | exact ih (k + 1) st' (by omega) (by omega) (by omega) (by omega) (by rw [← h1] at h5; exact h5)
    refine ⟨fun hlt => ?_, fun hge => ?_⟩
    · have hk' : k < l.length := by have := of_decide_eq_true hlt; omega
      rw [drop_get (t := .cell) hk'] at hright ⊢
      refine ⟨by omega, ?_⟩
      generalize ETy.get .cell l k = c at hright ⊢
      have hw : (decide (wantsC c < 0) || decide (wantsC c > (st.length : Int))) = false := by
        simp only [rightGo] at hright
        cases hb : (decide (wantsC c < 0) || decide (wantsC c > (st.length : Int)))
        · rfl
        · rw [hb] at hright; simp at hright
      have hrest : rightGo (l.drop (k + 1)) (st.length + (1 - wantsC c)) = true := by
        simp only [rightGo, hw, cond_false] at hright; exact hright
      have hw2 : 0 ≤ wantsC c ∧ wantsC c ≤ st.length := by
        simp only [Bool.or_eq_false_iff, decide_eq_false_iff_not] at hw; omega
      have hgo : showGo (c :: l.drop (k + 1)) st = showGo (l.drop (k + 1)) (showStep c st) := rfl
      rw [hgo]
      refine ⟨fun h0 => ?_, fun h0 => ⟨fun h1 => ?_, fun h1 => ?_⟩⟩
      · have hw0 : wantsC c = 0 := eq_of_beq h0
        have es : showStep c st = ⟨leafS c, 7⟩ :: st := by unfold showStep; rw [if_pos hw0]
        rw [es]
        have hll := leaf_len hw0
        refine ⟨leaf_bounds hw0, room_piece (by simp only [List.length_append, List.length_reverse, List.length_cons, List.length_nil]; omega), ?_⟩
        have := next (⟨leafS c, 7⟩ :: st) c (by simp only [List.length_cons]; omega) (by omega) hk' (by simp only [sumL]; omega) hrest
        rw [List.reverse_cons] at this
        exact this
      · have hw1 : wantsC c = 1 := eq_of_beq h1
        cases st with
        | nil => simp only [List.length_nil] at hw2; omega
        | cons t r =>
          have es : showStep c (t :: r) = ⟨unS c.op t.s t.power, (signM c.op).2⟩ :: r := by unfold showStep; rw [if_neg (by omega), if_pos hw1]
          rw [es]
          have hrl : ((t :: r).reverse).length = r.length + 1 := by simp
          have w1 : IntKind.wrap .i64 ((((t :: r).reverse).length : Int) - 1) = (r.length : Int) := by
            simp only [List.length_cons] at hst
            rw [hrl, wrapI (by omega) (by omega)]; omega
          have hg : ETy.get .piece ((t :: r).reverse) r.length = t := by
            refine ETy.get_eq (t := .piece) ?_
            rw [List.reverse_cons, List.getElem?_append_right (by simp)]; simp
          have hs : ∀ x, ((t :: r).reverse).set r.length x = r.reverse ++ [x] := by
            intro x
            rw [List.reverse_cons, List.set_append_right _ _ (by simp)]; simp
          have hb : (0 : Int) ≤ (r.length : Int) ∧ (r.length : Int) < (((t :: r).reverse).length : Int) := by rw [hrl]; omega
          have hb2 : r.length < ((t :: r).reverse).length := by rw [hrl]; omega
          have hul := un_len c.op t.s t.power
          have hsl := sign_len c.op
          have hpl := paren_len t.power t.s 6
          simp only [sumL] at hsum
          have nx := next (⟨unS c.op t.s t.power, (signM c.op).2⟩ :: r) c (by simp only [List.length_cons]; omega) (by omega) hk' (by simp only [sumL]; omega) hrest
          rw [List.reverse_cons] at nx
          rw [w1, Int.toNat_natCast, hg]
          simp only [hs]
          refine ⟨hb, hb2, fun h9 => ⟨by omega, by simp only [List.length_append, List.length_cons, List.length_nil]; omega, hb, hb2, ?_⟩, fun h9 => ⟨fun h10 => ⟨by omega, by simp only [List.length_append, List.length_cons, List.length_nil]; omega, hb, hb2, ?_⟩, fun h10 => ⟨by omega, by omega, hb, hb2, ?_⟩⟩⟩
          · have e : unS c.op t.s t.power = [114, 101, 40] ++ t.s ++ [41] := by unfold unS; rw [h9]; rfl
            rw [e] at nx ⊢; exact nx
          · have e : unS c.op t.s t.power = [105, 109, 40] ++ t.s ++ [41] := by unfold unS; rw [h9, h10]; rfl
            rw [e] at nx ⊢; exact nx
          · have e : unS c.op t.s t.power = (signM c.op).1 ++ parenS t.power t.s 6 := by unfold unS; rw [h9, h10]; rfl
            rw [e] at nx ⊢; exact nx
      · have hw0 : wantsC c ≠ 0 := ne_of_beq_false h0
        have hw1 : wantsC c ≠ 1 := ne_of_beq_false h1
        have hle := wants_le c
        have hwb : wantsC c = 2 := by omega
        match st, hst, hsum, hright, hw, hrest, hw2, next, hgo with
        | [], _, _, _, _, _, hw2, _, _ => simp only [List.length_nil] at hw2; omega
        | [_], _, _, _, _, _, hw2, _, _ => simp only [List.length_cons, List.length_nil] at hw2; omega
        | q :: p :: r, hst, hsum, hright, hw, hrest, hw2, next, hgo =>
          have es : showStep c (q :: p :: r) = ⟨binS c.op p.s p.power q.s q.power, (signM c.op).2⟩ :: r := by unfold showStep; rw [if_neg hw0, if_neg hw1]
          rw [es]
          have hrl : ((q :: p :: r).reverse).length = r.length + 2 := by simp
          simp only [List.length_cons] at hst
          have w1 : IntKind.wrap .i64 ((((q :: p :: r).reverse).length : Int) - 1) = ((r.length + 1 : Nat) : Int) := by
            rw [hrl, wrapI (by omega) (by omega)]; omega
          have w2 : IntKind.wrap .i64 ((((q :: p :: r).reverse).length : Int) - 2) = (r.length : Int) := by
            rw [hrl, wrapI (by omega) (by omega)]; omega
          have hsa := sign_all c.op
          have w3 : IntKind.wrap .i64 ((signM c.op).2 + 1) = (signM c.op).2 + 1 := wrapI (by omega) (by omega)
          have hg1 : ETy.get .piece ((q :: p :: r).reverse) (r.length + 1) = q := by
            refine ETy.get_eq (t := .piece) ?_
            rw [List.reverse_cons, List.getElem?_append_right (by simp)]; simp
          have hg2 : ETy.get .piece ((q :: p :: r).reverse) r.length = p := by
            refine ETy.get_eq (t := .piece) ?_
            rw [List.reverse_cons, List.getElem?_append_left (by simp), List.reverse_cons, List.getElem?_append_right (by simp)]; simp
          have hs : ∀ x, (((q :: p :: r).reverse).set r.length x).take (r.length + 1) = r.reverse ++ [x] := by
            intro x
            rw [List.reverse_cons, List.reverse_cons, List.append_assoc, List.set_append_right _ _ (by simp)]
            simp only [List.length_reverse, Nat.sub_self, List.cons_append, List.nil_append, List.set_cons_zero]
            rw [List.take_append, List.take_of_length_le (by simp)]
            simp
          have hb1 : (0 : Int) ≤ ((r.length + 1 : Nat) : Int) ∧ ((r.length + 1 : Nat) : Int) < (((q :: p :: r).reverse).length : Int) := by rw [hrl]; omega
          have hb2 : r.length + 1 < ((q :: p :: r).reverse).length := by rw [hrl]; omega
          have hc1 : (0 : Int) ≤ (r.length : Int) ∧ (r.length : Int) < (((q :: p :: r).reverse).length : Int) := by rw [hrl]; omega
          have hc2 : r.length < ((q :: p :: r).reverse).length := by rw [hrl]; omega
          have hbl := bin_len c.op p.s p.power q.s q.power
          have hsl := sign_len c.op
          simp only [sumL] at hsum
          have nx := next (⟨binS c.op p.s p.power q.s q.power, (signM c.op).2⟩ :: r) c (by simp only [List.length_cons]; omega) (by omega) hk' (by simp only [sumL]; omega) hrest
          rw [List.reverse_cons] at nx
          rw [w1, w2, w3, Int.toNat_natCast, Int.toNat_natCast, hg1, hg2]
          simp only [hs, List.length_set]
          refine ⟨fun h3 => ⟨hc1, hc2, by omega, ?_, hb1, hb2, by omega, ?_, hc1, hc2, ⟨hb1.1, Int.le_of_lt hb1.2⟩, ?_⟩, fun h3 => ⟨hc1, hc2, by omega, ?_, hb1, hb2, by omega, ?_, hc1, hc2, ⟨hb1.1, Int.le_of_lt hb1.2⟩, ?_⟩⟩
          · have := paren_len p.power p.s 4; omega
          · have := paren_len p.power p.s 4; have := paren_len q.power q.s ((signM c.op).2 + 1); rw [List.length_append]; omega
          · have e : binS c.op p.s p.power q.s q.power = parenS p.power p.s 4 ++ (signM c.op).1 ++ parenS q.power q.s ((signM c.op).2 + 1) := by unfold binS leftP; rw [h3]; rfl
            rw [e] at nx ⊢; exact nx
          · have := paren_len p.power p.s (signM c.op).2; omega
          · have := paren_len p.power p.s (signM c.op).2; have := paren_len q.power q.s ((signM c.op).2 + 1); rw [List.length_append]; omega
          · have e : binS c.op p.s p.power q.s q.power = parenS p.power p.s (signM c.op).2 ++ (signM c.op).1 ++ parenS q.power q.s ((signM c.op).2 + 1) := by unfold binS leftP; rw [h3]; rfl
            rw [e] at nx ⊢; exact nx
    · have hk2 : k = l.length := by have := of_decide_eq_false hge; omega
      rw [hk2, List.drop_length] at hright ⊢
      have h1 : st.length = 1 := by have : ((st.length : Int) == 1) = true := hright; have := eq_of_beq this; omega
      obtain ⟨t, rfl⟩ := List.length_eq_one_iff.1 h1
      exact ⟨⟨by omega, by simp⟩, by simp, rfl, rfl⟩
theorem show_ok (l : List Cell) (h : rightM l = true) : Does Tryz.prog 35 [.l .cell l] [] (.tup [.s (showM l), .i 0]) [] := by
  refine Does.go (cfg := cfgShw) cfgShw_ok Tryz.func35 (by kernel_rfl) (by kernel_rfl) (t := (.ite (!rightM l) (.ret (.tup [.p (.str []), .i (1 : Int)]) []) (.stop [.code [1, 1, 1, 0, 1, 0, 0], .inLoop [1, 1, 1, 0, 1, 0, 0], .inBlock 0, .code [1, 1, 1, 1]] { n := 107, fr := [(2, .p (.str [])), (3, .i (0 : Int)), (4, .p (.v (Value.slice none 0 0))), (15, .p (.lst .cell l)), (16, .i (↑(List.length l) : Int)), (17, .i (0 : Int))], ck := [] }))) (by kernel_rfl) fun Γ => ?_
  refine ⟨fun h' => (by rw [h] at h'; cases h'), fun _ => ?_⟩
  refine J.nilOwn 4 102 .piece rfl rfl ?_
  simp only [rightM, Bool.and_eq_true, Bool.not_eq_true', decide_eq_false_iff_not] at h
  exact show_loop l Γ (by omega) l.length 0 [] (by omega) (by omega) (Nat.le_refl _) (Nat.le_refl _) h.2
end Go.Proofs.YtjndellhebidoaaGreatDoor
namespace Go.Proofs.YtjndellhebidoaaGreatDoor
open Go Go.Ev
set_option maxRecDepth 100000
variable {s : Str}
/-! ### texts of trees, by strengths -/
/-! ### leaves -/
theorem leaf_tin {c : Cell} (h : wantsC c = 0) {p : Int} (hp : p ≤ 7) : (Tm.leaf c).tin p = leafS c := by
  have hpw : (Tm.leaf c).pow = 7 := by
    rcases leaf_cell h with ⟨a, rfl, _⟩ | ⟨a, rfl, _⟩ | rfl | rfl | ⟨n, rfl, _⟩ | ⟨n, rfl, _⟩ <;> rfl
  rw [Tm.tin_body (by omega)]; rfl
/-! ### trees -/
end Go.Proofs.YtjndellhebidoaaGreatDoor

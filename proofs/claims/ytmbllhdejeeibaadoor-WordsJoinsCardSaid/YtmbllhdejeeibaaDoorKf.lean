/- The law WordsBack's walk. Conditions: sizes. -/
import Derived.Test.YtmbllhdejeeibaaDoorKe
namespace Go.Proofs.YtmbllhdejeeibaaDoor
open Go Go.Ev
set_option maxRecDepth 100000
/-! ### plain -/
def glue (l : List Str) : Str := l.flatMap fun w => 32 :: w
def joinW : List Str → Str
  | [] => []
  | w :: r => w ++ glue r
theorem split_ne (cur : Str) : ∀ rest, splitGo cur rest ≠ [] := by
  intro rest
  induction rest generalizing cur with
  | nil => simp [splitGo]
  | cons c r ih =>
    unfold splitGo
    cases ((c.toNat : Int) == 32)
    · exact ih _
    · simp
theorem glue_join {l : List Str} (h : l ≠ []) : glue l = 32 :: joinW l := by
  cases l with
  | nil => exact absurd rfl h
  | cons w r => simp [glue, joinW]
theorem blank_32 {c : UInt8} (h : ((c.toNat : Int) == 32) = true) : c = 32 := by
  have h' : (c.toNat : Int) = 32 := by simpa using h
  have h2 : c.toNat = 32 := by omega
  exact UInt8.toNat_inj.1 (by rw [h2]; rfl)
theorem join_split : ∀ (rest : List UInt8) (cur : Str), joinW (splitGo cur rest) = cur ++ rest
  | [], cur => by simp [splitGo, joinW, glue]
  | c :: r, cur => by
    unfold splitGo
    cases hb : ((c.toNat : Int) == 32)
    · simp only [cond_false]
      rw [join_split r (cur ++ [c])]; simp
    · simp only [cond_true, joinW]
      rw [glue_join (split_ne [] r), join_split r [], blank_32 hb]; rfl
theorem lead_blank : ∀ (s : List UInt8) (j : Nat), j < leadB s → (((s.getD j 0).toNat : Int) == 32) = true
  | [], j, h => by simp [leadB] at h
  | c :: r, j, h => by
    unfold leadB at h
    cases hb : ((c.toNat : Int) == 32)
    · rw [hb] at h; simp at h
    · rw [hb, cond_true] at h
      cases j with
      | zero => simpa using hb
      | succ j => simpa using lead_blank r j (by omega)
theorem lineW_ne (s : Str) : lineW s ≠ [] := split_ne _ _
theorem line_join (s : Str) : s.take (leadB s) ++ joinW (lineW s) = s := by
  rw [lineW, join_split, List.nil_append, List.take_append_drop]
theorem drop_glue {W : List Str} {k : Nat} (h : k < W.length) : glue (W.drop k) = 32 :: W[k] ++ glue (W.drop (k + 1)) := by
  rw [List.drop_eq_getElem_cons h]; rfl
theorem join_head {W : List Str} (h : 0 < W.length) : joinW W = W[0] ++ glue (W.drop 1) := by
  cases W with
  | nil => cases h
  | cons w r => rfl
/-! ### the walk -/


theorem back_loop2 (s o : Str) (Γ : Ctx) (ho : o = s) (hs : s.length ≤ 2097152) : ∀ (n k : Nat), leadB s - k ≤ n → k ≤ leadB s →
    J Tryd.prog 4 (bodyOf Tryd.f4) Γ (Eq2 (.x (.b true)) []) [PI.code [(1 : Nat), (1 : Nat), (1 : Nat), (1 : Nat), (1 : Nat), (1 : Nat), (0 : Nat), (1 : Nat), (0 : Nat), (0 : Nat)], PI.inLoop [(1 : Nat), (1 : Nat), (1 : Nat), (1 : Nat), (1 : Nat), (1 : Nat), (0 : Nat), (1 : Nat), (0 : Nat), (0 : Nat)], PI.inBlock (2 : Nat), PI.code [(1 : Nat), (1 : Nat), (1 : Nat), (1 : Nat), (1 : Nat), (1 : Nat), (1 : Nat)]] ({ n := (71 : Nat), fr := [(0, SV.x (SX.c (SC.pd (PD.str s)))), (2, SV.x (SX.c (SC.pd (PD.bool false)))), (4, SV.x (SX.c (SC.own (0 : Nat)))), (6, SV.x (SX.c (SC.pd (PD.str o)))), (54, SV.x (SX.c (SC.pd (PD.int IntKind.i64 (↑(leadB s) : Int))))), (55, SV.x (SX.c (SC.pd (PD.int IntKind.i64 ((k : Int))))))], ck := [Chunk.own (9 : Nat) ETy.str (lineW s)], kn := [(2 : Nat)] }) := by
  have hle := leadB_le s
  intro n
  induction n with
  | zero => ?_
  | succ n ih => ?_
  all_goals
    intro k hn hk
    refine J.go (cfg := cfgWl1) cfgWl1_ok Tryd.func4 1000 (t := (Tree.ite (decide ((↑k : Int) < (↑(leadB s) : Int))) (Tree.need ((0 : Int) ≤ (↑k : Int) ∧ (↑k : Int) < strLen s) (Tree.ite ((↑(UInt8.toNat (List.getD s k (0 : UInt8))) : Int) != (32 : Int)) (Tree.ret (SV.x (SX.c (SC.pd (PD.bool false)))) []) (Tree.stop [PI.code [(1 : Nat), (1 : Nat), (1 : Nat), (1 : Nat), (1 : Nat), (1 : Nat), (0 : Nat), (1 : Nat), (0 : Nat), (0 : Nat)], PI.inLoop [(1 : Nat), (1 : Nat), (1 : Nat), (1 : Nat), (1 : Nat), (1 : Nat), (0 : Nat), (1 : Nat), (0 : Nat), (0 : Nat)], PI.inBlock (2 : Nat), PI.code [(1 : Nat), (1 : Nat), (1 : Nat), (1 : Nat), (1 : Nat), (1 : Nat), (1 : Nat)]] { n := (71 : Nat), fr := [((0 : Nat), SV.x (SX.c (SC.pd (PD.str s)))), ((2 : Nat), SV.x (SX.c (SC.pd (PD.bool false)))), ((4 : Nat), SV.x (SX.c (SC.own (0 : Nat)))), ((6 : Nat), SV.x (SX.c (SC.pd (PD.str o)))), ((54 : Nat), SV.x (SX.c (SC.pd (PD.int IntKind.i64 (↑(leadB s) : Int))))), ((55 : Nat), SV.x (SX.c (SC.pd (PD.int IntKind.i64 (IntKind.wrap IntKind.i64 ((↑k : Int) + (1 : Int)))))))], ck := [Chunk.own (9 : Nat) ETy.str (lineW s)], kn := [(2 : Nat)] }))) (Tree.ret (SV.x (SX.c (SC.pd (PD.bool (o == s && decide ((↑(List.length (lineW s)) : Int) > (0 : Int))))))) []))) (by kernel_rfl) ?_
    have hL : strLen s = (s.length : Int) := rfl
    refine ⟨fun hlt => ?_, fun hge => ⟨?_, rfl⟩⟩
    · have hk' : k < leadB s := by have := of_decide_eq_true hlt; omega
      have hb := lead_blank s k hk'
      refine ⟨by omega, fun h => ?_, fun _ => ?_⟩
      · exfalso
        have h1 : (((s.getD k 0).toNat : Int) != 32) = true := h
        simp only [bne_iff_ne] at h1
        exact h1 (by simpa using hb)
      · rw [wrapK (by omega)]
        first
        | (exfalso; omega)
        | exact ih (k + 1) (by omega) (by omega)
    · have hne := List.length_pos_iff.2 (lineW_ne s)
      subst ho
      have : decide (((lineW o).length : Int) > 0) = true := decide_eq_true (by omega)
      rw [this]; simp
theorem back_loop1 (s : Str) (Γ : Ctx) (hs : s.length ≤ 2097152) : ∀ (n k : Nat) (o : Str), (lineW s).length - k ≤ n → k ≤ (lineW s).length → (k = 0 → o ++ joinW (lineW s) = s) → (0 < k → o ++ glue ((lineW s).drop k) = s) →
    J Tryd.prog 4 (bodyOf Tryd.f4) Γ (Eq2 (.x (.b true)) []) [PI.code [(1 : Nat), (1 : Nat), (1 : Nat), (1 : Nat), (1 : Nat), (0 : Nat), (1 : Nat), (0 : Nat), (0 : Nat)], PI.inLoop [(1 : Nat), (1 : Nat), (1 : Nat), (1 : Nat), (1 : Nat), (0 : Nat), (1 : Nat), (0 : Nat), (0 : Nat)], PI.inBlock (0 : Nat), PI.code [(1 : Nat), (1 : Nat), (1 : Nat), (1 : Nat), (1 : Nat), (1 : Nat)]] ({ n := (71 : Nat), fr := [(0, SV.x (SX.c (SC.pd (PD.str s)))), (2, SV.x (SX.c (SC.pd (PD.bool false)))), (3, SV.x (SX.c (SC.pd (PD.int IntKind.i64 (↑(leadB s) : Int))))), (4, SV.x (SX.c (SC.own (0 : Nat)))), (6, SV.x (SX.c (SC.pd (PD.str (o))))), (39, SV.x (SX.c (SC.pd (PD.int IntKind.i64 (↑(List.length (lineW s)) : Int))))), (40, SV.x (SX.c (SC.pd (PD.int IntKind.i64 ((k : Int))))))], ck := [Chunk.own (9 : Nat) ETy.str (lineW s)], kn := [(2 : Nat)] }) := by
  have hpos := List.length_pos_iff.2 (lineW_ne s)
  intro n
  induction n with
  | zero => ?_
  | succ n ih => ?_
  all_goals
    intro k o hn hk h0 h1
    refine J.lenOwn 0 rfl fun hml => ?_
    refine J.go (cfg := cfgWl1) cfgWl1_ok Tryd.func4 1000 (t := (Tree.ite (decide ((↑k : Int) < (↑(List.length (lineW s)) : Int))) (Tree.ite (decide ((↑k : Int) > (0 : Int))) (Tree.need (List.length o + (1 : Nat) ≤ (9223372036854775807 : Nat)) (Tree.need ((0 : Int) ≤ (↑k : Int) ∧ (↑k : Int) < (↑(List.length (lineW s)) : Int)) (Tree.need (k < List.length (lineW s)) (Tree.need (List.length (o ++ [(32 : UInt8)]) + List.length (ETy.get ETy.str (lineW s) k) ≤ (9223372036854775807 : Nat)) (Tree.stop [PI.code [(1 : Nat), (1 : Nat), (1 : Nat), (1 : Nat), (1 : Nat), (0 : Nat), (1 : Nat), (0 : Nat), (0 : Nat)], PI.inLoop [(1 : Nat), (1 : Nat), (1 : Nat), (1 : Nat), (1 : Nat), (0 : Nat), (1 : Nat), (0 : Nat), (0 : Nat)], PI.inBlock (0 : Nat), PI.code [(1 : Nat), (1 : Nat), (1 : Nat), (1 : Nat), (1 : Nat), (1 : Nat)]] { n := (71 : Nat), fr := [((0 : Nat), SV.x (SX.c (SC.pd (PD.str s)))), ((2 : Nat), SV.x (SX.c (SC.pd (PD.bool false)))), ((3 : Nat), SV.x (SX.c (SC.pd (PD.int IntKind.i64 (↑(leadB s) : Int))))), ((4 : Nat), SV.x (SX.c (SC.own (0 : Nat)))), ((6 : Nat), SV.x (SX.c (SC.pd (PD.str (o ++ [(32 : UInt8)] ++ ETy.get ETy.str (lineW s) k))))), ((39 : Nat), SV.x (SX.c (SC.pd (PD.int IntKind.i64 (↑(List.length (lineW s)) : Int))))), ((40 : Nat), SV.x (SX.c (SC.pd (PD.int IntKind.i64 (IntKind.wrap IntKind.i64 ((↑k : Int) + (1 : Int)))))))], ck := [Chunk.own (9 : Nat) ETy.str (lineW s)], kn := [(2 : Nat)] }))))) (Tree.need ((0 : Int) ≤ (↑k : Int) ∧ (↑k : Int) < (↑(List.length (lineW s)) : Int)) (Tree.need (k < List.length (lineW s)) (Tree.need (List.length o + List.length (ETy.get ETy.str (lineW s) k) ≤ (9223372036854775807 : Nat)) (Tree.stop [PI.code [(1 : Nat), (1 : Nat), (1 : Nat), (1 : Nat), (1 : Nat), (0 : Nat), (1 : Nat), (0 : Nat), (0 : Nat)], PI.inLoop [(1 : Nat), (1 : Nat), (1 : Nat), (1 : Nat), (1 : Nat), (0 : Nat), (1 : Nat), (0 : Nat), (0 : Nat)], PI.inBlock (0 : Nat), PI.code [(1 : Nat), (1 : Nat), (1 : Nat), (1 : Nat), (1 : Nat), (1 : Nat)]] { n := (71 : Nat), fr := [((0 : Nat), SV.x (SX.c (SC.pd (PD.str s)))), ((2 : Nat), SV.x (SX.c (SC.pd (PD.bool false)))), ((3 : Nat), SV.x (SX.c (SC.pd (PD.int IntKind.i64 (↑(leadB s) : Int))))), ((4 : Nat), SV.x (SX.c (SC.own (0 : Nat)))), ((6 : Nat), SV.x (SX.c (SC.pd (PD.str (o ++ ETy.get ETy.str (lineW s) k))))), ((39 : Nat), SV.x (SX.c (SC.pd (PD.int IntKind.i64 (↑(List.length (lineW s)) : Int))))), ((40 : Nat), SV.x (SX.c (SC.pd (PD.int IntKind.i64 (IntKind.wrap IntKind.i64 ((↑k : Int) + (1 : Int)))))))], ck := [Chunk.own (9 : Nat) ETy.str (lineW s)], kn := [(2 : Nat)] }))))) (Tree.stop [PI.code [(1 : Nat), (1 : Nat), (1 : Nat), (1 : Nat), (1 : Nat), (1 : Nat), (0 : Nat), (1 : Nat), (0 : Nat), (0 : Nat)], PI.inLoop [(1 : Nat), (1 : Nat), (1 : Nat), (1 : Nat), (1 : Nat), (1 : Nat), (0 : Nat), (1 : Nat), (0 : Nat), (0 : Nat)], PI.inBlock (2 : Nat), PI.code [(1 : Nat), (1 : Nat), (1 : Nat), (1 : Nat), (1 : Nat), (1 : Nat), (1 : Nat)]] { n := (71 : Nat), fr := [((0 : Nat), SV.x (SX.c (SC.pd (PD.str s)))), ((2 : Nat), SV.x (SX.c (SC.pd (PD.bool false)))), ((4 : Nat), SV.x (SX.c (SC.own (0 : Nat)))), ((6 : Nat), SV.x (SX.c (SC.pd (PD.str o)))), ((54 : Nat), SV.x (SX.c (SC.pd (PD.int IntKind.i64 (↑(leadB s) : Int))))), ((55 : Nat), SV.x (SX.c (SC.pd (PD.int IntKind.i64 (0 : Int)))))], ck := [Chunk.own (9 : Nat) ETy.str (lineW s)], kn := [(2 : Nat)] }))) (by kernel_rfl) ?_
    refine ⟨fun hlt => ?_, fun hge => ?_⟩
    · have hk' : k < (lineW s).length := by have := of_decide_eq_true hlt; omega
      have hg : ETy.get .str (lineW s) k = (lineW s)[k] := ETy.get_eq (t := .str) (List.getElem?_eq_getElem hk')
      rw [hg]
      refine ⟨fun hp => ?_, fun hp => ?_⟩
      · have hp' : 0 < k := by have := of_decide_eq_true hp; omega
        have e := h1 hp'
        rw [drop_glue hk'] at e
        have el := congrArg List.length e
        simp only [List.length_append, List.length_cons] at el
        refine ⟨by omega, by omega, hk', by simp only [List.length_append, List.length_cons, List.length_nil]; omega, ?_⟩
        rw [wrapK (maxLen_lt hk' hml)]
        first
        | (exfalso; omega)
        | exact ih (k + 1) _ (by omega) (by omega) (fun h => by omega) (fun _ => Eq.trans (by simp) e)
      · have hp' : k = 0 := by have := of_decide_eq_false hp; omega
        subst hp'
        have e := h0 rfl
        have hW := join_head hk'
        rw [hW] at e
        have el := congrArg List.length e
        simp only [List.length_append] at el
        refine ⟨by omega, hk', by omega, ?_⟩
        have e2 : IntKind.i64.wrap (((0 : Nat) : Int) + 1) = ((0 + 1 : Nat) : Int) := wrapK (maxLen_lt hk' hml)
        rw [e2]
        first
        | (exfalso; omega)
        | exact ih (0 + 1) _ (by omega) (by omega) (fun h => by omega) (fun _ => Eq.trans (by simp) e)
    · have hk' : k = (lineW s).length := by have := of_decide_eq_false hge; omega
      have e := h1 (by omega)
      rw [hk', List.drop_length] at e
      have ho : o = s := by simpa [glue] using e
      exact back_loop2 s o Γ ho hs (leadB s) 0 (by omega) (by omega)
theorem words_back_spec (s : Str) (h : s.length ≤ 2097152) : Does Tryd.prog 4 [.s s] [] (.x (.b true)) [] := by
  cases ho : lineOk s
  · refine Does.go (cfg := cfgWl0) cfgWl0_ok Tryd.func4 (by kernel_rfl) (by kernel_rfl) (t := (Tree.need (List.length s ≤ (2097152 : Nat) ∧ lineOk s = false) (Tree.ite false (Tree.ret (SV.x (SX.c (SC.pd (PD.bool false)))) []) (Tree.ite true (Tree.ret (SV.x (SX.c (SC.pd (PD.bool true)))) []) (Tree.need ((0 : Int) ≤ (0 : Int) ∧ (0 : Int) ≤ (↑(List.length s) : Int)) (Tree.stop [PI.code [(1 : Nat), (1 : Nat), (1 : Nat), (1 : Nat), (1 : Nat), (0 : Nat), (1 : Nat), (0 : Nat), (0 : Nat)], PI.inLoop [(1 : Nat), (1 : Nat), (1 : Nat), (1 : Nat), (1 : Nat), (0 : Nat), (1 : Nat), (0 : Nat), (0 : Nat)], PI.inBlock (0 : Nat), PI.code [(1 : Nat), (1 : Nat), (1 : Nat), (1 : Nat), (1 : Nat), (1 : Nat)]] { n := (71 : Nat), fr := [((0 : Nat), SV.x (SX.c (SC.pd (PD.str s)))), ((2 : Nat), SV.x (SX.c (SC.pd (PD.bool false)))), ((3 : Nat), SV.x (SX.c (SC.pd (PD.int IntKind.i64 (0 : Int))))), ((4 : Nat), SV.x (SX.c (SC.pd (PD.v (Value.slice none (0 : Nat) (0 : Nat)))))), ((6 : Nat), SV.x (SX.c (SC.pd (PD.str (Prod.snd (cutL s none (some (0 : Int)))))))), ((39 : Nat), SV.x (SX.c (SC.pd (PD.int IntKind.i64 (0 : Int))))), ((40 : Nat), SV.x (SX.c (SC.pd (PD.int IntKind.i64 (0 : Int)))))], ck := [], kn := [(2 : Nat)] })))))) (by kernel_rfl) fun Γ => ?_
    exact ⟨⟨h, ho⟩, fun h => Bool.noConfusion h, fun _ => ⟨fun _ => ⟨rfl, rfl⟩, fun h => Bool.noConfusion h⟩⟩
  · refine Does.go (cfg := cfgWl1) cfgWl1_ok Tryd.func4 (by kernel_rfl) (by kernel_rfl) (t := (Tree.need (List.length s ≤ (2097152 : Nat) ∧ lineOk s = true) (Tree.ite false (Tree.ret (SV.x (SX.c (SC.pd (PD.bool false)))) []) (Tree.ite (false || decide (strLen s > (65536 : Int))) (Tree.ret (SV.x (SX.c (SC.pd (PD.bool true)))) []) (Tree.need ((0 : Int) ≤ (↑(leadB s) : Int) ∧ (↑(leadB s) : Int) ≤ (↑(List.length s) : Int)) (Tree.stop [PI.code [(1 : Nat), (1 : Nat), (1 : Nat), (1 : Nat), (1 : Nat), (0 : Nat), (1 : Nat), (0 : Nat), (0 : Nat)], PI.inLoop [(1 : Nat), (1 : Nat), (1 : Nat), (1 : Nat), (1 : Nat), (0 : Nat), (1 : Nat), (0 : Nat), (0 : Nat)], PI.inBlock (0 : Nat), PI.code [(1 : Nat), (1 : Nat), (1 : Nat), (1 : Nat), (1 : Nat), (1 : Nat)]] { n := (71 : Nat), fr := [((0 : Nat), SV.x (SX.c (SC.pd (PD.str s)))), ((2 : Nat), SV.x (SX.c (SC.pd (PD.bool false)))), ((3 : Nat), SV.x (SX.c (SC.pd (PD.int IntKind.i64 (↑(leadB s) : Int))))), ((4 : Nat), SV.x (SX.c (SC.own (0 : Nat)))), ((6 : Nat), SV.x (SX.c (SC.pd (PD.str (Prod.snd (cutL s none (some (↑(leadB s) : Int)))))))), ((39 : Nat), SV.x (SX.c (SC.pd (PD.int IntKind.i64 (↑(List.length (lineW s)) : Int))))), ((40 : Nat), SV.x (SX.c (SC.pd (PD.int IntKind.i64 (0 : Int)))))], ck := [Chunk.own (9 : Nat) ETy.str (lineW s)], kn := [(2 : Nat)] })))))) (by kernel_rfl) fun Γ => ?_
    have hle := leadB_le s
    refine ⟨⟨h, ho⟩, fun h => Bool.noConfusion h, fun _ => ⟨fun _ => ⟨rfl, rfl⟩, fun _ => ⟨by omega, ?_⟩⟩⟩
    have hc : (cutL s none (some ((leadB s : Nat) : Int))).2 = s.take (leadB s) := rfl
    rw [hc]
    exact back_loop1 s Γ h (lineW s).length 0 _ (by omega) (by omega) (fun _ => line_join s) (fun h => by omega)
end Go.Proofs.YtmbllhdejeeibaaDoor

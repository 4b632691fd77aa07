/- Contracts: the document's lines. Conditions: texts of at most 2^21 bytes. -/
import Derived.Test.YtmbllhdejeeibaaDoorKb
namespace Go.Proofs.YtmbllhdejeeibaaDoor
open Go Go.Ev
set_option maxRecDepth 100000
theorem split_word : ∀ (rest : List UInt8) (cur : Str), ∀ w ∈ splitGo cur rest, w.length ≤ cur.length + rest.length
  | [], cur, w, h => by simp [splitGo] at h; subst h; simp
  | c :: r, cur, w, h => by
    unfold splitGo at h
    cases hc : ((c.toNat : Int) == 32)
    · rw [hc, cond_false] at h
      have := split_word r (cur ++ [c]) w h
      simp only [List.length_append, List.length_cons, List.length_nil] at this ⊢; omega
    · rw [hc, cond_true] at h
      rcases List.mem_cons.1 h with rfl | h
      · simp
      · have := split_word r [] w h
        simp only [List.length_cons, List.length_nil] at this ⊢; omega
theorem good_iff (c : UInt8) : (decide ((c.toNat : Int) < 33) || decide ((c.toNat : Int) > 126)) = !good c := by
  unfold good
  rw [Bool.eq_iff_iff]
  simp only [Bool.or_eq_true, decide_eq_true_eq, Bool.not_eq_true', Bool.and_eq_false_iff, decide_eq_false_iff_not]
  omega
theorem all_take_succ {α : Type} {p : α → Bool} {l : List α} {k : Nat} (h : k < l.length) (h1 : (l.take k).all p = true) (h2 : p l[k] = true) : (l.take (k + 1)).all p = true := by
  rw [List.take_succ_eq_append_getElem h, List.all_append, h1]; simpa using h2
theorem all_bad {α : Type} {p : α → Bool} {l : List α} {k : Nat} (h : k < l.length) (h2 : p l[k] = false) : l.all p = false := by
  rw [List.all_eq_false]; exact ⟨l[k], List.getElem_mem h, by rw [h2]; simp⟩




theorem ref_byte_loop (Γ : Ctx) (d : Int) (out : List Str) (k : Nat) (hk : k < out.length) (hlen : ∀ w ∈ out, w.length ≤ 3000000) (hml : out.length ≤ maxLen)
    (hnext : validW out[k] = true → J Tryd.prog 11 (bodyOf Tryd.f11) Γ (LineQ d out) [PI.code [(1 : Nat), (1 : Nat), (1 : Nat), (1 : Nat), (1 : Nat), (1 : Nat), (0 : Nat), (1 : Nat), (0 : Nat), (0 : Nat)], PI.inLoop [(1 : Nat), (1 : Nat), (1 : Nat), (1 : Nat), (1 : Nat), (1 : Nat), (0 : Nat), (1 : Nat), (0 : Nat), (0 : Nat)], PI.inBlock (4 : Nat), PI.code [(1 : Nat), (1 : Nat), (1 : Nat), (1 : Nat), (1 : Nat), (1 : Nat), (1 : Nat)]] ({ n := (89 : Nat), fr := [(2, SV.x (SX.c (SC.pd (PD.int IntKind.i64 (0 : Int))))), (3, SV.x (SX.c (SC.pd (PD.v (Value.slice none (0 : Nat) (0 : Nat)))))), (4, SV.x (SX.c (SC.pd (PD.int IntKind.i64 (0 : Int))))), (5, SV.x (SX.c (SC.pd (PD.int IntKind.i64 d)))), (6, SV.x (SX.c (SC.own (0 : Nat)))), (9, SV.x (SX.c (SC.pd (PD.int IntKind.i64 (((k + 1 : Nat) : Int))))))], ck := [Chunk.own (9 : Nat) ETy.str out] })) (hne : out[k] ≠ []) : ∀ (n j : Nat), out[k].length - j ≤ n → j ≤ out[k].length → (out[k].take j).all good = true →
    J Tryd.prog 11 (bodyOf Tryd.f11) Γ (LineQ d out) [PI.code [(1 : Nat), (1 : Nat), (1 : Nat), (1 : Nat), (1 : Nat), (1 : Nat), (0 : Nat), (1 : Nat), (0 : Nat), (0 : Nat), (1 : Nat), (0 : Nat), (0 : Nat), (1 : Nat), (1 : Nat), (0 : Nat), (0 : Nat)], PI.inLoop [(1 : Nat), (1 : Nat), (1 : Nat), (1 : Nat), (1 : Nat), (1 : Nat), (0 : Nat), (1 : Nat), (0 : Nat), (0 : Nat), (1 : Nat), (0 : Nat), (0 : Nat), (1 : Nat), (1 : Nat), (0 : Nat), (0 : Nat)], PI.inBlock (6 : Nat), PI.inBlock (5 : Nat), PI.code [(1 : Nat), (1 : Nat), (1 : Nat), (1 : Nat), (1 : Nat), (1 : Nat), (0 : Nat), (1 : Nat), (0 : Nat), (0 : Nat), (1 : Nat), (1 : Nat)], PI.inLoop [(1 : Nat), (1 : Nat), (1 : Nat), (1 : Nat), (1 : Nat), (1 : Nat), (0 : Nat), (1 : Nat), (0 : Nat), (0 : Nat)], PI.inBlock (4 : Nat), PI.code [(1 : Nat), (1 : Nat), (1 : Nat), (1 : Nat), (1 : Nat), (1 : Nat), (1 : Nat)]] ({ n := (89 : Nat), fr := [(2, SV.x (SX.c (SC.pd (PD.int IntKind.i64 (0 : Int))))), (3, SV.x (SX.c (SC.pd (PD.v (Value.slice none (0 : Nat) (0 : Nat)))))), (4, SV.x (SX.c (SC.pd (PD.int IntKind.i64 (0 : Int))))), (5, SV.x (SX.c (SC.pd (PD.int IntKind.i64 d)))), (6, SV.x (SX.c (SC.own (0 : Nat)))), (9, SV.x (SX.c (SC.pd (PD.int IntKind.i64 (↑k : Int))))), (10, SV.x (SX.c (SC.pd (PD.int IntKind.i64 ((j : Int))))))], ck := [Chunk.own (9 : Nat) ETy.str out] }) := by
  have hw := hlen _ (List.getElem_mem hk)
  intro n
  induction n with
  | zero => ?_
  | succ n ih => ?_
  all_goals
    intro j hn hj hall
    refine J.go (cfg := cfg0) cfg0_ok Tryd.func11 1000 (t := (Tree.need ((0 : Int) ≤ (↑k : Int) ∧ (↑k : Int) < (↑(List.length out) : Int)) (Tree.need (k < List.length out) (Tree.ite (decide ((↑j : Int) < strLen (ETy.get ETy.str out k))) (Tree.need ((0 : Int) ≤ (↑k : Int) ∧ (↑k : Int) < (↑(List.length out) : Int)) (Tree.need (k < List.length out) (Tree.need ((0 : Int) ≤ (↑j : Int) ∧ (↑j : Int) < strLen (ETy.get ETy.str out k)) (Tree.need (decide ((↑(UInt8.toNat (List.getD (ETy.get ETy.str out k) j (0 : UInt8))) : Int) < (33 : Int)) = false → (0 : Int) ≤ (↑k : Int) ∧ (↑k : Int) < (↑(List.length out) : Int)) (Tree.need (decide ((↑(UInt8.toNat (List.getD (ETy.get ETy.str out k) j (0 : UInt8))) : Int) < (33 : Int)) = false → k < List.length out) (Tree.need (decide ((↑(UInt8.toNat (List.getD (ETy.get ETy.str out k) j (0 : UInt8))) : Int) < (33 : Int)) = false → (0 : Int) ≤ (↑j : Int) ∧ (↑j : Int) < strLen (ETy.get ETy.str out k)) (Tree.ite (decide ((↑(UInt8.toNat (List.getD (ETy.get ETy.str out k) j (0 : UInt8))) : Int) < (33 : Int)) || decide ((↑(UInt8.toNat (List.getD (ETy.get ETy.str out k) j (0 : UInt8))) : Int) > (126 : Int))) (Tree.ret (SV.tup [SX.c (SC.pd (PD.int IntKind.i64 (0 : Int))), SX.c (SC.pd (PD.v (Value.slice none (0 : Nat) (0 : Nat)))), SX.c (SC.pd (PD.int IntKind.i64 (1 : Int)))]) []) (Tree.stop [PI.code [(1 : Nat), (1 : Nat), (1 : Nat), (1 : Nat), (1 : Nat), (1 : Nat), (0 : Nat), (1 : Nat), (0 : Nat), (0 : Nat), (1 : Nat), (0 : Nat), (0 : Nat), (1 : Nat), (1 : Nat), (0 : Nat), (0 : Nat)], PI.inLoop [(1 : Nat), (1 : Nat), (1 : Nat), (1 : Nat), (1 : Nat), (1 : Nat), (0 : Nat), (1 : Nat), (0 : Nat), (0 : Nat), (1 : Nat), (0 : Nat), (0 : Nat), (1 : Nat), (1 : Nat), (0 : Nat), (0 : Nat)], PI.inBlock (6 : Nat), PI.inBlock (5 : Nat), PI.code [(1 : Nat), (1 : Nat), (1 : Nat), (1 : Nat), (1 : Nat), (1 : Nat), (0 : Nat), (1 : Nat), (0 : Nat), (0 : Nat), (1 : Nat), (1 : Nat)], PI.inLoop [(1 : Nat), (1 : Nat), (1 : Nat), (1 : Nat), (1 : Nat), (1 : Nat), (0 : Nat), (1 : Nat), (0 : Nat), (0 : Nat)], PI.inBlock (4 : Nat), PI.code [(1 : Nat), (1 : Nat), (1 : Nat), (1 : Nat), (1 : Nat), (1 : Nat), (1 : Nat)]] { n := (89 : Nat), fr := [((2 : Nat), SV.x (SX.c (SC.pd (PD.int IntKind.i64 (0 : Int))))), ((3 : Nat), SV.x (SX.c (SC.pd (PD.v (Value.slice none (0 : Nat) (0 : Nat)))))), ((4 : Nat), SV.x (SX.c (SC.pd (PD.int IntKind.i64 (0 : Int))))), ((5 : Nat), SV.x (SX.c (SC.pd (PD.int IntKind.i64 d)))), ((6 : Nat), SV.x (SX.c (SC.own (0 : Nat)))), ((9 : Nat), SV.x (SX.c (SC.pd (PD.int IntKind.i64 (↑k : Int))))), ((10 : Nat), SV.x (SX.c (SC.pd (PD.int IntKind.i64 (IntKind.wrap IntKind.i64 ((↑j : Int) + (1 : Int)))))))], ck := [Chunk.own (9 : Nat) ETy.str out] })))))))) (Tree.stop [PI.code [(1 : Nat), (1 : Nat), (1 : Nat), (1 : Nat), (1 : Nat), (1 : Nat), (0 : Nat), (1 : Nat), (0 : Nat), (0 : Nat)], PI.inLoop [(1 : Nat), (1 : Nat), (1 : Nat), (1 : Nat), (1 : Nat), (1 : Nat), (0 : Nat), (1 : Nat), (0 : Nat), (0 : Nat)], PI.inBlock (4 : Nat), PI.code [(1 : Nat), (1 : Nat), (1 : Nat), (1 : Nat), (1 : Nat), (1 : Nat), (1 : Nat)]] { n := (89 : Nat), fr := [((2 : Nat), SV.x (SX.c (SC.pd (PD.int IntKind.i64 (0 : Int))))), ((3 : Nat), SV.x (SX.c (SC.pd (PD.v (Value.slice none (0 : Nat) (0 : Nat)))))), ((4 : Nat), SV.x (SX.c (SC.pd (PD.int IntKind.i64 (0 : Int))))), ((5 : Nat), SV.x (SX.c (SC.pd (PD.int IntKind.i64 d)))), ((6 : Nat), SV.x (SX.c (SC.own (0 : Nat)))), ((9 : Nat), SV.x (SX.c (SC.pd (PD.int IntKind.i64 (IntKind.wrap IntKind.i64 ((↑k : Int) + (1 : Int)))))))], ck := [Chunk.own (9 : Nat) ETy.str out] }))))) (by kernel_rfl) ?_
    have hg : ETy.get .str out k = out[k] := ETy.get_eq (t := .str) (List.getElem?_eq_getElem hk)
    rw [hg]
    have hL : strLen out[k] = (out[k].length : Int) := rfl
    refine ⟨by omega, hk, fun h => ?_, fun h => ?_⟩
    · have hlt : j < out[k].length := by have := of_decide_eq_true h; omega
      have hgd : out[k].getD j 0 = out[k][j] := by rw [List.getD_eq_getElem?_getD, List.getElem?_eq_getElem hlt]; rfl
      rw [hgd, good_iff]
      refine ⟨by omega, hk, by omega, fun _ => by omega, fun _ => hk, fun _ => by omega, fun hb => ?_, fun hb => ?_⟩
      · have hb' : good out[k][j] = false := by simpa using hb
        refine LineQ.bad (all_bad hk ?_)
        simp only [validW, all_bad hlt hb', Bool.and_false]
      · have hb' : good out[k][j] = true := by simpa using hb
        rw [wrapK (by omega)]
        first
        | (exfalso; omega)
        | exact ih (j + 1) (by omega) (by omega) (all_take_succ hlt hall hb')
    · have hje : j = out[k].length := by have := of_decide_eq_false h; omega
      rw [hje, List.take_length] at hall
      rw [wrapK (maxLen_lt hk hml)]
      exact hnext (by simp [validW, hall, hne])
theorem ref_word_loop (Γ : Ctx) (d : Int) (out : List Str) (hlen : ∀ w ∈ out, w.length ≤ 3000000) : ∀ (n k : Nat), out.length - k ≤ n → k ≤ out.length → (out.take k).all validW = true →
    J Tryd.prog 11 (bodyOf Tryd.f11) Γ (LineQ d out) [PI.code [(1 : Nat), (1 : Nat), (1 : Nat), (1 : Nat), (1 : Nat), (1 : Nat), (0 : Nat), (1 : Nat), (0 : Nat), (0 : Nat)], PI.inLoop [(1 : Nat), (1 : Nat), (1 : Nat), (1 : Nat), (1 : Nat), (1 : Nat), (0 : Nat), (1 : Nat), (0 : Nat), (0 : Nat)], PI.inBlock (4 : Nat), PI.code [(1 : Nat), (1 : Nat), (1 : Nat), (1 : Nat), (1 : Nat), (1 : Nat), (1 : Nat)]] ({ n := (89 : Nat), fr := [(2, SV.x (SX.c (SC.pd (PD.int IntKind.i64 (0 : Int))))), (3, SV.x (SX.c (SC.pd (PD.v (Value.slice none (0 : Nat) (0 : Nat)))))), (4, SV.x (SX.c (SC.pd (PD.int IntKind.i64 (0 : Int))))), (5, SV.x (SX.c (SC.pd (PD.int IntKind.i64 d)))), (6, SV.x (SX.c (SC.own (0 : Nat)))), (9, SV.x (SX.c (SC.pd (PD.int IntKind.i64 ((k : Int))))))], ck := [Chunk.own (9 : Nat) ETy.str out] }) := by
  intro n
  induction n with
  | zero => ?_
  | succ n ih => ?_
  all_goals
    intro k hn hk hall
    refine J.lenOwn 0 rfl fun hml => ?_
    refine J.go (cfg := cfg0) cfg0_ok Tryd.func11 1000 (t := (Tree.ite (decide ((↑k : Int) < (↑(List.length out) : Int))) (Tree.need ((0 : Int) ≤ (↑k : Int) ∧ (↑k : Int) < (↑(List.length out) : Int)) (Tree.need (k < List.length out) (Tree.ite (strLen (ETy.get ETy.str out k) == (0 : Int)) (Tree.ret (SV.tup [SX.c (SC.pd (PD.int IntKind.i64 (0 : Int))), SX.c (SC.pd (PD.v (Value.slice none (0 : Nat) (0 : Nat)))), SX.c (SC.pd (PD.int IntKind.i64 (1 : Int)))]) []) (Tree.stop [PI.code [(1 : Nat), (1 : Nat), (1 : Nat), (1 : Nat), (1 : Nat), (1 : Nat), (0 : Nat), (1 : Nat), (0 : Nat), (0 : Nat), (1 : Nat), (0 : Nat), (0 : Nat), (1 : Nat), (1 : Nat), (0 : Nat), (0 : Nat)], PI.inLoop [(1 : Nat), (1 : Nat), (1 : Nat), (1 : Nat), (1 : Nat), (1 : Nat), (0 : Nat), (1 : Nat), (0 : Nat), (0 : Nat), (1 : Nat), (0 : Nat), (0 : Nat), (1 : Nat), (1 : Nat), (0 : Nat), (0 : Nat)], PI.inBlock (6 : Nat), PI.inBlock (5 : Nat), PI.code [(1 : Nat), (1 : Nat), (1 : Nat), (1 : Nat), (1 : Nat), (1 : Nat), (0 : Nat), (1 : Nat), (0 : Nat), (0 : Nat), (1 : Nat), (1 : Nat)], PI.inLoop [(1 : Nat), (1 : Nat), (1 : Nat), (1 : Nat), (1 : Nat), (1 : Nat), (0 : Nat), (1 : Nat), (0 : Nat), (0 : Nat)], PI.inBlock (4 : Nat), PI.code [(1 : Nat), (1 : Nat), (1 : Nat), (1 : Nat), (1 : Nat), (1 : Nat), (1 : Nat)]] { n := (89 : Nat), fr := [((2 : Nat), SV.x (SX.c (SC.pd (PD.int IntKind.i64 (0 : Int))))), ((3 : Nat), SV.x (SX.c (SC.pd (PD.v (Value.slice none (0 : Nat) (0 : Nat)))))), ((4 : Nat), SV.x (SX.c (SC.pd (PD.int IntKind.i64 (0 : Int))))), ((5 : Nat), SV.x (SX.c (SC.pd (PD.int IntKind.i64 d)))), ((6 : Nat), SV.x (SX.c (SC.own (0 : Nat)))), ((9 : Nat), SV.x (SX.c (SC.pd (PD.int IntKind.i64 (↑k : Int))))), ((10 : Nat), SV.x (SX.c (SC.pd (PD.int IntKind.i64 (0 : Int)))))], ck := [Chunk.own (9 : Nat) ETy.str out] })))) (Tree.ret (SV.tup [SX.c (SC.pd (PD.int IntKind.i64 d)), SX.c (SC.own (0 : Nat)), SX.c (SC.pd (PD.int IntKind.i64 (0 : Int)))]) [Chunk.own (9 : Nat) ETy.str out]))) (by kernel_rfl) ?_
    refine ⟨fun hlt => ?_, fun hge => ?_⟩
    · have hk' : k < out.length := by have := of_decide_eq_true hlt; omega
      have hg : ETy.get .str out k = out[k] := ETy.get_eq (t := .str) (List.getElem?_eq_getElem hk')
      rw [hg]
      have hL : strLen out[k] = (out[k].length : Int) := rfl
      refine ⟨by omega, hk', fun h0 => ?_, fun h0 => ?_⟩
      · have h0' : out[k] = [] := by
          have : strLen out[k] = 0 := by simpa using h0
          exact List.length_eq_zero_iff.1 (by omega)
        exact LineQ.bad (all_bad hk' (by rw [h0']; rfl))
      · have h0' : out[k] ≠ [] := by
          intro e
          have : strLen out[k] ≠ 0 := by simpa using h0
          exact this (by rw [e]; rfl)
        first
        | (exfalso; omega)
        | exact ref_byte_loop Γ d out k hk' hlen hml (fun hv => ih (k + 1) (by omega) (by omega) (all_take_succ hk' hall hv)) h0' out[k].length 0 (by omega) (by omega) (by simp)
    · have hk' : k = out.length := by have := of_decide_eq_false hge; omega
      rw [hk', List.take_length] at hall
      exact LineQ.ok hall
theorem ref_split_loop (s : Str) (Γ : Ctx) (d : Int) (W : List Str) (hs : s.length ≤ 2097152) (hlen : ∀ w ∈ W, w.length ≤ 3000000) : ∀ (n k f : Nat) (out : List Str), s.length + 1 - k ≤ n → k ≤ s.length + 1 → f ≤ k → out.length ≤ f → (k ≤ s.length → out ++ splitGo (seg s f k) (s.drop k) = W) → (k = s.length + 1 → out = W) →
    J Tryd.prog 11 (bodyOf Tryd.f11) Γ (LineQ d W) [PI.code [(1 : Nat), (1 : Nat), (1 : Nat), (1 : Nat), (1 : Nat), (0 : Nat), (1 : Nat), (0 : Nat), (0 : Nat)], PI.inLoop [(1 : Nat), (1 : Nat), (1 : Nat), (1 : Nat), (1 : Nat), (0 : Nat), (1 : Nat), (0 : Nat), (0 : Nat)], PI.inBlock (2 : Nat), PI.code [(1 : Nat), (1 : Nat), (1 : Nat), (1 : Nat), (1 : Nat), (1 : Nat)]] ({ n := (89 : Nat), fr := [(0, SV.x (SX.c (SC.pd (PD.str s)))), (2, SV.x (SX.c (SC.pd (PD.int IntKind.i64 (0 : Int))))), (3, SV.x (SX.c (SC.pd (PD.v (Value.slice none (0 : Nat) (0 : Nat)))))), (4, SV.x (SX.c (SC.pd (PD.int IntKind.i64 (0 : Int))))), (5, SV.x (SX.c (SC.pd (PD.int IntKind.i64 (d))))), (6, SV.x (SX.c (SC.own 0))), (7, SV.x (SX.c (SC.pd (PD.int IntKind.i64 ((f : Int)))))), (8, SV.x (SX.c (SC.pd (PD.int IntKind.i64 ((k : Int))))))], ck := [Chunk.own 9 ETy.str out] }) := by
  intro n
  induction n with
  | zero => ?_
  | succ n ih => ?_
  all_goals
    intro k f out hn hk hf hlo h1 h2
    refine J.go (cfg := cfg0) cfg0_ok Tryd.func11 1000 (t := (Tree.ite (decide ((↑k : Int) ≤ strLen s)) (Tree.need (((↑k : Int) == strLen s) = false → (0 : Int) ≤ (↑k : Int) ∧ (↑k : Int) < strLen s) (Tree.ite ((↑k : Int) == strLen s || (↑(UInt8.toNat (List.getD s k (0 : UInt8))) : Int) == (32 : Int)) (Tree.need ((0 : Int) ≤ (↑f : Int) ∧ (↑f : Int) ≤ (↑k : Int) ∧ (↑k : Int) ≤ (↑(List.length s) : Int)) (Tree.need (room (List.length (out ++ [Prod.snd (cutL s (some (↑f : Int)) (some (↑k : Int)))])) (16 : Nat)) (Tree.stop [PI.code [(1 : Nat), (1 : Nat), (1 : Nat), (1 : Nat), (1 : Nat), (0 : Nat), (1 : Nat), (0 : Nat), (0 : Nat)], PI.inLoop [(1 : Nat), (1 : Nat), (1 : Nat), (1 : Nat), (1 : Nat), (0 : Nat), (1 : Nat), (0 : Nat), (0 : Nat)], PI.inBlock (2 : Nat), PI.code [(1 : Nat), (1 : Nat), (1 : Nat), (1 : Nat), (1 : Nat), (1 : Nat)]] { n := (89 : Nat), fr := [((0 : Nat), SV.x (SX.c (SC.pd (PD.str s)))), ((2 : Nat), SV.x (SX.c (SC.pd (PD.int IntKind.i64 (0 : Int))))), ((3 : Nat), SV.x (SX.c (SC.pd (PD.v (Value.slice none (0 : Nat) (0 : Nat)))))), ((4 : Nat), SV.x (SX.c (SC.pd (PD.int IntKind.i64 (0 : Int))))), ((5 : Nat), SV.x (SX.c (SC.pd (PD.int IntKind.i64 d)))), ((6 : Nat), SV.x (SX.c (SC.own (0 : Nat)))), ((7 : Nat), SV.x (SX.c (SC.pd (PD.int IntKind.i64 (IntKind.wrap IntKind.i64 ((↑k : Int) + (1 : Int))))))), ((8 : Nat), SV.x (SX.c (SC.pd (PD.int IntKind.i64 (IntKind.wrap IntKind.i64 ((↑k : Int) + (1 : Int)))))))], ck := [Chunk.own (9 : Nat) ETy.str (out ++ [Prod.snd (cutL s (some (↑f : Int)) (some (↑k : Int)))])] }))) (Tree.stop [PI.code [(1 : Nat), (1 : Nat), (1 : Nat), (1 : Nat), (1 : Nat), (0 : Nat), (1 : Nat), (0 : Nat), (0 : Nat)], PI.inLoop [(1 : Nat), (1 : Nat), (1 : Nat), (1 : Nat), (1 : Nat), (0 : Nat), (1 : Nat), (0 : Nat), (0 : Nat)], PI.inBlock (2 : Nat), PI.code [(1 : Nat), (1 : Nat), (1 : Nat), (1 : Nat), (1 : Nat), (1 : Nat)]] { n := (89 : Nat), fr := [((0 : Nat), SV.x (SX.c (SC.pd (PD.str s)))), ((2 : Nat), SV.x (SX.c (SC.pd (PD.int IntKind.i64 (0 : Int))))), ((3 : Nat), SV.x (SX.c (SC.pd (PD.v (Value.slice none (0 : Nat) (0 : Nat)))))), ((4 : Nat), SV.x (SX.c (SC.pd (PD.int IntKind.i64 (0 : Int))))), ((5 : Nat), SV.x (SX.c (SC.pd (PD.int IntKind.i64 d)))), ((6 : Nat), SV.x (SX.c (SC.own (0 : Nat)))), ((7 : Nat), SV.x (SX.c (SC.pd (PD.int IntKind.i64 (↑f : Int))))), ((8 : Nat), SV.x (SX.c (SC.pd (PD.int IntKind.i64 (IntKind.wrap IntKind.i64 ((↑k : Int) + (1 : Int)))))))], ck := [Chunk.own (9 : Nat) ETy.str out] }))) (Tree.stop [PI.code [(1 : Nat), (1 : Nat), (1 : Nat), (1 : Nat), (1 : Nat), (1 : Nat), (0 : Nat), (1 : Nat), (0 : Nat), (0 : Nat)], PI.inLoop [(1 : Nat), (1 : Nat), (1 : Nat), (1 : Nat), (1 : Nat), (1 : Nat), (0 : Nat), (1 : Nat), (0 : Nat), (0 : Nat)], PI.inBlock (4 : Nat), PI.code [(1 : Nat), (1 : Nat), (1 : Nat), (1 : Nat), (1 : Nat), (1 : Nat), (1 : Nat)]] { n := (89 : Nat), fr := [((2 : Nat), SV.x (SX.c (SC.pd (PD.int IntKind.i64 (0 : Int))))), ((3 : Nat), SV.x (SX.c (SC.pd (PD.v (Value.slice none (0 : Nat) (0 : Nat)))))), ((4 : Nat), SV.x (SX.c (SC.pd (PD.int IntKind.i64 (0 : Int))))), ((5 : Nat), SV.x (SX.c (SC.pd (PD.int IntKind.i64 d)))), ((6 : Nat), SV.x (SX.c (SC.own (0 : Nat)))), ((9 : Nat), SV.x (SX.c (SC.pd (PD.int IntKind.i64 (0 : Int)))))], ck := [Chunk.own (9 : Nat) ETy.str out] }))) (by kernel_rfl) ?_
    have hL : strLen s = (s.length : Int) := rfl
    have hcut : (cutL s (some (f : Int)) (some (k : Int))).2 = seg s f k := rfl
    rw [hcut]
    refine ⟨fun hle => ?_, fun hgt => ?_⟩
    · have hk' : k ≤ s.length := by have := of_decide_eq_true hle; omega
      have hW := h1 hk'
      refine ⟨fun h => ?_, fun h => ⟨by omega, room_str (by rw [List.length_append]; simp; omega), ?_⟩, fun h => ?_⟩
      · have : (k : Int) ≠ strLen s := by simpa using h
        omega
      · rw [wrapK (by omega)]
        first
        | (exfalso; omega)
        | refine ih (k + 1) (k + 1) (out ++ [seg s f k]) (by omega) (by omega) (by omega) (by rw [List.length_append]; simp; omega) (fun hk2 => ?_) (fun hk2 => ?_)
          · have hlt : k < s.length := by omega
            have hb : (((s.getD k 0).toNat : Int) == 32) = true := by
              simp only [Bool.or_eq_true, beq_iff_eq] at h
              rcases h with h | h
              · omega
              · simpa using h
            rw [← hW, drop_byte hlt, seg_self]
            simp only [splitGo, hb, cond_true, List.append_assoc, List.cons_append, List.nil_append]
          · have he : k = s.length := by omega
            rw [← hW, List.drop_eq_nil_iff.2 (by omega)]; rfl
      · simp only [Bool.or_eq_false_iff] at h
        have hlt : k < s.length := by
          have : (k : Int) ≠ strLen s := by simpa using h.1
          omega
        rw [wrapK (by omega)]
        first
        | (exfalso; omega)
        | refine ih (k + 1) f out (by omega) (by omega) (by omega) hlo (fun _ => ?_) (fun hk2 => by omega)
          rw [← hW, drop_byte hlt, seg_succ hlt hf]
          simp only [splitGo, h.2, cond_false]
    · have hk' : k = s.length + 1 := by have := of_decide_eq_false hgt; omega
      have := h2 hk'
      subst this
      exact ref_word_loop Γ d out hlen out.length 0 (by omega) (by omega) (by simp)
theorem ref_ahead_loop (s : Str) (Γ : Ctx) (hs : s.length ≤ 2097152) : ∀ (n k : Nat), s.length - k ≤ n → k ≤ s.length → leadB s = k + leadB (s.drop k) →
    J Tryd.prog 11 (bodyOf Tryd.f11) Γ (LineQ (leadB s : Nat) (lineW s)) [PI.code [(1 : Nat), (1 : Nat), (0 : Nat), (0 : Nat), (0 : Nat)], PI.inLoop [(1 : Nat), (1 : Nat), (0 : Nat), (0 : Nat), (0 : Nat)], PI.inBlock (0 : Nat), PI.code [(1 : Nat), (1 : Nat), (1 : Nat)]] ({ n := (89 : Nat), fr := [(0, SV.x (SX.c (SC.pd (PD.str s)))), (2, SV.x (SX.c (SC.pd (PD.int IntKind.i64 (0 : Int))))), (3, SV.x (SX.c (SC.pd (PD.v (Value.slice none (0 : Nat) (0 : Nat)))))), (4, SV.x (SX.c (SC.pd (PD.int IntKind.i64 (0 : Int))))), (5, SV.x (SX.c (SC.pd (PD.int IntKind.i64 ((k : Int))))))], ck := [] }) := by
  intro n
  induction n with
  | zero => ?_
  | succ n ih => ?_
  all_goals
    intro k hn hk hlead
    refine J.go (cfg := cfg0) cfg0_ok Tryd.func11 1000 (t := (Tree.need (decide ((↑k : Int) < strLen s) = true → (0 : Int) ≤ (↑k : Int) ∧ (↑k : Int) < strLen s) (Tree.ite (decide ((↑k : Int) < strLen s) && (↑(UInt8.toNat (List.getD s k (0 : UInt8))) : Int) == (32 : Int)) (Tree.stop [PI.code [(1 : Nat), (1 : Nat), (0 : Nat), (0 : Nat), (0 : Nat)], PI.inLoop [(1 : Nat), (1 : Nat), (0 : Nat), (0 : Nat), (0 : Nat)], PI.inBlock (0 : Nat), PI.code [(1 : Nat), (1 : Nat), (1 : Nat)]] { n := (89 : Nat), fr := [((0 : Nat), SV.x (SX.c (SC.pd (PD.str s)))), ((2 : Nat), SV.x (SX.c (SC.pd (PD.int IntKind.i64 (0 : Int))))), ((3 : Nat), SV.x (SX.c (SC.pd (PD.v (Value.slice none (0 : Nat) (0 : Nat)))))), ((4 : Nat), SV.x (SX.c (SC.pd (PD.int IntKind.i64 (0 : Int))))), ((5 : Nat), SV.x (SX.c (SC.pd (PD.int IntKind.i64 (IntKind.wrap IntKind.i64 ((↑k : Int) + (1 : Int)))))))], ck := [] }) (Tree.stop [PI.code [(1 : Nat), (1 : Nat), (1 : Nat), (1 : Nat), (1 : Nat), (0 : Nat), (1 : Nat), (0 : Nat), (0 : Nat)], PI.inLoop [(1 : Nat), (1 : Nat), (1 : Nat), (1 : Nat), (1 : Nat), (0 : Nat), (1 : Nat), (0 : Nat), (0 : Nat)], PI.inBlock (2 : Nat), PI.code [(1 : Nat), (1 : Nat), (1 : Nat), (1 : Nat), (1 : Nat), (1 : Nat)]] { n := (89 : Nat), fr := [((0 : Nat), SV.x (SX.c (SC.pd (PD.str s)))), ((2 : Nat), SV.x (SX.c (SC.pd (PD.int IntKind.i64 (0 : Int))))), ((3 : Nat), SV.x (SX.c (SC.pd (PD.v (Value.slice none (0 : Nat) (0 : Nat)))))), ((4 : Nat), SV.x (SX.c (SC.pd (PD.int IntKind.i64 (0 : Int))))), ((5 : Nat), SV.x (SX.c (SC.pd (PD.int IntKind.i64 (↑k : Int))))), ((6 : Nat), SV.x (SX.c (SC.pd (PD.v (Value.slice none (0 : Nat) (0 : Nat)))))), ((7 : Nat), SV.x (SX.c (SC.pd (PD.int IntKind.i64 (↑k : Int))))), ((8 : Nat), SV.x (SX.c (SC.pd (PD.int IntKind.i64 (↑k : Int)))))], ck := [] })))) (by kernel_rfl) ?_
    have hL : strLen s = (s.length : Int) := rfl
    refine ⟨fun h => by have := of_decide_eq_true h; omega, fun h => ?_, fun h => ?_⟩
    · have h' : k < s.length ∧ (((s.getD k 0).toNat : Int) == 32) = true := by
        simp only [Bool.and_eq_true, decide_eq_true_eq] at h
        exact ⟨by omega, h.2⟩
      rw [wrapK (by omega)]
      first
      | (exfalso; omega)
      | exact ih (k + 1) (by omega) (by omega) (by rw [hlead, drop_byte h'.1, leadB, h'.2, cond_true]; omega)
    · have e : leadB s = k := by
        by_cases hlt : k < s.length
        · have hb : (((s.getD k 0).toNat : Int) == 32) = false := by
            cases hb : (((s.getD k 0).toNat : Int) == 32)
            · rfl
            · have e1 : decide ((k : Int) < strLen s) = true := decide_eq_true (by omega)
              rw [e1, hb] at h; cases h
          rw [hlead, drop_byte hlt, leadB, hb, cond_false]; omega
        · rw [hlead, List.drop_eq_nil_iff.2 (by omega)]; rfl
      have hlen : ∀ w ∈ lineW s, w.length ≤ 3000000 := by
        intro w hw
        have := split_word _ _ w hw
        rw [List.length_drop] at this
        simp at this; omega
      refine J.nilOwn 6 9 .str rfl rfl ?_
      have hd : ((leadB s : Nat) : Int) = (k : Int) := by omega
      rw [hd]
      refine ref_split_loop s Γ _ _ hs hlen (s.length + 1) k k [] (by omega) (by omega) (by omega) (by simp) (fun _ => ?_) (fun h => by omega)
      rw [lineW, e, seg_self]; rfl
theorem ref_line_start (s : Str) (Γ : Ctx) (Q : Out) (hQ : ∀ v ck, LineQ (leadB s : Nat) (lineW s) v ck → Q v ck) (hs : s.length ≤ 2097152) : J Tryd.prog 11 (bodyOf Tryd.f11) Γ Q [.code []] (initST Tryd.f11.ntmps [.s s] []) := by
  refine J.go (cfg := cfg0) cfg0_ok Tryd.func11 1000 (t := (Tree.stop [PI.code [(1 : Nat), (1 : Nat), (0 : Nat), (0 : Nat), (0 : Nat)], PI.inLoop [(1 : Nat), (1 : Nat), (0 : Nat), (0 : Nat), (0 : Nat)], PI.inBlock (0 : Nat), PI.code [(1 : Nat), (1 : Nat), (1 : Nat)]] { n := (89 : Nat), fr := [((0 : Nat), SV.x (SX.c (SC.pd (PD.str s)))), ((2 : Nat), SV.x (SX.c (SC.pd (PD.int IntKind.i64 (0 : Int))))), ((3 : Nat), SV.x (SX.c (SC.pd (PD.v (Value.slice none (0 : Nat) (0 : Nat)))))), ((4 : Nat), SV.x (SX.c (SC.pd (PD.int IntKind.i64 (0 : Int))))), ((5 : Nat), SV.x (SX.c (SC.pd (PD.int IntKind.i64 (0 : Int)))))], ck := [] })) (by kernel_rfl) ?_
  exact J.mono hQ (ref_ahead_loop s Γ hs s.length 0 (by omega) (by omega) (by simp))
theorem ref_line_ok (s : Str) (hs : s.length ≤ 2097152) (h : lineOk s = true) : Does Tryd.prog 11 [.s s] [] (.tup [.i (leadB s : Nat), .c (.own 0), .i 0]) [.own 9 .str (lineW s)] :=
  Does.of Tryd.func11 (by kernel_rfl) (by kernel_rfl) fun Γ => ref_line_start s Γ _ (fun v ck q => q.1 h) hs
theorem ref_line_bad (s : Str) (hs : s.length ≤ 2097152) (h : lineOk s = false) : Does Tryd.prog 11 [.s s] [] (.tup [.i 0, .c (.pd (.v (.slice none 0 0))), .i 1]) [] :=
  Does.of Tryd.func11 (by kernel_rfl) (by kernel_rfl) fun Γ => ref_line_start s Γ _ (fun v ck q => q.2 h) hs

theorem same_loop (a b : List Str) (Γ : Ctx) (hl : a.length ≤ maxLen) (he : a.length = b.length) : ∀ (n k : Nat), a.length - k ≤ n → k ≤ a.length → a.take k = b.take k →
    J Tryd.prog 13 (bodyOf Tryd.f13) Γ (Eq2 (.x (.b (a == b))) []) [PI.code [(1 : Nat), (1 : Nat), (0 : Nat), (1 : Nat), (0 : Nat), (0 : Nat)], PI.inLoop [(1 : Nat), (1 : Nat), (0 : Nat), (1 : Nat), (0 : Nat), (0 : Nat)], PI.inBlock (0 : Nat), PI.code [(1 : Nat), (1 : Nat), (1 : Nat)]] ({ n := (26 : Nat), fr := [(0, SV.x (SX.c (SC.pd (PD.lst ETy.str a)))), (1, SV.x (SX.c (SC.pd (PD.lst ETy.str b)))), (4, SV.x (SX.c (SC.pd (PD.bool false)))), (5, SV.x (SX.c (SC.pd (PD.int IntKind.i64 ((k : Int))))))], ck := [], kn := [(4 : Nat)] }) := by
  intro n
  induction n with
  | zero => ?_
  | succ n ih => ?_
  all_goals
    intro k hn hk htk
    refine J.go (cfg := cfg0) cfg0_ok Tryd.func13 1000 (t := (Tree.ite (decide ((↑k : Int) < (↑(List.length a) : Int))) (Tree.need ((0 : Int) ≤ (↑k : Int) ∧ (↑k : Int) < (↑(List.length a) : Int)) (Tree.need ((0 : Int) ≤ (↑k : Int) ∧ (↑k : Int) < (↑(List.length b) : Int)) (Tree.ite (!ETy.get ETy.str a k == ETy.get ETy.str b k) (Tree.ret (SV.x (SX.c (SC.pd (PD.bool false)))) []) (Tree.stop [PI.code [(1 : Nat), (1 : Nat), (0 : Nat), (1 : Nat), (0 : Nat), (0 : Nat)], PI.inLoop [(1 : Nat), (1 : Nat), (0 : Nat), (1 : Nat), (0 : Nat), (0 : Nat)], PI.inBlock (0 : Nat), PI.code [(1 : Nat), (1 : Nat), (1 : Nat)]] { n := (26 : Nat), fr := [((0 : Nat), SV.x (SX.c (SC.pd (PD.lst ETy.str a)))), ((1 : Nat), SV.x (SX.c (SC.pd (PD.lst ETy.str b)))), ((4 : Nat), SV.x (SX.c (SC.pd (PD.bool false)))), ((5 : Nat), SV.x (SX.c (SC.pd (PD.int IntKind.i64 (IntKind.wrap IntKind.i64 ((↑k : Int) + (1 : Int)))))))], ck := [] })))) (Tree.ret (SV.x (SX.c (SC.pd (PD.bool true)))) []))) (by kernel_rfl) ?_
    refine ⟨fun hlt => ?_, fun hge => ?_⟩
    · have hk' : k < a.length := by have := of_decide_eq_true hlt; omega
      have hk2 : k < b.length := by omega
      have hg : ETy.get .str a k = a[k] := ETy.get_eq (t := .str) (List.getElem?_eq_getElem hk')
      have hg2 : ETy.get .str b k = b[k] := ETy.get_eq (t := .str) (List.getElem?_eq_getElem hk2)
      rw [hg, hg2]
      refine ⟨by omega, by omega, fun h => ⟨?_, rfl⟩, fun h => ?_⟩
      · have h' : a[k] ≠ b[k] := by simpa using h
        have : (a == b) = false := by
          rw [beq_eq_false_iff_ne]
          intro e; subst e; exact h' rfl
        rw [this]
      · have h' : a[k] = b[k] := by simpa using h
        rw [wrapK (maxLen_lt hk' hl)]
        first
        | (exfalso; omega)
        | exact J.kn [4] (ih (k + 1) (by omega) (by omega) (by rw [List.take_succ_eq_append_getElem hk', List.take_succ_eq_append_getElem hk2, htk, h']))
    · have hk' : k = a.length := by have := of_decide_eq_false hge; omega
      rw [hk', List.take_length, he, List.take_length] at htk
      subst htk
      exact ⟨by simp, rfl⟩
theorem same_spec (a b : List Str) : Does Tryd.prog 13 [.l .str a, .l .str b] [] (.x (.b (a == b))) [] := by
  refine Does.go (cfg := cfg0) cfg0_ok Tryd.func13 (by kernel_rfl) (by kernel_rfl) (t := (Tree.ite ((↑(List.length a) : Int) != (↑(List.length b) : Int)) (Tree.ret (SV.x (SX.c (SC.pd (PD.bool false)))) []) (Tree.stop [PI.code [(1 : Nat), (1 : Nat), (0 : Nat), (1 : Nat), (0 : Nat), (0 : Nat)], PI.inLoop [(1 : Nat), (1 : Nat), (0 : Nat), (1 : Nat), (0 : Nat), (0 : Nat)], PI.inBlock (0 : Nat), PI.code [(1 : Nat), (1 : Nat), (1 : Nat)]] { n := (26 : Nat), fr := [((0 : Nat), SV.x (SX.c (SC.pd (PD.lst ETy.str a)))), ((1 : Nat), SV.x (SX.c (SC.pd (PD.lst ETy.str b)))), ((4 : Nat), SV.x (SX.c (SC.pd (PD.bool false)))), ((5 : Nat), SV.x (SX.c (SC.pd (PD.int IntKind.i64 (0 : Int)))))], ck := [], kn := [(4 : Nat)] }))) (by kernel_rfl) fun Γ => ?_
  refine ⟨fun h => ⟨?_, rfl⟩, fun h => ?_⟩
  · have h' : (a.length : Int) ≠ b.length := by simpa using h
    have : (a == b) = false := by
      rw [beq_eq_false_iff_ne]
      intro e; subst e; exact h' rfl
    rw [this]
  · have h' : a.length = b.length := by
      have : (a.length : Int) = b.length := by simpa using h
      omega
    exact J.len 0 rfl fun hl => same_loop a b Γ hl h' a.length 0 (by omega) (by omega) (by simp)
def eSame : Nat × (List SX → List Chunk → Option (Option Prop × SV × List Chunk)) := (13, fun
  | [.c (.pd (.lst .str a)), .c (.pd (.lst .str b))], [] => some (none, .x (.c (.pd (.bool (a == b)))), [])
  | _, _ => none)
theorem eSame_ok (vs : List SX) (ck : List Chunk) (p : Option Prop) (ret : SV) (ck' : List Chunk) (h : eSame.2 vs ck = some (p, ret, ck')) (hp : Holds p) : Does Tryd.prog eSame.1 vs ck ret ck' := by
  unfold eSame at h
  simp only at h
  split at h
  · rename_i a b
    simp only [Option.some.injEq, Prod.mk.injEq] at h
    obtain ⟨rfl, rfl, rfl⟩ := h
    exact same_spec a b
  · simp at h
end Go.Proofs.YtmbllhdejeeibaaDoor

/- The law WordsJoins' walk. Conditions: an uint8. -/
import Derived.Test.YtmbllhdejeeibaaDoorKf
namespace Go.Proofs.YtmbllhdejeeibaaDoor
open Go Go.Ev
set_option maxRecDepth 100000
/-! ### plain -/
def blanks (n : Nat) : Str := List.replicate n 32
theorem split_good : ∀ (w : Str) (cur rest : List UInt8), w.all good = true → splitGo cur (w ++ rest) = splitGo (cur ++ w) rest
  | [], cur, rest, _ => by simp
  | c :: w, cur, rest, h => by
    simp only [List.all_cons, Bool.and_eq_true] at h
    rw [List.cons_append, splitGo, good_not h.1, cond_false, split_good w (cur ++ [c]) rest h.2]; simp
theorem split_glue : ∀ (l : List Str) (cur : Str), l.all validW = true → splitGo cur (glue l) = cur :: l
  | [], cur, _ => rfl
  | w :: r, cur, h => by
    simp only [List.all_cons, Bool.and_eq_true] at h
    have hw : w.all good = true := by simp only [validW, Bool.and_eq_true] at h; exact h.1.2
    have e : glue (w :: r) = 32 :: (w ++ glue r) := by simp [glue]
    have hb : (((32 : UInt8).toNat : Int) == 32) = true := by decide
    rw [e, splitGo, hb, cond_true, split_good w [] _ hw, List.nil_append, split_glue r w h.2]
theorem split_join {l : List Str} (hl : l ≠ []) (h : l.all validW = true) : splitGo [] (joinW l) = l := by
  cases l with
  | nil => exact absurd rfl hl
  | cons w r =>
    simp only [List.all_cons, Bool.and_eq_true] at h
    have hw : w.all good = true := by simp only [validW, Bool.and_eq_true] at h; exact h.1.2
    rw [joinW, split_good w [] _ hw, List.nil_append, split_glue r w h.2]
theorem lead_blanks (r : List UInt8) (h : leadB r = 0) : ∀ n, leadB (blanks n ++ r) = n
  | 0 => by simpa [blanks] using h
  | n + 1 => by
    have hb : (((32 : UInt8).toNat : Int) == 32) = true := by decide
    have e : blanks (n + 1) ++ r = 32 :: (blanks n ++ r) := by simp [blanks, List.replicate_succ]
    rw [e, leadB, hb, cond_true, lead_blanks r h n]
theorem lead_join {l : List Str} (hl : l ≠ []) (h : l.all validW = true) : leadB (joinW l) = 0 := by
  cases l with
  | nil => exact absurd rfl hl
  | cons w r =>
    simp only [List.all_cons, Bool.and_eq_true, validW] at h
    cases w with
    | nil => simp at h
    | cons c w =>
      have hc : good c = true := by have := h.1.2; simp only [List.all_cons, Bool.and_eq_true] at this; exact this.1
      rw [joinW, List.cons_append, leadB, good_not hc, cond_false]
theorem join_lines {l : List Str} (n : Nat) (hl : l ≠ []) (h : l.all validW = true) : leadB (blanks n ++ joinW l) = n ∧ lineW (blanks n ++ joinW l) = l := by
  have e := lead_blanks (joinW l) (lead_join hl h) n
  refine ⟨e, ?_⟩
  rw [lineW, e]
  have : (blanks n ++ joinW l).drop n = joinW l := by simp [blanks]
  rw [this, split_join hl h]
theorem glue_len (B : Nat) : ∀ l : List Str, (∀ w ∈ l, w.length ≤ B) → (glue l).length ≤ l.length * (B + 1)
  | [], _ => by simp [glue]
  | w :: r, h => by
    have ih := glue_len B r (fun x hx => h x (List.mem_cons_of_mem _ hx))
    have hw := h w List.mem_cons_self
    have e : glue (w :: r) = 32 :: (w ++ glue r) := by simp [glue]
    rw [e]
    simp only [List.length_cons, List.length_append, Nat.add_mul, Nat.one_mul]
    omega
theorem join_len (B : Nat) (l : List Str) (h : ∀ w ∈ l, w.length ≤ B) : (joinW l).length ≤ l.length * (B + 1) := by
  cases l with
  | nil => simp [joinW]
  | cons w r =>
    have h1 := glue_len B r (fun x hx => h x (List.mem_cons_of_mem _ hx))
    have hw := h w List.mem_cons_self
    simp only [joinW, List.length_cons, List.length_append, Nat.add_mul, Nat.one_mul]
    omega
theorem join_take {l : List Str} {k : Nat} (h : k < l.length) : joinW (l.take (k + 1)) = joinW (l.take k) ++ (if 0 < k then [32] else []) ++ l[k] := by
  cases l with
  | nil => simp at h
  | cons w r =>
    cases k with
    | zero => simp [joinW, glue]
    | succ k =>
      have h' : k < r.length := by simpa using h
      simp only [List.take_succ_cons, joinW, List.getElem_cons_succ]
      have e := List.take_succ_eq_append_getElem h'
      simp only [glue, e, List.flatMap_append, List.flatMap_cons, List.flatMap_nil, List.append_nil]
      simp
/-! ### the walk -/
/-- The first k words may be, and are not long. -/
def Fine (l : List Str) (k : Nat) : Prop := (l.take k).all validW = true ∧ ∀ w ∈ l.take k, w.length ≤ 1000



theorem joins_bytes (l : List Str) (d : Int) (Γ : Ctx) (k : Nat) (hk : k < l.length) (o : Str) (hw : l[k].length ≤ 1000) (ho : o.length ≤ 200000) (hne : l[k] ≠ [])
    (hnext : validW l[k] = true → J Tryd.prog 5 (bodyOf Tryd.f5) Γ (Eq2 (.x (.b true)) []) [PI.code [(1 : Nat), (1 : Nat), (1 : Nat), (1 : Nat), (1 : Nat), (0 : Nat), (1 : Nat), (0 : Nat), (0 : Nat)], PI.inLoop [(1 : Nat), (1 : Nat), (1 : Nat), (1 : Nat), (1 : Nat), (0 : Nat), (1 : Nat), (0 : Nat), (0 : Nat)], PI.inBlock (2 : Nat), PI.code [(1 : Nat), (1 : Nat), (1 : Nat), (1 : Nat), (1 : Nat), (1 : Nat)]] ({ n := (103 : Nat), fr := [(0, SV.x (SX.c (SC.pd (PD.lst ETy.str l)))), (1, SV.x (SX.c (SC.pd (PD.int IntKind.u8 d)))), (4, SV.x (SX.c (SC.pd (PD.bool false)))), (5, SV.x (SX.c (SC.pd (PD.str ((o ++ l[k])))))), (29, SV.x (SX.c (SC.pd (PD.int IntKind.i64 (↑(List.length l) : Int))))), (30, SV.x (SX.c (SC.pd (PD.int IntKind.i64 (((k + 1 : Nat) : Int))))))], ck := [], kn := [(4 : Nat)] })) (hl : l.length ≤ 100) : ∀ (n j : Nat), l[k].length - j ≤ n → j ≤ l[k].length → (l[k].take j).all good = true →
    J Tryd.prog 5 (bodyOf Tryd.f5) Γ (Eq2 (.x (.b true)) []) [PI.code [(1 : Nat), (1 : Nat), (1 : Nat), (1 : Nat), (1 : Nat), (0 : Nat), (1 : Nat), (0 : Nat), (0 : Nat), (1 : Nat), (1 : Nat), (0 : Nat), (0 : Nat), (1 : Nat), (1 : Nat), (1 : Nat), (0 : Nat), (1 : Nat), (0 : Nat), (0 : Nat)], PI.inLoop [(1 : Nat), (1 : Nat), (1 : Nat), (1 : Nat), (1 : Nat), (0 : Nat), (1 : Nat), (0 : Nat), (0 : Nat), (1 : Nat), (1 : Nat), (0 : Nat), (0 : Nat), (1 : Nat), (1 : Nat), (1 : Nat), (0 : Nat), (1 : Nat), (0 : Nat), (0 : Nat)], PI.inBlock (4 : Nat), PI.code [(1 : Nat), (1 : Nat), (1 : Nat), (1 : Nat), (1 : Nat), (0 : Nat), (1 : Nat), (0 : Nat), (0 : Nat), (1 : Nat), (1 : Nat), (0 : Nat), (0 : Nat), (1 : Nat), (1 : Nat), (1 : Nat), (1 : Nat)], PI.inBlock (3 : Nat), PI.code [(1 : Nat), (1 : Nat), (1 : Nat), (1 : Nat), (1 : Nat), (0 : Nat), (1 : Nat), (0 : Nat), (0 : Nat), (1 : Nat), (1 : Nat), (1 : Nat)], PI.inLoop [(1 : Nat), (1 : Nat), (1 : Nat), (1 : Nat), (1 : Nat), (0 : Nat), (1 : Nat), (0 : Nat), (0 : Nat)], PI.inBlock (2 : Nat), PI.code [(1 : Nat), (1 : Nat), (1 : Nat), (1 : Nat), (1 : Nat), (1 : Nat)]] ({ n := (103 : Nat), fr := [(0, SV.x (SX.c (SC.pd (PD.lst ETy.str l)))), (1, SV.x (SX.c (SC.pd (PD.int IntKind.u8 d)))), (4, SV.x (SX.c (SC.pd (PD.bool false)))), (5, SV.x (SX.c (SC.pd (PD.str (o))))), (29, SV.x (SX.c (SC.pd (PD.int IntKind.i64 (↑(List.length l) : Int))))), (30, SV.x (SX.c (SC.pd (PD.int IntKind.i64 (↑k : Int))))), (6, SV.x (SX.c (SC.pd (PD.int IntKind.i64 (↑k : Int))))), (55, SV.x (SX.c (SC.pd (PD.int IntKind.i64 (strLen (ETy.get ETy.str l k)))))), (56, SV.x (SX.c (SC.pd (PD.int IntKind.i64 ((j : Int))))))], ck := [], kn := [(4 : Nat)] }) := by
  have hg : ETy.get .str l k = l[k] := ETy.get_eq (t := .str) (List.getElem?_eq_getElem hk)
  intro n
  induction n with
  | zero => ?_
  | succ n ih => ?_
  all_goals
    intro j hn hj hall
    refine J.go (cfg := cfgWl1) cfgWl1_ok Tryd.func5 1000 (t := (Tree.ite (decide ((↑j : Int) < strLen (ETy.get ETy.str l k))) (Tree.need ((0 : Int) ≤ (↑k : Int) ∧ (↑k : Int) < (↑(List.length l) : Int)) (Tree.need ((0 : Int) ≤ (↑j : Int) ∧ (↑j : Int) < strLen (ETy.get ETy.str l k)) (Tree.need (decide ((↑(UInt8.toNat (List.getD (ETy.get ETy.str l k) j (0 : UInt8))) : Int) < (33 : Int)) = false → (0 : Int) ≤ (↑k : Int) ∧ (↑k : Int) < (↑(List.length l) : Int)) (Tree.need (decide ((↑(UInt8.toNat (List.getD (ETy.get ETy.str l k) j (0 : UInt8))) : Int) < (33 : Int)) = false → (0 : Int) ≤ (↑j : Int) ∧ (↑j : Int) < strLen (ETy.get ETy.str l k)) (Tree.ite (decide ((↑(UInt8.toNat (List.getD (ETy.get ETy.str l k) j (0 : UInt8))) : Int) < (33 : Int)) || decide ((↑(UInt8.toNat (List.getD (ETy.get ETy.str l k) j (0 : UInt8))) : Int) > (126 : Int))) (Tree.ret (SV.x (SX.c (SC.pd (PD.bool true)))) []) (Tree.stop [PI.code [(1 : Nat), (1 : Nat), (1 : Nat), (1 : Nat), (1 : Nat), (0 : Nat), (1 : Nat), (0 : Nat), (0 : Nat), (1 : Nat), (1 : Nat), (0 : Nat), (0 : Nat), (1 : Nat), (1 : Nat), (1 : Nat), (0 : Nat), (1 : Nat), (0 : Nat), (0 : Nat)], PI.inLoop [(1 : Nat), (1 : Nat), (1 : Nat), (1 : Nat), (1 : Nat), (0 : Nat), (1 : Nat), (0 : Nat), (0 : Nat), (1 : Nat), (1 : Nat), (0 : Nat), (0 : Nat), (1 : Nat), (1 : Nat), (1 : Nat), (0 : Nat), (1 : Nat), (0 : Nat), (0 : Nat)], PI.inBlock (4 : Nat), PI.code [(1 : Nat), (1 : Nat), (1 : Nat), (1 : Nat), (1 : Nat), (0 : Nat), (1 : Nat), (0 : Nat), (0 : Nat), (1 : Nat), (1 : Nat), (0 : Nat), (0 : Nat), (1 : Nat), (1 : Nat), (1 : Nat), (1 : Nat)], PI.inBlock (3 : Nat), PI.code [(1 : Nat), (1 : Nat), (1 : Nat), (1 : Nat), (1 : Nat), (0 : Nat), (1 : Nat), (0 : Nat), (0 : Nat), (1 : Nat), (1 : Nat), (1 : Nat)], PI.inLoop [(1 : Nat), (1 : Nat), (1 : Nat), (1 : Nat), (1 : Nat), (0 : Nat), (1 : Nat), (0 : Nat), (0 : Nat)], PI.inBlock (2 : Nat), PI.code [(1 : Nat), (1 : Nat), (1 : Nat), (1 : Nat), (1 : Nat), (1 : Nat)]] { n := (103 : Nat), fr := [((0 : Nat), SV.x (SX.c (SC.pd (PD.lst ETy.str l)))), ((1 : Nat), SV.x (SX.c (SC.pd (PD.int IntKind.u8 d)))), ((4 : Nat), SV.x (SX.c (SC.pd (PD.bool false)))), ((5 : Nat), SV.x (SX.c (SC.pd (PD.str o)))), ((29 : Nat), SV.x (SX.c (SC.pd (PD.int IntKind.i64 (↑(List.length l) : Int))))), ((30 : Nat), SV.x (SX.c (SC.pd (PD.int IntKind.i64 (↑k : Int))))), ((6 : Nat), SV.x (SX.c (SC.pd (PD.int IntKind.i64 (↑k : Int))))), ((55 : Nat), SV.x (SX.c (SC.pd (PD.int IntKind.i64 (strLen (ETy.get ETy.str l k)))))), ((56 : Nat), SV.x (SX.c (SC.pd (PD.int IntKind.i64 (IntKind.wrap IntKind.i64 ((↑j : Int) + (1 : Int)))))))], ck := [], kn := [(4 : Nat)] })))))) (Tree.need ((0 : Int) ≤ (↑k : Int) ∧ (↑k : Int) < (↑(List.length l) : Int)) (Tree.need (List.length o + List.length (ETy.get ETy.str l k) ≤ (9223372036854775807 : Nat)) (Tree.stop [PI.code [(1 : Nat), (1 : Nat), (1 : Nat), (1 : Nat), (1 : Nat), (0 : Nat), (1 : Nat), (0 : Nat), (0 : Nat)], PI.inLoop [(1 : Nat), (1 : Nat), (1 : Nat), (1 : Nat), (1 : Nat), (0 : Nat), (1 : Nat), (0 : Nat), (0 : Nat)], PI.inBlock (2 : Nat), PI.code [(1 : Nat), (1 : Nat), (1 : Nat), (1 : Nat), (1 : Nat), (1 : Nat)]] { n := (103 : Nat), fr := [((0 : Nat), SV.x (SX.c (SC.pd (PD.lst ETy.str l)))), ((1 : Nat), SV.x (SX.c (SC.pd (PD.int IntKind.u8 d)))), ((4 : Nat), SV.x (SX.c (SC.pd (PD.bool false)))), ((5 : Nat), SV.x (SX.c (SC.pd (PD.str (o ++ ETy.get ETy.str l k))))), ((29 : Nat), SV.x (SX.c (SC.pd (PD.int IntKind.i64 (↑(List.length l) : Int))))), ((30 : Nat), SV.x (SX.c (SC.pd (PD.int IntKind.i64 (IntKind.wrap IntKind.i64 ((↑k : Int) + (1 : Int)))))))], ck := [], kn := [(4 : Nat)] }))))) (by kernel_rfl) ?_
    first
    | rw [hg] at ih ⊢
    | rw [hg]
    have hL : strLen l[k] = (l[k].length : Int) := rfl
    refine ⟨fun h => ?_, fun h => ?_⟩
    · have hlt : j < l[k].length := by have := of_decide_eq_true h; omega
      have hgd : l[k].getD j 0 = l[k][j] := by rw [List.getD_eq_getElem?_getD, List.getElem?_eq_getElem hlt]; rfl
      rw [hgd, good_iff]
      refine ⟨by omega, by omega, fun _ => by omega, fun _ => by omega, fun _ => ⟨rfl, rfl⟩, fun hb => ?_⟩
      have hb' : good l[k][j] = true := by simpa using hb
      rw [wrapK (by omega)]
      first
      | (exfalso; omega)
      | exact ih (j + 1) (by omega) (by omega) (all_take_succ hlt hall hb')
    · have hje : j = l[k].length := by have := of_decide_eq_false h; omega
      rw [hje, List.take_length] at hall
      have e : IntKind.i64.wrap ((k : Int) + 1) = ((k + 1 : Nat) : Int) := wrapK (by omega)
      rw [e]
      exact ⟨by omega, by omega, hnext (by simp [validW, hall, hne])⟩
theorem fine_len {l : List Str} {k m : Nat} (hl : l.length ≤ 100) (hm : m < 20) (h : Fine l k) : (blanks m ++ joinW (l.take k)).length ≤ 100200 := by
  have := join_len 1000 (l.take k) h.2
  have h2 : (l.take k).length ≤ 100 := by rw [List.length_take]; omega
  have h3 : (l.take k).length * 1001 ≤ 100 * 1001 := Nat.mul_le_mul_right _ h2
  simp only [List.length_append, blanks, List.length_replicate]
  omega
theorem joins_words (l : List Str) (d : Int) (Γ : Ctx) (m : Nat) (hm : m < 20) (hd : IntKind.i64.wrap (Int.tmod d 20) = (m : Int)) (hl : l.length ≤ 100) (h0 : l ≠ []) : ∀ (n k : Nat), l.length - k ≤ n → k ≤ l.length → Fine l k →
    J Tryd.prog 5 (bodyOf Tryd.f5) Γ (Eq2 (.x (.b true)) []) [PI.code [(1 : Nat), (1 : Nat), (1 : Nat), (1 : Nat), (1 : Nat), (0 : Nat), (1 : Nat), (0 : Nat), (0 : Nat)], PI.inLoop [(1 : Nat), (1 : Nat), (1 : Nat), (1 : Nat), (1 : Nat), (0 : Nat), (1 : Nat), (0 : Nat), (0 : Nat)], PI.inBlock (2 : Nat), PI.code [(1 : Nat), (1 : Nat), (1 : Nat), (1 : Nat), (1 : Nat), (1 : Nat)]] ({ n := (103 : Nat), fr := [(0, SV.x (SX.c (SC.pd (PD.lst ETy.str l)))), (1, SV.x (SX.c (SC.pd (PD.int IntKind.u8 d)))), (4, SV.x (SX.c (SC.pd (PD.bool false)))), (5, SV.x (SX.c (SC.pd (PD.str ((blanks m ++ joinW (l.take k))))))), (29, SV.x (SX.c (SC.pd (PD.int IntKind.i64 (↑(List.length l) : Int))))), (30, SV.x (SX.c (SC.pd (PD.int IntKind.i64 ((k : Int))))))], ck := [], kn := [(4 : Nat)] }) := by
  intro n
  induction n with
  | zero => ?_
  | succ n ih => ?_
  all_goals
    intro k hn hk hf
    have hol := fine_len hl hm hf
    generalize ho : blanks m ++ joinW (l.take k) = o at *
    refine J.go (cfg := cfgWl1) cfgWl1_ok Tryd.func5 1000 (t := (Tree.ite (decide ((↑k : Int) < (↑(List.length l) : Int))) (Tree.ite (decide ((↑k : Int) > (0 : Int))) (Tree.need (List.length o + (1 : Nat) ≤ (9223372036854775807 : Nat)) (Tree.need ((0 : Int) ≤ (↑k : Int) ∧ (↑k : Int) < (↑(List.length l) : Int)) (Tree.need ((strLen (ETy.get ETy.str l k) == (0 : Int)) = false → (0 : Int) ≤ (↑k : Int) ∧ (↑k : Int) < (↑(List.length l) : Int)) (Tree.ite (strLen (ETy.get ETy.str l k) == (0 : Int) || decide (strLen (ETy.get ETy.str l k) > (1000 : Int))) (Tree.ret (SV.x (SX.c (SC.pd (PD.bool true)))) []) (Tree.need ((0 : Int) ≤ (↑k : Int) ∧ (↑k : Int) < (↑(List.length l) : Int)) (Tree.stop [PI.code [(1 : Nat), (1 : Nat), (1 : Nat), (1 : Nat), (1 : Nat), (0 : Nat), (1 : Nat), (0 : Nat), (0 : Nat), (1 : Nat), (1 : Nat), (0 : Nat), (0 : Nat), (1 : Nat), (1 : Nat), (1 : Nat), (0 : Nat), (1 : Nat), (0 : Nat), (0 : Nat)], PI.inLoop [(1 : Nat), (1 : Nat), (1 : Nat), (1 : Nat), (1 : Nat), (0 : Nat), (1 : Nat), (0 : Nat), (0 : Nat), (1 : Nat), (1 : Nat), (0 : Nat), (0 : Nat), (1 : Nat), (1 : Nat), (1 : Nat), (0 : Nat), (1 : Nat), (0 : Nat), (0 : Nat)], PI.inBlock (4 : Nat), PI.code [(1 : Nat), (1 : Nat), (1 : Nat), (1 : Nat), (1 : Nat), (0 : Nat), (1 : Nat), (0 : Nat), (0 : Nat), (1 : Nat), (1 : Nat), (0 : Nat), (0 : Nat), (1 : Nat), (1 : Nat), (1 : Nat), (1 : Nat)], PI.inBlock (3 : Nat), PI.code [(1 : Nat), (1 : Nat), (1 : Nat), (1 : Nat), (1 : Nat), (0 : Nat), (1 : Nat), (0 : Nat), (0 : Nat), (1 : Nat), (1 : Nat), (1 : Nat)], PI.inLoop [(1 : Nat), (1 : Nat), (1 : Nat), (1 : Nat), (1 : Nat), (0 : Nat), (1 : Nat), (0 : Nat), (0 : Nat)], PI.inBlock (2 : Nat), PI.code [(1 : Nat), (1 : Nat), (1 : Nat), (1 : Nat), (1 : Nat), (1 : Nat)]] { n := (103 : Nat), fr := [((0 : Nat), SV.x (SX.c (SC.pd (PD.lst ETy.str l)))), ((1 : Nat), SV.x (SX.c (SC.pd (PD.int IntKind.u8 d)))), ((4 : Nat), SV.x (SX.c (SC.pd (PD.bool false)))), ((5 : Nat), SV.x (SX.c (SC.pd (PD.str (o ++ [(32 : UInt8)]))))), ((29 : Nat), SV.x (SX.c (SC.pd (PD.int IntKind.i64 (↑(List.length l) : Int))))), ((30 : Nat), SV.x (SX.c (SC.pd (PD.int IntKind.i64 (↑k : Int))))), ((6 : Nat), SV.x (SX.c (SC.pd (PD.int IntKind.i64 (↑k : Int))))), ((55 : Nat), SV.x (SX.c (SC.pd (PD.int IntKind.i64 (strLen (ETy.get ETy.str l k)))))), ((56 : Nat), SV.x (SX.c (SC.pd (PD.int IntKind.i64 (0 : Int)))))], ck := [], kn := [(4 : Nat)] })))))) (Tree.need ((0 : Int) ≤ (↑k : Int) ∧ (↑k : Int) < (↑(List.length l) : Int)) (Tree.need ((strLen (ETy.get ETy.str l k) == (0 : Int)) = false → (0 : Int) ≤ (↑k : Int) ∧ (↑k : Int) < (↑(List.length l) : Int)) (Tree.ite (strLen (ETy.get ETy.str l k) == (0 : Int) || decide (strLen (ETy.get ETy.str l k) > (1000 : Int))) (Tree.ret (SV.x (SX.c (SC.pd (PD.bool true)))) []) (Tree.need ((0 : Int) ≤ (↑k : Int) ∧ (↑k : Int) < (↑(List.length l) : Int)) (Tree.stop [PI.code [(1 : Nat), (1 : Nat), (1 : Nat), (1 : Nat), (1 : Nat), (0 : Nat), (1 : Nat), (0 : Nat), (0 : Nat), (1 : Nat), (1 : Nat), (0 : Nat), (0 : Nat), (1 : Nat), (1 : Nat), (1 : Nat), (0 : Nat), (1 : Nat), (0 : Nat), (0 : Nat)], PI.inLoop [(1 : Nat), (1 : Nat), (1 : Nat), (1 : Nat), (1 : Nat), (0 : Nat), (1 : Nat), (0 : Nat), (0 : Nat), (1 : Nat), (1 : Nat), (0 : Nat), (0 : Nat), (1 : Nat), (1 : Nat), (1 : Nat), (0 : Nat), (1 : Nat), (0 : Nat), (0 : Nat)], PI.inBlock (4 : Nat), PI.code [(1 : Nat), (1 : Nat), (1 : Nat), (1 : Nat), (1 : Nat), (0 : Nat), (1 : Nat), (0 : Nat), (0 : Nat), (1 : Nat), (1 : Nat), (0 : Nat), (0 : Nat), (1 : Nat), (1 : Nat), (1 : Nat), (1 : Nat)], PI.inBlock (3 : Nat), PI.code [(1 : Nat), (1 : Nat), (1 : Nat), (1 : Nat), (1 : Nat), (0 : Nat), (1 : Nat), (0 : Nat), (0 : Nat), (1 : Nat), (1 : Nat), (1 : Nat)], PI.inLoop [(1 : Nat), (1 : Nat), (1 : Nat), (1 : Nat), (1 : Nat), (0 : Nat), (1 : Nat), (0 : Nat), (0 : Nat)], PI.inBlock (2 : Nat), PI.code [(1 : Nat), (1 : Nat), (1 : Nat), (1 : Nat), (1 : Nat), (1 : Nat)]] { n := (103 : Nat), fr := [((0 : Nat), SV.x (SX.c (SC.pd (PD.lst ETy.str l)))), ((1 : Nat), SV.x (SX.c (SC.pd (PD.int IntKind.u8 d)))), ((4 : Nat), SV.x (SX.c (SC.pd (PD.bool false)))), ((5 : Nat), SV.x (SX.c (SC.pd (PD.str o)))), ((29 : Nat), SV.x (SX.c (SC.pd (PD.int IntKind.i64 (↑(List.length l) : Int))))), ((30 : Nat), SV.x (SX.c (SC.pd (PD.int IntKind.i64 (↑k : Int))))), ((6 : Nat), SV.x (SX.c (SC.pd (PD.int IntKind.i64 (↑k : Int))))), ((55 : Nat), SV.x (SX.c (SC.pd (PD.int IntKind.i64 (strLen (ETy.get ETy.str l k)))))), ((56 : Nat), SV.x (SX.c (SC.pd (PD.int IntKind.i64 (0 : Int)))))], ck := [], kn := [(4 : Nat)] })))))) (Tree.need (List.length o ≤ (2097152 : Nat) ∧ lineOk o = true) (Tree.need (((0 : Int) == (0 : Int)) = true → (20 : Int) ≠ (0 : Int)) (Tree.ret (SV.x (SX.c (SC.pd (PD.bool (true && (↑(leadB o) : Int) == IntKind.wrap IntKind.i64 (Int.tmod d (20 : Int)) && l == lineW o))))) []))))) (by kernel_rfl) ?_
    refine ⟨fun hlt => ?_, fun hge => ?_⟩
    · have hk' : k < l.length := by have := of_decide_eq_true hlt; omega
      have hg : ETy.get .str l k = l[k] := ETy.get_eq (t := .str) (List.getElem?_eq_getElem hk')
      have hL : strLen l[k] = (l[k].length : Int) := rfl
      have hjt := join_take hk'
      have step : ∀ o' : Str, o' = o ++ (if 0 < k then [32] else []) → ¬ (strLen l[k] == 0 || decide (strLen l[k] > 1000)) = true → J Tryd.prog 5 (bodyOf Tryd.f5) Γ (Eq2 (.x (.b true)) []) [PI.code [(1 : Nat), (1 : Nat), (1 : Nat), (1 : Nat), (1 : Nat), (0 : Nat), (1 : Nat), (0 : Nat), (0 : Nat), (1 : Nat), (1 : Nat), (0 : Nat), (0 : Nat), (1 : Nat), (1 : Nat), (1 : Nat), (0 : Nat), (1 : Nat), (0 : Nat), (0 : Nat)], PI.inLoop [(1 : Nat), (1 : Nat), (1 : Nat), (1 : Nat), (1 : Nat), (0 : Nat), (1 : Nat), (0 : Nat), (0 : Nat), (1 : Nat), (1 : Nat), (0 : Nat), (0 : Nat), (1 : Nat), (1 : Nat), (1 : Nat), (0 : Nat), (1 : Nat), (0 : Nat), (0 : Nat)], PI.inBlock (4 : Nat), PI.code [(1 : Nat), (1 : Nat), (1 : Nat), (1 : Nat), (1 : Nat), (0 : Nat), (1 : Nat), (0 : Nat), (0 : Nat), (1 : Nat), (1 : Nat), (0 : Nat), (0 : Nat), (1 : Nat), (1 : Nat), (1 : Nat), (1 : Nat)], PI.inBlock (3 : Nat), PI.code [(1 : Nat), (1 : Nat), (1 : Nat), (1 : Nat), (1 : Nat), (0 : Nat), (1 : Nat), (0 : Nat), (0 : Nat), (1 : Nat), (1 : Nat), (1 : Nat)], PI.inLoop [(1 : Nat), (1 : Nat), (1 : Nat), (1 : Nat), (1 : Nat), (0 : Nat), (1 : Nat), (0 : Nat), (0 : Nat)], PI.inBlock (2 : Nat), PI.code [(1 : Nat), (1 : Nat), (1 : Nat), (1 : Nat), (1 : Nat), (1 : Nat)]] ({ n := (103 : Nat), fr := [(0, SV.x (SX.c (SC.pd (PD.lst ETy.str l)))), (1, SV.x (SX.c (SC.pd (PD.int IntKind.u8 d)))), (4, SV.x (SX.c (SC.pd (PD.bool false)))), (5, SV.x (SX.c (SC.pd (PD.str (o'))))), (29, SV.x (SX.c (SC.pd (PD.int IntKind.i64 (↑(List.length l) : Int))))), (30, SV.x (SX.c (SC.pd (PD.int IntKind.i64 (↑k : Int))))), (6, SV.x (SX.c (SC.pd (PD.int IntKind.i64 (↑k : Int))))), (55, SV.x (SX.c (SC.pd (PD.int IntKind.i64 (strLen (ETy.get ETy.str l k)))))), (56, SV.x (SX.c (SC.pd (PD.int IntKind.i64 ((0 : Int))))))], ck := [], kn := [(4 : Nat)] }) := by
        intro o' ho' hb
        simp only [Bool.or_eq_true, beq_iff_eq, decide_eq_true_eq] at hb
        have hne : l[k] ≠ [] := fun e => hb (.inl (by rw [e]; rfl))
        have hlen : o'.length ≤ 200000 := by
          rw [ho', List.length_append]
          split <;> simp <;> omega
        refine joins_bytes l d Γ k hk' o' (by omega) hlen hne (fun hv => ?_) hl l[k].length 0 (by omega) (by omega) (by simp)
        first
        | (exfalso; omega)
        | have := ih (k + 1) (by omega) (by omega) ⟨all_take_succ hk' hf.1 hv, fun w hw => by
            rw [List.take_succ_eq_append_getElem hk'] at hw
            rcases List.mem_append.1 hw with hw | hw
            · exact hf.2 w hw
            · simp at hw; rw [hw]; omega⟩
          have e : blanks m ++ joinW (l.take (k + 1)) = o' ++ l[k] := by rw [hjt, ho', ← ho]; simp
          rw [e] at this
          exact this
      refine ⟨fun hp => ?_, fun hp => ?_⟩
      · have hp' : 0 < k := by have := of_decide_eq_true hp; omega
        rw [hg]
        refine ⟨by omega, by omega, fun _ => by omega, fun _ => ⟨rfl, rfl⟩, fun hb => ⟨by omega, ?_⟩⟩
        have := step (o ++ [32]) (by rw [if_pos hp']) (by rw [hb]; simp)
        rw [hg] at this
        exact this
      · have hp' : ¬ 0 < k := by have := of_decide_eq_false hp; omega
        rw [hg]
        refine ⟨by omega, fun _ => by omega, fun _ => ⟨rfl, rfl⟩, fun hb => ⟨by omega, ?_⟩⟩
        have := step o (by rw [if_neg hp']; simp) (by rw [hb]; simp)
        rw [hg] at this
        exact this
    · have hk' : k = l.length := by have := of_decide_eq_false hge; omega
      rw [hk', List.take_length] at ho
      have hv : l.all validW = true := by have := hf.1; rw [hk', List.take_length] at this; exact this
      obtain ⟨e1, e2⟩ := join_lines m h0 hv
      rw [ho] at e1 e2
      refine ⟨⟨by omega, ?_⟩, fun _ => by decide, ?_, rfl⟩
      · rw [lineOk, e2]; exact hv
      · rw [e1, e2, hd]; simp
theorem wrap_u8 {n : Int} (h0 : 0 ≤ n) (h1 : n ≤ 255) : IntKind.u8.wrap n = n := by
  unfold IntKind.wrap
  simp only [IntKind.bits, IntKind.signed]
  simp
  omega
theorem joins_blank (l : List Str) (d : Int) (Γ : Ctx) (m : Nat) (hm : m < 20) (hd : IntKind.i64.wrap (Int.tmod d 20) = (m : Int)) (hl : l.length ≤ 100) (h0 : l ≠ []) : ∀ (n k : Nat), m - k ≤ n → k ≤ m →
    J Tryd.prog 5 (bodyOf Tryd.f5) Γ (Eq2 (.x (.b true)) []) [PI.code [(1 : Nat), (1 : Nat), (1 : Nat), (1 : Nat), (0 : Nat), (1 : Nat), (0 : Nat), (0 : Nat)], PI.inLoop [(1 : Nat), (1 : Nat), (1 : Nat), (1 : Nat), (0 : Nat), (1 : Nat), (0 : Nat), (0 : Nat)], PI.inBlock (0 : Nat), PI.code [(1 : Nat), (1 : Nat), (1 : Nat), (1 : Nat), (1 : Nat)]] ({ n := (103 : Nat), fr := [(0, SV.x (SX.c (SC.pd (PD.lst ETy.str l)))), (1, SV.x (SX.c (SC.pd (PD.int IntKind.u8 d)))), (4, SV.x (SX.c (SC.pd (PD.bool false)))), (5, SV.x (SX.c (SC.pd (PD.str ((blanks k)))))), (22, SV.x (.c (.pd (.int .u8 (m : Int))))), (23, SV.x (.c (.pd (.int .u8 (k : Int)))))], ck := [], kn := [(4 : Nat)] }) := by
  intro n
  induction n with
  | zero => ?_
  | succ n ih => ?_
  all_goals
    intro k hn hk
    have hol : (blanks k).length = k := by simp [blanks]
    have hs : blanks (k + 1) = blanks k ++ [32] := by simp [blanks, List.replicate_succ']
    generalize ho : blanks k = o at *
    refine J.go (cfg := cfgWl1) cfgWl1_ok Tryd.func5 1000 (t := (Tree.ite (decide ((↑k : Int) < (↑m : Int))) (Tree.need (List.length o + (1 : Nat) ≤ (9223372036854775807 : Nat)) (Tree.stop [PI.code [(1 : Nat), (1 : Nat), (1 : Nat), (1 : Nat), (0 : Nat), (1 : Nat), (0 : Nat), (0 : Nat)], PI.inLoop [(1 : Nat), (1 : Nat), (1 : Nat), (1 : Nat), (0 : Nat), (1 : Nat), (0 : Nat), (0 : Nat)], PI.inBlock (0 : Nat), PI.code [(1 : Nat), (1 : Nat), (1 : Nat), (1 : Nat), (1 : Nat)]] { n := (103 : Nat), fr := [((0 : Nat), SV.x (SX.c (SC.pd (PD.lst ETy.str l)))), ((1 : Nat), SV.x (SX.c (SC.pd (PD.int IntKind.u8 d)))), ((4 : Nat), SV.x (SX.c (SC.pd (PD.bool false)))), ((5 : Nat), SV.x (SX.c (SC.pd (PD.str (o ++ [(32 : UInt8)]))))), ((22 : Nat), SV.x (SX.c (SC.pd (PD.int IntKind.u8 (↑m : Int))))), ((23 : Nat), SV.x (SX.c (SC.pd (PD.int IntKind.u8 (IntKind.wrap IntKind.u8 ((↑k : Int) + (1 : Int)))))))], ck := [], kn := [(4 : Nat)] })) (Tree.stop [PI.code [(1 : Nat), (1 : Nat), (1 : Nat), (1 : Nat), (1 : Nat), (0 : Nat), (1 : Nat), (0 : Nat), (0 : Nat)], PI.inLoop [(1 : Nat), (1 : Nat), (1 : Nat), (1 : Nat), (1 : Nat), (0 : Nat), (1 : Nat), (0 : Nat), (0 : Nat)], PI.inBlock (2 : Nat), PI.code [(1 : Nat), (1 : Nat), (1 : Nat), (1 : Nat), (1 : Nat), (1 : Nat)]] { n := (103 : Nat), fr := [((0 : Nat), SV.x (SX.c (SC.pd (PD.lst ETy.str l)))), ((1 : Nat), SV.x (SX.c (SC.pd (PD.int IntKind.u8 d)))), ((4 : Nat), SV.x (SX.c (SC.pd (PD.bool false)))), ((5 : Nat), SV.x (SX.c (SC.pd (PD.str o)))), ((29 : Nat), SV.x (SX.c (SC.pd (PD.int IntKind.i64 (↑(List.length l) : Int))))), ((30 : Nat), SV.x (SX.c (SC.pd (PD.int IntKind.i64 (0 : Int)))))], ck := [], kn := [(4 : Nat)] }))) (by kernel_rfl) ?_
    refine ⟨fun hlt => ?_, fun hge => ?_⟩
    · have hk' : k < m := by have := of_decide_eq_true hlt; omega
      refine ⟨by omega, ?_⟩
      have e : IntKind.u8.wrap ((k : Int) + 1) = ((k + 1 : Nat) : Int) := by rw [wrap_u8 (by omega) (by omega)]; omega
      rw [e, ← hs]
      first
      | (exfalso; omega)
      | exact ih (k + 1) (by omega) (by omega)
    · have hk' : k = m := by have := of_decide_eq_false hge; omega
      have := joins_words l d Γ m hm hd hl h0 l.length 0 (by omega) (by omega) ⟨by simp, by simp⟩
      have e : blanks m ++ joinW (l.take 0) = o := by rw [← ho, hk']; simp [joinW]
      rw [e] at this
      exact this
theorem words_joins_spec (l : List Str) (d : Int) (hd0 : 0 ≤ d) (hd1 : d ≤ 255) : Does Tryd.prog 5 [.l .str l, .c (.pd (.int .u8 d))] [] (.x (.b true)) [] := by
  refine Does.go (cfg := cfgWl1) cfgWl1_ok Tryd.func5 (by kernel_rfl) (by kernel_rfl) (t := (Tree.ite false (Tree.ret (SV.x (SX.c (SC.pd (PD.bool false)))) []) (Tree.ite ((↑(List.length l) : Int) == (0 : Int) || decide ((↑(List.length l) : Int) > (100 : Int))) (Tree.ret (SV.x (SX.c (SC.pd (PD.bool true)))) []) (Tree.need ((20 : Int) ≠ (0 : Int)) (Tree.stop [PI.code [(1 : Nat), (1 : Nat), (1 : Nat), (1 : Nat), (0 : Nat), (1 : Nat), (0 : Nat), (0 : Nat)], PI.inLoop [(1 : Nat), (1 : Nat), (1 : Nat), (1 : Nat), (0 : Nat), (1 : Nat), (0 : Nat), (0 : Nat)], PI.inBlock (0 : Nat), PI.code [(1 : Nat), (1 : Nat), (1 : Nat), (1 : Nat), (1 : Nat)]] { n := (103 : Nat), fr := [((0 : Nat), SV.x (SX.c (SC.pd (PD.lst ETy.str l)))), ((1 : Nat), SV.x (SX.c (SC.pd (PD.int IntKind.u8 d)))), ((4 : Nat), SV.x (SX.c (SC.pd (PD.bool false)))), ((5 : Nat), SV.x (SX.c (SC.pd (PD.str [])))), ((22 : Nat), SV.x (SX.c (SC.pd (PD.int IntKind.u8 (Int.tmod d (20 : Int)))))), ((23 : Nat), SV.x (SX.c (SC.pd (PD.int IntKind.u8 (0 : Int)))))], ck := [], kn := [(4 : Nat)] }))))) (by kernel_rfl) fun Γ => ?_
  refine ⟨fun h => Bool.noConfusion h, fun _ => ⟨fun _ => ⟨rfl, rfl⟩, fun h => ⟨by decide, ?_⟩⟩⟩
  simp only [Bool.or_eq_false_iff, beq_eq_false_iff_ne, decide_eq_false_iff_not] at h
  have ht : Int.tmod d 20 = d % 20 := Int.tmod_eq_emod_of_nonneg hd0
  have hm : Int.tmod d 20 = (((d % 20).toNat : Nat) : Int) := by rw [ht]; omega
  have hne : l ≠ [] := fun e => h.1 (by rw [e]; rfl)
  have := joins_blank l d Γ (d % 20).toNat (by omega) (by rw [hm, wrapI (by omega) (by omega)]) (by omega) hne (d % 20).toNat 0 (by omega) (by omega)
  rw [← hm] at this
  exact this
end Go.Proofs.YtmbllhdejeeibaaDoor

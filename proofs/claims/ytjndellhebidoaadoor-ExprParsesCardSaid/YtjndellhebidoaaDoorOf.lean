/- The laws ExprBack, ExprNormal, ExprWraps. Conditions: each one's own. -/
import Derived.Test.YtjndellhebidoaaDoorOc
import Derived.Test.YtjndellhebidoaaDoorOe
namespace Go.Proofs.YtjndellhebidoaaDoor
open Go Go.Ev
set_option maxRecDepth 100000
def eShow1 : Nat × (List SX → List Chunk → Option (Option Prop × SV × List Chunk)) := (13, fun
  | [.c (.pd (.lst .cell l))], [] => some (some (rightM l = true), .tup [.c (.pd (.str (showM l))), .c (.pd (.int .i64 0))], [])
  | _, _ => none)
theorem eShow1_ok (vs : List SX) (ck : List Chunk) (p : Option Prop) (ret : SV) (ck' : List Chunk) (h : eShow1.2 vs ck = some (p, ret, ck')) (hp : Holds p) : Does Tryd.prog eShow1.1 vs ck ret ck' := by
  unfold eShow1 at h
  simp only at h
  split at h
  · rename_i l
    simp only [Option.some.injEq, Prod.mk.injEq] at h
    obtain ⟨rfl, rfl, rfl⟩ := h
    exact show_ok l hp
  · simp at h
def eShow0 : Nat × (List SX → List Chunk → Option (Option Prop × SV × List Chunk)) := (13, fun
  | [.c (.pd (.lst .cell l))], [] => some (some (rightM l = false), .tup [.c (.pd (.str [])), .c (.pd (.int .i64 1))], [])
  | _, _ => none)
theorem eShow0_ok (vs : List SX) (ck : List Chunk) (p : Option Prop) (ret : SV) (ck' : List Chunk) (h : eShow0.2 vs ck = some (p, ret, ck')) (hp : Holds p) : Does Tryd.prog eShow0.1 vs ck ret ck' := by
  unfold eShow0 at h
  simp only at h
  split at h
  · rename_i l
    simp only [Option.some.injEq, Prod.mk.injEq] at h
    obtain ⟨rfl, rfl, rfl⟩ := h
    exact show_bad l hp
  · simp at h
noncomputable def cfgBk1 : Cfg := ⟨tys0, [eWks, eCpd, eShow1, nPar1, eSame]⟩
theorem cfgBk1_ok : TabOk Tryd.prog cfgBk1.tab := (TabOk.cons eWks_ok (TabOk.cons eCpd_ok (TabOk.cons eShow1_ok (TabOk.cons nPar1_ok (TabOk.cons eSame_ok TabOk.nil)))))
def cfgBk0 : Cfg := ⟨tys0, [eWks, eCpd, eShow0]⟩
theorem cfgBk0_ok : TabOk Tryd.prog cfgBk0.tab := (TabOk.cons eWks_ok (TabOk.cons eCpd_ok (TabOk.cons eShow0_ok TabOk.nil)))
theorem expr_back_spec (l : List Cell) (hr : room l.length 32) : Does Tryd.prog 6 [.l .cell l] [] (.x (.b true)) [] := by
  by_cases h : rightM l = true
  · refine Does.go (cfg := cfgBk1) cfgBk1_ok Tryd.func6 (by kernel_rfl) (by kernel_rfl) (t := (Tree.need (room (List.length l) (32 : Nat)) (Tree.need (rightM l = true) (Tree.ite false (Tree.ret (SV.x (SX.c (SC.pd (PD.bool false)))) []) (Tree.ite false (Tree.ret (SV.x (SX.c (SC.pd (PD.bool (showM l == []))))) []) (Tree.need (readsE (showM l)) (Tree.need (true = true → List.length l ≤ (1000000 : Nat)) (Tree.ret (SV.x (SX.c (SC.pd (PD.bool (true && sameGo l (Prod.fst (parseE (showM l)))))))) [])))))))) (by kernel_rfl) fun Γ => ?_
    obtain ⟨hlen, t, ht, e⟩ := right_tm h
    have e2 : showM l = t.body := by rw [← e]; exact show_tree ht
    have e3 := parse_body ht (by rw [e]; exact hlen)
    have e4 : parseE (showM l) = (l, 0, 0) := by rw [e2, e3, e]
    refine ⟨hr, h, fun x => Bool.noConfusion x, fun _ => ⟨fun x => Bool.noConfusion x, fun _ => ⟨?_, fun _ => by omega, ?_, rfl⟩⟩⟩
    · show (parseE (showM l)).2.2 = 0; rw [e4]
    · rw [e4, sameGo_self]; rfl
  · have h' : rightM l = false := by simpa using h
    refine Does.go (cfg := cfgBk0) cfgBk0_ok Tryd.func6 (by kernel_rfl) (by kernel_rfl) (t := (Tree.need (room (List.length l) (32 : Nat)) (Tree.need (rightM l = false) (Tree.ite false (Tree.ret (SV.x (SX.c (SC.pd (PD.bool false)))) []) (Tree.ite true (Tree.ret (SV.x (SX.c (SC.pd (PD.bool true)))) []) (Tree.stop [PI.ops [(1 : Nat), (1 : Nat), (1 : Nat), (1 : Nat), (0 : Nat)] (1 : Nat), PI.code [(1 : Nat), (1 : Nat), (1 : Nat), (1 : Nat), (1 : Nat)]] { n := (37 : Nat), fr := [((0 : Nat), SV.x (SX.c (SC.pd (PD.lst ETy.cell l)))), ((2 : Nat), SV.x (SX.c (SC.pd (PD.bool false)))), ((21 : Nat), SV.x (SX.c (SC.pd (PD.str []))))], ck := [], kn := [(2 : Nat)] })))))) (by kernel_rfl) fun Γ => ?_
    exact ⟨hr, h', fun x => Bool.noConfusion x, fun _ => ⟨fun _ => ⟨rfl, rfl⟩, fun x => Bool.noConfusion x⟩⟩
noncomputable def cfgNm1 : Cfg := ⟨tys0, [eWks, eShow1, nPar1, eSame, eRight]⟩
theorem cfgNm1_ok : TabOk Tryd.prog cfgNm1.tab := (TabOk.cons eWks_ok (TabOk.cons eShow1_ok (TabOk.cons nPar1_ok (TabOk.cons eSame_ok (TabOk.cons eRight_ok TabOk.nil)))))
noncomputable def cfgNm0 : Cfg := ⟨tys0, [eWks, nPar0]⟩
theorem cfgNm0_ok : TabOk Tryd.prog cfgNm0.tab := (TabOk.cons eWks_ok (TabOk.cons nPar0_ok TabOk.nil))
theorem expr_normal_spec (s : Str) : Does Tryd.prog 7 [.s s] [] (.x (.b true)) [] := by
  by_cases h : readsE s
  · refine Does.go (cfg := cfgNm1) cfgNm1_ok Tryd.func7 (by kernel_rfl) (by kernel_rfl) (t := (Tree.need (readsE s) (Tree.ite false (Tree.ret (SV.x (SX.c (SC.pd (PD.bool false)))) []) (Tree.ite false (Tree.ret (SV.x (SX.c (SC.pd (PD.bool ((↑(List.length (Prod.fst (parseE s))) : Int) == (0 : Int)))))) []) (Tree.need (rightM (Prod.fst (parseE s)) = true) (Tree.need (readsE (showM (Prod.fst (parseE s)))) (Tree.need (rightM (Prod.fst (parseE (showM (Prod.fst (parseE s))))) = true) (Tree.need ((rightM (Prod.fst (parseE s)) && (0 : Int) == (0 : Int) && (0 : Int) == (0 : Int) && (0 : Int) == (0 : Int)) = true → List.length (Prod.fst (parseE s)) ≤ (1000000 : Nat)) (Tree.ret (SV.x (SX.c (SC.pd (PD.bool (rightM (Prod.fst (parseE s)) && (0 : Int) == (0 : Int) && (0 : Int) == (0 : Int) && (0 : Int) == (0 : Int) && sameGo (Prod.fst (parseE s)) (Prod.fst (parseE (showM (Prod.fst (parseE s))))) && showM (Prod.fst (parseE (showM (Prod.fst (parseE s))))) == showM (Prod.fst (parseE s)) && decide (strLen (showM (Prod.fst (parseE s))) ≤ strLen s)))))) []))))))))) (by kernel_rfl) fun Γ => ?_
    obtain ⟨t, ht, e1, e2, e3⟩ := parse_tree h
    have e4 : rightM t.flat = true := tm_right ht e2
    have e5 : showM t.flat = t.body := show_tree ht
    have e6 := parse_body ht e2
    rw [e1]
    simp only [e5, e6, e4]
    refine ⟨h, fun x => Bool.noConfusion x, fun _ => ⟨fun x => Bool.noConfusion x, fun _ => ⟨trivial, ?_, trivial, fun _ => by omega, ?_, rfl⟩⟩⟩
    · show (parseE t.body).2.2 = 0; rw [e6]
    · rw [sameGo_self, decide_eq_true e3]; simp
  · refine Does.go (cfg := cfgNm0) cfgNm0_ok Tryd.func7 (by kernel_rfl) (by kernel_rfl) (t := (Tree.need (¬readsE s) (Tree.ite false (Tree.ret (SV.x (SX.c (SC.pd (PD.bool false)))) []) (Tree.ite (Prod.snd (Prod.snd (parseE s)) != (0 : Int)) (Tree.ret (SV.x (SX.c (SC.pd (PD.bool true)))) []) (Tree.stop [PI.ops [(1 : Nat), (1 : Nat), (1 : Nat), (1 : Nat), (0 : Nat)] (1 : Nat), PI.code [(1 : Nat), (1 : Nat), (1 : Nat), (1 : Nat), (1 : Nat)]] { n := (73 : Nat), fr := [((0 : Nat), SV.x (SX.c (SC.pd (PD.str s)))), ((2 : Nat), SV.x (SX.c (SC.pd (PD.bool false)))), ((3 : Nat), SV.x (SX.c (SC.pd (PD.v (Value.slice none (0 : Nat) (0 : Nat)))))), ((27 : Nat), SV.x (SX.c (SC.pd (PD.v (Value.slice none (0 : Nat) (0 : Nat))))))], ck := [], kn := [(2 : Nat)] }))))) (by kernel_rfl) fun Γ => ?_
    refine ⟨h, fun x => Bool.noConfusion x, fun _ => ⟨fun _ => ⟨rfl, rfl⟩, fun x => ?_⟩⟩
    exact absurd (show (parseE s).2.2 = 0 by simpa using x) h
/-! ### parentheses -/
theorem parse_err (s : Str) : (parseE s).2.2 = 0 ∨ (parseE s).2.2 = 1 ∨ (parseE s).2.2 = 4 := by
  unfold parseE
  repeat' split
  · exact .inr (.inr rfl)
  · exact .inr (.inl rfl)
  · exact .inr (.inl rfl)
  · exact .inr (.inr rfl)
  · exact .inl rfl
theorem parse_place (s : Str) (h : (parseE s).2.2 = 1) : 0 ≤ (parseE s).2.1 ∧ (parseE s).2.1 ≤ strLen s := by
  have hok : Ok s ⟨0, [], -1⟩ := ⟨rfl, Int.le_refl _, by simp [strLen]⟩
  have hinv := (runAll_run s).inv hok
  unfold parseE at h ⊢
  split at h
  · exact absurd (show (4 : Int) = 1 from h) (by decide)
  · rename_i h1
    rw [if_neg h1]
    split at h
    · rename_i h2
      rw [if_pos h2]
      rcases hinv with ⟨g1, _⟩ | ⟨_, g2, g3, _⟩
      · have := g1.bad; omega
      · exact ⟨g2, g3⟩
    · rename_i h2
      rw [if_neg h2]
      split at h
      · rename_i h3
        rw [if_pos h3]
        rcases hinv with ⟨g1, _⟩ | ⟨_, g2, _⟩
        · exact ⟨g1.low, g1.high⟩
        · omega
      · split at h
        · exact absurd (show (4 : Int) = 1 from h) (by decide)
        · exact absurd (show (0 : Int) = 1 from h) (by decide)
/-- A plain operation, by a table of its own. -/
def stepRun (P : Program) (cfg : Cfg) (root : Code) (p : List Nat) (i : Nat) (st : ST) : Option (Option Prop × ST) :=
  match (opsOf (sub root p))[i]? with
  | some o => match o.guard with
    | none => op1a P cfg o st
    | some _ => none
  | none => none
theorem J.step {P : Program} {cfg : Cfg} {f : FuncId} {root : Code} {Γ : Ctx} {Q : Out} {st st' : ST} (ht : TabOk P cfg.tab) {p : List Nat} {i : Nat} {k : List PI} {q : Option Prop} (h : stepRun P cfg root p i st = some (q, st')) (hq : Holds q) (hk : J P f root Γ Q (.ops p (i + 1) :: k) st') : J P f root Γ Q (.ops p i :: k) st := by
  unfold stepRun at h
  split at h
  · rename_i o ho
    split at h
    · rename_i hg
      intro hT V a w r
      have hi : i < (opsOf (sub root p)).size := (Array.getElem?_eq_some_iff.1 ho).1
      have hsz : (opsOf (sub root p)).size - i = ((opsOf (sub root p)).size - (i + 1)) + 1 := by omega
      simp only [List.map_cons, PI.den]
      rw [hsz, List.range'_succ]
      exact op1a_sound ⟨ht, hT⟩ r ho (by simp only [Region.wanted, hg]) h hq fun V' a' w' r' => hk hT V' a' w' r'
    · cases h
  · cases h
noncomputable def cfgWr1 : Cfg := ⟨tys0, [eWks, nPar1, eSame]⟩
theorem cfgWr1_ok : TabOk Tryd.prog cfgWr1.tab := (TabOk.cons eWks_ok (TabOk.cons nPar1_ok (TabOk.cons eSame_ok TabOk.nil)))
noncomputable def cfgWr0 : Cfg := ⟨tys0, [eWks, nPar0, eSame]⟩
theorem cfgWr0_ok : TabOk Tryd.prog cfgWr0.tab := (TabOk.cons eWks_ok (TabOk.cons nPar0_ok (TabOk.cons eSame_ok TabOk.nil)))
noncomputable def cfgWrP : Cfg := ⟨tys0, [nPar0]⟩
theorem cfgWrP_ok : TabOk Tryd.prog cfgWrP.tab := (TabOk.cons nPar0_ok TabOk.nil)

theorem wraps_end {s : Str} (h : ¬ readsE s) (h4 : (decide (strLen s > 500) || (parseE s).2.2 == 4) = false) : strLen s ≤ 500 ∧ (parseE s).2.2 = 1 ∧ 0 ≤ (parseE s).2.1 ∧ (parseE s).2.1 ≤ strLen s ∧ ((parseE s).2.1 < strLen s → byteAt s (parseE s).2.1 ≠ 41 → (parseE (wrapS s)).2.1 = (parseE s).2.1 + 1 ∧ (parseE (wrapS s)).2.2 = 1) := by
  simp only [Bool.or_eq_false_iff, decide_eq_false_iff_not, beq_eq_false_iff_ne] at h4
  have h1 : (parseE s).2.2 = 1 := by
    rcases parse_err s with e | e | e
    · exact absurd e h
    · exact e
    · exact absurd e h4.2
  have hp := parse_place s h1
  exact ⟨by omega, h1, hp.1, hp.2, fun g1 g2 => wrap_bad h1 (by omega) g1 g2⟩
theorem expr_wraps_spec (s : Str) : Does Tryd.prog 8 [.s s] [] (.x (.b true)) [] := by
  have hL : strLen s = (s.length : Int) := rfl
  by_cases h : readsE s
  · refine Does.go (cfg := cfgWr1) cfgWr1_ok Tryd.func8 (by kernel_rfl) (by kernel_rfl) (t := (Tree.need (readsE s) (Tree.ite false (Tree.ret (SV.x (SX.c (SC.pd (PD.bool false)))) []) (Tree.ite (decide (strLen s > (500 : Int)) || (0 : Int) == (4 : Int)) (Tree.ret (SV.x (SX.c (SC.pd (PD.bool true)))) []) (Tree.need ((1 : Nat) + List.length s ≤ (9223372036854775807 : Nat)) (Tree.need (List.length ([(40 : UInt8)] ++ s) + (1 : Nat) ≤ (9223372036854775807 : Nat)) (Tree.need (readsE ([(40 : UInt8)] ++ s ++ [(41 : UInt8)])) (Tree.ite true (Tree.need (true = true → List.length (Prod.fst (parseE s)) ≤ (1000000 : Nat)) (Tree.ret (SV.x (SX.c (SC.pd (PD.bool (true && sameGo (Prod.fst (parseE s)) (Prod.fst (parseE ([(40 : UInt8)] ++ s ++ [(41 : UInt8)])))))))) [])) (Tree.need (decide ((0 : Int) ≥ strLen s) = false → (0 : Int) ≤ (0 : Int) ∧ (0 : Int) < strLen s) (Tree.ret (SV.x (SX.c (SC.pd (PD.bool (decide ((0 : Int) ≥ strLen s) || (↑(UInt8.toNat (List.getD s (0 : Nat) (0 : UInt8))) : Int) == (41 : Int) || false && (0 : Int) == (1 : Int)))))) [])))))))))) (by kernel_rfl) fun Γ => ?_
    refine ⟨h, fun x => Bool.noConfusion x, fun _ => ⟨fun _ => ⟨rfl, rfl⟩, fun h4 => ?_⟩⟩
    simp only [Bool.or_eq_false_iff, decide_eq_false_iff_not] at h4
    have hw : parseE ([40] ++ s ++ [41]) = parseE s := wrap_ok h (by omega)
    obtain ⟨t, ht, e1, e2, e3⟩ := parse_tree h
    refine ⟨by omega, by simp only [List.length_append, List.length_cons, List.length_nil]; omega, ?_, fun _ => ⟨fun _ => ?_, ?_, rfl⟩, fun x => Bool.noConfusion x⟩
    · show (parseE ([40] ++ s ++ [41])).2.2 = 0; rw [hw]; exact h
    · rw [e1]; show t.flat.length ≤ _; omega
    · rw [hw, sameGo_self]; rfl
  · by_cases hw : readsE ([40] ++ s ++ [41])
    · refine Does.of Tryd.func8 (by kernel_rfl) (by kernel_rfl) fun Γ => ?_
      have hk : J Tryd.prog 8 (bodyOf Tryd.f8) Γ (Eq2 (.x (.b true)) []) [PI.ops [(1 : Nat), (0 : Nat)] 2, PI.code [(1 : Nat), (1 : Nat)]] ({ n := (65 : Nat), fr := [(0, SV.x (SX.c (SC.pd (PD.str s)))), (2, SV.x (SX.c (SC.pd (PD.bool false)))), (10, SV.x (SX.c (SC.pd (PD.str s)))), (11, SV.tup [SX.c (SC.pd (PD.v (Value.slice none 0 0))), SX.c (SC.pd (PD.int IntKind.i64 (parseE s).2.1)), SX.c (SC.pd (PD.int IntKind.i64 (parseE s).2.2))])], ck := [], kn := [(2 : Nat)] }) := by
        refine J.go (cfg := cfgWr1) cfgWr1_ok Tryd.func8 1000 (t := (Tree.ite false (Tree.ret (SV.x (SX.c (SC.pd (PD.bool false)))) []) (Tree.ite (decide (strLen s > (500 : Int)) || Prod.snd (Prod.snd (parseE s)) == (4 : Int)) (Tree.ret (SV.x (SX.c (SC.pd (PD.bool true)))) []) (Tree.need ((1 : Nat) + List.length s ≤ (9223372036854775807 : Nat)) (Tree.need (List.length ([(40 : UInt8)] ++ s) + (1 : Nat) ≤ (9223372036854775807 : Nat)) (Tree.need (readsE ([(40 : UInt8)] ++ s ++ [(41 : UInt8)])) (Tree.ite (Prod.snd (Prod.snd (parseE s)) == (0 : Int)) (Tree.need (true = true → (0 : Nat) ≤ (1000000 : Nat)) (Tree.ret (SV.x (SX.c (SC.pd (PD.bool (true && sameGo [] (Prod.fst (parseE ([(40 : UInt8)] ++ s ++ [(41 : UInt8)])))))))) [])) (Tree.need (decide (Prod.fst (Prod.snd (parseE s)) ≥ strLen s) = false → (0 : Int) ≤ Prod.fst (Prod.snd (parseE s)) ∧ Prod.fst (Prod.snd (parseE s)) < strLen s) (Tree.ret (SV.x (SX.c (SC.pd (PD.bool (decide (Prod.fst (Prod.snd (parseE s)) ≥ strLen s) || (↑(UInt8.toNat (List.getD s (Int.toNat (Prod.fst (Prod.snd (parseE s)))) (0 : UInt8))) : Int) == (41 : Int) || (0 : Int) == IntKind.wrap IntKind.i64 (Prod.fst (Prod.snd (parseE s)) + (1 : Int)) && (0 : Int) == (1 : Int)))))) []))))))))) (by kernel_rfl) ?_
        refine ⟨fun x => Bool.noConfusion x, fun _ => ⟨fun _ => ⟨rfl, rfl⟩, fun h4 => ?_⟩⟩
        obtain ⟨g1, g2, g3, g4, g5⟩ := wraps_end h h4
        refine ⟨by omega, by simp only [List.length_append, List.length_cons, List.length_nil]; omega, hw, fun x => ?_, fun _ => ⟨fun x => ?_, ?_, rfl⟩⟩
        · exact absurd (show (parseE s).2.2 = 0 by simpa using x) h
        · have := of_decide_eq_false x; omega
        · by_cases k1 : (parseE s).2.1 < strLen s
          · by_cases k2 : byteAt s (parseE s).2.1 = 41
            · have : ((((s.getD (parseE s).2.1.toNat 0).toNat : Nat) : Int) == 41) = true := beq_iff_eq.2 k2
              rw [this]; simp
            · obtain ⟨_, m2⟩ := g5 k1 k2
              have m3 : (parseE (wrapS s)).2.2 = 0 := hw
              rw [m3] at m2; exact absurd m2 (by decide)
          · rw [decide_eq_true (show (parseE s).2.1 ≥ strLen s by omega)]; simp
      refine J.go (cfg := cfg0) cfg0_ok Tryd.func8 1000 (t := (Tree.stop [PI.ops [(1 : Nat), (0 : Nat)] (1 : Nat), PI.code [(1 : Nat), (1 : Nat)]] { n := (65 : Nat), fr := [((0 : Nat), SV.x (SX.c (SC.pd (PD.str s)))), ((2 : Nat), SV.x (SX.c (SC.pd (PD.bool false)))), ((10 : Nat), SV.x (SX.c (SC.pd (PD.str s))))], ck := [], kn := [(2 : Nat)] })) (by kernel_rfl) ?_
      exact J.step (cfg := cfgWrP) cfgWrP_ok (q := some (¬ readsE s)) (by kernel_rfl) h hk
    · refine Does.go (cfg := cfgWr0) cfgWr0_ok Tryd.func8 (by kernel_rfl) (by kernel_rfl) (t := (Tree.need (¬readsE s) (Tree.ite false (Tree.ret (SV.x (SX.c (SC.pd (PD.bool false)))) []) (Tree.ite (decide (strLen s > (500 : Int)) || Prod.snd (Prod.snd (parseE s)) == (4 : Int)) (Tree.ret (SV.x (SX.c (SC.pd (PD.bool true)))) []) (Tree.need ((1 : Nat) + List.length s ≤ (9223372036854775807 : Nat)) (Tree.need (List.length ([(40 : UInt8)] ++ s) + (1 : Nat) ≤ (9223372036854775807 : Nat)) (Tree.need (¬readsE ([(40 : UInt8)] ++ s ++ [(41 : UInt8)])) (Tree.ite (Prod.snd (Prod.snd (parseE s)) == (0 : Int)) (Tree.need ((Prod.snd (Prod.snd (parseE ([(40 : UInt8)] ++ s ++ [(41 : UInt8)]))) == (0 : Int) && Prod.fst (Prod.snd (parseE ([(40 : UInt8)] ++ s ++ [(41 : UInt8)]))) == (0 : Int)) = true → (0 : Nat) ≤ (1000000 : Nat)) (Tree.ret (SV.x (SX.c (SC.pd (PD.bool (Prod.snd (Prod.snd (parseE ([(40 : UInt8)] ++ s ++ [(41 : UInt8)]))) == (0 : Int) && Prod.fst (Prod.snd (parseE ([(40 : UInt8)] ++ s ++ [(41 : UInt8)]))) == (0 : Int) && true))))) [])) (Tree.need (decide (Prod.fst (Prod.snd (parseE s)) ≥ strLen s) = false → (0 : Int) ≤ Prod.fst (Prod.snd (parseE s)) ∧ Prod.fst (Prod.snd (parseE s)) < strLen s) (Tree.ret (SV.x (SX.c (SC.pd (PD.bool (decide (Prod.fst (Prod.snd (parseE s)) ≥ strLen s) || (↑(UInt8.toNat (List.getD s (Int.toNat (Prod.fst (Prod.snd (parseE s)))) (0 : UInt8))) : Int) == (41 : Int) || Prod.fst (Prod.snd (parseE ([(40 : UInt8)] ++ s ++ [(41 : UInt8)]))) == IntKind.wrap IntKind.i64 (Prod.fst (Prod.snd (parseE s)) + (1 : Int)) && Prod.snd (Prod.snd (parseE ([(40 : UInt8)] ++ s ++ [(41 : UInt8)]))) == (1 : Int)))))) [])))))))))) (by kernel_rfl) fun Γ => ?_
      refine ⟨h, fun x => Bool.noConfusion x, fun _ => ⟨fun _ => ⟨rfl, rfl⟩, fun h4 => ?_⟩⟩
      obtain ⟨g1, g2, g3, g4, g5⟩ := wraps_end h h4
      refine ⟨by omega, by simp only [List.length_append, List.length_cons, List.length_nil]; omega, hw, fun x => ?_, fun _ => ⟨fun x => ?_, ?_, rfl⟩⟩
      · exact absurd (show (parseE s).2.2 = 0 by simpa using x) h
      · have := of_decide_eq_false x; omega
      · rw [wrapI (by omega) (by omega)]
        by_cases k1 : (parseE s).2.1 < strLen s
        · by_cases k2 : byteAt s (parseE s).2.1 = 41
          · have : ((((s.getD (parseE s).2.1.toNat 0).toNat : Nat) : Int) == 41) = true := beq_iff_eq.2 k2
            rw [this]; simp
          · obtain ⟨m1, m2⟩ := g5 k1 k2
            have m1' : (parseE ([40] ++ s ++ [41])).2.1 = (parseE s).2.1 + 1 := m1
            have m2' : (parseE ([40] ++ s ++ [41])).2.2 = 1 := m2
            rw [m1', m2']; simp
        · rw [decide_eq_true (show (parseE s).2.1 ≥ strLen s by omega)]; simp
end Go.Proofs.YtjndellhebidoaaDoor

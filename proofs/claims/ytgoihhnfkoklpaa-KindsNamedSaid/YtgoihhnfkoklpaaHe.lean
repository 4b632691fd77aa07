/- The laws on kinds: two expressions compared; the operands of one. Conditions: the lists' sizes. -/
import Derived.Test.YtgoihhnfkoklpaaHa
namespace Go.Proofs.Ytgoihhnfkoklpaa
open Go Go.Ev
set_option maxRecDepth 100000
theorem room_le {m n b : Nat} (h : room n b) (hm : m ≤ n) : room m b := ⟨Nat.le_trans (Nat.mul_le_mul_right _ hm) h.1, Nat.le_trans hm h.2⟩
theorem room_few {n : Nat} (h : n ≤ 1000) : room n 32 := by unfold room maxLen; omega
/-- What has a kind is a tree. -/
theorem kinds_tm {l : List Cell} {vs : List Var} {ss : List Str} (h : (kindsM l vs ss).2 = 0) : l.length ≤ 32 ∧ (1 ≤ (kindsM l vs ss).1 ∧ (kindsM l vs ss).1 ≤ 3) ∧ ∃ t : Tm, t.ok ∧ t.flat = l ∧ kindsM l vs ss = t.kind vs ss := by
  cases hr : rightM l
  · rw [kindsM, hr] at h; simp at h
  · obtain ⟨h32, t, ht, hq⟩ := right_tm hr
    have hk : kindsM l vs ss = t.kind vs ss := by rw [← hq]; exact kinds_flat vs ss ht (by rw [hq]; exact h32)
    refine ⟨h32, ?_, t, ht, hq, hk⟩
    rw [hk] at h ⊢
    exact (t.kind_one vs ss).1 h
theorem equal_law {a b : List Cell} {vs : List Var} {ss : List Str} (ha : (kindsM a vs ss).2 = 0) (hb : (kindsM b vs ss).2 = 0) (hl : a.length + b.length < 32) :
    ((kindsM a vs ss).1 == (kindsM b vs ss).1 && (kindsM (a ++ b ++ [⟨16, 0, []⟩]) vs ss).1 == 2 && (kindsM (a ++ b ++ [⟨16, 0, []⟩]) vs ss).2 == 0 ||
      (kindsM a vs ss).1 != (kindsM b vs ss).1 && (kindsM (a ++ b ++ [⟨16, 0, []⟩]) vs ss).1 == 0 && (kindsM (a ++ b ++ [⟨16, 0, []⟩]) vs ss).2 == 8) = true := by
  obtain ⟨_, ⟨a1, a2⟩, t, ht, hta, hka⟩ := kinds_tm ha
  obtain ⟨_, ⟨b1, b2⟩, u, hu, htb, hkb⟩ := kinds_tm hb
  have hok : (Tm.bin ⟨16, 0, []⟩ t u).ok := ⟨rfl, ht, hu⟩
  have hfl : (Tm.bin ⟨16, 0, []⟩ t u).flat = a ++ b ++ [⟨16, 0, []⟩] := by rw [Tm.flat, hta, htb]
  have hk : kindsM (a ++ b ++ [⟨16, 0, []⟩]) vs ss = binK 16 (kindsM a vs ss).1 (kindsM b vs ss).1 := by
    rw [← hfl, kinds_flat vs ss hok (by rw [hfl]; simp only [List.length_append, List.length_cons, List.length_nil]; omega), Tm.kind, ← hka, ← hkb, ha, hb]; rfl
  rw [hk]
  generalize (kindsM a vs ss).1 = k at *
  generalize (kindsM b vs ss).1 = m at *
  have h1 : k = 1 ∨ k = 2 ∨ k = 3 := by omega
  have h2 : m = 1 ∨ m = 2 ∨ m = 3 := by omega
  rcases h1 with rfl | rfl | rfl <;> rcases h2 with rfl | rfl | rfl <;> rfl
def cfgEq : Cfg := ⟨tys0, [eCp, eOf, eWk]⟩
theorem cfgEq_ok : TabOk Try.prog cfgEq.tab := (TabOk.cons eCp_ok (TabOk.cons eOf_ok (TabOk.cons eWk_ok TabOk.nil)))
theorem equal_spec (a b : List Cell) (vs : List Var) (ss : List Str) (ha : room a.length 32) (hb : room b.length 32) : Does Try.prog 6 [.l .cell a, .l .cell b, .agg [.pd (.lst .var vs), .pd (.lst .str ss)]] [] (.x (.b true)) [] := by
  refine Does.go (cfg := cfgEq) cfgEq_ok Try.func6 (by kernel_rfl) (by kernel_rfl) (t := (Tree.need (room (List.length a) (32 : Nat)) (Tree.need (room (List.length b) (32 : Nat)) (Tree.ite false (Tree.ret (SV.x (SX.c (SC.pd (PD.bool false)))) []) (Tree.ite (Prod.snd (kindsM a vs ss) != (0 : Int) || Prod.snd (kindsM b vs ss) != (0 : Int) || decide (IntKind.wrap IntKind.i64 ((↑(List.length a) : Int) + (↑(List.length b) : Int)) ≥ (32 : Int))) (Tree.ret (SV.x (SX.c (SC.pd (PD.bool true)))) []) (Tree.need (room (List.length a) (32 : Nat)) (Tree.need (room (List.length (a ++ b)) (32 : Nat)) (Tree.need (room (List.length (a ++ b ++ [{ op := (16 : Int), a := (0 : Int), name := [] }])) (32 : Nat)) (Tree.ret (SV.x (SX.c (SC.pd (PD.bool (Prod.fst (kindsM a vs ss) == Prod.fst (kindsM b vs ss) && Prod.fst (kindsM (a ++ b ++ [{ op := (16 : Int), a := (0 : Int), name := [] }]) vs ss) == (2 : Int) && Prod.snd (kindsM (a ++ b ++ [{ op := (16 : Int), a := (0 : Int), name := [] }]) vs ss) == (0 : Int) || Prod.fst (kindsM a vs ss) != Prod.fst (kindsM b vs ss) && Prod.fst (kindsM (a ++ b ++ [{ op := (16 : Int), a := (0 : Int), name := [] }]) vs ss) == (0 : Int) && Prod.snd (kindsM (a ++ b ++ [{ op := (16 : Int), a := (0 : Int), name := [] }]) vs ss) == (8 : Int)))))) []))))))))) (by kernel_rfl) fun Γ => ?_
  refine ⟨ha, hb, fun h => Bool.noConfusion h, fun _ => ⟨fun _ => ⟨rfl, rfl⟩, fun h => ?_⟩⟩
  simp only [Bool.or_eq_false_iff, bne_eq_false_iff_eq, decide_eq_false_iff_not] at h
  obtain ⟨⟨h1, h2⟩, h3⟩ := h
  have hlen : a.length + b.length < 32 := by
    have g1 := ha.1
    have g2 := hb.1
    rw [wrapI (by omega) (by omega)] at h3
    omega
  refine ⟨ha, room_few (by simp only [List.length_append]; omega), room_few (by simp only [List.length_append, List.length_cons, List.length_nil]; omega), ?_, rfl⟩
  rw [equal_law h1 h2 hlen]
/-- The parts of what has a kind. -/
theorem parts_tm {l : List Cell} {vs : List Var} {ss : List Str} (h : (kindsM l vs ss).2 = 0) : ∃ c front, l = front ++ [c] ∧ l.length ≤ 32 ∧ (wantsC c = 0 ∨ (wantsC c = 1 ∧ ∃ t : Tm, t.ok ∧ front = t.flat ∧ (kindsM t.flat vs ss).2 = 0) ∨
    (wantsC c = 2 ∧ ∃ t u : Tm, t.ok ∧ u.ok ∧ front = t.flat ++ u.flat ∧ (kindsM t.flat vs ss).2 = 0 ∧ (kindsM u.flat vs ss).2 = 0 ∧ (kindsM u.flat vs ss).1 = (kindsM t.flat vs ss).1)) := by
  obtain ⟨h32, _, tm, hok, hq, hk⟩ := kinds_tm h
  rw [hk] at h
  cases tm with
  | leaf c => exact ⟨c, [], hq.symm, h32, .inl hok⟩
  | un c t =>
    refine ⟨c, t.flat, hq.symm, h32, .inr (.inl ⟨hok.1, t, hok.2, rfl, ?_⟩)⟩
    have hl : t.flat.length ≤ 32 := by rw [← hq] at h32; simp only [Tm.flat, List.length_append] at h32; omega
    rw [kinds_flat vs ss hok.2 hl]
    simp only [Tm.kind] at h
    cases hb : ((t.kind vs ss).2 != 0)
    · simpa using hb
    · rw [hb] at h; exact h
  | bin c t u =>
    obtain ⟨hw, ht, hu⟩ := hok
    have hl : t.flat.length ≤ 32 ∧ u.flat.length ≤ 32 := by rw [← hq] at h32; simp only [Tm.flat, List.length_append] at h32; omega
    refine ⟨c, t.flat ++ u.flat, hq.symm, h32, .inr (.inr ⟨hw, t, u, ht, hu, rfl, ?_⟩)⟩
    rw [kinds_flat vs ss ht hl.1, kinds_flat vs ss hu hl.2]
    simp only [Tm.kind] at h
    cases hb : ((t.kind vs ss).2 != 0)
    · rw [hb, cond_false] at h
      cases hb2 : ((u.kind vs ss).2 != 0)
      · rw [hb2, cond_false] at h
        have h1 : (t.kind vs ss).2 = 0 := by simpa using hb
        have h2 : (u.kind vs ss).2 = 0 := by simpa using hb2
        refine ⟨h1, h2, ?_⟩
        have k1 := (t.kind_one vs ss).1 h1
        have k2 := (u.kind_one vs ss).1 h2
        have hop : 11 ≤ c.op := by rcases wants_cases c (by omega) with ⟨_, h⟩ | ⟨_, _, h⟩ | ⟨h, _⟩ <;> first | exact h | omega
        rw [← bin_ref _ _ _ hop (wants_max c (by omega)) k1.1 k1.2 k2.1 k2.2, binRef] at h
        cases hne : ((t.kind vs ss).1 != (u.kind vs ss).1)
        · have := bne_eq_false_iff_eq.1 hne; exact this.symm
        · rw [hne] at h; simp at h
      · rw [hb2] at h; have h0 : (u.kind vs ss).2 = 0 := h; rw [h0] at hb2; simp at hb2
    · rw [hb] at h; have h0 : (t.kind vs ss).2 = 0 := h; rw [h0] at hb; simp at hb
def cfgPt (B : Int → Int) : Cfg := ⟨tys0, [eCp, eOf, eWk, eRop, eB B]⟩
theorem cfgPt_ok {B : Int → Int} : TabOk Try.prog (cfgPt B).tab := TabOk.cons eCp_ok (TabOk.cons eOf_ok (TabOk.cons eWk_ok (TabOk.cons eRop_ok (TabOk.cons eB_ok TabOk.nil))))
theorem parts_of (l : List Cell) (vs : List Var) (ss : List Str) (hl : room l.length 32) (x : Nat)
    (hH : (kindsM l vs ss).2 = 0 → ∃ c front, l = front ++ [c] ∧ l.length ≤ 32 ∧ (wantsC c = 0 ∨ (x ≤ front.length ∧ Does Try.prog 19 [.l .cell l, .i (IntKind.wrap .i64 ((l.length : Int) - 2))] [] (.x (.i (x : Int))) [] ∧ (kindsM (front.drop x) vs ss).2 = 0 ∧
      (wantsC c = 1 ∨ ((kindsM (front.take x) vs ss).2 = 0 ∧ (kindsM (front.drop x) vs ss).1 = (kindsM (front.take x) vs ss).1))))) :
    Does Try.prog 5 [.l .cell l, .agg [.pd (.lst .var vs), .pd (.lst .str ss)]] [] (.x (.b true)) [] := by
  let B : Int → Int := fun _ => (x : Int)
  refine Does.go (cfg := (cfgPt B)) cfgPt_ok Try.func5 (by kernel_rfl) (by kernel_rfl) (t := (Tree.need (room (List.length l) (32 : Nat)) (Tree.ite false (Tree.ret (SV.x (SX.c (SC.pd (PD.bool false)))) []) (Tree.need ((Prod.snd (kindsM l vs ss) != (0 : Int)) = false → (0 : Int) ≤ IntKind.wrap IntKind.i64 ((↑(List.length l) : Int) - (1 : Int)) ∧ IntKind.wrap IntKind.i64 ((↑(List.length l) : Int) - (1 : Int)) < (↑(List.length l) : Int)) (Tree.ite (Prod.snd (kindsM l vs ss) != (0 : Int) || wantsM (Cell.op (ETy.get ETy.cell l (Int.toNat (IntKind.wrap IntKind.i64 ((↑(List.length l) : Int) - (1 : Int)))))) (Cell.a (ETy.get ETy.cell l (Int.toNat (IntKind.wrap IntKind.i64 ((↑(List.length l) : Int) - (1 : Int)))))) (Cell.name (ETy.get ETy.cell l (Int.toNat (IntKind.wrap IntKind.i64 ((↑(List.length l) : Int) - (1 : Int)))))) == (0 : Int)) (Tree.ret (SV.x (SX.c (SC.pd (PD.bool true)))) []) (Tree.need (Does Try.prog (19 : FuncId) [SX.l ETy.cell l, SX.i (IntKind.wrap IntKind.i64 ((↑(List.length l) : Int) - (2 : Int)))] [] (SV.x (SX.i (B (IntKind.wrap IntKind.i64 ((↑(List.length l) : Int) - (2 : Int)))))) []) (Tree.need ((0 : Int) ≤ B (IntKind.wrap IntKind.i64 ((↑(List.length l) : Int) - (2 : Int))) ∧ B (IntKind.wrap IntKind.i64 ((↑(List.length l) : Int) - (2 : Int))) ≤ IntKind.wrap IntKind.i64 ((↑(List.length l) : Int) - (1 : Int)) ∧ IntKind.wrap IntKind.i64 ((↑(List.length l) : Int) - (1 : Int)) ≤ (↑(List.length l) : Int)) (Tree.need (room (List.length (Prod.snd (cutL l (some (B (IntKind.wrap IntKind.i64 ((↑(List.length l) : Int) - (2 : Int))))) (some (IntKind.wrap IntKind.i64 ((↑(List.length l) : Int) - (1 : Int))))))) (32 : Nat)) (Tree.need ((0 : Int) ≤ IntKind.wrap IntKind.i64 ((↑(List.length l) : Int) - (1 : Int)) ∧ IntKind.wrap IntKind.i64 ((↑(List.length l) : Int) - (1 : Int)) < (↑(List.length l) : Int)) (Tree.ite (wantsM (Cell.op (ETy.get ETy.cell l (Int.toNat (IntKind.wrap IntKind.i64 ((↑(List.length l) : Int) - (1 : Int)))))) (Cell.a (ETy.get ETy.cell l (Int.toNat (IntKind.wrap IntKind.i64 ((↑(List.length l) : Int) - (1 : Int)))))) (Cell.name (ETy.get ETy.cell l (Int.toNat (IntKind.wrap IntKind.i64 ((↑(List.length l) : Int) - (1 : Int)))))) == (1 : Int)) (Tree.ret (SV.x (SX.c (SC.pd (PD.bool (Prod.snd (kindsM (Prod.snd (cutL l (some (B (IntKind.wrap IntKind.i64 ((↑(List.length l) : Int) - (2 : Int))))) (some (IntKind.wrap IntKind.i64 ((↑(List.length l) : Int) - (1 : Int)))))) vs ss) == (0 : Int)))))) []) (Tree.need ((0 : Int) ≤ B (IntKind.wrap IntKind.i64 ((↑(List.length l) : Int) - (2 : Int))) ∧ B (IntKind.wrap IntKind.i64 ((↑(List.length l) : Int) - (2 : Int))) ≤ (↑(List.length l) : Int)) (Tree.need (room (List.length (Prod.snd (cutL l none (some (B (IntKind.wrap IntKind.i64 ((↑(List.length l) : Int) - (2 : Int)))))))) (32 : Nat)) (Tree.ret (SV.x (SX.c (SC.pd (PD.bool (Prod.snd (kindsM (Prod.snd (cutL l (some (B (IntKind.wrap IntKind.i64 ((↑(List.length l) : Int) - (2 : Int))))) (some (IntKind.wrap IntKind.i64 ((↑(List.length l) : Int) - (1 : Int)))))) vs ss) == (0 : Int) && Prod.snd (kindsM (Prod.snd (cutL l none (some (B (IntKind.wrap IntKind.i64 ((↑(List.length l) : Int) - (2 : Int))))))) vs ss) == (0 : Int) && Prod.fst (kindsM (Prod.snd (cutL l (some (B (IntKind.wrap IntKind.i64 ((↑(List.length l) : Int) - (2 : Int))))) (some (IntKind.wrap IntKind.i64 ((↑(List.length l) : Int) - (1 : Int)))))) vs ss) == Prod.fst (kindsM (Prod.snd (cutL l none (some (B (IntKind.wrap IntKind.i64 ((↑(List.length l) : Int) - (2 : Int))))))) vs ss)))))) []))))))))))))) (by kernel_rfl) fun Γ => ?_
  have hB : ∀ i, B i = (x : Int) := fun _ => rfl
  by_cases he : (kindsM l vs ss).2 = 0
  · obtain ⟨c, front, rfl, h32, hc⟩ := hH he
    have hlen : (front ++ [c]).length = front.length + 1 := by simp
    have e1 : IntKind.wrap .i64 (((front ++ [c]).length : Int) - 1) = (front.length : Int) := by rw [hlen] at h32 ⊢; rw [wrapI (by omega) (by omega)]; omega
    have e2 : ETy.get .cell (front ++ [c]) front.length = c := ETy.get_eq (t := .cell) (by rw [List.getElem?_append_right (Nat.le_refl _), Nat.sub_self]; rfl)
    rw [e1, Int.toNat_natCast, e2]
    simp only [hB]
    refine ⟨hl, fun h => Bool.noConfusion h, fun _ => ⟨fun _ => by rw [hlen]; omega, fun _ => ⟨rfl, rfl⟩, fun h => ?_⟩⟩
    simp only [Bool.or_eq_false_iff, beq_eq_false_iff_ne, bne_eq_false_iff_eq] at h
    rcases hc with hc | ⟨hx, hbeg, hk, hc⟩
    · exact absurd hc h.2
    · have t1 : (cutL (front ++ [c]) (some (x : Int)) (some (front.length : Int))).2 = front.drop x := by simp [cutL]
      have t2 : (cutL (front ++ [c]) none (some (x : Int))).2 = front.take x := by simp [cutL, List.take_append_of_le_length hx]
      rw [t1, t2]
      refine ⟨hbeg, by rw [hlen]; omega, room_le hl (by rw [hlen, List.length_drop]; omega), by rw [hlen]; omega, fun _ => ⟨by rw [hk]; rfl, rfl⟩, fun hw => ⟨by rw [hlen]; omega, room_le hl (by rw [hlen, List.length_take]; omega), ?_, rfl⟩⟩
      rcases hc with hc | ⟨hk2, hk3⟩
      · have hw' : (wantsC c == 1) = false := hw
        rw [hc] at hw'; simp at hw'
      · rw [hk, hk2, hk3]; simp
  · refine ⟨hl, fun h => Bool.noConfusion h, fun _ => ⟨fun h => absurd (bne_eq_false_iff_eq.1 h) he, fun _ => ⟨rfl, rfl⟩, fun h => ?_⟩⟩
    simp only [Bool.or_eq_false_iff, bne_eq_false_iff_eq] at h
    exact absurd h.1 he
theorem parts_spec (l : List Cell) (vs : List Var) (ss : List Str) (hl : room l.length 32) : Does Try.prog 5 [.l .cell l, .agg [.pd (.lst .var vs), .pd (.lst .str ss)]] [] (.x (.b true)) [] := by
  by_cases he : (kindsM l vs ss).2 = 0
  · obtain ⟨c, front, hq, h32, hc⟩ := parts_tm he
    rcases hc with hc | ⟨hw, t, ht, rfl, hk⟩ | ⟨hw, t, u, ht, hu, rfl, hk, hk2, hk3⟩
    · exact parts_of l vs ss hl 0 fun _ => ⟨c, front, hq, h32, .inl hc⟩
    · refine parts_of l vs ss hl 0 fun _ => ⟨c, t.flat, hq, h32, .inr ⟨Nat.zero_le _, ?_, by simpa using hk, .inl hw⟩⟩
      have hb := begin_spec l t ht [] [c] (by simpa using hq) h32
      have := t.flat_pos
      have e : IntKind.wrap .i64 ((l.length : Int) - 2) = ((([] : List Cell).length : Nat) : Int) + t.flat.length - 1 := by
        rw [hq] at h32 ⊢; simp only [List.length_append, List.length_cons, List.length_nil] at h32 ⊢; rw [wrapI (by omega) (by omega)]; omega
      rw [e]; exact hb
    · refine parts_of l vs ss hl t.flat.length fun _ => ⟨c, t.flat ++ u.flat, hq, h32, .inr ⟨by simp, ?_, by simpa using hk2, .inr ⟨by simpa using hk, by simpa using hk3⟩⟩⟩
      have hb := begin_spec l u hu t.flat [c] hq h32
      have := t.flat_pos
      have := u.flat_pos
      have e : IntKind.wrap .i64 ((l.length : Int) - 2) = (t.flat.length : Int) + u.flat.length - 1 := by
        rw [hq] at h32 ⊢; simp only [List.length_append, List.length_cons, List.length_nil] at h32 ⊢; rw [wrapI (by omega) (by omega)]; omega
      rw [e]; exact hb
  · exact parts_of l vs ss hl 0 fun h => absurd h he
end Go.Proofs.Ytgoihhnfkoklpaa

/- An executor for function bodies of the model over data, part PS: sums, differences, products of complex numbers: where their bits are not told, they are drawn. Conditions: none. -/
import Derived.Test.YtndkapkejmkphaaDoorPL
import Derived.Laws.ComplexArith
namespace Go.Ev
open Go.RowKit

theorem Fr.trans0 {w w1 w2 : World} (h : Fr (fun _ => False) w w1) (k : Fr (fun _ => False) w1 w2) : Fr (fun _ => False) w w2 :=
  ⟨k.os.trans h.os, k.tape.trans h.tape, k.output.trans h.output, Nat.le_trans h.size k.size, fun b hb _ => (k.block b (Nat.lt_of_lt_of_le hb h.size) id).trans (h.block b hb id)⟩
def Runs (P : Program) {α : Type} (m : Sem α) (w : World) (Φ : α → Prop) : Prop := ∃ r w', m.run P w = .ok r w' ∧ Φ r ∧ Fr (fun _ => False) w w'
theorem Runs.bind {P : Program} {α β : Type} {m : Sem α} {f : α → Sem β} {w : World} {Φ : α → Prop} {Ψ : β → Prop} (h : Runs P m w Φ) (k : ∀ r w', Φ r → Runs P (f r) w' Ψ) : Runs P (m >>= f) w Ψ := by
  obtain ⟨r, w1, h1, h2, h3⟩ := h
  obtain ⟨s, w2, k1, k2, k3⟩ := k r w1 h2
  exact ⟨s, w2, by simp only [Sem.run_bind, h1, Result.andThen_ok, k1], k2, h3.trans0 k3⟩
theorem Runs.pure {P : Program} {α : Type} {a : α} {w : World} {Φ : α → Prop} (h : Φ a) : Runs P (Pure.pure a : Sem α) w Φ := ⟨a, w, rfl, h, Fr.refl _ _⟩
theorem runs_carith {P : Program} {op : BinOp} (hop : op = .add ∨ op = .sub ∨ op = .mul) (x y : Nat) (w : World) : Runs P (Op.Complex.arith op .f64 x y) w (fun r => ∀ r0, floatBits op .f64 x y = some r0 → r = r0) := by
  cases hb : floatBits op .f64 x y with
  | some r => exact ⟨r, w, run_carith w hb, fun r0 h => by cases h; rfl, Fr.refl _ _⟩
  | none =>
    have hc : (choose (.nanBits .f64 x y)).run P w = .ok ((Question.nanBits .f64 x y).cut (w.tape w.drawn (.nanBits .f64 x y))) w.drew := rfl
    have e : ∃ n, (Op.floatArith op .f64 x y).run P w = .ok (.float .f64 n) w.drew := by
      refine ⟨(Question.nanBits .f64 x y).cut (w.tape w.drawn (.nanBits .f64 x y)), ?_⟩
      unfold floatBits at hb
      rcases hop with rfl | rfl | rfl <;> simp only at hb <;> simp only [Op.floatArith, Sem.run_bind, run_pure', Result.andThen_ok, hb, hc]
    obtain ⟨n, e⟩ := e
    refine ⟨n, w.drew, ?_, (fun r0 h => by cases h), ⟨rfl, rfl, rfl, Nat.le_refl _, fun _ _ _ => rfl⟩⟩
    simp only [Op.Complex.arith, Sem.run_bind, e, Result.andThen_ok]
    rfl
theorem runs_sum {P : Program} {op : BinOp} (hop : op = .add ∨ op = .sub) (t : TypeId) (a b c d : Nat) (w : World) :
    Runs P (binOp op t (.complex .f64 a b) (.complex .f64 c d)) w (fun v => ∃ re im, v = .complex .f64 re im ∧ ∀ p, cSumBits op .f64 a b c d = some p → p = (re, im)) := by
  have e : binOp op t (.complex .f64 a b) (.complex .f64 c d) = (Op.Complex.arith op .f64 a c >>= fun re => Op.Complex.arith op .f64 b d >>= fun im => Pure.pure (.complex .f64 re im)) := by
    rcases hop with rfl | rfl <;> rfl
  rw [e]
  have ho : op = .add ∨ op = .sub ∨ op = .mul := by rcases hop with h | h <;> simp [h]
  refine (runs_carith ho a c w).bind fun re w1 h1 => (runs_carith ho b d w1).bind fun im w2 h2 => .pure ⟨re, im, rfl, fun p hp => ?_⟩
  unfold cSumBits at hp
  obtain ⟨x, g1, hp⟩ := bind_some hp
  obtain ⟨y, g2, hp⟩ := bind_some hp
  cases hp
  rw [h1 _ g1, h2 _ g2]
theorem runs_mul {P : Program} (t : TypeId) (a b c d : Nat) (w : World) :
    Runs P (binOp .mul t (.complex .f64 a b) (.complex .f64 c d)) w (fun v => ∃ re im, v = .complex .f64 re im ∧ ∀ p, cMulBits a b c d = some p → p = (re, im)) := by
  have hp : Runs P (Op.Complex.product a b c d) w (fun r => ∀ p, cMulBits a b c d = some p → p = r) := by
    have e : Op.Complex.product a b c d = (Op.Complex.arith .mul .f64 a c >>= fun ac => Op.Complex.arith .mul .f64 b d >>= fun bd => Op.Complex.arith .sub .f64 ac bd >>= fun re =>
        Op.Complex.arith .mul .f64 a d >>= fun ad => Op.Complex.arith .mul .f64 b c >>= fun bc => Op.Complex.arith .add .f64 ad bc >>= fun im => Pure.pure (re, im)) := rfl
    rw [e]
    refine (runs_carith (.inr (.inr rfl)) a c w).bind fun ac w1 h1 => (runs_carith (.inr (.inr rfl)) b d w1).bind fun bd w2 h2 => (runs_carith (.inr (.inl rfl)) ac bd w2).bind fun re w3 h3 =>
      (runs_carith (.inr (.inr rfl)) a d w3).bind fun ad w4 h4 => (runs_carith (.inr (.inr rfl)) b c w4).bind fun bc w5 h5 => (runs_carith (.inl rfl) ad bc w5).bind fun im w6 h6 => .pure fun p hp => ?_
    unfold cMulBits at hp
    obtain ⟨x1, g1, hp⟩ := bind_some hp
    obtain ⟨x2, g2, hp⟩ := bind_some hp
    obtain ⟨x3, g3, hp⟩ := bind_some hp
    obtain ⟨x4, g4, hp⟩ := bind_some hp
    obtain ⟨x5, g5, hp⟩ := bind_some hp
    obtain ⟨x6, g6, hp⟩ := bind_some hp
    cases hp
    have e1 := h1 _ g1; have e2 := h2 _ g2; subst e1; subst e2
    have e3 := h3 _ g3; have e4 := h4 _ g4; have e5 := h5 _ g5; subst e3; subst e4; subst e5
    rw [h6 _ g6]
  obtain ⟨r, w', h1, h2, h3⟩ := hp
  refine ⟨.complex .f64 r.1 r.2, w', ?_, ⟨_, _, rfl, fun p hp => h2 p hp⟩, h3⟩
  have hk : ¬ (FloatKind.f64 ≠ FloatKind.f64) := fun h => h rfl
  simp only [binOp, Op.complexOp, Op.Complex.conv, if_neg hk, Sem.run_bind, run_pure', Result.andThen_ok, if_true, beq_self_eq_true, h1]
def opC (st : ST) : Op → Option SX
  | .binOp op _ x y _ => match op, evalO st none x, evalO st none y with
    | .add, some (.c (.pd (.cx o))), some (.c (.pd (.cx o'))) => some (.c (.pd (.cx (o.bind fun p => o'.bind fun q => cSumBits .add .f64 p.1 p.2 q.1 q.2))))
    | .sub, some (.c (.pd (.cx o))), some (.c (.pd (.cx o'))) => some (.c (.pd (.cx (o.bind fun p => o'.bind fun q => cSumBits .sub .f64 p.1 p.2 q.1 q.2))))
    | .mul, some (.c (.pd (.cx o))), some (.c (.pd (.cx o'))) => some (.c (.pd (.cx (o.bind fun p => o'.bind fun q => cMulBits p.1 p.2 q.1 q.2))))
    | _, _, _ => none
  | _ => none
section
variable {Γ : Ctx} {P : Program} {st : ST} {V : Vn} {a : Act} {w : World}
theorem opC_sound (r : Rel Γ st V a w) {o : Oper} {sx : SX} (h : opC st o.op = some sx) : ∃ v w', (execOp a.eval o).run P w = .ok (.value v) w' ∧ sx.R V v ∧ Fr (fun _ => False) w w' := by
  obtain ⟨dst, op, ty, pos, after, guard⟩ := o
  simp only at h
  cases op with
  | binOp op t x y yt =>
    simp only [opC] at h
    have main : ∀ (o o' : Option (Nat × Nat)) (f : Nat × Nat → Nat × Nat → Option (Nat × Nat)), evalO st none x = some (.c (.pd (.cx o))) → evalO st none y = some (.c (.pd (.cx o'))) →
        (∀ p q, Runs P (binOp op t (.complex .f64 p.1 p.2) (.complex .f64 q.1 q.2)) w (fun v => ∃ re im, v = .complex .f64 re im ∧ ∀ r, f p q = some r → r = (re, im))) →
        ∃ v w', (execOp a.eval ⟨dst, .binOp op t x y yt, ty, pos, after, guard⟩).run P w = .ok (.value v) w' ∧ SX.R V (.c (.pd (.cx (o.bind fun p => o'.bind fun q => f p q)))) v ∧ Fr (fun _ => False) w w' := by
      intro o o' f hx hy hr
      have e1 : PR V.H (.cx o) (a.eval x) := evalO_sound r (g := none) trivial hx
      have e2 : PR V.H (.cx o') (a.eval y) := evalO_sound r (g := none) trivial hy
      generalize hq1 : a.eval x = u1 at e1
      generalize hq2 : a.eval y = u2 at e2
      cases e1 with | cx _ x1 x2 f1 =>
      cases e2 with | cx _ y1 y2 f2 =>
      obtain ⟨v, w', h1, ⟨re, im, rfl, h2⟩, h3⟩ := hr (x1, x2) (y1, y2)
      have hgd : (eqGuard op t x y (.complex .f64 x1 x2) (.complex .f64 y1 y2)).run P w = .ok () w := eqGuard_plain op t x y ⟨by simp, by simp⟩
      refine ⟨.complex .f64 re im, w', ?_, .cx _ re im fun p hp => ?_, h3⟩
      · simp only [execOp, hq1, hq2]
        exact run_value (by simp only [Sem.run_bind, hgd, Result.andThen_ok]; exact h1)
      · cases o with
        | none => simp at hp
        | some q1 => cases o' with
          | none => simp at hp
          | some q2 =>
            simp only [Option.bind_some] at hp
            rw [f1 q1 rfl, f2 q2 rfl] at hp
            exact h2 p hp
    split at h
    · rename_i o o' hx hy
      simp only [Option.some.injEq] at h; subst h
      exact main o o' (fun p q => cSumBits .add .f64 p.1 p.2 q.1 q.2) hx hy fun p q => runs_sum (.inl rfl) t _ _ _ _ w
    · rename_i o o' hx hy
      simp only [Option.some.injEq] at h; subst h
      exact main o o' (fun p q => cSumBits .sub .f64 p.1 p.2 q.1 q.2) hx hy fun p q => runs_sum (.inr rfl) t _ _ _ _ w
    · rename_i o o' hx hy
      simp only [Option.some.injEq] at h; subst h
      exact main o o' (fun p q => cMulBits p.1 p.2 q.1 q.2) hx hy fun p q => runs_mul t _ _ _ _ w
    · simp at h
  | _ => simp [opC] at h
end
end Go.Ev

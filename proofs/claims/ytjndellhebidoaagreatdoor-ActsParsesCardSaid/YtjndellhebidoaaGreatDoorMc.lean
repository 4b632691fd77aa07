/- Expressions read by the document's two lists, as a plain relation; both readers agree. Conditions: none. -/
import Derived.Test.YtjndellhebidoaaGreatDoorMb
namespace Go.Proofs.YtjndellhebidoaaGreatDoor
open Go Go.Ev
set_option maxRecDepth 100000
/-- The document's reader: its place, what is out, what waits (the last one first). -/
structure Mc where
  pos : Int
  out : List Cell
  wt : List Wait
def cellsOf (l : List Wait) : List Cell := l.map fun w => ⟨w.op, 0, []⟩
/-- What is flushed, what still waits. -/
def flushL (least : Int) : List Wait → List Wait
  | [] => []
  | w :: l => if w.power ≥ least then w :: flushL least l else []
def restL (least : Int) : List Wait → List Wait
  | [] => []
  | w :: l => if w.power ≥ least then restL least l else w :: l
def Mc.flush (m : Mc) (least : Int) : Mc := ⟨m.pos, m.out ++ cellsOf (flushL least m.wt), restL least m.wt⟩
def compared : List Wait → Bool
  | [] => false
  | w :: l => if w.power > 0 then (w.power == 3 || compared l) else false
/-- Where the reader stands that met a fault in what holds by itself. -/
def faultPos (s : Str) (k : Int) : Int := if isD (s.getD k.toNat 0) = true then k else if (wordM s k = inS ∧ callB s k = true) ∧ nameM (wordM s (k + 3)) = true then k + 3 + strLen (wordM s (k + 3)) else k
/-- An operand's beginning: the reader behind it, the fault's place (-1: none), whether an operand ended. -/
def operandM (s : Str) (m : Mc) : Mc × Int × Bool :=
  match headM s m.pos with
  | .fin => (m, m.pos, false)
  | .pre op => (⟨m.pos + 1, m.out, ⟨op, 6⟩ :: m.wt⟩, -1, false)
  | .par => (⟨m.pos + 1, m.out, ⟨0, 0⟩ :: m.wt⟩, -1, false)
  | .call op => (⟨m.pos + 3, m.out, ⟨op, 0⟩ :: m.wt⟩, -1, false)
  | .leaf => let o := leafR s ⟨m.pos, m.out, -1⟩
    if o.bad < 0 then (⟨o.pos, o.out, m.wt⟩, -1, true) else (⟨faultPos s m.pos, m.out, m.wt⟩, o.bad, false)
/-- What stands behind an operand: the reader behind it, the fault's place, what comes next. -/
def behindM (s : Str) (m : Mc) : Mc × Int × Int :=
  if m.pos = strLen s then
    (if (m.flush 1).wt = [] then (m.flush 1, -1, 2) else (m.flush 1, m.pos, 0))
  else if byteAt s m.pos = 41 then
    (match (m.flush 1).wt with
    | [] => (m.flush 1, m.pos, 0)
    | w :: l => (⟨m.pos + 1, if w.op = 0 then (m.flush 1).out else (m.flush 1).out ++ [⟨w.op, 0, []⟩], l⟩, -1, 1))
  else
    let o := opAhead (s.drop m.pos.toNat)
    let p := (signM o.1).2
    if o.1 = 0 then (m, m.pos, 0)
    else if p = 3 ∧ compared m.wt = true then (m, m.pos, 0)
    else (⟨m.pos + o.2, (m.flush p).out, ⟨o.1, p⟩ :: (m.flush p).wt⟩, -1, 0)
inductive Res where
  | ok (out : List Cell)
  | bad (k : Int)
/-- The document's reader goes on: next an operand (false), what stands behind one (true). -/
inductive Goes (s : Str) : Bool → Mc → Res → Prop where
  | opBad {m m' : Mc} {k : Int} {e : Bool} : operandM s m = (m', k, e) → 0 ≤ k → Goes s false m (.bad k)
  | opOn {m m' : Mc} {e : Bool} {x : Res} : operandM s m = (m', -1, e) → Goes s e m' x → Goes s false m x
  | beBad {m m' : Mc} {k n : Int} : behindM s m = (m', k, n) → 0 ≤ k → Goes s true m (.bad k)
  | beEnd {m m' : Mc} : behindM s m = (m', -1, 2) → Goes s true m (.ok m'.out)
  | beOn {m m' : Mc} {b : Bool} {x : Res} : behindM s m = (m', -1, bif b then 1 else 0) → Goes s b m' x → Goes s true m x
variable {s : Str}
/-- All that waits ahead of the last parenthesis is weaker. -/
def Below (p : Int) : List Wait → Prop
  | [] => True
  | w :: l => w.power < p ∧ (w.power > 0 → Below p l)
theorem Below.mono {p q : Int} (h : p ≤ q) : ∀ {l : List Wait}, Below p l → Below q l
  | [], _ => trivial
  | _ :: _, ⟨h1, h2⟩ => ⟨by omega, fun g => Below.mono h (h2 g)⟩
theorem flush_app {p : Int} {W : List Wait} (hW : Below p W) : ∀ {pend : List Wait}, (∀ w ∈ pend, p ≤ w.power) → flushL p (pend ++ W) = pend ∧ restL p (pend ++ W) = W
  | [], _ => by
    cases W with
    | nil => exact ⟨rfl, rfl⟩
    | cons w l =>
      have h1 := hW.1
      have : ¬ w.power ≥ p := by omega
      exact ⟨by simp [flushL, this], by simp [restL, this]⟩
  | w :: pend, h => by
    have h1 := h w List.mem_cons_self
    obtain ⟨g1, g2⟩ := flush_app hW (pend := pend) fun x hx => h x (List.mem_cons_of_mem _ hx)
    have : w.power ≥ p := by omega
    exact ⟨by simp [flushL, this, g1], by simp [restL, this, g2]⟩
theorem compared_app {W : List Wait} : ∀ {pend : List Wait}, (∀ w ∈ pend, 0 < w.power) → (compared (pend ++ W) = (pend.any (fun w => w.power == 3) || compared W))
  | [], _ => by simp
  | w :: pend, h => by
    have h1 := h w List.mem_cons_self
    have ih := compared_app (W := W) (pend := pend) fun x hx => h x (List.mem_cons_of_mem _ hx)
    have : w.power > 0 := by omega
    simp [compared, this, ih, Bool.or_assoc]
theorem compared_below : ∀ {W : List Wait}, Below 3 W → compared W = false
  | [], _ => rfl
  | w :: l, ⟨h1, h2⟩ => by
    by_cases h : w.power > 0
    · have hne : (w.power == 3) = false := by simp; omega
      simp [compared, h, hne, compared_below (h2 h)]
    · simp [compared, h]
theorem cellsOf_app (a b : List Wait) : cellsOf (a ++ b) = cellsOf a ++ cellsOf b := List.map_append
/-- What may stand behind an operand that is done at a strength: no operator of it or a greater one, but a comparison behind another one. -/
def NextOk (s : Str) (p k : Int) (pend : List Wait) : Prop :=
  (opAhead (s.drop k.toNat)).1 = 0 ∨ (signM (opAhead (s.drop k.toNat)).1).2 < p ∨ ((signM (opAhead (s.drop k.toNat)).1).2 = 3 ∧ pend.any (fun w => w.power == 3) = true)
/-- The two readers are at one: the document's one has still some that wait. -/
def Sim (s : Str) (p : Int) (r o : Rd) : Prop := ∀ W : List Wait, Below p W →
  (o.bad < 0 → ∃ (pend : List Wait) (out : List Cell), (∀ w ∈ pend, p ≤ w.power) ∧ out ++ cellsOf pend = o.out ∧ NextOk s p o.pos pend ∧ ∀ x, Goes s true ⟨o.pos, out, pend ++ W⟩ x → Goes s false ⟨r.pos, r.out, W⟩ x) ∧
  (0 ≤ o.bad → Goes s false ⟨r.pos, r.out, W⟩ (.bad o.bad))
/-- An operand with signs ahead. -/
def SimU (s : Str) (r o : Rd) : Prop := ∀ W : List Wait,
  (o.bad < 0 → ∃ (pend : List Wait) (out : List Cell), (∀ w ∈ pend, w.power = 6) ∧ out ++ cellsOf pend = o.out ∧ ∀ x, Goes s true ⟨o.pos, out, pend ++ W⟩ x → Goes s false ⟨r.pos, r.out, W⟩ x) ∧
  (0 ≤ o.bad → Goes s false ⟨r.pos, r.out, W⟩ (.bad o.bad))
def SimL (s : Str) (p : Int) (r o : Rd) : Prop := ∀ (W pend : List Wait) (out : List Cell), Below p W → (∀ w ∈ pend, p ≤ w.power) → (p = 3 → ∀ w ∈ pend, 4 ≤ w.power) → out ++ cellsOf pend = r.out → NextOk s (p + 1) r.pos pend →
  (o.bad < 0 → ∃ (pend' : List Wait) (out' : List Cell), (∀ w ∈ pend', p ≤ w.power) ∧ out' ++ cellsOf pend' = o.out ∧ NextOk s p o.pos pend' ∧ ∀ x, Goes s true ⟨o.pos, out', pend' ++ W⟩ x → Goes s true ⟨r.pos, out, pend ++ W⟩ x) ∧
  (0 ≤ o.bad → Goes s true ⟨r.pos, out, pend ++ W⟩ (.bad o.bad))
theorem no_close {k : Int} (h0 : 0 ≤ k) (h1 : k < strLen s) (h : (opAhead (s.drop k.toNat)).1 ≠ 0) : byteAt s k ≠ 41 := by
  intro e
  have e1 : s.getD k.toNat 0 = 41 := UInt8.toNat_inj.1 (by simp only [byteAt] at e; show _ = (41 : Nat); omega)
  rw [drop_at h0 h1, e1] at h
  cases hd : s.drop (k.toNat + 1) with
  | nil => rw [hd] at h; exact h (by decide)
  | cons b l =>
    rw [hd] at h
    apply h
    have e2 : twoOp 41 b = 0 := by unfold twoOp; split <;> rfl
    simp only [opAhead, e2, if_true]; decide
/-- The document's step over an operator that is no second comparison. -/
theorem behind_op {p k : Int} {pend W : List Wait} {out : List Cell} (hW : Below p W) (hp : ∀ w ∈ pend, p ≤ w.power) (h0 : 0 ≤ k) (h1 : k < strLen s) (hop : (opAhead (s.drop k.toNat)).1 ≠ 0) (hs : (signM (opAhead (s.drop k.toNat)).1).2 = p) (h3 : p = 3 → ∀ w ∈ pend, 4 ≤ w.power) :
    behindM s ⟨k, out, pend ++ W⟩ = (⟨k + (opAhead (s.drop k.toNat)).2, out ++ cellsOf pend, ⟨(opAhead (s.drop k.toNat)).1, p⟩ :: W⟩, -1, 0) := by
  have hc := no_close h0 h1 hop
  have hf := flush_app hW hp
  have hcmp : ¬ (p = 3 ∧ compared (pend ++ W) = true) := by
    rintro ⟨rfl, h⟩
    rw [compared_app (fun w hw => by have := hp w hw; omega), compared_below hW] at h
    simp only [Bool.or_false, List.any_eq_true, beq_iff_eq] at h
    obtain ⟨w, hw, e⟩ := h
    have := h3 rfl w hw; omega
  unfold behindM
  rw [if_neg (by show ¬ k = strLen s; omega), if_neg hc]
  simp only [hs]
  rw [if_neg hop, if_neg hcmp]
  simp only [Mc.flush, hf.1, hf.2]
/-- The closing parenthesis, read or missed, by both. -/
theorem shut_both {op : Int} {W : List Wait} {r0 q : Rd} {B : Res → Prop} (hok : Ok s r0) (hr : Run s (.bin 1) r0 q)
    (g1 : q.bad < 0 → ∃ (pend : List Wait) (out : List Cell), (∀ w ∈ pend, 1 ≤ w.power) ∧ out ++ cellsOf pend = q.out ∧ NextOk s 1 q.pos pend ∧ ∀ x, Goes s true ⟨q.pos, out, pend ++ ⟨op, 0⟩ :: W⟩ x → B x) (g2 : 0 ≤ q.bad → B (.bad q.bad)) :
    ((closeR s q).bad < 0 → ∀ x, Goes s true ⟨(closeR s q).pos, if op = 0 then (closeR s q).out else (closeR s q).out ++ [⟨op, 0, []⟩], W⟩ x → B x) ∧ (0 ≤ (closeR s q).bad → B (.bad (closeR s q).bad)) := by
  rcases hr.inv hok with ⟨k1, _, _⟩ | ⟨_, k2, _⟩
  · obtain ⟨pend, out, m1, m2, m3, m4⟩ := g1 (by have := k1.bad; omega)
    have hW : Below 1 (⟨op, 0⟩ :: W) := ⟨by show (0 : Int) < 1; omega, fun h => by have : (0 : Int) > 0 := h; omega⟩
    have hf := flush_app hW m1
    have hlow := k1.low
    have hhigh := k1.high
    have hb := k1.bad
    by_cases hc : q.pos = strLen s ∨ byteAt s q.pos ≠ 41
    · have e : closeR s q = (q.wrong q.pos).to (q.pos + 1) := by unfold closeR; rw [if_pos ⟨by omega, hc⟩]
      have eb : (closeR s q).bad = q.pos := by rw [e]; simp [Rd.to, Rd.wrong, hb]
      rw [eb]
      refine ⟨fun h => by omega, fun _ => m4 _ ?_⟩
      by_cases he : q.pos = strLen s
      · refine .beBad (m' := (⟨q.pos, out, pend ++ ⟨op, 0⟩ :: W⟩ : Mc).flush 1) (n := 0) ?_ hlow
        unfold behindM
        rw [if_pos he, if_neg (by show ¬ restL 1 _ = []; rw [hf.2]; simp)]
      · have hc' : byteAt s q.pos ≠ 41 := by rcases hc with h | h; exact absurd h he; exact h
        refine .beBad (m' := ⟨q.pos, out, pend ++ ⟨op, 0⟩ :: W⟩) (n := 0) ?_ hlow
        unfold behindM
        rw [if_neg he, if_neg hc']
        simp only
        by_cases hz : (opAhead (s.drop q.pos.toNat)).1 = 0
        · rw [if_pos hz]
        · rw [if_neg hz]
          have h3 : (signM (opAhead (s.drop q.pos.toNat)).1).2 = 3 ∧ pend.any (fun w => w.power == 3) = true := by
            rcases m3 with m3 | m3 | m3
            · exact absurd m3 hz
            · exfalso
              rcases ahead_facts (s.drop q.pos.toNat) with e | ⟨_, _, _, _, _, g6, _⟩
              · rw [e] at hz; exact hz rfl
              · omega
            · exact m3
          rw [if_pos ⟨h3.1, by rw [compared_app (fun w hw => by have := m1 w hw; omega), h3.2]; rfl⟩]
    · have hc1 : ¬ q.pos = strLen s := fun e => hc (.inl e)
      have hc2 : byteAt s q.pos = 41 := Classical.byContradiction fun e => hc (.inr e)
      have e : closeR s q = q.to (q.pos + 1) := by unfold closeR; rw [if_neg (fun h => hc h.2)]
      rw [e]
      refine ⟨fun _ x hx => m4 x ?_, fun h => by have : (0 : Int) ≤ q.bad := h; omega⟩
      refine .beOn (b := true) (m' := ⟨q.pos + 1, if op = 0 then q.out else q.out ++ ([⟨op, 0, []⟩] : List Cell), W⟩) ?_ hx
      unfold behindM
      rw [if_neg hc1, if_pos hc2]
      simp only [Mc.flush, hf.1, hf.2, m2]
      rfl
  · rw [closeR_bad k2]
    exact ⟨fun h => by have : q.bad < 0 := h; omega, fun _ => g2 k2⟩
theorem shut {W : List Wait} {r0 r q : Rd} (hok : Ok s r0) (hr : Run s (.bin 1) r0 q)
    (g1 : q.bad < 0 → ∃ (pend : List Wait) (out : List Cell), (∀ w ∈ pend, 1 ≤ w.power) ∧ out ++ cellsOf pend = q.out ∧ NextOk s 1 q.pos pend ∧ ∀ x, Goes s true ⟨q.pos, out, pend ++ ⟨0, 0⟩ :: W⟩ x → Goes s false ⟨r0.pos, r0.out, ⟨0, 0⟩ :: W⟩ x) (g2 : 0 ≤ q.bad → Goes s false ⟨r0.pos, r0.out, ⟨0, 0⟩ :: W⟩ (.bad q.bad))
    (hgo : ∀ x, Goes s false ⟨r0.pos, r0.out, ⟨0, 0⟩ :: W⟩ x → Goes s false ⟨r.pos, r.out, W⟩ x) :
    ((closeR s q).bad < 0 → ∃ (pend : List Wait) (out : List Cell), (∀ w ∈ pend, w.power = 6) ∧ out ++ cellsOf pend = (closeR s q).out ∧ ∀ x, Goes s true ⟨(closeR s q).pos, out, pend ++ W⟩ x → Goes s false ⟨r.pos, r.out, W⟩ x) ∧
    (0 ≤ (closeR s q).bad → Goes s false ⟨r.pos, r.out, W⟩ (.bad (closeR s q).bad)) := by
  obtain ⟨k1, k2⟩ := shut_both hok hr g1 g2
  exact ⟨fun hb => ⟨[], (closeR s q).out, by simp, by simp [cellsOf], fun x hx => hgo x (k1 hb x hx)⟩, fun hb => hgo _ (k2 hb)⟩
theorem shutC {op : Int} {W : List Wait} {r0 r q : Rd} (hop : op ≠ 0) (hok : Ok s r0) (hr : Run s (.bin 1) r0 q)
    (g1 : q.bad < 0 → ∃ (pend : List Wait) (out : List Cell), (∀ w ∈ pend, 1 ≤ w.power) ∧ out ++ cellsOf pend = q.out ∧ NextOk s 1 q.pos pend ∧ ∀ x, Goes s true ⟨q.pos, out, pend ++ ⟨op, 0⟩ :: W⟩ x → Goes s false ⟨r0.pos, r0.out, ⟨op, 0⟩ :: W⟩ x) (g2 : 0 ≤ q.bad → Goes s false ⟨r0.pos, r0.out, ⟨op, 0⟩ :: W⟩ (.bad q.bad))
    (hgo : ∀ x, Goes s false ⟨r0.pos, r0.out, ⟨op, 0⟩ :: W⟩ x → Goes s false ⟨r.pos, r.out, W⟩ x) :
    (((closeR s q).emit ⟨op, 0, []⟩).bad < 0 → ∃ (pend : List Wait) (out : List Cell), (∀ w ∈ pend, w.power = 6) ∧ out ++ cellsOf pend = ((closeR s q).emit ⟨op, 0, []⟩).out ∧ ∀ x, Goes s true ⟨((closeR s q).emit ⟨op, 0, []⟩).pos, out, pend ++ W⟩ x → Goes s false ⟨r.pos, r.out, W⟩ x) ∧
    (0 ≤ ((closeR s q).emit ⟨op, 0, []⟩).bad → Goes s false ⟨r.pos, r.out, W⟩ (.bad ((closeR s q).emit ⟨op, 0, []⟩).bad)) := by
  obtain ⟨k1, k2⟩ := shut_both hok hr g1 g2
  rw [if_neg hop] at k1
  exact ⟨fun hb => ⟨[], (closeR s q).out ++ ([⟨op, 0, []⟩] : List Cell), by simp, by simp [cellsOf, Rd.emit], fun x hx => hgo x (k1 hb x hx)⟩, fun hb => hgo _ (k2 hb)⟩
def BothT (s : Str) : Task → Rd → Rd → Prop
  | .bin p, r, o => Ok s r → 1 ≤ p → p ≤ 6 → Sim s p r o
  | .loop p, r, o => Ok s r → SimL s p r o
  | .una, r, o => Ok s r → SimU s r o
theorem Run.both {t : Task} {r o : Rd} (h : Run s t r o) : BothT s t r o := by
  induction h with
  | @six r q hr ih =>
    intro hok _ _ W hW
    obtain ⟨g1, g2⟩ := ih hok W
    refine ⟨fun hb => ?_, g2⟩
    obtain ⟨pend, out, k1, k2, k3⟩ := g1 hb
    refine ⟨pend, out, fun w hw => by rw [k1 w hw]; exact Int.le_refl _, k2, ?_, k3⟩
    rcases ahead_facts (s.drop q.pos.toNat) with e | ⟨_, _, _, _, _, _, e⟩
    · left; rw [e]
    · right; left; omega
  | @bin p r q o h1 h5 hr hl ih1 ih2 =>
    intro hok _ _ W hW
    obtain ⟨g1, g2⟩ := ih1 hok (by omega) (by omega) W (hW.mono (by omega))
    rcases hr.inv hok with ⟨k1, k2, _⟩ | ⟨_, k2, _⟩
    · obtain ⟨pend, out, m1, m2, m3, m4⟩ := g1 (by have := k1.bad; omega)
      obtain ⟨n1, n2⟩ := ih2 k1 W pend out hW (fun w hw => by have := m1 w hw; omega) (fun e w hw => by have := m1 w hw; omega) m2 m3
      refine ⟨fun hb => ?_, fun hb => m4 _ (n2 hb)⟩
      obtain ⟨pend', out', j1, j2, j3, j4⟩ := n1 hb
      exact ⟨pend', out', j1, j2, j3, fun x hx => m4 x (j4 x hx)⟩
    · have := hl.stop k2
      subst this
      exact ⟨fun hb => by omega, fun _ => g2 k2⟩
  | @done p r he =>
    intro hok W pend out hW hp h3 ho hn
    refine ⟨fun hb => ⟨pend, out, hp, ho, ?_, fun x hx => hx⟩, fun hb => by have := hok.bad; omega⟩
    have he' : ¬ (operM (s.drop r.pos.toNat) p).1 ≠ 0 := fun hh => he ⟨hb, hh⟩
    rcases hn with hn | hn | hn
    · exact .inl hn
    · by_cases hz : (opAhead (s.drop r.pos.toNat)).1 = 0
      · exact .inl hz
      · right; left
        by_cases hq : (signM (opAhead (s.drop r.pos.toNat)).1).2 = p
        · exfalso
          apply he'
          have hf := ahead_facts (s.drop r.pos.toNat)
          rcases hf with e | ⟨_, _, _, _, _, g6, g7⟩
          · rw [e] at hz; exact absurd rfl hz
          · rw [oper_ahead _ p (by omega) (by omega), if_pos hq]; exact hz
        · omega
    · exact .inr (.inr hn)
  | @more p r q o h1 h5 h3 hn hr hl ih1 ih2 =>
    intro hok W pend out hW hp hp3 ho hnx
    obtain ⟨f1, f2, f3, f4, f5, f6, f7⟩ := oper_facts h1 h5 hok.low hok.high hn
    have hlow := hok.low
    have hlt : r.pos < strLen s := by omega
    rw [← f2] at f3 f4 f5 f6 f7 hr hl ih1 ih2
    have hop : (opAhead (s.drop r.pos.toNat)).1 ≠ 0 := by omega
    have hstep := behind_op (out := out) hW hp hlow hlt hop f3 (fun e => absurd e h3)
    rw [ho] at hstep
    have hok1 : Ok s (r.to (r.pos + (opAhead (s.drop r.pos.toNat)).2)) := ⟨hok.bad, by simp only [Rd.to]; omega, by simp only [Rd.to]; omega⟩
    have hW1 : Below (p + 1) (⟨(opAhead (s.drop r.pos.toNat)).1, p⟩ :: W) := ⟨by show p < p + 1; omega, fun _ => hW.mono (by omega)⟩
    obtain ⟨g1, g2⟩ := ih1 hok1 (by omega) (by omega) _ hW1
    have hgo : ∀ x, Goes s false ⟨r.pos + (opAhead (s.drop r.pos.toNat)).2, r.out, ⟨(opAhead (s.drop r.pos.toNat)).1, p⟩ :: W⟩ x → Goes s true ⟨r.pos, out, pend ++ W⟩ x := fun x hx => .beOn (b := false) hstep hx
    rcases hr.inv hok1 with ⟨k1, _, _⟩ | ⟨_, k2, _⟩
    · obtain ⟨pend1, out1, m1, m2, m3, m4⟩ := g1 (by have := k1.bad; omega)
      have m4' : ∀ x, Goes s true ⟨q.pos, out1, (pend1 ++ [⟨(opAhead (s.drop r.pos.toNat)).1, p⟩]) ++ W⟩ x → Goes s true ⟨r.pos, out, pend ++ W⟩ x := fun x hx => hgo x (m4 x (by rw [List.append_assoc] at hx; exact hx))
      obtain ⟨n1, n2⟩ := ih2 k1.emit W (pend1 ++ [⟨(opAhead (s.drop r.pos.toNat)).1, p⟩]) out1 hW (fun w hw => by
          rcases List.mem_append.1 hw with hw | hw
          · have := m1 w hw; omega
          · have := List.mem_singleton.1 hw; subst this; exact Int.le_refl _) (fun e => absurd e h3) (by
          rw [cellsOf_app, ← List.append_assoc, m2]; rfl) (by
          rcases m3 with m3 | m3 | ⟨m3, m5⟩
          · exact .inl m3
          · exact .inr (.inl m3)
          · exact .inr (.inr ⟨m3, by rw [List.any_append, m5]; rfl⟩))
      refine ⟨fun hb => ?_, fun hb => m4' _ (n2 hb)⟩
      obtain ⟨pend', out', j1, j2, j3, j4⟩ := n1 hb
      exact ⟨pend', out', j1, j2, j3, fun x hx => m4' x (j4 x hx)⟩
    · have := hl.stop (r := _) k2
      subst this
      exact ⟨fun hb => by have : q.bad < 0 := hb; omega, fun _ => hgo _ (g2 k2)⟩
  | @once r q hn hr ih1 =>
    intro hok W pend out hW hp hp3 ho hnx
    obtain ⟨f1, f2, f3, f4, f5, f6, f7⟩ := oper_facts (by omega) (by omega) hok.low hok.high hn
    have hlow := hok.low
    have hlt : r.pos < strLen s := by omega
    rw [← f2] at f3 f4 f5 f6 f7 hr ih1 ⊢
    have hop : (opAhead (s.drop r.pos.toNat)).1 ≠ 0 := by omega
    have hstep := behind_op (out := out) hW hp hlow hlt hop f3 hp3
    rw [ho] at hstep
    have hok1 : Ok s (r.to (r.pos + (opAhead (s.drop r.pos.toNat)).2)) := ⟨hok.bad, by simp only [Rd.to]; omega, by simp only [Rd.to]; omega⟩
    have hW1 : Below 4 (⟨(opAhead (s.drop r.pos.toNat)).1, 3⟩ :: W) := ⟨by show (3 : Int) < 4; omega, fun _ => hW.mono (by omega)⟩
    obtain ⟨g1, g2⟩ := ih1 hok1 (by omega) (by omega) _ hW1
    have hgo : ∀ x, Goes s false ⟨r.pos + (opAhead (s.drop r.pos.toNat)).2, r.out, ⟨(opAhead (s.drop r.pos.toNat)).1, 3⟩ :: W⟩ x → Goes s true ⟨r.pos, out, pend ++ W⟩ x := fun x hx => .beOn (b := false) hstep hx
    refine ⟨fun hb => ?_, fun hb => hgo _ (g2 hb)⟩
    obtain ⟨pend1, out1, m1, m2, m3, m4⟩ := g1 hb
    refine ⟨pend1 ++ [⟨(opAhead (s.drop r.pos.toNat)).1, 3⟩], out1, fun w hw => ?_, ?_, ?_, fun x hx => hgo x (m4 x (by rw [List.append_assoc] at hx; exact hx))⟩
    · rcases List.mem_append.1 hw with hw | hw
      · have := m1 w hw; omega
      · have := List.mem_singleton.1 hw; subst this; exact Int.le_refl _
    · rw [cellsOf_app, ← List.append_assoc, m2]; rfl
    · have hany : (pend1 ++ [(⟨(opAhead (s.drop r.pos.toNat)).1, 3⟩ : Wait)]).any (fun w => w.power == 3) = true := by rw [List.any_append]; simp
      rcases m3 with m3 | m3 | ⟨m3, m5⟩
      · exact .inl m3
      · by_cases e : (signM (opAhead (s.drop q.pos.toNat)).1).2 = 3
        · exact .inr (.inr ⟨e, hany⟩)
        · right; left; show (signM (opAhead (s.drop q.pos.toNat)).1).2 < 3; omega
      · exact .inr (.inr ⟨m3, hany⟩)
  | @lost r hl =>
    intro hok W
    have hb := hok.bad
    have hf : headM s r.pos = .fin := by rcases hl with h | h; omega; exact h
    have e : (r.wrong r.pos).bad = r.pos := by simp [Rd.wrong, hb]
    rw [e]
    have := hok.low
    refine ⟨fun h => by omega, fun _ => .opBad (m' := ⟨r.pos, r.out, W⟩) (e := false) ?_ hok.low⟩
    simp only [operandM, hf]
  | @sign r q op hb hh hr ih =>
    intro hok W
    have hlt := hok.lt (fun x e => by rw [hh] at e; subst e; simp)
    have hlow := hok.low
    have hok1 : Ok s (r.to (r.pos + 1)) := ⟨hok.bad, by simp only [Rd.to]; omega, by simp only [Rd.to]; omega⟩
    obtain ⟨g1, g2⟩ := ih hok1 (⟨op, 6⟩ :: W)
    have hgo : ∀ x, Goes s false ⟨r.pos + 1, r.out, ⟨op, 6⟩ :: W⟩ x → Goes s false ⟨r.pos, r.out, W⟩ x := fun x hx => .opOn (e := false) (by simp only [operandM, hh]) hx
    refine ⟨fun h => ?_, fun h => hgo _ (g2 h)⟩
    obtain ⟨pend, out, k1, k2, k3⟩ := g1 h
    refine ⟨pend ++ [⟨op, 6⟩], out, fun w hw => ?_, ?_, fun x hx => hgo x (k3 x (by rw [List.append_assoc] at hx; exact hx))⟩
    · rcases List.mem_append.1 hw with hw | hw
      · exact k1 w hw
      · have := List.mem_singleton.1 hw; subst this; rfl
    · rw [cellsOf_app, ← List.append_assoc, k2]; rfl
  | @leaf r hb hh =>
    intro hok W
    have e : (⟨r.pos, r.out, -1⟩ : Rd) = r := by rw [← hok.bad]
    refine ⟨fun h => ⟨[], (leafR s r).out, by simp, by simp [cellsOf], fun x hx => .opOn (e := true) ?_ hx⟩, fun h => .opBad (m' := ⟨faultPos s r.pos, r.out, W⟩) (e := false) ?_ h⟩
    · simp only [operandM, hh, e, if_pos h]; rfl
    · have h' : ¬ (leafR s r).bad < 0 := by omega
      simp only [operandM, hh, e, if_neg h']
  | @par r q hb hh hr ih =>
    intro hok W
    have hlt := hok.lt (fun x e => by rw [hh] at e; subst e; simp)
    have hlow := hok.low
    have hok1 : Ok s (r.to (r.pos + 1)) := ⟨hok.bad, by simp only [Rd.to]; omega, by simp only [Rd.to]; omega⟩
    obtain ⟨g1, g2⟩ := ih hok1 (by omega) (by omega) (⟨0, 0⟩ :: W) ⟨by show (0 : Int) < 1; omega, fun h => by have : (0 : Int) > 0 := h; omega⟩
    have hgo : ∀ x, Goes s false ⟨r.pos + 1, r.out, ⟨0, 0⟩ :: W⟩ x → Goes s false ⟨r.pos, r.out, W⟩ x := fun x hx => .opOn (e := false) (by simp only [operandM, hh]) hx
    exact shut hok1 hr g1 g2 hgo
  | @call r q op hb hh hr ih =>
    intro hok W
    have hlow := hok.low
    obtain ⟨hop, _, _, _, _, _, hlt⟩ := callS hh
    have hok1 : Ok s (r.to (r.pos + 3)) := ⟨hok.bad, by simp only [Rd.to]; omega, by simp only [Rd.to]; omega⟩
    obtain ⟨g1, g2⟩ := ih hok1 (by omega) (by omega) (⟨op, 0⟩ :: W) ⟨by show (0 : Int) < 1; omega, fun h => by have : (0 : Int) > 0 := h; omega⟩
    have hgo : ∀ x, Goes s false ⟨r.pos + 3, r.out, ⟨op, 0⟩ :: W⟩ x → Goes s false ⟨r.pos, r.out, W⟩ x := fun x hx => .opOn (e := false) (by simp only [operandM, hh]) hx
    exact shutC (by omega) hok1 hr g1 g2 hgo
/-- THE TWO READERS AGREE. -/
theorem parse_both (s : Str) : Goes s false ⟨0, [], []⟩ (if (runAll s).bad ≥ 0 then .bad (runAll s).bad else if (runAll s).pos < strLen s then .bad (runAll s).pos else .ok (runAll s).out) := by
  have hr := runAll_run s
  generalize runAll s = o at *
  have hok : Ok s ⟨0, [], -1⟩ := ⟨rfl, Int.le_refl _, by simp [strLen]⟩
  obtain ⟨g1, g2⟩ := hr.both hok (by omega) (by omega) [] trivial
  rcases hr.inv hok with ⟨k1, _, _⟩ | ⟨_, k2, _⟩
  · have hb := k1.bad
    have hlow := k1.low
    have hhigh := k1.high
    rw [if_neg (by omega)]
    obtain ⟨pend, out, m1, m2, m3, m4⟩ := g1 (by omega)
    have hf := flush_app (p := 1) (W := []) trivial m1
    refine m4 _ ?_
    by_cases he : o.pos = strLen s
    · rw [if_neg (by omega)]
      have e : o.out = ((⟨o.pos, out, pend ++ []⟩ : Mc).flush 1).out := by simp only [Mc.flush, hf.1, m2]
      rw [e]
      refine .beEnd ?_
      unfold behindM
      rw [if_pos he, if_pos (by show restL 1 _ = []; rw [hf.2])]
    · rw [if_pos (by omega)]
      by_cases hc : byteAt s o.pos = 41
      · refine .beBad (m' := (⟨o.pos, out, pend ++ []⟩ : Mc).flush 1) (n := 0) ?_ hlow
        unfold behindM
        rw [if_neg he, if_pos hc]
        have : ((⟨o.pos, out, pend ++ []⟩ : Mc).flush 1).wt = [] := hf.2
        simp only [this]
      · refine .beBad (m' := ⟨o.pos, out, pend ++ []⟩) (n := 0) ?_ hlow
        unfold behindM
        rw [if_neg he, if_neg hc]
        simp only
        by_cases hz : (opAhead (s.drop o.pos.toNat)).1 = 0
        · rw [if_pos hz]
        · rw [if_neg hz]
          have h3 : (signM (opAhead (s.drop o.pos.toNat)).1).2 = 3 ∧ pend.any (fun w => w.power == 3) = true := by
            rcases m3 with m3 | m3 | m3
            · exact absurd m3 hz
            · exfalso
              rcases ahead_facts (s.drop o.pos.toNat) with e | ⟨_, _, _, _, _, g6, _⟩
              · rw [e] at hz; exact hz rfl
              · omega
            · exact m3
          rw [if_pos ⟨h3.1, by rw [compared_app (fun w hw => by have := m1 w hw; omega), h3.2]; rfl⟩]
  · rw [if_pos (by omega)]; exact g2 k2
end Go.Proofs.YtjndellhebidoaaGreatDoor

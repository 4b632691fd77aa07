/- An executor for function bodies of the model, part E: what one computing operation comes to, and that it does. Conditions: each operation's own, told as a proposition. -/
import Derived.Test.YtgoihhnfkoklpaaEngD
namespace Go.Sy
open Go.RowKit

def strLen (l : List UInt8) : Int := l.length
def opV (P : Program) (st : ST) (g : Option (Nat × Bool)) : Op → Option (Option Prop × SV)
  | .move x | .assign x => (evalO st g x).map fun sv => (none, sv)
  | .pick c x y =>
    match c with
    | .tmp s => match evalO st g c, armOf st g s true x, armOf st g s false y with
      | some (.c (.val (.bool b))), some va, some vb => (pickV b x y va vb).map fun sc => (none, .c sc)
      | _, _, _ => none
    | _ => none
  | .binOp op t x y _ => match evalO st g x, evalO st g y with
    | some (.c (.val v)), some (.c (.val u)) => (binV P op t v u).map fun pv => (pv.1, .c (.val pv.2))
    | _, _ => none
  | .unOp op _ x => match op, evalO st g x with
    | .not, some (.c (.val (.bool b))) => some (none, .c (.val (.bool (!b))))
    | .neg, some (.c (.val (.int k n))) => some (none, .c (.val (.int k (k.wrap (0 - n)))))
    | _, _ => none
  | .convert src dst x => match P.underlying src, P.underlying dst, evalO st g x with
    | some _, some (.int k), some (.c (.val (.int _ n))) => some (none, .c (.val (.int k (k.wrap n))))
    | some _, some .string, some (.c (.val (.string s))) => some (none, .c (.val (.string s)))
    | _, _, _ => none
  | .extract x i => match evalO st g x with
    | some (.c (.val (.tuple vs))) => (vs[i]?).map fun v => (none, .c (.val v))
    | _ => none
  | .field t x i => match evalO st g x, fieldOf P t i with
    | some sv, some fd => match svCells sv with
      | some cs => (partOf P fd.type cs fd.offset).map fun r => (none, r)
      | none => none
    | _, _ => none
  | .fieldAddr t x i => match evalO st g x, fieldOf P t i with
    | some (.c (.loc j off)), some fd => match szOf P fd.type with
      | some (_ + 1) => some (none, .c (.loc j (off + fd.offset)))
      | _ => none
    | some (.c (.val (.pointer (some ⟨b, off, none⟩)))), some fd => match szOf P fd.type with
      | some (_ + 1) => some (none, .c (.val (.pointer (some ⟨b, off + fd.offset, none⟩))))
      | _ => none
    | _, _ => none
  | .load t x => match evalO st g x with
    | some (.c (.loc i off)) => match fieldCells st i with
      | some cs => (partOf P t cs off).map fun r => (none, r)
      | none => none
    | _ => none
  | .index t x i => match evalO st g x, P.underlying t, intOf? (evalO st g i) with
    | some (.c (.val (.string s))), some .string, some n =>
      some (some (0 ≤ n ∧ n < strLen s.data.toList), .c (.val (.int .u8 (s.data.toList.getD n.toNat 0).toNat)))
    | _, _, _ => none
  | .slice t x lo hi none => match evalO st g x, P.underlying t with
    | some (.c (.val (.string s))), some .string =>
      match lo, hi with
      | none, none => some (none, .c (.val (.string (bs s.data.toList))))
      | some l, none => match intOf? (evalO st g l) with
        | some n => some (some (0 ≤ n ∧ n ≤ strLen s.data.toList), .c (.val (.string (bs (s.data.toList.drop n.toNat)))))
        | none => none
      | none, some h => match intOf? (evalO st g h) with
        | some m => some (some (0 ≤ m ∧ m ≤ strLen s.data.toList), .c (.val (.string (bs (s.data.toList.take m.toNat)))))
        | none => none
      | some l, some h => match intOf? (evalO st g l), intOf? (evalO st g h) with
        | some n, some m => some (some (0 ≤ n ∧ n ≤ m ∧ m ≤ strLen s.data.toList), .c (.val (.string (bs ((s.data.toList.take m.toNat).drop n.toNat)))))
        | _, _ => none
    | _, _ => none
  | .call { callee := .builtin .len, args := args, argTypes := ts } =>
    match args.toList, ts.toList with
    | [x], [t] => match evalO st g x, P.underlying t with
      | some (.c (.val (.string s))), some .string => some (none, .c (.val (.int .i64 (strLen s.data.toList))))
      | some (.c (.val (.slice _ n _))), some (.slice _) => some (none, .c (.val (.int .i64 n)))
      | some (.c (.own i)), some (.slice _) => match st.ck[i]? with
        | some (.own _ _ n _) => some (none, .c (.val (.int .i64 n)))
        | _ => none
      | _, _ => none
    | _, _ => none
  | .indexAddr t x i => match evalO st g x, P.underlying t, intOf? (evalO st g i) with
    | some (.c (.val (.slice (some ⟨b, off, none⟩) n _))), some (.slice e), some j => match szOf P e with
      | some sz => some (some (0 ≤ j ∧ j < n), .c (.val (.pointer (some ⟨b, off + j.toNat * sz, none⟩))))
      | none => none
    | some (.c (.own k)), some (.slice e), some j => match szOf P e, st.ck[k]? with
      | some sz, some (.own _ _ n _) => some (some (0 ≤ j ∧ j < n), .c (.loc k (j.toNat * sz)))
      | _, _ => none
    | _, _, _ => none
  | .makeInterface t x => match evalO st g x, P.underlying t with
    | some sv, some d => match d, sv.toVal with
      | .interface _, _ => none
      | _, some v => some (none, .c (.val (.iface t v)))
      | _, _ => none
    | _, _ => none
  | .makeFunc fn first cap => match scList (first.toList.map (evalO st g)), scList (cap.toList.map (evalO st g)) with
    | some x, some y => some (none, .fn fn x y)
    | _, _ => none
  | .nilCheck x => match evalO st g x with
    | some (.c (.loc i off)) => some (none, .c (.loc i off))
    | some (.c (.val (.pointer (some a)))) => some (none, .c (.val (.pointer (some a))))
    | some (.fn (.func f) x y) => some (none, .fn (.func f) x y)
    | _ => none
  | _ => none
where scList : List (Option SV) → Option (List SC)
  | [] => some []
  | some (.c s) :: r => (scList r).map (s :: ·)
  | _ :: _ => none

theorem pickV_sound {σ : Nat → Nat} {ov : Nat → Value} {b : Bool} {x y : Operand} {va vb r : SC} (h : pickV b x y va vb = some r) : r.den σ ov = bif b then va.den σ ov else vb.den σ ov := by
  unfold pickV at h
  split at h
  · rename_i p q
    split at h
    · simp only [Option.some.injEq] at h; subst h
      cases b <;> cases p <;> cases q <;> rfl
    · simp only [Option.some.injEq] at h; subst h
      cases b <;> cases p <;> cases q <;> rfl
    · simp only [Option.some.injEq] at h; subst h
      cases b <;> cases p <;> cases q <;> rfl
  · simp only [Option.some.injEq] at h; subst h
    cases b <;> rfl
  · simp at h
theorem scList_sound {P : Program} {w0 : World} {H : Nat → Option Obj} {st : ST} {σ : Nat → Nat} {ov : Nat → Value} {a : Act} {w : World} (r : Rel P w0 H st σ ov a w) {g : Option (Nat × Bool)} (hg : GuardOn a g) :
    ∀ (l : List Operand) (cs : List SC), opV.scList (l.map (evalO st g)) = some cs → l.map a.eval = cs.map (SC.den σ ov)
  | [], cs, h => by simp [opV.scList] at h; subst h; rfl
  | x :: l, cs, h => by
    simp only [List.map_cons] at h
    cases hx : evalO st g x with
    | none => rw [hx] at h; simp [opV.scList] at h
    | some sv =>
      rw [hx] at h
      cases sv with
      | c s =>
        simp only [opV.scList, Option.map_eq_some_iff] at h
        obtain ⟨l', h1, rfl⟩ := h
        simp only [List.map_cons]
        rw [(evalO_sound r hg hx).1, scList_sound r hg l l' h1]
        rfl
      | agg _ => simp [opV.scList] at h
      | fn _ _ _ => simp [opV.scList] at h
      | grd _ _ _ => simp [opV.scList] at h
theorem armOf_sound {P : Program} {w0 : World} {H : Nat → Option Obj} {st : ST} {σ : Nat → Nat} {ov : Nat → Value} {a : Act} {w : World} (r : Rel P w0 H st σ ov a w) {g : Option (Nat × Bool)} (hg : GuardOn a g)
    {s : Nat} {want : Bool} {x : Operand} {v : SC} (h : armOf st g s want x = some v) (hs : a.tmps.getD s undef = .bool want) : a.eval x = v.den σ ov := by
  unfold armOf at h
  split at h
  · rename_i v' he
    simp only [Option.some.injEq] at h; subst h
    exact (evalO_sound r (g := some (s, want)) hs he).1
  · split at h
    · rename_i v' he
      simp only [Option.some.injEq] at h; subst h
      exact (evalO_sound r hg he).1
    · simp at h
theorem intOf_sound {P : Program} {w0 : World} {H : Nat → Option Obj} {st : ST} {σ : Nat → Nat} {ov : Nat → Value} {a : Act} {w : World} (r : Rel P w0 H st σ ov a w) {g : Option (Nat × Bool)} (hg : GuardOn a g)
    {x : Operand} {n : Int} (h : intOf? (evalO st g x) = some n) : ∃ k, a.eval x = .int k n := by
  cases he : evalO st g x with
  | none => rw [he] at h; simp [intOf?] at h
  | some sv =>
    rw [he] at h
    have := (evalO_sound r hg he).1
    unfold intOf? at h
    split at h
    · rename_i k m heq
      simp only [Option.some.injEq] at h heq
      subst h
      subst heq
      exact ⟨k, this⟩
    · simp at h
theorem svCells_sound {σ : Nat → Nat} {ov : Nat → Value} {sv : SV} {cs : List SC} (h : svCells sv = some cs) : sv.den σ ov = .agg (cs.map (SC.den σ ov)).toArray := by
  unfold svCells at h
  split at h
  · simp only [Option.some.injEq] at h; subst h; simp [SV.den, SC.den, Function.comp_def]
  · simp only [Option.some.injEq] at h; subst h; rfl
  · simp at h
end Go.Sy

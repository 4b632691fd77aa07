/- An executor for function bodies of the model, part B: symbolic states, what they say of frames and worlds, and the operations that only compute. Conditions: none. -/
import Derived.Test.YtgoihhnfkoklpaaEngA
import Derived.Lib.Strings
namespace Go.Sy
open Go.RowKit

/-- A cell's content: a value; a pointer into one of the call's own blocks; a slice that the call owns. -/
inductive SC where
  | val (v : Value)
  | loc (i off : Nat)
  | own (i : Nat)
deriving Inhabited
inductive SV where
  | c (s : SC)
  | agg (cs : List SC)
  | fn (f : Fn) (first cap : List SC)
  | grd (s : Nat) (want : Bool) (v : SC)
deriving Inhabited
inductive Chunk where
  | dead
  | cells (cs : List SC) (e : TypeId)
  | own (e : TypeId) (size n : Nat) (xs : List Value)
deriving Inhabited
structure ST where
  n : Nat
  fr : List (Nat × SV)
  ck : List Chunk
  kn : List Nat := []     -- slots that hold a truth that is written out
deriving Inhabited

def SC.den (σ : Nat → Nat) (ov : Nat → Value) : SC → Value
  | .val v => v
  | .loc i off => .pointer (some ⟨σ i, off, none⟩)
  | .own i => ov i
def SV.den (σ : Nat → Nat) (ov : Nat → Value) : SV → Value
  | .c s => s.den σ ov
  | .agg cs => .agg (cs.map (SC.den σ ov)).toArray
  | .fn f first cap => .func f (first.map (SC.den σ ov)).toArray (cap.map (SC.den σ ov)).toArray
  | .grd _ _ _ => undef
def guardVal : Value → Bool → Value → Value
  | .bool b, want, v => bif b == want then v else undef
  | _, _, _ => undef
def SlotOk (σ : Nat → Nat) (ov : Nat → Value) (a : Act) (t : Nat) : SV → Prop
  | .grd s want v => a.tmps.getD t undef = guardVal (a.tmps.getD s undef) want (v.den σ ov)
  | sv => a.tmps.getD t undef = sv.den σ ov
def Chunk.blk (σ : Nat → Nat) (ov : Nat → Value) (i : Nat) : Chunk → Option Nat
  | .dead => none
  | .cells _ _ => some (σ i)
  | .own _ _ _ _ => (ov i).ownBlock
def Chunk.holds (B : Nat) (σ : Nat → Nat) (ov : Nat → Value) (w : World) (i : Nat) : Chunk → Prop
  | .dead => True
  | .cells cs e => w.heap[σ i]? = some (.cells (cs.map (SC.den σ ov)).toArray e (0, 0))
  | .own e size n xs => w.ownsRow B e size (ov i) n xs ∧ ∀ b, (ov i).ownBlock = some b → σ i = b

def lookup : List (Nat × SV) → Nat → Option SV
  | [], _ => none
  | p :: r, n => bif Nat.beq p.1 n then some p.2 else lookup r n
def SV.onSlot (d : Nat) : SV → Bool
  | .grd s _ _ => Nat.beq s d
  | _ => false
/-- A slot written anew: what hangs on its old content goes. -/
def setSlot (d : Nat) (sv : SV) : List (Nat × SV) → List (Nat × SV)
  | [] => [(d, sv)]
  | p :: r => bif Nat.beq p.1 d then (d, sv) :: r.filter (fun q => !q.2.onSlot d && !Nat.beq q.1 d) else bif p.2.onSlot d then setSlot d sv r else p :: setSlot d sv r
def dropSlot (d : Nat) (fr : List (Nat × SV)) : List (Nat × SV) := fr.filter fun q => !q.2.onSlot d && !Nat.beq q.1 d

theorem lookup_mem {fr : List (Nat × SV)} {t : Nat} {sv : SV} (h : lookup fr t = some sv) : (t, sv) ∈ fr := by
  induction fr with
  | nil => simp [lookup] at h
  | cons p r ih =>
    unfold lookup at h
    cases hb : Nat.beq p.1 t
    · rw [hb] at h; exact List.mem_cons_of_mem _ (ih h)
    · rw [hb] at h
      have e1 := Nat.eq_of_beq_eq_true hb
      simp only [cond_true, Option.some.injEq] at h
      subst e1; subst h
      exact List.mem_cons_self
theorem setSlot_mem {d : Nat} {sv : SV} {fr : List (Nat × SV)} {t : Nat} {sv' : SV} (h : (t, sv') ∈ setSlot d sv fr) :
    (t = d ∧ sv' = sv) ∨ ((t, sv') ∈ fr ∧ sv'.onSlot d = false ∧ t ≠ d) := by
  induction fr with
  | nil => simp [setSlot] at h; exact .inl h
  | cons p r ih =>
    unfold setSlot at h
    cases hb : Nat.beq p.1 d
    · rw [hb] at h
      simp only [cond_false] at h
      have hne : p.1 ≠ d := by intro e; rw [e] at hb; simp at hb
      cases ho : p.2.onSlot d
      · rw [ho] at h
        simp only [cond_false, List.mem_cons] at h
        rcases h with h | h
        · subst h; exact .inr ⟨List.mem_cons_self, ho, hne⟩
        · rcases ih h with h | ⟨h1, h2, h3⟩
          · exact .inl h
          · exact .inr ⟨List.mem_cons_of_mem _ h1, h2, h3⟩
      · rw [ho] at h
        simp only [cond_true] at h
        rcases ih h with h | ⟨h1, h2, h3⟩
        · exact .inl h
        · exact .inr ⟨List.mem_cons_of_mem _ h1, h2, h3⟩
    · rw [hb] at h
      simp only [cond_true, List.mem_cons, Prod.mk.injEq] at h
      rcases h with h | h
      · exact .inl h
      · rw [List.mem_filter] at h
        obtain ⟨h1, h2⟩ := h
        simp only [Bool.and_eq_true, Bool.not_eq_true'] at h2
        exact .inr ⟨List.mem_cons_of_mem _ h1, h2.1, fun e => by rw [e] at h2; simp at h2⟩

/-- What a symbolic state says of a frame and a world: w0: the world at the function's entry; H: memory that nobody writes. -/
structure Rel (P : Program) (w0 : World) (H : Nat → Option Obj) (st : ST) (σ : Nat → Nat) (ov : Nat → Value) (a : Act) (w : World) : Prop where
  size : a.tmps.size = st.n
  defers : a.defers = []
  slots : ∀ t sv, (t, sv) ∈ st.fr → SlotOk σ ov a t sv
  ext : Below w0.heap.size w0 w
  imm : ∀ k o, H k = some o → w.heap[k]? = some o
  own : ∀ (i : Nat) (c : Chunk), st.ck[i]? = some c → c.holds w0.heap.size σ ov w i
  base : ∀ (i : Nat) (c : Chunk) (b : Nat), st.ck[i]? = some c → c.blk σ ov i = some b → w0.heap.size ≤ b ∧ H b = none
  inj : ∀ (i j : Nat) (c d : Chunk) (b : Nat), st.ck[i]? = some c → st.ck[j]? = some d → c.blk σ ov i = some b → d.blk σ ov j = some b → i = j

theorem getD_set (a : Array Value) (d t : Nat) (v : Value) (h : d < a.size) : (a.setIfInBounds d v).getD t undef = if t = d then v else a.getD t undef := by
  simp only [Array.getD_eq_getD_getElem?, Array.getElem?_setIfInBounds]
  by_cases e : d = t
  · subst e; simp [h]
  · simp [e, Ne.symm e]

/-- A value put into a slot. -/
theorem Rel.put {P : Program} {w0 : World} {H : Nat → Option Obj} {st : ST} {σ : Nat → Nat} {ov : Nat → Value} {a : Act} {w : World} (r : Rel P w0 H st σ ov a w)
    (d : Nat) (sv : SV) (v : Value) (hd : d < st.n) (hv : ∀ a' : Act, (∀ t, t ≠ d → a'.tmps.getD t undef = a.tmps.getD t undef) → a'.tmps.getD d undef = v → SlotOk σ ov a' d sv) :
    Rel P w0 H { st with fr := setSlot d sv st.fr } σ ov (a.put (some d) v) w := by
  have hs : d < a.tmps.size := by rw [r.size]; exact hd
  have hget : ∀ t, (a.put (some d) v).tmps.getD t undef = if t = d then v else a.tmps.getD t undef := fun t => getD_set _ _ _ _ hs
  refine { size := ?_, defers := r.defers, slots := ?_, ext := r.ext, imm := r.imm, own := r.own, base := r.base, inj := r.inj }
  · show (a.tmps.setIfInBounds d v).size = st.n
    rw [Array.size_setIfInBounds]; exact r.size
  · intro t sv' hm
    rcases setSlot_mem hm with ⟨rfl, rfl⟩ | ⟨h1, h2, h3⟩
    · exact hv _ (fun t ht => by rw [hget, if_neg ht]) (by rw [hget, if_pos rfl])
    · have ho := r.slots t sv' h1
      cases sv' with
      | grd s want x =>
        have hne : s ≠ d := by intro e; subst e; simp [SV.onSlot] at h2
        show (a.put (some d) v).tmps.getD t undef = guardVal ((a.put (some d) v).tmps.getD s undef) want (x.den σ ov)
        rw [hget, if_neg h3, hget, if_neg hne]; exact ho
      | c s => show (a.put (some d) v).tmps.getD t undef = _; rw [hget, if_neg h3]; exact ho
      | agg cs => show (a.put (some d) v).tmps.getD t undef = _; rw [hget, if_neg h3]; exact ho
      | fn f x y => show (a.put (some d) v).tmps.getD t undef = _; rw [hget, if_neg h3]; exact ho
/-- A slot of which nothing is said any more. -/
theorem Rel.forget {P : Program} {w0 : World} {H : Nat → Option Obj} {st : ST} {σ : Nat → Nat} {ov : Nat → Value} {a : Act} {w : World} (r : Rel P w0 H st σ ov a w)
    (d : Nat) (v : Value) (hd : d < st.n) : Rel P w0 H { st with fr := dropSlot d st.fr } σ ov (a.put (some d) v) w := by
  have hs : d < a.tmps.size := by rw [r.size]; exact hd
  have hget : ∀ t, (a.put (some d) v).tmps.getD t undef = if t = d then v else a.tmps.getD t undef := fun t => getD_set _ _ _ _ hs
  refine { size := ?_, defers := r.defers, slots := ?_, ext := r.ext, imm := r.imm, own := r.own, base := r.base, inj := r.inj }
  · show (a.tmps.setIfInBounds d v).size = st.n
    rw [Array.size_setIfInBounds]; exact r.size
  · intro t sv' hm
    rw [dropSlot, List.mem_filter] at hm
    obtain ⟨h1, h2⟩ := hm
    simp only [Bool.and_eq_true, Bool.not_eq_true'] at h2
    have h3 : t ≠ d := fun e => by rw [e] at h2; simp at h2
    have ho := r.slots t sv' h1
    cases sv' with
    | grd s want x =>
      have hne : s ≠ d := by intro e; subst e; simp [SV.onSlot] at h2
      show (a.put (some d) v).tmps.getD t undef = guardVal ((a.put (some d) v).tmps.getD s undef) want (x.den σ ov)
      rw [hget, if_neg h3, hget, if_neg hne]; exact ho
    | c s => show (a.put (some d) v).tmps.getD t undef = _; rw [hget, if_neg h3]; exact ho
    | agg cs => show (a.put (some d) v).tmps.getD t undef = _; rw [hget, if_neg h3]; exact ho
    | fn f x y => show (a.put (some d) v).tmps.getD t undef = _; rw [hget, if_neg h3]; exact ho
theorem Rel.weaken {P : Program} {w0 : World} {H : Nat → Option Obj} {st : ST} {σ : Nat → Nat} {ov : Nat → Value} {a : Act} {w : World} (r : Rel P w0 H st σ ov a w)
    {fr' : List (Nat × SV)} (h : ∀ p ∈ fr', p ∈ st.fr) : Rel P w0 H { st with fr := fr' } σ ov a w :=
  { size := r.size, defers := r.defers, slots := fun t sv hm => r.slots t sv (h _ hm), ext := r.ext, imm := r.imm, own := r.own, base := r.base, inj := r.inj }

/-! ### what operands are -/
def evalO (st : ST) (g : Option (Nat × Bool)) : Operand → Option SV
  | .tmp t => match lookup st.fr t with
    | some (.grd s want v) => match g with
      | some (s', want') => bif Nat.beq s s' && (want == want') then some (.c v) else none
      | none => none
    | r => r
  | .const v => some (.c (.val v))
  | .global g => some (.c (.val (.pointer (some ⟨g, 0, none⟩))))
  | .func f => some (.c (.val (.func (.func f) #[] #[])))
/-- The guard's slot holds what is wanted. -/
def GuardOn (a : Act) : Option (Nat × Bool) → Prop
  | none => True
  | some (s, want) => a.tmps.getD s undef = .bool want
theorem evalO_sound {P : Program} {w0 : World} {H : Nat → Option Obj} {st : ST} {σ : Nat → Nat} {ov : Nat → Value} {a : Act} {w : World} (r : Rel P w0 H st σ ov a w) {g : Option (Nat × Bool)} (hg : GuardOn a g)
    {x : Operand} {sv : SV} (h : evalO st g x = some sv) : a.eval x = sv.den σ ov ∧ (∀ s want v, sv ≠ .grd s want v) := by
  cases x with
  | const v => simp [evalO] at h; subst h; exact ⟨rfl, by simp⟩
  | global v => simp [evalO] at h; subst h; exact ⟨rfl, by simp⟩
  | func v => simp [evalO] at h; subst h; exact ⟨rfl, by simp⟩
  | tmp t =>
    simp only [evalO] at h
    cases hl : lookup st.fr t with
    | none => rw [hl] at h; simp at h
    | some sv' =>
      rw [hl] at h
      have hs := r.slots t sv' (lookup_mem hl)
      cases sv' with
      | grd s want v =>
        cases g with
        | none => simp at h
        | some g =>
          obtain ⟨s', want'⟩ := g
          simp only at h
          cases hb : (Nat.beq s s' && (want == want'))
          · rw [hb] at h; simp at h
          · rw [hb] at h
            simp only [cond_true, Option.some.injEq] at h
            subst h
            simp only [Bool.and_eq_true, beq_iff_eq] at hb
            have e1 := Nat.eq_of_beq_eq_true hb.1
            have e2 := hb.2
            subst e1; subst e2
            refine ⟨?_, by simp⟩
            show a.tmps.getD t undef = _
            have h0 : a.tmps.getD s undef = .bool want := hg
            have h1 : a.tmps.getD t undef = guardVal (a.tmps.getD s undef) want (v.den σ ov) := hs
            rw [h1, h0]
            simp [guardVal, SV.den]
      | c s => simp at h; subst h; exact ⟨hs, by simp⟩
      | agg cs => simp at h; subst h; exact ⟨hs, by simp⟩
      | fn f x y => simp at h; subst h; exact ⟨hs, by simp⟩
end Go.Sy

/- An executor for function bodies of the model over data, part PA: symbolic states, and what they say of frames and worlds. Conditions: none. -/
import Derived.Test.YtndkapkejmkphaaDoorTy
namespace Go.Ev
open Go.RowKit

inductive RC where
  | pd (p : PD)
  | loc (i off : Nat)
deriving Inhabited
inductive SC where
  | pd (p : PD)
  | loc (i off : Nat)
  | own (i : Nat)
  | oat (i j sz off : Nat)
  | fn (f : Fn) (first cap : List RC)
deriving Inhabited
inductive SX where
  | c (s : SC)
  | agg (cs : List SC)
deriving Inhabited
inductive SV where
  | x (s : SX)
  | tup (l : List SX)
  | grd (s : Nat) (want : Bool) (v : SX)
deriving Inhabited
inductive Ob where
  | set (es : List (Int × Nat)) (clk : Nat)
  | it (j : Nat) (done : List (Int × Nat)) (clk : Nat)
deriving Inhabited
inductive Chunk where
  | obj (o : Ob)
  | dead
  | cells (cs : List SC) (e : TypeId)
  | own (e : TypeId) (t : ETy) (l : List t.den)
deriving Inhabited
structure ST where
  n : Nat
  fr : List (Nat × SV)
  ck : List Chunk
  kn : List Nat := []     -- slots that hold a truth that is written out
  m : Nat := 0            -- how many blocks the caller lent
deriving Inhabited
abbrev SC.i (n : Int) : SC := .pd (.int .i64 n)
abbrev SV.i (n : Int) : SV := .x (.c (.pd (.int .i64 n)))
abbrev SV.p (p : PD) : SV := .x (.c (.pd p))

structure Vn where
  H : Mem
  σ : Nat → Nat
  ov : Nat → Value
def RC.R (V : Vn) : RC → Value → Prop
  | .pd p, u => PR V.H p u
  | .loc i off, u => u = .pointer (some ⟨V.σ i, off, none⟩)
def SC.R (V : Vn) : SC → Value → Prop
  | .pd p, u => PR V.H p u
  | .loc i off, u => u = .pointer (some ⟨V.σ i, off, none⟩)
  | .own i, u => u = V.ov i
  | .oat i j sz off, u => u = .pointer (some ⟨V.σ i, j * sz + off, none⟩)
  | .fn f a b, u => ∃ ua ub, u = .func f ua.toArray ub.toArray ∧ All2 (RC.R V) a ua ∧ All2 (RC.R V) b ub
def SX.R (V : Vn) : SX → Value → Prop
  | .c s, u => s.R V u
  | .agg cs, u => ∃ us, u = .agg us.toArray ∧ All2 (SC.R V) cs us
def SlotOk (V : Vn) (a : Act) (t : Nat) : SV → Prop
  | .x s => s.R V (a.tmps.getD t undef)
  | .tup l => ∃ us, a.tmps.getD t undef = .tuple us.toArray ∧ All2 (SX.R V) l us
  | .grd s want v => (a.tmps.getD s undef = .bool want → v.R V (a.tmps.getD t undef)) ∧ (¬ a.tmps.getD s undef = .bool want → a.tmps.getD t undef = undef)
def Ob.mem (V : Vn) : Ob → Obj
  | .set es clk => .map (es.map fun e => { key := .int .i64 e.1, val := .bool true, born := e.2 }).toArray clk
  | .it j done clk => .mapIter (some (V.σ j)) clk (done.reverse.map (·.2)).toArray clk
def Chunk.blk (V : Vn) (i : Nat) : Chunk → Option Nat
  | .obj _ => some (V.σ i)
  | .dead => none
  | .cells _ _ => some (V.σ i)
  | .own _ _ _ => (V.ov i).ownBlock
def Chunk.holds (V : Vn) (w : World) (i : Nat) : Chunk → Prop
  | .obj o => w.heap[V.σ i]? = some (o.mem V) ∧ V.ov i = .map (some (V.σ i))
  | .dead => True
  | .cells cs e => ∃ us, w.heap[V.σ i]? = some (.cells us.toArray e (0, 0)) ∧ All2 (SC.R V) cs us
  | .own e t l => ∃ xs, w.ownsRow 0 e t.size (V.ov i) l.length xs ∧ All2 (PR V.H) (l.flatMap t.enc) xs ∧ ∀ b, (V.ov i).ownBlock = some b → V.σ i = b

structure Ctx where
  w0 : World
  M : Nat → Prop
  H0 : Mem
  m : Nat
  σ0 : Nat → Nat
  ov0 : Nat → Value
  ds : List Nat := []     -- blocks for the deferred calls of rounds, of the loops behind it
  alt : Ending → World → Prop := fun _ _ => False     -- what else a call may end with
def Ctx.base (Γ : Ctx) : Ctx :=
  match Γ.ds with
  | [] => Γ
  | D :: ds => { Γ with ds := [], H0 := fun k => if k ∈ D :: ds then none else Γ.H0 k }
def markD (D : Nat) : Deferred := { target := .collected D, args := #[] }
structure DefOk (Γ : Ctx) (l : List Deferred) : Prop where
  eq : l = Γ.ds.map markD
  nodup : Γ.ds.Nodup
  at' : ∀ D ∈ Γ.ds, Γ.H0 D = some (.deferred (some [])) ∧ Γ.w0.heap.size ≤ D
theorem DefOk.nil {Γ : Ctx} (h : Γ.ds = []) : DefOk Γ [] := ⟨by rw [h]; rfl, by rw [h]; exact .nil, by rw [h]; intro D hD; cases hD⟩
structure Fr (M : Nat → Prop) (w w' : World) : Prop where
  os : w'.os = w.os
  tape : w'.tape = w.tape
  output : w'.output = w.output
  size : w.heap.size ≤ w'.heap.size
  block : ∀ k, k < w.heap.size → ¬ M k → w'.heap[k]? = w.heap[k]?
theorem Fr.refl (M : Nat → Prop) (w : World) : Fr M w w := ⟨rfl, rfl, rfl, Nat.le_refl _, fun _ _ _ => rfl⟩
structure WOk (Γ : Ctx) (ck : List Chunk) (V : Vn) (w : World) : Prop where
  ext : Fr Γ.M Γ.w0 w
  imm : HIn V.H w
  hle : HLe Γ.H0 V.H
  frz : ∀ k, V.H k ≠ none → Γ.H0 k ≠ none ∨ Γ.w0.heap.size ≤ k ∨ Γ.M k
  agr : ∀ i, i < Γ.m → V.σ i = Γ.σ0 i ∧ V.ov i = Γ.ov0 i
  own : ∀ (i : Nat) (c : Chunk), ck[i]? = some c → c.holds V w i
  base : ∀ (i : Nat) (c : Chunk) (b : Nat), ck[i]? = some c → c.blk V i = some b → (Γ.w0.heap.size ≤ b ∨ Γ.M b) ∧ V.H b = none
  inj : ∀ (i j : Nat) (c d : Chunk) (b : Nat), ck[i]? = some c → ck[j]? = some d → c.blk V i = some b → d.blk V j = some b → i = j
structure Rel (Γ : Ctx) (st : ST) (V : Vn) (a : Act) (w : World) : Prop where
  size : a.tmps.size = st.n
  defers : DefOk Γ a.defers
  slots : ∀ t sv, (t, sv) ∈ st.fr → SlotOk V a t sv
  wok : WOk Γ st.ck V w
  few : Γ.m ≤ st.m ∧ st.m ≤ st.ck.length

def lookup : List (Nat × SV) → Nat → Option SV
  | [], _ => none
  | p :: r, n => bif Nat.beq p.1 n then some p.2 else lookup r n
def SV.onSlot (d : Nat) : SV → Bool
  | .grd s _ _ => Nat.beq s d
  | _ => false
def setSlot (d : Nat) (sv : SV) : List (Nat × SV) → List (Nat × SV)
  | [] => [(d, sv)]
  | p :: r => bif Nat.beq p.1 d then (d, sv) :: r.filter (fun q => !q.2.onSlot d && !Nat.beq q.1 d) else bif p.2.onSlot d then setSlot d sv r else p :: setSlot d sv r
def dropSlot (d : Nat) (fr : List (Nat × SV)) : List (Nat × SV) := fr.filter fun q => !q.2.onSlot d && !Nat.beq q.1 d

theorem lookup_mem {fr : List (Nat × SV)} {t : Nat} {sv : SV} (h : lookup fr t = some sv) : (t, sv) ∈ fr := by
  induction fr with
  | nil => simp [lookup] at h
  | cons p r ih =>
    unfold lookup at h
    cases hb : Nat.beq p.1 t
    · rw [hb] at h; exact List.mem_cons_of_mem _ (ih h)
    · rw [hb] at h
      have e1 := Nat.eq_of_beq_eq_true hb
      simp only [cond_true, Option.some.injEq] at h
      subst e1; subst h
      exact List.mem_cons_self
theorem setSlot_mem {d : Nat} {sv : SV} {fr : List (Nat × SV)} {t : Nat} {sv' : SV} (h : (t, sv') ∈ setSlot d sv fr) :
    (t = d ∧ sv' = sv) ∨ ((t, sv') ∈ fr ∧ sv'.onSlot d = false ∧ t ≠ d) := by
  induction fr with
  | nil => simp [setSlot] at h; exact .inl h
  | cons p r ih =>
    unfold setSlot at h
    cases hb : Nat.beq p.1 d
    · rw [hb] at h
      simp only [cond_false] at h
      have hne : p.1 ≠ d := by intro e; rw [e] at hb; simp at hb
      cases ho : p.2.onSlot d
      · rw [ho] at h
        simp only [cond_false, List.mem_cons] at h
        rcases h with h | h
        · subst h; exact .inr ⟨List.mem_cons_self, ho, hne⟩
        · rcases ih h with h | ⟨h1, h2, h3⟩
          · exact .inl h
          · exact .inr ⟨List.mem_cons_of_mem _ h1, h2, h3⟩
      · rw [ho] at h
        simp only [cond_true] at h
        rcases ih h with h | ⟨h1, h2, h3⟩
        · exact .inl h
        · exact .inr ⟨List.mem_cons_of_mem _ h1, h2, h3⟩
    · rw [hb] at h
      simp only [cond_true, List.mem_cons, Prod.mk.injEq] at h
      rcases h with h | h
      · exact .inl h
      · rw [List.mem_filter] at h
        obtain ⟨h1, h2⟩ := h
        simp only [Bool.and_eq_true, Bool.not_eq_true'] at h2
        exact .inr ⟨List.mem_cons_of_mem _ h1, h2.1, fun e => by rw [e] at h2; simp at h2⟩
theorem getD_set (a : Array Value) (d t : Nat) (v : Value) (h : d < a.size) : (a.setIfInBounds d v).getD t undef = if t = d then v else a.getD t undef := by
  simp only [Array.getD_eq_getD_getElem?, Array.getElem?_setIfInBounds]
  by_cases e : d = t
  · subst e; simp [h]
  · simp [e, Ne.symm e]
theorem SlotOk.of_eq {V : Vn} {a a' : Act} {t : Nat} {sv : SV} (h : SlotOk V a t sv) (h1 : a'.tmps.getD t undef = a.tmps.getD t undef) (h2 : ∀ s b v, sv = .grd s b v → a'.tmps.getD s undef = a.tmps.getD s undef) : SlotOk V a' t sv := by
  cases sv with
  | x s => show s.R V _; rw [h1]; exact h
  | tup l => show ∃ us, a'.tmps.getD t undef = _ ∧ _; rw [h1]; exact h
  | grd s b v =>
    show (a'.tmps.getD s undef = _ → v.R V (a'.tmps.getD t undef)) ∧ (¬ a'.tmps.getD s undef = _ → a'.tmps.getD t undef = undef)
    rw [h1, h2 s b v rfl]; exact h

section
variable {Γ : Ctx} {st : ST} {V : Vn} {a : Act} {w : World}
theorem Rel.put (r : Rel Γ st V a w) (d : Nat) (sv : SV) (v : Value) (hd : d < st.n) (hv : ∀ a' : Act, (∀ t, t ≠ d → a'.tmps.getD t undef = a.tmps.getD t undef) → a'.tmps.getD d undef = v → SlotOk V a' d sv) :
    Rel Γ { st with fr := setSlot d sv st.fr } V (a.put (some d) v) w := by
  have hs : d < a.tmps.size := by rw [r.size]; exact hd
  have hget : ∀ t, (a.put (some d) v).tmps.getD t undef = if t = d then v else a.tmps.getD t undef := fun t => getD_set _ _ _ _ hs
  refine { size := ?_, defers := r.defers, slots := ?_, wok := r.wok, few := r.few }
  · show (a.tmps.setIfInBounds d v).size = st.n
    rw [Array.size_setIfInBounds]; exact r.size
  · intro t sv' hm
    rcases setSlot_mem hm with ⟨rfl, rfl⟩ | ⟨h1, h2, h3⟩
    · exact hv _ (fun t ht => by rw [hget, if_neg ht]) (by rw [hget, if_pos rfl])
    · refine (r.slots t sv' h1).of_eq (by rw [hget, if_neg h3]) ?_
      rintro s b v rfl
      have hne : s ≠ d := by intro e; subst e; simp [SV.onSlot] at h2
      rw [hget, if_neg hne]
theorem Rel.forget (r : Rel Γ st V a w) (d : Nat) (v : Value) (hd : d < st.n) : Rel Γ { st with fr := dropSlot d st.fr } V (a.put (some d) v) w := by
  have hs : d < a.tmps.size := by rw [r.size]; exact hd
  have hget : ∀ t, (a.put (some d) v).tmps.getD t undef = if t = d then v else a.tmps.getD t undef := fun t => getD_set _ _ _ _ hs
  refine { size := ?_, defers := r.defers, slots := ?_, wok := r.wok, few := r.few }
  · show (a.tmps.setIfInBounds d v).size = st.n
    rw [Array.size_setIfInBounds]; exact r.size
  · intro t sv' hm
    rw [dropSlot, List.mem_filter] at hm
    obtain ⟨h1, h2⟩ := hm
    simp only [Bool.and_eq_true, Bool.not_eq_true'] at h2
    have h3 : t ≠ d := fun e => by rw [e] at h2; simp at h2
    refine (r.slots t sv' h1).of_eq (by rw [hget, if_neg h3]) ?_
    rintro s b v rfl
    have hne : s ≠ d := by intro e; subst e; simp [SV.onSlot] at h2
    rw [hget, if_neg hne]
theorem Rel.weaken (r : Rel Γ st V a w) {fr' : List (Nat × SV)} (h : ∀ p ∈ fr', p ∈ st.fr) : Rel Γ { st with fr := fr' } V a w :=
  { size := r.size, defers := r.defers, slots := fun t sv hm => r.slots t sv (h _ hm), wok := r.wok, few := r.few }
theorem Rel.marks (r : Rel Γ st V a w) (kn : List Nat) : Rel Γ { st with kn := kn } V a w :=
  { size := r.size, defers := r.defers, slots := r.slots, wok := r.wok, few := r.few }
end

/-! ### what operands are -/
def ofC : Value → PD
  | .int k n => .int k n
  | .bool b => .bool b
  | .string s => .str s.data.toList
  | .float .f64 b => .fl (some b)
  | .complex .f64 a b => .cx (some (a, b))
  | v => .v v
def constX : Value → Option SX
  | .agg cs => bif cs.toList.all (fun v => v.oneCell') then some (.agg (cs.toList.map fun v => .pd (ofC v))) else none
  | .tuple _ => none
  | .int k n => some (.c (.pd (.int k n)))
  | .bool b => some (.c (.pd (.bool b)))
  | .string s => some (.c (.pd (.str s.data.toList)))
  | .float .f64 b => some (.c (.pd (.fl (some b))))
  | .complex .f64 a b => some (.c (.pd (.cx (some (a, b)))))
  | v => some (.c (.pd (.v v)))
theorem PR.flS {H : Mem} (x : Nat) : PR H (.fl (some x)) (.float .f64 x) := .fl _ x fun _ h => (Option.some.inj h).symm
theorem PR.cxS {H : Mem} (x y : Nat) : PR H (.cx (some (x, y))) (.complex .f64 x y) := .cx _ x y fun _ h => (Option.some.inj h).symm
theorem ofC_PR {H : Mem} {v : Value} (h : v.oneCell' = true) : PR H (ofC v) v := by
  cases v with
  | int k n => exact .int k n
  | bool b => exact .bool b
  | string s => have := PR.str (H := H) s.data.toList; rw [bs_eta] at this; exact this
  | agg cs => simp [Value.oneCell'] at h
  | tuple cs => simp [Value.oneCell'] at h
  | float k b => cases k with | f64 => exact .flS b | f32 => exact .v _ h
  | complex k a b => cases k with | f64 => exact .cxS a b | f32 => exact .v _ h
  | _ => exact .v _ h
theorem constX_R {V : Vn} {v : Value} {x : SX} (h : constX v = some x) : x.R V v := by
  cases v with
  | int k n => simp [constX] at h; subst h; exact .int k n
  | bool b => simp [constX] at h; subst h; exact .bool b
  | string s => simp [constX] at h; subst h; have := PR.str (H := V.H) s.data.toList; rw [bs_eta] at this; exact this
  | tuple cs => simp [constX] at h
  | agg cs =>
    simp only [constX] at h
    cases hb : cs.toList.all fun v => v.oneCell'
    · rw [hb] at h; simp at h
    · rw [hb] at h
      simp only [cond_true, Option.some.injEq] at h
      subst h
      refine ⟨cs.toList, by simp, ?_⟩
      refine All2.of (by simp) fun i p u hp hu => ?_
      simp only [List.getElem?_map, hu, Option.map_some, Option.some.injEq] at hp
      subst hp
      exact ofC_PR (List.all_eq_true.1 hb u (List.mem_of_getElem? hu))
  | float k b => cases k with | f64 => simp [constX] at h; subst h; exact .flS b | f32 => simp [constX] at h; subst h; exact .v _ rfl
  | complex k a b => cases k with | f64 => simp [constX] at h; subst h; exact .cxS a b | f32 => simp [constX] at h; subst h; exact .v _ rfl
  | _ => simp [constX] at h; subst h; exact .v _ rfl
def evalO (st : ST) (g : Option (Nat × Bool)) : Operand → Option SX
  | .tmp t => match lookup st.fr t with
    | some (.grd s want v) => match g with
      | some (s', want') => bif Nat.beq s s' && (want == want') then some v else none
      | none => none
    | some (.x v) => some v
    | _ => none
  | .const v => constX v
  | .global g => some (.c (.pd (.v (.pointer (some ⟨g, 0, none⟩)))))
  | .func f => some (.c (.fn (.func f) [] []))
def evalT (st : ST) : Operand → Option (List SX)
  | .tmp t => match lookup st.fr t with
    | some (.tup l) => some l
    | _ => none
  | _ => none
def GuardOn (a : Act) : Option (Nat × Bool) → Prop
  | none => True
  | some (s, want) => a.tmps.getD s undef = .bool want
theorem evalO_sound {Γ : Ctx} {st : ST} {V : Vn} {a : Act} {w : World} (r : Rel Γ st V a w) {g : Option (Nat × Bool)} (hg : GuardOn a g) {x : Operand} {sx : SX} (h : evalO st g x = some sx) : sx.R V (a.eval x) := by
  cases x with
  | const v => exact constX_R h
  | global v => simp [evalO] at h; subst h; exact .v _ rfl
  | func v => simp [evalO] at h; subst h; exact ⟨[], [], rfl, .nil, .nil⟩
  | tmp t =>
    simp only [evalO] at h
    split at h
    · rename_i s want v hl
      split at h
      · rename_i s' want'
        cases hb : (Nat.beq s s' && (want == want'))
        · rw [hb] at h; simp at h
        · rw [hb] at h
          simp only [cond_true, Option.some.injEq] at h
          subst h
          simp only [Bool.and_eq_true, beq_iff_eq] at hb
          have e1 := Nat.eq_of_beq_eq_true hb.1
          have e2 := hb.2
          subst e1; subst e2
          exact (r.slots t _ (lookup_mem hl)).1 hg
      · simp at h
    · rename_i v hl
      simp only [Option.some.injEq] at h; subst h
      exact r.slots t _ (lookup_mem hl)
    · simp at h
theorem evalT_sound {Γ : Ctx} {st : ST} {V : Vn} {a : Act} {w : World} (r : Rel Γ st V a w) {x : Operand} {l : List SX} (h : evalT st x = some l) : ∃ us, a.eval x = .tuple us.toArray ∧ All2 (SX.R V) l us := by
  unfold evalT at h
  split at h
  · rename_i t
    split at h
    · rename_i l' hl
      simp only [Option.some.injEq] at h; subst h
      exact r.slots t _ (lookup_mem hl)
    · simp at h
  · simp at h
end Go.Ev

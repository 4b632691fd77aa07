/- An executor for function bodies of the model, part D: one operation that only computes or reads the call's own blocks. Conditions: each operation's own, told as a proposition. -/
import Derived.Test.YtgoihhnfkoklpaaEngC
namespace Go.Sy
open Go.RowKit

def scVals : List SC → Option (List Value)
  | [] => some []
  | .val v :: r => (scVals r).map (v :: ·)
  | _ :: _ => none
def SV.toVal : SV → Option Value
  | .c (.val v) => some v
  | .agg cs => (scVals cs).map fun l => .agg l.toArray
  | .fn f a b => match scVals a, scVals b with
    | some x, some y => some (.func f x.toArray y.toArray)
    | _, _ => none
  | _ => none
/-- The cells that a value takes in memory. -/
def SV.toCells : SV → Option (List SC)
  | .c (.val v) => match v with
    | .agg cs => some (cs.toList.map .val)
    | .tuple _ => none
    | v => some [.val v]
  | .c s => some [s]
  | .agg cs => some cs
  | .fn f a b => match scVals a, scVals b with
    | some x, some y => some [.val (.func f x.toArray y.toArray)]
    | _, _ => none
  | .grd _ _ _ => none
def aggB (P : Program) (t : TypeId) : Option Bool :=
  match P.underlying t with
  | some (.struct _) | some (.array _ _) => some true
  | some _ => some false
  | none => none
def szOf (P : Program) (t : TypeId) : Option Nat := (P.info? t).map (·.size)
def fieldOf (P : Program) (t : TypeId) (i : Nat) : Option Field :=
  match P.underlying t with
  | some (.struct fs) => fs[i]?
  | _ => none
/-- A part of a row of cells, as a value of type t. -/
def partOf (P : Program) (t : TypeId) (cs : List SC) (off : Nat) : Option SV :=
  match aggB P t, szOf P t with
  | some true, some n => bif Nat.ble (off + n) cs.length then some (.agg ((cs.drop off).take n)) else none
  | some false, some _ => (cs[off]?).map .c
  | _, _ => none

theorem scVals_map {σ : Nat → Nat} {ov : Nat → Value} {cs : List SC} {l : List Value} (h : scVals cs = some l) : cs.map (SC.den σ ov) = l := by
  induction cs generalizing l with
  | nil => simp [scVals] at h; subst h; rfl
  | cons c r ih =>
    cases c with
    | val v =>
      simp only [scVals, Option.map_eq_some_iff] at h
      obtain ⟨l', h1, rfl⟩ := h
      simp [ih h1, SC.den]
    | loc i o => simp [scVals] at h
    | own i => simp [scVals] at h
theorem toVal_den {σ : Nat → Nat} {ov : Nat → Value} {sv : SV} {v : Value} (h : sv.toVal = some v) : sv.den σ ov = v := by
  unfold SV.toVal at h
  split at h
  · simp at h; subst h; rfl
  · simp only [Option.map_eq_some_iff] at h
    obtain ⟨l, h1, rfl⟩ := h
    simp [SV.den, scVals_map h1]
  · split at h
    · rename_i h1 h2
      simp only [Option.some.injEq] at h
      subst h
      simp [SV.den, scVals_map h1, scVals_map h2]
    · simp at h
  · simp at h
theorem ownsRow_slice {w : World} {B : Nat} {e : TypeId} {size : Nat} {v : Value} {n : Nat} {xs : List Value} (h : w.ownsRow B e size v n xs) : ∃ a c, v = .slice a n c := by
  rcases h.2 with ⟨rfl, rfl⟩ | ⟨g, cap, cur, rfl, _⟩
  · exact ⟨_, _, rfl⟩
  · exact ⟨_, _, rfl⟩
theorem toCells_den {P : Program} {w0 : World} {H : Nat → Option Obj} {st : ST} {σ : Nat → Nat} {ov : Nat → Value} {a : Act} {w : World} (_r : Rel P w0 H st σ ov a w) {sv : SV} {cs : List SC} (h : sv.toCells = some cs)
    (hown : ∀ i, sv = .c (.own i) → ∃ e size n xs, st.ck[i]? = some (Chunk.own e size n xs)) : (sv.den σ ov).cells = (cs.map (SC.den σ ov)).toArray := by
  cases sv with
  | c s =>
    cases s with
    | val v =>
      cases v <;> simp only [SV.toCells, Option.some.injEq, reduceCtorEq] at h <;> subst h <;> simp [SV.den, SC.den, Value.cells, Function.comp_def]
    | loc i o => simp only [SV.toCells, Option.some.injEq] at h; subst h; simp [SV.den, SC.den, Value.cells]
    | own i =>
      simp only [SV.toCells, Option.some.injEq] at h
      subst h
      obtain ⟨e, size, n, xs, hc⟩ := hown i rfl
      obtain ⟨x, c, hv⟩ := ownsRow_slice (_r.own i _ hc).1
      simp [SV.den, SC.den, hv, Value.cells]
  | agg cs' => simp only [SV.toCells, Option.some.injEq] at h; subst h; simp [SV.den, Value.cells]
  | fn f x y =>
    simp only [SV.toCells] at h
    split at h
    · rename_i h1 h2
      simp only [Option.some.injEq] at h
      subst h
      simp [SV.den, SC.den, Value.cells, scVals_map h1, scVals_map h2]
    · simp at h
  | grd s b v => simp [SV.toCells] at h

theorem run_isAgg {P : Program} {w : World} {t : TypeId} {b : Bool} (h : aggB P t = some b) : (isAgg t).run P w = .ok b w := by
  unfold aggB at h
  split at h
  · rename_i fs hu; simp at h; subst h; simp [isAgg, run_underlying hu, pure, Sem.run]
  · rename_i n e hu; simp at h; subst h; simp [isAgg, run_underlying hu, pure, Sem.run]
  · rename_i d hn1 hn2 hu
    simp only [Option.some.injEq] at h
    subst h
    simp only [isAgg, Sem.run_bind, run_underlying hu, Result.andThen_ok]
    rfl
  · simp at h
theorem run_szOf {P : Program} {w : World} {t : TypeId} {n : Nat} (h : szOf P t = some n) : (sizeOf t).run P w = .ok n w := by
  unfold szOf at h
  simp only [Option.map_eq_some_iff] at h
  obtain ⟨i, hi, rfl⟩ := h
  simp [sizeOf, typeInfo, hi, go_sem]
theorem run_part {P : Program} {w : World} {σ : Nat → Nat} {ov : Nat → Value} {t : TypeId} {cs : List SC} {off : Nat} {sv : SV} (h : partOf P t cs off = some sv) :
    (part t (cs.map (SC.den σ ov)).toArray off).run P w = .ok (sv.den σ ov) w ∧ (∀ s b v, sv ≠ .grd s b v) := by
  unfold partOf at h
  split at h
  · rename_i n h1 h2
    cases hb : Nat.ble (off + n) cs.length
    · rw [hb] at h; simp at h
    · rw [hb] at h
      simp only [cond_true, Option.some.injEq] at h
      subst h
      have hle := Nat.le_of_ble_eq_true hb
      refine ⟨?_, by simp⟩
      simp only [part, Sem.run_bind, run_isAgg h1, Result.andThen_ok, if_true, run_szOf h2]
      show Result.ok _ w = _
      simp only [SV.den, List.extract_toArray, List.extract_eq_take_drop, Result.ok.injEq, Value.agg.injEq, and_true]
      rw [show off + n - off = n from by omega, List.map_take, List.map_drop]
  · rename_i n h1 h2
    simp only [Option.map_eq_some_iff] at h
    obtain ⟨sc, h3, rfl⟩ := h
    refine ⟨?_, by simp⟩
    have h4 : (cs.map (SC.den σ ov)).toArray[off]? = some (sc.den σ ov) := by simp [h3]
    simp [part, run_isAgg h1, h4, SV.den, pure, Sem.run]
  · simp at h

theorem run_loadCellsFrom {P : Program} {w : World} (a : Addr) (hs : a.spot = none) : ∀ (n i : Nat) (acc : Array Value) (l : List Value), l.length = n → (∀ j u, l[j]? = some u → w.cell? ⟨a.block, a.off + (i + j), none⟩ = some u) →
    (loadCellsFrom a i n acc).run P w = .ok (acc ++ l.toArray) w
  | 0, i, acc, l, hl, _ => by
    have : l = [] := List.eq_nil_of_length_eq_zero hl
    subst this
    simp [loadCellsFrom, pure, Sem.run]
  | n + 1, i, acc, l, hl, hc => by
    cases l with
    | nil => simp at hl
    | cons v l =>
      have h0 := hc 0 v rfl
      have hadd : a.add i = ⟨a.block, a.off + i, none⟩ := by
        unfold Addr.add
        split
        · rename_i h; subst h; cases a; simp_all
        · rfl
      have ih := run_loadCellsFrom (P := P) (w := w) a hs n (i + 1) (acc.push v) l (by simpa using hl) (fun j u hj => by
        have := hc (j + 1) u (by simpa using hj)
        rw [show i + 1 + j = i + (j + 1) from by omega]; exact this)
      simp only [loadCellsFrom, Sem.run_bind]
      have hl' : (load (a.add i)).run P w = .ok v w := by
        simp only [load, Sem.run, hadd]
        rw [show a.off + i = a.off + (i + 0) from rfl, h0]
      rw [hl']
      simp only [Result.andThen_ok]
      rw [ih]
      simp
theorem run_loadVar {P : Program} {w : World} {t : TypeId} {b off : Nat} {cells : Array Value} {e : TypeId} {fr : Nat × Nat} {σ : Nat → Nat} {ov : Nat → Value} {cs : List SC} {sv : SV}
    (hw : w.heap[b]? = some (.cells cells e fr)) (hcs : cells = (cs.map (SC.den σ ov)).toArray) (h : partOf P t cs off = some sv) :
    (loadVar t ⟨b, off, none⟩).run P w = .ok (sv.den σ ov) w ∧ (∀ s b v, sv ≠ .grd s b v) := by
  unfold partOf at h
  split at h
  · rename_i n h1 h2
    cases hb : Nat.ble (off + n) cs.length
    · rw [hb] at h; simp at h
    · rw [hb] at h
      simp only [cond_true, Option.some.injEq] at h
      subst h
      have hle := Nat.le_of_ble_eq_true hb
      refine ⟨?_, by simp⟩
      have hl := run_loadCellsFrom (P := P) (w := w) ⟨b, off, none⟩ rfl n 0 #[] (((cs.drop off).take n).map (SC.den σ ov)) (by simp; omega) (fun j u hj => by
        simp only [World.cell?, hw, hcs]
        simp only [List.getElem?_map, List.getElem?_take, List.getElem?_drop] at hj
        split at hj
        · simpa using hj
        · simp at hj)
      simp only [loadVar, Sem.run_bind, run_isAgg h1, Result.andThen_ok, if_true, run_szOf h2, loadCells, hl]
      simp [SV.den, pure, Sem.run]
  · rename_i n h1 h2
    simp only [Option.map_eq_some_iff] at h
    obtain ⟨sc, h3, rfl⟩ := h
    refine ⟨?_, by simp⟩
    have h4 : w.cell? ⟨b, off, none⟩ = some (sc.den σ ov) := by simp [World.cell?, hw, hcs, h3]
    simp only [loadVar, Sem.run_bind, run_isAgg h1, Result.andThen_ok, Bool.false_eq_true, if_false, load, Sem.run, h4]
    rfl
  · simp at h

/-! ### the operations -/
def armOf (st : ST) (g : Option (Nat × Bool)) (s : Nat) (want : Bool) (x : Operand) : Option SC :=
  match evalO st (some (s, want)) x with
  | some (.c v) => some v
  | _ => match evalO st g x with
    | some (.c v) => some v
    | _ => none
def pickV (b : Bool) (x y : Operand) (va vb : SC) : Option SC :=
  match va, vb with
  | .val (.bool p), .val (.bool q) =>
    match x, y with
    | .const _, _ => some (.val (.bool (bif p then b || q else bif b then p else q)))
    | _, .const _ => some (.val (.bool (bif q then bif b then p else q else b && p)))
    | _, _ => some (.val (.bool (bif b then p else q)))
  | .val v, .val u => some (.val (bif b then v else u))
  | _, _ => none
def fieldCells (st : ST) (i : Nat) : Option (List SC) :=
  match st.ck[i]? with
  | some (.cells cs _) => some cs
  | _ => none
def intOf? : Option SV → Option Int
  | some (.c (.val (.int _ n))) => some n
  | _ => none
def svCells : SV → Option (List SC)
  | .c (.val (.agg cs)) => some (cs.toList.map .val)
  | .agg cs => some cs
  | _ => none
end Go.Sy

/- An executor for function bodies of the model over data, part PC: one operation that only computes or reads. Conditions: each operation's own, told as a proposition. -/
import Derived.Test.YtndkapkejmkphaaDoorPB
import Derived.Laws.StructEq
namespace Go.Ev
open Go.RowKit

def aggB (P : Program) (t : TypeId) : Option Bool :=
  match P.underlying t with
  | some (.struct _) | some (.array _ _) => some true
  | some _ => some false
  | none => none
def szOf (P : Program) (t : TypeId) : Option Nat := (P.info? t).map (·.size)
def fieldOf (P : Program) (t : TypeId) (i : Nat) : Option Field :=
  match P.underlying t with
  | some (.struct fs) => fs[i]?
  | _ => none
def partOf (P : Program) (t : TypeId) (cs : List SC) (off : Nat) : Option SX :=
  match aggB P t, szOf P t with
  | some true, some n => bif Nat.ble (off + n) cs.length then some (.agg ((cs.drop off).take n)) else none
  | some false, some _ => (cs[off]?).map .c
  | _, _ => none

theorem run_isAgg {P : Program} {w : World} {t : TypeId} {b : Bool} (h : aggB P t = some b) : (isAgg t).run P w = .ok b w := by
  unfold aggB at h
  split at h
  · rename_i fs hu; simp at h; subst h; simp [isAgg, run_underlying hu, pure, Sem.run]
  · rename_i n e hu; simp at h; subst h; simp [isAgg, run_underlying hu, pure, Sem.run]
  · rename_i d hn1 hn2 hu
    simp only [Option.some.injEq] at h
    subst h
    simp only [isAgg, Sem.run_bind, run_underlying hu, Result.andThen_ok]
    rfl
  · simp at h
theorem run_szOf {P : Program} {w : World} {t : TypeId} {n : Nat} (h : szOf P t = some n) : (sizeOf t).run P w = .ok n w := by
  unfold szOf at h
  simp only [Option.map_eq_some_iff] at h
  obtain ⟨i, hi, rfl⟩ := h
  simp [sizeOf, typeInfo, hi, go_sem]
theorem run_part {P : Program} {w : World} {V : Vn} {t : TypeId} {cs : List SC} {us : List Value} {off : Nat} {sx : SX} (hu : All2 (SC.R V) cs us) (h : partOf P t cs off = some sx) :
    ∃ v, (part t us.toArray off).run P w = .ok v w ∧ sx.R V v := by
  unfold partOf at h
  split at h
  · rename_i n h1 h2
    cases hb : Nat.ble (off + n) cs.length
    · rw [hb] at h; simp at h
    · rw [hb] at h
      simp only [cond_true, Option.some.injEq] at h
      subst h
      refine ⟨.agg ((us.drop off).take n).toArray, ?_, _, rfl, (hu.drop off).take n⟩
      simp only [part, Sem.run_bind, run_isAgg h1, Result.andThen_ok, if_true, run_szOf h2]
      show Result.ok _ w = _
      simp only [List.extract_toArray, List.extract_eq_take_drop, Result.ok.injEq, Value.agg.injEq, and_true]
      rw [show off + n - off = n from by omega]
  · rename_i n h1 h2
    simp only [Option.map_eq_some_iff] at h
    obtain ⟨sc, h3, rfl⟩ := h
    obtain ⟨u, h4, h5⟩ := hu.get h3
    refine ⟨u, ?_, h5⟩
    simp [part, run_isAgg h1, h4, pure, Sem.run]
  · simp at h
theorem addr_add (b off n : Nat) : (⟨b, off, none⟩ : Addr).add n = ⟨b, off + n, none⟩ := by
  unfold Addr.add; split
  · rename_i h; subst h; rfl
  · rfl
theorem run_loadCellsFrom {P : Program} {w : World} (a : Addr) (hs : a.spot = none) : ∀ (n i : Nat) (acc : Array Value) (l : List Value), l.length = n → (∀ j u, l[j]? = some u → w.cell? ⟨a.block, a.off + (i + j), none⟩ = some u) →
    (loadCellsFrom a i n acc).run P w = .ok (acc ++ l.toArray) w
  | 0, i, acc, l, hl, _ => by
    have : l = [] := List.eq_nil_of_length_eq_zero hl
    subst this
    simp [loadCellsFrom, pure, Sem.run]
  | n + 1, i, acc, l, hl, hc => by
    cases l with
    | nil => simp at hl
    | cons v l =>
      have h0 := hc 0 v rfl
      have hadd : a.add i = ⟨a.block, a.off + i, none⟩ := by
        cases a; simp only at hs; subst hs; exact addr_add _ _ _
      have ih := run_loadCellsFrom (P := P) (w := w) a hs n (i + 1) (acc.push v) l (by simpa using hl) (fun j u hj => by
        have := hc (j + 1) u (by simpa using hj)
        rw [show i + 1 + j = i + (j + 1) from by omega]; exact this)
      simp only [loadCellsFrom, Sem.run_bind]
      have hl' : (load (a.add i)).run P w = .ok v w := by
        simp only [load, Sem.run, hadd]
        rw [show a.off + i = a.off + (i + 0) from rfl, h0]
      rw [hl']
      simp only [Result.andThen_ok]
      rw [ih]
      simp
theorem run_loadVar {P : Program} {w : World} {V : Vn} {t : TypeId} {b o0 off : Nat} {arr : Array Value} {e : TypeId} {fr : Nat × Nat} {cs : List SC} {us : List Value} {sx : SX}
    (hw : w.heap[b]? = some (.cells arr e fr)) (hus : ∀ j u, us[j]? = some u → arr[o0 + j]? = some u) (hu : All2 (SC.R V) cs us) (h : partOf P t cs off = some sx) :
    ∃ v, (loadVar t ⟨b, o0 + off, none⟩).run P w = .ok v w ∧ sx.R V v := by
  unfold partOf at h
  split at h
  · rename_i n h1 h2
    cases hb : Nat.ble (off + n) cs.length
    · rw [hb] at h; simp at h
    · rw [hb] at h
      simp only [cond_true, Option.some.injEq] at h
      subst h
      have hle := Nat.le_of_ble_eq_true hb
      have hlen := hu.length
      have hl := run_loadCellsFrom (P := P) (w := w) ⟨b, o0 + off, none⟩ rfl n 0 #[] ((us.drop off).take n) (by simp; omega) (fun j u hj => by
        simp only [List.getElem?_take, List.getElem?_drop] at hj
        split at hj
        · have := hus _ _ hj
          simp only [World.cell?, hw]
          rw [show o0 + off + (0 + j) = o0 + (off + j) from by omega, this]; rfl
        · simp at hj)
      refine ⟨.agg ((us.drop off).take n).toArray, ?_, _, rfl, (hu.drop off).take n⟩
      simp only [loadVar, Sem.run_bind, run_isAgg h1, Result.andThen_ok, if_true, run_szOf h2, loadCells, hl]
      simp [pure, Sem.run]
  · rename_i n h1 h2
    simp only [Option.map_eq_some_iff] at h
    obtain ⟨sc, h3, rfl⟩ := h
    obtain ⟨u, h4, h5⟩ := hu.get h3
    refine ⟨u, ?_, h5⟩
    have h6 : w.cell? ⟨b, o0 + off, none⟩ = some u := by simp [World.cell?, hw, hus _ _ h4]
    simp only [loadVar, Sem.run_bind, run_isAgg h1, Result.andThen_ok, Bool.false_eq_true, if_false, load, Sem.run, h6]
  · simp at h

/-! ### the operations -/
def armOf (st : ST) (g : Option (Nat × Bool)) (s : Nat) (want : Bool) (x : Operand) : Option SX :=
  match evalO st (some (s, want)) x with
  | some v => some v
  | none => evalO st g x
def pickP (b : Bool) (x y : Operand) (p q : PD) : Option PD :=
  match p, q with
  | .bool p, .bool q =>
    match x, y with
    | .const _, _ => some (.bool (bif p then b || q else bif b then p else q))
    | _, .const _ => some (.bool (bif q then bif b then p else q else b && p))
    | _, _ => some (.bool (bif b then p else q))
  | .int k n, .int k' m => bif k == k' then some (.int k (bif b then n else m)) else none
  | .str s, .str u => some (.str (bif b then s else u))
  | .lst t l, .lst t' l' => if h : t' = t then some (.lst t (bif b then l else h ▸ l')) else none
  | _, _ => none
def pickL (b : Bool) : List SC → List SC → Option (List SC)
  | [], [] => some []
  | .pd p :: l, .pd q :: m => match pickP b (.tmp 0) (.tmp 0) p q, pickL b l m with
    | some r, some k => some (.pd r :: k)
    | _, _ => none
  | _, _ => none
def pickX (b : Bool) (x y : Operand) (va vb : SX) : Option SX :=
  match va, vb with
  | .c (.pd p), .c (.pd q) => (pickP b x y p q).map fun r => .c (.pd r)
  | .agg l, .agg m => (pickL b l m).map .agg
  | _, _ => none
def intOf? : Option SX → Option Int
  | some (.c (.pd (.int _ n))) => some n
  | _ => none
def bnd (st : ST) (g : Option (Nat × Bool)) : Option Operand → Option (Option Int)
  | none => some none
  | some x => (intOf? (evalO st g x)).map some
def cutL {α : Type} (l : List α) (lo hi : Option Int) : Option Prop × List α :=
  match lo, hi with
  | none, none => (none, l)
  | some n, none => (some (0 ≤ n ∧ n ≤ l.length), l.drop n.toNat)
  | none, some m => (some (0 ≤ m ∧ m ≤ l.length), l.take m.toNat)
  | some n, some m => (some (0 ≤ n ∧ n ≤ m ∧ m ≤ l.length), (l.take m.toNat).drop n.toNat)
def strLen (l : Str) : Int := l.length
def rcOf : SX → Option RC
  | .c (.pd p) => some (.pd p)
  | .c (.loc i off) => some (.loc i off)
  | _ => none
def rcList : List (Option SX) → Option (List RC)
  | [] => some []
  | x :: r => match x.bind rcOf, rcList r with
    | some a, some l => some (a :: l)
    | _, _ => none
def PD.toV : PD → Option Value
  | .int k n => some (.int k n)
  | .bool b => some (.bool b)
  | .str s => some (.string (bs s))
  | .v x => some x
  | _ => none
def fnSC (q : Nat × List PD) : SC := .fn (.func q.1) [] (q.2.map .pd)
def rowAt (st : ST) : SX → Option (Option Prop × List SC × Nat)
  | .c (.loc i off) => match st.ck[i]? with
    | some (.cells cs _) => some (none, cs, off)
    | _ => none
  | .c (.pd (.ref t x off)) => some (none, (t.enc x).map .pd, off)
  | .c (.oat i j sz off) => match st.ck[i]? with
    | some (.own _ t l) => bif Nat.beq sz t.size then some (some (j < l.length), (t.enc (t.get l j)).map .pd, off) else none
    | _ => none
  | .c (.pd (.fnAt l k)) => some (none, l.map fnSC, k)
  | _ => none
def byteL : SC → Option (List Int)
  | .pd (.lst .byte a) => some a
  | _ => none
def sel2 (P : Program) (t : TypeId) (cs : List SC) : Option (List Int × List Int) :=
  match cs with
  | [x, y] => match byteL x, byteL y, aggB P t, szOf P t with
    | some a, some b, some false, some _ => some (a, b)
    | _, _, _, _ => none
  | _ => none
theorem byteL_eq {x : SC} {a : List Int} (h : byteL x = some a) : x = .pd (.lst .byte a) := by
  unfold byteL at h
  split at h
  · simp only [Option.some.injEq] at h; subst h; rfl
  · cases h
theorem sel2_part {P : Program} {t : TypeId} {cs : List SC} {ab : List Int × List Int} {off : Nat} (h : sel2 P t cs = some ab) (ho : off < 2) :
    partOf P t cs off = some (.c (.pd (.lst .byte (bif Nat.beq off 0 then ab.1 else ab.2)))) := by
  unfold sel2 at h
  split at h
  · rename_i x y
    split at h
    · rename_i a b n hx hy h1 h2
      simp only [Option.some.injEq] at h
      subst h
      have ex := byteL_eq hx
      have ey := byteL_eq hy
      subst ex; subst ey
      unfold partOf
      rw [h1, h2]
      match off, ho with
      | 0, _ => rfl
      | 1, _ => rfl
    · cases h
  · cases h
def eqP (P : Program) (t : TypeId) (p q : PD) : Option Bool :=
  match P.underlying t, p, q with
  | some (.int _), .int k a, .int k' b => bif k == k' then some (a == b) else none
  | some .string, .str a, .str b => some (a == b)
  | some .bool, .bool a, .bool b => some (a == b)
  | _, _, _ => none
def eqFs0 (P : Program) (cs ds : List SC) : List Field → Option Bool
  | [] => some true
  | f :: fs => bif f.name != "_" then
      match partOf P f.type cs f.offset, partOf P f.type ds f.offset with
      | some (.c (.pd p)), some (.c (.pd q)) => match eqP P f.type p q, eqFs0 P cs ds fs with
        | some b, some r => some (match fs with | [] => b | _ => b && r)
        | _, _ => none
      | _, _ => none
    else none
def eqF1 (P : Program) (t : TypeId) : SX → SX → Option Bool
  | .c (.pd p), .c (.pd q) => eqP P t p q
  | .agg cs, .agg ds => match P.underlying t with
    | some (.struct gs) => bif !P.stoodInHeld t then eqFs0 P cs ds gs.toList else none
    | _ => none
  | _, _ => none
def eqFs (P : Program) (cs ds : List SC) : List Field → Option Bool
  | [] => some true
  | f :: fs => bif f.name != "_" then
      match partOf P f.type cs f.offset, partOf P f.type ds f.offset with
      | some x, some y => match eqF1 P f.type x y, eqFs P cs ds fs with
        | some b, some r => some (match fs with | [] => b | _ => b && r)
        | _, _ => none
      | _, _ => none
    else none
def eqAgg (P : Program) (t : TypeId) (cs ds : List SC) : Option Bool :=
  match P.underlying t with
  | some (.struct fs) => bif !P.stoodInHeld t && !P.eqGuardType P.depth t then eqFs P cs ds fs.toList else none
  | _ => none
def fInt (b : Nat) : Int := ((FloatKind.f64.decode b).toInt .zero).getD 0
def fWhole (k : IntKind) (b : Nat) : Prop := (FloatKind.f64.decode b).toInt .zero = some (fInt b) ∧ k.min ≤ fInt b ∧ fInt b ≤ k.max
def posE (n : Int) : List (Int × Nat) → Nat → Option Nat
  | [], _ => none
  | e :: r, i => bif n == e.1 then some i else posE n r (i + 1)
def hasE (es : List (Int × Nat)) (n : Int) : Bool := es.any fun e => n == e.1
def addL (es : List (Int × Nat)) (clk : Nat) (n : Int) : List (Int × Nat) := bif hasE es n then es else es ++ [(n, clk)]
def addC (es : List (Int × Nat)) (clk : Nat) (n : Int) : Nat := bif hasE es n then clk else clk + 1
def opV (P : Program) (st : ST) (g : Option (Nat × Bool)) : Op → Option (Option Prop × SX)
  | .lookup t x i false => match evalO st g x, evalO st g i, P.underlying t with
    | some (.c (.own j)), some (.c (.pd (.int .i64 n))), some (.map kt et) => match st.ck[j]?, P.underlying kt, P.info? et with
      | some (.obj (.set es _)), some (.int _), some inf => match inf.zero with
        | some (.bool false) => some (none, .c (.pd (.bool (hasE es n))))
        | _ => none
      | _, _, _ => none
    | _, _, _ => none
  | .move x | .assign x => (evalO st g x).map fun sx => (none, sx)
  | .pick c x y =>
    match c with
    | .tmp s => match evalO st g c, armOf st g s true x, armOf st g s false y with
      | some (.c (.pd (.bool b))), some va, some vb => (pickX b x y va vb).map fun r => (none, r)
      | _, _, _ => none
    | _ => none
  | .binOp op t x y _ => match evalO st g x, evalO st g y with
    | some (.c (.pd v)), some (.c (.pd u)) => match nilBin P op t y v with
      | some r => some (none, .c (.pd r))
      | none => (binP P op t v u).map fun pv => (pv.1, .c (.pd pv.2))
    | some (.agg cs), some (.agg ds) => match op with
      | .eql => (eqAgg P t cs ds).map fun b => (none, .c (.pd (.bool b)))
      | .neq => (eqAgg P t cs ds).map fun b => (none, .c (.pd (.bool (!b))))
      | _ => none
    | _, _ => none
  | .unOp op _ x => match op, evalO st g x with
    | .not, some (.c (.pd (.bool b))) => some (none, .c (.pd (.bool (!b))))
    | .neg, some (.c (.pd (.int k n))) => some (none, .c (.pd (.int k (k.wrap (0 - n)))))
    | _, _ => none
  | .convert src dst x => match P.underlying src, P.underlying dst, evalO st g x with
    | some _, some (.int k), some (.c (.pd (.int _ n))) => some (none, .c (.pd (.int k (k.wrap n))))
    | some _, some .string, some (.c (.pd (.str s))) => some (none, .c (.pd (.str s)))
    | some _, some (.float .f64), some (.c (.pd (.int _ n))) => some (none, .c (.pd (.fl (some (FloatKind.f64.nearest n)))))
    | some _, some (.int k), some (.c (.pd (.fl (some b)))) => some (some (fWhole k b), .c (.pd (.int k (fInt b))))
    | _, _, _ => none
  | .extract x i => match evalT st x with
    | some l => (l[i]?).map fun v => (none, v)
    | none => none
  | .field t x i => match evalO st g x, fieldOf P t i with
    | some (.agg cs), some fd => (partOf P fd.type cs fd.offset).map fun r => (none, r)
    | _, _ => none
  | .fieldAddr t x i => match evalO st g x, fieldOf P t i with
    | some (.c s), some fd => match szOf P fd.type with
      | some (_ + 1) => match s with
        | .loc j off => some (none, .c (.loc j (off + fd.offset)))
        | .pd (.ref ty r off) => some (none, .c (.pd (.ref ty r (off + fd.offset))))
        | .oat j k sz off => some (none, .c (.oat j k sz (off + fd.offset)))
        | _ => none
      | _ => none
    | _, _ => none
  | .load t x => match (evalO st g x).bind (rowAt st) with
    | some (p, cs, off) => match sel2 P t cs with
      | some ab => some (some (Holds p ∧ off < 2), .c (.pd (.lst .byte (bif Nat.beq off 0 then ab.1 else ab.2))))
      | none => (partOf P t cs off).map fun r => (p, r)
    | none => none
  | .index t x i => match evalO st g x, P.underlying t, intOf? (evalO st g i) with
    | some (.c (.pd (.str s))), some .string, some n => some (some (0 ≤ n ∧ n < strLen s), .c (.pd (.int .u8 (s.getD n.toNat 0).toNat)))
    | some (.agg cs), some (.array len e), some n => match szOf P e with
      | some sz => (partOf P e cs (n.toNat * sz)).map fun r => (some (0 ≤ n ∧ n < len), r)
      | none => none
    | _, _, _ => none
  | .slice t x lo hi none => match evalO st g x, P.underlying t, bnd st g lo, bnd st g hi with
    | some (.c (.pd (.str s))), some .string, some lo, some hi => some ((cutL s lo hi).1, .c (.pd (.str (cutL s lo hi).2)))
    | some (.c (.pd (.lst ty l))), some (.slice e), some lo, some hi => match szOf P e with
      | some n => bif Nat.beq n ty.size then some ((cutL l lo hi).1, .c (.pd (.lst ty (cutL l lo hi).2))) else none
      | none => none
    | _, _, _, _ => none
  | .call { callee := .builtin .real, args := args, argTypes := _ } =>
    match args.toList with
    | [x] => match evalO st g x with
      | some (.c (.pd (.cx o))) => some (none, .c (.pd (.fl (o.map (·.1)))))
      | _ => none
    | _ => none
  | .call { callee := .builtin .imag, args := args, argTypes := _ } =>
    match args.toList with
    | [x] => match evalO st g x with
      | some (.c (.pd (.cx o))) => some (none, .c (.pd (.fl (o.map (·.2)))))
      | _ => none
    | _ => none
  | .call { callee := .builtin .min, args := args, argTypes := _ } =>
    match args.toList with
    | [x, y] => match evalO st g x, evalO st g y with
      | some (.c (.pd (.int k a))), some (.c (.pd (.int _ b))) => some (none, .c (.pd (.int k (if b < a then b else a))))
      | _, _ => none
    | _ => none
  | .call { callee := .builtin .max, args := args, argTypes := _ } =>
    match args.toList with
    | [x, y] => match evalO st g x, evalO st g y with
      | some (.c (.pd (.int k a))), some (.c (.pd (.int _ b))) => some (none, .c (.pd (.int k (if b > a then b else a))))
      | _, _ => none
    | _ => none
  | .call { callee := .builtin .complex, args := args, argTypes := _ } =>
    match args.toList with
    | [x, y] => match evalO st g x, evalO st g y with
      | some (.c (.pd (.fl o))), some (.c (.pd (.fl o'))) => some (none, .c (.pd (.cx (o.bind fun a => o'.map fun b => (a, b)))))
      | _, _ => none
    | _ => none
  | .call { callee := .builtin .len, args := args, argTypes := ts } =>
    match args.toList, ts.toList with
    | [x], [t] => match evalO st g x, P.underlying t with
      | some (.c (.pd (.str s))), some .string => some (none, .c (.pd (.int .i64 (strLen s))))
      | some (.c (.pd (.lst _ l))), some (.slice _) => some (none, .c (.pd (.int .i64 (l.length : Int))))
      | some (.c (.pd (.v (.slice none 0 0)))), some (.slice _) => some (none, .c (.pd (.int .i64 0)))
      | some (.c (.own i)), some (.slice _) => match st.ck[i]? with
        | some (.own _ _ l) => some (none, .c (.pd (.int .i64 (l.length : Int))))
        | _ => none
      | some (.c (.pd (.fns l))), some (.slice _) => some (none, .c (.pd (.int .i64 (l.length : Int))))
      | _, _ => none
    | _, _ => none
  | .indexAddr t x i => match evalO st g x, P.underlying t, intOf? (evalO st g i) with
    | some (.c (.pd (.lst ty l))), some (.slice e), some j => match szOf P e with
      | some sz => bif Nat.beq sz ty.size then some (some (0 ≤ j ∧ j < l.length), .c (.pd (.ref ty (ty.get l j.toNat) 0))) else none
      | none => none
    | some (.c (.own k)), some (.slice e), some j => match szOf P e, st.ck[k]? with
      | some sz, some (.own _ ty l) => bif Nat.beq sz ty.size then some (some (0 ≤ j ∧ j < l.length), .c (.oat k j.toNat sz 0)) else none
      | _, _ => none
    | some (.c (.loc k off)), some (.array n e), some j => match szOf P e with
      | some sz => some (some (0 ≤ j ∧ j < (n : Int)), .c (.loc k (off + j.toNat * sz)))
      | none => none
    | some (.c (.pd (.fns l))), some (.slice e), some j => match szOf P e with
      | some sz => bif Nat.beq sz 1 then some (some (0 ≤ j ∧ j < l.length), .c (.pd (.fnAt l j.toNat))) else none
      | none => none
    | _, _, _ => none
  | .makeInterface t x => match evalO st g x, P.underlying t with
    | some (.c (.pd p)), some d => match d, p.toV with
      | .interface _, _ => none
      | _, some v => some (none, .c (.pd (.v (.iface t v))))
      | _, _ => none
    | _, _ => none
  | .makeFunc fn first cap => match rcList (first.toList.map (evalO st g)), rcList (cap.toList.map (evalO st g)) with
    | some x, some y => some (none, .c (.fn fn x y))
    | _, _ => none
  | .nilCheck x => match evalO st g x with
    | some (.c s) => match s with
      | .loc i off => some (none, .c (.loc i off))
      | .oat i j sz off => some (none, .c (.oat i j sz off))
      | .pd (.ref t x off) => some (none, .c (.pd (.ref t x off)))
      | .fn (.func f) x y => some (none, .c (.fn (.func f) x y))
      | _ => none
    | _ => none
  | _ => none
end Go.Ev

/- The program's structs as data, and how their values lie in rows of cells. Conditions: none. -/
import Derived.Test.YtndkapkejmkphaaDoorEngR
import Derived.Lib.Strings
namespace Go.Ev
open Go.RowKit

def bs (l : List UInt8) : ByteArray := ⟨l.toArray⟩
theorem bs_eta (s : ByteArray) : bs s.data.toList = s := by cases s; simp [bs]
theorem bs_toList (l : List UInt8) : (bs l).data.toList = l := by simp [bs]
theorem bs_size (l : List UInt8) : (bs l).size = l.length := by simp [bs, ByteArray.size]
abbrev Str := List UInt8
structure Cell where
  op : Int
  a : Int
  name : Str
structure Val where
  kind : Int
  a : Int
  b : Int
structure Var where
  name : Str
  kind : Int
  lo : Int
  hi : Int
  init : Val
structure KRow where
  low : Int
  high : Int
  left : Int
  right : Int
  out : Int
structure Piece where
  s : Str
  power : Int
structure Deed where
  kind : Int
  name : Str
  expr : List Cell
structure Stat where
  name : Str
  kind : Int
  depth : Int
  initial : Str
  entry : List Deed
  leave : List Deed
structure Tran where
  src : Int
  event : Str
  guard : List Cell
  dst : Str
  acts : List Deed
structure Chart where
  name : Str
  events : List Str
  vars : List Var
  states : List Stat
  trans : List Tran
structure Past where
  state : Int
  set : List Int
structure Wait where
  op : Int
  power : Int
inductive ETy where
  | int | bool | str | byte | cell | val | var | krow | piece | deed | stat | tran | chart | past | wait
  | ints | strs | cells | vals | vars | deeds | stats | trans | pasts | bytes
deriving DecidableEq
@[reducible] def ETy.den : ETy → Type
  | .int => Int | .bool => Bool | .str => Str | .byte => Int | .wait => Wait | .cell => Cell | .val => Val | .var => Var | .krow => KRow | .piece => Piece | .deed => Deed | .stat => Stat | .tran => Tran | .chart => Chart | .past => Past
  | .ints => List Int | .strs => List Str | .cells => List Cell | .vals => List Val | .vars => List Var | .deeds => List Deed | .stats => List Stat | .trans => List Tran | .pasts => List Past | .bytes => List Int
def Val.zero : Val := ⟨0, 0, 0⟩
def ETy.dflt : (t : ETy) → t.den
  | .int => (0 : Int) | .bool => false | .str => ([] : Str) | .byte => (0 : Int) | .wait => (⟨0, 0⟩ : Wait) | .cell => (⟨0, 0, []⟩ : Cell) | .val => Val.zero | .var => (⟨[], 0, 0, 0, Val.zero⟩ : Var) | .krow => (⟨0, 0, 0, 0, 0⟩ : KRow) | .piece => (⟨[], 0⟩ : Piece) | .deed => (⟨0, [], []⟩ : Deed)
  | .stat => (⟨[], 0, 0, [], [], []⟩ : Stat) | .tran => (⟨0, [], [], [], []⟩ : Tran) | .chart => (⟨[], [], [], [], []⟩ : Chart) | .past => (⟨0, []⟩ : Past)
  | .ints => ([] : List Int) | .strs => ([] : List Str) | .cells => ([] : List Cell) | .vals => ([] : List Val) | .vars => ([] : List Var) | .deeds => ([] : List Deed) | .stats => ([] : List Stat) | .trans => ([] : List Tran) | .pasts => ([] : List Past) | .bytes => ([] : List Int)
def ETy.size : ETy → Nat
  | .int => 1 | .bool => 1 | .str => 1 | .byte => 1 | .cell => 3 | .val => 3 | .var => 7 | .krow => 5 | .piece => 2 | .deed => 3 | .stat => 6 | .tran => 5 | .chart => 5 | .past => 2 | .wait => 2
  | _ => 1
inductive PD where
  | int (k : IntKind) (n : Int)
  | bool (b : Bool)
  | str (s : Str)
  | v (x : Value)
  | lst (t : ETy) (l : List t.den)
  | ref (t : ETy) (x : t.den) (off : Nat)
  | fl (o : Option Nat)
  | cx (o : Option (Nat × Nat))
  | err
  | tbl (l : List (Str × Nat))
  | buf (e : TypeId) (s : Str)
  | fnAt (l : List (Nat × List PD)) (k : Nat)
  | fns (l : List (Nat × List PD))
deriving Inhabited
abbrev PD.i (n : Int) : PD := .int .i64 n
def Val.enc (x : Val) : List PD := [.i x.kind, .i x.a, .i x.b]
def ETy.enc : (t : ETy) → t.den → List PD
  | .int, n => [.i n]
  | .bool, b => [.bool b]
  | .str, s => [.str s]
  | .byte, b => [.int .u8 b]
  | .wait, x => [.i x.op, .i x.power]
  | .cell, c => [.i c.op, .i c.a, .str c.name]
  | .val, x => [.i x.kind, .i x.a, .i x.b]
  | .var, v => [.str v.name, .i v.kind, .i v.lo, .i v.hi, .i v.init.kind, .i v.init.a, .i v.init.b]
  | .krow, r => [.i r.low, .i r.high, .i r.left, .i r.right, .i r.out]
  | .piece, p => [.str p.s, .i p.power]
  | .deed, d => [.i d.kind, .str d.name, .lst .cell d.expr]
  | .stat, s => [.str s.name, .i s.kind, .i s.depth, .str s.initial, .lst .deed s.entry, .lst .deed s.leave]
  | .tran, t => [.i t.src, .str t.event, .lst .cell t.guard, .str t.dst, .lst .deed t.acts]
  | .chart, c => [.str c.name, .lst .str c.events, .lst .var c.vars, .lst .stat c.states, .lst .tran c.trans]
  | .past, p => [.i p.state, .lst .int p.set]
  | .ints, l => [.lst .int l]
  | .strs, l => [.lst .str l]
  | .cells, l => [.lst .cell l]
  | .vals, l => [.lst .val l]
  | .vars, l => [.lst .var l]
  | .deeds, l => [.lst .deed l]
  | .stats, l => [.lst .stat l]
  | .trans, l => [.lst .tran l]
  | .pasts, l => [.lst .past l]
  | .bytes, l => [.lst .byte l]
theorem ETy.enc_length (t : ETy) (x : t.den) : (t.enc x).length = t.size := by cases t <;> rfl
theorem ETy.size_pos (t : ETy) : 0 < t.size := by cases t <;> decide
def ETy.get (t : ETy) (l : List t.den) (j : Nat) : t.den := l.getD j t.dflt
theorem ETy.get_eq {t : ETy} {l : List t.den} {j : Nat} {x : t.den} (h : l[j]? = some x) : t.get l j = x := by simp [ETy.get, List.getD_eq_getElem?_getD, h]
theorem ETy.getElem?_get {t : ETy} {l : List t.den} {j : Nat} (h : j < l.length) : l[j]? = some (t.get l j) := by
  simp [ETy.get, List.getD_eq_getElem?_getD, List.getElem?_eq_getElem h]

def PD.int? : PD → Option Int
  | .int .i64 n => some n
  | _ => none
def PD.u8? : PD → Option Int
  | .int .u8 n => some n
  | _ => none
def PD.str? : PD → Option Str
  | .str s => some s
  | _ => none
def PD.bool? : PD → Option Bool
  | .bool b => some b
  | _ => none
def PD.lst? (t : ETy) : PD → Option (List t.den)
  | .lst t' l => if h : t' = t then some (h ▸ l) else none
  | .v (.slice none 0 0) => some []
  | _ => none
def ETy.dec : (t : ETy) → List PD → Option t.den
  | .int => fun ps => match ps with
    | [a] => a.int?
    | _ => none
  | .bool => fun ps => match ps with
    | [a] => a.bool?
    | _ => none
  | .str => fun ps => match ps with
    | [a] => a.str?
    | _ => none
  | .cell => fun ps => match ps with
    | [a, b, c] => match a.int?, b.int?, c.str? with
      | some a, some b, some c => some (⟨a, b, c⟩ : Cell)
      | _, _, _ => none
    | _ => none
  | .val => fun ps => match ps with
    | [a, b, c] => match a.int?, b.int?, c.int? with
      | some a, some b, some c => some (⟨a, b, c⟩ : Val)
      | _, _, _ => none
    | _ => none
  | .var => fun ps => match ps with
    | [a, b, c, d, e, f, g] => match a.str?, b.int?, c.int?, d.int?, e.int?, f.int?, g.int? with
      | some a, some b, some c, some d, some e, some f, some g => some (⟨a, b, c, d, ⟨e, f, g⟩⟩ : Var)
      | _, _, _, _, _, _, _ => none
    | _ => none
  | .krow => fun ps => match ps with
    | [a, b, c, d, e] => match a.int?, b.int?, c.int?, d.int?, e.int? with
      | some a, some b, some c, some d, some e => some (⟨a, b, c, d, e⟩ : KRow)
      | _, _, _, _, _ => none
    | _ => none
  | .piece => fun ps => match ps with
    | [a, b] => match a.str?, b.int? with
      | some a, some b => some (⟨a, b⟩ : Piece)
      | _, _ => none
    | _ => none
  | .deed => fun ps => match ps with
    | [a, b, c] => match a.int?, b.str?, c.lst? .cell with
      | some a, some b, some c => some (⟨a, b, c⟩ : Deed)
      | _, _, _ => none
    | _ => none
  | .stat => fun ps => match ps with
    | [a, b, c, d, e, f] => match a.str?, b.int?, c.int?, d.str?, e.lst? .deed, f.lst? .deed with
      | some a, some b, some c, some d, some e, some f => some (⟨a, b, c, d, e, f⟩ : Stat)
      | _, _, _, _, _, _ => none
    | _ => none
  | .tran => fun ps => match ps with
    | [a, b, c, d, e] => match a.int?, b.str?, c.lst? .cell, d.str?, e.lst? .deed with
      | some a, some b, some c, some d, some e => some (⟨a, b, c, d, e⟩ : Tran)
      | _, _, _, _, _ => none
    | _ => none
  | .chart => fun ps => match ps with
    | [a, b, c, d, e] => match a.str?, b.lst? .str, c.lst? .var, d.lst? .stat, e.lst? .tran with
      | some a, some b, some c, some d, some e => some (⟨a, b, c, d, e⟩ : Chart)
      | _, _, _, _, _ => none
    | _ => none
  | .past => fun ps => match ps with
    | [a, b] => match a.int?, b.lst? .int with
      | some a, some b => some (⟨a, b⟩ : Past)
      | _, _ => none
    | _ => none
  | .ints => fun ps => match ps with
    | [a] => a.lst? .int
    | _ => none
  | .strs => fun ps => match ps with
    | [a] => a.lst? .str
    | _ => none
  | .cells => fun ps => match ps with
    | [a] => a.lst? .cell
    | _ => none
  | .vals => fun ps => match ps with
    | [a] => a.lst? .val
    | _ => none
  | .vars => fun ps => match ps with
    | [a] => a.lst? .var
    | _ => none
  | .deeds => fun ps => match ps with
    | [a] => a.lst? .deed
    | _ => none
  | .stats => fun ps => match ps with
    | [a] => a.lst? .stat
    | _ => none
  | .trans => fun ps => match ps with
    | [a] => a.lst? .tran
    | _ => none
  | .pasts => fun ps => match ps with
    | [a] => a.lst? .past
    | _ => none
  | .bytes => fun ps => match ps with
    | [a] => a.lst? .byte
    | _ => none
  | .byte => fun ps => match ps with
    | [a] => a.u8?
    | _ => none
  | .wait => fun ps => match ps with
    | [a, b] => match a.int?, b.int? with
      | some a, some b => some (⟨a, b⟩ : Wait)
      | _, _ => none
    | _ => none


/-! ### lists, side by side -/
inductive All2 {α β : Type} (R : α → β → Prop) : List α → List β → Prop where
  | nil : All2 R [] []
  | cons {a : α} {b : β} {l : List α} {m : List β} : R a b → All2 R l m → All2 R (a :: l) (b :: m)
section
variable {α β γ : Type} {R : α → β → Prop}
theorem All2.length {l : List α} {m : List β} (h : All2 R l m) : l.length = m.length := by
  induction h with
  | nil => rfl
  | cons _ _ ih => simp [ih]
theorem All2.get {l : List α} {m : List β} (h : All2 R l m) : ∀ {i : Nat} {a : α}, l[i]? = some a → ∃ b, m[i]? = some b ∧ R a b := by
  induction h with
  | nil => intro i a h; simp at h
  | cons h1 _ ih =>
    intro i a h
    cases i with
    | zero => simp at h; subst h; exact ⟨_, rfl, h1⟩
    | succ i => simp only [List.getElem?_cons_succ] at h ⊢; exact ih h
theorem All2.get' {l : List α} {m : List β} (h : All2 R l m) : ∀ {i : Nat} {b : β}, m[i]? = some b → ∃ a, l[i]? = some a ∧ R a b := by
  induction h with
  | nil => intro i a h; simp at h
  | cons h1 _ ih =>
    intro i a h
    cases i with
    | zero => simp at h; subst h; exact ⟨_, rfl, h1⟩
    | succ i => simp only [List.getElem?_cons_succ] at h ⊢; exact ih h
theorem All2.of {l : List α} {m : List β} (hl : l.length = m.length) (h : ∀ (i : Nat) a b, l[i]? = some a → m[i]? = some b → R a b) : All2 R l m := by
  induction l generalizing m with
  | nil => cases m with | nil => exact .nil | cons _ _ => simp at hl
  | cons a l ih =>
    cases m with
    | nil => simp at hl
    | cons b m => exact .cons (h 0 a b rfl rfl) (ih (by simpa using hl) fun i x y hx hy => h (i + 1) x y (by simpa using hx) (by simpa using hy))
theorem All2.mono {S : α → β → Prop} {l : List α} {m : List β} (h : All2 R l m) (hs : ∀ a b, a ∈ l → R a b → S a b) : All2 S l m := by
  induction h with
  | nil => exact .nil
  | cons h1 _ ih => exact .cons (hs _ _ List.mem_cons_self h1) (ih fun a b ha => hs a b (List.mem_cons_of_mem _ ha))
theorem All2.append {l l' : List α} {m m' : List β} (h : All2 R l m) (h' : All2 R l' m') : All2 R (l ++ l') (m ++ m') := by
  induction h with
  | nil => exact h'
  | cons h1 _ ih => exact .cons h1 ih
theorem All2.take {l : List α} {m : List β} (h : All2 R l m) : ∀ n, All2 R (l.take n) (m.take n) := by
  induction h with
  | nil => intro n; simp; exact .nil
  | cons h1 _ ih => intro n; cases n with | zero => exact .nil | succ n => exact .cons h1 (ih n)
theorem All2.drop {l : List α} {m : List β} (h : All2 R l m) : ∀ n, All2 R (l.drop n) (m.drop n) := by
  induction h with
  | nil => intro n; simp; exact .nil
  | cons h1 h2 ih => intro n; cases n with | zero => exact .cons h1 h2 | succ n => exact ih n
theorem All2.map_left {f : γ → α} {l : List γ} {m : List β} : All2 R (l.map f) m ↔ All2 (fun a b => R (f a) b) l m := by
  constructor
  · intro h
    induction l generalizing m with
    | nil => cases h; exact .nil
    | cons a l ih => cases h with | cons h1 h2 => exact .cons h1 (ih h2)
  · intro h
    induction h with
    | nil => exact .nil
    | cons h1 _ ih => exact .cons h1 ih
theorem All2.set {l : List α} {m : List β} (h : All2 R l m) {a : α} {b : β} (hr : R a b) (i : Nat) : All2 R (l.set i a) (m.set i b) := by
  induction h generalizing i with
  | nil => exact .nil
  | cons h1 h2 ih => cases i with | zero => exact .cons hr h2 | succ i => exact .cons h1 (ih i)
end

/-! ### data in memory -/
abbrev Mem := Nat → Option Obj
def HIn (H : Mem) (w : World) : Prop := ∀ k o, H k = some o → w.heap[k]? = some o
def HLe (H H' : Mem) : Prop := ∀ k o, H k = some o → H' k = some o
theorem HLe.refl (H : Mem) : HLe H H := fun _ _ h => h
theorem HLe.trans {A B C : Mem} (h : HLe A B) (k : HLe B C) : HLe A C := fun i o x => k i o (h i o x)
inductive PR (H : Mem) : PD → Value → Prop where
  | int (k : IntKind) (n : Int) : PR H (.int k n) (.int k n)
  | bool (b : Bool) : PR H (.bool b) (.bool b)
  | str (s : Str) : PR H (.str s) (.string (bs s))
  | v (x : Value) (h : x.oneCell' = true) : PR H (.v x) x
  | fl (o : Option Nat) (x : Nat) (h : ∀ y, o = some y → y = x) : PR H (.fl o) (.float .f64 x)
  | cx (o : Option (Nat × Nat)) (x y : Nat) (h : ∀ p, o = some p → p = (x, y)) : PR H (.cx o) (.complex .f64 x y)
  | err (t : TypeId) (x : Value) : PR H .err (.iface t x)
  | emp (t : ETy) (ao : Option Addr) (cap : Nat) (h : ao = none → cap = 0) : PR H (.lst t []) (.slice ao 0 cap)
  | lst (t : ETy) (l : List t.den) (b off cap : Nat) (cells : Array Value) (e : TypeId) (fr : Nat × Nat) (hb : H b = some (.cells cells e fr)) (hc : l.length ≤ cap) (hm : cap ≤ maxLen) (hs : off + l.length * t.size ≤ cells.size)
      (h : ∀ i x, l[i]? = some x → ∀ j p, (t.enc x)[j]? = some p → ∀ u, cells[off + i * t.size + j]? = some u → PR H p u) : PR H (.lst t l) (.slice (some ⟨b, off, none⟩) l.length cap)
  | ref (t : ETy) (x : t.den) (o b off : Nat) (cells : Array Value) (e : TypeId) (fr : Nat × Nat) (hb : H b = some (.cells cells e fr)) (hs : off + t.size ≤ cells.size)
      (h : ∀ j p, (t.enc x)[j]? = some p → ∀ u, cells[off + j]? = some u → PR H p u) : PR H (.ref t x o) (.pointer (some ⟨b, off + o, none⟩))
  | buf (e : TypeId) (s : Str) (b cap : Nat) (cells : Array Value) (hb : H b = some (.cells cells e (0, s.length))) (h0 : s ≠ []) (hc : s.length ≤ cap) (hm : cap ≤ maxLen) (hs : s.length ≤ cells.size) (h : ∀ (j : Nat) (x : UInt8), s[j]? = some x → cells[j]? = some (Value.int .u8 x.toNat)) : PR H (.buf e s) (.slice (some ⟨b, 0, none⟩) s.length cap)
  | fnAt (l : List (Nat × List PD)) (k b : Nat) (cells : Array Value) (e : TypeId) (fr : Nat × Nat) (uss : Nat → List Value) (hb : H b = some (.cells cells e fr))
      (hc : ∀ (i : Nat) (q : Nat × List PD), l[i]? = some q → cells[i]? = some (.func (.func q.1) #[] (uss i).toArray) ∧ (uss i).length = q.2.length) (h : ∀ (i : Nat) (q : Nat × List PD), l[i]? = some q → ∀ (j : Nat) (p : PD), q.2[j]? = some p → ∀ u, (uss i)[j]? = some u → PR H p u) : PR H (.fnAt l k) (.pointer (some ⟨b, k, none⟩))
  | fns (l : List (Nat × List PD)) (b cap : Nat) (cells : Array Value) (e : TypeId) (fr : Nat × Nat) (uss : Nat → List Value) (hb : H b = some (.cells cells e fr)) (hcap : l.length ≤ cap)
      (hc : ∀ (i : Nat) (q : Nat × List PD), l[i]? = some q → cells[i]? = some (.func (.func q.1) #[] (uss i).toArray) ∧ (uss i).length = q.2.length) (h : ∀ (i : Nat) (q : Nat × List PD), l[i]? = some q → ∀ (j : Nat) (p : PD), q.2[j]? = some p → ∀ u, (uss i)[j]? = some u → PR H p u) : PR H (.fns l) (.slice (some ⟨b, 0, none⟩) l.length cap)
  | tbl (l : List (Str × Nat)) (r : Nat) (es : Array MapEntry) (clock : Nat) (hb : H r = some (.map es clock)) (h : es.toList.map (fun e => (e.key, e.val)) = l.map fun p => (Value.string (bs p.1), Value.func (.func p.2) #[] #[])) : PR H (.tbl l) (.map (some r))
def HKe (H H' : Mem) : Prop := ∀ k o, H k = some o → (∀ q, o ≠ .deferred q) → H' k = some o
theorem HLe.ke {H H' : Mem} (h : HLe H H') : HKe H H' := fun k o hk _ => h k o hk
theorem PR.keep {H H' : Mem} (hl : HKe H H') {p : PD} {u : Value} (h : PR H p u) : PR H' p u := by
  induction h with
  | int k n => exact .int k n
  | bool b => exact .bool b
  | str s => exact .str s
  | v x h => exact .v x h
  | fl o x h => exact .fl o x h
  | cx o x y h => exact .cx o x y h
  | err t x => exact .err t x
  | tbl l r es clock hb h => exact .tbl l r es clock (hl _ _ hb (by simp)) h
  | buf e s b cap cells hb h0 hc hm hs h => exact .buf e s b cap cells (hl _ _ hb (by simp)) h0 hc hm hs h
  | fnAt l k b cells e fr uss hb hc _ ih => exact .fnAt l k b cells e fr uss (hl _ _ hb (by simp)) hc ih
  | fns l b cap cells e fr uss hb hcap hc _ ih => exact .fns l b cap cells e fr uss (hl _ _ hb (by simp)) hcap hc ih
  | emp t ao cap h => exact .emp t ao cap h
  | lst t l b off cap cells e fr hb hc hm hs _ ih => exact .lst t l b off cap cells e fr (hl _ _ hb (by simp)) hc hm hs ih
  | ref t x o b off cells e fr hb hs _ ih => exact .ref t x o b off cells e fr (hl _ _ hb (by simp)) hs ih
theorem PR.mono {H H' : Mem} (hl : HLe H H') {p : PD} {u : Value} (h : PR H p u) : PR H' p u := PR.keep hl.ke h
theorem PR.one {H : Mem} {p : PD} {u : Value} (h : PR H p u) : u.oneCell' = true := by
  cases h <;> first | rfl | assumption
theorem PD.int?_eq {p : PD} {n : Int} (h : p.int? = some n) : p = .i n := by
  unfold PD.int? at h; split at h <;> simp_all
theorem PD.u8?_eq {p : PD} {n : Int} (h : p.u8? = some n) : p = .int .u8 n := by
  unfold PD.u8? at h; split at h <;> simp_all
theorem PD.str?_eq {p : PD} {n : Str} (h : p.str? = some n) : p = .str n := by
  unfold PD.str? at h; split at h <;> simp_all
theorem PD.bool?_eq {p : PD} {n : Bool} (h : p.bool? = some n) : p = .bool n := by
  unfold PD.bool? at h; split at h <;> simp_all
theorem PD.lst?_PR {t : ETy} {p : PD} {l : List t.den} (h : p.lst? t = some l) {H : Mem} {u : Value} (hp : PR H p u) : PR H (.lst t l) u := by
  unfold PD.lst? at h
  split at h
  · rename_i t' l'
    split at h
    · rename_i e; subst e; simp at h; subst h; exact hp
    · simp at h
  · simp at h; subst h; cases hp; exact .emp t none 0 (fun _ => rfl)
  · simp at h
def Reads (p q : PD) : Prop := ∀ (H : Mem) (u : Value), PR H p u → PR H q u
theorem Reads.int {p : PD} {n : Int} (h : p.int? = some n) : Reads p (.i n) := fun _ _ hp => by rw [← PD.int?_eq h]; exact hp
theorem Reads.u8 {p : PD} {n : Int} (h : p.u8? = some n) : Reads p (.int .u8 n) := fun _ _ hp => by rw [← PD.u8?_eq h]; exact hp
theorem Reads.str {p : PD} {n : Str} (h : p.str? = some n) : Reads p (.str n) := fun _ _ hp => by rw [← PD.str?_eq h]; exact hp
theorem Reads.bool {p : PD} {n : Bool} (h : p.bool? = some n) : Reads p (.bool n) := fun _ _ hp => by rw [← PD.bool?_eq h]; exact hp
theorem Reads.lst {p : PD} {t : ETy} {l : List t.den} (h : p.lst? t = some l) : Reads p (.lst t l) := fun _ _ hp => PD.lst?_PR h hp
theorem ETy.dec_reads {t : ETy} {ps : List PD} {x : t.den} (h : t.dec ps = some x) : All2 Reads ps (t.enc x) := by
  cases t <;> simp only [ETy.dec] at h <;> (repeat' (split at h)) <;> try (simp at h; done)
  all_goals try (simp only [Option.some.injEq] at h; subst h)
  all_goals
    (repeat' (first | exact All2.nil | refine All2.cons ?_ ?_))
    all_goals first | exact Reads.int (by assumption) | exact Reads.u8 (by assumption) | exact Reads.str (by assumption) | exact Reads.bool (by assumption) | exact Reads.lst (by assumption)
theorem All2.reads {ps qs : List PD} (h : All2 Reads ps qs) {H : Mem} {us : List Value} (hp : All2 (PR H) ps us) : All2 (PR H) qs us := by
  induction h generalizing us with
  | nil => exact hp
  | cons h1 _ ih => cases hp with | cons g1 g2 => exact .cons (h1 H _ g1) (ih g2)
theorem ETy.dec_PR {t : ETy} {ps : List PD} {x : t.den} (h : t.dec ps = some x) {H : Mem} {us : List Value} (hp : All2 (PR H) ps us) : All2 (PR H) (t.enc x) us := (ETy.dec_reads h).reads hp
end Go.Ev

/- Plain functions: names, cells, kinds. Conditions: none. -/
import Derived.Test.YtjndellhebidoaaDoorRows
import Derived.Test.YtjndellhebidoaaDoorPR
namespace Go.Proofs.YtjndellhebidoaaDoor
open Go Go.Ev
def tys0 : Tys := [(2, .int), (3, .int), (4, .bool), (5, .byte), (9, .str), (22, .cells), (38, .cell), (44, .piece), (64, .wait)]
def cfg0 : Cfg := ⟨tys0, []⟩
theorem cfg0_ok : TabOk Tryd.prog cfg0.tab := TabOk.nil

def badB (c : UInt8) : Bool :=
  (decide ((c.toNat : Int) < 97) || decide ((c.toNat : Int) > 122)) && (decide ((c.toNat : Int) < 48) || decide ((c.toNat : Int) > 57)) && ((c.toNat : Int) != 95)
def name0 (s : Str) : Bool := s == [] || decide (strLen s > 12) || decide (((s.getD 0 0).toNat : Int) < 97) || decide (((s.getD 0 0).toNat : Int) > 122)
def words5 (s : Str) : Bool := s == [116, 114, 117, 101] || s == [102, 97, 108, 115, 101] || s == [105, 110] || s == [114, 101] || s == [105, 109]
/-- words.Name -/
def nameM (s : Str) : Bool := !(name0 s) && !(s.any badB) && !(words5 s)
/-- expr.wants -/
def wantsM (op a : Int) (s : Str) : Int :=
  bif op == 1 then (bif decide (a < 0) || decide (a > 1099511627776) || !s == [] then -1 else 0)
  else bif op == 2 then (bif decide (a < 0) || decide (a > 1048576) || !s == [] then -1 else 0)
  else bif op == 5 then (bif a != 0 || !nameM s then -1 else 0)
  else bif op == 6 then (bif a != 0 || !nameM s then -1 else 0)
  else bif decide (op < 3) || decide (op > 23) || a != 0 || !s == [] then -1
  else bif decide (op ≤ 4) then 0 else bif decide (op ≤ 10) then 1 else 2
abbrev wantsC (c : Cell) : Int := wantsM c.op c.a c.name
/-- expr.Right -/
def rightGo : List Cell → Int → Bool
  | [], n => n == 1
  | c :: r, n => bif decide (wantsC c < 0) || decide (wantsC c > n) then false else rightGo r (n + (1 - wantsC c))
def rightM (l : List Cell) : Bool := !decide ((l.length : Int) > 32) && rightGo l 0
def fitsK (op l r : Int) (k : KRow) : Bool := decide (op ≥ k.low) && decide (op ≤ k.high) && l == k.left && r == k.right
/-- kinds.rows -/
def krows : List KRow := [⟨7, 7, 1, 0, 1⟩, ⟨7, 7, 3, 0, 3⟩, ⟨8, 8, 2, 0, 2⟩, ⟨9, 10, 3, 0, 1⟩, ⟨11, 15, 1, 1, 1⟩, ⟨11, 13, 3, 3, 3⟩, ⟨16, 21, 1, 1, 2⟩, ⟨16, 17, 2, 2, 2⟩, ⟨16, 17, 3, 3, 2⟩, ⟨22, 23, 2, 2, 2⟩]
/-- kinds.made -/
def madeGo (op l r : Int) : List KRow → Int
  | [] => 0
  | k :: rest => bif fitsK op l r k then k.out else madeGo op l r rest
def madeM (op l r : Int) : Int := madeGo op l r krows
/-- the first place at which p holds; -1: none -/
def firstAt {α : Type} (p : α → Bool) : List α → Int → Int
  | [], _ => -1
  | x :: r, i => bif p x then i else firstAt p r (i + 1)
def findVar (vars : List Var) (name : Str) : Option Var := vars.find? fun v => v.name == name
/-- kinds.leaf: the kind, the error -/
def leafM (c : Cell) (vars : List Var) (states : List Str) : Int × Int :=
  bif c.op == 1 then (1, 0)
  else bif c.op == 2 then (3, 0)
  else bif c.op == 5 then (match findVar vars c.name with
    | none => (0, 2)
    | some v => bif decide (v.kind ≥ 1) && decide (v.kind ≤ 3) then (v.kind, 0) else (0, 8))
  else bif c.op == 6 then (bif !states.any (fun s => s == c.name) then (0, 2) else (2, 0))
  else (2, 0)
/-- kinds.Of: what one cell makes of the stack: the kind, the error, the stack left -/
def kindStep (vars : List Var) (states : List Str) (c : Cell) (st : List Int) : Int × Int × List Int :=
  bif decide (c.op < 7) then ((leafM c vars states).1, (leafM c vars states).2, st)
  else bif decide (c.op < 11) then (madeM c.op (st.getD 0 0) 0, 0, st.drop 1)
  else (madeM c.op (st.getD 1 0) (st.getD 0 0), 0, st.drop 2)
def kindGo (vars : List Var) (states : List Str) : List Cell → List Int → Int × Int
  | [], st => (st.getLastD 0, 0)
  | c :: r, st =>
    let s := kindStep vars states c st
    let e := bif s.2.1 == 0 && s.1 == 0 then 8 else s.2.1
    bif e != 0 then (0, e) else kindGo vars states r (s.1 :: s.2.2)
def kindsM (l : List Cell) (vars : List Var) (states : List Str) : Int × Int :=
  bif !rightM l then (0, 1) else kindGo vars states l []
def intP (p : Int × Int) : SV := .tup [.i p.1, .i p.2]
theorem any_getD {p : UInt8 → Bool} {s : List UInt8} {k : Nat} (hk : k < s.length) (h : p (s.getD k 0) = true) : s.any p = true := by
  rw [List.any_eq_true]
  refine ⟨s.getD k 0, ?_, h⟩
  rw [List.getD_eq_getElem?_getD, List.getElem?_eq_getElem hk]
  exact List.getElem_mem hk
theorem not_any_getD {p : UInt8 → Bool} {s : List UInt8} (h : ∀ j, j < s.length → p (s.getD j 0) = false) : s.any p = false := by
  rw [List.any_eq_false]
  intro x hx
  obtain ⟨j, hj, rfl⟩ := List.getElem_of_mem hx
  have := h j hj
  rw [List.getD_eq_getElem?_getD, List.getElem?_eq_getElem hj] at this
  simpa using this
theorem drop_get {t : ETy} {l : List t.den} {k : Nat} (h : k < l.length) : l.drop k = t.get l k :: l.drop (k + 1) := by
  rw [List.drop_eq_getElem_cons h, ETy.get_eq (List.getElem?_eq_getElem h)]
theorem drop_end {α : Type} {l : List α} {k : Nat} (h : ¬ k < l.length) : l.drop k = [] := List.drop_eq_nil_of_le (by omega)
/-! ### pieces of texts -/
def seg (s : Str) (f k : Nat) : Str := (s.take k).drop f
theorem seg_self (s : Str) (k : Nat) : seg s k k = [] := by
  unfold seg; rw [List.drop_eq_nil_iff, List.length_take]; omega
theorem drop_byte {s : Str} {k : Nat} (h : k < s.length) : s.drop k = s.getD k 0 :: s.drop (k + 1) := by
  rw [List.drop_eq_getElem_cons h, List.getD_eq_getElem?_getD, List.getElem?_eq_getElem h]; rfl
theorem seg_succ {s : Str} {f k : Nat} (h : k < s.length) (hf : f ≤ k) : seg s f (k + 1) = seg s f k ++ [s.getD k 0] := by
  unfold seg
  rw [List.take_succ_eq_append_getElem h, List.drop_append_of_le_length (by rw [List.length_take]; omega), List.getD_eq_getElem?_getD, List.getElem?_eq_getElem h]; rfl
theorem seg_ne {s : Str} {f k : Nat} (h : f < k) (hk : k ≤ s.length) : seg s f k ≠ [] := by
  unfold seg
  intro e
  have := congrArg List.length e
  rw [List.length_drop, List.length_take] at this
  simp at this; omega
end Go.Proofs.YtjndellhebidoaaDoor

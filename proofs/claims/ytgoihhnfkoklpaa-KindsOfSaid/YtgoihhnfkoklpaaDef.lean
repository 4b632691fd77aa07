/- Plain functions: what the program's functions compute. Conditions: none. -/
import Derived.Test.YtgoihhnfkoklpaaEngJ
namespace Go.Proofs.Ytgoihhnfkoklpaa
open Go Go.Sy

def badB (c : UInt8) : Bool :=
  (decide ((c.toNat : Int) < 97) || decide ((c.toNat : Int) > 122)) && (decide ((c.toNat : Int) < 48) || decide ((c.toNat : Int) > 57)) && ((c.toNat : Int) != 95)
def name0 (s : List UInt8) : Bool := s == [] || decide (strLen s > 12) || decide (((s.getD 0 0).toNat : Int) < 97) || decide (((s.getD 0 0).toNat : Int) > 122)
def words5 (s : List UInt8) : Bool := s == [116, 114, 117, 101] || s == [102, 97, 108, 115, 101] || s == [105, 110] || s == [114, 101] || s == [105, 109]
/-- words.Name -/
def nameM (s : List UInt8) : Bool := !(name0 s) && !(s.any badB) && !(words5 s)
/-- expr.wants -/
def wantsM (op a : Int) (s : List UInt8) : Int :=
  bif op == 1 then (bif decide (a < 0) || decide (a > 1099511627776) || !s == [] then -1 else 0)
  else bif op == 2 then (bif decide (a < 0) || decide (a > 1048576) || !s == [] then -1 else 0)
  else bif op == 5 then (bif a != 0 || !nameM s then -1 else 0)
  else bif op == 6 then (bif a != 0 || !nameM s then -1 else 0)
  else bif decide (op < 3) || decide (op > 23) || a != 0 || !s == [] then -1
  else bif decide (op ≤ 4) then 0 else bif decide (op ≤ 10) then 1 else 2
structure Cell where
  op : Int
  a : Int
  name : List UInt8
def Cell.row (c : Cell) : List Value := [.int .i64 c.op, .int .i64 c.a, .string (bs c.name)]
def Cell.wants (c : Cell) : Int := wantsM c.op c.a c.name
/-- expr.Right -/
def rightGo : List Cell → Int → Bool
  | [], n => n == 1
  | c :: r, n => bif decide (c.wants < 0) || decide (c.wants > n) then false else rightGo r (n + (1 - c.wants))
def rightM (l : List Cell) : Bool := !decide ((l.length : Int) > 32) && rightGo l 0

def tabName : Tab := [(55, fun | [.string s] => some (none, .bool (nameM s.data.toList)) | _ => none)]
def tabWants : Tab := (37, fun | [.agg cs] => (match cs.toList with | [.int .i64 op, .int .i64 a, .string s] => some (none, .int .i64 (wantsM op a s.data.toList)) | _ => none) | _ => none) :: tabName
structure KRow where
  from' : Int
  to' : Int
  left : Int
  right : Int
  out : Int
def KRow.row (r : KRow) : List Value := [.int .i64 r.from', .int .i64 r.to', .int .i64 r.left, .int .i64 r.right, .int .i64 r.out]
/-- kinds.rows -/
def krows : List KRow := [⟨7, 7, 1, 0, 1⟩, ⟨7, 7, 3, 0, 3⟩, ⟨8, 8, 2, 0, 2⟩, ⟨9, 10, 3, 0, 1⟩, ⟨11, 15, 1, 1, 1⟩, ⟨11, 13, 3, 3, 3⟩, ⟨16, 21, 1, 1, 2⟩, ⟨16, 17, 2, 2, 2⟩, ⟨16, 17, 3, 3, 2⟩, ⟨22, 23, 2, 2, 2⟩]
def KRow.fits (op l r : Int) (k : KRow) : Bool := decide (op ≥ k.from') && decide (op ≤ k.to') && l == k.left && r == k.right
/-- kinds.made -/
def madeGo (op l r : Int) : List KRow → Int
  | [] => 0
  | k :: rest => bif k.fits op l r then k.out else madeGo op l r rest
def madeM (op l r : Int) : Int := madeGo op l r krows
structure Val where
  kind : Int
  a : Int
  b : Int
def Val.cells (v : Val) : List Value := [.int .i64 v.kind, .int .i64 v.a, .int .i64 v.b]
structure Var where
  name : List UInt8
  kind : Int
  lo : Int
  hi : Int
  init : Val
def Var.row (v : Var) : List Value := [.string (bs v.name), .int .i64 v.kind, .int .i64 v.lo, .int .i64 v.hi, .int .i64 v.init.kind, .int .i64 v.init.a, .int .i64 v.init.b]
def strRow (s : List UInt8) : List Value := [.string (bs s)]
/-- the first place at which p holds; -1: none -/
def firstAt {α : Type} (p : α → Bool) : List α → Int → Int
  | [], _ => -1
  | x :: r, i => bif p x then i else firstAt p r (i + 1)
def findVar (vars : List Var) (name : List UInt8) : Option Var := vars.find? fun v => v.name == name
/-- kinds.leaf: the kind, the error -/
def leafM (c : Cell) (vars : List Var) (states : List (List UInt8)) : Int × Int :=
  bif c.op == 1 then (1, 0)
  else bif c.op == 2 then (3, 0)
  else bif c.op == 5 then (match findVar vars c.name with
    | none => (0, 2)
    | some v => bif decide (v.kind ≥ 1) && decide (v.kind ≤ 3) then (v.kind, 0) else (0, 8))
  else bif c.op == 6 then (bif !states.any (fun s => s == c.name) then (0, 2) else (2, 0))
  else (2, 0)
/-- kinds.Of: what one cell makes of the stack: the kind, the error, the stack left -/
def kindStep (vars : List Var) (states : List (List UInt8)) (c : Cell) (st : List Int) : Int × Int × List Int :=
  bif decide (c.op < 7) then ((leafM c vars states).1, (leafM c vars states).2, st)
  else bif decide (c.op < 11) then (madeM c.op (st.getD 0 0) 0, 0, st.drop 1)
  else (madeM c.op (st.getD 1 0) (st.getD 0 0), 0, st.drop 2)
def kindGo (vars : List Var) (states : List (List UInt8)) : List Cell → List Int → Int × Int
  | [], st => (st.getLastD 0, 0)
  | c :: r, st =>
    let s := kindStep vars states c st
    let e := bif s.2.1 == 0 && s.1 == 0 then 8 else s.2.1
    bif e != 0 then (0, e) else kindGo vars states r (s.1 :: s.2.2)
def kindsM (l : List Cell) (vars : List Var) (states : List (List UInt8)) : Int × Int :=
  bif !rightM l then (0, 1) else kindGo vars states l []
def ints (st : List Int) : List Value := st.reverse.map (Value.int .i64)
end Go.Proofs.Ytgoihhnfkoklpaa

/- Plain functions: names, cells, kinds. Conditions: none. -/
import Derived.Test.YtndkapkejmkphaaDoorRows
import Derived.Test.YtndkapkejmkphaaDoorPR
namespace Go.Proofs.YtndkapkejmkphaaDoor
open Go Go.Ev
def tys0 : Tys := [(2, .int), (3, .int), (4, .bool), (5, .byte), (9, .str)]
def cfg0 : Cfg := ⟨tys0, []⟩
theorem cfg0_ok : TabOk Tryd.prog cfg0.tab := TabOk.nil

def intP (p : Int × Int) : SV := .tup [.i p.1, .i p.2]
/-! ### pieces of texts -/
theorem drop_byte {s : Str} {k : Nat} (h : k < s.length) : s.drop k = s.getD k 0 :: s.drop (k + 1) := by
  rw [List.drop_eq_getElem_cons h, List.getD_eq_getElem?_getD, List.getElem?_eq_getElem h]; rfl
end Go.Proofs.YtndkapkejmkphaaDoor

/-
  No cell of these rows narrows 'for every input' (looked for: loops, veiled, ifaces, maps, wideKeys, modest, calm, conditions, laid).
  DERIVED. THE GIVEN ROWS OF THIS SEAT. 11 by the template 'for every input the law returns true; each argument reads behind the call as it read before'; 0 by the template 'total and deterministic' (their statements: YtgoihhnfkoklpaaTotals.lean).
  GIVEN WITH THE SEED: the statements are not yours to turn. If you find one false, say at which input.
  Laid BY PROGRAM, IN A SANDBOX (cutbox-rows.mjs): the forced cells as the released guide's own fill.sh prints them over the translation 39c902c1bfa70499… (all of the seat's roots in one cut). By AI agents, Wed Nov 11 2026. No macro, syntax, notation, axiom, sorry.
-/
import Derived.Test.YtgoihhnfkoklpaaChecked
import GoSem.Claim
import GoSem.ClaimJoined
import GoSem.ClaimMapViews
import Derived.JoinedTies
import Derived.KernelRfl
namespace Go.Proofs.Ytgoihhnfkoklpaa
/- THE CELL 'sum', in the pinned program and in every row, IS THE sha256 OF THE DUMP (.gsa) THAT YtgoihhnfkoklpaaProg.lean LOADS. Nothing in Lean hashes anything: it is a label: what it is worth is what the hold of that sum in a sandbox is worth. -/
noncomputable def Try.pinned : Pinned := { name := "ytgoihhnfkoklpaa", sum := "39c902c1bfa704993fb7b972d2cba87dadbcc477231e37ce3b3b8e79928e13fa", checked := Try.checked }
namespace Rows
def none {H : Type} : Left H := { results := [], args := [] }

/-- 'quintainlaw04.KindsOf': WHATEVER THE INPUT: true; the input reads as it did. -/
def kindsOfSpec : ChangeSpec := { name := "kindsOf", fn := fun _ => fun
  | [d1, d2] => { results := [.lit (.bool true)], args := [d1, d2] }
  | _ => none }
def kindsOfRow : OpenClaim := { program := "ytgoihhnfkoklpaa", sum := "39c902c1bfa704993fb7b972d2cba87dadbcc477231e37ce3b3b8e79928e13fa", func := "quintain/quintainlaw04.KindsOf", spec := "kindsOf", unfollowed := true, recurses := true, apart := false }
def KindsOfSaid : Prop := kindsOfRow.holds Try.pinned (OpenSpec.ofChange kindsOfSpec)

/-- ITS FALSE NEIGHBOUR: 'it returns false'. Refute it at one input. -/
def kindsOfWrong : ChangeSpec := { name := "kindsOf", fn := fun _ => fun
  | [d1, d2] => { results := [.lit (.bool false)], args := [d1, d2] }
  | _ => none }
def KindsOfWrongFalsely : Prop := kindsOfRow.holds Try.pinned (OpenSpec.ofChange kindsOfWrong)

/-- 'quintainlaw04.KindsMore': WHATEVER THE INPUT: true; the input reads as it did. -/
def kindsMoreSpec : ChangeSpec := { name := "kindsMore", fn := fun _ => fun
  | [d1, d2, d3] => { results := [.lit (.bool true)], args := [d1, d2, d3] }
  | _ => none }
def kindsMoreRow : OpenClaim := { program := "ytgoihhnfkoklpaa", sum := "39c902c1bfa704993fb7b972d2cba87dadbcc477231e37ce3b3b8e79928e13fa", func := "quintain/quintainlaw04.KindsMore", spec := "kindsMore", unfollowed := true, recurses := true, apart := false }
def KindsMoreSaid : Prop := kindsMoreRow.holds Try.pinned (OpenSpec.ofChange kindsMoreSpec)

/-- ITS FALSE NEIGHBOUR: 'it returns false'. Refute it at one input. -/
def kindsMoreWrong : ChangeSpec := { name := "kindsMore", fn := fun _ => fun
  | [d1, d2, d3] => { results := [.lit (.bool false)], args := [d1, d2, d3] }
  | _ => none }
def KindsMoreWrongFalsely : Prop := kindsMoreRow.holds Try.pinned (OpenSpec.ofChange kindsMoreWrong)

/-- 'quintainlaw04.KindsParts': WHATEVER THE INPUT: true; the input reads as it did. -/
def kindsPartsSpec : ChangeSpec := { name := "kindsParts", fn := fun _ => fun
  | [d1, d2] => { results := [.lit (.bool true)], args := [d1, d2] }
  | _ => none }
def kindsPartsRow : OpenClaim := { program := "ytgoihhnfkoklpaa", sum := "39c902c1bfa704993fb7b972d2cba87dadbcc477231e37ce3b3b8e79928e13fa", func := "quintain/quintainlaw04.KindsParts", spec := "kindsParts", unfollowed := true, recurses := true, apart := false }
def KindsPartsSaid : Prop := kindsPartsRow.holds Try.pinned (OpenSpec.ofChange kindsPartsSpec)

/-- ITS FALSE NEIGHBOUR: 'it returns false'. Refute it at one input. -/
def kindsPartsWrong : ChangeSpec := { name := "kindsParts", fn := fun _ => fun
  | [d1, d2] => { results := [.lit (.bool false)], args := [d1, d2] }
  | _ => none }
def KindsPartsWrongFalsely : Prop := kindsPartsRow.holds Try.pinned (OpenSpec.ofChange kindsPartsWrong)

/-- 'quintainlaw04.KindsEqual': WHATEVER THE INPUT: true; the input reads as it did. -/
def kindsEqualSpec : ChangeSpec := { name := "kindsEqual", fn := fun _ => fun
  | [d1, d2, d3] => { results := [.lit (.bool true)], args := [d1, d2, d3] }
  | _ => none }
def kindsEqualRow : OpenClaim := { program := "ytgoihhnfkoklpaa", sum := "39c902c1bfa704993fb7b972d2cba87dadbcc477231e37ce3b3b8e79928e13fa", func := "quintain/quintainlaw04.KindsEqual", spec := "kindsEqual", unfollowed := true, recurses := true, apart := false }
def KindsEqualSaid : Prop := kindsEqualRow.holds Try.pinned (OpenSpec.ofChange kindsEqualSpec)

/-- ITS FALSE NEIGHBOUR: 'it returns false'. Refute it at one input. -/
def kindsEqualWrong : ChangeSpec := { name := "kindsEqual", fn := fun _ => fun
  | [d1, d2, d3] => { results := [.lit (.bool false)], args := [d1, d2, d3] }
  | _ => none }
def KindsEqualWrongFalsely : Prop := kindsEqualRow.holds Try.pinned (OpenSpec.ofChange kindsEqualWrong)

/-- 'quintainlaw04.KindsNamed': WHATEVER THE INPUT: true; the input reads as it did. -/
def kindsNamedSpec : ChangeSpec := { name := "kindsNamed", fn := fun _ => fun
  | [d1, d2, d3] => { results := [.lit (.bool true)], args := [d1, d2, d3] }
  | _ => none }
def kindsNamedRow : OpenClaim := { program := "ytgoihhnfkoklpaa", sum := "39c902c1bfa704993fb7b972d2cba87dadbcc477231e37ce3b3b8e79928e13fa", func := "quintain/quintainlaw04.KindsNamed", spec := "kindsNamed", unfollowed := true, recurses := true, apart := false }
def KindsNamedSaid : Prop := kindsNamedRow.holds Try.pinned (OpenSpec.ofChange kindsNamedSpec)

/-- ITS FALSE NEIGHBOUR: 'it returns false'. Refute it at one input. -/
def kindsNamedWrong : ChangeSpec := { name := "kindsNamed", fn := fun _ => fun
  | [d1, d2, d3] => { results := [.lit (.bool false)], args := [d1, d2, d3] }
  | _ => none }
def KindsNamedWrongFalsely : Prop := kindsNamedRow.holds Try.pinned (OpenSpec.ofChange kindsNamedWrong)

/-- 'quintainlaw05.EvalRight': WHATEVER THE INPUT: true; the input reads as it did. -/
def evalRightSpec : ChangeSpec := { name := "evalRight", fn := fun _ => fun
  | [d] => { results := [.lit (.bool true)], args := [d] }
  | _ => none }
def evalRightRow : OpenClaim := { program := "ytgoihhnfkoklpaa", sum := "39c902c1bfa704993fb7b972d2cba87dadbcc477231e37ce3b3b8e79928e13fa", func := "quintain/quintainlaw05.EvalRight", spec := "evalRight", unfollowed := true, recurses := true, apart := false }
def EvalRightSaid : Prop := evalRightRow.holds Try.pinned (OpenSpec.ofChange evalRightSpec)

/-- ITS FALSE NEIGHBOUR: 'it returns false'. Refute it at one input. -/
def evalRightWrong : ChangeSpec := { name := "evalRight", fn := fun _ => fun
  | [d] => { results := [.lit (.bool false)], args := [d] }
  | _ => none }
def EvalRightWrongFalsely : Prop := evalRightRow.holds Try.pinned (OpenSpec.ofChange evalRightWrong)

/-- 'quintainlaw05.EvalOf': WHATEVER THE INPUT: true; the input reads as it did. -/
def evalOfSpec : ChangeSpec := { name := "evalOf", fn := fun _ => fun
  | [d1, d2] => { results := [.lit (.bool true)], args := [d1, d2] }
  | _ => none }
def evalOfRow : OpenClaim := { program := "ytgoihhnfkoklpaa", sum := "39c902c1bfa704993fb7b972d2cba87dadbcc477231e37ce3b3b8e79928e13fa", func := "quintain/quintainlaw05.EvalOf", spec := "evalOf", unfollowed := true, recurses := true, apart := false }
def EvalOfSaid : Prop := evalOfRow.holds Try.pinned (OpenSpec.ofChange evalOfSpec)

/-- ITS FALSE NEIGHBOUR: 'it returns false'. Refute it at one input. -/
def evalOfWrong : ChangeSpec := { name := "evalOf", fn := fun _ => fun
  | [d1, d2] => { results := [.lit (.bool false)], args := [d1, d2] }
  | _ => none }
def EvalOfWrongFalsely : Prop := evalOfRow.holds Try.pinned (OpenSpec.ofChange evalOfWrong)

/-- 'quintainlaw05.EvalKinds': WHATEVER THE INPUT: true; the input reads as it did. -/
def evalKindsSpec : ChangeSpec := { name := "evalKinds", fn := fun _ => fun
  | [d1, d2] => { results := [.lit (.bool true)], args := [d1, d2] }
  | _ => none }
def evalKindsRow : OpenClaim := { program := "ytgoihhnfkoklpaa", sum := "39c902c1bfa704993fb7b972d2cba87dadbcc477231e37ce3b3b8e79928e13fa", func := "quintain/quintainlaw05.EvalKinds", spec := "evalKinds", unfollowed := true, recurses := true, apart := false }
def EvalKindsSaid : Prop := evalKindsRow.holds Try.pinned (OpenSpec.ofChange evalKindsSpec)

/-- ITS FALSE NEIGHBOUR: 'it returns false'. Refute it at one input. -/
def evalKindsWrong : ChangeSpec := { name := "evalKinds", fn := fun _ => fun
  | [d1, d2] => { results := [.lit (.bool false)], args := [d1, d2] }
  | _ => none }
def EvalKindsWrongFalsely : Prop := evalKindsRow.holds Try.pinned (OpenSpec.ofChange evalKindsWrong)

/-- 'quintainlaw05.EvalJoins': WHATEVER THE INPUT: true; the input reads as it did. -/
def evalJoinsSpec : ChangeSpec := { name := "evalJoins", fn := fun _ => fun
  | [d1, d2, d3] => { results := [.lit (.bool true)], args := [d1, d2, d3] }
  | _ => none }
def evalJoinsRow : OpenClaim := { program := "ytgoihhnfkoklpaa", sum := "39c902c1bfa704993fb7b972d2cba87dadbcc477231e37ce3b3b8e79928e13fa", func := "quintain/quintainlaw05.EvalJoins", spec := "evalJoins", unfollowed := true, recurses := true, apart := false }
def EvalJoinsSaid : Prop := evalJoinsRow.holds Try.pinned (OpenSpec.ofChange evalJoinsSpec)

/-- ITS FALSE NEIGHBOUR: 'it returns false'. Refute it at one input. -/
def evalJoinsWrong : ChangeSpec := { name := "evalJoins", fn := fun _ => fun
  | [d1, d2, d3] => { results := [.lit (.bool false)], args := [d1, d2, d3] }
  | _ => none }
def EvalJoinsWrongFalsely : Prop := evalJoinsRow.holds Try.pinned (OpenSpec.ofChange evalJoinsWrong)

/-- 'quintainlaw05.EvalOrder': WHATEVER THE INPUT: true; the input reads as it did. -/
def evalOrderSpec : ChangeSpec := { name := "evalOrder", fn := fun _ => fun
  | [d1, d2, d3] => { results := [.lit (.bool true)], args := [d1, d2, d3] }
  | _ => none }
def evalOrderRow : OpenClaim := { program := "ytgoihhnfkoklpaa", sum := "39c902c1bfa704993fb7b972d2cba87dadbcc477231e37ce3b3b8e79928e13fa", func := "quintain/quintainlaw05.EvalOrder", spec := "evalOrder", unfollowed := true, recurses := true, apart := false }
def EvalOrderSaid : Prop := evalOrderRow.holds Try.pinned (OpenSpec.ofChange evalOrderSpec)

/-- ITS FALSE NEIGHBOUR: 'it returns false'. Refute it at one input. -/
def evalOrderWrong : ChangeSpec := { name := "evalOrder", fn := fun _ => fun
  | [d1, d2, d3] => { results := [.lit (.bool false)], args := [d1, d2, d3] }
  | _ => none }
def EvalOrderWrongFalsely : Prop := evalOrderRow.holds Try.pinned (OpenSpec.ofChange evalOrderWrong)

/-- 'quintainlaw05.EvalIn': WHATEVER THE INPUT: true; the input reads as it did. -/
def evalInSpec : ChangeSpec := { name := "evalIn", fn := fun _ => fun
  | [d1, d2, d3] => { results := [.lit (.bool true)], args := [d1, d2, d3] }
  | _ => none }
def evalInRow : OpenClaim := { program := "ytgoihhnfkoklpaa", sum := "39c902c1bfa704993fb7b972d2cba87dadbcc477231e37ce3b3b8e79928e13fa", func := "quintain/quintainlaw05.EvalIn", spec := "evalIn", unfollowed := true, recurses := true, apart := false }
def EvalInSaid : Prop := evalInRow.holds Try.pinned (OpenSpec.ofChange evalInSpec)

/-- ITS FALSE NEIGHBOUR: 'it returns false'. Refute it at one input. -/
def evalInWrong : ChangeSpec := { name := "evalIn", fn := fun _ => fun
  | [d1, d2, d3] => { results := [.lit (.bool false)], args := [d1, d2, d3] }
  | _ => none }
def EvalInWrongFalsely : Prop := evalInRow.holds Try.pinned (OpenSpec.ofChange evalInWrong)

/- THE SECOND FORM. 'bulk': how many values and letters a reading holds, each counted each time it is reached (what is shared counts as often as it is met; a slice's spare places count too). A statement '..UptoSaid' is the law's where the arguments, and the package variables that the reading takes, are together of bulk at most 1048576: NARROWER than '..Said'. Prove '..Said' where nothing that the law and all that it calls make is longer than what came in: it says more and counts as full. Else prove '..UptoSaid'. A law counts once. -/
mutual
def uptoBulk {H : Type} : DataW H → Nat
  | .lit (.string bytes) => bytes.length + 1
  | .lit _ => 1
  | .nil => 1
  | .ptr d => uptoBulk d + 1
  | .slice elems spare => uptoBulkAll elems + uptoBulkAll spare + 1
  | .agg parts => uptoBulkAll parts + 1
  | .iface _ d => uptoBulk d + 1
  | .map entries => uptoBulkEntries entries + 1
  | .held _ => 1
def uptoBulkAll {H : Type} : List (DataW H) → Nat
  | [] => 0
  | d :: r => uptoBulk d + uptoBulkAll r
def uptoBulkEntries {H : Type} : List (Lit × DataW H) → Nat
  | [] => 0
  | x :: r => uptoBulkEntry x + uptoBulkEntries r
def uptoBulkEntry {H : Type} : Lit × DataW H → Nat
  | (.string bytes, d) => bytes.length + uptoBulk d + 1
  | (_, d) => uptoBulk d + 1
 end
def uptoSmall : (H : Type) → List (DataW H) → Bool := fun _ ds => decide (uptoBulkAll ds ≤ 1048576)
def OpenSpec.upto (s : _root_.Go.ChangeSpec) : _root_.Go.OpenSpec := { _root_.Go.OpenSpec.ofChange s with cond := some uptoSmall }

/-- 'quintainlaw04.KindsOf', WHERE WHAT IT READS IS OF BULK AT MOST 1048576: true; the input reads as it did. -/
def kindsOfUptoRow : OpenClaim := { program := "ytgoihhnfkoklpaa", sum := "39c902c1bfa704993fb7b972d2cba87dadbcc477231e37ce3b3b8e79928e13fa", func := "quintain/quintainlaw04.KindsOf", spec := "kindsOf", unfollowed := true, recurses := true, apart := false, narrowed := true }
def KindsOfUptoSaid : Prop := kindsOfUptoRow.holds Try.pinned (OpenSpec.upto kindsOfSpec)

/-- 'quintainlaw04.KindsMore', WHERE WHAT IT READS IS OF BULK AT MOST 1048576: true; the input reads as it did. -/
def kindsMoreUptoRow : OpenClaim := { program := "ytgoihhnfkoklpaa", sum := "39c902c1bfa704993fb7b972d2cba87dadbcc477231e37ce3b3b8e79928e13fa", func := "quintain/quintainlaw04.KindsMore", spec := "kindsMore", unfollowed := true, recurses := true, apart := false, narrowed := true }
def KindsMoreUptoSaid : Prop := kindsMoreUptoRow.holds Try.pinned (OpenSpec.upto kindsMoreSpec)

/-- 'quintainlaw04.KindsParts', WHERE WHAT IT READS IS OF BULK AT MOST 1048576: true; the input reads as it did. -/
def kindsPartsUptoRow : OpenClaim := { program := "ytgoihhnfkoklpaa", sum := "39c902c1bfa704993fb7b972d2cba87dadbcc477231e37ce3b3b8e79928e13fa", func := "quintain/quintainlaw04.KindsParts", spec := "kindsParts", unfollowed := true, recurses := true, apart := false, narrowed := true }
def KindsPartsUptoSaid : Prop := kindsPartsUptoRow.holds Try.pinned (OpenSpec.upto kindsPartsSpec)

/-- 'quintainlaw04.KindsEqual', WHERE WHAT IT READS IS OF BULK AT MOST 1048576: true; the input reads as it did. -/
def kindsEqualUptoRow : OpenClaim := { program := "ytgoihhnfkoklpaa", sum := "39c902c1bfa704993fb7b972d2cba87dadbcc477231e37ce3b3b8e79928e13fa", func := "quintain/quintainlaw04.KindsEqual", spec := "kindsEqual", unfollowed := true, recurses := true, apart := false, narrowed := true }
def KindsEqualUptoSaid : Prop := kindsEqualUptoRow.holds Try.pinned (OpenSpec.upto kindsEqualSpec)

/-- 'quintainlaw04.KindsNamed', WHERE WHAT IT READS IS OF BULK AT MOST 1048576: true; the input reads as it did. -/
def kindsNamedUptoRow : OpenClaim := { program := "ytgoihhnfkoklpaa", sum := "39c902c1bfa704993fb7b972d2cba87dadbcc477231e37ce3b3b8e79928e13fa", func := "quintain/quintainlaw04.KindsNamed", spec := "kindsNamed", unfollowed := true, recurses := true, apart := false, narrowed := true }
def KindsNamedUptoSaid : Prop := kindsNamedUptoRow.holds Try.pinned (OpenSpec.upto kindsNamedSpec)

/-- 'quintainlaw05.EvalRight', WHERE WHAT IT READS IS OF BULK AT MOST 1048576: true; the input reads as it did. -/
def evalRightUptoRow : OpenClaim := { program := "ytgoihhnfkoklpaa", sum := "39c902c1bfa704993fb7b972d2cba87dadbcc477231e37ce3b3b8e79928e13fa", func := "quintain/quintainlaw05.EvalRight", spec := "evalRight", unfollowed := true, recurses := true, apart := false, narrowed := true }
def EvalRightUptoSaid : Prop := evalRightUptoRow.holds Try.pinned (OpenSpec.upto evalRightSpec)

/-- 'quintainlaw05.EvalOf', WHERE WHAT IT READS IS OF BULK AT MOST 1048576: true; the input reads as it did. -/
def evalOfUptoRow : OpenClaim := { program := "ytgoihhnfkoklpaa", sum := "39c902c1bfa704993fb7b972d2cba87dadbcc477231e37ce3b3b8e79928e13fa", func := "quintain/quintainlaw05.EvalOf", spec := "evalOf", unfollowed := true, recurses := true, apart := false, narrowed := true }
def EvalOfUptoSaid : Prop := evalOfUptoRow.holds Try.pinned (OpenSpec.upto evalOfSpec)

/-- 'quintainlaw05.EvalKinds', WHERE WHAT IT READS IS OF BULK AT MOST 1048576: true; the input reads as it did. -/
def evalKindsUptoRow : OpenClaim := { program := "ytgoihhnfkoklpaa", sum := "39c902c1bfa704993fb7b972d2cba87dadbcc477231e37ce3b3b8e79928e13fa", func := "quintain/quintainlaw05.EvalKinds", spec := "evalKinds", unfollowed := true, recurses := true, apart := false, narrowed := true }
def EvalKindsUptoSaid : Prop := evalKindsUptoRow.holds Try.pinned (OpenSpec.upto evalKindsSpec)

/-- 'quintainlaw05.EvalJoins', WHERE WHAT IT READS IS OF BULK AT MOST 1048576: true; the input reads as it did. -/
def evalJoinsUptoRow : OpenClaim := { program := "ytgoihhnfkoklpaa", sum := "39c902c1bfa704993fb7b972d2cba87dadbcc477231e37ce3b3b8e79928e13fa", func := "quintain/quintainlaw05.EvalJoins", spec := "evalJoins", unfollowed := true, recurses := true, apart := false, narrowed := true }
def EvalJoinsUptoSaid : Prop := evalJoinsUptoRow.holds Try.pinned (OpenSpec.upto evalJoinsSpec)

/-- 'quintainlaw05.EvalOrder', WHERE WHAT IT READS IS OF BULK AT MOST 1048576: true; the input reads as it did. -/
def evalOrderUptoRow : OpenClaim := { program := "ytgoihhnfkoklpaa", sum := "39c902c1bfa704993fb7b972d2cba87dadbcc477231e37ce3b3b8e79928e13fa", func := "quintain/quintainlaw05.EvalOrder", spec := "evalOrder", unfollowed := true, recurses := true, apart := false, narrowed := true }
def EvalOrderUptoSaid : Prop := evalOrderUptoRow.holds Try.pinned (OpenSpec.upto evalOrderSpec)

/-- 'quintainlaw05.EvalIn', WHERE WHAT IT READS IS OF BULK AT MOST 1048576: true; the input reads as it did. -/
def evalInUptoRow : OpenClaim := { program := "ytgoihhnfkoklpaa", sum := "39c902c1bfa704993fb7b972d2cba87dadbcc477231e37ce3b3b8e79928e13fa", func := "quintain/quintainlaw05.EvalIn", spec := "evalIn", unfollowed := true, recurses := true, apart := false, narrowed := true }
def EvalInUptoSaid : Prop := evalInUptoRow.holds Try.pinned (OpenSpec.upto evalInSpec)

end Rows
end Go.Proofs.Ytgoihhnfkoklpaa

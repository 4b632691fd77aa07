/- Contracts: law 4's helpers. Conditions: none. -/
import Derived.Test.YtgoihhnfkoklpaaFnF
import Derived.Test.YtgoihhnfkoklpaaEngO
namespace Go.Proofs.Ytgoihhnfkoklpaa
open Go Go.Sy
set_option maxRecDepth 100000
theorem cell_one {l : List Cell} : ∀ r ∈ l.map Cell.row, ∀ u ∈ r, u.oneCell' = true := by
  intro r hr u hu
  obtain ⟨c, _, rfl⟩ := List.mem_map.1 hr
  simp only [Cell.row, List.mem_cons, List.not_mem_nil, or_false] at hu
  rcases hu with rfl | rfl | rfl <;> rfl

theorem copied_spec (l : List Cell) (v : Value) (H : Mem) (hv : SliceH H 3 v (l.map Cell.row)) (h1 : l.length ≤ maxLen) (h2 : l.length * 32 ≤ 140737488355328) :
    SpecM Try.prog 15 [v] H (fun H' u => SliceH H' 3 u (l.map Cell.row)) := by
  refine SpecM.of Try.func15 (body_some (by kernel_rfl)) (by kernel_rfl) fun w0 => ?_
  refine J.go TabOk.nil Try.func15 1000 (t := (Tree.stop [PI.ops [(1 : Nat), (0 : Nat)] (2 : Nat), PI.code [(1 : Nat), (1 : Nat)]] { n := (6 : Nat), fr := [((2 : Nat), SV.c (SC.val (Value.slice none (0 : Nat) (0 : Nat)))), ((3 : Nat), SV.c (SC.own (0 : Nat))), ((4 : Nat), SV.c (SC.val v))], ck := [Chunk.own (38 : Nat) (3 : Nat) (0 : Nat) []] })) (by kernel_rfl) ?_
  refine J.appendH (dst := some 5) (kk := 0) (e := 38) (sz := 3) (n := 0) (bytes := 32) (xs := []) (by kernel_rfl) hv cell_one (by simpa using h1) (by simpa using h2) (by kernel_rfl) ?_
  refine J.go TabOk.nil Try.func15 1000 (t := (Tree.ret (SV.c (SC.own (1 : Nat))) { n := (6 : Nat), fr := [], ck := [Chunk.dead, Chunk.own (38 : Nat) (3 : Nat) ((0 : Nat) + List.length (List.map Cell.row l)) ([] ++ List.flatten (List.map Cell.row l))] })) (by kernel_rfl) ?_
  refine Tree.J.specOwn (sz := 3) rfl (l.map Cell.row) (by simp) ?_ (by simp) fun H' v _ h => h
  intro r hr
  obtain ⟨c, _, rfl⟩ := List.mem_map.1 hr
  rfl
def wCells : List Cell := [⟨5, 0, [120]⟩, ⟨1, 1, []⟩, ⟨18, 0, []⟩]
def wVars : List Var := [⟨[120], 1, 0, 0, ⟨0, 0, 0⟩⟩]
theorem wakesFour_spec (H : Mem) : Spec0 Try.prog 17 [] H (.bool true) := by
  refine Spec0.of Try.func17 (body_some (by kernel_rfl)) (by kernel_rfl) fun w0 => ?_
  refine J.go TabOk.nil Try.func17 1000 (t := (Tree.stop [PI.ops [(1 : Nat), (1 : Nat), (1 : Nat), (0 : Nat)] (2 : Nat), PI.code [(1 : Nat), (1 : Nat), (1 : Nat), (1 : Nat)]] { n := (34 : Nat), fr := [((0 : Nat), SV.c (SC.val (Value.bool false))), ((2 : Nat), SV.c (SC.own (1 : Nat))), ((14 : Nat), SV.c (SC.own (1 : Nat))), ((15 : Nat), SV.c (SC.own (0 : Nat)))], ck := [Chunk.own (44 : Nat) (7 : Nat) (1 : Nat) [Value.string { data := #[(120 : UInt8)] }, Value.int IntKind.i64 (1 : Int), Value.int IntKind.i64 (0 : Int), Value.int IntKind.i64 (0 : Int), Value.int IntKind.i64 (0 : Int), Value.int IntKind.i64 (0 : Int), Value.int IntKind.i64 (0 : Int)], Chunk.own (38 : Nat) (3 : Nat) (3 : Nat) [Value.int IntKind.i64 (5 : Int), Value.int IntKind.i64 (0 : Int), Value.string { data := #[(120 : UInt8)] }, Value.int IntKind.i64 (1 : Int), Value.int IntKind.i64 (1 : Int), Value.string { data := #[] }, Value.int IntKind.i64 (18 : Int), Value.int IntKind.i64 (0 : Int), Value.string { data := #[] }]], kn := [(0 : Nat)] })) (by kernel_rfl) ?_
  refine J.freeze (i := 0) (sz := 7) (n := 1) (rows := wVars.map Var.row) (by kernel_rfl) rfl (by intro r hr; obtain ⟨c, _, rfl⟩ := List.mem_map.1 hr; rfl) rfl fun vx H1 hle1 hx => ?_
  refine J.freeze (i := 1) (sz := 3) (n := 3) (rows := wCells.map Cell.row) (by kernel_rfl) rfl (by intro r hr; obtain ⟨c, _, rfl⟩ := List.mem_map.1 hr; rfl) rfl fun vl H2 hle2 hl => ?_
  refine J.call0 (dst := some 16) (g := 14) (vs := [vl, vx, .slice none 0 0]) (by kernel_rfl) (by kernel_rfl) (kinds_spec wCells wVars [] vl vx (.slice none 0 0) H2 hl (by decide) (by decide) (hx.mono hle2) (.inl ⟨rfl, rfl⟩)) (by kernel_rfl) ?_
  refine J.go TabOk.nil Try.func17 1000 (t := (Tree.stop [PI.ops [(1 : Nat), (1 : Nat), (1 : Nat), (1 : Nat), (0 : Nat)] (1 : Nat), PI.code [(1 : Nat), (1 : Nat), (1 : Nat), (1 : Nat), (1 : Nat)]] { n := (34 : Nat), fr := [((0 : Nat), SV.c (SC.val (Value.bool false))), ((3 : Nat), SV.c (SC.val (Value.int IntKind.i64 (2 : Int)))), ((4 : Nat), SV.c (SC.val (Value.int IntKind.i64 (0 : Int)))), ((20 : Nat), SV.c (SC.val vl))], ck := [], kn := [(0 : Nat)] })) (by kernel_rfl) ?_
  refine J.call0 (dst := some 21) (g := 14) (vs := [vl, .slice none 0 0, .slice none 0 0]) (by kernel_rfl) (by kernel_rfl) (kinds_spec wCells [] [] vl (.slice none 0 0) (.slice none 0 0) H2 hl (by decide) (by decide) (.inl ⟨rfl, rfl⟩) (.inl ⟨rfl, rfl⟩)) (by kernel_rfl) ?_
  refine J.go TabOk.nil Try.func17 1000 (t := (Tree.ret (SV.c (SC.val (Value.bool true))) { n := (34 : Nat), fr := [], ck := [] })) (by kernel_rfl) ?_
  exact Tree.J.val rfl
end Go.Proofs.Ytgoihhnfkoklpaa

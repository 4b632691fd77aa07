/- From a row that lists the library's tables to what the walks ask; a world for the witness. Conditions: none. -/
import Derived.Test.YtndkapkejmkphaaDoorCards
import Derived.Test.YtndkapkejmkphaaDoorTie
import Derived.Test.YtndkapkejmkphaaDoorGa
import Derived.Deep.DeepHandedRow
import Derived.Lib.LaidTab
import Derived.LaidSub
import Derived.Stop.LaidErr
import Derived.MakeChecks
import Derived.Shelf.Vars
import Derived.Lib.LaidU8
import Derived.Test.YtndkapkejmkphaaDoorRn
namespace Go.Proofs.YtndkapkejmkphaaDoor
open Go Go.Ev Go.RowKit Go.ChangeShapes Go.WideShapes Go.ChangeAt
set_option maxRecDepth 100000
theorem own : ownKnob Tryd.prog.godebug = none := by kernel_rfl
theorem laidOut : laidOutB Tryd.prog = true := by kernel_rfl
theorem mvar_of {P : Program} {W : World} {name : String} {cs : Array Value} (h : W.var? P name = some cs) : MVar P (HW W) name cs := by
  unfold World.var? at h
  cases hg : P.globalNamed name with
  | none => rw [hg] at h; simp at h
  | some g =>
    rw [hg] at h
    simp only [Option.bind_some] at h
    split at h
    · rename_i c e fr hb
      simp only [Option.some.injEq] at h
      subst h
      exact ⟨g, e, fr, hg, hb⟩
    · cases h
abbrev textRange : ByteArray := ⟨#[118, 97, 108, 117, 101, 32, 111, 117, 116, 32, 111, 102, 32, 114, 97, 110, 103, 101]⟩
abbrev textSyntax : ByteArray := ⟨#[105, 110, 118, 97, 108, 105, 100, 32, 115, 121, 110, 116, 97, 120]⟩
theorem errRow (u : TypeId) (h : Tryd.prog.typeName? 3 u = some "*errors.errorString") : u = 96 :=
  typeName_ptr_named (nm := "errors.errorString") (by rw [show ("*" ++ "errors.errorString" : String) = "*errors.errorString" by kernel_rfl]; kernel_rfl) (by kernel_rfl) (by decide) u (by rw [show ("*" ++ "errors.errorString" : String) = "*errors.errorString" by kernel_rfl]; exact h)
theorem merr_of {W : World} {n : String} {text : List UInt8} {l : List (String × DataW Unit)} (h : laidMetH Tryd.prog l W) (e : (l.filter fun x => x.1 == n) = [(n, .iface "*errors.errorString" (.ptr (.agg [.lit (.string text)])))]) (ht : (Tryd.prog.globals[(Tryd.prog.globalNamed n).getD 0]?).map (·.type) = some 35) (hg : (Tryd.prog.globalNamed n).isSome = true) : MErr Tryd.prog (HW W) n := fun _ => by
  have h1 := laidMetH.filter (fun x => x.1 == n) h
  rw [e, MakeChecks.laidMetH_plain _ _ _ (by rfl)] at h1
  obtain ⟨g, hg⟩ := Option.isSome_iff_exists.1 hg
  rw [hg] at ht
  obtain ⟨a0, s0, hv0, -, -, -⟩ := laid_sentinel h1 hg ht Tryd.underlying35 errRow Tryd.underlying96 Tryd.underlying98 rfl rfl Tryd.underlying9 (by kernel_rfl) (by kernel_rfl)
  exact ⟨_, _, mvar_of hv0⟩
theorem maxlen_of {W : World} (h : W.ShapedOpen Tryd.prog) : MInt Tryd.prog (HW W) "internal/bytealg.MaxLen" := fun _ => by
  obtain ⟨m, hm⟩ : ∃ m, W.cell? ⟨0, 0, none⟩ = some (.int .i64 m) := Go.Proofs.cell_of_shapedOpen_int (zero := #[.int .i64 0]) (t := 3) h (of_decide_eq_true (by kernel_rfl)) (by kernel_rfl) rfl (by kernel_rfl) (by kernel_rfl) Tryd.underlying3
  unfold World.cell? at hm
  split at hm
  · split at hm
    · cases hm
    · rename_i cs e fr hb _
      exact ⟨0, cs, e, fr, m, by kernel_rfl, hb, hm⟩
  · cases hm
theorem mvar_mem {W : World} {name : String} {cs : Array Value} {g : Nat} (hg : Tryd.prog.globalNamed name = some g) (h : W.var? Tryd.prog name = some cs) : ∃ e fr, HW W g = some (.cells cs e fr) := by
  obtain ⟨g', e, fr, h1, h2⟩ := mvar_of h
  obtain rfl := Option.some.inj (hg.symm.trans h1)
  exact ⟨e, fr, h2⟩
theorem mu8_of {W : World} (h : laidMetH Tryd.prog Rows.planeReadsRow.laid W) : MU8 Tryd.prog (HW W) := fun _ => by
  have h1 := laidMetH.filter (fun x => x.1 == "unicode/utf8.first" || x.1 == "unicode/utf8.acceptRanges") h
  have e : (Rows.planeReadsRow.laid.filter fun x => x.1 == "unicode/utf8.first" || x.1 == "unicode/utf8.acceptRanges") = [("unicode/utf8.acceptRanges", Lib.acceptData), ("unicode/utf8.first", Lib.firstData)] := by kernel_rfl
  rw [e, MakeChecks.laidMetH_plain _ _ _ (by kernel_rfl)] at h1
  have r3 := Lib.laidMet.reads h1 (n := "unicode/utf8.first") (d := Lib.firstData) (List.mem_cons_of_mem _ (List.mem_cons_self ..))
  have r4 := Lib.laidMet.reads h1 (n := "unicode/utf8.acceptRanges") (d := Lib.acceptData) (List.mem_cons_self ..)
  have ut := utf8Tabs_of_reads slowLays u8x r3 r4
  obtain ⟨g3, t3, cs, _, _, a1, _, a3, _⟩ := r3
  obtain ⟨g4, t4, cs', _, _, b1, _, b3, _⟩ := r4
  obtain rfl := Option.some.inj (u8x.n3.symm.trans a1)
  obtain rfl := Option.some.inj (u8x.n4.symm.trans b1)
  obtain ⟨e3, f3, m3⟩ := mvar_mem a1 a3
  obtain ⟨e4, f4, m4⟩ := mvar_mem b1 b3
  refine ⟨_, cs, e3, f3, _, cs', e4, f4, a1, m3, b1, m4, fun c hc => ?_, fun i hi => ⟨?_, ?_⟩⟩
  · rw [← World.var?_cell a1 a3 c]; exact ut.1 c hc
  · rw [← World.var?_cell b1 b3 (2 * i)]; exact (ut.2 i hi).1
  · rw [← World.var?_cell b1 b3 (2 * i + 1)]; exact (ut.2 i hi).2
theorem tabs7 {W : World} (h : laidMetH Tryd.prog Rows.planeReadsRow.laid W) (hs : W.ShapedOpen Tryd.prog) : Tabs Tryd.prog (HW W) := by
  refine ⟨fun _ => ?_, merr_of (text := textSyntax.data.toList) h (by kernel_rfl) (by kernel_rfl) (by kernel_rfl), merr_of (text := textRange.data.toList) h (by kernel_rfl) (by kernel_rfl) (by kernel_rfl), maxlen_of hs, mu8_of h⟩
  have h1 := laidMetH.filter (fun x => x.1 == "internal/strconv.uint64pow10") h
  have e : (Rows.planeReadsRow.laid.filter fun x => x.1 == "internal/strconv.uint64pow10") = [("internal/strconv.uint64pow10", Lib.tabData .u64 Lib.pow10Tab)] := by kernel_rfl
  rw [e] at h1
  have ht : (Tryd.prog.globals[(Tryd.prog.globalNamed "internal/strconv.uint64pow10").getD 0]?).map (·.type) = some 100 := by kernel_rfl
  exact mvar_of (Lib.tabIs_of_head (rest := []) (g := (Tryd.prog.globalNamed "internal/strconv.uint64pow10").getD 0) (by kernel_rfl) ht Tryd.underlying100 Tryd.underlying71 (by kernel_rfl) (by kernel_rfl) h1)
noncomputable def litCell : DataW Unit → List Value
  | .lit (.int k z) => [Value.int k z]
  | .agg [.lit (.int k z), .lit (.int k' z')] => [Value.int k z, Value.int k' z']
  | _ => []
noncomputable def tabCells : DataW Unit → Array Value
  | .agg ds => (ds.flatMap litCell).toArray
  | _ => #[]
noncomputable def layCells (name : String) (cs : Array Value) (heap : Array Obj) : Array Obj := heap.modify ((Tryd.prog.globalNamed name).getD 0) fun
  | .cells _ t frozen => .cells cs t frozen
  | o => o
noncomputable def layTab (name : String) (d : DataW Unit) (heap : Array Obj) : Array Obj := layCells name (tabCells d) heap
noncomputable def low : Nat := (World.holding Tryd.prog default ⟨#[], #[], []⟩).heap.size
noncomputable def world2 (os : Os) : World := World.holding Tryd.prog os ⟨#[.cells #[.string textRange] 98, .cells #[.string textSyntax] 98], #[], []⟩
noncomputable def laidWorld (os : Os) : World :=
  { world2 os with heap := layCells "strconv.ErrRange" #[.iface 96 (.pointer (some ⟨low, 0, none⟩))] (layCells "strconv.ErrSyntax" #[.iface 96 (.pointer (some ⟨low + 1, 0, none⟩))] (layTab "unicode/utf8.first" Rows.laid_unicode_utf8_first (layTab "unicode/utf8.acceptRanges" Rows.laid_unicode_utf8_acceptRanges (layTab "internal/strconv.uint64pow10" Rows.laid_internal_strconv_uint64pow10 (layTab "math/bits.deBruijn64tab" Rows.laid_math_bits_deBruijn64tab (layTab "math/bits.deBruijn32tab" Rows.laid_math_bits_deBruijn32tab (world2 os).heap)))))) }
theorem string9 {Hh : Type} {enc : TypeId × Value → Hh} {W : World} {base : Nat} {spare : Nat → Bool} {held : Bool} {v : Value} {d : DataW Hh} {ps : List MemPlace} {b0 : Nat} (h : DataW.Trod enc Tryd.prog W base spare held 9 v d ps) (hv : Value.okWide Tryd.prog W .any b0 9 v) :
    ∃ s : Str, SX.R (VW W) (.c (.pd (.str s))) v ∧ d = .lit (.string s) := by
  have hv' : Cell.okWide Tryd.prog W .any b0 9 v := by simpa only [Value.okWide, Tryd.underlying9] using hv
  obtain ⟨fuel, hf⟩ := h
  have hc : v.cells.toList = [v] := by
    have hv2 := hv'
    simp only [Cell.okWide, Tryd.underlying9, Cell.ok] at hv2
    cases v <;> first | rfl | exact hv2.elim
  rw [hc] at hf
  obtain ⟨s, h1, h2⟩ := DataW.trod_string Tryd.underlying9 hf
  simp only [List.cons.injEq, and_true] at h1
  subst h1
  refine ⟨s.data.toList, ?_, ?_⟩
  · have : PR (HW W) (.str s.data.toList) (.string (bs s.data.toList)) := .str _
    rw [bs_eta] at this
    exact this
  · exact congrArg Prod.fst h2.1
end Go.Proofs.YtndkapkejmkphaaDoor

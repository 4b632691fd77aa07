/- From a call's contract to a law's row: arguments opened, the row shut. Conditions: each theorem's own. From a row that lists the library's tables to what the walks ask; a world for the witness. Conditions: none. Lists of cells among the laws' arguments. Conditions: none. -/
import Derived.Test.YtjndellhebidoaaDoorDa
import Derived.ProofKit
import Derived.Deep.Slices
import Derived.SizedLaws
import Derived.Test.YtjndellhebidoaaDoorCards
import Derived.Test.YtjndellhebidoaaDoorTie
import Derived.Deep.DeepHandedRow
import Derived.Lib.LaidTab
import Derived.LaidSub
import Derived.Stop.LaidErr
import Derived.MakeChecks
namespace Go.Ev
open Go.RowKit Go.ChangeShapes Go.WideShapes

def HW (W : World) : Mem := fun k => W.heap[k]?
def VW (W : World) : Vn := ⟨HW W, fun _ => 0, fun _ => undef⟩
theorem wok_entry (W : World) : WOk (entry [] (VW W) W) [] (VW W) W where
  ext := Fr.refl _ _
  imm := fun _ _ h => h
  hle := HLe.refl _
  frz := fun _ h => .inl h
  agr := fun i hi => absurd hi (Nat.not_lt_zero _)
  own := fun i c h => by simp at h
  base := fun i c b h => by simp at h
  inj := fun i j c d b h => by simp at h
/-- A contract with nothing lent, at a law's world. -/
theorem Does.law {P : Program} {f : FuncId} {args : List SX} {b : Bool} (h : Does P f args [] (.x (.c (.pd (.bool b)))) []) {W : World} (hT : Tabs P (HW W)) {vs : List Value} (hvs : All2 (SX.R (VW W)) args vs) :
    Calls P f vs.toArray W (fun e W' => e = .returned (.bool b) ∧ Below W.heap.size W W') := by
  refine (h W (VW W) vs (wok_entry W) hT hvs).mono fun e W' hp => ?_
  obtain ⟨v, V', rfl, hr, hw⟩ := hp
  have hr' : PR V'.H (.bool b) v := hr
  cases hr'
  refine ⟨rfl, hw.ext.os, hw.ext.tape, hw.ext.output, hw.ext.size, fun k hk => hw.ext.block k hk ?_⟩
  rintro ⟨i, c, hc, _⟩
  simp [entry] at hc
section
variable {Hh : Type} {enc : TypeId × Value → Hh} {P : Program} {W : World} {base : Nat} {spare : Nat → Bool} {held : Bool}
theorem cell_at {a : Addr} (hs : a.spot = none) {b off : Nat} (hb : a.block = b) (ho : a.off = off) {i : Nat} {u : Value} (h : W.cell? (a.add i) = some u) : ∃ cells e fr, W.heap[b]? = some (.cells cells e fr) ∧ cells[off + i]? = some u := by
  obtain ⟨b', off', sp⟩ := a
  simp only at hs hb ho
  subst hs; subst hb; subst ho
  rw [addr_add] at h
  unfold World.cell? at h
  split at h
  · rename_i c e fr hb
    exact ⟨c, e, fr, hb, by simpa using h⟩
  · cases h
/-- A slice, opened: its elements as data. -/
theorem slice_opened (u : ETy) {Q : u.den → Prop} {t e : TypeId} {fuel : Nat} {v : Value} {x : DataW Hh × List MemPlace} (ht : P.underlying t = some (.slice e)) (hsz : P.cellsOf e = u.size)
    (hel : ∀ n cs y, DataW.trod enc P W base spare held n e cs = some y → ∃ r, All2 (PR (HW W)) (u.enc r) cs ∧ Q r) (h : DataW.trod enc P W base spare held fuel t [v] = some x) (hv : ∃ rr b0, Cell.okWide P W rr b0 t v) :
    ∃ l : List u.den, PR (HW W) (.lst u l) v ∧ (∀ r ∈ l, Q r) ∧ ((x.1.weights P t).all (· ≤ reachBytes) = true → l.length * P.bytesOf e ≤ reachBytes) := by
  obtain ⟨rr, b0, hv⟩ := hv
  rcases Go.Deep.open_slice ht h with ⟨hc, rfl⟩ | ⟨a, len, cap, m, n, D, Pl, hc, _, hl, hm, hmm, rfl, hx⟩
  · simp only [List.cons.injEq, and_true] at hc
    subst hc
    exact ⟨[], .emp u none 0 (fun _ => rfl), by simp, fun _ => by simp⟩
  · simp only [List.cons.injEq, and_true] at hc
    subst hc
    have hs : a.spot = none := by
      simp only [Cell.okWide, ht, Cell.ok] at hv
      exact hv.2.2.2.1
    have hlen : len ≤ m := by rw [hmm]; split <;> omega
    letI : Inhabited u.den := ⟨u.dflt⟩
    obtain ⟨f, hf⟩ := Go.Deep.choose_lt (α := u.den) (n := len) (p := fun i r => (∃ cs, W.cells? base (a.add (i * u.size)) u.size = some cs ∧ All2 (PR (HW W)) (u.enc r) cs) ∧ Q r) (fun i hi => by
      obtain ⟨cs, h1, h2⟩ := hx i (by omega)
      obtain ⟨r, hr, hq⟩ := hel _ _ _ h2
      rw [hsz] at h1
      exact ⟨r, ⟨cs, h1, hr⟩, hq⟩)
    have hfl : ((List.range len).map f).length = len := by simp
    refine ⟨(List.range len).map f, ?_, ?_, ?_⟩
    · rcases Nat.eq_zero_or_pos len with h0 | h0
      · subst h0
        exact .emp u (some a) cap (fun h => by cases h)
      · have hcell : ∀ i, i < len → ∀ j, j < u.size → ∃ w cells e fr, W.heap[a.block]? = some (.cells cells e fr) ∧ cells[a.off + i * u.size + j]? = some w ∧ ∀ p, (u.enc (f i))[j]? = some p → PR (HW W) p w := by
          intro i hi j hj
          obtain ⟨cs, h1, h2⟩ := (hf i hi).1
          obtain ⟨_, hl, hc⟩ := World.cells?_some h1
          have h3 := hc j hj
          obtain ⟨w, hw⟩ : ∃ w, cs[j]? = some w := ⟨cs[j]'(by omega), List.getElem?_eq_getElem (by omega)⟩
          rw [hw] at h3
          have ha : (a.add (i * u.size)).add j = a.add (i * u.size + j) := by rw [Go.Deep.add_add]
          rw [ha] at h3
          obtain ⟨cells, e', fr, hb, h4⟩ := cell_at hs rfl rfl h3
          refine ⟨w, cells, e', fr, hb, by rw [Nat.add_assoc]; exact h4, fun p hp => ?_⟩
          obtain ⟨w', h5, h6⟩ := h2.get hp
          rw [hw, Option.some.injEq] at h5
          rw [h5]; exact h6
        obtain ⟨_, cells, e', fr, hb, _⟩ := hcell 0 h0 0 u.size_pos
        have hbound : a.off + len * u.size ≤ cells.size := by
          obtain ⟨_, cells', e2, fr2, hb', h4, _⟩ := hcell (len - 1) (by omega) (u.size - 1) (by have := u.size_pos; omega)
          rw [hb] at hb'
          simp only [Option.some.injEq, Obj.cells.injEq] at hb'
          obtain ⟨rfl, _, _⟩ := hb'
          have h5 := (Array.getElem?_eq_some_iff.1 h4).1
          have h6 : len * u.size = (len - 1) * u.size + u.size := by
            have : len = (len - 1) + 1 := by omega
            rw [this, Nat.add_mul, Nat.one_mul]; simp
          have := u.size_pos
          omega
        have key : PR (HW W) (.lst u ((List.range len).map f)) (.slice (some ⟨a.block, a.off, none⟩) ((List.range len).map f).length cap) := by
          refine .lst u _ a.block a.off cap cells e' fr hb (by rw [hfl]; exact hl) hm (by rw [hfl]; exact hbound) ?_
          intro i y hy j p hp w hw
          have hi : i < len := by have := (List.getElem?_eq_some_iff.1 hy).1; omega
          simp only [List.getElem?_map, List.getElem?_range hi, Option.map_some, Option.some.injEq] at hy
          subst hy
          have hj : j < u.size := by have := (List.getElem?_eq_some_iff.1 hp).1; rw [u.enc_length] at this; exact this
          obtain ⟨w', cells', e2, fr2, hb', h4, h5⟩ := hcell i hi j hj
          rw [hb] at hb'
          simp only [Option.some.injEq, Obj.cells.injEq] at hb'
          obtain ⟨rfl, _, _⟩ := hb'
          rw [hw, Option.some.injEq] at h4
          rw [h4]; exact h5 p hp
        rw [hfl] at key
        obtain ⟨b, off, sp⟩ := a
        simp only at hs
        subst hs
        exact key
    · intro r hr
      obtain ⟨i, hi, rfl⟩ := List.mem_map.1 hr
      exact (hf i (List.mem_range.1 hi)).2
    · intro hw
      simp only [DataW.weights, ht, List.all_cons, Bool.and_eq_true, decide_eq_true_eq, List.length_map, List.length_range] at hw ⊢
      have := hw.1
      exact Nat.le_trans (Nat.mul_le_mul_right _ (by omega)) this
end
section
variable {Hh : Type} {enc : TypeId × Value → Hh} {P : Program} {W W' : World}
theorem trodAll_below (hl : laidOutB P = true) (hb : Below W.heap.size W W') : ∀ {ts : List TypeId} {vs : List Value} {ds : List (DataW Hh)} {p : List MemPlace}, (∀ t ∈ ts, P.readableRec t = true ∧ t < P.types.size) → (∀ x ∈ p, x.block < W.heap.size) →
    DataW.TrodAll enc P W 0 (fun _ => true) true ts vs ds p → DataW.TrodAll enc P W' 0 (fun b => decide (b < W.heap.size)) true ts vs ds p
  | [], _, _, _, _, _, h => by
    obtain ⟨rfl, rfl, rfl⟩ := trodAll_nil h
    rfl
  | t :: ts, _, _, _, hr, hp, h => by
    obtain ⟨v, vs, d, ds, a, b, rfl, rfl, rfl, h1, h2⟩ := trodAll_cons h
    exact ⟨a, b, Below.trod hl (hr t List.mem_cons_self).1 (hr t List.mem_cons_self).2 h1 hb (fun x hx => hp x (List.mem_append_left _ hx)),
      trodAll_below hl hb (fun u hu => hr u (List.mem_cons_of_mem _ hu)) (fun x hx => hp x (List.mem_append_right _ hx)) h2, rfl⟩
theorem law_post {f : Func} {s : ChangeSpec} {tb : TypeId} {args : Array Value} {ds gs : List (DataW Hh)} {before : List MemPlace} (hl : laidOutB P = true) (hrt : f.resultTypes.toList = [tb]) (hsz : f.resultTypes.size = 1) (htb : P.underlying tb = some .bool) (hvars : s.vars = [])
    (hfn : (s.fn Hh ds).results = [.lit (.bool true)] ∧ (s.fn Hh ds).args = ds ∧ (s.fn Hh ds).vars = []) (hpar : ∀ t ∈ f.params.toList, P.readableRec t = true ∧ t < P.types.size)
    (hW : DataW.Whole enc P f.params.toList s.vars false W args.toList ds gs before) (hb : Below W.heap.size W W') : s.post enc P f false true false false W args (.bool true) W' := by
  have hW' := hW
  obtain ⟨p, q, hA, hV, rfl, hfz, hnd⟩ := hW
  rw [hvars] at hV
  obtain ⟨rfl, rfl⟩ := trodVars_none hV
  rw [List.append_nil] at hW' hfz
  have hlt : ∀ x ∈ p, x.block < W.heap.size := fun x hx => by simpa using hW'.lt x hx
  refine ⟨ds, [], p, [], p, [], hW', ?_, ?_, ?_, ?_, fun h => Bool.noConfusion h⟩
  · rw [List.append_nil, hfn.1, hrt, hsz]
    exact trodAll_mk1 (shut_bool htb _)
  · rw [List.append_nil, hfn.2.1]
    exact trodAll_below hl hb hpar hlt hA
  · rw [List.append_nil, hfn.2.2, hvars]
    rfl
  · exact World.keptBut_mono (fun x hx => ⟨hx, .inr (.inl hx)⟩) (hb.frame _)
end
end Go.Ev
namespace Go.Proofs.YtjndellhebidoaaDoor
open Go Go.Ev Go.RowKit Go.ChangeShapes Go.WideShapes Go.ChangeAt
set_option maxRecDepth 100000
theorem own : ownKnob Tryd.prog.godebug = none := by kernel_rfl
theorem laidOut : laidOutB Tryd.prog = true := by kernel_rfl
theorem mvar_of {P : Program} {W : World} {name : String} {cs : Array Value} (h : W.var? P name = some cs) : MVar P (HW W) name cs := by
  unfold World.var? at h
  cases hg : P.globalNamed name with
  | none => rw [hg] at h; simp at h
  | some g =>
    rw [hg] at h
    simp only [Option.bind_some] at h
    split at h
    · rename_i c e fr hb
      simp only [Option.some.injEq] at h
      subst h
      exact ⟨g, e, fr, hg, hb⟩
    · cases h
abbrev textRange : ByteArray := ⟨#[118, 97, 108, 117, 101, 32, 111, 117, 116, 32, 111, 102, 32, 114, 97, 110, 103, 101]⟩
abbrev textSyntax : ByteArray := ⟨#[105, 110, 118, 97, 108, 105, 100, 32, 115, 121, 110, 116, 97, 120]⟩
theorem errRow (u : TypeId) (h : Tryd.prog.typeName? 3 u = some "*errors.errorString") : u = 133 :=
  typeName_ptr_named (nm := "errors.errorString") (by rw [show ("*" ++ "errors.errorString" : String) = "*errors.errorString" by kernel_rfl]; kernel_rfl) (by kernel_rfl) (by decide) u (by rw [show ("*" ++ "errors.errorString" : String) = "*errors.errorString" by kernel_rfl]; exact h)
/-- An error's variable that a list has at its head. -/
theorem merr_of {W : World} {n : String} {text : List UInt8} {l : List (String × DataW Unit)} (h : laidMetH Tryd.prog l W) (e : (l.filter fun x => x.1 == n) = [(n, .iface "*errors.errorString" (.ptr (.agg [.lit (.string text)])))]) (ht : (Tryd.prog.globals[(Tryd.prog.globalNamed n).getD 0]?).map (·.type) = some 96) (hg : (Tryd.prog.globalNamed n).isSome = true) : MErr Tryd.prog (HW W) n := fun _ => by
  have h1 := laidMetH.filter (fun x => x.1 == n) h
  rw [e, MakeChecks.laidMetH_plain _ _ _ (by rfl)] at h1
  obtain ⟨g, hg⟩ := Option.isSome_iff_exists.1 hg
  rw [hg] at ht
  obtain ⟨a0, s0, hv0, -, -, -⟩ := laid_sentinel h1 hg ht Tryd.underlying96 errRow Tryd.underlying133 Tryd.underlying135 rfl rfl Tryd.underlying9 (by kernel_rfl) (by kernel_rfl)
  exact ⟨_, _, mvar_of hv0⟩
/-- WHAT THE ROW's LIST GIVES: the table of powers of ten; the two errors. -/
theorem tabs7 {W : World} (h : laidMetH Tryd.prog Rows.exprRightRow.laid W) : Tabs Tryd.prog (HW W) := by
  refine ⟨fun _ => ?_, merr_of (text := textSyntax.data.toList) h (by kernel_rfl) (by kernel_rfl) (by kernel_rfl), merr_of (text := textRange.data.toList) h (by kernel_rfl) (by kernel_rfl) (by kernel_rfl)⟩
  have h1 := laidMetH.filter (fun x => x.1 == "internal/strconv.uint64pow10") h
  have e : (Rows.exprRightRow.laid.filter fun x => x.1 == "internal/strconv.uint64pow10") = [("internal/strconv.uint64pow10", Lib.tabData .u64 Lib.pow10Tab)] := by kernel_rfl
  rw [e] at h1
  have ht : (Tryd.prog.globals[(Tryd.prog.globalNamed "internal/strconv.uint64pow10").getD 0]?).map (·.type) = some 86 := by kernel_rfl
  exact mvar_of (Lib.tabIs_of_head (rest := []) (g := (Tryd.prog.globalNamed "internal/strconv.uint64pow10").getD 0) (by kernel_rfl) ht Tryd.underlying86 Tryd.underlying74 (by kernel_rfl) (by kernel_rfl) h1)
noncomputable def litCell : DataW Unit → List Value
  | .lit (.int k z) => [Value.int k z]
  | .agg [.lit (.int k z), .lit (.int k' z')] => [Value.int k z, Value.int k' z']
  | _ => []
noncomputable def tabCells : DataW Unit → Array Value
  | .agg ds => (ds.flatMap litCell).toArray
  | _ => #[]
noncomputable def layCells (name : String) (cs : Array Value) (heap : Array Obj) : Array Obj := heap.modify ((Tryd.prog.globalNamed name).getD 0) fun
  | .cells _ t frozen => .cells cs t frozen
  | o => o
noncomputable def layTab (name : String) (d : DataW Unit) (heap : Array Obj) : Array Obj := layCells name (tabCells d) heap
noncomputable def low : Nat := (World.holding Tryd.prog default ⟨#[], #[], []⟩).heap.size
noncomputable def world2 (os : Os) : World := World.holding Tryd.prog os ⟨#[.cells #[.string textRange] 135, .cells #[.string textSyntax] 135], #[], []⟩
/-- A WORLD FOR THE WITNESS: the settled one, the tables and the errors as their initialisers lay them. -/
noncomputable def laidWorld (os : Os) : World :=
  { world2 os with heap := layCells "strconv.ErrRange" #[.iface 133 (.pointer (some ⟨low, 0, none⟩))] (layCells "strconv.ErrSyntax" #[.iface 133 (.pointer (some ⟨low + 1, 0, none⟩))] (layTab "unicode/utf8.first" Rows.laid_unicode_utf8_first (layTab "unicode/utf8.acceptRanges" Rows.laid_unicode_utf8_acceptRanges (layTab "internal/strconv.uint64pow10" Rows.laid_internal_strconv_uint64pow10 (layTab "math/bits.deBruijn64tab" Rows.laid_math_bits_deBruijn64tab (layTab "math/bits.deBruijn32tab" Rows.laid_math_bits_deBruijn32tab (world2 os).heap)))))) }
theorem one_string {Hh : Type} {enc : TypeId × Value → Hh} {W : World} {base : Nat} {spare : Nat → Bool} {held : Bool} {t : TypeId} (ht : Tryd.prog.underlying t = some .string) {fuel : Nat} {cs : List Value} {y : Option (DataW Hh × List MemPlace)} (h : DataW.trod enc Tryd.prog W base spare held fuel t cs = y) (hy : y.isSome = true) : ∃ s, cs = [.string (bs s)] := by
  obtain ⟨x, rfl⟩ := Option.isSome_iff_exists.1 hy
  obtain ⟨s, h1, _⟩ := DataW.trod_string ht h
  exact ⟨s.data.toList, by rw [h1, bs_eta]⟩
/-- A text argument; its reading. -/
theorem string9 {Hh : Type} {enc : TypeId × Value → Hh} {W : World} {base : Nat} {spare : Nat → Bool} {held : Bool} {v : Value} {d : DataW Hh} {ps : List MemPlace} {b0 : Nat} (h : DataW.Trod enc Tryd.prog W base spare held 9 v d ps) (hv : Value.okWide Tryd.prog W .any b0 9 v) :
    ∃ s : Str, SX.R (VW W) (.c (.pd (.str s))) v ∧ d = .lit (.string s) := by
  have hv' : Cell.okWide Tryd.prog W .any b0 9 v := by simpa only [Value.okWide, Tryd.underlying9] using hv
  obtain ⟨fuel, hf⟩ := h
  have hc : v.cells.toList = [v] := by
    have hv2 := hv'
    simp only [Cell.okWide, Tryd.underlying9, Cell.ok] at hv2
    cases v <;> first | rfl | exact hv2.elim
  rw [hc] at hf
  obtain ⟨s, h1, h2⟩ := DataW.trod_string Tryd.underlying9 hf
  simp only [List.cons.injEq, and_true] at h1
  subst h1
  refine ⟨s.data.toList, ?_, ?_⟩
  · have : PR (HW W) (.str s.data.toList) (.string (bs s.data.toList)) := .str _
    rw [bs_eta] at this
    exact this
  · exact congrArg Prod.fst h2.1
end Go.Proofs.YtjndellhebidoaaDoor
namespace Go.Proofs.YtjndellhebidoaaDoor
open Go Go.Ev Go.RowKit Go.ChangeShapes Go.WideShapes Go.ChangeAt
set_option maxRecDepth 100000
section
variable {Hh : Type} {enc : TypeId × Value → Hh} {W : World} {base : Nat} {spare : Nat → Bool} {held : Bool}
theorem one_int {t : TypeId} {k : IntKind} (ht : Tryd.prog.underlying t = some (.int k)) {fuel : Nat} {cs : List Value} {y : Option (DataW Hh × List MemPlace)} (h : DataW.trod enc Tryd.prog W base spare held fuel t cs = y) (hy : y.isSome = true) : ∃ n, cs = [.int k n] ∧ (Lit.int k n).wf = true := by
  obtain ⟨x, rfl⟩ := Option.isSome_iff_exists.1 hy
  obtain ⟨n, h1, _, h2⟩ := DataW.trod_int ht h
  exact ⟨n, h1, h2⟩
theorem cell_opened (n : Nat) (cs : List Value) (y : DataW Hh × List MemPlace) (h : DataW.trod enc Tryd.prog W base spare held n 38 cs = some y) : ∃ c : Cell, All2 (PR (HW W)) (ETy.cell.enc c) cs ∧ True := by
  obtain ⟨xs, m, _, rfl, hl, hlen, hf⟩ := DataW.trod_struct Tryd.underlying38 h
  have c38 : Tryd.prog.cellsOf 38 = 3 := by kernel_rfl
  have c1 : Tryd.prog.cellsOf 3 = 1 := by kernel_rfl
  have c2 : Tryd.prog.cellsOf 2 = 1 := by kernel_rfl
  have c9 : Tryd.prog.cellsOf 9 = 1 := by kernel_rfl
  have l3 : xs.length = 3 := hlen
  obtain ⟨a, h0, w0⟩ := one_int Tryd.underlying3 (hf 0 _ rfl) (by rw [List.getElem?_eq_getElem (by omega)]; rfl)
  obtain ⟨b, h1, w1⟩ := one_int Tryd.underlying2 (hf 1 _ rfl) (by rw [List.getElem?_eq_getElem (by omega)]; rfl)
  obtain ⟨s, h2⟩ := one_string Tryd.underlying9 (hf 2 _ rfl) (by rw [List.getElem?_eq_getElem (by omega)]; rfl)
  replace h0 : List.take (Tryd.prog.cellsOf 3) (List.drop 0 cs) = [.int .i64 a] := h0
  replace h1 : List.take (Tryd.prog.cellsOf 2) (List.drop 1 cs) = [.int .i64 b] := h1
  replace h2 : List.take (Tryd.prog.cellsOf 9) (List.drop 2 cs) = [.string (bs s)] := h2
  rw [c38] at hl
  rw [c1] at h0
  rw [c2] at h1
  rw [c9] at h2
  match cs, hl with
  | [u0, u1, u2], _ =>
    simp at h0 h1 h2
    subst h0; subst h1; subst h2
    exact ⟨⟨a, b, s⟩, .cons (.int _ a) (.cons (.int _ b) (.cons (.str s) .nil)), trivial⟩
/-- A list of cells among the arguments; its size. -/
theorem cells_arg {v : Value} {d : DataW Hh} {ps : List MemPlace} {b0 : Nat} (h : DataW.Trod enc Tryd.prog W base spare held 22 v d ps) (hv : Value.okWide Tryd.prog W .any b0 22 v) :
    ∃ l : List Cell, SX.R (VW W) (.c (.pd (.lst .cell l))) v ∧ ((d.weights Tryd.prog 22).all (· ≤ reachBytes) = true → room l.length 32) := by
  have hv' : Cell.okWide Tryd.prog W .any b0 22 v := by simpa only [Value.okWide, Tryd.underlying22] using hv
  obtain ⟨fuel, hf⟩ := h
  have hc : v.cells.toList = [v] := by
    have hv2 := hv'
    simp only [Cell.okWide, Tryd.underlying22, Cell.ok] at hv2
    cases v <;> first | rfl | exact hv2.elim
  rw [hc] at hf
  obtain ⟨l, h1, _, h3⟩ := slice_opened .cell (Q := fun _ => True) Tryd.underlying22 (by kernel_rfl) cell_opened hf ⟨_, _, hv'⟩
  have hb : Tryd.prog.bytesOf 38 = 32 := by kernel_rfl
  rw [hb] at h3
  refine ⟨l, h1, fun hw => ?_⟩
  have h4 := h3 hw
  unfold reachBytes at h4
  exact ⟨by omega, by unfold maxLen; omega⟩
end
end Go.Proofs.YtjndellhebidoaaDoor

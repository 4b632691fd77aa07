/- From a call's contract to a law's row: arguments opened, the row shut. Conditions: each theorem's own. -/
import Derived.Test.YtgoihhnfkoklpaaEngJ
import Derived.ProofKit
import Derived.Deep.Slices
import Derived.SizedLaws
namespace Go.Sy
open Go.RowKit Go.ChangeShapes Go.WideShapes

def HW (W : World) : Mem := fun k => W.heap[k]?
theorem HW_in (W : World) : HIn (HW W) W := fun _ _ h => h
section
variable {Hh : Type} {enc : TypeId × Value → Hh} {P : Program} {W : World} {base : Nat} {spare : Nat → Bool} {held : Bool}
theorem cells_HW {a : Addr} (hs : a.spot = none) {n : Nat} (h0 : 0 < n) {i : Nat} {cs : List Value} (h : W.cells? base (a.add i) n = some cs) : cs.length = n ∧ CellsAt (HW W) a.block (a.off + i) cs := by
  obtain ⟨_, hl, hc⟩ := World.cells?_some h
  refine ⟨hl, ?_⟩
  obtain ⟨b, off, sp⟩ := a
  simp only at hs
  subst hs
  have hadd : ∀ j, ((⟨b, off, none⟩ : Addr).add i).add j = ⟨b, off + i + j, none⟩ := by
    intro j
    rw [Go.Deep.add_add, addr_add]
    simp only [Nat.add_assoc]
  have hcell : ∀ j, j < n → ∃ c e fr, W.heap[b]? = some (.cells c e fr) ∧ c[off + i + j]? = cs[j]? := by
    intro j hj
    have h1 := hc j hj
    rw [hadd] at h1
    have h2 : cs[j]? = some cs[j] := List.getElem?_eq_getElem (by omega)
    rw [h2] at h1 ⊢
    unfold World.cell? at h1
    split at h1
    · rename_i c e fr hb
      exact ⟨c, e, fr, hb, by simpa using h1⟩
    · cases h1
  obtain ⟨c, e, fr, hb, _⟩ := hcell 0 h0
  refine ⟨c, e, fr, hb, fun m u hu => ?_⟩
  have hm : m < n := by have := (List.getElem?_eq_some_iff.1 hu).1; omega
  obtain ⟨c', e', fr', hb', h3⟩ := hcell m hm
  rw [hb] at hb'
  simp only [Option.some.injEq, Obj.cells.injEq] at hb'
  obtain ⟨rfl, _, _⟩ := hb'
  rw [h3, hu]
/-- A slice, opened: its elements as rows. -/
theorem slice_opened {α : Type} [Inhabited α] (row : α → List Value) {Q : α → Prop} {t e : TypeId} {sz : Nat} {fuel : Nat} {v : Value} {x : DataW Hh × List MemPlace} (ht : P.underlying t = some (.slice e)) (hsz : P.cellsOf e = sz) (hpos : 0 < sz)
    (hel : ∀ n cs y, DataW.trod enc P W base spare held n e cs = some y → ∃ r, cs = row r ∧ Q r) (h : DataW.trod enc P W base spare held fuel t [v] = some x) {rr : Reach} {b0 : Nat} (hv : Cell.okWide P W rr b0 t v) :
    ∃ l : List α, SliceH (HW W) sz v (l.map row) ∧ (∀ r ∈ l, Q r) ∧ ((x.1.weights P t).all (· ≤ reachBytes) = true → l.length * P.bytesOf e ≤ reachBytes) := by
  subst hsz
  rcases Go.Deep.open_slice ht h with ⟨hc, rfl⟩ | ⟨a, len, cap, m, n, D, Pl, hc, _, hl, hm, hmm, rfl, hx⟩
  · simp only [List.cons.injEq, and_true] at hc
    exact ⟨[], .inl ⟨hc, rfl⟩, by simp, fun _ => by simp⟩
  · simp only [List.cons.injEq, and_true] at hc
    subst hc
    have hs : a.spot = none := by
      simp only [Cell.okWide, ht, Cell.ok] at hv
      exact hv.2.2.2.1
    have hlen : len ≤ m := by rw [hmm]; split <;> omega
    obtain ⟨f, hf⟩ := Go.Deep.choose_lt (α := α) (n := len) (p := fun i r => W.cells? base (a.add (i * P.cellsOf e)) (P.cellsOf e) = some (row r) ∧ Q r) (fun i hi => by
      obtain ⟨cs, h1, h2⟩ := hx i (by omega)
      obtain ⟨r, rfl, hq⟩ := hel _ _ _ h2
      exact ⟨r, h1, hq⟩)
    refine ⟨(List.range len).map f, .inr ⟨a.block, a.off, cap, ?_, ?_, hm, ?_⟩, ?_, ?_⟩
    · obtain ⟨b, off, sp⟩ := a
      simp only at hs
      subst hs
      simp
    · simpa using hl
    · intro j r hj
      have hjl : j < len := by have := (List.getElem?_eq_some_iff.1 hj).1; simpa using this
      simp only [List.map_map, List.getElem?_map, List.getElem?_range hjl, Option.map_some, Function.comp, Option.some.injEq] at hj
      subst hj
      exact cells_HW hs hpos (hf j hjl).1
    · intro r hr
      obtain ⟨i, hi, rfl⟩ := List.mem_map.1 hr
      exact (hf i (List.mem_range.1 hi)).2
    · intro hw
      simp only [DataW.weights, ht, List.all_cons, Bool.and_eq_true, decide_eq_true_eq, List.length_map, List.length_range] at hw ⊢
      have := hw.1
      exact Nat.le_trans (Nat.mul_le_mul_right _ (by omega)) this
end
section
variable {Hh : Type} {enc : TypeId × Value → Hh} {P : Program} {W W' : World}
theorem trodAll_below (hl : laidOutB P = true) (hb : Below W.heap.size W W') : ∀ {ts : List TypeId} {vs : List Value} {ds : List (DataW Hh)} {p : List MemPlace}, (∀ t ∈ ts, P.readableRec t = true ∧ t < P.types.size) → (∀ x ∈ p, x.block < W.heap.size) →
    DataW.TrodAll enc P W 0 (fun _ => true) true ts vs ds p → DataW.TrodAll enc P W' 0 (fun b => decide (b < W.heap.size)) true ts vs ds p
  | [], _, _, _, _, _, h => by
    obtain ⟨rfl, rfl, rfl⟩ := trodAll_nil h
    rfl
  | t :: ts, _, _, _, hr, hp, h => by
    obtain ⟨v, vs, d, ds, a, b, rfl, rfl, rfl, h1, h2⟩ := trodAll_cons h
    exact ⟨a, b, Below.trod hl (hr t List.mem_cons_self).1 (hr t List.mem_cons_self).2 h1 hb (fun x hx => hp x (List.mem_append_left _ hx)),
      trodAll_below hl hb (fun u hu => hr u (List.mem_cons_of_mem _ hu)) (fun x hx => hp x (List.mem_append_right _ hx)) h2, rfl⟩
theorem law_post {f : Func} {s : ChangeSpec} {tb : TypeId} {args : Array Value} {ds gs : List (DataW Hh)} {before : List MemPlace} (hl : laidOutB P = true) (hrt : f.resultTypes.toList = [tb]) (hsz : f.resultTypes.size = 1) (htb : P.underlying tb = some .bool) (hvars : s.vars = [])
    (hfn : (s.fn Hh ds).results = [.lit (.bool true)] ∧ (s.fn Hh ds).args = ds ∧ (s.fn Hh ds).vars = []) (hpar : ∀ t ∈ f.params.toList, P.readableRec t = true ∧ t < P.types.size)
    (hW : DataW.Whole enc P f.params.toList s.vars false W args.toList ds gs before) (hb : Below W.heap.size W W') : s.post enc P f false true false false W args (.bool true) W' := by
  have hW' := hW
  obtain ⟨p, q, hA, hV, rfl, hfz, hnd⟩ := hW
  rw [hvars] at hV
  obtain ⟨rfl, rfl⟩ := trodVars_none hV
  rw [List.append_nil] at hW' hfz
  have hlt : ∀ x ∈ p, x.block < W.heap.size := fun x hx => by simpa using hW'.lt x hx
  refine ⟨ds, [], p, [], p, [], hW', ?_, ?_, ?_, ?_, fun h => Bool.noConfusion h⟩
  · rw [List.append_nil, hfn.1, hrt, hsz]
    exact trodAll_mk1 (shut_bool htb _)
  · rw [List.append_nil, hfn.2.1]
    exact trodAll_below hl hb hpar hlt hA
  · rw [List.append_nil, hfn.2.2, hvars]
    rfl
  · exact World.keptBut_mono (fun x hx => ⟨hx, .inr (.inl hx)⟩) (hb.frame _)
end
end Go.Sy

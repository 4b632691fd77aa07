/- The law ExprShows. Conditions: the list's size. From a call's contract to a law's row: arguments opened, the row shut. Conditions: each theorem's own. -/
import Derived.Test.YtjndellhebidoaaDoorOf
import Derived.Test.YtjndellhebidoaaDoorOg
import Derived.Test.YtjndellhebidoaaDoorPR
import Derived.ProofKit
import Derived.Deep.Slices
import Derived.SizedLaws
namespace Go.Proofs.YtjndellhebidoaaDoor
open Go Go.Ev
set_option maxRecDepth 100000
def eRsh1 : Nat × (List SX → List Chunk → Option (Option Prop × SV × List Chunk)) := (14, fun
  | [.c (.pd (.lst .cell l))], [] => some (some (rightM l = true), .tup [.c (.pd (.str (showM l))), .c (.pd (.int .i64 0))], [])
  | _, _ => none)
theorem eRsh1_ok (vs : List SX) (ck : List Chunk) (p : Option Prop) (ret : SV) (ck' : List Chunk) (h : eRsh1.2 vs ck = some (p, ret, ck')) (hp : Holds p) : Does Tryd.prog eRsh1.1 vs ck ret ck' := by
  unfold eRsh1 at h
  simp only at h
  split at h
  · rename_i l
    simp only [Option.some.injEq, Prod.mk.injEq] at h
    obtain ⟨rfl, rfl, rfl⟩ := h
    exact ref_show_ok l hp
  · simp at h
def eRsh0 : Nat × (List SX → List Chunk → Option (Option Prop × SV × List Chunk)) := (14, fun
  | [.c (.pd (.lst .cell l))], [] => some (some (rightM l = false), .tup [.c (.pd (.str [])), .c (.pd (.int .i64 1))], [])
  | _, _ => none)
theorem eRsh0_ok (vs : List SX) (ck : List Chunk) (p : Option Prop) (ret : SV) (ck' : List Chunk) (h : eRsh0.2 vs ck = some (p, ret, ck')) (hp : Holds p) : Does Tryd.prog eRsh0.1 vs ck ret ck' := by
  unfold eRsh0 at h
  simp only at h
  split at h
  · rename_i l
    simp only [Option.some.injEq, Prod.mk.injEq] at h
    obtain ⟨rfl, rfl, rfl⟩ := h
    exact ref_show_bad l hp
  · simp at h
def cfgSh1 : Cfg := ⟨tys0, [eWks, eCpd, eShow1, eRsh1]⟩
theorem cfgSh1_ok : TabOk Tryd.prog cfgSh1.tab := (TabOk.cons eWks_ok (TabOk.cons eCpd_ok (TabOk.cons eShow1_ok (TabOk.cons eRsh1_ok TabOk.nil))))
def cfgSh0 : Cfg := ⟨tys0, [eWks, eCpd, eShow0, eRsh0]⟩
theorem cfgSh0_ok : TabOk Tryd.prog cfgSh0.tab := (TabOk.cons eWks_ok (TabOk.cons eCpd_ok (TabOk.cons eShow0_ok (TabOk.cons eRsh0_ok TabOk.nil))))
theorem expr_shows_spec (l : List Cell) (hr : room l.length 32) : Does Tryd.prog 4 [.l .cell l] [] (.x (.b true)) [] := by
  by_cases h : rightM l = true
  · refine Does.go (cfg := cfgSh1) cfgSh1_ok Tryd.func4 (by kernel_rfl) (by kernel_rfl) (t := (Tree.need (room (List.length l) (32 : Nat)) (Tree.need (rightM l = true) (Tree.need (rightM l = true) (Tree.ret (SV.x (SX.c (SC.pd (PD.bool (true && showM l == showM l && (0 : Int) == (0 : Int)))))) []))))) (by kernel_rfl) fun Γ => ?_
    exact ⟨hr, h, h, by simp, rfl⟩
  · have h' : rightM l = false := by simpa using h
    refine Does.go (cfg := cfgSh0) cfgSh0_ok Tryd.func4 (by kernel_rfl) (by kernel_rfl) (t := (Tree.need (room (List.length l) (32 : Nat)) (Tree.need (rightM l = false) (Tree.need (rightM l = false) (Tree.ret (SV.x (SX.c (SC.pd (PD.bool true)))) []))))) (by kernel_rfl) fun Γ => ?_
    exact ⟨hr, h', h', by simp, rfl⟩
end Go.Proofs.YtjndellhebidoaaDoor
namespace Go.Ev
open Go.RowKit Go.ChangeShapes Go.WideShapes

def HW (W : World) : Mem := fun k => W.heap[k]?
def VW (W : World) : Vn := ⟨HW W, fun _ => 0, fun _ => undef⟩
theorem wok_entry (W : World) : WOk (entry [] (VW W) W) [] (VW W) W where
  ext := Fr.refl _ _
  imm := fun _ _ h => h
  hle := HLe.refl _
  frz := fun _ h => .inl h
  agr := fun i hi => absurd hi (Nat.not_lt_zero _)
  own := fun i c h => by simp at h
  base := fun i c b h => by simp at h
  inj := fun i j c d b h => by simp at h
/-- A contract with nothing lent, at a law's world. -/
theorem Does.law {P : Program} {f : FuncId} {args : List SX} {b : Bool} (h : Does P f args [] (.x (.c (.pd (.bool b)))) []) {W : World} (hT : Tabs P (HW W)) {vs : List Value} (hvs : All2 (SX.R (VW W)) args vs) :
    Calls P f vs.toArray W (fun e W' => e = .returned (.bool b) ∧ Below W.heap.size W W') := by
  refine (h W (VW W) vs (wok_entry W) hT hvs).mono fun e W' hp => ?_
  obtain ⟨v, V', rfl, hr, hw⟩ := hp
  have hr' : PR V'.H (.bool b) v := hr
  cases hr'
  refine ⟨rfl, hw.ext.os, hw.ext.tape, hw.ext.output, hw.ext.size, fun k hk => hw.ext.block k hk ?_⟩
  rintro ⟨i, c, hc, _⟩
  simp [entry] at hc
section
variable {Hh : Type} {enc : TypeId × Value → Hh} {P : Program} {W : World} {base : Nat} {spare : Nat → Bool} {held : Bool}
theorem cell_at {a : Addr} (hs : a.spot = none) {b off : Nat} (hb : a.block = b) (ho : a.off = off) {i : Nat} {u : Value} (h : W.cell? (a.add i) = some u) : ∃ cells e fr, W.heap[b]? = some (.cells cells e fr) ∧ cells[off + i]? = some u := by
  obtain ⟨b', off', sp⟩ := a
  simp only at hs hb ho
  subst hs; subst hb; subst ho
  rw [addr_add] at h
  unfold World.cell? at h
  split at h
  · rename_i c e fr hb
    exact ⟨c, e, fr, hb, by simpa using h⟩
  · cases h
/-- A slice, opened: its elements as data. -/
theorem slice_opened (u : ETy) {Q : u.den → Prop} {t e : TypeId} {fuel : Nat} {v : Value} {x : DataW Hh × List MemPlace} (ht : P.underlying t = some (.slice e)) (hsz : P.cellsOf e = u.size)
    (hel : ∀ n cs y, DataW.trod enc P W base spare held n e cs = some y → ∃ r, All2 (PR (HW W)) (u.enc r) cs ∧ Q r) (h : DataW.trod enc P W base spare held fuel t [v] = some x) (hv : ∃ rr b0, Cell.okWide P W rr b0 t v) :
    ∃ l : List u.den, PR (HW W) (.lst u l) v ∧ (∀ r ∈ l, Q r) ∧ ((x.1.weights P t).all (· ≤ reachBytes) = true → l.length * P.bytesOf e ≤ reachBytes) := by
  obtain ⟨rr, b0, hv⟩ := hv
  rcases Go.Deep.open_slice ht h with ⟨hc, rfl⟩ | ⟨a, len, cap, m, n, D, Pl, hc, _, hl, hm, hmm, rfl, hx⟩
  · simp only [List.cons.injEq, and_true] at hc
    subst hc
    exact ⟨[], .emp u none 0 (fun _ => rfl), by simp, fun _ => by simp⟩
  · simp only [List.cons.injEq, and_true] at hc
    subst hc
    have hs : a.spot = none := by
      simp only [Cell.okWide, ht, Cell.ok] at hv
      exact hv.2.2.2.1
    have hlen : len ≤ m := by rw [hmm]; split <;> omega
    letI : Inhabited u.den := ⟨u.dflt⟩
    obtain ⟨f, hf⟩ := Go.Deep.choose_lt (α := u.den) (n := len) (p := fun i r => (∃ cs, W.cells? base (a.add (i * u.size)) u.size = some cs ∧ All2 (PR (HW W)) (u.enc r) cs) ∧ Q r) (fun i hi => by
      obtain ⟨cs, h1, h2⟩ := hx i (by omega)
      obtain ⟨r, hr, hq⟩ := hel _ _ _ h2
      rw [hsz] at h1
      exact ⟨r, ⟨cs, h1, hr⟩, hq⟩)
    have hfl : ((List.range len).map f).length = len := by simp
    refine ⟨(List.range len).map f, ?_, ?_, ?_⟩
    · rcases Nat.eq_zero_or_pos len with h0 | h0
      · subst h0
        exact .emp u (some a) cap (fun h => by cases h)
      · have hcell : ∀ i, i < len → ∀ j, j < u.size → ∃ w cells e fr, W.heap[a.block]? = some (.cells cells e fr) ∧ cells[a.off + i * u.size + j]? = some w ∧ ∀ p, (u.enc (f i))[j]? = some p → PR (HW W) p w := by
          intro i hi j hj
          obtain ⟨cs, h1, h2⟩ := (hf i hi).1
          obtain ⟨_, hl, hc⟩ := World.cells?_some h1
          have h3 := hc j hj
          obtain ⟨w, hw⟩ : ∃ w, cs[j]? = some w := ⟨cs[j]'(by omega), List.getElem?_eq_getElem (by omega)⟩
          rw [hw] at h3
          have ha : (a.add (i * u.size)).add j = a.add (i * u.size + j) := by rw [Go.Deep.add_add]
          rw [ha] at h3
          obtain ⟨cells, e', fr, hb, h4⟩ := cell_at hs rfl rfl h3
          refine ⟨w, cells, e', fr, hb, by rw [Nat.add_assoc]; exact h4, fun p hp => ?_⟩
          obtain ⟨w', h5, h6⟩ := h2.get hp
          rw [hw, Option.some.injEq] at h5
          rw [h5]; exact h6
        obtain ⟨_, cells, e', fr, hb, _⟩ := hcell 0 h0 0 u.size_pos
        have hbound : a.off + len * u.size ≤ cells.size := by
          obtain ⟨_, cells', e2, fr2, hb', h4, _⟩ := hcell (len - 1) (by omega) (u.size - 1) (by have := u.size_pos; omega)
          rw [hb] at hb'
          simp only [Option.some.injEq, Obj.cells.injEq] at hb'
          obtain ⟨rfl, _, _⟩ := hb'
          have h5 := (Array.getElem?_eq_some_iff.1 h4).1
          have h6 : len * u.size = (len - 1) * u.size + u.size := by
            have : len = (len - 1) + 1 := by omega
            rw [this, Nat.add_mul, Nat.one_mul]; simp
          have := u.size_pos
          omega
        have key : PR (HW W) (.lst u ((List.range len).map f)) (.slice (some ⟨a.block, a.off, none⟩) ((List.range len).map f).length cap) := by
          refine .lst u _ a.block a.off cap cells e' fr hb (by rw [hfl]; exact hl) hm (by rw [hfl]; exact hbound) ?_
          intro i y hy j p hp w hw
          have hi : i < len := by have := (List.getElem?_eq_some_iff.1 hy).1; omega
          simp only [List.getElem?_map, List.getElem?_range hi, Option.map_some, Option.some.injEq] at hy
          subst hy
          have hj : j < u.size := by have := (List.getElem?_eq_some_iff.1 hp).1; rw [u.enc_length] at this; exact this
          obtain ⟨w', cells', e2, fr2, hb', h4, h5⟩ := hcell i hi j hj
          rw [hb] at hb'
          simp only [Option.some.injEq, Obj.cells.injEq] at hb'
          obtain ⟨rfl, _, _⟩ := hb'
          rw [hw, Option.some.injEq] at h4
          rw [h4]; exact h5 p hp
        rw [hfl] at key
        obtain ⟨b, off, sp⟩ := a
        simp only at hs
        subst hs
        exact key
    · intro r hr
      obtain ⟨i, hi, rfl⟩ := List.mem_map.1 hr
      exact (hf i (List.mem_range.1 hi)).2
    · intro hw
      simp only [DataW.weights, ht, List.all_cons, Bool.and_eq_true, decide_eq_true_eq, List.length_map, List.length_range] at hw ⊢
      have := hw.1
      exact Nat.le_trans (Nat.mul_le_mul_right _ (by omega)) this
end
section
variable {Hh : Type} {enc : TypeId × Value → Hh} {P : Program} {W W' : World}
theorem trodAll_below (hl : laidOutB P = true) (hb : Below W.heap.size W W') : ∀ {ts : List TypeId} {vs : List Value} {ds : List (DataW Hh)} {p : List MemPlace}, (∀ t ∈ ts, P.readableRec t = true ∧ t < P.types.size) → (∀ x ∈ p, x.block < W.heap.size) →
    DataW.TrodAll enc P W 0 (fun _ => true) true ts vs ds p → DataW.TrodAll enc P W' 0 (fun b => decide (b < W.heap.size)) true ts vs ds p
  | [], _, _, _, _, _, h => by
    obtain ⟨rfl, rfl, rfl⟩ := trodAll_nil h
    rfl
  | t :: ts, _, _, _, hr, hp, h => by
    obtain ⟨v, vs, d, ds, a, b, rfl, rfl, rfl, h1, h2⟩ := trodAll_cons h
    exact ⟨a, b, Below.trod hl (hr t List.mem_cons_self).1 (hr t List.mem_cons_self).2 h1 hb (fun x hx => hp x (List.mem_append_left _ hx)),
      trodAll_below hl hb (fun u hu => hr u (List.mem_cons_of_mem _ hu)) (fun x hx => hp x (List.mem_append_right _ hx)) h2, rfl⟩
theorem law_post {f : Func} {s : ChangeSpec} {tb : TypeId} {args : Array Value} {ds gs : List (DataW Hh)} {before : List MemPlace} (hl : laidOutB P = true) (hrt : f.resultTypes.toList = [tb]) (hsz : f.resultTypes.size = 1) (htb : P.underlying tb = some .bool) (hvars : s.vars = [])
    (hfn : (s.fn Hh ds).results = [.lit (.bool true)] ∧ (s.fn Hh ds).args = ds ∧ (s.fn Hh ds).vars = []) (hpar : ∀ t ∈ f.params.toList, P.readableRec t = true ∧ t < P.types.size)
    (hW : DataW.Whole enc P f.params.toList s.vars false W args.toList ds gs before) (hb : Below W.heap.size W W') : s.post enc P f false true false false W args (.bool true) W' := by
  have hW' := hW
  obtain ⟨p, q, hA, hV, rfl, hfz, hnd⟩ := hW
  rw [hvars] at hV
  obtain ⟨rfl, rfl⟩ := trodVars_none hV
  rw [List.append_nil] at hW' hfz
  have hlt : ∀ x ∈ p, x.block < W.heap.size := fun x hx => by simpa using hW'.lt x hx
  refine ⟨ds, [], p, [], p, [], hW', ?_, ?_, ?_, ?_, fun h => Bool.noConfusion h⟩
  · rw [List.append_nil, hfn.1, hrt, hsz]
    exact trodAll_mk1 (shut_bool htb _)
  · rw [List.append_nil, hfn.2.1]
    exact trodAll_below hl hb hpar hlt hA
  · rw [List.append_nil, hfn.2.2, hvars]
    rfl
  · exact World.keptBut_mono (fun x hx => ⟨hx, .inr (.inl hx)⟩) (hb.frame _)
end
end Go.Ev
